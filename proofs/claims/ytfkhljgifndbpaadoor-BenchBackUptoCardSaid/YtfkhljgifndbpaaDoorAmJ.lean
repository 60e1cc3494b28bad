/-
  The abstract machine, part J: slicing, append and copy are sound. For any program.
-/
import Derived.Test.YtfkhljgifndbpaaDoorAmI
namespace Go.Am

section
variable {P : Program} {prot : Nat → Prop} {B w : World} {ι : Inj} {H : Heap} {env : Env} {a : Act} {K : Value → Heap → Prop}

theorem slLow_inv {u : Option Value} {u' : Option Value} (hv : (u = none ∧ u' = none) ∨ ∃ x x', u = some x ∧ u' = some x' ∧ VRel (tags H) ι x x') {K : Nat → Prop} (h : slLow u K) :
    (u' = none ∧ K 0) ∨ ∃ k i, u' = some (.int k i) ∧ 0 ≤ i ∧ K i.toNat := by
  rcases hv with ⟨rfl, rfl⟩ | ⟨x, x', rfl, rfl, hx⟩
  · exact .inl ⟨rfl, h⟩
  · obtain ⟨k, i, rfl, rfl, h1⟩ := intK_inv (K := fun _ i => if 0 ≤ i then K i.toNat else False) h hx
    by_cases hi : 0 ≤ i
    · rw [if_pos hi] at h1; exact .inr ⟨k, i, rfl, hi, h1⟩
    · rw [if_neg hi] at h1; exact h1.elim
theorem slHigh_inv {u : Option Value} {u' : Option Value} (hv : (u = none ∧ u' = none) ∨ ∃ x x', u = some x ∧ u' = some x' ∧ VRel (tags H) ι x x') {n : Nat} {K : Nat → Prop} (h : slHigh u n K) :
    (u' = none ∧ K n) ∨ ∃ k i, u' = some (.int k i) ∧ 0 ≤ i ∧ K i.toNat := by
  rcases hv with ⟨rfl, rfl⟩ | ⟨x, x', rfl, rfl, hx⟩
  · exact .inl ⟨rfl, h⟩
  · obtain ⟨k, i, rfl, rfl, h1⟩ := intK_inv (K := fun _ i => if 0 ≤ i then K i.toNat else False) h hx
    by_cases hi : 0 ≤ i
    · rw [if_pos hi] at h1; exact .inr ⟨k, i, rfl, hi, h1⟩
    · rw [if_neg hi] at h1; exact h1.elim

theorem run_sliceBound {k : IntKind} {i : Int} {y : Nat} {c : BoundsCode} (h0 : 0 ≤ i) (h : i.toNat ≤ y) (w : World) : (Instr.sliceBound (.int k i) y c).run P w = .ok i.toNat w := by
  have : 0 ≤ i ∧ i ≤ y := by omega
  simp [Instr.sliceBound, asIntOf, this]

/-- The bounds of a slice expression, as the real machine finds them: m' is the real capacity (or the bound that is given), the others are the abstract ones. -/
theorem run_sliceBounds {isSlice : Bool} {n c' l h : Nat} {lo hi mx : Option Value} {m' : Nat}
    (hl : (lo = none ∧ l = 0) ∨ ∃ k i, lo = some (.int k i) ∧ 0 ≤ i ∧ l = i.toNat) (hh : (hi = none ∧ h = n) ∨ ∃ k i, hi = some (.int k i) ∧ 0 ≤ i ∧ h = i.toNat)
    (hm : (mx = none ∧ m' = c') ∨ ∃ k i, mx = some (.int k i) ∧ 0 ≤ i ∧ m' = i.toNat) (hmh : mx.isSome = true → hi.isSome = true) (h1 : l ≤ h) (h2 : h ≤ m') (h3 : m' ≤ c') (w : World) :
    (Instr.sliceBounds isSlice n c' lo hi mx).run P w = .ok (l, h, m') w := by
  rcases hm with ⟨rfl, rfl⟩ | ⟨km, im, rfl, im0, rfl⟩ <;> rcases hh with ⟨rfl, rfl⟩ | ⟨kh, ih, rfl, ih0, rfl⟩ <;> rcases hl with ⟨rfl, rfl⟩ | ⟨kl, il, rfl, il0, rfl⟩
  · simp [Instr.sliceBounds]
  · simp [Instr.sliceBounds, run_sliceBound (P := P) il0 h1 w]
  · simp [Instr.sliceBounds, run_sliceBound (P := P) ih0 h2 w]
  · simp [Instr.sliceBounds, run_sliceBound (P := P) ih0 h2 w, run_sliceBound (P := P) il0 h1 w]
  · exact (by simp at hmh)
  · exact (by simp at hmh)
  · simp [Instr.sliceBounds, run_sliceBound (P := P) im0 h3 w, run_sliceBound (P := P) ih0 h2 w]
  · simp [Instr.sliceBounds, run_sliceBound (P := P) im0 h3 w, run_sliceBound (P := P) ih0 h2 w, run_sliceBound (P := P) il0 h1 w]

theorem evo_rel {x : Option Operand} {v : Option Value} (h : (x = none ∧ v = none) ∨ ∃ y u, x = some y ∧ v = some u ∧ VRel (tags H) ι u (a.eval y)) :
    (v = none ∧ x.map a.eval = none) ∨ ∃ u u', v = some u ∧ x.map a.eval = some u' ∧ VRel (tags H) ι u u' := by
  rcases h with ⟨rfl, rfl⟩ | ⟨y, u, rfl, rfl, h⟩
  · exact .inl ⟨rfl, rfl⟩
  · exact .inr ⟨u, _, rfl, rfl, h⟩

theorem sound_slice (hs : HSim prot B w ι H) (he : EnvOk (tags H) ι env a.tmps) {t e : TypeId} {s : Nat} {x : Operand} {lo hi mx : Option Operand} (hu : P.underlying t = some (.slice e)) (hsz : szOf P e = some s) (hmh : (mx.isSome && hi.isNone) = false)
    (h : opK (.slice s (opd x) (oopt lo) (oopt hi) (oopt mx)) env H K) {o : Oper} (ho : o.op = .slice t x lo hi mx) : RunOut prot B ι H ((execOp a.eval o).run P w) K := by
  obtain ⟨v, h1, h2⟩ := evK_inv he h
  obtain ⟨vl, h3, hvl⟩ := evoK_inv he h1
  obtain ⟨vh, h4, hvh⟩ := evoK_inv he h3
  obtain ⟨vm, h5, hvm⟩ := evoK_inv he h4
  obtain ⟨j, hj, rfl⟩ := szOf_spec hsz
  have rl := evo_rel hvl
  have rh := evo_rel hvh
  have rm := evo_rel hvm
  have hmh' : (mx.map a.eval).isSome = true → (hi.map a.eval).isSome = true := by cases mx <;> cases hi <;> simp at hmh ⊢
  have hrun : ∀ {b : Option Addr} {n c' l h m' : Nat}, a.eval x = .slice b n c' → (Instr.sliceBounds true n c' (lo.map a.eval) (hi.map a.eval) (mx.map a.eval)).run P w = .ok (l, h, m') w →
      (execOp a.eval o).run P w = .ok (.value (.slice (if m' = l then b else b.map (·.add (l * j.size))) (h - l) (m' - l))) w := fun hx hb => by
    simp [execOp, ho, Instr.sliceAt, run_underlying hu, Instr.slice, hx, hb, run_sizeOf' hj]
  rcases sliceK_inv h5 h2 with ⟨rfl, e1, h6⟩ | ⟨p, n, c, g, esz, ro, cs, rfl, hb, hsp, h6, h7⟩
  · rcases slLow_inv rl h6 with ⟨el, h7⟩ | ⟨kl, il, el, il0, h7⟩ <;> rcases slHigh_inv rh h7 with ⟨eh, h8⟩ | ⟨kh, ih, eh, ih0, h8⟩ <;> rcases slHigh_inv rm h8 with ⟨em, h9⟩ | ⟨km, im, em, im0, h9⟩ <;>
      (split at h9 <;> first | exact h9.elim | skip) <;> rename_i hc <;>
      (have hbn := run_sliceBounds (P := P) (isSlice := true) (n := 0) (c' := 0) (l := 0) (h := 0) (m' := 0) (lo := lo.map a.eval) (hi := hi.map a.eval) (mx := mx.map a.eval)
        (by first | exact .inl ⟨el, rfl⟩ | exact .inr ⟨_, _, el, il0, hc.1.symm⟩) (by first | exact .inl ⟨eh, rfl⟩ | exact .inr ⟨_, _, eh, ih0, hc.2.1.symm⟩) (by first | exact .inl ⟨em, rfl⟩ | exact .inr ⟨_, _, em, im0, hc.2.2.symm⟩)
        hmh' (by omega) (by omega) (by omega) w
       exact .same hs (by rw [hrun e1 hbn]; rfl) (.flat rfl) h9)
  · -- what the real capacity is
    have fin : ∀ (l h m : Nat), ((lo.map a.eval = none ∧ l = 0) ∨ ∃ k i, lo.map a.eval = some (.int k i) ∧ 0 ≤ i ∧ l = i.toNat) → ((hi.map a.eval = none ∧ h = n) ∨ ∃ k i, hi.map a.eval = some (.int k i) ∧ 0 ≤ i ∧ h = i.toNat) →
        ((mx.map a.eval = none ∧ m = c) ∨ ∃ k i, mx.map a.eval = some (.int k i) ∧ 0 ≤ i ∧ m = i.toNat) → (l ≤ h ∧ h ≤ m ∧ m ≤ c ∧ (esz = j.size ∨ (esz = 0 ∧ p.off + l * j.size ≤ cs.length))) →
        K (.slice (some ⟨p.block, p.off + l * j.size, p.spot⟩) (h - l) (m - l)) H → RunOut prot B ι H ((execOp a.eval o).run P w) K := by
      intro l h m hl hh hm hc hk
      obtain ⟨c1, c2, c3, c4⟩ := hc
      obtain ⟨pk, po, ps⟩ := p
      simp only at hb hsp h7 hk c4
      subst hsp
      have htag := tag_at hb
      rcases h7 with ⟨L, c', hL, hx, hcc, hr⟩ | ⟨rfl, rfl, b, hx⟩
      · -- the real bound
        obtain ⟨m', hm', hmm, hm3⟩ : ∃ m', ((mx.map a.eval = none ∧ m' = c') ∨ ∃ k i, mx.map a.eval = some (.int k i) ∧ 0 ≤ i ∧ m' = i.toNat) ∧ m ≤ m' ∧ (m' ≤ c' ∧ (m' = m ∨ (m = c ∧ m' = c'))) := by
          rcases hm with ⟨e1, rfl⟩ | ⟨k, i, e1, e2, rfl⟩
          · exact ⟨c', .inl ⟨e1, rfl⟩, hcc, Nat.le_refl _, .inr ⟨rfl, rfl⟩⟩
          · exact ⟨i.toNat, .inr ⟨k, i, e1, e2, rfl⟩, Nat.le_refl _, by omega, .inl rfl⟩
        have hbn := run_sliceBounds (P := P) (isSlice := true) (n := n) (c' := c') hl hh hm' hmh' c1 (Nat.le_trans c2 hmm) hm3.1 w
        have hr1 := hrun hx hbn
        by_cases hml : m' = l
        · rw [if_pos hml] at hr1
          have z1 : h - l = 0 := by omega
          have z2 : m - l = 0 := by omega
          have z3 : m' - l = 0 := by omega
          rw [z1, z2] at hk
          rw [z1, z3] at hr1
          exact .same hs hr1 (.empty htag rfl) hk
        · rw [if_neg hml] at hr1
          simp only [Option.map_some, add_none] at hr1
          refine .same hs hr1 ?_ hk
          have : L.off + po + l * j.size = L.off + (po + l * j.size) := by omega
          rw [this]
          refine .slice htag rfl hL (by omega) ?_
          rcases hm3.2 with e | ⟨e3, e4⟩
          · left; omega
          · subst e3; subst e4
            rcases hr with hr | ⟨r1, r2, r3⟩
            · left; omega
            · by_cases hz : m' - l = m - l
              · exact .inl hz
              · right
                refine ⟨r1, ?_, by omega⟩
                simp only
                rcases c4 with rfl | ⟨rfl, c5⟩
                · rw [Nat.add_assoc, ← Nat.add_mul]
                  have : l + (m' - l) = m' := by omega
                  rw [this]; exact r2
                · obtain ⟨rc, t', fr, _, _, q, _⟩ := hs.row hb hL
                  simp; omega
      · have hl0 : l = 0 := by omega
        have hh0 : h = 0 := by omega
        subst hl0; subst hh0
        have hbn := run_sliceBounds (P := P) (isSlice := true) (n := 0) (c' := 0) (m' := 0) hl hh (by
          rcases hm with ⟨e1, rfl⟩ | ⟨k, i, e1, e2, e3⟩
          · exact .inl ⟨e1, rfl⟩
          · exact .inr ⟨k, i, e1, e2, by omega⟩) hmh' (by omega) (by omega) (by omega) w
        have hr1 := hrun hx hbn
        have z2 : m - 0 = 0 := by omega
        rw [z2] at hk
        exact .same hs hr1 (.empty htag rfl) hk
    rcases slLow_inv rl h6 with ⟨el, h7⟩ | ⟨kl, il, el, il0, h7⟩ <;> rcases slHigh_inv rh h7 with ⟨eh, h8⟩ | ⟨kh, ih, eh, ih0, h8⟩ <;> rcases slHigh_inv rm h8 with ⟨em, h9⟩ | ⟨km, im, em, im0, h9⟩ <;>
      (split at h9 <;> first | exact h9.elim | skip) <;> rename_i hc <;>
      exact fin _ _ _ (by first | exact .inl ⟨el, rfl⟩ | exact .inr ⟨_, _, el, il0, rfl⟩) (by first | exact .inl ⟨eh, rfl⟩ | exact .inr ⟨_, _, eh, ih0, rfl⟩) (by first | exact .inl ⟨em, rfl⟩ | exact .inr ⟨_, _, em, im0, rfl⟩) hc h9

theorem sound_sliceA (hs : HSim prot B w ι H) (he : EnvOk (tags H) ι env a.tmps) {t e : TypeId} {s n : Nat} {x : Operand} {lo hi : Option Operand} (hu : P.underlying t = some (.array n e)) (hsz : szOf P e = some s)
    (h : opK (.sliceA s n (opd x) (oopt lo) (oopt hi)) env H K) {o : Oper} (ho : o.op = .slice t x lo hi none) : RunOut prot B ι H ((execOp a.eval o).run P w) K := by
  obtain ⟨v, h1, h2⟩ := evK_inv he h
  obtain ⟨vl, h3, hvl⟩ := evoK_inv he h1
  obtain ⟨vh, h4, hvh⟩ := evoK_inv he h3
  obtain ⟨p, rfl, h5⟩ := ptrK_inv h4
  obtain ⟨g, esz, ro, cs, hb, hsp, h6⟩ := atK_inv h5
  obtain ⟨L, hL, hx⟩ := ptr_inv h2 hb hsp
  obtain ⟨j, hj, rfl⟩ := szOf_spec hsz
  have rl := evo_rel hvl
  have rh := evo_rel hvh
  have fin : ∀ (l h : Nat), ((lo.map a.eval = none ∧ l = 0) ∨ ∃ k i, lo.map a.eval = some (.int k i) ∧ 0 ≤ i ∧ l = i.toNat) → ((hi.map a.eval = none ∧ h = n) ∨ ∃ k i, hi.map a.eval = some (.int k i) ∧ 0 ≤ i ∧ h = i.toNat) →
      (l ≤ h ∧ h ≤ n ∧ p.off + n * j.size ≤ cs.length) → K (.slice (some ⟨p.block, p.off + l * j.size, p.spot⟩) (h - l) (n - l)) H → RunOut prot B ι H ((execOp a.eval o).run P w) K := by
    intro l h hl hh hc hk
    obtain ⟨c1, c2, c3⟩ := hc
    obtain ⟨pk, po, ps⟩ := p
    simp only at hb hsp hL hk hx
    subst hsp
    have htag := tag_at hb
    have hbn := run_sliceBounds (P := P) (isSlice := false) (n := n) (c' := n) (m' := n) hl hh (mx := none) (.inl ⟨rfl, rfl⟩) (by simp) c1 c2 (Nat.le_refl _) w
    have hr1 : (execOp a.eval o).run P w = .ok (.value (.slice (some (if n = l then ⟨L.blk, L.off + po, none⟩ else (⟨L.blk, L.off + po, none⟩ : Addr).add (l * j.size))) (h - l) (n - l))) w := by
      simp [execOp, ho, Instr.sliceAt, run_underlying hu, Instr.sureAddr, hx, hbn, run_sizeOf' hj]
    by_cases hml : n = l
    · rw [if_pos hml] at hr1
      have z1 : h - l = 0 := by omega
      have z2 : n - l = 0 := by omega
      rw [z1, z2] at hk hr1
      exact .same hs hr1 (.empty htag rfl) hk
    · rw [if_neg hml, add_none] at hr1
      refine .same hs hr1 ?_ hk
      have : L.off + po + l * j.size = L.off + (po + l * j.size) := by omega
      rw [this]
      exact .slice htag rfl hL (Nat.le_refl _) (.inl rfl)
  rcases slLow_inv rl h6 with ⟨el, h7⟩ | ⟨kl, il, el, il0, h7⟩ <;> rcases slHigh_inv rh h7 with ⟨eh, h8⟩ | ⟨kh, ih, eh, ih0, h8⟩ <;>
    (split at h8 <;> first | exact h8.elim | skip) <;> rename_i hc <;>
    exact fin _ _ (by first | exact .inl ⟨el, rfl⟩ | exact .inr ⟨_, _, el, il0, rfl⟩) (by first | exact .inl ⟨eh, rfl⟩ | exact .inr ⟨_, _, eh, ih0, rfl⟩) hc h8

end
end Go.Am
