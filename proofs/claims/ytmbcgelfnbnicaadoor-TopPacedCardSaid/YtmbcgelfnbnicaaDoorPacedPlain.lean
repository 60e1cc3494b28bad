import Derived.Test.YtmbcgelfnbnicaaDoorMePlain
import Derived.Test.YtmbcgelfnbnicaaDoorPcPlain
/- the plain law: what is green can be paced -/
set_option linter.unusedVariables false
namespace Go.Proofs.YtmbcgelfnbnicaaDoor

/-- When the last one ahead of the i-th came. -/
def nowAt (l : List Me.S) : Nat → Int
  | 0 => 0
  | i + 1 => (l.getD i ⟨0, 0⟩).at'
def opsOf (l : List Me.S) (out : List Int) (i : Nat) : List Pc.O :=
  ⟨2, (l.getD i ⟨0, 0⟩).at' - nowAt l i⟩ :: (if out.getD i 0 = 1 then [⟨1, (l.getD i ⟨0, 0⟩).by'⟩, ⟨3, 1073741824⟩] else [])
def opsTo (l : List Me.S) (out : List Int) : Nat → List Pc.O
  | 0 => []
  | i + 1 => opsTo l out i ++ opsOf l out i
theorem opsTo_length (l : List Me.S) (out : List Int) : ∀ i, i ≤ (opsTo l out i).length ∧ (opsTo l out i).length ≤ 3 * i
  | 0 => by simp [opsTo]
  | i + 1 => by
    have := opsTo_length l out i
    simp only [opsTo, opsOf, List.length_append, List.length_cons]
    split <;> simp <;> omega
/-- The meter and the pacer. -/
structure Rel (m : Me.M) (p : Pc.P) (t : Int) : Prop where
  right : m.right
  ex : m.ex = 0
  l : p.l = []
  dr : p.dr = 0
  b : p.b = ⟨m.co, 1, m.bu, m.fi, m.at'⟩
  now : m.at' = t
theorem Rel.step {m : Me.M} {p : Pc.P} {t : Int} {s : Me.S} (h : Rel m p t) (hg : Me.good m s 1) (hb : 1 ≤ s.by' ∧ s.by' ≤ 1500) :
    Rel (Me.next m s).1 (Pc.runP p (⟨2, s.at' - t⟩ :: (if (Me.next m s).2 = 1 then [⟨1, s.by'⟩, ⟨3, 1073741824⟩] else []))) s.at' := by
  obtain ⟨hr, hex, hl, hdr, hpb, hnow⟩ := h
  obtain ⟨pl, pd, pb, ps⟩ := p
  simp only at hl hdr hpb
  subst hl hdr hpb
  have hn := Me.next_step hg
  have hrt := Me.next_good hg
  have hce := Me.come_eq hg
  have hcr := Me.come_range hg
  obtain ⟨_, _, _, g15, g16, _, _⟩ := hg
  have hr' := hr
  obtain ⟨r1, r2, r3, r4, r5, r6, r7, r8, r9, r10, r11, r12⟩ := hr
  have hse : m.se = 0 := by omega
  have hgone : 0 ≤ (s.at' - m.at') * m.co := Int.mul_nonneg (by omega) (by omega)
  have htick : Pc.tickT (⟨m.co, 1, m.bu, m.fi, m.at'⟩ : Pc.Bk) (s.at' - t) = s.at' := by
    unfold Pc.tickT
    simp only
    omega
  have hfil : Pc.filled ⟨m.co, 1, m.bu, m.fi, m.at'⟩ s.at' = ⟨m.co, 1, m.bu, (Me.filled m s).fi, s.at'⟩ := by
    unfold Pc.filled Me.filled
    simp only [Pc.Bk.mk.injEq, true_and, and_true]
    generalize (s.at' - m.at') * m.co = G at *
    generalize Me.come m s = C at *
    omega
  have h1 : Pc.doP ⟨[], 0, ⟨m.co, 1, m.bu, m.fi, m.at'⟩, ps⟩ ⟨2, s.at' - t⟩ = (⟨[], 0, ⟨m.co, 1, m.bu, (Me.filled m s).fi, s.at'⟩, ps⟩, 0, []) := by
    unfold Pc.doP
    simp only
    rw [if_neg (by decide), if_pos trivial, if_pos (by omega), htick, hfil]
  have hfse : (Me.filled m s).se = 0 := by
    unfold Me.filled
    simp only
    generalize (s.at' - m.at') * m.co = G at *
    generalize Me.come m s = C at *
    omega
  by_cases hc : s.by' ≤ (Me.filled m s).fi
  · have e : Me.next m s = ({ Me.filled m s with fi := (Me.filled m s).fi - s.by' }, 1) := by
      unfold Me.next Me.taken
      rw [if_pos ⟨rfl, hc⟩]
    rw [e] at hn hrt ⊢
    simp only [if_true]
    simp only [Pc.runP, h1]
    have h2 : Pc.doP ⟨[], 0, ⟨m.co, 1, m.bu, (Me.filled m s).fi, s.at'⟩, ps⟩ ⟨1, s.by'⟩ = (⟨[s.by'], 0, ⟨m.co, 1, m.bu, (Me.filled m s).fi, s.at'⟩, ps⟩, 0, []) := by
      unfold Pc.doP
      simp only
      rw [if_pos trivial, if_pos (by omega), if_pos (by unfold Pc.P.q Pc.Q.fit; simp; omega)]
      rfl
    rw [h2]
    have h3 : (Pc.doP ⟨[s.by'], 0, ⟨m.co, 1, m.bu, (Me.filled m s).fi, s.at'⟩, ps⟩ ⟨3, 1073741824⟩).1 = ⟨[], 0, ⟨m.co, 1, m.bu, (Me.filled m s).fi - s.by', s.at'⟩, ps + s.by'⟩ := by
      unfold Pc.doP
      simp only
      rw [if_neg (by decide), if_neg (by decide), if_pos trivial, if_pos (by decide)]
      unfold Pc.pollP
      simp only [Pc.pollL]
      rw [if_neg (by omega)]
      simp
    rw [h3]
    exact ⟨hrt, hex, rfl, rfl, rfl, rfl⟩
  · have e : Me.next m s = (Me.filled m s, 3) := by
      unfold Me.next Me.taken
      rw [if_neg (fun h => hc h.2), if_neg (fun h => by omega)]
    rw [e] at hn hrt ⊢
    simp only [show ¬ ((3 : Int) = 1) by decide, if_false]
    simp only [Pc.runP, h1]
    exact ⟨hrt, hex, rfl, rfl, rfl, rfl⟩
/-- All the way. -/
theorem paced {co bu : Int} {l : List Me.S} {out : List Int} {m' : Me.M} (hm : (⟨co, bu, 0, bu, 0, 0⟩ : Me.M).right) (hr : Me.run ⟨co, bu, 0, bu, 0, 0⟩ l = some (out, m')) :
    ∀ i, i ≤ l.length → (∀ j, j < i → 1 ≤ (l.getD j ⟨0, 0⟩).by' ∧ (l.getD j ⟨0, 0⟩).by' ≤ 1500) →
      ∃ x, Me.run x (l.drop i) = some (out.drop i, m') ∧ Rel x (Pc.runP (Pc.p0 co 1 bu) (opsTo l out i)) (nowAt l i)
  | 0, _, _ => ⟨_, hr, hm, rfl, rfl, rfl, by show (⟨co, 1, bu, bu * 1, 0⟩ : Pc.Bk) = _; rw [Int.mul_one], rfl⟩
  | i + 1, hi, hb => by
    obtain ⟨x, h1, h2⟩ := paced hm hr i (by omega) fun j hj => hb j (by omega)
    have e : l.drop i = l.getD i ⟨0, 0⟩ :: l.drop (i + 1) := by
      rw [List.drop_eq_getElem_cons (by omega : i < l.length), List.getD_eq_getElem?_getD, List.getElem?_eq_getElem (by omega : i < l.length)]; rfl
    rw [e, Me.run_cons] at h1
    by_cases hg : Me.good x (l.getD i ⟨0, 0⟩) 1
    · rw [if_pos hg] at h1
      obtain ⟨⟨o, m2⟩, h3, h4⟩ := Option.map_eq_some_iff.1 h1
      simp only [Prod.mk.injEq] at h4
      obtain ⟨h5, rfl⟩ := h4
      have hlen : i < out.length := by
        apply Classical.byContradiction
        intro hn
        rw [List.drop_eq_nil_of_le (by omega)] at h5
        cases h5
      rw [List.drop_eq_getElem_cons hlen] at h5
      obtain ⟨h6, rfl⟩ := List.cons.inj h5
      have ho : out.getD i 0 = (Me.next x (l.getD i ⟨0, 0⟩)).2 := by rw [h6, List.getD_eq_getElem?_getD, List.getElem?_eq_getElem hlen]; rfl
      refine ⟨_, h3, ?_⟩
      have hst := h2.step hg (hb i (by omega))
      show Rel _ (Pc.runP _ (opsTo l out i ++ opsOf l out i)) _
      rw [Pc.runP_app]
      unfold opsOf
      rw [ho]
      exact hst
    · rw [if_neg hg] at h1; cases h1
/-- Each comes in its time. -/
theorem paced_good {co bu : Int} {l : List Me.S} {out : List Int} {m' : Me.M} (hm : (⟨co, bu, 0, bu, 0, 0⟩ : Me.M).right) (hr : Me.run ⟨co, bu, 0, bu, 0, 0⟩ l = some (out, m')) (i : Nat) (hi : i < l.length)
    (hb : ∀ j, j < i → 1 ≤ (l.getD j ⟨0, 0⟩).by' ∧ (l.getD j ⟨0, 0⟩).by' ≤ 1500) : 0 ≤ nowAt l i ∧ nowAt l i ≤ (l.getD i ⟨0, 0⟩).at' ∧ (l.getD i ⟨0, 0⟩).at' ≤ 1099511627776 := by
  obtain ⟨x, h1, h2⟩ := paced hm hr i (by omega) hb
  have e : l.drop i = l.getD i ⟨0, 0⟩ :: l.drop (i + 1) := by
    rw [List.drop_eq_getElem_cons hi, List.getD_eq_getElem?_getD, List.getElem?_eq_getElem hi]; rfl
  rw [e, Me.run_cons] at h1
  by_cases hg : Me.good x (l.getD i ⟨0, 0⟩) 1
  · have := h2.now
    have hr := h2.right.2.2.2.2.2.2.2.2.2.2
    obtain ⟨_, _, _, g15, g16, _, _⟩ := hg
    omega
  · rw [if_neg hg] at h1; cases h1
theorem paced_end {co bu : Int} {l : List Me.S} {out : List Int} {m' : Me.M} (hm : (⟨co, bu, 0, bu, 0, 0⟩ : Me.M).right) (hr : Me.run ⟨co, bu, 0, bu, 0, 0⟩ l = some (out, m'))
    (hb : ∀ j, j < l.length → 1 ≤ (l.getD j ⟨0, 0⟩).by' ∧ (l.getD j ⟨0, 0⟩).by' ≤ 1500) : (Pc.runP (Pc.p0 co 1 bu) (opsTo l out l.length)).l = [] ∧ (Pc.runP (Pc.p0 co 1 bu) (opsTo l out l.length)).dr = 0 := by
  obtain ⟨x, h1, h2⟩ := paced hm hr l.length (Nat.le_refl _) hb
  exact ⟨h2.l, h2.dr⟩
end Go.Proofs.YtmbcgelfnbnicaaDoor
