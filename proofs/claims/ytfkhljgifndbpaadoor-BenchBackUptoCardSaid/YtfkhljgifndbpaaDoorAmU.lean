/-
  The abstract machine, part U: from a law's contract to what its row asks. For any program.
-/
import Derived.Test.YtfkhljgifndbpaaDoorAmS
import Derived.Carry
import Derived.ChangeSame
import Derived.OpenShut
namespace Go.Am
open Go.RowKit

abbrev old (W : World) : Nat → Prop := fun b => b < W.heap.size

theorem HSim.below {W w : World} {ι : Inj} {H : Heap} (h : HSim (old W) W w ι H) : Below W.heap.size W w := ⟨h.os, h.tape, h.output, h.size, fun k hk => h.frame k hk⟩

theorem HSim.start (W : World) (hg : GL (old W) W) : HSim (old W) W W [] [] :=
  ⟨rfl, rfl, rfl, rfl, Nat.le_refl _, fun _ h => h, fun _ _ => rfl, fun k o h => by simp at h, fun j k L L' _ h => by simp at h, hg⟩

/-- Cells that came in, as an object that is only read. -/
theorem HSim.bring {W : World} {ι : Inj} {H : Heap} (h : HSim (old W) W W ι H) (esz : Nat) (cs : List Value) (L : Loc) {rc : Array Value} {t : TypeId} {fr : Nat × Nat} (hb : W.heap[L.blk]? = some (.cells rc t fr)) (hs : rc.size = L.off + L.room) (hl : cs.length ≤ L.room)
    (hc : ∀ (i : Nat) v, cs[i]? = some v → v.oneCell' = true ∧ flat v = true ∧ rc[L.off + i]? = some v) :
    HSim (old W) W W (ι ++ [some L]) (H ++ [.cells 0 esz true cs]) ∧ Ext (tags H) ι (tags (H ++ [.cells 0 esz true cs])) (ι ++ [some L]) := by
  refine h.push (some L) rfl rfl rfl (Nat.le_refl _) (fun _ _ => rfl) (.inr ⟨L, rc, t, fr, by rw [← h.len]; simp, hb, hs, hl, fun i v hv => ?_, fun _ => ?_, fun hf => by cases hf⟩) (fun _ _ hf => by cases hf)
  · obtain ⟨h1, h2, h3⟩ := hc i v hv
    exact ⟨h1, v, h3, .flat h2⟩
  · exact (Array.getElem?_eq_some_iff.1 hb).1

theorem law_calls {P : Program} {f : FuncId} {vals : List Value} {args : Array Value} {H0 : Heap} {W : World} {ι : Inj} (hc : ACallK P f vals H0 fun v _ => v = .bool true) (hs : HSim (old W) W W ι H0) (hv : VRels (tags H0) ι vals args.toList) :
    Calls P f args W fun e W' => e = .returned (.bool true) ∧ Below W.heap.size W W' := by
  refine (hc.2 (old W) W ι W args hs hv).mono ?_
  rintro e w' ⟨v, v', ι', H', rfl, h1, h2, h3, rfl⟩
  exact ⟨by rw [h3.bool_inv], h1.below⟩

end Go.Am
namespace Go.Am
open Go.RowKit Go.ChangeShapes

theorem trodAll_below {H : Type} {enc : TypeId × Value → H} {P : Program} (hl : laidOutB P = true) {W W' : World} (hb : Below W.heap.size W W') : ∀ {ts : List TypeId} {vs : List Value} {ds : List (DataW H)} {ps : List MemPlace},
    (∀ t ∈ ts, P.readableRec t = true ∧ t < P.types.size) → DataW.TrodAll enc P W 0 (fun _ => true) true ts vs ds ps → (∀ x ∈ ps, x.block < W.heap.size) → DataW.TrodAll enc P W' 0 (fun b => decide (b < W.heap.size)) true ts vs ds ps
  | [], vs, ds, ps, _, h, _ => by obtain ⟨rfl, rfl, rfl⟩ := trodAll_nil h; exact trodAll_mk0
  | t :: ts, vs, ds, ps, hr, h, hlt => by
    obtain ⟨v, vs', d, ds', p, q, rfl, rfl, rfl, h1, h2⟩ := trodAll_cons h
    have ht := hr t (by simp)
    exact trodAll_cons_mk (Below.trod hl ht.1 ht.2 h1 hb fun x hx => hlt x (by simp [hx])) (trodAll_below hl hb (fun t ht => hr t (by simp [ht])) h2 fun x hx => hlt x (by simp [hx]))

/-- What the row asks at the end, of a law that hands back one bool. -/
theorem law_post {H : Type} {enc : TypeId × Value → H} {P : Program} (hl : laidOutB P = true) {f : Func} {s : ChangeSpec} {tb : TypeId} (htb : P.underlying tb = some .bool) (hres : f.resultTypes = #[tb]) (hvars : s.vars = [])
    (hr : ∀ t ∈ f.params.toList, P.readableRec t = true ∧ t < P.types.size) {W W' : World} {args : Array Value} {ds gs : List (DataW H)} {before : List MemPlace}
    (hW : DataW.Whole enc P f.params.toList s.vars false W args.toList ds gs before) (hfn : s.fn H (ds ++ gs) = { results := [.lit (.bool true)], args := ds }) (hb : Below W.heap.size W W') :
    s.post enc P f false true false false W args (.bool true) W' := by
  have hlt := DataW.Whole.lt hW
  have hW' := hW
  obtain ⟨p, q, hA, hV, rfl, hz, hn⟩ := hW
  rw [hvars] at hV
  obtain ⟨rfl, rfl⟩ := trodVars_none hV
  refine ⟨ds, [], p ++ [], [], p, [], hW', ?_, ?_, ?_, hb.frame _, fun h => by cases h⟩
  · rw [hfn, hres]
    exact trodAll_cons_mk (shut_bool htb true) trodAll_mk0
  · rw [hfn]
    exact trodAll_below hl hb hr hA (fun x hx => hlt x (by simp [hx]))
  · rw [hfn, hvars]
    rfl

end Go.Am
namespace Go.Am
open Go.RowKit Go.ChangeShapes

theorem HSim.bringNone {W : World} {ι : Inj} {H : Heap} (h : HSim (old W) W W ι H) (esz : Nat) (a : Option Addr) : ∃ ι', HSim (old W) W W ι' (H ++ [.cells 0 esz true []]) ∧ Ext (tags H) ι (tags (H ++ [.cells 0 esz true []])) ι' ∧
    VRel (tags (H ++ [.cells 0 esz true []])) ι' (.slice (some ⟨H.length, 0, some 1⟩) 0 0) (.slice a 0 0) := by
  obtain ⟨hs, hext⟩ := h.ghost esz true
  exact ⟨_, hs, hext, .empty (t := ⟨0, esz, true⟩) (by simp [AObj.tag]) rfl⟩

/-- A slice of whole numbers that came in. -/
theorem bring_ints {H' : Type} {enc : TypeId × Value → H'} {P : Program} {W : World} {ι : Inj} {H : Heap} (h : HSim (old W) W W ι H) {t e : TypeId} {kd : IntKind} (ht : P.underlying t = some (.slice e)) (he : P.underlying e = some (.int kd)) (hc : P.cellsOf e = 1)
    {v : Value} {d : DataW H'} {ps : List MemPlace} {b0 : Nat} (hv : Value.okWide P W .any b0 t v) (hd : DataW.Trod enc P W 0 (fun _ => true) true t v d ps) :
    ∃ (zs : List Int) (len : Nat) (ι' : Inj), len ≤ zs.length ∧ zs.length ≤ maxLen ∧ (∀ n ∈ zs, (Lit.int kd n).wf = true) ∧ HSim (old W) W W ι' (H ++ [.cells 0 1 true (zs.map fun x => .int kd x)]) ∧ Ext (tags H) ι (tags (H ++ [.cells 0 1 true (zs.map fun x => .int kd x)])) ι' ∧
      VRel (tags (H ++ [.cells 0 1 true (zs.map fun x => .int kd x)])) ι' (.slice (some ⟨H.length, 0, some 1⟩) len zs.length) v ∧ (d = .nil ∧ zs = [] ∨ d = .slice (lits kd (zs.take len)) (lits kd (zs.drop len))) := by
  obtain ⟨a0, l0, c0, rfl⟩ := Go.WideShapes.okWide_slice ht hv
  obtain ⟨fuel, hf⟩ := hd
  rcases open_ints ht he hc hf with ⟨hcs, hx⟩ | ⟨a, len, cap, zs, hcs, _, hle, hmax, hall, hx, hcell, hwf⟩
  · simp [Value.cells] at hcs
    obtain ⟨rfl, rfl, rfl⟩ := hcs
    simp only [Prod.mk.injEq] at hx
    obtain ⟨rfl, rfl⟩ := hx
    obtain ⟨ι', h1, h2, h3⟩ := h.bringNone 1 none
    exact ⟨[], 0, ι', by simp, by simp, by simp, h1, h2, h3, .inl ⟨rfl, rfl⟩⟩
  · simp [Value.cells] at hcs
    obtain ⟨rfl, rfl, rfl⟩ := hcs
    simp only [Prod.mk.injEq] at hx
    obtain ⟨rfl, rfl⟩ := hx
    simp only [if_true] at hall
    subst hall
    by_cases hz : zs = []
    · subst hz
      simp at hle
      subst hle
      obtain ⟨ι', h1, h2, h3⟩ := h.bringNone 1 (some a)
      exact ⟨[], 0, ι', by simp, by simp, by simp, h1, h2, h3, .inr rfl⟩
    · have hp : 0 < zs.length := List.length_pos_iff.2 hz
      obtain ⟨b, off, rfl, hcl⟩ := ints_at hcell hp
      have blk : ∃ rc ty fr, W.heap[b]? = some (.cells rc ty fr) ∧ ∀ j, j < zs.length → rc[off + j]? = some (.int kd (zs.getD j 0)) := by
        have h0 := hcl 0 hp
        simp only [World.cell?] at h0
        cases hb : W.heap[b]? with
        | none => simp [hb] at h0
        | some o =>
          cases o with
          | cells rc ty fr =>
            refine ⟨rc, ty, fr, rfl, fun j hj => ?_⟩
            have := hcl j hj
            simpa [World.cell?, hb] using this
          | _ => simp [hb] at h0
      obtain ⟨rc, ty, fr, hb, hrc⟩ := blk
      have hsz : off + zs.length ≤ rc.size := by
        have := (Array.getElem?_eq_some_iff.1 (hrc (zs.length - 1) (by omega))).1
        omega
      obtain ⟨h1, h2⟩ := h.bring 1 (zs.map fun x => .int kd x) ⟨b, off, rc.size - off⟩ hb (by simp; omega) (by simp; omega) (fun i u hu => by
        have hi : i < zs.length := by have := (List.getElem?_eq_some_iff.1 hu).1; simpa using this
        have := hrc i hi
        simp [hi] at hu
        subst hu
        refine ⟨rfl, rfl, ?_⟩
        rw [this]; simp [hi])
      refine ⟨zs, _, _, hle, hmax, hwf, h1, h2, ?_, .inr rfl⟩
      have := VRel.slice (T := tags (H ++ [.cells 0 1 true (zs.map fun x => .int kd x)])) (ι := ι ++ [some ⟨b, off, rc.size - off⟩]) (k := H.length) (o := 0) (g := 0) (n := l0) (c := zs.length) (c' := zs.length) (L := ⟨b, off, rc.size - off⟩) (t := ⟨0, 1, true⟩) (by simp [AObj.tag]) rfl (by rw [← h.len]; simp) (Nat.le_refl _) (.inl rfl)
      simpa using this

end Go.Am
