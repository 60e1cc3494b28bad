import Derived.Test.YtmbcgelfnbnicaaDoorLib
/- Slices that may be nil, in allowed objects of the heap; slices of slices. For any program. -/
namespace Go.Proofs.YtmbcgelfnbnicaaDoor
open Go Go.Am

theorem Tbl.agree {α : Type} {enc : α → List Value} {s : Nat} {d : α} {H H' : Heap} {k o g : Nat} {l : List α} (h : Tbl α enc s d H k o g l) (ha : ∀ o, H[k]? = some o → H'[k]? = some o) : Tbl α enc s d H' k o g l := by
  obtain ⟨ro, cs, h1, h2⟩ := h.at'
  exact ⟨ro, cs, ha _ h1, h2⟩
/-- A slice in an object of which A holds. -/
def IsT {α : Type} (enc : α → List Value) (s : Nat) (d : α) (A : Nat → Prop) (H : Heap) (w : Value) (l : List α) : Prop :=
  ∃ k o g c, A k ∧ w = slv k o g l.length c ∧ Tbl α enc s d H k o g l ∧ l.length ≤ c
section
variable {α : Type} {enc : α → List Value} {s : Nat} {d : α} {A A' : Nat → Prop} {H H' : Heap} {w : Value} {l : List α}
theorem IsT.agree (h : IsT enc s d A H w l) (ha : ∀ k, A k → ∀ o, H[k]? = some o → H'[k]? = some o) : IsT enc s d A H' w l := by
  obtain ⟨k, o, g, c, h0, h1, h2, h3⟩ := h
  exact ⟨k, o, g, c, h0, h1, h2.agree (ha k h0), h3⟩
theorem IsT.mono (h : IsT enc s d A H w l) (ha : ∀ k, k < H.length → A k → A' k) : IsT enc s d A' H w l := by
  obtain ⟨k, o, g, c, h0, h1, h2, h3⟩ := h
  exact ⟨k, o, g, c, ha k h2.lt h0, h1, h2, h3⟩
theorem IsT.app (h : IsT enc s d A H w l) (X : Heap) : IsT enc s d A (H ++ X) w l := h.agree fun _ _ _ ho => get_old ho X
theorem IsT.le (h : IsT enc s d A H w l) (hl : Le H H') : IsT enc s d A H' w l := by
  obtain ⟨X, rfl⟩ := hl
  exact h.app X
theorem IsT.any (h : IsT enc s d A H w l) : IsT enc s d (fun _ => True) H w l := h.mono fun _ _ _ => trivial
theorem IsT.old (h : IsT enc s d A H w l) : IsT enc s d (· < H.length) H w l := h.mono fun _ hk _ => hk
theorem IsT.slice (h : IsT enc s d A H w l) : ∃ s a b, w = .slice s a b := by
  obtain ⟨k, o, g, c, _, rfl, _⟩ := h
  exact ⟨_, _, _, rfl⟩
theorem IsT.of {k o g c : Nat} (ha : A k) (h : Tbl α enc s d H k o g l) (hc : l.length ≤ c) : IsT enc s d A H (slv k o g l.length c) l := ⟨k, o, g, c, ha, rfl, h, hc⟩
end
/-- Whole numbers. -/
abbrev IsN (A : Nat → Prop) (H : Heap) (w : Value) (l : List Int) : Prop := IsT ienc 1 0 A H w l
def venc (v : Value) : List Value := [v]
def v0 : Value := .slice none 0 0
/-- Slices. -/
abbrev Vals (H : Heap) (k o g : Nat) (l : List Value) : Prop := Tbl Value venc 1 v0 H k o g l
theorem Vals.cell {H : Heap} {k o g : Nat} {l : List Value} (h : Vals H k o g l) : ∃ ro cs, H[k]? = some (.cells g 1 ro cs) ∧ o + l.length ≤ cs.length ∧ ∀ i, i < l.length → cs[o + i]? = some (l.getD i v0) := by
  obtain ⟨ro, cs, h1, h2, h3⟩ := h.at'
  exact ⟨ro, cs, h1, by omega, fun i hi => by have := h3 i hi 0 (by omega); simpa [venc] using this⟩
theorem flat'_venc (l : List Value) : flat' venc l = l := by
  have := flat'_one (fun v : Value => v) l
  rw [List.map_id'] at this
  exact this
theorem Vals.new (H : Heap) (k g : Nat) (ro : Bool) (l : List Value) (h : H[k]? = some (.cells g 1 ro l)) : Vals H k 0 g l :=
  Tbl.new (enc := venc) (s := 1) (d := v0) (fun _ => rfl) H k g ro l (by rw [flat'_venc]; exact h)
/-- A slice of slices of whole numbers. -/
def IsLL (A : Nat → Prop) (H : Heap) (w : Value) (ls : List (List Int)) : Prop :=
  ∃ k o g c vs, A k ∧ w = slv k o g ls.length c ∧ Vals H k o g vs ∧ vs.length = ls.length ∧ ls.length ≤ c ∧ ∀ i, i < ls.length → IsN A H (vs.getD i v0) (ls.getD i [])
section
variable {A A' : Nat → Prop} {H H' : Heap} {w : Value} {ls : List (List Int)}
theorem IsLL.agree (h : IsLL A H w ls) (ha : ∀ k, A k → ∀ o, H[k]? = some o → H'[k]? = some o) : IsLL A H' w ls := by
  obtain ⟨k, o, g, c, vs, h0, h1, h2, h3, h4, h5⟩ := h
  exact ⟨k, o, g, c, vs, h0, h1, h2.agree (ha k h0), h3, h4, fun i hi => (h5 i hi).agree ha⟩
theorem IsLL.mono (h : IsLL A H w ls) (ha : ∀ k, k < H.length → A k → A' k) : IsLL A' H w ls := by
  obtain ⟨k, o, g, c, vs, h0, h1, h2, h3, h4, h5⟩ := h
  exact ⟨k, o, g, c, vs, ha k h2.lt h0, h1, h2, h3, h4, fun i hi => (h5 i hi).mono ha⟩
theorem IsLL.app (h : IsLL A H w ls) (X : Heap) : IsLL A (H ++ X) w ls := h.agree fun _ _ _ ho => get_old ho X
theorem IsLL.le (h : IsLL A H w ls) (hl : Le H H') : IsLL A H' w ls := by
  obtain ⟨X, rfl⟩ := hl
  exact h.app X
theorem IsLL.any (h : IsLL A H w ls) : IsLL (fun _ => True) H w ls := h.mono fun _ _ _ => trivial
theorem IsLL.old (h : IsLL A H w ls) : IsLL (· < H.length) H w ls := h.mono fun _ hk _ => hk
theorem IsLL.slice (h : IsLL A H w ls) : ∃ s a b, w = .slice s a b := by
  obtain ⟨k, o, g, c, _, _, rfl, _⟩ := h
  exact ⟨_, _, _, rfl⟩
end
theorem choose_lists {P : Value → List Int → Prop} : ∀ (vs : List Value), (∀ v ∈ vs, ∃ l, P v l) → ∃ ls : List (List Int), ls.length = vs.length ∧ ∀ i, i < vs.length → P (vs.getD i v0) (ls.getD i [])
  | [], _ => ⟨[], rfl, fun i hi => by simp at hi⟩
  | v :: vs, h => by
    obtain ⟨ls, h1, h2⟩ := choose_lists vs fun v hv => h v (List.mem_cons_of_mem _ hv)
    obtain ⟨l, hl⟩ := h v (by simp)
    refine ⟨l :: ls, by simp [h1], fun i hi => ?_⟩
    cases i with
    | zero => exact hl
    | succ i => simpa using h2 i (by simpa using hi)
theorem IsN.ofCell {B : Nat} {H : Heap} {v : Value} (c : CellOk B H (.slice [.int .i64]) v) : ∃ l, IsN (fun _ => True) H v l ∧ l.length ≤ B ∧ ∀ i, i < l.length → -9223372036854775808 ≤ l.getD i 0 ∧ l.getD i 0 ≤ 9223372036854775807 := by
  obtain ⟨k, cc, l, rfl, h1, h2, h3, h4⟩ := ints_of (show ArgOk B H (false, [.slice [.int .i64]]) v by unfold ArgOk; rw [if_neg (by simp)]; exact ⟨_, rfl, c⟩)
  exact ⟨l, ⟨k, 0, 0, cc, trivial, rfl, h3, h2⟩, h1, h4⟩
theorem IsN.ofArg {B : Nat} {H : Heap} {v : Value} (h : ArgOk B H (false, [.slice [.int .i64]]) v) : ∃ l, IsN (fun _ => True) H v l ∧ l.length ≤ B ∧ ∀ i, i < l.length → -9223372036854775808 ≤ l.getD i 0 ∧ l.getD i 0 ≤ 9223372036854775807 := IsN.ofCell h.cell
theorem getD_memV {l : List Value} {i : Nat} (h : i < l.length) : l.getD i v0 ∈ l := by
  rw [List.getD_eq_getElem?_getD, List.getElem?_eq_getElem h]; exact List.getElem_mem h
/-- Slices of slices that came in. -/
theorem IsLL.ofArg {B : Nat} {H : Heap} {v : Value} (h : ArgOk B H (false, [.slice [.slice [.int .i64]]]) v) :
    ∃ ls, IsLL (fun _ => True) H v ls ∧ ls.length ≤ B ∧ ∀ i, i < ls.length → (ls.getD i []).length ≤ B ∧ ∀ j, j < (ls.getD i []).length → -9223372036854775808 ≤ (ls.getD i []).getD j 0 ∧ (ls.getD i []).getD j 0 ≤ 9223372036854775807 := by
  obtain ⟨k, c, vs, rfl, h1, h2, h3, h4⟩ := rows_of (α := Value) (enc := venc) (ok := fun a => CellOk B H (.slice [.int .i64]) a) 1 (fun _ => rfl) v0 rfl (fun cs h => by
    obtain ⟨v, rfl, hv⟩ := h.one
    exact ⟨v, rfl, hv⟩) h
  obtain ⟨ls, e1, e2⟩ := choose_lists (P := fun v l => IsN (fun _ => True) H v l ∧ l.length ≤ B ∧ ∀ i, i < l.length → -9223372036854775808 ≤ l.getD i 0 ∧ l.getD i 0 ≤ 9223372036854775807) vs (fun v hv => by
    obtain ⟨i, hi, rfl⟩ := List.mem_iff_getElem.1 hv
    have := h4 i hi
    rw [List.getD_eq_getElem?_getD, List.getElem?_eq_getElem hi] at this
    exact IsN.ofCell this)
  refine ⟨ls, ⟨k, 0, 0, c, vs, trivial, by rw [e1], h3, e1.symm, by omega, fun i hi => (e2 i (by omega)).1⟩, by omega, fun i hi => (e2 i (by omega)).2⟩
end Go.Proofs.YtmbcgelfnbnicaaDoor
