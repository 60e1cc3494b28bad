import Derived.Test.YtfkhljgifndbpaaDoorAmX
/- Slices of plain data in objects of the heap. For any program. -/
namespace Go.Proofs.YtfkhljgifndbpaaDoor
open Go Go.Am

abbrev slv (k o g n c : Nat) : Value := .slice (some ⟨k, o, some (g + 1)⟩) n c
def ints (l : List Int) : List Value := l.map fun x => .int .i64 x
def bools (l : List Bool) : List Value := l.map fun x => .bool x
theorem ints_length (l : List Int) : (ints l).length = l.length := by simp [ints]
theorem bools_length (l : List Bool) : (bools l).length = l.length := by simp [bools]
theorem ints_app (l m : List Int) : ints l ++ ints m = ints (l ++ m) := by simp [ints]
theorem bools_app (l m : List Bool) : bools l ++ bools m = bools (l ++ m) := by simp [bools]
theorem ints_snoc (l : List Int) (x : Int) : ints l ++ [.int .i64 x] = ints (l ++ [x]) := ints_app l [x]
theorem bools_snoc (l : List Bool) (x : Bool) : bools l ++ [.bool x] = bools (l ++ [x]) := bools_app l [x]
theorem ints_take (l : List Int) (n : Nat) (h : l.length ≤ n) : (ints l).take n = ints l := List.take_of_length_le (by rw [ints_length]; exact h)
theorem bools_take (l : List Bool) (n : Nat) (h : l.length ≤ n) : (bools l).take n = bools l := List.take_of_length_le (by rw [bools_length]; exact h)
theorem ints_get (l : List Int) (i : Nat) (h : i < l.length) : (ints l)[i]? = some (.int .i64 (l.getD i 0)) := map_get _ 0 _ i h
theorem bools_get (l : List Bool) (i : Nat) (h : i < l.length) : (bools l)[i]? = some (.bool (l.getD i false)) := map_get _ false _ i h
theorem ints_set (l : List Int) (i : Nat) (x : Int) : (ints l).set i (.int .i64 x) = ints (l.set i x) := by simp [ints, List.map_set]
theorem bools_set (l : List Bool) (i : Nat) (x : Bool) : (bools l).set i (.bool x) = bools (l.set i x) := by simp [bools, List.map_set]
theorem abnd_ints' (m g esz : Nat) (ro : Bool) (l : List Int) : abnd m (.cells g esz ro (ints l)) = true := abnd_ints m g esz ro .i64 l
theorem abnd_bools' (m g esz : Nat) (ro : Bool) (l : List Bool) : abnd m (.cells g esz ro (bools l)) = true := abnd_bools m g esz ro l

/-- A call whose outcome is known. -/
theorem callW.ex {P : Program} {f : FuncId} {l : List Value} {H : Heap} {K : LV} (v : Value) (H' : Heap) (h : ACallK P f l H (fun a b => a = v ∧ b = H')) (hk : K.run v H') : @callW (ACallK P) f l H K :=
  .of (h.mono fun a b ⟨h1, h2⟩ => by subst h1; subst h2; exact hk)
/-- Tbl of plain data, of s cells each, in an object of the heap. -/
structure Tbl (α : Type) (enc : α → List Value) (s : Nat) (d : α) (H : Heap) (k o g : Nat) (l : List α) : Prop where
  at' : ∃ ro cs, H[k]? = some (.cells g s ro cs) ∧ o + l.length * s ≤ cs.length ∧ ∀ i, i < l.length → ∀ j, j < s → cs[o + i * s + j]? = (enc (l.getD i d))[j]?
theorem Tbl.app {α : Type} {enc : α → List Value} {s : Nat} {d : α} {H : Heap} {k o g : Nat} {l : List α} (h : Tbl α enc s d H k o g l) (x : Heap) : Tbl α enc s d (H ++ x) k o g l := by
  obtain ⟨ro, cs, h1, h2, h3⟩ := h.at'
  exact ⟨ro, cs, get_old h1 x, h2, h3⟩
theorem Tbl.lt {α : Type} {enc : α → List Value} {s : Nat} {d : α} {H : Heap} {k o g : Nat} {l : List α} (h : Tbl α enc s d H k o g l) : k < H.length := by
  obtain ⟨ro, cs, h1, h2⟩ := h.at'
  exact (List.getElem?_eq_some_iff.1 h1).1
theorem Tbl.take {α : Type} {enc : α → List Value} {s : Nat} {d : α} {H : Heap} {k o g : Nat} {l : List α} (h : Tbl α enc s d H k o g l) (n : Nat) : Tbl α enc s d H k o g (l.take n) := by
  obtain ⟨ro, cs, h1, h2, h3⟩ := h.at'
  have hle : (l.take n).length * s ≤ l.length * s := Nat.mul_le_mul_right _ (by simp; omega)
  refine ⟨ro, cs, h1, by omega, fun i hi => ?_⟩
  simp at hi
  rw [getD_take d l n i (by omega)]
  exact h3 i (by omega)
theorem Tbl.drop {α : Type} {enc : α → List Value} {s : Nat} {d : α} {H : Heap} {k o g : Nat} {l : List α} (h : Tbl α enc s d H k o g l) (n : Nat) (hn : n ≤ l.length) : Tbl α enc s d H k (o + n * s) g (l.drop n) := by
  obtain ⟨ro, cs, h1, h2, h3⟩ := h.at'
  have hle : n * s + (l.drop n).length * s = l.length * s := by rw [← Nat.add_mul]; congr 1; simp; omega
  refine ⟨ro, cs, h1, by omega, fun i hi j hj => ?_⟩
  simp at hi
  rw [getD_drop, ← h3 (n + i) (by omega) j hj, Nat.add_mul]
  congr 1
  omega
/-- A slice of plain data that came in. -/
theorem rows_of {α : Type} {enc : α → List Value} {ok : α → Prop} (s : Nat) (hs : ∀ a, (enc a).length = s) (d : α) {B : Nat} {H : Heap} {sh : List CS} {v : Value} (hsh : sh.length = s) (dec : ∀ cs, RowOk B H sh cs → ∃ a, cs = enc a ∧ ok a) (h : ArgOk B H (false, [.slice sh]) v) :
    ∃ k c, ∃ l : List α, v = slv k 0 0 l.length c ∧ l.length ≤ B ∧ l.length ≤ c ∧ Tbl α enc s d H k 0 0 l ∧ ∀ i, i < l.length → ok (l.getD i d) := by
  obtain ⟨j, n, l, rfl, h1, h2, h3, h4⟩ := CellOk.rows dec h.cell
  have hl : (l.take n).length = n := by simp; omega
  have hn : n * s ≤ l.length * s := Nat.mul_le_mul_right _ h1
  refine ⟨j, l.length, l.take n, by rw [hl], by omega, by omega, ⟨true, _, by rw [← hsh]; exact h3, by rw [flat'_length hs, hl]; omega, fun i hi j hj => ?_⟩, fun i hi => ?_⟩
  · rw [hl] at hi
    rw [getD_take d l n i hi, Nat.zero_add]
    exact flat'_get hs d l i j (by omega) hj
  · rw [hl] at hi
    rw [getD_take d l n i hi]
    have hil : i < l.length := by omega
    rw [List.getD_eq_getElem?_getD, List.getElem?_eq_getElem hil]
    exact h4 _ (List.getElem_mem hil)
def ienc (x : Int) : List Value := [.int .i64 x]
/-- A slice of whole numbers in an object of the heap. -/
abbrev Ints (H : Heap) (k o g : Nat) (l : List Int) : Prop := Tbl Int ienc 1 0 H k o g l
theorem ints_of {B : Nat} {H : Heap} {v : Value} (h : ArgOk B H (false, [.slice [.int .i64]]) v) :
    ∃ k c, ∃ l : List Int, v = slv k 0 0 l.length c ∧ l.length ≤ B ∧ l.length ≤ c ∧ Ints H k 0 0 l ∧ ∀ i, i < l.length → -9223372036854775808 ≤ l.getD i 0 ∧ l.getD i 0 ≤ 9223372036854775807 :=
  rows_of (α := Int) (enc := ienc) (ok := fun a => -9223372036854775808 ≤ a ∧ a ≤ 9223372036854775807) 1 (fun _ => rfl) 0 rfl (fun cs h => by
    obtain ⟨v, rfl, hv⟩ := h.one
    obtain ⟨n, rfl, hn⟩ := hv.int_inv
    exact ⟨n, rfl, hn⟩) h
/-- Its cells. -/
theorem Ints.cell {H : Heap} {k o g : Nat} {l : List Int} (h : Ints H k o g l) : ∃ ro cs, H[k]? = some (.cells g 1 ro cs) ∧ o + l.length ≤ cs.length ∧ ∀ i, i < l.length → cs[o + i]? = some (.int .i64 (l.getD i 0)) := by
  obtain ⟨ro, cs, h1, h2, h3⟩ := h.at'
  exact ⟨ro, cs, h1, by omega, fun i hi => by have := h3 i hi 0 (by omega); simpa [ienc] using this⟩
theorem Ints.new (H : Heap) (k g : Nat) (ro : Bool) (l : List Int) (h : H[k]? = some (.cells g 1 ro (ints l))) : Ints H k 0 g l := by
  refine ⟨ro, _, h, by simp [ints], fun i hi j hj => ?_⟩
  obtain rfl : j = 0 := by omega
  rw [show 0 + i * 1 + 0 = i by omega, ints_get l i hi]; rfl
def benc (x : Bool) : List Value := [.bool x]
abbrev Bools (H : Heap) (k o g : Nat) (l : List Bool) : Prop := Tbl Bool benc 1 false H k o g l
theorem Bools.cell {H : Heap} {k o g : Nat} {l : List Bool} (h : Bools H k o g l) : ∃ ro cs, H[k]? = some (.cells g 1 ro cs) ∧ o + l.length ≤ cs.length ∧ ∀ i, i < l.length → cs[o + i]? = some (.bool (l.getD i false)) := by
  obtain ⟨ro, cs, h1, h2, h3⟩ := h.at'
  exact ⟨ro, cs, h1, by omega, fun i hi => by have := h3 i hi 0 (by omega); simpa [benc] using this⟩
theorem Bools.new (H : Heap) (k g : Nat) (ro : Bool) (l : List Bool) (h : H[k]? = some (.cells g 1 ro (bools l))) : Bools H k 0 g l := by
  refine ⟨ro, _, h, by simp [bools], fun i hi j hj => ?_⟩
  obtain rfl : j = 0 := by omega
  rw [show 0 + i * 1 + 0 = i by omega, bools_get l i hi]; rfl

/-- A table of a function's values. -/
def tb (f : Nat → Int) (n : Nat) : List Int := (List.range n).map f
theorem tb_zero (f : Nat → Int) : tb f 0 = [] := rfl
theorem tb_length (f : Nat → Int) (n : Nat) : (tb f n).length = n := by simp [tb]
theorem tb_snoc (f : Nat → Int) (n : Nat) : tb f (n + 1) = tb f n ++ [f n] := by simp [tb, List.range_succ]
theorem tb_getD (f : Nat → Int) (n i : Nat) (h : i < n) : (tb f n).getD i 0 = f i := by simp [tb, h]

theorem wr_length : ∀ (l cs : List Value) (o : Nat), (wr cs o l).length = cs.length
  | [], _, _ => rfl
  | v :: l, cs, o => by simp only [wr]; rw [wr_length l]; simp
theorem wr_miss : ∀ (l cs : List Value) (o i : Nat), (i < o ∨ o + l.length ≤ i) → (wr cs o l)[i]? = cs[i]?
  | [], _, _, _, _ => rfl
  | v :: l, cs, o, i, h => by
    simp only [wr]
    rw [wr_miss l _ _ _ (by simp at h; omega), List.getElem?_set_ne (by simp at h; omega)]
theorem wr_hit : ∀ (l cs : List Value) (o i : Nat), i < l.length → o + l.length ≤ cs.length → (wr cs o l)[o + i]? = l[i]?
  | [], _, _, _, h, _ => by simp at h
  | v :: l, cs, o, 0, _, h2 => by
    simp only [wr]
    simp at h2
    rw [wr_miss l _ _ _ (by omega), Nat.add_zero, List.getElem?_set_self (by omega)]; rfl
  | v :: l, cs, o, i + 1, h1, h2 => by
    simp only [wr]
    simp at h1 h2
    rw [show o + (i + 1) = o + 1 + i by omega, wr_hit l _ _ i h1 (by simp; omega)]; rfl

theorem flat_wr : ∀ {l cs : List Value} {o : Nat}, (∀ v ∈ cs, flat v = true) → (∀ v ∈ l, flat v = true) → ∀ v ∈ wr cs o l, flat v = true
  | [], _, _, h, _ => h
  | x :: l, cs, o, h, h2 => by
    simp only [wr]
    refine flat_wr (fun v hv => ?_) (fun v hv => h2 v (by simp [hv]))
    rcases List.mem_or_eq_of_mem_set hv with hv | rfl
    · exact h v hv
    · exact h2 _ (by simp)
theorem flat_app {l cs : List Value} {o n : Nat} (h : ∀ v ∈ cs, flat v = true) (h2 : ∀ v ∈ l, flat v = true) : ∀ v ∈ (cs.drop o).take n ++ l, flat v = true := by
  intro v hv
  rcases List.mem_append.1 hv with hv | hv
  · exact h v (List.mem_of_mem_drop (List.mem_of_mem_take hv))
  · exact h2 v hv
/-- A part of a row of cells that its owner alone has: from o on, with room for c. -/
structure Seg {α : Type} (enc : α → List Value) (s : Nat) (d : α) (cs : List Value) (o c : Nat) (L : List α) : Prop where
  room : o + c * s = cs.length
  le : L.length ≤ c
  get : ∀ i, i < L.length → ∀ j, j < s → cs[o + i * s + j]? = (enc (L.getD i d))[j]?
section
variable {α : Type} {enc : α → List Value} {s : Nat} {d : α} {cs : List Value} {o c : Nat} {L : List α}
theorem Seg.new (hs : ∀ a, (enc a).length = s) (L : List α) : Seg enc s d (flat' enc L) 0 L.length L :=
  ⟨by rw [flat'_length hs]; omega, by omega, fun i hi j hj => by rw [Nat.zero_add]; exact flat'_get hs d L i j hi hj⟩
theorem Seg.nil : Seg enc s d [] 0 0 [] := ⟨by simp, by simp, fun i hi => by simp at hi⟩
theorem Seg.take (h : Seg enc s d cs o c L) (n : Nat) : Seg enc s d cs o c (L.take n) := by
  refine ⟨h.room, by have := h.le; simp; omega, fun i hi => ?_⟩
  simp at hi
  rw [getD_take d L n i (by omega)]
  exact h.get i (by omega)
theorem Seg.tail {a : α} (h : Seg enc s d cs o c (a :: L)) : Seg enc s d cs (o + s) (c - 1) L := by
  have h1 := h.le
  have h2 := h.room
  simp at h1
  obtain ⟨c', rfl⟩ : ∃ c', c = c' + 1 := ⟨c - 1, by omega⟩
  rw [Nat.add_mul, Nat.one_mul] at h2
  refine ⟨by rw [Nat.add_sub_cancel]; omega, by omega, fun i hi j hj => ?_⟩
  have := h.get (i + 1) (by simpa using hi) j hj
  rw [List.getD_cons_succ, Nat.add_mul, Nat.one_mul] at this
  rw [← this]
  congr 1
  omega
theorem Seg.push (hs : ∀ a, (enc a).length = s) (h : Seg enc s d cs o c L) (hc : L.length + 1 ≤ c) (a : α) : Seg enc s d (wr cs (o + L.length * s) (enc a)) o c (L ++ [a]) := by
  have hr := h.room
  have hm : L.length * s + s ≤ c * s := by rw [← Nat.succ_mul]; exact Nat.mul_le_mul_right _ hc
  refine ⟨by rw [wr_length]; exact hr, by simpa using hc, fun i hi j hj => ?_⟩
  simp at hi
  by_cases hl : i < L.length
  · have hm2 : i * s + s ≤ L.length * s := by rw [← Nat.succ_mul]; exact Nat.mul_le_mul_right _ hl
    rw [wr_miss _ _ _ _ (by omega), h.get i hl j hj]
    simp only [List.getD_eq_getElem?_getD]
    rw [List.getElem?_append_left hl]
  · obtain rfl : i = L.length := by omega
    rw [wr_hit _ _ _ _ (by rw [hs]; exact hj) (by rw [hs]; omega)]
    simp [List.getD_eq_getElem?_getD]
theorem Seg.cells (hs : ∀ a, (enc a).length = s) (h : Seg enc s d cs o c L) : (cs.drop o).take (L.length * s) = flat' enc L := by
  have hr := h.room
  have hm : L.length * s ≤ c * s := Nat.mul_le_mul_right _ h.le
  refine List.ext_getElem? fun k => ?_
  by_cases hk : k < L.length * s
  · have hs0 : 0 < s := by
      rcases Nat.eq_zero_or_pos s with e | e
      · rw [e, Nat.mul_zero] at hk; omega
      · exact e
    have hi : k / s < L.length := (Nat.div_lt_iff_lt_mul hs0).2 hk
    have hj := Nat.mod_lt k hs0
    have e : k / s * s + k % s = k := by rw [Nat.mul_comm]; exact Nat.div_add_mod k s
    rw [List.getElem?_take_of_lt hk, List.getElem?_drop]
    have h1 := h.get (k / s) hi (k % s) hj
    have h2 := flat'_get hs d L (k / s) (k % s) hi hj
    rw [Nat.add_assoc, e] at h1
    rw [e] at h2
    rw [h1, h2]
  · rw [List.getElem?_eq_none (by simp; omega), List.getElem?_eq_none (by rw [flat'_length hs]; omega)]
theorem Seg.fresh (hs : ∀ a, (enc a).length = s) (h : Seg enc s d cs o c L) (a : α) : Seg enc s d ((cs.drop o).take (L.length * s) ++ enc a) 0 (L.length + 1) (L ++ [a]) := by
  have e : (cs.drop o).take (L.length * s) ++ enc a = flat' enc (L ++ [a]) := by rw [h.cells hs, ← flat'_app]; simp [flat']
  rw [e]
  have := Seg.new (d := d) hs (L ++ [a])
  simpa using this
end
theorem Tbl.cells {α : Type} {enc : α → List Value} {s : Nat} {d : α} {cs : List Value} {o : Nat} {l : List α} (hs : ∀ a, (enc a).length = s) (_h2 : o + l.length * s ≤ cs.length) (h3 : ∀ i, i < l.length → ∀ j, j < s → cs[o + i * s + j]? = (enc (l.getD i d))[j]?) :
    (cs.drop o).take (l.length * s) = flat' enc l := by
  refine List.ext_getElem? fun k => ?_
  by_cases hk : k < l.length * s
  · have hs0 : 0 < s := by
      rcases Nat.eq_zero_or_pos s with e | e
      · rw [e, Nat.mul_zero] at hk; omega
      · exact e
    have hi : k / s < l.length := (Nat.div_lt_iff_lt_mul hs0).2 hk
    have hj := Nat.mod_lt k hs0
    have e : k / s * s + k % s = k := by rw [Nat.mul_comm]; exact Nat.div_add_mod k s
    rw [List.getElem?_take_of_lt hk, List.getElem?_drop]
    have h1 := h3 (k / s) hi (k % s) hj
    have h2 := flat'_get hs d l (k / s) (k % s) hi hj
    rw [Nat.add_assoc, e] at h1
    rw [e] at h2
    rw [h1, h2]
  · rw [List.getElem?_eq_none (by simp; omega), List.getElem?_eq_none (by rw [flat'_length hs]; omega)]
theorem Tbl.new {α : Type} {enc : α → List Value} {s : Nat} {d : α} (hs : ∀ a, (enc a).length = s) (H : Heap) (k g : Nat) (ro : Bool) (l : List α) (h : H[k]? = some (.cells g s ro (flat' enc l))) : Tbl α enc s d H k 0 g l :=
  ⟨ro, _, h, by rw [flat'_length hs]; omega, fun i hi j hj => by rw [Nat.zero_add]; exact flat'_get hs d l i j hi hj⟩
theorem flat'_ienc (l : List Int) : flat' ienc l = ints l := flat'_one _ l
theorem flat'_benc (l : List Bool) : flat' benc l = bools l := flat'_one _ l
theorem flat'_set {α : Type} {enc : α → List Value} {s : Nat} (hs : ∀ a, (enc a).length = s) (d : α) {a' : α} {v : Value} : ∀ (l : List α) (i j : Nat), i < l.length → j < s → enc a' = (enc (l.getD i d)).set j v → (flat' enc l).set (i * s + j) v = flat' enc (l.set i a')
  | [], i, j, hi, _, _ => by simp at hi
  | a :: l, 0, j, _, hj, he => by
    simp only [flat', List.flatMap_cons, Nat.zero_mul, Nat.zero_add, List.set_cons_zero]
    rw [List.set_append_left _ _ (by rw [hs]; exact hj), he]; rfl
  | a :: l, i + 1, j, hi, hj, he => by
    have := flat'_set hs d l i j (by simpa using hi) hj (by simpa using he)
    simp only [flat', List.flatMap_cons, List.set_cons_succ] at this ⊢
    rw [List.set_append_right _ _ (by rw [hs, Nat.succ_mul]; omega), hs, show (i + 1) * s + j - s = i * s + j by rw [Nat.succ_mul]; omega, this]
theorem flat_rows {α : Type} {enc : α → List Value} (h : ∀ a, ∀ v ∈ enc a, flat v = true) (l : List α) : ∀ v ∈ flat' enc l, flat v = true := by
  intro v hv
  obtain ⟨a, _, hv⟩ := List.mem_flatMap.1 hv
  exact h a v hv
/-- A list of which the first i are turned. -/
def upd {α : Type} (f : α → α) (l : List α) (i : Nat) : List α := (l.take i).map f ++ l.drop i
section
variable {α : Type} (f : α → α) (l : List α)
theorem upd_zero : upd f l 0 = l := by simp [upd]
theorem upd_len (i : Nat) : (upd f l i).length = l.length := by simp [upd]; omega
theorem upd_all : upd f l l.length = l.map f := by simp [upd]
theorem upd_get (d : α) (i : Nat) (h : i < l.length) : (upd f l i).getD i d = l.getD i d := by
  simp only [upd, List.getD_eq_getElem?_getD]
  rw [List.getElem?_append_right (by simp; omega)]
  simp; congr 2; omega
theorem upd_succ (d : α) (i : Nat) (h : i < l.length) : (upd f l i).set i (f (l.getD i d)) = upd f l (i + 1) := by
  unfold upd
  rw [List.set_append_right _ _ (by simp; omega), take_snoc d l i h, drop_cons d l i h]
  simp [show min i l.length = i by omega]
end
theorem ldV_of : ∀ (l cs : List Value) (o : Nat), (∀ j, j < l.length → cs[o + j]? = l[j]?) → ldV cs o l.length = some l
  | [], _, _, _ => rfl
  | v :: l, cs, o, h => by
    have h0 := h 0 (by simp)
    have h1 := ldV_of l cs (o + 1) fun j hj => by
      have := h (j + 1) (by simpa using hj)
      rw [show o + 1 + j = o + (j + 1) by omega, this]; rfl
    simp only [Nat.add_zero, List.getElem?_cons_zero] at h0
    simp only [List.length_cons, ldV, h0, h1]
/-- A row, loaded at once. -/
theorem Tbl.ld {α : Type} {enc : α → List Value} {s : Nat} {d : α} {cs : List Value} {o : Nat} {l : List α} (hs : ∀ a, (enc a).length = s) (h3 : ∀ i, i < l.length → ∀ j, j < s → cs[o + i * s + j]? = (enc (l.getD i d))[j]?) (i : Nat) (hi : i < l.length) :
    ldV cs (o + i * s) s = some (enc (l.getD i d)) := by
  have := ldV_of (enc (l.getD i d)) cs (o + i * s) (fun j hj => h3 i hi j (by rw [hs] at hj; exact hj))
  rwa [hs] at this

/-- The place of the first one of which p holds, from i on; or -1. -/
def idxGo {α : Type} (p : α → Bool) (i : Nat) : List α → Int
  | [] => -1
  | x :: r => if p x = true then i else idxGo p (i + 1) r
def idx {α : Type} (p : α → Bool) (l : List α) : Int := idxGo p 0 l
theorem idxGo_spec {α : Type} (p : α → Bool) (d : α) : ∀ (l : List α) (i : Nat), (idxGo p i l = -1 ∧ ∀ x ∈ l, p x = false) ∨ (∃ j, j < l.length ∧ idxGo p i l = ((i + j : Nat) : Int) ∧ p (l.getD j d) = true ∧ ∀ m, m < j → p (l.getD m d) = false)
  | [], i => .inl ⟨rfl, by simp⟩
  | x :: r, i => by
    unfold idxGo
    by_cases h : p x = true
    · rw [if_pos h]; exact .inr ⟨0, by simp, by simp, by simpa using h, fun m hm => by omega⟩
    · rw [if_neg h]
      have hx : p x = false := by simpa using h
      rcases idxGo_spec p d r (i + 1) with ⟨h1, h2⟩ | ⟨j, h1, h2, h3, h4⟩
      · exact .inl ⟨h1, fun y hy => by rcases List.mem_cons.1 hy with rfl | hy; exact hx; exact h2 y hy⟩
      · refine .inr ⟨j + 1, by simpa using h1, by rw [h2]; congr 1; omega, by simpa using h3, fun m hm => ?_⟩
        cases m with
        | zero => simpa using hx
        | succ m => simpa using h4 m (by omega)
theorem idx_spec {α : Type} (p : α → Bool) (d : α) (l : List α) : (idx p l = -1 ∧ ∀ x ∈ l, p x = false) ∨ (∃ j : Nat, j < l.length ∧ idx p l = j ∧ p (l.getD j d) = true ∧ ∀ m, m < j → p (l.getD m d) = false) := by
  have := idxGo_spec p d l 0
  simpa [idx] using this
theorem idx_any {α : Type} (p : α → Bool) (l : List α) : decide (0 ≤ idx p l) = l.any p := by
  cases l with
  | nil => rfl
  | cons d r =>
    rcases idx_spec p d (d :: r) with ⟨h1, h2⟩ | ⟨j, h1, h2, h3, _⟩
    · rw [h1, Bool.eq_iff_iff]
      simp only [List.any_eq_true]
      refine ⟨fun h => by simp at h, fun ⟨x, hx, hp⟩ => by rw [h2 x hx] at hp; cases hp⟩
    · rw [h2, Bool.eq_iff_iff]
      simp only [List.any_eq_true]
      refine ⟨fun _ => ⟨(d :: r).getD j d, by rw [List.getD_eq_getElem?_getD, List.getElem?_eq_getElem h1]; exact List.getElem_mem h1, h3⟩, fun _ => by simp⟩
/-- The heap has only grown. -/
def Le (H H' : Heap) : Prop := ∃ X, H' = H ++ X
theorem Le.refl (H : Heap) : Le H H := ⟨[], by simp⟩
theorem Le.app (H X : Heap) : Le H (H ++ X) := ⟨X, rfl⟩
theorem Le.of_eq {H H' : Heap} (h : H' = H) : Le H H' := ⟨[], by simp [h]⟩
theorem Le.trans {H H' H'' : Heap} (h : Le H H') (h' : Le H' H'') : Le H H'' := by
  obtain ⟨X, rfl⟩ := h
  obtain ⟨Y, rfl⟩ := h'
  exact ⟨X ++ Y, by rw [List.append_assoc]⟩
theorem Le.get {H H' : Heap} (h : Le H H') {k : Nat} {o : AObj} (hk : H[k]? = some o) : H'[k]? = some o := by
  obtain ⟨X, rfl⟩ := h
  exact get_old hk X
theorem Tbl.le {α : Type} {enc : α → List Value} {s : Nat} {d : α} {H H' : Heap} {k o g : Nat} {l : List α} (h : Tbl α enc s d H k o g l) (hl : Le H H') : Tbl α enc s d H' k o g l := by
  obtain ⟨X, rfl⟩ := hl
  exact h.app X
theorem wr_app : ∀ (l cs : List Value) (o : Nat) (ds : List Value), o + l.length ≤ cs.length → wr (cs ++ ds) o l = wr cs o l ++ ds
  | [], _, _, _, _ => rfl
  | v :: l, cs, o, ds, h => by
    simp only [List.length_cons] at h
    simp only [wr]
    rw [List.set_append_left _ _ (by omega), wr_app l _ _ _ (by simp; omega)]
theorem wr_off : ∀ (l cs : List Value) (o : Nat) (ds : List Value), wr (ds ++ cs) (ds.length + o) l = ds ++ wr cs o l
  | [], _, _, _ => rfl
  | v :: l, cs, o, ds => by
    simp only [wr]
    rw [List.set_append_right _ _ (by omega), show ds.length + o - ds.length = o by omega, show ds.length + o + 1 = ds.length + (o + 1) by omega, wr_off l]
theorem wr_all : ∀ (l cs : List Value), l.length = cs.length → wr cs 0 l = l
  | [], cs, h => by rw [List.eq_nil_of_length_eq_zero (Eq.symm h)]; rfl
  | v :: l, [], h => by simp at h
  | v :: l, c :: cs, h => by
    have := wr_off l cs 0 [v]
    simp only [List.length_singleton, List.singleton_append, Nat.add_zero] at this
    simp only [wr, List.set_cons_zero, Nat.zero_add]
    rw [this, wr_all l cs (by simpa using h)]
/-- A row, stored at once. -/
theorem flat'_wr {α : Type} {enc : α → List Value} {s : Nat} (hs : ∀ a, (enc a).length = s) (a' : α) : ∀ (l : List α) (i : Nat), i < l.length → wr (flat' enc l) (i * s) (enc a') = flat' enc (l.set i a')
  | [], i, hi => by simp at hi
  | a :: l, 0, _ => by
    simp only [flat', List.flatMap_cons, Nat.zero_mul, List.set_cons_zero]
    rw [wr_app _ _ _ _ (by rw [hs, hs]; omega), wr_all _ _ (by rw [hs, hs])]
  | a :: l, i + 1, hi => by
    have := flat'_wr hs a' l i (by simpa using hi)
    simp only [flat', List.flatMap_cons, List.set_cons_succ] at this ⊢
    have h2 := wr_off (enc a') (List.flatMap enc l) (i * s) (enc a)
    rw [hs] at h2
    rw [show (i + 1) * s = s + i * s by rw [Nat.succ_mul]; omega, h2, this]
theorem flat'_ld {α : Type} {enc : α → List Value} {s : Nat} (hs : ∀ a, (enc a).length = s) (d : α) (l : List α) (i : Nat) (hi : i < l.length) : ldV (flat' enc l) (i * s) s = some (enc (l.getD i d)) := by
  have := ldV_of (enc (l.getD i d)) (flat' enc l) (i * s) (fun j hj => flat'_get hs d l i j hi (by rw [hs] at hj; exact hj))
  rwa [hs] at this
theorem mem_getD {α : Type} {l : List α} {x d : α} (h : x ∈ l) : ∃ j, j < l.length ∧ l.getD j d = x := by
  obtain ⟨j, hj, e⟩ := List.getElem_of_mem h
  exact ⟨j, hj, by rw [List.getD_eq_getElem?_getD, List.getElem?_eq_getElem hj]; exact e⟩
theorem getD_mem {α : Type} {l : List α} {d : α} {j : Nat} (h : j < l.length) : l.getD j d ∈ l := by
  rw [List.getD_eq_getElem?_getD, List.getElem?_eq_getElem h]; exact List.getElem_mem h
theorem swap_split {α : Type} (d : α) (l : List α) (i : Nat) (h : i + 1 < l.length) : ∃ p q, l = p ++ l.getD i d :: l.getD (i + 1) d :: q ∧ (l.set i (l.getD (i + 1) d)).set (i + 1) (l.getD i d) = p ++ l.getD (i + 1) d :: l.getD i d :: q := by
  have hl : l = l.take i ++ l.getD i d :: l.getD (i + 1) d :: l.drop (i + 2) := by
    have h1 := (List.take_append_drop i l).symm
    rw [drop_cons d l i (by omega), drop_cons d l (i + 1) h] at h1
    exact h1
  have key : ∀ (p q : List α) (x y : α), ((p ++ x :: y :: q).set p.length y).set (p.length + 1) x = p ++ y :: x :: q := fun p q x y => by
    rw [List.set_append_right _ _ (by omega), Nat.sub_self, List.set_cons_zero, List.set_append_right _ _ (by omega), show p.length + 1 - p.length = 1 by omega]; rfl
  refine ⟨_, _, hl, ?_⟩
  have h2 := key (l.take i) (l.drop (i + 2)) (l.getD i d) (l.getD (i + 1) d)
  rw [← hl, show (l.take i).length = i by simp; omega] at h2
  exact h2
theorem bq1 : (false == true) = false := rfl
theorem bq2 : (true == false) = false := rfl
theorem bq3 : (true == true) = true := rfl
theorem bq4 : (false == false) = true := rfl
end Go.Proofs.YtfkhljgifndbpaaDoor
