/- Counts of who comes most often: plain. -/
namespace Go.Proofs.Ytabcjhpgamhpoaa

/-- Who, and how often. -/
abbrev Ct := Int × Int
def c0 : Ct := (0, 0)
def mx : Int := 1099511627776

/-- The first i counts are in range, and rise. -/
def OkTo (l : List Ct) (i : Nat) : Prop := ∀ j, j < i → (1 ≤ (l.getD j c0).2 ∧ (l.getD j c0).2 ≤ mx) ∧ (0 < j → (l.getD (j - 1) c0).1 < (l.getD j c0).1)
instance (l : List Ct) (i : Nat) : Decidable (OkTo l i) := by unfold OkTo; infer_instance
def Right (k : Int) (l : List Ct) : Prop := (1 ≤ k ∧ k ≤ 400 ∧ (l.length : Int) ≤ k) ∧ OkTo l l.length
instance (k : Int) (l : List Ct) : Decidable (Right k l) := by unfold Right; infer_instance
/-- How many Ids lie below, ahead of the first one that does not. -/
def lb : List Ct → Int → Nat
  | [], _ => 0
  | c :: l, id => if c.1 < id then lb l id + 1 else 0
def lessP (l : List Ct) (n : Int) : List Ct := (l.filter fun c => decide (n < c.2)).map fun c => (c.1, c.2 - n)
def putAt (l : List Ct) (i : Nat) (x : Ct) : List Ct := l.take i ++ x :: l.drop i
def addP (k : Int) (l : List Ct) (id : Int) : List Ct × Int :=
  if Right k l then
    (if lb l id < l.length ∧ (l.getD (lb l id) c0).1 = id then
      (if (l.getD (lb l id) c0).2 = mx then ([], 4) else (l.set (lb l id) ((l.getD (lb l id) c0).1, (l.getD (lb l id) c0).2 + 1), 0))
    else if (l.length : Int) < k then (putAt l (lb l id) (id, 1), 0) else (lessP l 1, 0))
  else ([], 1)
def allGo (k : Int) : List Ct → List Int → List Ct × Int
  | l, [] => (l, 0)
  | l, id :: ids => if (addP k l id).2 = 0 then allGo k (addP k l id).1 ids else ([], (addP k l id).2)
def allP (k : Int) (ids : List Int) : List Ct × Int := if 1 ≤ k ∧ k ≤ 400 then allGo k [] ids else ([], 2)
def cnt : List Ct → Int → Int
  | [], _ => 0
  | c :: l, id => if c.1 = id then c.2 else cnt l id
def times : List Int → Int → Int
  | [], _ => 0
  | x :: l, id => (if x = id then 1 else 0) + times l id
def sum : List Ct → Int
  | [] => 0
  | c :: l => c.2 + sum l

/-! ## Sorted rows -/

/-- Ids rise, all above b; counts are at least 1. -/
def Up : Int → List Ct → Prop
  | _, [] => True
  | b, c :: l => b < c.1 ∧ 1 ≤ c.2 ∧ Up c.1 l
theorem Up.mono {b b' : Int} (h : b' ≤ b) : ∀ {l : List Ct}, Up b l → Up b' l
  | [], _ => trivial
  | c :: l, hu => ⟨by have := hu.1; omega, hu.2⟩
theorem OkTo.up {x : Ct} : ∀ {l : List Ct}, OkTo (x :: l) (l.length + 1) → Up x.1 l ∧ ∀ c ∈ l, c.2 ≤ mx
  | [], _ => ⟨trivial, fun c hc => by cases hc⟩
  | y :: l, h => by
    have h1 := h 1 (by simp)
    have h2 : OkTo (y :: l) (l.length + 1) := fun j hj => by
      have := h (j + 1) (by simpa using hj)
      refine ⟨by simpa using this.1, fun h0 => ?_⟩
      have h3 := this.2 (by omega)
      obtain ⟨j', rfl⟩ : ∃ j', j = j' + 1 := ⟨j - 1, by omega⟩
      simpa using h3
    obtain ⟨u1, u2⟩ := h2.up
    refine ⟨⟨by simpa using h1.2 (by omega), by simpa using h1.1.1, u1⟩, fun c hc => ?_⟩
    rcases List.mem_cons.1 hc with rfl | hc
    · simpa using h1.1.2
    · exact u2 c hc
theorem OkTo.up0 {l : List Ct} (h : OkTo l l.length) : (∃ b, Up b l) ∧ ∀ c ∈ l, c.2 ≤ mx := by
  cases l with
  | nil => exact ⟨⟨0, trivial⟩, fun c hc => by cases hc⟩
  | cons x l =>
    obtain ⟨u1, u2⟩ := OkTo.up h
    have h0 := h 0 (by simp)
    refine ⟨⟨x.1 - 1, by omega, by simpa using h0.1.1, u1⟩, fun c hc => ?_⟩
    rcases List.mem_cons.1 hc with rfl | hc
    · simpa using h0.1.2
    · exact u2 c hc
theorem okTo_up : ∀ {l : List Ct} {b : Int}, Up b l → (∀ c ∈ l, c.2 ≤ mx) → OkTo l l.length
  | [], _, _, _ => fun j hj => by simp at hj
  | x :: l, b, hu, hm => fun j hj => by
    have ih := okTo_up (l := l) hu.2.2 fun c hc => hm c (List.mem_cons_of_mem _ hc)
    cases j with
    | zero => exact ⟨⟨by simpa using hu.2.1, by simpa using hm x List.mem_cons_self⟩, fun h => by omega⟩
    | succ j =>
      have h1 := ih j (by simpa using hj)
      refine ⟨by simpa using h1.1, fun _ => ?_⟩
      cases j with
      | zero =>
        cases l with
        | nil => simp at hj
        | cons y l => simpa using hu.2.2.1
      | succ j => simpa using h1.2 (by omega)

theorem cnt_lt : ∀ {l : List Ct} {b id : Int}, Up b l → id ≤ b → cnt l id = 0
  | [], _, _, _, _ => rfl
  | c :: l, b, id, hu, h => by
    unfold cnt
    rw [if_neg (by have := hu.1; omega)]
    exact cnt_lt hu.2.2 (by have := hu.1; omega)
theorem cnt_nonneg : ∀ {l : List Ct} {b : Int} (id : Int), Up b l → 0 ≤ cnt l id
  | [], _, _, _ => by simp [cnt]
  | c :: l, b, id, hu => by
    unfold cnt
    split
    · have := hu.2.1; omega
    · exact cnt_nonneg id hu.2.2
theorem sum_nonneg : ∀ {l : List Ct} {b : Int}, Up b l → 0 ≤ sum l
  | [], _, _ => by simp [sum]
  | c :: l, b, hu => by have := sum_nonneg hu.2.2; have := hu.2.1; unfold sum; omega
theorem sum_mem : ∀ {l : List Ct} {b : Int}, Up b l → ∀ c ∈ l, c.2 ≤ sum l
  | [], _, _, c, hc => by cases hc
  | x :: l, b, hu, c, hc => by
    have h1 := sum_nonneg hu.2.2
    have h2 := hu.2.1
    unfold sum
    rcases List.mem_cons.1 hc with rfl | hc
    · omega
    · have := sum_mem hu.2.2 c hc; omega
/-- One is there: counted once more. -/
theorem up_set : ∀ {l : List Ct} {b id : Int}, Up b l → lb l id < l.length → (l.getD (lb l id) c0).1 = id →
    Up b (l.set (lb l id) ((l.getD (lb l id) c0).1, (l.getD (lb l id) c0).2 + 1)) ∧ (∀ x, cnt (l.set (lb l id) ((l.getD (lb l id) c0).1, (l.getD (lb l id) c0).2 + 1)) x = cnt l x + if id = x then 1 else 0) ∧
    sum (l.set (lb l id) ((l.getD (lb l id) c0).1, (l.getD (lb l id) c0).2 + 1)) = sum l + 1
  | [], _, _, _, h, _ => by simp at h
  | c :: l, b, id, hu, h1, h2 => by
    unfold lb at h1 h2 ⊢
    by_cases hc : c.1 < id
    · rw [if_pos hc] at h1 h2 ⊢
      have h2' : (l.getD (lb l id) c0).1 = id := by simpa using h2
      obtain ⟨a1, a2, a3⟩ := up_set hu.2.2 (by simpa using h1) h2'
      simp only [List.getD_cons_succ, List.set_cons_succ]
      refine ⟨⟨hu.1, hu.2.1, a1⟩, fun x => ?_, by unfold sum; omega⟩
      unfold cnt
      by_cases hx : c.1 = x
      · rw [if_pos hx, if_pos hx, if_neg (by omega)]; omega
      · rw [if_neg hx, if_neg hx]; exact a2 x
    · rw [if_neg hc] at h1 h2 ⊢
      simp only [List.getD_cons_zero, List.set_cons_zero] at h2 ⊢
      refine ⟨⟨hu.1, by have := hu.2.1; show 1 ≤ c.2 + 1; omega, hu.2.2⟩, fun x => ?_, by simp only [sum]; omega⟩
      simp only [cnt]
      by_cases hx : c.1 = x
      · rw [if_pos hx, if_pos hx, if_pos (by omega)]
      · rw [if_neg hx, if_neg hx, if_neg (by omega)]; omega
/-- One is not there. -/
theorem cnt_none : ∀ {l : List Ct} {b id : Int}, Up b l → ¬ (lb l id < l.length ∧ (l.getD (lb l id) c0).1 = id) → cnt l id = 0
  | [], _, _, _, _ => rfl
  | c :: l, b, id, hu, h => by
    unfold lb at h
    by_cases hc : c.1 < id
    · rw [if_pos hc] at h
      unfold cnt
      rw [if_neg (by omega)]
      exact cnt_none hu.2.2 (by simpa using h)
    · rw [if_neg hc] at h
      have hne : ¬ c.1 = id := fun e => h ⟨by simp, by simpa using e⟩
      unfold cnt
      rw [if_neg hne]
      exact cnt_lt hu.2.2 (by omega)
theorem up_put : ∀ {l : List Ct} {b id : Int}, Up b l → b < id → ¬ (lb l id < l.length ∧ (l.getD (lb l id) c0).1 = id) →
    Up b (putAt l (lb l id) (id, 1)) ∧ (∀ x, cnt (putAt l (lb l id) (id, 1)) x = cnt l x + if id = x then 1 else 0) ∧ sum (putAt l (lb l id) (id, 1)) = sum l + 1
  | [], b, id, _, hb, _ => ⟨⟨hb, by show (1 : Int) ≤ 1; omega, trivial⟩, fun x => by simp [putAt, lb, cnt], by simp [putAt, lb, sum]⟩
  | c :: l, b, id, hu, hb, h => by
    unfold lb at h ⊢
    by_cases hc : c.1 < id
    · rw [if_pos hc] at h ⊢
      obtain ⟨a1, a2, a3⟩ := up_put hu.2.2 hc (by simpa using h)
      have e : putAt (c :: l) (lb l id + 1) (id, 1) = c :: putAt l (lb l id) (id, 1) := by simp [putAt]
      rw [e]
      refine ⟨⟨hu.1, hu.2.1, a1⟩, fun x => ?_, by unfold sum; omega⟩
      unfold cnt
      by_cases hx : c.1 = x
      · rw [if_pos hx, if_pos hx, if_neg (by omega)]; omega
      · rw [if_neg hx, if_neg hx]; exact a2 x
    · rw [if_neg hc] at h ⊢
      have hne : ¬ c.1 = id := fun e => h ⟨by simp, by simpa using e⟩
      have e : putAt (c :: l) 0 (id, 1) = (id, 1) :: c :: l := by simp [putAt]
      rw [e]
      refine ⟨⟨hb, by show (1 : Int) ≤ 1; omega, by show id < c.1; omega, hu.2⟩, fun x => ?_, by simp only [sum]; omega⟩
      simp only [cnt]
      by_cases hx : id = x
      · have : cnt (c :: l) x = 0 := cnt_lt (b := c.1 - 1) ⟨by omega, hu.2⟩ (by omega)
        unfold cnt at this
        rw [if_pos hx, if_pos hx, this]; rfl
      · rw [if_neg hx, if_neg hx]; omega
theorem lessP_cons (c : Ct) (l : List Ct) (n : Int) : lessP (c :: l) n = if n < c.2 then (c.1, c.2 - n) :: lessP l n else lessP l n := by
  unfold lessP
  rw [List.filter_cons]
  by_cases h : n < c.2
  · rw [if_pos (by simpa using h), if_pos h]; rfl
  · rw [if_neg (by simpa using h), if_neg h]
/-- All are counted once less. -/
theorem up_less : ∀ {l : List Ct} {b : Int}, Up b l → Up b (lessP l 1) ∧ (∀ x, cnt (lessP l 1) x ≤ cnt l x ∧ cnt l x ≤ cnt (lessP l 1) x + 1) ∧ sum (lessP l 1) + l.length = sum l ∧ (lessP l 1).length ≤ l.length
  | [], _, _ => ⟨trivial, fun x => by simp [lessP, cnt], by simp [lessP, sum], by simp [lessP]⟩
  | c :: l, b, hu => by
    obtain ⟨a1, a2, a3, a4⟩ := up_less hu.2.2
    have h1 := hu.2.1
    rw [lessP_cons]
    by_cases h : 1 < c.2
    · rw [if_pos h]
      refine ⟨⟨hu.1, by show 1 ≤ c.2 - 1; omega, a1⟩, fun x => ?_, by simp only [sum, List.length_cons]; omega, by simpa using a4⟩
      simp only [cnt]
      by_cases hx : c.1 = x
      · rw [if_pos hx, if_pos hx]; omega
      · rw [if_neg hx, if_neg hx]; exact a2 x
    · rw [if_neg h]
      refine ⟨a1.mono (by have := hu.1; omega), fun x => ?_, by simp only [sum, List.length_cons]; omega, by simp; omega⟩
      simp only [cnt]
      by_cases hx : c.1 = x
      · have := cnt_lt a1 (id := x) (by omega)
        rw [if_pos hx, this]; omega
      · rw [if_neg hx]; exact a2 x

/-! ## All -/

theorem times_app (p : List Int) (id x : Int) : times (p ++ [id]) x = times p x + if id = x then 1 else 0 := by
  induction p with
  | nil => simp [times]
  | cons y p ih => simp only [List.cons_append, times]; omega
/-- What holds of the counts after p: D times all were counted less. -/
structure MG (k : Int) (p : List Int) (l : List Ct) (D : Int) : Prop where
  up : ∃ b, Up b l
  len : (l.length : Int) ≤ k
  lo : ∀ x, cnt l x ≤ times p x
  hi : ∀ x, times p x ≤ cnt l x + D
  sum : sum l + D * (k + 1) = p.length
  nn : 0 ≤ D
theorem up_any {l : List Ct} (h : ∃ b, Up b l) (id : Int) : ∃ b, Up b l ∧ b < id := by
  obtain ⟨b, h⟩ := h
  refine ⟨min b (id - 1), h.mono (by omega), by omega⟩
theorem MG.right {k : Int} {p : List Int} {l : List Ct} {D : Int} (h : MG k p l D) (hk : 1 ≤ k ∧ k ≤ 400) (hp : (p.length : Int) ≤ mx) : Right k l := by
  obtain ⟨b, hu⟩ := h.up
  refine ⟨⟨hk.1, hk.2, h.len⟩, okTo_up hu fun c hc => ?_⟩
  have h1 := sum_mem hu c hc
  have h2 := h.sum
  have h3 : 0 ≤ D * (k + 1) := Int.mul_nonneg h.nn (by omega)
  omega
theorem MG.add {k : Int} {p : List Int} {l : List Ct} {D : Int} (h : MG k p l D) (hk : 1 ≤ k ∧ k ≤ 400) (hp : (p.length : Int) < mx) (id : Int) :
    (addP k l id).2 = 0 ∧ ∃ D', MG k (p ++ [id]) (addP k l id).1 D' ∧ (D' = D ∨ (D' = D + 1 ∧ (l.length : Int) = k ∧ cnt l id = 0)) := by
  have hr := h.right hk (by omega)
  obtain ⟨b, hu, hb⟩ := up_any h.up id
  have hlen : ((p ++ [id]).length : Int) = p.length + 1 := by simp
  unfold addP
  rw [if_pos hr]
  by_cases hf : lb l id < l.length ∧ (l.getD (lb l id) c0).1 = id
  · rw [if_pos hf]
    obtain ⟨a1, a2, a3⟩ := up_set hu hf.1 hf.2
    have hm : ¬ (l.getD (lb l id) c0).2 = mx := fun e => by
      have h1 : l.getD (lb l id) c0 ∈ l := by rw [List.getD_eq_getElem?_getD, List.getElem?_eq_getElem hf.1]; exact List.getElem_mem hf.1
      have h2 := sum_mem hu _ h1
      have h3 := h.sum
      have h4 : 0 ≤ D * (k + 1) := Int.mul_nonneg h.nn (by omega)
      omega
    rw [if_neg hm]
    refine ⟨rfl, D, ⟨⟨b, a1⟩, by simpa using h.len, fun x => ?_, fun x => ?_, ?_, h.nn⟩, .inl rfl⟩
    · show cnt (l.set _ _) x ≤ _; rw [a2, times_app]; have := h.lo x; omega
    · show _ ≤ cnt (l.set _ _) x + D; rw [a2, times_app]; have := h.hi x; omega
    · show Go.Proofs.Ytabcjhpgamhpoaa.sum (l.set _ _) + _ = _; rw [a3, hlen]; have := h.sum; omega
  · rw [if_neg hf]
    by_cases hl : (l.length : Int) < k
    · rw [if_pos hl]
      obtain ⟨a1, a2, a3⟩ := up_put hu hb hf
      refine ⟨rfl, D, ⟨⟨b, a1⟩, ?_, fun x => ?_, fun x => ?_, ?_, h.nn⟩, .inl rfl⟩
      · show ((putAt l _ _).length : Int) ≤ k
        have : (putAt l (lb l id) (id, 1)).length = l.length + 1 := by
          have := congrArg List.length (List.take_append_drop (lb l id) l)
          simp only [putAt, List.length_append, List.length_cons] at this ⊢; omega
        rw [this]; omega
      · show cnt (putAt _ _ _) x ≤ _; rw [a2, times_app]; have := h.lo x; omega
      · show _ ≤ cnt (putAt _ _ _) x + D; rw [a2, times_app]; have := h.hi x; omega
      · show Go.Proofs.Ytabcjhpgamhpoaa.sum (putAt _ _ _) + _ = _; rw [a3, hlen]; have := h.sum; omega
    · rw [if_neg hl]
      obtain ⟨a1, a2, a3, a4⟩ := up_less hu
      have hc := cnt_none hu hf
      have hle := h.len
      have hlk : (l.length : Int) = k := by omega
      refine ⟨rfl, D + 1, ⟨⟨b, a1⟩, ?_, fun x => ?_, fun x => ?_, ?_, by have := h.nn; omega⟩, .inr ⟨rfl, hlk, hc⟩⟩
      · show ((lessP l 1).length : Int) ≤ k; omega
      · show cnt (lessP l 1) x ≤ _; rw [times_app]; have := h.lo x; have := (a2 x).1; split <;> omega
      · show _ ≤ cnt (lessP l 1) x + (D + 1); rw [times_app]; have := h.hi x; have := (a2 x).2
        by_cases hx : id = x
        · subst hx
          have hn := cnt_nonneg id a1
          rw [if_pos rfl]; omega
        · rw [if_neg hx]; omega
      · show Go.Proofs.Ytabcjhpgamhpoaa.sum (lessP l 1) + _ = _
        rw [hlen, Int.add_mul, Int.one_mul]; have := h.sum; omega
theorem MG.go {k : Int} (hk : 1 ≤ k ∧ k ≤ 400) : ∀ {ids p : List Int} {l : List Ct} {D : Int}, MG k p l D → ((p ++ ids).length : Int) ≤ mx → (allGo k l ids).2 = 0 ∧ ∃ D', MG k (p ++ ids) (allGo k l ids).1 D'
  | [], p, l, D, h, _ => ⟨rfl, D, by simpa [allGo] using h⟩
  | id :: ids, p, l, D, h, hl => by
    obtain ⟨e, D', h', _⟩ := h.add hk (by simp at hl; omega) id
    unfold allGo
    rw [if_pos e]
    have := MG.go hk (ids := ids) h' (by simpa using hl)
    rwa [List.append_assoc] at this
theorem all_MG (k : Int) (ids : List Int) (hk : 1 ≤ k ∧ k ≤ 400) (hl : (ids.length : Int) ≤ mx) : (allP k ids).2 = 0 ∧ ∃ D, MG k ids (allP k ids).1 D := by
  unfold allP
  rw [if_pos hk]
  have := MG.go hk (ids := ids) (p := []) (l := []) (D := 0) ⟨⟨0, trivial⟩, by simp; omega, fun x => by simp [cnt, times], fun x => by simp [cnt, times], by simp [sum], by omega⟩ (by simpa using hl)
  simpa using this
theorem all_bad (k : Int) (ids : List Int) (hk : ¬ (1 ≤ k ∧ k ≤ 400)) : allP k ids = ([], 2) := by unfold allP; rw [if_neg hk]
theorem times_nonneg (p : List Int) (x : Int) : 0 ≤ times p x := by
  induction p with
  | nil => simp [times]
  | cons y p ih => unfold times; split <;> omega
theorem times_le (p : List Int) (x : Int) : times p x ≤ p.length := by
  induction p with
  | nil => simp [times]
  | cons y p ih => simp only [times, List.length_cons]; split <;> omega
/-- HeavyNear, plain. -/
theorem near (k : Int) (ids : List Int) (hk : 1 ≤ k ∧ k ≤ 400) (hl : (ids.length : Int) ≤ mx) (id : Int) :
    (allP k ids).2 = 0 ∧ 0 ≤ cnt (allP k ids).1 id ∧ cnt (allP k ids).1 id ≤ times ids id ∧ (times ids id - cnt (allP k ids).1 id) * (k + 1) ≤ ids.length ∧ Right k (allP k ids).1 := by
  obtain ⟨h1, D, h2⟩ := all_MG k ids hk hl
  obtain ⟨b, hu⟩ := h2.up
  refine ⟨h1, cnt_nonneg id hu, h2.lo id, ?_, h2.right hk hl⟩
  have h3 := h2.hi id
  have h4 := h2.sum
  have h5 := sum_nonneg hu
  have h6 : (times ids id - cnt (allP k ids).1 id) * (k + 1) ≤ D * (k + 1) := Int.mul_le_mul_of_nonneg_right (by omega) (by omega)
  omega
theorem cnt_mem : ∀ {l : List Ct} {x : Int}, cnt l x ≠ 0 → ∃ c ∈ l, c.1 = x
  | [], _, h => absurd rfl h
  | c :: l, x, h => by
    unfold cnt at h
    split at h
    · rename_i e; exact ⟨c, List.mem_cons_self, e⟩
    · obtain ⟨y, h1, h2⟩ := cnt_mem h
      exact ⟨y, List.mem_cons_of_mem _ h1, h2⟩
/-- HeavyMost, plain. -/
theorem most (ids : List Int) (hl : (ids.length : Int) ≤ mx) : (allP 1 ids).2 = 0 ∧ (allP 1 ids).1.length ≤ 1 ∧ ∀ id, 2 * times ids id > ids.length → (allP 1 ids).1.length = 1 ∧ ((allP 1 ids).1.getD 0 c0).1 = id := by
  obtain ⟨h1, D, h2⟩ := all_MG 1 ids (by omega) hl
  obtain ⟨b, hu⟩ := h2.up
  have hlen := h2.len
  refine ⟨h1, by omega, fun id hid => ?_⟩
  have h3 := h2.hi id
  have h4 := h2.sum
  have h5 := sum_nonneg hu
  have hne : cnt (allP 1 ids).1 id ≠ 0 := by omega
  obtain ⟨c, hc, e⟩ := cnt_mem hne
  revert hc hlen
  generalize (allP 1 ids).1 = l
  intro hlen hc
  match l, hlen, hc with
  | [x], _, hc =>
    have : c = x := by simpa using hc
    subst this
    exact ⟨rfl, e⟩
  | x :: y :: l, hlen, _ => simp at hlen; omega
end Go.Proofs.Ytabcjhpgamhpoaa
