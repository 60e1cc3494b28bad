import Derived.Test.YtabcjhpgamhpoaaPlain3
/- Counts joined: plain. -/
namespace Go.Proofs.Ytabcjhpgamhpoaa

/-- How often in all. -/
def tot : List Ct → Int → Int
  | [], _ => 0
  | c :: l, x => (if c.1 = x then c.2 else 0) + tot l x
theorem tot_app (a b : List Ct) (x : Int) : tot (a ++ b) x = tot a x + tot b x := by
  induction a with
  | nil => simp [tot]
  | cons c a ih => simp only [List.cons_append, tot, ih]; omega
theorem tot_low : ∀ {l : List Ct} {b x : Int}, Up b l → x ≤ b → tot l x = 0
  | [], _, _, _, _ => rfl
  | c :: l, b, x, h, hx => by
    unfold tot
    rw [if_neg (by have := h.1; omega), tot_low h.2.2 (by have := h.1; omega)]; rfl
theorem tot_cnt : ∀ {l : List Ct} {b : Int}, Up b l → ∀ x, tot l x = cnt l x
  | [], _, _, _ => rfl
  | c :: l, b, h, x => by
    unfold tot cnt
    by_cases hx : c.1 = x
    · rw [if_pos hx, if_pos hx, tot_low h.2.2 (by omega)]; omega
    · rw [if_neg hx, if_neg hx, tot_cnt h.2.2 x]; omega
def insC (c : Ct) : List Ct → List Ct
  | [] => [c]
  | y :: l => if c.1 < y.1 then c :: y :: l else if c.1 = y.1 then (y.1, y.2 + c.2) :: l else y :: insC c l
theorem insC_up : ∀ {l : List Ct} {b : Int} {c : Ct}, Up b l → b < c.1 → 1 ≤ c.2 → Up b (insC c l) ∧ (∀ x, cnt (insC c l) x = cnt l x + if c.1 = x then c.2 else 0) ∧ sum (insC c l) = sum l + c.2
  | [], b, c, _, hb, hc => ⟨⟨hb, hc, trivial⟩, fun x => by simp only [insC, cnt]; split <;> omega, by simp [insC, sum]⟩
  | y :: l, b, c, hu, hb, hc => by
    unfold insC
    by_cases h1 : c.1 < y.1
    · rw [if_pos h1]
      refine ⟨⟨hb, hc, h1, hu.2⟩, fun x => ?_, by simp only [sum]; omega⟩
      simp only [cnt]
      by_cases hx : c.1 = x
      · rw [if_pos hx, if_pos hx, if_neg (by omega), cnt_lt hu.2.2 (by omega)]; omega
      · rw [if_neg hx, if_neg hx]; omega
    · rw [if_neg h1]
      by_cases h2 : c.1 = y.1
      · rw [if_pos h2]
        refine ⟨⟨hu.1, by have := hu.2.1; show 1 ≤ y.2 + c.2; omega, hu.2.2⟩, fun x => ?_, by simp only [sum]; omega⟩
        simp only [cnt]
        by_cases hx : y.1 = x
        · rw [if_pos hx, if_pos hx, if_pos (by omega)]
        · rw [if_neg hx, if_neg hx, if_neg (by omega)]; omega
      · rw [if_neg h2]
        obtain ⟨a1, a2, a3⟩ := insC_up (c := c) hu.2.2 (by omega) hc
        refine ⟨⟨hu.1, hu.2.1, a1⟩, fun x => ?_, by simp only [sum]; omega⟩
        simp only [cnt]
        by_cases hx : y.1 = x
        · rw [if_pos hx, if_pos hx, if_neg (by omega)]; omega
        · rw [if_neg hx, if_neg hx]; exact a2 x
/-- All together, Ids rising. -/
def mrg : List Ct → List Ct
  | [] => []
  | c :: l => insC c (mrg l)
theorem mrg_up : ∀ {l : List Ct}, (∀ c ∈ l, 1 ≤ c.2) → (∃ b, Up b (mrg l)) ∧ (∀ x, cnt (mrg l) x = tot l x) ∧ True
  | [], _ => ⟨⟨0, trivial⟩, fun x => rfl, trivial⟩
  | c :: l, h => by
    obtain ⟨⟨b, h1⟩, h2, _⟩ := mrg_up (l := l) fun c hc => h c (List.mem_cons_of_mem _ hc)
    obtain ⟨b', h3, h4⟩ := up_any ⟨b, h1⟩ c.1
    obtain ⟨a1, a2, a3⟩ := insC_up (c := c) h3 h4 (h c List.mem_cons_self)
    refine ⟨⟨b', a1⟩, fun x => ?_, trivial⟩
    show cnt (insC c (mrg l)) x = _
    rw [a2, h2, tot]; omega
theorem mrg_sum : ∀ {l : List Ct}, (∀ c ∈ l, 1 ≤ c.2) → sum (mrg l) = sum l
  | [], _ => rfl
  | c :: l, h => by
    obtain ⟨⟨b, h1⟩, h2, _⟩ := mrg_up (l := l) fun c hc => h c (List.mem_cons_of_mem _ hc)
    obtain ⟨b', h3, h4⟩ := up_any ⟨b, h1⟩ c.1
    obtain ⟨_, _, a3⟩ := insC_up (c := c) h3 h4 (h c List.mem_cons_self)
    show sum (insC c (mrg l)) = _
    rw [a3, mrg_sum fun c hc => h c (List.mem_cons_of_mem _ hc), sum]; omega
theorem sum_app (a b : List Ct) : sum (a ++ b) = sum a + sum b := by
  induction a with
  | nil => simp [sum]
  | cons c a ih => simp only [List.cons_append, sum, ih]; omega
/-- The row is known by its counts. -/
theorem up_uniq : ∀ {l m : List Ct} {b : Int}, Up b l → Up b m → (∀ x, cnt l x = cnt m x) → l = m
  | [], [], _, _, _, _ => rfl
  | [], y :: m, b, _, hm, h => by
    have := h y.1
    rw [hm.cnt y List.mem_cons_self] at this
    have := hm.2.1
    simp only [cnt] at *; omega
  | x :: l, [], b, hl, _, h => by
    have := h x.1
    rw [hl.cnt x List.mem_cons_self] at this
    have := hl.2.1
    simp only [cnt] at *; omega
  | x :: l, y :: m, b, hl, hm, h => by
    have h1 := h x.1
    have h2 := h y.1
    rw [hl.cnt x List.mem_cons_self] at h1
    rw [hm.cnt y List.mem_cons_self] at h2
    have px := hl.2.1
    have py := hm.2.1
    have hxy : x.1 = y.1 := by
      rcases Int.lt_trichotomy x.1 y.1 with e | e | e
      · have : cnt (y :: m) x.1 = 0 := cnt_lt (b := y.1 - 1) ⟨by omega, hm.2⟩ (by omega)
        omega
      · exact e
      · have : cnt (x :: l) y.1 = 0 := cnt_lt (b := x.1 - 1) ⟨by omega, hl.2⟩ (by omega)
        omega
    have hv : x.2 = y.2 := by
      rw [cnt, if_pos hxy.symm] at h1; exact h1
    have hxe : x = y := Prod.ext hxy hv
    subst hxe
    congr 1
    refine up_uniq hl.2.2 hm.2.2 fun z => ?_
    have := h z
    simp only [cnt] at this
    by_cases hz : x.1 = z
    · rw [← hz, cnt_lt hl.2.2 (Int.le_refl _), cnt_lt hm.2.2 (Int.le_refl _)]
    · rwa [if_neg hz, if_neg hz] at this
theorem up_eq {l m : List Ct} (hl : ∃ b, Up b l) (hm : ∃ b, Up b m) (h : ∀ x, cnt l x = cnt m x) : l = m := by
  obtain ⟨b, hl⟩ := hl
  obtain ⟨b', hm⟩ := hm
  exact up_uniq (b := min b b') (hl.mono (by omega)) (hm.mono (by omega)) h
theorem sorted_eq : ∀ {l m : List Int}, l.Pairwise (fun a b => a ≤ b) → m.Pairwise (fun a b => a ≤ b) → l.Perm m → l = m
  | [], m, _, _, h => by have := h.length_eq; simp at this; exact (List.eq_nil_of_length_eq_zero this.symm).symm
  | x :: l, [], _, _, h => by have := h.length_eq; simp at this
  | x :: l, y :: m, hl, hm, h => by
    rw [List.pairwise_cons] at hl hm
    have h1 : y ≤ x := by
      rcases List.mem_cons.1 (h.mem_iff.1 List.mem_cons_self) with e | e
      · omega
      · exact hm.1 x e
    have h2 : x ≤ y := by
      rcases List.mem_cons.1 (h.mem_iff.2 (List.mem_cons_self (a := y) (l := m))) with e | e
      · omega
      · exact hl.1 y e
    obtain rfl : x = y := by omega
    rw [sorted_eq hl.2 hm.2 (List.Perm.cons_inv h)]

/-! ## What all lose -/

def minS : List Int → Int → Int
  | [], _ => 0
  | s :: l, v => (if v < s then v else s) + minS l v
theorem minS_perm {l m : List Int} (h : l.Perm m) (v : Int) : minS l v = minS m v := by
  induction h with
  | nil => rfl
  | cons x _ ih => simp only [minS, ih]
  | swap x y l => simp only [minS]; omega
  | trans _ _ ih1 ih2 => rw [ih1, ih2]
theorem minS_app (a b : List Int) (v : Int) : minS (a ++ b) v = minS a v + minS b v := by
  induction a with
  | nil => simp [minS]
  | cons c a ih => simp only [List.cons_append, minS, ih]; omega
theorem minS_nonneg {v : Int} (hv : 0 ≤ v) : ∀ {l : List Int}, (∀ s ∈ l, 0 ≤ s) → 0 ≤ minS l v
  | [], _ => by simp [minS]
  | s :: l, h => by
    have := minS_nonneg hv (l := l) fun s hs => h s (List.mem_cons_of_mem _ hs)
    have := h s List.mem_cons_self
    unfold minS; split <;> omega
theorem minS_all {v : Int} : ∀ {l : List Int}, (∀ s ∈ l, v ≤ s) → minS l v = v * l.length
  | [], _ => by simp [minS]
  | s :: l, h => by
    have h1 := minS_all (l := l) fun s hs => h s (List.mem_cons_of_mem _ hs)
    have h2 := h s List.mem_cons_self
    unfold minS
    rw [h1, List.length_cons, show ((l.length + 1 : Nat) : Int) = (l.length : Int) + 1 by omega, Int.mul_add, Int.mul_one]
    split <;> omega
theorem lessP_sum (v : Int) : ∀ l : List Ct, sum (lessP l v) + minS (l.map (·.2)) v = sum l
  | [] => by simp [lessP, sum, minS]
  | c :: l => by
    have ih := lessP_sum v l
    rw [lessP_cons, List.map_cons, minS]
    by_cases h : v < c.2
    · rw [if_pos h, if_pos h]; simp only [sum]; omega
    · rw [if_neg h, if_neg h]; simp only [sum]; omega
theorem lessP_length (v : Int) : ∀ l : List Ct, (lessP l v).length = ((l.map (·.2)).filter fun s => decide (v < s)).length
  | [] => rfl
  | c :: l => by
    rw [lessP_cons, List.map_cons, List.filter_cons]
    by_cases h : v < c.2
    · rw [if_pos h, if_pos (by simpa using h), List.length_cons, List.length_cons, lessP_length v l]
    · rw [if_neg h, if_neg (by simpa using h), lessP_length v l]
theorem up_lessV {v : Int} (hv : 0 ≤ v) : ∀ {l : List Ct} {b : Int}, Up b l → Up b (lessP l v) ∧ ∀ x, cnt (lessP l v) x ≤ cnt l x ∧ cnt l x ≤ cnt (lessP l v) x + v
  | [], _, _ => ⟨trivial, fun x => by simp [lessP, cnt]; exact hv⟩
  | c :: l, b, hu => by
    obtain ⟨a1, a2⟩ := up_lessV hv hu.2.2
    have h1 := hu.2.1
    rw [lessP_cons]
    by_cases h : v < c.2
    · rw [if_pos h]
      refine ⟨⟨hu.1, by show 1 ≤ c.2 - v; omega, a1⟩, fun x => ?_⟩
      simp only [cnt]
      by_cases hx : c.1 = x
      · rw [if_pos hx, if_pos hx]; omega
      · rw [if_neg hx, if_neg hx]; exact a2 x
    · rw [if_neg h]
      refine ⟨a1.mono (by have := hu.1; omega), fun x => ?_⟩
      simp only [cnt]
      by_cases hx : c.1 = x
      · have := cnt_lt a1 (id := x) (by omega)
        rw [if_pos hx, this]; omega
      · rw [if_neg hx]; exact a2 x
/-- The one that so many are above. -/
def vth (k : Nat) (M : List Ct) : Int := (sortP (M.map (·.2))).getD (M.length - 1 - k) 0
def joinR (k : Nat) (M : List Ct) : List Ct := if M.length ≤ k then M else lessP M (vth k M)
theorem vth_props {k : Nat} {M : List Ct} (hk : k < M.length) (h1 : ∀ c ∈ M, 1 ≤ c.2) : 1 ≤ vth k M ∧ (∃ c ∈ M, vth k M = c.2) ∧ (lessP M (vth k M)).length ≤ k ∧ sum (lessP M (vth k M)) + vth k M * (k + 1) ≤ sum M := by
  have hp := sortP_perm (M.map (·.2))
  have hs := sortP_le (M.map (·.2))
  have hl : (sortP (M.map (·.2))).length = M.length := by rw [hp.length_eq, List.length_map]
  have hpos : ∀ s ∈ sortP (M.map (·.2)), 1 ≤ s := fun s hs' => by
    obtain ⟨c, hc, rfl⟩ := List.mem_map.1 (hp.mem_iff.1 hs')
    exact h1 c hc
  have hi : M.length - 1 - k < (sortP (M.map (·.2))).length := by omega
  have hv : vth k M = (sortP (M.map (·.2)))[M.length - 1 - k] := by
    unfold vth; rw [List.getD_eq_getElem?_getD, List.getElem?_eq_getElem hi]; rfl
  have hmem : vth k M ∈ sortP (M.map (·.2)) := by rw [hv]; exact List.getElem_mem _
  have hv1 := hpos _ hmem
  refine ⟨hv1, ?_, ?_, ?_⟩
  · obtain ⟨c, hc, e⟩ := List.mem_map.1 (hp.mem_iff.1 hmem)
    exact ⟨c, hc, e.symm⟩
  · rw [lessP_length, ← (hp.filter _).length_eq]
    generalize hS : sortP (M.map (·.2)) = S at *
    generalize hV : vth k M = v at *
    have e : S = S.take (M.length - k) ++ S.drop (M.length - k) := (List.take_append_drop _ _).symm
    rw [e, List.filter_append, List.length_append]
    have f1 : (S.take (M.length - k)).filter (fun s => decide (v < s)) = [] := by
      rw [List.filter_eq_nil_iff]
      intro s hs'
      obtain ⟨j, hj, rfl⟩ := List.getElem_of_mem hs'
      rw [List.length_take] at hj
      rw [List.getElem_take]
      have : S[j] ≤ S[M.length - 1 - k] := by
        by_cases ej : j = M.length - 1 - k
        · subst ej; exact Int.le_refl _
        · exact List.pairwise_iff_getElem.1 hs j (M.length - 1 - k) (by omega) hi (by omega)
      simp; omega
    have f2 := List.length_filter_le (fun s => decide (v < s)) (S.drop (M.length - k))
    rw [List.length_drop] at f2
    rw [f1, List.length_nil]; omega
  · have h2 := lessP_sum (vth k M) M
    rw [← minS_perm hp] at h2
    generalize hS : sortP (M.map (·.2)) = S at *
    generalize hV : vth k M = v at *
    have e : S = S.take (M.length - 1 - k) ++ S.drop (M.length - 1 - k) := (List.take_append_drop _ _).symm
    have h3 : minS (S.drop (M.length - 1 - k)) v = v * ((S.drop (M.length - 1 - k)).length) := minS_all fun s hs' => by
      obtain ⟨j, hj, rfl⟩ := List.getElem_of_mem hs'
      rw [List.getElem_drop]
      rw [hv]
      by_cases ej : j = 0
      · subst ej; exact Int.le_refl _
      · exact List.pairwise_iff_getElem.1 hs (M.length - 1 - k) (M.length - 1 - k + j) hi (by simp at hj; omega) (by omega)
    have h4 : 0 ≤ minS (S.take (M.length - 1 - k)) v := minS_nonneg (by omega) fun s hs' => by have := hpos s (List.mem_of_mem_take hs'); omega
    have h5 : minS S v = minS (S.take (M.length - 1 - k)) v + minS (S.drop (M.length - 1 - k)) v := by
      conv => lhs; rw [e]
      exact minS_app _ _ _
    have h6 : ((S.drop (M.length - 1 - k)).length : Int) = (k : Int) + 1 := by rw [List.length_drop]; omega
    rw [h6] at h3
    omega
/-- HeavyJoined, plain. -/
theorem joined {k : Nat} {x y : List Int} {a b : List Ct} {D1 D2 : Int} (hk : 1 ≤ k ∧ k ≤ 400) (ha : MG k x a D1) (hb : MG k y b D2) (hl : (x.length : Int) + y.length ≤ mx) (id : Int) :
    0 ≤ cnt (joinR k (mrg (a ++ b))) id ∧ cnt (joinR k (mrg (a ++ b))) id ≤ times x id + times y id ∧
    (times x id + times y id - cnt (joinR k (mrg (a ++ b))) id) * (k + 1) ≤ x.length + y.length ∧ Right k (joinR k (mrg (a ++ b))) ∧ mrg (b ++ a) = mrg (a ++ b) ∧
    ∀ c ∈ mrg (a ++ b), 1 ≤ c.2 ∧ c.2 ≤ mx := by
  obtain ⟨b1, hu1⟩ := ha.up
  obtain ⟨b2, hu2⟩ := hb.up
  have hpos : ∀ c ∈ a ++ b, 1 ≤ c.2 := fun c hc => by
    rcases List.mem_append.1 hc with hc | hc
    · exact (hu1.gt c hc).2
    · exact (hu2.gt c hc).2
  have hpos2 : ∀ c ∈ b ++ a, 1 ≤ c.2 := fun c hc => hpos c (by rcases List.mem_append.1 hc with hc | hc; exact List.mem_append_right _ hc; exact List.mem_append_left _ hc)
  obtain ⟨hM, hc, _⟩ := mrg_up hpos
  obtain ⟨hM2, hc2, _⟩ := mrg_up hpos2
  have hsum : sum (mrg (a ++ b)) = sum a + sum b := by rw [mrg_sum hpos, sum_app]
  have hsw : mrg (b ++ a) = mrg (a ++ b) := up_eq hM2 hM fun z => by rw [hc, hc2, tot_app, tot_app]; omega
  have hcn : cnt (mrg (a ++ b)) id = cnt a id + cnt b id := by rw [hc, tot_app, tot_cnt hu1, tot_cnt hu2]
  obtain ⟨b3, hu3⟩ := hM
  have s1 := ha.sum
  have s2 := hb.sum
  have l1 := ha.lo id
  have l2 := hb.lo id
  have g1 := ha.hi id
  have g2 := hb.hi id
  have n1 := ha.nn
  have n2 := hb.nn
  have m1 : 0 ≤ D1 * ((k : Int) + 1) := Int.mul_nonneg n1 (by omega)
  have m2 : 0 ≤ D2 * ((k : Int) + 1) := Int.mul_nonneg n2 (by omega)
  have hb3 : ∀ c ∈ mrg (a ++ b), 1 ≤ c.2 ∧ c.2 ≤ mx := fun c hc => ⟨(hu3.gt c hc).2, by have := sum_mem hu3 c hc; omega⟩
  unfold joinR
  by_cases hle : (mrg (a ++ b)).length ≤ k
  · rw [if_pos hle]
    refine ⟨cnt_nonneg id hu3, by omega, ?_, right_of (by omega) ⟨b3, hu3⟩ (by omega) fun c hc => (hb3 c hc).2, hsw, hb3⟩
    have h0 := sum_nonneg hu3
    have h6 : (times x id + times y id - cnt (mrg (a ++ b)) id) * ((k : Int) + 1) ≤ (D1 + D2) * ((k : Int) + 1) := Int.mul_le_mul_of_nonneg_right (by omega) (by omega)
    rw [Int.add_mul] at h6
    omega
  · rw [if_neg hle]
    obtain ⟨v1, _, v2, v3⟩ := vth_props (k := k) (M := mrg (a ++ b)) (by omega) fun c hc => (hb3 c hc).1
    generalize vth k (mrg (a ++ b)) = v at *
    obtain ⟨u1, u2⟩ := up_lessV (by omega : 0 ≤ v) hu3
    have u3 := u2 id
    have h0 := sum_nonneg u1
    refine ⟨cnt_nonneg id u1, by omega, ?_, right_of (by omega) ⟨b3, u1⟩ (by omega) fun c hc => ?_, hsw, hb3⟩
    · have h6 : (times x id + times y id - cnt (lessP (mrg (a ++ b)) v) id) * ((k : Int) + 1) ≤ (D1 + D2 + v) * ((k : Int) + 1) := Int.mul_le_mul_of_nonneg_right (by omega) (by omega)
      rw [Int.add_mul, Int.add_mul] at h6
      omega
    · obtain ⟨c', hc', e⟩ := List.mem_map.1 (show c ∈ ((mrg (a ++ b)).filter fun c => decide (v < c.2)).map (fun c => (c.1, c.2 - v)) from hc)
      have h1 := (hb3 c' (List.mem_filter.1 hc').1).2
      rw [← e]; show c'.2 - v ≤ _; omega
end Go.Proofs.Ytabcjhpgamhpoaa
