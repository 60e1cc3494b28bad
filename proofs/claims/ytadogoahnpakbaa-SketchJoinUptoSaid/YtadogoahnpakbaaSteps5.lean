import Derived.Test.YtadogoahnpakbaaSteps4
/- what was counted, as sums -/
set_option linter.unusedSimpArgs false
set_option linter.unusedVariables false
set_option maxHeartbeats 1000000
set_option maxRecDepth 20000
namespace Go.Proofs.Ytadogoahnpakbaa

theorem add_get {b : Bool} {l : List Int} {R W : Nat} {x n : Int} (hW : 1 ≤ W) (hl : l.length = R * W) (j : Nat) : (addL b l (pls W R x) n).getD j 0 = if j ∈ pls W R x then more b (least l (pls W R x)) n (l.getD j 0) else l.getD j 0 :=
  put_get _ _ _ (places_nodup (pl_lt hW) x R) (fun k hk => by rw [hl]; exact places_lt (pl_lt hW) hk) j
theorem cnt_len (b : Bool) (R W : Nat) : ∀ l : List C, (cnt b R W l).length = R * W := by
  apply snoc_ind
  · exact zeros_length _
  · intro l c ih; rw [cnt_snoc]; unfold addL; rw [put_length, ih]
theorem cnt_get {R W : Nat} (hW : 1 ≤ W) (j : Nat) : ∀ l : List C, (cnt false R W l).getD j 0 = tot (fun id => j ∈ pls W R (uid id)) l := by
  apply snoc_ind
  · exact zeros_get _ _
  · intro l c ih
    rw [cnt_snoc, add_get hW (cnt_len _ _ _ _), tot_snoc, ← ih]
    split
    · simp [more]
    · simp
theorem pls_mem {R W : Nat} {x : Int} {r p : Nat} (hW : 1 ≤ W) (hr : r < R) (hp : p < W) : r * W + p ∈ pls W R x ↔ p = pl W r x := by
  rw [mem_places]
  constructor
  · rintro ⟨q, _, e⟩
    have := row_inj hp (pl_lt hW q x) e
    rw [this.1]; exact this.2
  · rintro rfl; exact ⟨r, hr, rfl⟩
theorem sum_ite (f : Nat → Int) (q : Nat) (n : Int) : ∀ m : Nat, ((List.range m).map fun p => f p + if p = q then n else 0).sum = ((List.range m).map f).sum + if q < m then n else 0
  | 0 => by simp
  | m + 1 => by
    rw [List.range_succ, List.map_append, List.map_append, List.sum_append, List.sum_append, sum_ite f q n m]
    simp only [List.map_cons, List.map_nil, List.sum_cons, List.sum_nil]
    by_cases h1 : q < m
    · simp only [h1, show ¬ m = q by omega, show q < m + 1 by omega, if_true, if_false]; omega
    · by_cases h2 : m = q
      · simp only [h1, h2, show q < q + 1 by omega, if_true, if_false]; split <;> omega
      · simp only [h1, h2, show ¬ q < m + 1 by omega, if_true, if_false]; omega
def rowSum (W : Nat) (L : List Int) (r : Nat) : Int := ((List.range W).map fun p => L.getD (r * W + p) 0).sum
/-- Each row counts all. -/
theorem row_all {R W : Nat} (hW : 1 ≤ W) {r : Nat} (hr : r < R) : ∀ l : List C, rowSum W (cnt false R W l) r = tot (fun _ => True) l := by
  apply snoc_ind
  · unfold rowSum
    have : ((List.range W).map fun p => (cnt false R W []).getD (r * W + p) 0) = (List.range W).map fun _ => 0 := List.map_congr_left fun p _ => zeros_get _ _
    rw [this, tot_nil]
    have : ∀ m : Nat, ((List.range m).map fun _ => (0 : Int)).sum = 0 := fun m => by
      induction m with
      | zero => rfl
      | succ m ih => rw [List.range_succ, List.map_append, List.sum_append, ih]; rfl
    exact this W
  · intro l c ih
    rw [tot_snoc, ← ih]
    unfold rowSum
    have : ((List.range W).map fun p => (cnt false R W (l ++ [c])).getD (r * W + p) 0) = (List.range W).map fun p => (cnt false R W l).getD (r * W + p) 0 + if p = pl W r (uid c.id) then c.n else 0 := List.map_congr_left fun p hp => by
      rw [cnt_snoc, add_get hW (cnt_len _ _ _ _)]
      have hm := pls_mem (R := R) (x := uid c.id) hW hr (List.mem_range.1 hp)
      by_cases h : p = pl W r (uid c.id)
      · rw [if_pos (hm.2 h), if_pos h]; simp [more]
      · rw [if_neg (fun h' => h (hm.1 h')), if_neg h]; simp
    rw [this, sum_ite, if_pos (pl_lt hW _ _), if_pos trivial]
theorem sum_le {B : Int} {L : List Int} (h : ∀ x ∈ L, 0 ≤ x ∧ x ≤ B) : 0 ≤ L.sum ∧ L.sum ≤ B * L.length := by
  induction L with
  | nil => simp
  | cons x L ih =>
    have h1 := ih fun y hy => h y (by simp [hy])
    have h2 := h x (by simp)
    simp only [List.sum_cons, List.length_cons]
    rw [show B * ((L.length + 1 : Nat) : Int) = B * L.length + B by rw [Int.natCast_add, Int.mul_add]; simp]
    omega
theorem tot_take {P : Int → Prop} [DecidablePred P] {l : List C} (h : ∀ c ∈ l, 0 ≤ c.n) (i : Nat) : 0 ≤ tot P (l.take i) ∧ tot P (l.take i) ≤ tot P l := by
  have h1 := tot_app P (l.take i) (l.drop i)
  rw [List.take_append_drop] at h1
  have h2 := tot_nonneg P (l := l.drop i) fun c hc => h c (List.mem_of_mem_drop hc)
  have h3 := tot_nonneg P (l := l.take i) fun c hc => h c (List.mem_of_mem_take hc)
  omega
/-- All that was counted is not much. -/
theorem all_le {R W : Nat} (hR : 1 ≤ R) (hW : 1 ≤ W ∧ W ≤ 64) {l : List C} (hf : fits (cnt false R W l)) : tot (fun _ => True) l ≤ 70368744177664 := by
  rw [← row_all hW.1 (show 0 < R by omega) l]
  unfold rowSum
  have := sum_le (B := 1099511627776) (L := (List.range W).map fun p => (cnt false R W l).getD (0 * W + p) 0) fun x hx => by
    obtain ⟨p, _, rfl⟩ := List.mem_map.1 hx
    exact hf _
  simp only [List.length_map, List.length_range] at this
  omega
/-- Carefully: never more than not, and never less than its own. -/
theorem careful {R W : Nat} (hR : 1 ≤ R) (hW : 1 ≤ W) : ∀ l : List C, (∀ c ∈ l, 0 ≤ c.n) → (∀ j, 0 ≤ (cnt true R W l).getD j 0 ∧ (cnt true R W l).getD j 0 ≤ (cnt false R W l).getD j 0) ∧ ∀ x : Int, ∀ j ∈ pls W R x, tot (fun id => uid id = x) l ≤ (cnt true R W l).getD j 0 := by
  apply snoc_ind
  · intro _
    refine ⟨fun j => ?_, fun x j _ => ?_⟩
    · rw [show cnt true R W [] = zeros (R * W) from rfl, show cnt false R W [] = zeros (R * W) from rfl, zeros_get]; omega
    · rw [tot_nil, show cnt true R W [] = zeros (R * W) from rfl, zeros_get]; omega
  · intro l c ih hn
    obtain ⟨h1, h2⟩ := ih fun c hc => hn c (by simp [hc])
    have hc := hn c (by simp)
    have hls := least_spec (cnt true R W l) (fun j => (h1 j).1) (pls W R (uid c.id))
    have hne : pls W R (uid c.id) ≠ [] := fun e => by
      have := places_length W (pl W) R (uid c.id)
      rw [show places W (pl W) R (uid c.id) = [] from e] at this
      simp at this; omega
    rcases hls with ⟨h, _⟩ | ⟨d, hd, hd2, hd3⟩
    · exact (hne h).elim
    · refine ⟨fun j => ?_, fun x j hj => ?_⟩
      · rw [cnt_snoc, cnt_snoc, add_get hW (cnt_len _ _ _ _), add_get hW (cnt_len _ _ _ _)]
        have := h1 j
        by_cases hm : j ∈ pls W R (uid c.id)
        · rw [if_pos hm, if_pos hm]
          have := hd3 j hm
          simp only [more, if_true, Bool.false_eq_true, if_false]
          omega
        · rw [if_neg hm, if_neg hm]; exact this
      · rw [cnt_snoc, add_get hW (cnt_len _ _ _ _), tot_snoc]
        have h3 := h2 x j hj
        by_cases hx : uid c.id = x
        · subst hx
          rw [if_pos rfl, if_pos hj]
          have := h2 _ d hd
          simp only [more, if_true]
          omega
        · rw [if_neg hx]
          split
          · simp only [more, if_true]; omega
          · omega
theorem least_of {L : List Int} (h : ∀ j, 0 ≤ L.getD j 0) {R W : Nat} (hR : 1 ≤ R) (x : Int) : ∃ c ∈ pls W R x, least L (pls W R x) = L.getD c 0 ∧ ∀ c ∈ pls W R x, least L (pls W R x) ≤ L.getD c 0 := by
  rcases least_spec L h (pls W R x) with ⟨h, _⟩ | h
  · have := places_length W (pl W) R x
    rw [show places W (pl W) R x = [] from h] at this
    simp at this; omega
  · exact h
end Go.Proofs.Ytadogoahnpakbaa
