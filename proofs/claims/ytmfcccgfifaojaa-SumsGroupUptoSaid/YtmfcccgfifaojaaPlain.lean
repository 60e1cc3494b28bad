/- the plain law of sums: whole numbers alone -/
namespace Go.Proofs.Ytmfcccgfifaojaa

def foldZ (n : Int) : Int := if n = 0 then 0 else (n - 1) % 65535 + 1
def sumP : List Int → Int
  | [] => 0
  | [a] => a * 256
  | a :: b :: r => a * 256 + b + sumP r

theorem foldZ_low {n : Int} (h0 : 0 ≤ n) (h1 : n ≤ 65535) : foldZ n = n := by unfold foldZ; split <;> omega
theorem foldZ_step {n : Int} (h : 65535 < n) : foldZ (n / 65536 + n % 65536) = foldZ n := by unfold foldZ; split <;> split <;> omega
theorem foldZ_range (n : Int) : 0 ≤ foldZ n ∧ foldZ n ≤ 65535 := by unfold foldZ; split <;> omega
theorem foldZ_add (a b : Int) (ha : 0 ≤ a) (hb : 0 ≤ b) : foldZ (foldZ a + foldZ b) = foldZ (a + b) := by unfold foldZ; (repeat' split) <;> omega
theorem foldZ_addr (a b : Int) (ha : 0 ≤ a) (hb : 0 ≤ b) : foldZ (a + foldZ b) = foldZ (a + b) := by unfold foldZ; (repeat' split) <;> omega

def byteL (b : List Int) : Prop := ∀ x ∈ b, 0 ≤ x ∧ x ≤ 255
theorem byteL.getD {b : List Int} (h : byteL b) (i : Nat) : 0 ≤ b.getD i 0 ∧ b.getD i 0 ≤ 255 := by
  rw [List.getD_eq_getElem?_getD]
  by_cases hi : i < b.length
  · rw [List.getElem?_eq_getElem hi]; exact h _ (List.getElem_mem hi)
  · rw [List.getElem?_eq_none (by omega)]; simp
theorem sumP_range : ∀ (b : List Int), byteL b → 0 ≤ sumP b ∧ sumP b ≤ 65535 * b.length
  | [], _ => by simp [sumP]
  | [a], h => by have := h a (by simp); simp [sumP]; omega
  | a :: b :: r, h => by
    have h1 := h a (by simp)
    have h2 := h b (by simp)
    have h3 := sumP_range r (fun x hx => h x (by simp [hx]))
    simp only [sumP, List.length_cons]; omega
theorem sumP_drop (b : List Int) (i : Nat) (h : i < b.length) : sumP (b.drop i) = b.getD i 0 * 256 + (if i + 1 < b.length then b.getD (i + 1) 0 else 0) + sumP (b.drop (i + 2)) := by
  rw [List.drop_eq_getElem_cons h]
  by_cases h2 : i + 1 < b.length
  · rw [List.drop_eq_getElem_cons h2, if_pos h2]
    simp [sumP, h, h2]
  · rw [if_neg h2, List.drop_eq_nil_of_le (by omega), List.drop_eq_nil_of_le (by omega)]
    simp [sumP, h]
theorem sumP_app : ∀ (b c : List Int), b.length % 2 = 0 → sumP (b ++ c) = sumP b + sumP c
  | [], c, _ => by simp [sumP]
  | [a], c, h => by simp at h
  | a :: b :: r, c, h => by
    have := sumP_app r c (by simp at h; omega)
    simp only [List.cons_append, sumP, this]; omega

end Go.Proofs.Ytmfcccgfifaojaa
