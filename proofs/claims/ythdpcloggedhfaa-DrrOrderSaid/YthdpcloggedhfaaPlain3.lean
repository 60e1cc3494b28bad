import Derived.Test.YthdpcloggedhfaaPlain2
/- flows served by turns: how much there is; all is sent in time -/
set_option linter.unusedVariables false
namespace Go.Proofs.Ythdpcloggedhfaa

def tot (fl : List (List Int)) : Nat → Nat
  | 0 => 0
  | i + 1 => tot fl i + (fl.getD i []).length
theorem tot_le {fl : List (List Int)} {b : Nat} (h : ∀ k, (fl.getD k []).length ≤ b) : ∀ i, tot fl i ≤ i * b
  | 0 => by simp [tot]
  | i + 1 => by
    have := tot_le h i
    have := h i
    rw [Nat.add_mul]
    unfold tot; omega
theorem tot_congr {fl fl' : List (List Int)} : ∀ i, (∀ k, k < i → (fl.getD k []).length = (fl'.getD k []).length) → tot fl i = tot fl' i
  | 0, _ => rfl
  | i + 1, h => by unfold tot; rw [tot_congr i (fun k hk => h k (by omega)), h i (by omega)]
theorem rowS_length (k : Nat) (l : List Int) : (rowS k l).length = l.length := by simp [rowS]
theorem sentR_tot (ts may : List Int) (fl : List (List Int)) (n : Nat) : ∀ i, i ≤ n → (sentR ts may fl i).length + tot (leftR ts may fl n) i = tot fl i
  | 0, _ => rfl
  | i + 1, hi => by
    have ih := sentR_tot ts may fl n i (by omega)
    simp only [sentR, tot, List.length_append, rowS_length]
    rw [leftR_get _ _ _ _ _ (show i < n by omega)]
    have := turnP_le (fl.getD i []) (may.getD i 0 + ts.getD i 0)
    simp only [outT, leftT, List.length_take, List.length_drop]
    omega
theorem run_tot (ts : List Int) (fl : List (List Int)) : ∀ n, (runSt ts fl n).sent.length + tot (runSt ts fl n).left ts.length = tot fl ts.length
  | 0 => by simp [runSt]
  | n + 1 => by
    have ih := run_tot ts fl n
    have h2 := sentR_tot ts (runSt ts fl n).may (runSt ts fl n).left ts.length ts.length (Nat.le_refl _)
    simp only [runSt, stepSt, List.length_append]
    omega
theorem sent_few {ts : List Int} {fl : List (List Int)} (h : okT ts fl) (n : Nat) : (runSt ts fl n).sent.length ≤ 6400 := by
  have h1 := run_tot ts fl n
  have h2 := tot_le (fun k => (h.flow k).1) ts.length
  have := Nat.mul_le_mul_right 400 h.2.1
  omega
theorem sum_pos : ∀ (l : List Int), (∀ x ∈ l, 1 ≤ x) → 0 ≤ l.sum ∧ (l ≠ [] → l.getD 0 0 ≤ l.sum)
  | [], _ => by simp
  | x :: r, h => by
    have := sum_pos r fun y hy => h y (List.mem_cons_of_mem _ hy)
    have := h x (by simp)
    simp only [List.sum_cons, List.getD_cons_zero]
    omega
theorem all_sent {ts : List Int} {fl : List (List Int)} (h : okT ts fl) {k n : Nat} (hk : k < ts.length) (hn : (fl.getD k []).sum ≤ ts.getD k 0 * n) : (runSt ts fl n).left.getD k [] = [] ∧ (runSt ts fl n).may.getD k 0 = 0 := by
  obtain ⟨w1, w2, w3⟩ := run_flow ts fl k hk n
  have hf := h.flow k
  obtain ⟨hF, _⟩ := run_fair (t := ts.getD k 0) (by have := h.turn hk; omega) (fl.getD k []) (fun x hx => (hf.2 x hx).1) n
  rw [w1, w2]
  have key : (runF (ts.getD k 0) (fl.getD k []) n).left = [] := by
    refine Classical.byContradiction fun hne => ?_
    obtain ⟨r1, r2, r3⟩ := hF.rest hne
    have hsub : ∀ x ∈ (runF (ts.getD k 0) (fl.getD k []) n).left, 1 ≤ x := fun x hx => (hf.2 x (by rw [← hF.all]; exact List.mem_append_right _ hx)).1
    have hs := (sum_pos _ hsub).2 hne
    have hsum := congrArg List.sum hF.all
    rw [List.sum_append] at hsum
    rw [Int.mul_comm] at hn
    omega
  exact ⟨key, hF.done key⟩
theorem ceil_le {n t X : Int} (ht : 1 ≤ t) (hX : (n + t - 1) / t ≤ X) : n ≤ t * X := by
  have h1 := Int.emod_add_mul_ediv (n + t - 1) t
  have h2 := Int.emod_lt_of_pos (n + t - 1) (show 0 < t by omega)
  have h3 := Int.mul_le_mul_of_nonneg_left hX (show 0 ≤ t by omega)
  omega
end Go.Proofs.Ythdpcloggedhfaa
