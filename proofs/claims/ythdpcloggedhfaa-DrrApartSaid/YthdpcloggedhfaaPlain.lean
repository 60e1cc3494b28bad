/- flows served by turns: the plain laws of one flow -/
set_option linter.unusedVariables false
namespace Go.Proofs.Ythdpcloggedhfaa

/-- How many packets go out, and what may go out yet. -/
def turnP : Int → List Int → Nat × Int
  | may, [] => (0, may)
  | may, x :: r => if x ≤ may then ((turnP (may - x) r).1 + 1, (turnP (may - x) r).2) else (0, may)
theorem turnP_le : ∀ (l : List Int) (may : Int), (turnP may l).1 ≤ l.length
  | [], _ => by simp [turnP]
  | x :: r, may => by
    unfold turnP
    split
    · have := turnP_le r (may - x); simp only [List.length_cons]; omega
    · simp
theorem turnP_sum : ∀ (l : List Int) (may : Int), (l.take (turnP may l).1).sum + (turnP may l).2 = may
  | [], _ => by simp [turnP]
  | x :: r, may => by
    unfold turnP
    split
    · have := turnP_sum r (may - x)
      simp only [List.take_succ_cons, List.sum_cons]
      omega
    · simp
theorem turnP_stop : ∀ (l : List Int) (may : Int), (turnP may l).1 < l.length → (turnP may l).2 < l.getD (turnP may l).1 0
  | [], _, h => by simp [turnP] at h
  | x :: r, may, h => by
    unfold turnP at h ⊢
    split
    · rename_i hx
      rw [if_pos hx] at h
      simp only [List.length_cons] at h
      simpa using turnP_stop r (may - x) (by omega)
    · rename_i hx
      simp only [List.getD_cons_zero]
      omega
theorem turnP_pos : ∀ (l : List Int) (may : Int), 0 ≤ may → 0 ≤ (turnP may l).2
  | [], may, h => by simpa [turnP] using h
  | x :: r, may, h => by
    unfold turnP
    split
    · exact turnP_pos r (may - x) (by omega)
    · exact h
/-- One turn of a flow: what goes out, what is left, what may go out yet. -/
def outT (may : Int) (l : List Int) : List Int := l.take (turnP may l).1
def leftT (may : Int) (l : List Int) : List Int := l.drop (turnP may l).1
def yetT (may : Int) (l : List Int) : Int := if (turnP may l).1 = l.length then 0 else (turnP may l).2
/-- A flow behind some rounds. -/
structure F where
  out : List Int
  left : List Int
  may : Int
def stepF (t : Int) (f : F) : F := ⟨f.out ++ outT (f.may + t) f.left, leftT (f.may + t) f.left, yetT (f.may + t) f.left⟩
def runF (t : Int) (l : List Int) : Nat → F
  | 0 => ⟨[], l, 0⟩
  | n + 1 => stepF t (runF t l n)
structure Fair (t : Int) (l : List Int) (n : Nat) (f : F) : Prop where
  all : f.out ++ f.left = l
  most : f.out.sum ≤ n * t
  done : f.left = [] → f.may = 0
  rest : f.left ≠ [] → f.out.sum + f.may = n * t ∧ 0 ≤ f.may ∧ f.may < f.left.getD 0 0
theorem fair_step {t : Int} (ht : 0 ≤ t) {l : List Int} {n : Nat} {f : F} (h0 : 0 ≤ f.may) (h : Fair t l n f) : Fair t l (n + 1) (stepF t f) ∧ 0 ≤ (stepF t f).may := by
  obtain ⟨h1, h2, h3, h4⟩ := h
  have e : ((n + 1 : Nat) : Int) * t = n * t + t := by rw [Int.natCast_add, Int.add_mul]; simp
  have s := turnP_sum f.left (f.may + t)
  have le := turnP_le f.left (f.may + t)
  have st := turnP_stop f.left (f.may + t)
  have ps := turnP_pos f.left (f.may + t) (by omega)
  have hy : 0 ≤ yetT (f.may + t) f.left := by unfold yetT; split <;> omega
  have hm : f.out.sum + f.may ≤ n * t := by
    by_cases hl : f.left = []
    · rw [h3 hl]; omega
    · have := h4 hl; omega
  refine ⟨⟨?_, ?_, ?_, ?_⟩, hy⟩
  · show f.out ++ outT (f.may + t) f.left ++ leftT (f.may + t) f.left = l
    unfold outT leftT
    rw [List.append_assoc, List.take_append_drop]; exact h1
  · show (f.out ++ outT (f.may + t) f.left).sum ≤ _
    rw [List.sum_append, e]
    unfold outT
    omega
  · intro hl
    have hl : leftT (f.may + t) f.left = [] := hl
    unfold leftT at hl
    have := List.drop_eq_nil_iff.1 hl
    show yetT (f.may + t) f.left = 0
    unfold yetT
    rw [if_pos (by omega)]
  · intro hl
    have hl : leftT (f.may + t) f.left ≠ [] := hl
    unfold leftT at hl
    have hlt : (turnP (f.may + t) f.left).1 < f.left.length := by
      rcases Nat.lt_or_ge (turnP (f.may + t) f.left).1 f.left.length with h | h
      · exact h
      · exact (hl (List.drop_eq_nil_of_le h)).elim
    have hne : f.left ≠ [] := fun h => by rw [h] at hlt; simp at hlt
    have hy2 : yetT (f.may + t) f.left = (turnP (f.may + t) f.left).2 := by unfold yetT; rw [if_neg (by omega)]
    have h5 := h4 hne
    show (f.out ++ outT (f.may + t) f.left).sum + yetT (f.may + t) f.left = _ ∧ 0 ≤ yetT (f.may + t) f.left ∧ yetT (f.may + t) f.left < (leftT (f.may + t) f.left).getD 0 0
    rw [hy2, List.sum_append, e]
    unfold outT leftT
    refine ⟨by omega, ps, ?_⟩
    have := st hlt
    simpa [List.getD_eq_getElem?_getD] using this
theorem run_fair {t : Int} (ht : 0 ≤ t) (l : List Int) (hl : ∀ x ∈ l, 1 ≤ x) : ∀ n, (Fair t l n (runF t l n) ∧ 0 ≤ (runF t l n).may)
  | 0 => by
    refine ⟨⟨rfl, by simp [runF], fun _ => rfl, fun h => ⟨by simp [runF], by simp [runF], ?_⟩⟩, by simp [runF]⟩
    cases l with
    | nil => exact (h rfl).elim
    | cons x r => have := hl x (by simp); simp [runF]; omega
  | n + 1 => by
    have := run_fair ht l hl n
    exact fair_step ht this.2 this.1
end Go.Proofs.Ythdpcloggedhfaa
