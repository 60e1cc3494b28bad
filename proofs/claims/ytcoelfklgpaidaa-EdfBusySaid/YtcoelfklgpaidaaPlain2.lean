import Derived.Test.YtcoelfklgpaidaaPlain
/- The laws, in plain Lean. -/
namespace Go.Proofs.Ytcoelfklgpaidaa

theorem step_still (l : List S) (d : List Int) (t : Int) (h : ∀ k, k < l.length → T l k ≤ t) : step l d t = d := by
  unfold step
  split
  · rename_i hp
    obtain ⟨b, hb⟩ := Int.eq_ofNat_of_zero_le hp
    obtain ⟨ha, hbl, _⟩ := pick_some l d t l.length b hb
    have := h b hbl
    unfold av at ha
    omega
  · rfl
theorem run_still (l : List S) (t : Nat) (h : ∀ k, k < l.length → T l k ≤ t) : ∀ x, run l (t + x) = run l t
  | 0 => rfl
  | x + 1 => by
    show step l (run l (t + x)) ((t + x : Nat) : Int) = run l t
    rw [step_still l _ _ (fun k hk => by have := h k hk; omega), run_still l t h x]
def aJ : List S := [⟨0, 3⟩, ⟨0, 1⟩, ⟨1, 2⟩, ⟨1, 2⟩]
theorem a_run : run aJ 1000 = [2, 0, 1, -1] := by
  rw [run_still aJ 3 (by decide) 997]
  decide
theorem a_over : over aJ 0 0 = true := by decide

theorem any_eq {d : List Int} {x : Int} : (d.any (fun y => x == y)) = true ↔ ∃ k, k < d.length ∧ D d k = x := by
  rw [List.any_eq_true]
  constructor
  · rintro ⟨y, hy, he⟩
    obtain ⟨k, hk, rfl⟩ := List.getElem_of_mem hy
    exact ⟨k, hk, by simp at he; simp [D, hk, he]⟩
  · rintro ⟨k, hk, rfl⟩
    exact ⟨d[k], List.getElem_mem hk, by simp [D, hk]⟩
theorem any_iff {l : List S} {d : List Int} (h : Inv l 1000 d) : (d.any (fun x => -1 == x)) = true ↔ ∃ k, k < l.length ∧ D d k = -1 := by rw [any_eq, h.len]

theorem done_all {l : List S} {d : List Int} (h : Inv l 1000 d) (hn : ¬ ∃ k, k < l.length ∧ D d k = -1) (i j : Nat) : over l i j = false := by
  refine all_not_over (d := d) (fun k hk => ?_) (fun i j hi hj he => ?_) i j
  · have h1 := h.ok k hk
    have : D d k ≠ -1 := fun he => hn ⟨k, hk, he⟩
    omega
  · have h1 := h.ok i hi
    have : D d i ≠ -1 := fun he => hn ⟨i, hi, he⟩
    exact h.one i j hi hj (by omega) he
/-- Any times for all: all are done. -/
theorem other {l : List S} (hf : Fine l) {d : List Int} (h : Inv l 1000 d) {e : List Int} (hok : ∀ k, k < l.length → F l k ≤ D e k ∧ D e k < T l k) (hone : ∀ i j, i < l.length → j < l.length → D e i = D e j → i = j) : (d.any (fun x => -1 == x)) = false := by
  rw [Bool.eq_false_iff]
  intro ha
  obtain ⟨k, hk, hd⟩ := (any_iff h).1 ha
  obtain ⟨a, h1, h2⟩ := some_over hf h hk hd
  rw [all_not_over hok hone a k] at h2
  cases h2
end Go.Proofs.Ytcoelfklgpaidaa
