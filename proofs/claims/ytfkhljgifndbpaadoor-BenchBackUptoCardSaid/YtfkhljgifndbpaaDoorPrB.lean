import Derived.Test.YtfkhljgifndbpaaDoorPrR
/- bench.Print over real memories: a rate or a burst out of range. -/
set_option linter.unusedVariables false
set_option linter.unusedSimpArgs false
namespace Go.Proofs.YtfkhljgifndbpaaDoor
open Go Go.Am Go.RowKit Go.Proofs
set_option maxHeartbeats 4000000
set_option maxRecDepth 1000000

theorem small_n (n : Int) (h : ¬ sml n) (w : World) : Calls Tryd.prog 17 #[.int .i64 n] w fun e w' => e = .returned (.bool false) ∧ w' = w := by
  have := small_b n w
  have h' : ¬ (0 ≤ n ∧ n ≤ 1099511627776) := h
  rw [decide_eq_false h'] at this
  exact this
theorem Print_bad (num den burst : Int) (a : Option Addr) (n c : Nat) (w : World) (h : ¬ (sml num ∧ sml den ∧ sml burst)) :
    Calls Tryd.prog 9 #[.agg #[.int .i64 num, .int .i64 den, .int .i64 burst, .slice a n c]] w fun e w' => e = .returned (.tuple #[.string ⟨#[]⟩, .int .i64 2]) ∧ Below w.heap.size w w' := by
  by_cases h1 : sml num
  · by_cases h2 : sml den
    · have h3 : ¬ sml burst := fun h3 => h ⟨h1, h2, h3⟩
      have s3 := fun w => small_n burst h3 w
      obtain ⟨l1, u1⟩ := h1
      obtain ⟨l2, u2⟩ := h2
      unfold mx at u1 u2
      clear h h3
      go_enter Tryd.func9, Tryd.ntmps9
      go_wp2_with (go_at_call 17; first | (refine (s3 _).mono ?_; rintro e w' ⟨rfl, rfl⟩) | (refine (small_y _ ⟨by assumption, by assumption⟩ _).mono ?_; rintro e w' ⟨rfl, rfl⟩))
      go_ret2
      exact ⟨rfl, (Below.refl _ w).alloc (Nat.le_refl _) _⟩
    · have s2 := fun w => small_n den h2 w
      obtain ⟨l1, u1⟩ := h1
      unfold mx at u1
      clear h h2
      go_enter Tryd.func9, Tryd.ntmps9
      go_wp2_with (go_at_call 17; first | (refine (s2 _).mono ?_; rintro e w' ⟨rfl, rfl⟩) | (refine (small_y _ ⟨by assumption, by assumption⟩ _).mono ?_; rintro e w' ⟨rfl, rfl⟩))
      go_ret2
      exact ⟨rfl, (Below.refl _ w).alloc (Nat.le_refl _) _⟩
  · have s1 := fun w => small_n num h1 w
    clear h h1
    go_enter Tryd.func9, Tryd.ntmps9
    go_wp2_with (go_at_call 17; refine (s1 _).mono ?_; rintro e w' ⟨rfl, rfl⟩)
    go_ret2
    exact ⟨rfl, (Below.refl _ w).alloc (Nat.le_refl _) _⟩
end Go.Proofs.YtfkhljgifndbpaaDoor
