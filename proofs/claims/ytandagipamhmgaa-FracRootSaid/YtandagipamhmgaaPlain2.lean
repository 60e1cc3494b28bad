import Derived.Test.YtandagipamhmgaaPlain
/- the plain laws of fractions and roots -/
set_option linter.unusedVariables false
namespace Go.Proofs.Ytandagipamhmgaa

theorem low_right {n d : Int} (hd : 1 ≤ d ∧ d ≤ 1073741824) (hn : n.natAbs ≤ 1073741824) : (F.of (Rat.divInt n d)).right := by
  have h := lowest_small n d (by omega)
  unfold F.right F.of
  simp only
  omega
theorem mulb {a b : Int} {m n : Nat} (ha : a.natAbs ≤ m) (hb : b.natAbs ≤ n) : (a * b).natAbs ≤ m * n := by rw [Int.natAbs_mul]; exact Nat.mul_le_mul ha hb

structure Tiny (a : F) (m : Nat) : Prop where
  d1 : 1 ≤ a.den
  d2 : a.den ≤ m
  n : a.num.natAbs ≤ m
theorem Tiny.right {a : F} {m : Nat} (h : Tiny a m) (hm : m ≤ 1073741824) : a.right := by obtain ⟨a, b, c⟩ := h; unfold F.right; omega
theorem Tiny.add {a b : F} {m k : Nat} (ha : Tiny a m) (hb : Tiny b k) (hm : m ≤ 1073741824) (hk : k ≤ 1073741824) : Tiny (F.of (a.q + b.q)) (m * k + k * m) := by
  rw [add_q (ha.right hm) (hb.right hk)]
  have hd : 1 ≤ a.den * b.den := Int.mul_pos (show 0 < a.den by have := ha.d1; omega) (show 0 < b.den by have := hb.d1; omega)
  have h := lowest_small (a.num * b.den + b.num * a.den) (a.den * b.den) (by omega)
  have m1 := mulb ha.n (show b.den.natAbs ≤ k by have := hb.d2; have := hb.d1; omega)
  have m2 := mulb hb.n (show a.den.natAbs ≤ m by have := ha.d2; have := ha.d1; omega)
  have m3 := mulb (show a.den.natAbs ≤ m by have := ha.d2; have := ha.d1; omega) (show b.den.natAbs ≤ k by have := hb.d2; have := hb.d1; omega)
  have e : k * m = m * k := Nat.mul_comm _ _
  refine ⟨?_, ?_, ?_⟩ <;> unfold F.of <;> simp only <;> omega
theorem Tiny.mul {a b : F} {m k : Nat} (ha : Tiny a m) (hb : Tiny b k) : Tiny (F.of (a.q * b.q)) (m * k) := by
  rw [mul_q]
  have hd : 1 ≤ a.den * b.den := Int.mul_pos (show 0 < a.den by have := ha.d1; omega) (show 0 < b.den by have := hb.d1; omega)
  have h := lowest_small (a.num * b.num) (a.den * b.den) (by omega)
  have m1 := mulb ha.n hb.n
  have m3 := mulb (show a.den.natAbs ≤ m by have := ha.d2; have := ha.d1; omega) (show b.den.natAbs ≤ k by have := hb.d2; have := hb.d1; omega)
  refine ⟨?_, ?_, ?_⟩ <;> unfold F.of <;> simp only <;> omega
theorem addF_tiny {a b : F} {m k : Nat} (ha : Tiny a m) (hb : Tiny b k) (hm : m ≤ 20000) (hk : k ≤ 20000) : addF a b = (F.of (a.q + b.q), 0) := by
  have h1 : m * k ≤ 20000 * 20000 := Nat.mul_le_mul hm hk
  have h2 : k * m ≤ 20000 * 20000 := Nat.mul_le_mul hk hm
  rw [addF, if_pos ⟨ha.right (by omega), hb.right (by omega)⟩, lowF, if_pos ((ha.add hb (by omega) (by omega)).right (by omega))]
theorem mulF_tiny {a b : F} {m k : Nat} (ha : Tiny a m) (hb : Tiny b k) (hm : m ≤ 20000) (hk : k ≤ 20000) : mulF a b = (F.of (a.q * b.q), 0) := by
  have h1 : m * k ≤ 20000 * 20000 := Nat.mul_le_mul hm hk
  rw [mulF, if_pos ⟨ha.right (by omega), hb.right (by omega)⟩, lowF, if_pos ((ha.mul hb).right (by omega))]

/-- One order. -/
theorem cross_trans {a b c : F} (ha : a.right) (hb : b.right) (hc : c.right) (h1 : a.num * b.den ≤ b.num * a.den) (h2 : b.num * c.den ≤ c.num * b.den) : a.num * c.den ≤ c.num * a.den := by
  have hb0 : 0 < b.den := by have := hb.1; omega
  have ha0 : 0 < a.den := by have := ha.1; omega
  have hc0 : 0 < c.den := by have := hc.1; omega
  have e1 := Int.mul_le_mul_of_nonneg_right h1 (Int.le_of_lt hc0)
  have e2 := Int.mul_le_mul_of_nonneg_right h2 (Int.le_of_lt ha0)
  have e3 : a.num * c.den * b.den ≤ c.num * a.den * b.den := by
    calc a.num * c.den * b.den = a.num * b.den * c.den := by rw [Int.mul_right_comm]
      _ ≤ b.num * a.den * c.den := e1
      _ = b.num * c.den * a.den := by rw [Int.mul_right_comm]
      _ ≤ c.num * b.den * a.den := e2
      _ = c.num * a.den * b.den := by rw [Int.mul_right_comm]
  exact Int.le_of_mul_le_mul_right e3 hb0

def isRoot (r n : Int) : Prop := 0 ≤ r ∧ r * r ≤ n ∧ n < (r + 1) * (r + 1)
theorem sq_le {a b : Int} (h0 : 0 ≤ a) (h : a ≤ b) : a * a ≤ b * b := Int.mul_le_mul h h h0 (by omega)
theorem isRoot.mono {r n s m : Int} (h : isRoot r n) (h' : isRoot s m) (hn : n ≤ m) : r ≤ s := by
  obtain ⟨a, b, c⟩ := h
  obtain ⟨d, e, f⟩ := h'
  by_cases hs : r ≤ s
  · exact hs
  · have := sq_le (show 0 ≤ s + 1 by omega) (show s + 1 ≤ r by omega)
    omega
theorem isRoot.small {r n : Int} (h : isRoot r n) (hn : n < 18446744073709551616) : r < 4294967296 := by
  obtain ⟨a, b, c⟩ := h
  by_cases hs : r < 4294967296
  · exact hs
  · have := sq_le (show (0 : Int) ≤ 4294967296 by omega) (show 4294967296 ≤ r by omega)
    omega
end Go.Proofs.Ytandagipamhmgaa
