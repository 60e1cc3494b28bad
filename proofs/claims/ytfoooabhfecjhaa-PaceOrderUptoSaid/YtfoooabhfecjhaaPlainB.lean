/- the plain law of buckets -/
set_option linter.unusedVariables false
namespace Go.Proofs.Ytfoooabhfecjhaa

structure Bk where
  num : Int
  den : Int
  bu : Int
  lv : Int
  at' : Int
  deriving DecidableEq
structure S where
  at' : Int
  by' : Int
  deriving DecidableEq

def Bk.zero : Bk := ⟨0, 0, 0, 0, 0⟩
def Bk.right (b : Bk) : Prop := 0 ≤ b.num ∧ b.num ≤ 1048576 ∧ 1 ≤ b.den ∧ b.den ≤ 1048576 ∧ 0 ≤ b.bu ∧ b.bu ≤ 1048576 ∧ 0 ≤ b.lv ∧ b.lv ≤ b.bu * b.den ∧ 0 ≤ b.at' ∧ b.at' ≤ 1099511627776
instance (b : Bk) : Decidable b.right := by unfold Bk.right; infer_instance

/-- As it is at t. -/
def filled (b : Bk) (t : Int) : Bk := ⟨b.num, b.den, b.bu, b.lv + min ((t - b.at') * b.num) (b.bu * b.den - b.lv), t⟩
def okT (b : Bk) (t : Int) : Prop := b.at' ≤ t ∧ t ≤ 1099511627776
instance (b : Bk) (t : Int) : Decidable (okT b t) := by unfold okT; infer_instance
def okB (n : Int) : Prop := 0 ≤ n ∧ n ≤ 1048576
instance (n : Int) : Decidable (okB n) := by unfold okB; infer_instance
def fillB (b : Bk) (t : Int) : Bk × Int := if b.right then (if okT b t then (filled b t, 0) else (Bk.zero, 2)) else (Bk.zero, 1)
def takeB (b : Bk) (s : S) : Bk × Bool × Int :=
  if (fillB b s.at').2 = 0 then
    if okB s.by' then
      if s.by' * b.den ≤ (filled b s.at').lv then ({ filled b s.at' with lv := (filled b s.at').lv - s.by' * b.den }, true, 0) else (filled b s.at', false, 0)
    else (Bk.zero, false, 2)
  else (Bk.zero, false, (fillB b s.at').2)
def readyT (b : Bk) (n : Int) : Int := b.at' + (n * b.den - b.lv + b.num - 1) / b.num
def readyB (b : Bk) (n : Int) : Int × Bool × Int :=
  if b.right then
    if okB n then
      if n * b.den - b.lv ≤ 0 then (b.at', true, 0)
      else if b.bu < n ∨ b.num = 0 then (0, false, 0)
      else if 1099511627776 < readyT b n then (0, false, 0) else (readyT b n, true, 0)
    else (0, false, 2)
  else (0, false, 1)

theorem Bk.right.prod {b : Bk} (h : b.right) : 0 ≤ b.bu * b.den ∧ b.bu * b.den ≤ 1099511627776 := by
  obtain ⟨_, _, h3, h4, h5, h6, _⟩ := h
  refine ⟨Int.mul_nonneg h5 (by omega), ?_⟩
  have := Int.mul_le_mul h6 h4 (by omega) (by omega)
  omega
theorem Bk.right.gone {b : Bk} {t : Int} (h : b.right) (ht : okT b t) : 0 ≤ (t - b.at') * b.num ∧ (t - b.at') * b.num ≤ 1152921504606846976 := by
  obtain ⟨h1, h2, _, _, _, _, _, _, h9, h10⟩ := h
  unfold okT at ht
  refine ⟨Int.mul_nonneg (by omega) h1, ?_⟩
  have := Int.mul_le_mul (show t - b.at' ≤ 1099511627776 by omega) h2 h1 (by omega)
  omega
theorem Bk.right.cost {b : Bk} {n : Int} (h : b.right) (hn : okB n) : 0 ≤ n * b.den ∧ n * b.den ≤ 1099511627776 := by
  obtain ⟨_, _, h3, h4, _⟩ := h
  unfold okB at hn
  refine ⟨Int.mul_nonneg hn.1 (by omega), ?_⟩
  have := Int.mul_le_mul hn.2 h4 (by omega) (by omega)
  omega
/-- room through num tells whether all the room is filled -/
theorem Bk.right.less {b : Bk} {t : Int} (h : b.right) (hn : 0 < b.num) : (b.bu * b.den - b.lv) / b.num < t - b.at' → b.bu * b.den - b.lv ≤ (t - b.at') * b.num := fun hq => by
  have := (Int.ediv_lt_iff_lt_mul hn).1 hq
  omega
theorem Bk.right.more {b : Bk} {t : Int} (h : b.right) (hn : 0 < b.num) : t - b.at' ≤ (b.bu * b.den - b.lv) / b.num → (t - b.at') * b.num ≤ b.bu * b.den - b.lv := fun hq => (Int.le_ediv_iff_mul_le hn).1 hq

theorem filled_right {b : Bk} {t : Int} (h : b.right) (ht : okT b t) : (filled b t).right := by
  have h1 := h.gone ht
  unfold Bk.right okT at *
  unfold filled
  simp only
  omega

theorem filled_twice {b : Bk} {x y : Int} (h : b.right) (hx : okT b x) (hy : okT (filled b x) y) : okT b y ∧ filled (filled b x) y = filled b y := by
  have hy' : x ≤ y ∧ y ≤ 1099511627776 := hy
  have hyb : okT b y := ⟨by unfold okT at hx; omega, hy'.2⟩
  refine ⟨hyb, ?_⟩
  have h1 := h.gone hx
  have h2 := (filled_right h hx).gone hy
  have h2' : 0 ≤ (y - x) * b.num := h2.1
  have p : (y - b.at') * b.num = (x - b.at') * b.num + (y - x) * b.num := by rw [← Int.add_mul]; congr 1; omega
  have e1 : filled (filled b x) y = ⟨b.num, b.den, b.bu, b.lv + min ((x - b.at') * b.num) (b.bu * b.den - b.lv) + min ((y - x) * b.num) (b.bu * b.den - (b.lv + min ((x - b.at') * b.num) (b.bu * b.den - b.lv))), y⟩ := rfl
  rw [e1]
  unfold filled
  rw [p]
  simp only [Bk.mk.injEq, true_and, and_true]
  have h7 := h.2.2.2.2.2.2.2.1
  omega
end Go.Proofs.Ytfoooabhfecjhaa
