import Derived.Test.YtohabldbjjngjaaPlain
/- Division of 128 bits by 64, digit by digit; products; common divisors: the plain laws. -/
set_option linter.unusedVariables false
namespace Go.Proofs.Ytohabldbjjngjaa

/-- A divisor with its first bit set, in two digits; what is divided, and the next digit. -/
structure Dg (y yn1 yn0 u d : Int) : Prop where
  ey : y = yn1 * 4294967296 + yn0
  h1 : 2147483648 ≤ yn1 ∧ yn1 < 4294967296
  h0 : 0 ≤ yn0 ∧ yn0 < 4294967296
  eu : 0 ≤ u ∧ u < y
  ed : 0 ≤ d ∧ d < 4294967296
def dq (y u d : Int) : Int := (u * 4294967296 + d) / y
structure DgI (y yn1 yn0 u d qh rh : Int) : Prop where
  ge : dq y u d ≤ qh
  r : rh = u - qh * yn1
  r0 : 0 ≤ rh ∧ rh < 4294967296
  q : 0 ≤ qh ∧ qh ≤ 4294967297
section
variable {y yn1 yn0 u d qh rh : Int}
theorem Dg.pos (h : Dg y yn1 yn0 u d) : 0 < y := by have := h.eu; omega
theorem Dg.dq_lt (h : Dg y yn1 yn0 u d) : 0 ≤ dq y u d ∧ dq y u d < 4294967296 := by
  have h1 := h.eu; have h2 := h.ed
  refine ⟨Int.ediv_nonneg (by omega) (by omega), Int.ediv_lt_of_lt_mul h.pos (by omega)⟩
theorem Dg.mul_eq (h : Dg y yn1 yn0 u d) (q : Int) : q * y = q * yn1 * 4294967296 + q * yn0 := by
  rw [h.ey, Int.mul_add, Int.mul_assoc]
theorem Dg.le (h : Dg y yn1 yn0 u d) {q : Int} (hq : q * y ≤ u * 4294967296 + d) : q ≤ dq y u d := Int.le_ediv_of_mul_le h.pos hq
theorem Dg.lt (h : Dg y yn1 yn0 u d) {q : Int} (hq : u * 4294967296 + d < q * y) : dq y u d < q := Int.ediv_lt_of_lt_mul h.pos hq
theorem Dg.dq_mul (h : Dg y yn1 yn0 u d) : dq y u d * y ≤ u * 4294967296 + d := Int.ediv_mul_le _ (by have := h.pos; omega)
theorem Dg.start (h : Dg y yn1 yn0 u d) : DgI y yn1 yn0 u d (u / yn1) (u - u / yn1 * yn1) := by
  have h1 := h.h1; have h0 := h.h0; have hu := h.eu; have hd := h.ed
  have e1 := Int.mul_ediv_add_emod u yn1
  have e2 := Int.emod_nonneg u (show yn1 ≠ 0 by omega)
  have e3 := Int.emod_lt_of_pos u (show 0 < yn1 by omega)
  rw [Int.mul_comm] at e1
  have hm := h.mul_eq (dq y u d)
  have hle := h.dq_mul
  have hl := h.dq_lt
  have hy := h.ey
  have h3 : 0 ≤ dq y u d * yn0 := Int.mul_nonneg hl.1 h0.1
  refine ⟨Int.le_ediv_of_mul_le (by omega) (by omega), rfl, by omega, Int.ediv_nonneg hu.1 (by omega), Int.le_of_lt_add_one (Int.ediv_lt_of_lt_mul (by omega) ?_)⟩
  omega
theorem DgI.more (h : Dg y yn1 yn0 u d) (i : DgI y yn1 yn0 u d qh rh) (ht : 4294967296 ≤ qh ∨ 4294967296 * rh + d < qh * yn0) : dq y u d ≤ qh - 1 := by
  have hl := h.dq_lt
  rcases ht with ht | ht
  · omega
  · have := h.lt (q := qh) (by rw [h.mul_eq]; have := i.r; omega)
    omega
theorem DgI.stop (h : Dg y yn1 yn0 u d) (i : DgI y yn1 yn0 u d qh rh) (ht : ¬ (4294967296 * rh + d < qh * yn0)) : qh = dq y u d := by
  have := h.le (q := qh) (by rw [h.mul_eq]; have := i.r; omega)
  have := i.ge
  omega
theorem DgI.brk (h : Dg y yn1 yn0 u d) (i : DgI y yn1 yn0 u d qh rh) (ht : 4294967296 ≤ qh ∨ 4294967296 * rh + d < qh * yn0) (hb : 4294967296 ≤ rh + yn1) : qh - 1 = dq y u d := by
  have h1 := i.more h ht
  have hq := i.q
  have h0 := h.h0
  have hd := h.ed
  have hm : (qh - 1) * yn0 ≤ 4294967296 * yn0 := Int.mul_le_mul_of_nonneg_right (by omega) h0.1
  have e : (qh - 1) * yn1 = qh * yn1 - yn1 := by rw [Int.sub_mul, Int.one_mul]
  have := h.le (q := qh - 1) (by rw [h.mul_eq, e]; have := i.r; omega)
  omega
theorem DgI.next (h : Dg y yn1 yn0 u d) (i : DgI y yn1 yn0 u d qh rh) (ht : 4294967296 ≤ qh ∨ 4294967296 * rh + d < qh * yn0) (hb : ¬ 4294967296 ≤ rh + yn1) : DgI y yn1 yn0 u d (qh - 1) (rh + yn1) := by
  have h1 := i.more h ht
  have hl := h.dq_lt
  have hq := i.q
  have hr := i.r0
  have hy := h.h1
  exact ⟨h1, by rw [Int.sub_mul, Int.one_mul, i.r]; omega, by omega, by omega⟩
/-- What is left. -/
theorem Dg.rest (h : Dg y yn1 yn0 u d) : u * 4294967296 + d - dq y u d * y = (u * 4294967296 + d) % y := by
  have := Int.mul_ediv_add_emod (u * 4294967296 + d) y
  rw [Int.mul_comm] at this
  unfold dq
  omega
theorem Dg.rest_range (h : Dg y yn1 yn0 u d) : 0 ≤ u * 4294967296 + d - dq y u d * y ∧ u * 4294967296 + d - dq y u d * y < y := by
  rw [h.rest]
  exact ⟨Int.emod_nonneg _ (by have := h.pos; omega), Int.emod_lt_of_pos _ h.pos⟩
end

/-- Shifted so that the divisor's first bit is set. -/
structure Sh (hi lo y p e : Int) : Prop where
  pe : p * e = 18446744073709551616
  p1 : 1 ≤ p
  ehi : 0 ≤ hi ∧ hi < y
  elo : 0 ≤ lo ∧ lo < 18446744073709551616
  y1 : 9223372036854775808 ≤ y * p
  y2 : y * p < 18446744073709551616
section
variable {hi lo y p e : Int}
theorem Sh.e1 (h : Sh hi lo y p e) : 1 ≤ e := by
  have h1 := h.pe
  have h2 := h.p1
  refine Classical.byContradiction fun hn => ?_
  have : p * e ≤ p * 0 := Int.mul_le_mul_of_nonneg_left (by omega) (by omega)
  omega
theorem Sh.q (h : Sh hi lo y p e) : 0 ≤ lo / e ∧ lo / e < p :=
  ⟨Int.ediv_nonneg h.elo.1 (by have := h.e1; omega), Int.ediv_lt_of_lt_mul (by have := h.e1; omega) (by rw [h.pe]; exact h.elo.2)⟩
theorem Sh.lo_eq (h : Sh hi lo y p e) : lo * p = lo / e * 18446744073709551616 + lo * p % 18446744073709551616 := by
  have e1 := h.e1
  have h1 := Int.mul_ediv_add_emod lo e
  have h2 := Int.emod_nonneg lo (show e ≠ 0 by omega)
  have h3 := Int.emod_lt_of_pos lo (show 0 < e by omega)
  have h4 : lo * p = lo / e * 18446744073709551616 + lo % e * p := by
    conv => lhs; rw [← h1]
    rw [Int.add_mul, Int.mul_comm e, Int.mul_assoc, Int.mul_comm e p, h.pe]
  have h5 : 0 ≤ lo % e * p := Int.mul_nonneg h2 (by have := h.p1; omega)
  have h6 : lo % e * p < 18446744073709551616 := by
    rw [← h.pe, Int.mul_comm p e]
    exact Int.mul_lt_mul_of_pos_right h3 (by have := h.p1; omega)
  omega
theorem Sh.hp (h : Sh hi lo y p e) : 0 ≤ hi * p ∧ hi * p + p ≤ y * p := by
  refine ⟨Int.mul_nonneg h.ehi.1 (by have := h.p1; omega), ?_⟩
  have : (hi + 1) * p ≤ y * p := Int.mul_le_mul_of_nonneg_right (by have := h.ehi; omega) (by have := h.p1; omega)
  rwa [Int.add_mul, Int.one_mul] at this
theorem Sh.total (h : Sh hi lo y p e) : (hi * 18446744073709551616 + lo) * p = (hi * p + lo / e) * 18446744073709551616 + lo * p % 18446744073709551616 := by
  have := h.lo_eq
  rw [Int.add_mul, Int.mul_right_comm]
  omega
/-- The two digits. -/
theorem Sh.dg1 (h : Sh hi lo y p e) : Dg (y * p) (y * p / 4294967296) (y * p % 4294967296) (hi * p + lo / e) (lo * p % 18446744073709551616 / 4294967296) := by
  have h1 := h.hp
  have h2 := h.q
  have h3 := h.y1
  have h4 := h.y2
  refine ⟨by omega, by omega, by omega, by omega, by omega⟩
theorem Sh.dg2 (h : Sh hi lo y p e) {r : Int} (hr : 0 ≤ r ∧ r < y * p) : Dg (y * p) (y * p / 4294967296) (y * p % 4294967296) r (lo * p % 18446744073709551616 % 4294967296) := by
  have h3 := h.y1
  have h4 := h.y2
  exact ⟨by omega, by omega, by omega, hr, by omega⟩
theorem Sh.fin (h : Sh hi lo y p e) {q1 q0 r1 r0 u1 u0 : Int} (hu1 : u1 = lo * p % 18446744073709551616 / 4294967296) (hu0 : u0 = lo * p % 18446744073709551616 % 4294967296)
    (h1 : (hi * p + lo / e) * 4294967296 + u1 - q1 * (y * p) = r1) (h0 : r1 * 4294967296 + u0 - q0 * (y * p) = r0) (hr : 0 ≤ r0 ∧ r0 < y * p) :
    q1 * 4294967296 + q0 = (hi * 18446744073709551616 + lo) / y ∧ r0 / p = (hi * 18446744073709551616 + lo) % y := by
  have ht := h.total
  have hp := h.p1
  have e : (hi * 18446744073709551616 + lo) * p = (q1 * 4294967296 + q0) * (y * p) + r0 := by
    have e2 : (q1 * 4294967296 + q0) * (y * p) = q1 * (y * p) * 4294967296 + q0 * (y * p) := by rw [Int.add_mul, Int.mul_right_comm]
    rw [ht, e2]
    omega
  have ha : r0 = ((hi * 18446744073709551616 + lo) - (q1 * 4294967296 + q0) * y) * p := by
    rw [Int.sub_mul, e, Int.mul_assoc]; omega
  generalize hX : hi * 18446744073709551616 + lo - (q1 * 4294967296 + q0) * y = x at ha
  have hx0 : 0 ≤ x := by
    refine Classical.byContradiction fun hn => ?_
    have : x * p < 0 * p := Int.mul_lt_mul_of_pos_right (by omega) (by omega)
    omega
  have hxy : x < y := by
    refine Classical.byContradiction fun hn => ?_
    have : y * p ≤ x * p := Int.mul_le_mul_of_nonneg_right (by omega) (by omega)
    omega
  have hy : 0 < y := by omega
  have hn : hi * 18446744073709551616 + lo = x + y * (q1 * 4294967296 + q0) := by rw [Int.mul_comm y]; omega
  rw [hn, Int.add_mul_ediv_left _ _ (by omega), Int.add_mul_emod_self_left, Int.ediv_eq_zero_of_lt hx0 hxy, Int.emod_eq_of_lt hx0 hxy, ha, Int.mul_ediv_cancel _ (by omega)]
  exact ⟨by omega, rfl⟩
end

/-! How many bits. -/
theorem len_shift {y x : Int} {j t : Nat} (hx : x = y / 2 ^ j) (ht : 1 ≤ t) (h1 : 2 ^ (t - 1) ≤ x) (h2 : x < 2 ^ t) : (2 : Int) ^ (j + t - 1) ≤ y ∧ y < 2 ^ (j + t) := by
  have hp : (0 : Int) < 2 ^ j := Int.pow_pos (by decide)
  subst hx
  constructor
  · have := Int.mul_le_of_le_ediv hp h1
    rw [← Int.pow_add] at this
    rwa [show j + t - 1 = t - 1 + j by omega]
  · have := Int.lt_mul_of_ediv_lt hp h2
    rw [← Int.pow_add] at this
    rwa [Nat.add_comm]
/-- Shifted by as many bits as are missing. -/
theorem Sh.of {hi lo y : Int} {n : Nat} (hn : 1 ≤ n ∧ n ≤ 64) (h1 : (2 : Int) ^ (n - 1) ≤ y) (h2 : y < 2 ^ n) (hh : 0 ≤ hi ∧ hi < y) (hl : 0 ≤ lo ∧ lo < 18446744073709551616) : Sh hi lo y (2 ^ (64 - n)) (2 ^ n) := by
  have hp : (0 : Int) < 2 ^ (64 - n) := Int.pow_pos (by decide)
  refine ⟨by rw [← Int.pow_add, show 64 - n + n = 64 by omega]; rfl, by omega, hh, hl, ?_, ?_⟩
  · have := Int.mul_le_mul_of_nonneg_right h1 (Int.le_of_lt hp)
    rw [← Int.pow_add, show n - 1 + (64 - n) = 63 by omega] at this
    exact this
  · have := Int.mul_lt_mul_of_pos_right h2 hp
    rw [← Int.pow_add, show n + (64 - n) = 64 by omega] at this
    exact this

/-! The laws. -/
def divW (a : W) (b : Int) : W := ⟨a.hi / b, (a.hi % b * 18446744073709551616 + a.lo) / b⟩
def remW (a : W) (b : Int) : Int := (a.hi % b * 18446744073709551616 + a.lo) % b
def mulW (a b : Int) : W := ⟨a * b / 18446744073709551616, a * b % 18446744073709551616⟩
theorem div_num {a : W} (ha : a.ok) {b : Int} (hb : 1 ≤ b ∧ b ≤ 18446744073709551615) : num a = num (divW a b) * b + remW a b ∧ 0 ≤ remW a b ∧ remW a b < b ∧ (divW a b).ok := by
  obtain ⟨ah, al⟩ := a
  simp only [W.ok, num, divW, remW] at *
  have e1 := Int.mul_ediv_add_emod ah b
  have e2 := Int.emod_nonneg ah (show b ≠ 0 by omega)
  have e3 := Int.emod_lt_of_pos ah (show 0 < b by omega)
  have e4 : 0 ≤ ah / b := Int.ediv_nonneg ha.1.1 (by omega)
  have e5 : ah / b ≤ ah := Int.ediv_le_self b ha.1.1
  generalize ah % b = r at *
  have e6 := Int.mul_ediv_add_emod (r * 18446744073709551616 + al) b
  have e7 := Int.emod_nonneg (r * 18446744073709551616 + al) (show b ≠ 0 by omega)
  have e8 := Int.emod_lt_of_pos (r * 18446744073709551616 + al) (show 0 < b by omega)
  have e9 : 0 ≤ (r * 18446744073709551616 + al) / b := Int.ediv_nonneg (by omega) (by omega)
  have e10 : (r * 18446744073709551616 + al) / b < 18446744073709551616 := Int.ediv_lt_of_lt_mul (by omega) (by omega)
  generalize (r * 18446744073709551616 + al) % b = r2 at *
  generalize (r * 18446744073709551616 + al) / b = q2 at *
  generalize ah / b = q1 at *
  refine ⟨?_, e7, e8, ⟨e4, by omega⟩, e9, by omega⟩
  rw [Int.add_mul, Int.mul_right_comm, Int.mul_comm q2, Int.mul_comm q1]
  omega
theorem mulW_num {a b : Int} (ha : 0 ≤ a ∧ a ≤ 18446744073709551615) (hb : 0 ≤ b ∧ b ≤ 18446744073709551615) : num (mulW a b) = a * b ∧ (mulW a b).ok := by
  have h1 : 0 ≤ a * b := Int.mul_nonneg ha.1 hb.1
  have h2 : a * b ≤ 18446744073709551615 * 18446744073709551615 := Int.mul_le_mul ha.2 hb.2 hb.1 (by decide)
  simp only [num, mulW, W.ok]
  omega
/-- Quotient times divisor, and the rest, make the number again. -/
theorem divides {a : W} (ha : a.ok) {b : Int} (hb : 1 ≤ b ∧ b ≤ 18446744073709551615) : (mulW (divW a b).hi b).hi = 0 ∧
    ovW (mulW (divW a b).lo b) ⟨(mulW (divW a b).hi b).lo, 0⟩ = 0 ∧
    ovW (addW (mulW (divW a b).lo b) ⟨(mulW (divW a b).hi b).lo, 0⟩) ⟨0, remW a b⟩ = 0 ∧
    addW (addW (mulW (divW a b).lo b) ⟨(mulW (divW a b).hi b).lo, 0⟩) ⟨0, remW a b⟩ = a := by
  obtain ⟨h1, h2, h3, h4⟩ := div_num ha hb
  have hq := h4
  simp only [W.ok] at h4
  obtain ⟨m1, m2⟩ := mulW_num h4.1 ⟨by omega, hb.2⟩
  obtain ⟨m3, m4⟩ := mulW_num h4.2 ⟨by omega, hb.2⟩
  have hr := num_range ha
  have e : num (divW a b) * b = (divW a b).hi * b * 18446744073709551616 + (divW a b).lo * b := by
    unfold num; rw [Int.add_mul, Int.mul_right_comm]
  have n1 : 0 ≤ (divW a b).hi * b := Int.mul_nonneg h4.1.1 (by omega)
  have n2 : 0 ≤ (divW a b).lo * b := Int.mul_nonneg h4.2.1 (by omega)
  have hz : (mulW (divW a b).hi b).hi = 0 := by simp only [mulW]; omega
  have hl : (mulW (divW a b).hi b).lo = (divW a b).hi * b := by simp only [mulW]; omega
  have k1 : W.ok ⟨(mulW (divW a b).hi b).lo, 0⟩ := by
    simp only [W.ok] at m2 ⊢; exact ⟨m2.2, by omega, by omega⟩
  have k2 : W.ok ⟨0, remW a b⟩ := ⟨⟨by simp, by simp⟩, h2, by simp only; omega⟩
  have a1 := addW_num m4 k1
  have r1 := ovW_range m4 k1
  have g1 := num_range (addW_ok (a := mulW (divW a b).lo b) (b := ⟨(mulW (divW a b).hi b).lo, 0⟩))
  have n3 : num ⟨(mulW (divW a b).hi b).lo, 0⟩ = (divW a b).hi * b * 18446744073709551616 := by unfold num; rw [hl]; simp
  have n4 : num ⟨0, remW a b⟩ = remW a b := by simp [num]
  rw [m3, n3] at a1
  have o1 : ovW (mulW (divW a b).lo b) ⟨(mulW (divW a b).hi b).lo, 0⟩ = 0 := by omega
  have a2 := addW_num (addW_ok (a := mulW (divW a b).lo b) (b := ⟨(mulW (divW a b).hi b).lo, 0⟩)) k2
  have r2 := ovW_range (addW_ok (a := mulW (divW a b).lo b) (b := ⟨(mulW (divW a b).hi b).lo, 0⟩)) k2
  have g2 := num_range (addW_ok (a := addW (mulW (divW a b).lo b) ⟨(mulW (divW a b).hi b).lo, 0⟩) (b := ⟨0, remW a b⟩))
  rw [a1, n4, o1] at a2
  have o2 : ovW (addW (mulW (divW a b).lo b) ⟨(mulW (divW a b).hi b).lo, 0⟩) ⟨0, remW a b⟩ = 0 := by omega
  refine ⟨hz, o1, o2, W.eq addW_ok ha ?_⟩
  rw [a2, o2]; omega
end Go.Proofs.Ytohabldbjjngjaa
