/- Numbers of 128 bits, in two words: the plain laws. -/
set_option linter.unusedVariables false
namespace Go.Proofs.Ytohabldbjjngjaa

structure W where
  hi : Int
  lo : Int
  deriving DecidableEq
def W.ok (a : W) : Prop := (0 ≤ a.hi ∧ a.hi ≤ 18446744073709551615) ∧ 0 ≤ a.lo ∧ a.lo ≤ 18446744073709551615
def bor (a b : Int) : Int := if a < b then 1 else 0
def addW (a b : W) : W := ⟨(a.hi + b.hi + (a.lo + b.lo) / 18446744073709551616) % 18446744073709551616, (a.lo + b.lo) % 18446744073709551616⟩
def ovW (a b : W) : Int := (a.hi + b.hi + (a.lo + b.lo) / 18446744073709551616) / 18446744073709551616
def subW (a b : W) : W := ⟨(a.hi - b.hi - bor a.lo b.lo) % 18446744073709551616, (a.lo - b.lo) % 18446744073709551616⟩
def unW (a b : W) : Int := bor a.hi (b.hi + bor a.lo b.lo)
def cmpI (x y : Int) : Int := if x < y then -1 else if y < x then 1 else 0
def cmpW (a b : W) : Int := if cmpI a.hi b.hi ≠ 0 then cmpI a.hi b.hi else cmpI a.lo b.lo
def satW (a b : W) : W := if ovW a b = 1 then ⟨18446744073709551615, 18446744073709551615⟩ else addW a b
def num (a : W) : Int := a.hi * 18446744073709551616 + a.lo
theorem W.eq {a b : W} (ha : a.ok) (hb : b.ok) (h : num a = num b) : a = b := by
  obtain ⟨ah, al⟩ := a
  obtain ⟨bh, bl⟩ := b
  simp only [W.ok, num] at *
  rw [W.mk.injEq]
  omega
theorem addW_ok {a b : W} : (addW a b).ok := by
  simp only [addW, W.ok]
  omega
theorem ovW_range {a b : W} (ha : a.ok) (hb : b.ok) : 0 ≤ ovW a b ∧ ovW a b ≤ 1 := by
  obtain ⟨ah, al⟩ := a
  obtain ⟨bh, bl⟩ := b
  simp only [W.ok, ovW] at *
  omega
theorem addW_num {a b : W} (ha : a.ok) (hb : b.ok) : num (addW a b) = num a + num b - ovW a b * 340282366920938463463374607431768211456 := by
  obtain ⟨ah, al⟩ := a
  obtain ⟨bh, bl⟩ := b
  simp only [W.ok, addW, ovW, num] at *
  omega
theorem num_range {a : W} (ha : a.ok) : 0 ≤ num a ∧ num a ≤ 340282366920938463463374607431768211455 := by
  obtain ⟨ah, al⟩ := a
  simp only [W.ok, num] at *
  omega
theorem cmpW_num {a b : W} (ha : a.ok) (hb : b.ok) : cmpW a b = cmpI (num a) (num b) := by
  obtain ⟨ah, al⟩ := a
  obtain ⟨bh, bl⟩ := b
  simp only [W.ok, cmpW, cmpI, num] at *
  repeat' split
  all_goals omega
theorem satW_ok {a b : W} (ha : a.ok) (hb : b.ok) : (satW a b).ok := by
  unfold satW
  split
  · simp [W.ok]
  · exact addW_ok
theorem satW_num {a b : W} (ha : a.ok) (hb : b.ok) : num (satW a b) = min (num a + num b) 340282366920938463463374607431768211455 := by
  have h1 := ovW_range ha hb
  have h2 := addW_num ha hb
  have h3 := num_range (addW_ok (a := a) (b := b))
  unfold satW
  split
  · rename_i h
    rw [h] at h2
    have : num ⟨18446744073709551615, 18446744073709551615⟩ = 340282366920938463463374607431768211455 := by simp [num]
    rw [this]
    omega
  · rw [show ovW a b = 0 by omega] at h2
    omega
theorem bor_cases (x y : Int) : (x < y ∧ bor x y = 1) ∨ (y ≤ x ∧ bor x y = 0) := by
  unfold bor
  by_cases h : x < y
  · rw [if_pos h]; exact .inl ⟨h, rfl⟩
  · rw [if_neg h]; exact .inr ⟨by omega, rfl⟩
/-! the laws -/
theorem sub_add {a b : W} (ha : a.ok) (hb : b.ok) : subW (addW a b) b = a := by
  obtain ⟨ah, al⟩ := a
  obtain ⟨bh, bl⟩ := b
  simp only [W.ok, subW, addW] at *
  rw [W.mk.injEq]
  rcases bor_cases ((al + bl) % 18446744073709551616) bl with ⟨h, e⟩ | ⟨h, e⟩
  · rw [e]; omega
  · rw [e]; omega
theorem un_add {a b : W} (ha : a.ok) (hb : b.ok) : unW (addW a b) b = ovW a b := by
  obtain ⟨ah, al⟩ := a
  obtain ⟨bh, bl⟩ := b
  simp only [W.ok, unW, addW, ovW] at *
  rcases bor_cases ((al + bl) % 18446744073709551616) bl with ⟨h, e⟩ | ⟨h, e⟩
  · rw [e]
    rcases bor_cases ((ah + bh + (al + bl) / 18446744073709551616) % 18446744073709551616) (bh + 1) with ⟨h2, e2⟩ | ⟨h2, e2⟩
    · rw [e2]; omega
    · rw [e2]; omega
  · rw [e]
    rcases bor_cases ((ah + bh + (al + bl) / 18446744073709551616) % 18446744073709551616) (bh + 0) with ⟨h2, e2⟩ | ⟨h2, e2⟩
    · rw [e2]; omega
    · rw [e2]; omega
theorem add_comm' (a b : W) : addW a b = addW b a := by
  simp only [addW]
  rw [Int.add_comm a.lo, Int.add_comm a.hi]
theorem ov_comm (a b : W) : ovW a b = ovW b a := by
  simp only [ovW]
  rw [Int.add_comm a.lo, Int.add_comm a.hi]
theorem add_assoc' (a b c : W) : addW (addW a b) c = addW a (addW b c) := by
  simp only [addW]
  rw [W.mk.injEq]
  omega
theorem cmpI_neg (x y : Int) : (cmpI x y < 0) ↔ x < y := by unfold cmpI; split <;> (try split) <;> omega
theorem cmp_over {a b : W} (ha : a.ok) (hb : b.ok) : (cmpW (addW a b) a < 0) ↔ ovW a b = 1 := by
  rw [cmpW_num addW_ok ha, cmpI_neg, addW_num ha hb]
  have h1 := ovW_range ha hb
  have h2 := num_range ha
  have h3 := num_range hb
  omega
theorem cmpI_range (x y : Int) : -1 ≤ cmpI x y ∧ cmpI x y ≤ 1 := by unfold cmpI; split <;> (try split) <;> omega
theorem cmpI_swap (x y : Int) : cmpI y x = -cmpI x y := by unfold cmpI; split <;> (try split) <;> (try split) <;> (try split) <;> omega
theorem cmpI_add (x y z : Int) : cmpI (x + z) (y + z) = cmpI x y := by unfold cmpI; split <;> (try split) <;> (try split) <;> (try split) <;> omega
theorem cmpI_zero (x y : Int) : cmpI x y = 0 ↔ x = y := by unfold cmpI; split <;> (try split) <;> omega
theorem cmpI_le (x y : Int) : cmpI x y ≤ 0 ↔ x ≤ y := by unfold cmpI; split <;> (try split) <;> omega
theorem cmpW_range (a b : W) : -1 ≤ cmpW a b ∧ cmpW a b ≤ 1 := by
  unfold cmpW
  have h1 := cmpI_range a.hi b.hi
  have h2 := cmpI_range a.lo b.lo
  split <;> omega
theorem o_add {a b c : W} (ha : a.ok) (hb : b.ok) (hc : c.ok) (h1 : ¬ ovW a c = 1) (h2 : ¬ ovW b c = 1) : cmpW (addW a c) (addW b c) = cmpW a b := by
  rw [cmpW_num addW_ok addW_ok, cmpW_num ha hb, addW_num ha hc, addW_num hb hc]
  have r1 := ovW_range ha hc
  have r2 := ovW_range hb hc
  rw [show ovW a c = 0 by omega, show ovW b c = 0 by omega]
  simp only [Int.zero_mul, Int.sub_zero]
  exact cmpI_add _ _ _
theorem o_swap {a b : W} (ha : a.ok) (hb : b.ok) : cmpW a b = -cmpW b a := by
  rw [cmpW_num ha hb, cmpW_num hb ha, cmpI_swap (num b)]
theorem o_eq {a b : W} (ha : a.ok) (hb : b.ok) : cmpW a b = 0 ↔ a = b := by
  rw [cmpW_num ha hb, cmpI_zero]
  exact ⟨W.eq ha hb, fun h => by rw [h]⟩
theorem o_trans {a b c : W} (ha : a.ok) (hb : b.ok) (hc : c.ok) (h1 : cmpW a b ≤ 0) (h2 : cmpW b c ≤ 0) : cmpW a c ≤ 0 := by
  rw [cmpW_num ha hb, cmpI_le] at h1
  rw [cmpW_num hb hc, cmpI_le] at h2
  rw [cmpW_num ha hc, cmpI_le]
  omega
theorem o_sat {a b : W} (ha : a.ok) (hb : b.ok) : 0 ≤ cmpW (satW a b) a := by
  have h := satW_num ha hb
  have h1 := num_range ha
  have h2 := num_range hb
  have h3 := cmpI_le (num a) (num (satW a b))
  rw [cmpI_swap (num (satW a b)) (num a)] at h3
  rw [cmpW_num (satW_ok ha hb) ha]
  have : num a ≤ num (satW a b) := by omega
  have := h3.2 this
  omega
theorem sat_assoc {a b c : W} (ha : a.ok) (hb : b.ok) (hc : c.ok) : satW (satW a b) c = satW a (satW b c) := by
  refine W.eq (satW_ok (satW_ok ha hb) hc) (satW_ok ha (satW_ok hb hc)) ?_
  rw [satW_num (satW_ok ha hb) hc, satW_num ha (satW_ok hb hc), satW_num ha hb, satW_num hb hc]
  have h1 := num_range ha
  have h2 := num_range hb
  have h3 := num_range hc
  omega
end Go.Proofs.Ytohabldbjjngjaa
