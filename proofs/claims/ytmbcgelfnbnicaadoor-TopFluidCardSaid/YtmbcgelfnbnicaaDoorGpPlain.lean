import Derived.Test.YtmbcgelfnbnicaaDoorBase
import Derived.Test.YtmbcgelfnbnicaaDoorLib
import Derived.Test.YtmbcgelfnbnicaaDoorSortP
set_option linter.unusedVariables false
namespace Go.Proofs.YtmbcgelfnbnicaaDoor.Gp
/- flows side by side: the plain laws -/

/-- When a flow with n bytes and weight v is done, times its weight. -/
def term (n v m w : Int) : Int := min (m * v) (n * w)
def endR (n v : Int) (bs ws : List Int) : Nat → Int
  | 0 => 0
  | i + 1 => endR n v bs ws i + term n v (bs.getD i 0) (ws.getD i 0)
def endK (bs ws : List Int) (k : Nat) : Int := endR (bs.getD k 0) (ws.getD k 0) bs ws bs.length
def sumTo (l : List Int) : Nat → Int
  | 0 => 0
  | i + 1 => sumTo l i + l.getD i 0
/-- What how much flows have, and their weights, may be. -/
def okB (bs ws : List Int) : Prop := bs.length = ws.length ∧ bs.length ≤ 16 ∧ ∀ k, k < bs.length → (0 ≤ bs.getD k 0 ∧ bs.getD k 0 ≤ 1048576) ∧ 1 ≤ ws.getD k 0 ∧ ws.getD k 0 ≤ 1000
def tbE (bs ws : List Int) (i : Nat) : List Int := (List.range i).map (endK bs ws)
theorem tbE_len (bs ws : List Int) (i : Nat) : (tbE bs ws i).length = i := by simp [tbE]
theorem tbE_succ (bs ws : List Int) (i : Nat) : tbE bs ws (i + 1) = tbE bs ws i ++ [endK bs ws i] := by simp [tbE, List.range_succ]
theorem tbE_get (bs ws : List Int) (i k : Nat) (h : k < i) : (tbE bs ws i).getD k 0 = endK bs ws k := by simp [tbE, h]

theorem mul_bound {a b A B : Int} (ha : 0 ≤ a) (hA : a ≤ A) (hb : 0 ≤ b) (hB : b ≤ B) : 0 ≤ a * b ∧ a * b ≤ A * B :=
  ⟨Int.mul_nonneg ha hb, Int.mul_le_mul hA hB hb (Int.le_trans ha hA)⟩
theorem term_bound {n v m w : Int} (hn : 0 ≤ n ∧ n ≤ 1048576) (hv : 1 ≤ v ∧ v ≤ 1000) (hm : 0 ≤ m ∧ m ≤ 1048576) (hw : 1 ≤ w ∧ w ≤ 1000) : 0 ≤ term n v m w ∧ term n v m w ≤ 1048576000 := by
  have h1 := mul_bound hm.1 hm.2 (show 0 ≤ v by omega) hv.2
  have h2 := mul_bound hn.1 hn.2 (show 0 ≤ w by omega) hw.2
  unfold term; omega
theorem endR_bound {n v : Int} {bs ws : List Int} (h : okB bs ws) (hn : 0 ≤ n ∧ n ≤ 1048576) (hv : 1 ≤ v ∧ v ≤ 1000) : ∀ i, i ≤ bs.length → 0 ≤ endR n v bs ws i ∧ endR n v bs ws i ≤ 1048576000 * i
  | 0, _ => by simp [endR]
  | i + 1, hi => by
    have := endR_bound h hn hv i (by omega)
    have h2 := h.2.2 i (by omega)
    have := term_bound hn hv h2.1 h2.2
    unfold endR; omega
theorem endK_bound {bs ws : List Int} (h : okB bs ws) {k : Nat} (hk : k < bs.length) : 0 ≤ endK bs ws k ∧ endK bs ws k ≤ 16777216000 := by
  have h2 := h.2.2 k hk
  have := endR_bound h h2.1 h2.2 bs.length (Nat.le_refl _)
  have := h.2.1
  unfold endK; omega
theorem sumTo_bound {l : List Int} {b : Int} (h : ∀ k, k < l.length → 0 ≤ l.getD k 0 ∧ l.getD k 0 ≤ b) : ∀ i, i ≤ l.length → 0 ≤ sumTo l i ∧ sumTo l i ≤ b * i
  | 0, _ => by simp [sumTo]
  | i + 1, hi => by
    have := sumTo_bound h i (by omega)
    have h2 := h i (by omega)
    have e : b * ((i + 1 : Nat) : Int) = b * i + b := by rw [Int.natCast_add, Int.mul_add]; simp
    rw [e]
    unfold sumTo; omega
/-- No later than when all is gone. -/
theorem endR_last {n v : Int} {bs ws : List Int} : ∀ i, endR n v bs ws i ≤ sumTo bs i * v
  | 0 => by simp [endR, sumTo]
  | i + 1 => by
    have := endR_last (n := n) (v := v) (bs := bs) (ws := ws) i
    unfold endR sumTo
    rw [Int.add_mul]
    unfold term; omega
theorem endR_share {n v : Int} {bs ws : List Int} : ∀ i, endR n v bs ws i ≤ n * sumTo ws i
  | 0 => by simp [endR, sumTo]
  | i + 1 => by
    have := endR_share (n := n) (v := v) (bs := bs) (ws := ws) i
    unfold endR sumTo
    rw [Int.mul_add]
    unfold term; omega
theorem endR_one {n v : Int} {bs ws : List Int} {k : Nat} (h : ∀ j, 0 ≤ term n v (bs.getD j 0) (ws.getD j 0)) (hk : bs.getD k 0 = n) (hw : ws.getD k 0 = v) : ∀ i, k < i → n * v ≤ endR n v bs ws i
  | 0, h => by omega
  | i + 1, hi => by
    have hpos : ∀ i, 0 ≤ endR n v bs ws i := fun i => by
      induction i with
      | zero => simp [endR]
      | succ i ih => have := h i; unfold endR; omega
    unfold endR
    by_cases e : k = i
    · subst e
      have h1 := hpos k
      rw [hk, hw]
      unfold term; omega
    · have := endR_one h hk hw i (by omega)
      have := h i
      omega
theorem getD_cases {l : List Int} {P : Int → Prop} (h0 : P 0) (h : ∀ k, k < l.length → P (l.getD k 0)) (k : Nat) : P (l.getD k 0) := by
  by_cases hk : k < l.length
  · exact h k hk
  · rw [List.getD_eq_getElem?_getD, List.getElem?_eq_none (by omega)]; exact h0
theorem okB.b0 {bs ws : List Int} (h : okB bs ws) (k : Nat) : 0 ≤ bs.getD k 0 := getD_cases (P := fun x => 0 ≤ x) (by omega) (fun k hk => (h.2.2 k hk).1.1) k
theorem okB.w0 {bs ws : List Int} (h : okB bs ws) (k : Nat) : 0 ≤ ws.getD k 0 := getD_cases (P := fun x => 0 ≤ x) (by omega) (fun k hk => by have := (h.2.2 k (by rw [h.1]; exact hk)).2.1; omega) k
theorem term_nonneg {n v m w : Int} (hn : 0 ≤ n) (hv : 0 ≤ v) (hm : 0 ≤ m) (hw : 0 ≤ w) : 0 ≤ term n v m w := by
  have h1 := Int.mul_nonneg hm hv
  have h2 := Int.mul_nonneg hn hw
  unfold term; omega
theorem endK_own {bs ws : List Int} (h : okB bs ws) {k : Nat} (hk : k < bs.length) : bs.getD k 0 * ws.getD k 0 ≤ endK bs ws k :=
  endR_one (fun j => term_nonneg (h.b0 k) (h.w0 k) (h.b0 j) (h.w0 j)) rfl rfl _ hk
/-- One of them has the most for its weight. -/
theorem most {bs ws : List Int} (h : okB bs ws) : ∀ i, 0 < i → i ≤ bs.length → ∃ k, k < i ∧ ∀ j, j < i → bs.getD j 0 * ws.getD k 0 ≤ bs.getD k 0 * ws.getD j 0
  | 0, h0, _ => by omega
  | i + 1, _, hi => by
    by_cases h0 : i = 0
    · subst h0
      exact ⟨0, by omega, fun j hj => by obtain rfl : j = 0 := by omega
                                         exact Int.le_refl _⟩
    · obtain ⟨k, hk, hm⟩ := most h i (by omega) (by omega)
      rcases Int.le_total (bs.getD i 0 * ws.getD k 0) (bs.getD k 0 * ws.getD i 0) with hle | hle
      · refine ⟨k, by omega, fun j hj => ?_⟩
        by_cases e : j = i
        · rw [e]; exact hle
        · exact hm j (by omega)
      · refine ⟨i, by omega, fun j hj => ?_⟩
        by_cases e : j = i
        · rw [e]; exact Int.le_refl _
        · have h1 := hm j (by omega)
          have hwk := (h.2.2 k (by omega)).2.1
          have hwi := h.w0 i
          have hwj := h.w0 j
          -- bj wk ≤ bk wj, bk wi ≤ bi wk: bj wi ≤ bi wj
          have a1 := Int.mul_le_mul_of_nonneg_right h1 hwi
          have a2 := Int.mul_le_mul_of_nonneg_right hle hwj
          have a3 : (bs.getD j 0 * ws.getD i 0) * ws.getD k 0 ≤ (bs.getD i 0 * ws.getD j 0) * ws.getD k 0 := by
            calc (bs.getD j 0 * ws.getD i 0) * ws.getD k 0 = bs.getD j 0 * ws.getD k 0 * ws.getD i 0 := by rw [Int.mul_right_comm]
              _ ≤ bs.getD k 0 * ws.getD j 0 * ws.getD i 0 := a1
              _ = bs.getD k 0 * ws.getD i 0 * ws.getD j 0 := by rw [Int.mul_right_comm]
              _ ≤ bs.getD i 0 * ws.getD k 0 * ws.getD j 0 := a2
              _ = bs.getD i 0 * ws.getD j 0 * ws.getD k 0 := by rw [Int.mul_right_comm]
          exact Int.le_of_mul_le_mul_right a3 (by omega)
theorem endR_all {n v : Int} {bs ws : List Int} : ∀ i, (∀ j, j < i → bs.getD j 0 * v ≤ n * ws.getD j 0) → endR n v bs ws i = sumTo bs i * v
  | 0, _ => by simp [endR, sumTo]
  | i + 1, h => by
    unfold endR sumTo
    rw [endR_all i (fun j hj => h j (by omega)), Int.add_mul]
    have := h i (by omega)
    unfold term; omega
theorem last_one {bs ws : List Int} (h : okB bs ws) (h0 : 0 < bs.length) : ∃ k, k < bs.length ∧ endK bs ws k = sumTo bs bs.length * ws.getD k 0 := by
  obtain ⟨k, hk, hm⟩ := most h bs.length h0 (Nat.le_refl _)
  exact ⟨k, hk, endR_all _ hm⟩
/-! scaling, and more -/
theorem term_w {n v m w by' : Int} (h : 0 ≤ by') : term n (v * by') m (w * by') = by' * term n v m w := by
  unfold term
  rw [← Int.mul_assoc, ← Int.mul_assoc, Int.mul_comm (m * v), Int.mul_comm (n * w)]
  rcases Int.le_total (m * v) (n * w) with h1 | h1
  · have := Int.mul_le_mul_of_nonneg_left h1 h; rw [Int.min_eq_left h1, Int.min_eq_left this]
  · have := Int.mul_le_mul_of_nonneg_left h1 h; rw [Int.min_eq_right h1, Int.min_eq_right this]
theorem term_b {n v m w by' : Int} (h : 0 ≤ by') : term (n * by') v (m * by') w = by' * term n v m w := by
  unfold term
  rw [Int.mul_right_comm m, Int.mul_right_comm n, Int.mul_comm (m * v), Int.mul_comm (n * w)]
  rcases Int.le_total (m * v) (n * w) with h1 | h1
  · have := Int.mul_le_mul_of_nonneg_left h1 h; rw [Int.min_eq_left h1, Int.min_eq_left this]
  · have := Int.mul_le_mul_of_nonneg_left h1 h; rw [Int.min_eq_right h1, Int.min_eq_right this]
theorem term_mono {n v m w n' m' : Int} (hv : 0 ≤ v) (hw : 0 ≤ w) (hn : n ≤ n') (hm : m ≤ m') : term n v m w ≤ term n' v m' w := by
  have h1 := Int.mul_le_mul_of_nonneg_right hm hv
  have h2 := Int.mul_le_mul_of_nonneg_right hn hw
  unfold term; omega
theorem map_getD {f : Int → Int} (h : f 0 = 0) (l : List Int) (k : Nat) : (l.map f).getD k 0 = f (l.getD k 0) := by
  by_cases hk : k < l.length
  · simp [List.getD_eq_getElem?_getD, hk]
  · simp [List.getD_eq_getElem?_getD, hk, h]
theorem endR_w {n v by' : Int} {bs ws : List Int} (h : 0 ≤ by') : ∀ i, endR n (v * by') bs (ws.map (· * by')) i = by' * endR n v bs ws i
  | 0 => by simp [endR]
  | i + 1 => by
    unfold endR
    rw [endR_w h i, map_getD (by simp), term_w h, Int.mul_add]
theorem endR_b {n v by' : Int} {bs ws : List Int} (h : 0 ≤ by') : ∀ i, endR (n * by') v (bs.map (· * by')) ws i = by' * endR n v bs ws i
  | 0 => by simp [endR]
  | i + 1 => by
    unfold endR
    rw [endR_b h i, map_getD (by simp), term_b h, Int.mul_add]
theorem endK_w {by' : Int} {bs ws : List Int} (h : 0 ≤ by') (k : Nat) : endK bs (ws.map (· * by')) k = by' * endK bs ws k := by
  unfold endK; rw [map_getD (by simp), endR_w h]
theorem endK_b {by' : Int} {bs ws : List Int} (h : 0 ≤ by') (k : Nat) : endK (bs.map (· * by')) ws k = by' * endK bs ws k := by
  unfold endK; rw [map_getD (by simp), endR_b h, List.length_map]
theorem endR_mono {n n' v : Int} {bs bs' ws : List Int} (hv : 0 ≤ v) (hw : ∀ j, 0 ≤ ws.getD j 0) (hn : n ≤ n') (hb : ∀ j, bs.getD j 0 ≤ bs'.getD j 0) : ∀ i, endR n v bs ws i ≤ endR n' v bs' ws i
  | 0 => by simp [endR]
  | i + 1 => by
    have := endR_mono (n := n) (n' := n') (v := v) (bs := bs) (bs' := bs') (ws := ws) hv hw hn hb i
    have := term_mono (n := n) (n' := n') hv (hw i) hn (hb i)
    unfold endR; omega
theorem getD_setI (l : List Int) (i k : Nat) (x : Int) (h : i < l.length) : (l.set i x).getD k 0 = if i = k then x else l.getD k 0 := by
  simp only [List.getD_eq_getElem?_getD]
  by_cases e : i = k
  · subst e; rw [if_pos rfl, List.getElem?_set_self h]; rfl
  · rw [if_neg e, List.getElem?_set_ne e]
theorem endK_more {bs ws : List Int} (h : okB bs ws) {who : Nat} {d : Int} (hw : who < bs.length) (hd : 0 ≤ d) (k : Nat) : endK bs ws k ≤ endK (bs.set who (bs.getD who 0 + d)) ws k := by
  have hb : ∀ j, bs.getD j 0 ≤ (bs.set who (bs.getD who 0 + d)).getD j 0 := fun j => by
    rw [getD_setI _ _ _ _ hw]
    split
    · rename_i e; subst e; omega
    · omega
  unfold endK
  rw [List.length_set]
  exact endR_mono (h.w0 k) h.w0 (hb k) hb _
theorem term_heavier {n v m w w' d : Int} (hn : 0 ≤ n) (hv : 0 ≤ v) (hd : 0 ≤ d) (hw : 0 ≤ w) (hw' : w' * v ≤ w * (v + d)) : term n (v + d) m w' * v ≤ term n v m w * (v + d) := by
  have a1 : m * (v + d) * v = m * v * (v + d) := by rw [Int.mul_right_comm]
  have a2 : n * w' * v ≤ n * w * (v + d) := by rw [Int.mul_assoc, Int.mul_assoc]; exact Int.mul_le_mul_of_nonneg_left hw' hn
  unfold term
  rcases Int.le_total (m * v) (n * w) with h1 | h1
  · rw [Int.min_eq_left h1, ← a1]
    exact Int.mul_le_mul_of_nonneg_right (Int.min_le_left _ _) hv
  · rw [Int.min_eq_right h1]
    exact Int.le_trans (Int.mul_le_mul_of_nonneg_right (Int.min_le_right _ _) hv) a2
theorem endR_heavier {n v d : Int} {bs ws ws' : List Int} (hn : 0 ≤ n) (hv : 0 ≤ v) (hd : 0 ≤ d) (hw : ∀ j, 0 ≤ ws.getD j 0) (hw' : ∀ j, ws'.getD j 0 * v ≤ ws.getD j 0 * (v + d)) : ∀ i, endR n (v + d) bs ws' i * v ≤ endR n v bs ws i * (v + d)
  | 0 => by simp [endR]
  | i + 1 => by
    have h1 := endR_heavier (n := n) (v := v) (d := d) (bs := bs) (ws := ws) (ws' := ws') hn hv hd hw hw' i
    have h2 := term_heavier (n := n) (v := v) (d := d) (m := bs.getD i 0) hn hv hd (hw i) (hw' i)
    unfold endR
    rw [Int.add_mul, Int.add_mul]
    omega
theorem endK_heavier {bs ws : List Int} (h : okB bs ws) {who : Nat} {d : Int} (hw : who < ws.length) (hd : 0 ≤ d) : endK bs (ws.set who (ws.getD who 0 + d)) who * ws.getD who 0 ≤ endK bs ws who * (ws.getD who 0 + d) := by
  unfold endK
  rw [getD_setI _ _ _ _ hw, if_pos rfl]
  refine endR_heavier (h.b0 who) (h.w0 who) hd h.w0 (fun j => ?_) _
  rw [getD_setI _ _ _ _ hw]
  have := h.w0 j
  have := h.w0 who
  split
  · rename_i e; subst e; rw [Int.mul_comm]; exact Int.le_refl _
  · rw [Int.mul_add]
    have := Int.mul_nonneg (h.w0 j) hd
    omega

/- One after the other, in the order in which they would be done: the plain law. -/

def cfO (bs ws : List Int) (x y : Int) : Int := endK bs ws x.toNat * ws.getD y.toNat 0 - endK bs ws y.toNat * ws.getD x.toNat 0
def ltO (bs ws : List Int) (x y : Int) : Bool := decide (cfO bs ws x y < 0)
def DO (n : Nat) (x : Int) : Prop := 0 ≤ x ∧ x < n
theorem swoO {bs ws : List Int} (h : okB bs ws) : Swo (DO bs.length) (ltO bs ws) := by
  refine ⟨fun x y hx hy hl => ?_, fun x y z hx hy hz h1 h2 => ?_⟩
  · unfold ltO at hl ⊢
    rw [decide_eq_true_eq] at hl
    rw [decide_eq_false_iff_not]
    unfold cfO at hl ⊢
    omega
  · unfold ltO at h1 h2 ⊢
    rw [decide_eq_false_iff_not] at h1 h2 ⊢
    unfold cfO at h1 h2 ⊢
    have wx := (h.2.2 x.toNat (by unfold DO at hx; omega)).2.1
    have wy := (h.2.2 y.toNat (by unfold DO at hy; omega)).2.1
    have wz := (h.2.2 z.toNat (by unfold DO at hz; omega)).2.1
    generalize endK bs ws x.toNat = ex at *
    generalize endK bs ws y.toNat = ey at *
    generalize endK bs ws z.toNat = ez at *
    generalize ws.getD x.toNat 0 = vx at *
    generalize ws.getD y.toNat 0 = vy at *
    generalize ws.getD z.toNat 0 = vz at *
    have a1 := Int.mul_le_mul_of_nonneg_right (show ex * vy ≤ ey * vx by omega) (show 0 ≤ vz by omega)
    have a2 := Int.mul_le_mul_of_nonneg_right (show ey * vz ≤ ez * vy by omega) (show 0 ≤ vx by omega)
    rw [Int.mul_right_comm] at a1 a2
    rw [Int.mul_right_comm ey] at a1
    have a3 : ex * vz * vy ≤ ez * vx * vy := by
      rw [Int.mul_right_comm ez]
      rw [Int.mul_right_comm ey] at a2
      omega
    have := Int.le_of_mul_le_mul_right a3 (by omega)
    omega
/-- Who is done no later has no more for its weight. -/
theorem ratio {bs ws : List Int} (h : okB bs ws) {i k : Nat} (hi : i < bs.length) (hk : k < bs.length) (he : endK bs ws i * ws.getD k 0 ≤ endK bs ws k * ws.getD i 0) : bs.getD i 0 * ws.getD k 0 ≤ bs.getD k 0 * ws.getD i 0 := by
  refine Classical.byContradiction fun hn => ?_
  have wi := (h.2.2 i hi).2.1
  have wk := (h.2.2 k hk).2.1
  have key : ∀ j, j ≤ bs.length → endR (bs.getD k 0) (ws.getD k 0) bs ws j * ws.getD i 0 ≤ endR (bs.getD i 0) (ws.getD i 0) bs ws j * ws.getD k 0 ∧ (i < j → endR (bs.getD k 0) (ws.getD k 0) bs ws j * ws.getD i 0 < endR (bs.getD i 0) (ws.getD i 0) bs ws j * ws.getD k 0) := by
    intro j
    induction j with
    | zero => intro _; simp [endR]
    | succ j ih =>
      intro hj
      obtain ⟨i1, i2⟩ := ih (by omega)
      have wj := (h.2.2 j (by omega)).2.1
      have bj := (h.2.2 j (by omega)).1.1
      have t1 : term (bs.getD k 0) (ws.getD k 0) (bs.getD j 0) (ws.getD j 0) * ws.getD i 0 ≤ term (bs.getD i 0) (ws.getD i 0) (bs.getD j 0) (ws.getD j 0) * ws.getD k 0 := by
        have m1 := Int.mul_le_mul_of_nonneg_right (show bs.getD k 0 * ws.getD i 0 ≤ bs.getD i 0 * ws.getD k 0 by omega) (show 0 ≤ ws.getD j 0 by omega)
        unfold term
        rcases Int.le_total (bs.getD j 0 * ws.getD i 0) (bs.getD i 0 * ws.getD j 0) with hc | hc
        · rw [Int.min_eq_left hc, Int.mul_right_comm]
          exact Int.mul_le_mul_of_nonneg_right (Int.min_le_left _ _) (by omega)
        · rw [Int.min_eq_right hc]
          refine Int.le_trans (Int.mul_le_mul_of_nonneg_right (Int.min_le_right _ _) (by omega)) ?_
          rw [Int.mul_right_comm, Int.mul_right_comm (bs.getD i 0)]; exact m1
      have t2 : j = i → term (bs.getD k 0) (ws.getD k 0) (bs.getD j 0) (ws.getD j 0) * ws.getD i 0 < term (bs.getD i 0) (ws.getD i 0) (bs.getD j 0) (ws.getD j 0) * ws.getD k 0 := fun e => by
        subst e
        have e1 : term (bs.getD j 0) (ws.getD j 0) (bs.getD j 0) (ws.getD j 0) = bs.getD j 0 * ws.getD j 0 := by unfold term; omega
        have e2 : term (bs.getD k 0) (ws.getD k 0) (bs.getD j 0) (ws.getD j 0) = bs.getD k 0 * ws.getD j 0 := by unfold term; omega
        rw [e1, e2, Int.mul_right_comm (bs.getD j 0)]
        exact Int.mul_lt_mul_of_pos_right (by omega) (by omega)
      simp only [endR, Int.add_mul]
      refine ⟨by omega, fun hij => ?_⟩
      by_cases e : j = i
      · have := t2 e; omega
      · have := i2 (by omega); omega
  have := (key bs.length (Nat.le_refl _)).2 hi
  unfold endK at he
  omega
/-- A sum over a list of numbers. -/
def sumL (f : Nat → Int) : List Int → Int
  | [] => 0
  | x :: r => f x.toNat + sumL f r
theorem sumL_perm {f : Nat → Int} {l m : List Int} (h : l.Perm m) : sumL f l = sumL f m := by
  induction h with
  | nil => rfl
  | cons x _ ih => simp only [sumL, ih]
  | swap x y l => simp only [sumL]; omega
  | trans _ _ a b => exact a.trans b
theorem sumL_app (f : Nat → Int) : ∀ l m, sumL f (l ++ m) = sumL f l + sumL f m
  | [], m => by simp [sumL]
  | x :: l, m => by simp only [List.cons_append, sumL, sumL_app f l m]; omega
theorem sumL_nonneg {f : Nat → Int} (h : ∀ i, 0 ≤ f i) : ∀ l, 0 ≤ sumL f l
  | [] => by simp [sumL]
  | x :: l => by have := sumL_nonneg h l; have := h x.toNat; simp only [sumL]; omega
theorem sumL_take {f : Nat → Int} (h : ∀ i, 0 ≤ f i) (l : List Int) (t : Nat) : sumL f (l.take t) ≤ sumL f l := by
  conv => rhs; rw [← List.take_append_drop t l, sumL_app]
  have := sumL_nonneg h (l.drop t)
  omega
def rng (n : Nat) : List Int := (List.range n).map fun i : Nat => (i : Int)
theorem rng_len (n : Nat) : (rng n).length = n := by simp [rng]
theorem rng_get (n k : Nat) (h : k < n) : (rng n).getD k 0 = k := by simp [rng, h]
theorem rng_succ (n : Nat) : rng (n + 1) = rng n ++ [(n : Int)] := by simp [rng, List.range_succ]
theorem rng_mem {n : Nat} {x : Int} (h : x ∈ rng n) : DO n x := by
  simp only [rng, List.mem_map, List.mem_range] at h
  obtain ⟨i, hi, rfl⟩ := h
  exact ⟨by omega, by omega⟩
theorem sumL_rng {n v : Int} {bs ws : List Int} : ∀ i, sumL (fun j => term n v (bs.getD j 0) (ws.getD j 0)) (rng i) = endR n v bs ws i
  | 0 => rfl
  | i + 1 => by rw [rng_succ, sumL_app, sumL_rng i]; simp [sumL, endR]
/-- How much has gone when t of them are done. -/
def sumO (bs o : List Int) : Nat → Int
  | 0 => 0
  | t + 1 => sumO bs o t + bs.getD (o.getD t 0).toNat 0
theorem sumO_bound {bs ws : List Int} (h : okB bs ws) (o : List Int) : ∀ t, 0 ≤ sumO bs o t ∧ sumO bs o t ≤ 1048576 * t
  | 0 => by simp [sumO]
  | t + 1 => by
    have := sumO_bound h o t
    have h2 : 0 ≤ bs.getD (o.getD t 0).toNat 0 ∧ bs.getD (o.getD t 0).toNat 0 ≤ 1048576 := getD_cases (P := fun x => 0 ≤ x ∧ x ≤ 1048576) (by omega) (fun k hk => (h.2.2 k hk).1) _
    unfold sumO; omega
theorem whole_law {bs ws o : List Int} (h : okB bs ws) (hp : o.Perm (rng bs.length)) (hs : sortedTo (ltO bs ws) o o.length) {s k : Nat} (hsl : s < o.length) (hk : o.getD s 0 = k) : sumO bs o (s + 1) * ws.getD k 0 ≤ endK bs ws k := by
  have hl : o.length = bs.length := by rw [hp.length_eq, rng_len]
  have hD : ∀ t, t < o.length → DO bs.length (o.getD t 0) := fun t ht => perm_D hp (fun x hx => rng_mem hx) (by rw [rng_len]; omega)
  have hkl : k < bs.length := by have := hD s hsl; rw [hk] at this; unfold DO at this; omega
  have key : ∀ t, t ≤ s + 1 → sumO bs o t * ws.getD k 0 = sumL (fun j => term (bs.getD k 0) (ws.getD k 0) (bs.getD j 0) (ws.getD j 0)) (o.take t) := by
    intro t
    induction t with
    | zero => intro _; simp [sumO, sumL]
    | succ t ih =>
      intro ht
      have hto : t < o.length := by omega
      rw [List.take_add_one, List.getElem?_eq_getElem hto, Option.toList_some, sumL_app, ← ih (by omega)]
      have hg : o.getD t 0 = o[t] := by rw [List.getD_eq_getElem?_getD, List.getElem?_eq_getElem hto]; rfl
      simp only [sumO, Int.add_mul, sumL, ← hg]
      have hdt := hD t hto
      unfold DO at hdt
      have hle : bs.getD (o.getD t 0).toNat 0 * ws.getD k 0 ≤ bs.getD k 0 * ws.getD (o.getD t 0).toNat 0 := by
        by_cases e : t = s
        · subst e; rw [hk]; simp
        · have := hs t s (by omega) hsl
          simp only [ltO, decide_eq_false_iff_not, cfO, hk, Int.toNat_natCast] at this
          exact ratio h (by omega) hkl (by omega)
      unfold term
      rw [Int.min_eq_left hle]; omega
  rw [key (s + 1) (Nat.le_refl _)]
  have hnn : ∀ j, 0 ≤ term (bs.getD k 0) (ws.getD k 0) (bs.getD j 0) (ws.getD j 0) := fun j => term_nonneg (h.b0 k) (h.w0 k) (h.b0 j) (h.w0 j)
  refine Int.le_trans (sumL_take hnn o (s + 1)) ?_
  rw [sumL_perm hp, sumL_rng]; exact Int.le_refl _
/-- Each one has its place. -/
theorem place {o : List Int} {n k : Nat} (hp : o.Perm (rng n)) (hk : k < n) : ∃ s, s < o.length ∧ o.getD s 0 = k := by
  have : (k : Int) ∈ o := hp.mem_iff.2 (List.mem_map.2 ⟨k, List.mem_range.2 hk, rfl⟩)
  obtain ⟨s, hs, e⟩ := List.getElem_of_mem this
  exact ⟨s, hs, by rw [List.getD_eq_getElem?_getD, List.getElem?_eq_getElem hs]; exact e⟩
theorem distinct {o : List Int} {n : Nat} (hp : o.Perm (rng n)) {s t : Nat} (hs : s < o.length) (ht : t < o.length) (e : o.getD s 0 = o.getD t 0) : s = t := by
  have hn : o.Nodup := by
    rw [hp.nodup_iff]
    unfold rng
    exact List.Pairwise.map _ (fun a b hab e => hab (by omega)) List.nodup_range
  rw [List.getD_eq_getElem?_getD, List.getElem?_eq_getElem hs, List.getD_eq_getElem?_getD, List.getElem?_eq_getElem ht] at e
  exact (List.getElem_inj hn).1 e

end Go.Proofs.YtmbcgelfnbnicaaDoor.Gp
