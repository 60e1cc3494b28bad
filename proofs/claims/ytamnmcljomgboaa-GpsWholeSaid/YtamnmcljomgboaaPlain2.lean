import Derived.Test.YtamnmcljomgboaaPlain
import Derived.Test.YtamnmcljomgboaaSortP
/- One after the other, in the order in which they would be done: the plain law. -/
set_option linter.unusedVariables false
namespace Go.Proofs.Ytamnmcljomgboaa

def cfO (bs ws : List Int) (x y : Int) : Int := endK bs ws x.toNat * ws.getD y.toNat 0 - endK bs ws y.toNat * ws.getD x.toNat 0
def ltO (bs ws : List Int) (x y : Int) : Bool := decide (cfO bs ws x y < 0)
def DO (n : Nat) (x : Int) : Prop := 0 ≤ x ∧ x < n
theorem swoO {bs ws : List Int} (h : okB bs ws) : Swo (DO bs.length) (ltO bs ws) := by
  refine ⟨fun x y hx hy hl => ?_, fun x y z hx hy hz h1 h2 => ?_⟩
  · unfold ltO at hl ⊢
    rw [decide_eq_true_eq] at hl
    rw [decide_eq_false_iff_not]
    unfold cfO at hl ⊢
    omega
  · unfold ltO at h1 h2 ⊢
    rw [decide_eq_false_iff_not] at h1 h2 ⊢
    unfold cfO at h1 h2 ⊢
    have wx := (h.2.2 x.toNat (by unfold DO at hx; omega)).2.1
    have wy := (h.2.2 y.toNat (by unfold DO at hy; omega)).2.1
    have wz := (h.2.2 z.toNat (by unfold DO at hz; omega)).2.1
    generalize endK bs ws x.toNat = ex at *
    generalize endK bs ws y.toNat = ey at *
    generalize endK bs ws z.toNat = ez at *
    generalize ws.getD x.toNat 0 = vx at *
    generalize ws.getD y.toNat 0 = vy at *
    generalize ws.getD z.toNat 0 = vz at *
    have a1 := Int.mul_le_mul_of_nonneg_right (show ex * vy ≤ ey * vx by omega) (show 0 ≤ vz by omega)
    have a2 := Int.mul_le_mul_of_nonneg_right (show ey * vz ≤ ez * vy by omega) (show 0 ≤ vx by omega)
    rw [Int.mul_right_comm] at a1 a2
    rw [Int.mul_right_comm ey] at a1
    have a3 : ex * vz * vy ≤ ez * vx * vy := by
      rw [Int.mul_right_comm ez]
      rw [Int.mul_right_comm ey] at a2
      omega
    have := Int.le_of_mul_le_mul_right a3 (by omega)
    omega
/-- Who is done no later has no more for its weight. -/
theorem ratio {bs ws : List Int} (h : okB bs ws) {i k : Nat} (hi : i < bs.length) (hk : k < bs.length) (he : endK bs ws i * ws.getD k 0 ≤ endK bs ws k * ws.getD i 0) : bs.getD i 0 * ws.getD k 0 ≤ bs.getD k 0 * ws.getD i 0 := by
  refine Classical.byContradiction fun hn => ?_
  have wi := (h.2.2 i hi).2.1
  have wk := (h.2.2 k hk).2.1
  have key : ∀ j, j ≤ bs.length → endR (bs.getD k 0) (ws.getD k 0) bs ws j * ws.getD i 0 ≤ endR (bs.getD i 0) (ws.getD i 0) bs ws j * ws.getD k 0 ∧ (i < j → endR (bs.getD k 0) (ws.getD k 0) bs ws j * ws.getD i 0 < endR (bs.getD i 0) (ws.getD i 0) bs ws j * ws.getD k 0) := by
    intro j
    induction j with
    | zero => intro _; simp [endR]
    | succ j ih =>
      intro hj
      obtain ⟨i1, i2⟩ := ih (by omega)
      have wj := (h.2.2 j (by omega)).2.1
      have bj := (h.2.2 j (by omega)).1.1
      have t1 : term (bs.getD k 0) (ws.getD k 0) (bs.getD j 0) (ws.getD j 0) * ws.getD i 0 ≤ term (bs.getD i 0) (ws.getD i 0) (bs.getD j 0) (ws.getD j 0) * ws.getD k 0 := by
        have m1 := Int.mul_le_mul_of_nonneg_right (show bs.getD k 0 * ws.getD i 0 ≤ bs.getD i 0 * ws.getD k 0 by omega) (show 0 ≤ ws.getD j 0 by omega)
        unfold term
        rcases Int.le_total (bs.getD j 0 * ws.getD i 0) (bs.getD i 0 * ws.getD j 0) with hc | hc
        · rw [Int.min_eq_left hc, Int.mul_right_comm]
          exact Int.mul_le_mul_of_nonneg_right (Int.min_le_left _ _) (by omega)
        · rw [Int.min_eq_right hc]
          refine Int.le_trans (Int.mul_le_mul_of_nonneg_right (Int.min_le_right _ _) (by omega)) ?_
          rw [Int.mul_right_comm, Int.mul_right_comm (bs.getD i 0)]; exact m1
      have t2 : j = i → term (bs.getD k 0) (ws.getD k 0) (bs.getD j 0) (ws.getD j 0) * ws.getD i 0 < term (bs.getD i 0) (ws.getD i 0) (bs.getD j 0) (ws.getD j 0) * ws.getD k 0 := fun e => by
        subst e
        have e1 : term (bs.getD j 0) (ws.getD j 0) (bs.getD j 0) (ws.getD j 0) = bs.getD j 0 * ws.getD j 0 := by unfold term; omega
        have e2 : term (bs.getD k 0) (ws.getD k 0) (bs.getD j 0) (ws.getD j 0) = bs.getD k 0 * ws.getD j 0 := by unfold term; omega
        rw [e1, e2, Int.mul_right_comm (bs.getD j 0)]
        exact Int.mul_lt_mul_of_pos_right (by omega) (by omega)
      simp only [endR, Int.add_mul]
      refine ⟨by omega, fun hij => ?_⟩
      by_cases e : j = i
      · have := t2 e; omega
      · have := i2 (by omega); omega
  have := (key bs.length (Nat.le_refl _)).2 hi
  unfold endK at he
  omega
/-- A sum over a list of numbers. -/
def sumL (f : Nat → Int) : List Int → Int
  | [] => 0
  | x :: r => f x.toNat + sumL f r
theorem sumL_perm {f : Nat → Int} {l m : List Int} (h : l.Perm m) : sumL f l = sumL f m := by
  induction h with
  | nil => rfl
  | cons x _ ih => simp only [sumL, ih]
  | swap x y l => simp only [sumL]; omega
  | trans _ _ a b => exact a.trans b
theorem sumL_app (f : Nat → Int) : ∀ l m, sumL f (l ++ m) = sumL f l + sumL f m
  | [], m => by simp [sumL]
  | x :: l, m => by simp only [List.cons_append, sumL, sumL_app f l m]; omega
theorem sumL_nonneg {f : Nat → Int} (h : ∀ i, 0 ≤ f i) : ∀ l, 0 ≤ sumL f l
  | [] => by simp [sumL]
  | x :: l => by have := sumL_nonneg h l; have := h x.toNat; simp only [sumL]; omega
theorem sumL_take {f : Nat → Int} (h : ∀ i, 0 ≤ f i) (l : List Int) (t : Nat) : sumL f (l.take t) ≤ sumL f l := by
  conv => rhs; rw [← List.take_append_drop t l, sumL_app]
  have := sumL_nonneg h (l.drop t)
  omega
def rng (n : Nat) : List Int := (List.range n).map fun i : Nat => (i : Int)
theorem rng_len (n : Nat) : (rng n).length = n := by simp [rng]
theorem rng_get (n k : Nat) (h : k < n) : (rng n).getD k 0 = k := by simp [rng, h]
theorem rng_succ (n : Nat) : rng (n + 1) = rng n ++ [(n : Int)] := by simp [rng, List.range_succ]
theorem rng_mem {n : Nat} {x : Int} (h : x ∈ rng n) : DO n x := by
  simp only [rng, List.mem_map, List.mem_range] at h
  obtain ⟨i, hi, rfl⟩ := h
  exact ⟨by omega, by omega⟩
theorem sumL_rng {n v : Int} {bs ws : List Int} : ∀ i, sumL (fun j => term n v (bs.getD j 0) (ws.getD j 0)) (rng i) = endR n v bs ws i
  | 0 => rfl
  | i + 1 => by rw [rng_succ, sumL_app, sumL_rng i]; simp [sumL, endR]
/-- How much has gone when t of them are done. -/
def sumO (bs o : List Int) : Nat → Int
  | 0 => 0
  | t + 1 => sumO bs o t + bs.getD (o.getD t 0).toNat 0
theorem sumO_bound {bs ws : List Int} (h : okB bs ws) (o : List Int) : ∀ t, 0 ≤ sumO bs o t ∧ sumO bs o t ≤ 1048576 * t
  | 0 => by simp [sumO]
  | t + 1 => by
    have := sumO_bound h o t
    have h2 : 0 ≤ bs.getD (o.getD t 0).toNat 0 ∧ bs.getD (o.getD t 0).toNat 0 ≤ 1048576 := getD_cases (P := fun x => 0 ≤ x ∧ x ≤ 1048576) (by omega) (fun k hk => (h.2.2 k hk).1) _
    unfold sumO; omega
theorem whole_law {bs ws o : List Int} (h : okB bs ws) (hp : o.Perm (rng bs.length)) (hs : sortedTo (ltO bs ws) o o.length) {s k : Nat} (hsl : s < o.length) (hk : o.getD s 0 = k) : sumO bs o (s + 1) * ws.getD k 0 ≤ endK bs ws k := by
  have hl : o.length = bs.length := by rw [hp.length_eq, rng_len]
  have hD : ∀ t, t < o.length → DO bs.length (o.getD t 0) := fun t ht => perm_D hp (fun x hx => rng_mem hx) (by rw [rng_len]; omega)
  have hkl : k < bs.length := by have := hD s hsl; rw [hk] at this; unfold DO at this; omega
  have key : ∀ t, t ≤ s + 1 → sumO bs o t * ws.getD k 0 = sumL (fun j => term (bs.getD k 0) (ws.getD k 0) (bs.getD j 0) (ws.getD j 0)) (o.take t) := by
    intro t
    induction t with
    | zero => intro _; simp [sumO, sumL]
    | succ t ih =>
      intro ht
      have hto : t < o.length := by omega
      rw [List.take_add_one, List.getElem?_eq_getElem hto, Option.toList_some, sumL_app, ← ih (by omega)]
      have hg : o.getD t 0 = o[t] := by rw [List.getD_eq_getElem?_getD, List.getElem?_eq_getElem hto]; rfl
      simp only [sumO, Int.add_mul, sumL, ← hg]
      have hdt := hD t hto
      unfold DO at hdt
      have hle : bs.getD (o.getD t 0).toNat 0 * ws.getD k 0 ≤ bs.getD k 0 * ws.getD (o.getD t 0).toNat 0 := by
        by_cases e : t = s
        · subst e; rw [hk]; simp
        · have := hs t s (by omega) hsl
          simp only [ltO, decide_eq_false_iff_not, cfO, hk, Int.toNat_natCast] at this
          exact ratio h (by omega) hkl (by omega)
      unfold term
      rw [Int.min_eq_left hle]; omega
  rw [key (s + 1) (Nat.le_refl _)]
  have hnn : ∀ j, 0 ≤ term (bs.getD k 0) (ws.getD k 0) (bs.getD j 0) (ws.getD j 0) := fun j => term_nonneg (h.b0 k) (h.w0 k) (h.b0 j) (h.w0 j)
  refine Int.le_trans (sumL_take hnn o (s + 1)) ?_
  rw [sumL_perm hp, sumL_rng]; exact Int.le_refl _
/-- Each one has its place. -/
theorem place {o : List Int} {n k : Nat} (hp : o.Perm (rng n)) (hk : k < n) : ∃ s, s < o.length ∧ o.getD s 0 = k := by
  have : (k : Int) ∈ o := hp.mem_iff.2 (List.mem_map.2 ⟨k, List.mem_range.2 hk, rfl⟩)
  obtain ⟨s, hs, e⟩ := List.getElem_of_mem this
  exact ⟨s, hs, by rw [List.getD_eq_getElem?_getD, List.getElem?_eq_getElem hs]; exact e⟩
theorem distinct {o : List Int} {n : Nat} (hp : o.Perm (rng n)) {s t : Nat} (hs : s < o.length) (ht : t < o.length) (e : o.getD s 0 = o.getD t 0) : s = t := by
  have hn : o.Nodup := by
    rw [hp.nodup_iff]
    unfold rng
    exact List.Pairwise.map _ (fun a b hab e => hab (by omega)) List.nodup_range
  rw [List.getD_eq_getElem?_getD, List.getElem?_eq_getElem hs, List.getD_eq_getElem?_getD, List.getElem?_eq_getElem ht] at e
  exact (List.getElem_inj hn).1 e
end Go.Proofs.Ytamnmcljomgboaa
