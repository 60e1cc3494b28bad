import Derived.Test.YtddoegbgnmdfhaaPlain2
/- two likes: reckoned at one byte each, then scaled -/
set_option linter.unusedVariables false
set_option maxRecDepth 100000
namespace Go.Proofs.Ytddoegbgnmdfhaa

def scF (c : Int) (f : Fq) : Fq := ⟨f.b.map (· * c), f.t.map (· * c), f.l * c⟩
def scN (c : Int) (nd : Nd) : Nd := ⟨nd.fl.map (scF c), nd.t * c⟩
def scR (c : Int) (r : Rn) : Rn := ⟨r.errs, r.sent.map fun s => ⟨s.f, s.n * c⟩, scN c r.nd⟩
def scO (c : Int) (o : Op) : Op := ⟨o.k, o.f, o.b * c⟩
theorem sc_getD (c : Int) (fl : List Fq) (k : Nat) : (fl.map (scF c)).getD k f0 = scF c (fl.getD k f0) := by
  simp only [List.getD_eq_getElem?_getD, List.getElem?_map]
  cases fl[k]? with
  | none => simp [scF, f0]
  | some f => rfl
theorem sc_nil {c : Int} {f : Fq} : (scF c f).t = [] ↔ f.t = [] := by simp [scF]
theorem sc_lt {c a b : Int} (hc : 0 < c) : a * c < b * c ↔ a < b := Int.mul_lt_mul_right hc
theorem sc_le {c a b : Int} (hc : 0 < c) : a * c ≤ b * c ↔ a ≤ b := Int.mul_le_mul_right hc
theorem sc_headQ (c : Int) (l : List Int) : headQ (l.map (· * c)) = headQ l * c := by
  cases l with
  | nil => simp [headQ]
  | cons x r => rfl
theorem sc_best {c : Int} (hc : 0 < c) (fl : List Fq) : ∀ i, bestN (fl.map (scF c)) i = bestN fl i
  | 0 => rfl
  | i + 1 => by
    simp only [bestN, sc_getD, sc_best hc fl i]
    have e1 : headQ (scF c (fl.getD i f0)).t = headQ (fl.getD i f0).t * c := sc_headQ c _
    have e2 : headQ (scF c (fl.getD (bestN fl i).toNat f0)).t = headQ (fl.getD (bestN fl i).toNat f0).t * c := sc_headQ c _
    simp only [ne_eq, sc_nil, e1, e2, sc_lt hc]
theorem sc_pickK {c : Int} (hc : 0 < c) (nd : Nd) : pickK (scN c nd) = pickK nd := by
  unfold pickK
  simp only [scN, List.length_map, sc_best hc]
theorem sc_max {c a b : Int} (hc : 0 < c) : max (a * c) (b * c) = max a b * c := by
  rcases Int.le_total a b with h | h
  · rw [Int.max_eq_right h, Int.max_eq_right ((sc_le hc).2 h)]
  · rw [Int.max_eq_left h, Int.max_eq_left ((sc_le hc).2 h)]
theorem sc_inF {c : Int} (hc : 0 < c) (w t x : Int) (f : Fq) : inF w (t * c) (x * c) (scF c f) = scF c (inF w t x f) := by
  have e : tagN w (t * c) (x * c) (scF c f) = tagN w t x f * c := by
    have h1 : max (scF c f).l (t * c) = max f.l t * c := sc_max hc
    unfold tagN
    rw [h1, Int.add_mul, Int.mul_assoc, Int.mul_assoc, Int.mul_comm c]
  unfold inF
  rw [e]
  simp [scF]
theorem sc_inN {c : Int} (hc : 0 < c) (ws : List Int) (nd : Nd) (k : Nat) (x : Int) : inN ws (scN c nd) k (x * c) = scN c (inN ws nd k x) := by
  simp only [inN, scN, sc_getD, List.map_set, sc_inF hc]
theorem sc_outN (c : Int) (nd : Nd) (k : Nat) : outN (scN c nd) k = scN c (outN nd k) := by
  have e : outF (scF c (nd.fl.getD k f0)) = scF c (outF (nd.fl.getD k f0)) := by simp [outF, scF]
  have e2 : headQ (scF c (nd.fl.getD k f0)).t = headQ (nd.fl.getD k f0).t * c := sc_headQ c _
  simp only [outN, scN, sc_getD, List.map_set, e, e2]
theorem step_flow {ws : List Int} {r : Rn} {o : Op} (h1 : o.k = 1) (h2 : o.f < 0 ∨ (ws.length : Int) ≤ o.f) : stepR ws r o = ⟨r.errs ++ [3], r.sent, r.nd⟩ := by
  unfold stepR; rw [if_pos h1, if_pos h2]
theorem step_in {ws : List Int} {r : Rn} {o : Op} (h1 : o.k = 1) (h2 : ¬ (o.f < 0 ∨ (ws.length : Int) ≤ o.f)) (h3 : ¬ (o.b < 1 ∨ 1500 < o.b)) : stepR ws r o = ⟨r.errs ++ [0], r.sent, inN ws r.nd o.f.toNat o.b⟩ := by
  unfold stepR; rw [if_pos h1, if_neg h2, if_neg h3]
theorem step_none {ws : List Int} {r : Rn} {o : Op} (h1 : o.k = 2) (h2 : pickK r.nd < 0) : stepR ws r o = ⟨r.errs ++ [3], r.sent, r.nd⟩ := by
  unfold stepR; rw [if_neg (by omega), if_pos h1, if_pos h2]
theorem step_out {ws : List Int} {r : Rn} {o : Op} (h1 : o.k = 2) (h2 : ¬ pickK r.nd < 0) : stepR ws r o = ⟨r.errs ++ [0], r.sent ++ [⟨pickK r.nd, headQ (r.nd.fl.getD (pickK r.nd).toNat f0).b⟩], outN r.nd (pickK r.nd).toNat⟩ := by
  unfold stepR; rw [if_neg (by omega), if_pos h1, if_neg h2]
theorem step_kind {ws : List Int} {r : Rn} {o : Op} (h1 : o.k ≠ 1) (h2 : o.k ≠ 2) : stepR ws r o = ⟨r.errs ++ [5], r.sent, r.nd⟩ := by
  unfold stepR; rw [if_neg h1, if_neg h2]
theorem sc_step {c : Int} (hc : 1 ≤ c ∧ c ≤ 1500) (ws : List Int) (r : Rn) (o : Op) (ho : o.k = 1 → o.b = 1) : stepR ws (scR c r) (scO c o) = scR c (stepR ws r o) := by
  have hc0 : 0 < c := by omega
  have hK : pickK (scR c r).nd = pickK r.nd := sc_pickK hc0 r.nd
  have k1 : (scO c o).k = o.k := rfl
  have k2 : (scO c o).f = o.f := rfl
  have k3 : (scO c o).b = o.b * c := rfl
  by_cases h1 : o.k = 1
  · have hb := ho h1
    by_cases hf : o.f < 0 ∨ (ws.length : Int) ≤ o.f
    · rw [step_flow (o := o) h1 hf, step_flow (k1.trans h1) hf]; rfl
    · rw [step_in (o := o) h1 hf (by omega), step_in (k1.trans h1) hf (by rw [k3, hb]; omega), k3, k2]
      have e1 : inN ws (scR c r).nd o.f.toNat (o.b * c) = scN c (inN ws r.nd o.f.toNat o.b) := sc_inN hc0 ws _ _ _
      rw [e1]; rfl
  · by_cases h2 : o.k = 2
    · by_cases hk : pickK r.nd < 0
      · rw [step_none (o := o) h2 hk, step_none (k1.trans h2) (by rw [hK]; exact hk)]; rfl
      · rw [step_out (o := o) h2 hk, step_out (k1.trans h2) (by rw [hK]; exact hk), hK]
        have e1 : outN (scR c r).nd (pickK r.nd).toNat = scN c (outN r.nd (pickK r.nd).toNat) := sc_outN c _ _
        have e2 : headQ ((scR c r).nd.fl.getD (pickK r.nd).toNat f0).b = headQ (r.nd.fl.getD (pickK r.nd).toNat f0).b * c := by
          show headQ (((r.nd.fl.map (scF c)).getD (pickK r.nd).toNat f0).b) = _
          rw [sc_getD]; exact sc_headQ c _
        rw [e1, e2]
        simp only [scR, List.map_append, List.map_cons, List.map_nil]
    · rw [step_kind (o := o) h1 h2, step_kind (by rw [k1]; exact h1) (by rw [k1]; exact h2)]; rfl
theorem sc_run {c : Int} (hc : 1 ≤ c ∧ c ≤ 1500) (ws : List Int) (l : List Op) (hl : ∀ o ∈ l, o.k = 1 → o.b = 1) : runR ws (l.map (scO c)) = scR c (runR ws l) := by
  have : ∀ n, n ≤ l.length → runR ws ((l.take n).map (scO c)) = scR c (runR ws (l.take n)) := fun n => by
    induction n with
    | zero =>
      intro _
      simp only [List.take_zero, List.map_nil, runR, List.foldl_nil, startR, scR, scN]
      simp [scF, f0]
    | succ n ih =>
      intro hn
      have ih := ih (by omega)
      have e : l.take (n + 1) = l.take n ++ [l.getD n o0] := by
        rw [List.take_add_one, List.getD_eq_getElem?_getD, List.getElem?_eq_getElem (by omega)]; rfl
      have hm : l.getD n o0 ∈ l := by rw [List.getD_eq_getElem?_getD, List.getElem?_eq_getElem (by omega)]; exact List.getElem_mem _
      rw [e, List.map_append, List.map_cons, List.map_nil, runR_snoc, runR_snoc, ih]
      exact sc_step hc ws _ _ (hl _ hm)
  have := this l.length (Nat.le_refl _)
  rwa [List.take_length] at this
def opsL (x : Int) (a b c : Nat) : List Op := List.replicate a ⟨1, 0, x⟩ ++ List.replicate b ⟨1, 1, x⟩ ++ List.replicate c ⟨2, 0, 0⟩
def lightB (m : Nat) : Bool :=
  let s := (runR [3, 3] (opsL 1 m m (2 * m))).sent
  s.length == 2 * m && (List.range (2 * m)).all fun k => (s.getD k s0).f == ((k % 2 : Nat) : Int)
theorem light_all : ((List.range 51).all lightB) = true := by decide +kernel
theorem opsL_a (x : Int) (a : Nat) : opsL x (a + 1) 0 0 = opsL x a 0 0 ++ [⟨1, 0, x⟩] := by simp [opsL, List.replicate_succ']
theorem opsL_b (x : Int) (a b : Nat) : opsL x a (b + 1) 0 = opsL x a b 0 ++ [⟨1, 1, x⟩] := by simp [opsL, List.replicate_succ']
theorem opsL_c (x : Int) (a b c : Nat) : opsL x a b (c + 1) = opsL x a b c ++ [⟨2, 0, 0⟩] := by simp [opsL, List.replicate_succ']
theorem opsL_len (x : Int) (a b c : Nat) : (opsL x a b c).length = a + b + c := by simp [opsL]; omega
theorem opsL_sc (x : Int) (a b c : Nat) : opsL x a b c = (opsL 1 a b c).map (scO x) := by
  simp only [opsL, List.map_append, List.map_replicate, scO, Int.one_mul, Int.zero_mul]
theorem opsL_b1 (a b c : Nat) : ∀ o ∈ opsL 1 a b c, o.k = 1 → o.b = 1 := fun o h hk => by
  simp only [opsL, List.mem_append, List.mem_replicate] at h
  rcases h with (⟨_, rfl⟩ | ⟨_, rfl⟩) | ⟨_, rfl⟩
  · rfl
  · rfl
  · simp at hk
theorem light_run {m : Nat} (h : 1 ≤ m ∧ m ≤ 50) {x : Int} (hx : 1 ≤ x ∧ x ≤ 1500) : (runR [3, 3] (opsL x m m (2 * m))).sent.length = 2 * m ∧
    ∀ k, k < 2 * m → ((runR [3, 3] (opsL x m m (2 * m))).sent.getD k s0).f = ((k % 2 : Nat) : Int) := by
  have hs : lightB m = true := List.all_eq_true.1 light_all m (by simp; omega)
  rw [opsL_sc, sc_run hx _ _ (opsL_b1 m m (2 * m))]
  unfold lightB at hs
  simp only at hs
  generalize (runR [3, 3] (opsL 1 m m (2 * m))) = r at *
  have hf : ∀ k, ((scR x r).sent.getD k s0).f = (r.sent.getD k s0).f := fun k => by
    simp only [scR, List.getD_eq_getElem?_getD, List.getElem?_map]
    cases r.sent[k]? <;> rfl
  simp only [Bool.and_eq_true, beq_iff_eq, List.all_eq_true, List.mem_range] at hs
  refine ⟨by simp only [scR, List.length_map]; exact hs.1, fun k h1 => ?_⟩
  rw [hf]
  exact hs.2 k h1
end Go.Proofs.Ytddoegbgnmdfhaa
