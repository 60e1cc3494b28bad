import Derived.Test.YtdcodafidefloaaPlain5
/- who is alone is sent at once; a heavy flow among light ones -/
set_option linter.unusedVariables false
namespace Go.Proofs.Ytdcodafidefloaa

def pairsO (l : List Int) : List Op := l.flatMap fun x => [⟨1, 1, x⟩, ⟨2, 0, 0⟩]
def valsS (l : List Int) : List S := (l.filter fun x => decide (1 ≤ x) && decide (x ≤ 1500)).map fun x => ⟨1, x⟩
theorem pairsO_snoc (l : List Int) (x : Int) : pairsO (l ++ [x]) = pairsO l ++ [⟨1, 1, x⟩] ++ [⟨2, 0, 0⟩] := by simp [pairsO]
theorem pairsO_len (l : List Int) : (pairsO l).length = l.length * 2 := by
  induction l with
  | nil => rfl
  | cons x l ih =>
    have : pairsO (x :: l) = ⟨1, 1, x⟩ :: ⟨2, 0, 0⟩ :: pairsO l := rfl
    rw [this]; simp only [List.length_cons, ih]; omega
theorem valsS_len (l : List Int) : (valsS l).length ≤ l.length := by
  simp only [valsS, List.length_map]; exact List.length_filter_le _ _
theorem valsS_snoc (l : List Int) (x : Int) : valsS (l ++ [x]) = valsS l ++ (if 1 ≤ x ∧ x ≤ 1500 then [⟨1, x⟩] else []) := by
  simp only [valsS, List.filter_append, List.map_append]
  congr 1
  by_cases h : 1 ≤ x ∧ x ≤ 1500
  · rw [if_pos h]; simp [h]
  · rw [if_neg h]
    have : (decide (1 ≤ x) && decide (x ≤ 1500)) = false := by
      rw [Bool.and_eq_false_iff]; simp; omega
    simp [List.filter, this]
theorem run_okE {ws : List Int} {S : Int} (hw : okW ws S) (l : List Op) : ∃ M, OkN M (runR ws S l).nd := by
  have := run_okN hw l l.length
  rw [List.take_length] at this
  exact ⟨_, this⟩
theorem alone_step {ws : List Int} {S : Int} (hw : okW ws S) (h2 : ws.length = 2) (l : List Op) (x : Int) (hq : ∀ k, k < 2 → qN (runR ws S l).nd k = []) :
    (∀ k, k < 2 → qN (runR ws S (l ++ [⟨1, 1, x⟩] ++ [⟨2, 0, 0⟩])).nd k = []) ∧ (runR ws S (l ++ [⟨1, 1, x⟩] ++ [⟨2, 0, 0⟩])).sent = (runR ws S l).sent ++ (if 1 ≤ x ∧ x ≤ 1500 then [⟨1, x⟩] else []) := by
  obtain ⟨M, hok⟩ := run_okE hw (l ++ [⟨1, 1, x⟩])
  have hl := (run_lens ws S l).2.2
  have hl1 := (run_lens ws S (l ++ [⟨1, 1, x⟩])).2.2
  rw [runR_snoc]
  rw [runR_snoc] at hok hl1 ⊢
  generalize runR ws S l = r at *
  by_cases h : 1 ≤ x ∧ x ≤ 1500
  · have hs : stepR ws S r ⟨1, 1, x⟩ = ⟨r.errs ++ [0], r.sent, inN ws S r.nd 1 x⟩ := by
      unfold stepR
      rw [if_neg (by simp), if_neg (by simp), if_neg (by simp only; omega), if_neg (by simp only; omega)]; rfl
    rw [hs] at hok hl1 ⊢
    rw [if_pos h]
    have hiq := fun j => inN_q (ws := ws) (Sm := S) (nd := r.nd) (k := 1) (x := x) (by omega) j
    have h1 : qN (inN ws S r.nd 1 x) 1 = [x] := by rw [hiq]; simp [updQ, hq 1 (by omega)]
    have h0 : qN (inN ws S r.nd 1 x) 0 = [] := by rw [hiq]; simp [updQ, hq 0 (by omega)]
    simp only at hl1
    by_cases hk : pickK (inN ws S r.nd 1 x) < 0
    · have := pickK_neg hok hk 1 (by simp only; omega)
      rw [show qN (⟨r.errs ++ [0], r.sent, inN ws S r.nd 1 x⟩ : Rn).nd 1 = qN (inN ws S r.nd 1 x) 1 from rfl, h1] at this
      cases this
    · obtain ⟨k, h3, h4, h5⟩ := pickK_pos hk
      have hk1 : k = 1 := by
        rcases (by omega : k = 0 ∨ k = 1) with rfl | rfl
        · exact (h5 h0).elim
        · rfl
      subst hk1
      have hs2 : stepR ws S ⟨r.errs ++ [0], r.sent, inN ws S r.nd 1 x⟩ ⟨2, 0, 0⟩ = ⟨r.errs ++ [0] ++ [0], r.sent ++ [⟨1, x⟩], outN ws S (inN ws S r.nd 1 x) 1⟩ := by
        unfold stepR
        rw [if_pos rfl]
        simp only
        rw [if_neg hk, h4]
        have : headQ ((inN ws S r.nd 1 x).fl.getD 1 f0).q = x := by
          have : ((inN ws S r.nd 1 x).fl.getD 1 f0).q = [x] := h1
          rw [this]; rfl
        show Rn.mk _ (r.sent ++ [⟨1, headQ ((inN ws S r.nd 1 x).fl.getD 1 f0).q⟩]) _ = _
        rw [this]; rfl
      rw [hs2]
      refine ⟨fun k hk => ?_, rfl⟩
      simp only
      rw [outN_q h3, h1]
      rcases (by omega : k = 0 ∨ k = 1) with rfl | rfl
      · simp [updQ, h0]
      · simp [updQ]
  · have hs : ∃ e, stepR ws S r ⟨1, 1, x⟩ = ⟨r.errs ++ [e], r.sent, r.nd⟩ := by
      refine ⟨2, ?_⟩
      unfold stepR
      rw [if_neg (by simp), if_neg (by simp), if_neg (by simp only; omega), if_pos (by simp only; omega)]
    obtain ⟨e, hs⟩ := hs
    rw [hs, if_neg h, List.append_nil]
    by_cases hk : pickK r.nd < 0
    · have hs2 : stepR ws S ⟨r.errs ++ [e], r.sent, r.nd⟩ ⟨2, 0, 0⟩ = ⟨r.errs ++ [e] ++ [3], r.sent, ⟨r.nd.fl, pickT r.nd⟩⟩ := by
        unfold stepR
        rw [if_pos rfl]
        simp only
        rw [if_pos hk]
      rw [hs2]
      exact ⟨hq, rfl⟩
    · obtain ⟨k, h3, h4, h5⟩ := pickK_pos hk
      exact (h5 (hq k (by omega))).elim
theorem run_alone {ws : List Int} {S : Int} (hw : okW ws S) (h2 : ws.length = 2) (l : List Int) : (runR ws S (pairsO l)).sent = valsS l := by
  have : ∀ n, n ≤ l.length → (∀ k, k < 2 → qN (runR ws S (pairsO (l.take n))).nd k = []) ∧ (runR ws S (pairsO (l.take n))).sent = valsS (l.take n) := fun n => by
    induction n with
    | zero =>
      intro _
      refine ⟨fun k hk => ?_, rfl⟩
      simp only [List.take_zero, pairsO, List.flatMap_nil, runR, List.foldl_nil, startR, qN, List.getD_eq_getElem?_getD, List.getElem?_replicate]
      split <;> rfl
    | succ n ih =>
      intro hn
      have ih := ih (by omega)
      have e : l.take (n + 1) = l.take n ++ [l.getD n 0] := by
        rw [List.take_add_one, List.getD_eq_getElem?_getD, List.getElem?_eq_getElem (by omega)]; rfl
      rw [e, pairsO_snoc, valsS_snoc, ← ih.2]
      exact alone_step hw h2 _ _ ih.1
  have := (this l.length (Nat.le_refl _)).2
  rwa [List.take_length] at this

/- all bytes so many times as great -/
def scF (c : Int) (f : Fq) : Fq := ⟨f.q.map (· * c), f.b * c, f.u * c⟩
def scN (c : Int) (nd : Nd) : Nd := ⟨nd.fl.map (scF c), nd.t * c⟩
def scR (c : Int) (r : Rn) : Rn := ⟨r.errs, r.sent.map fun s => ⟨s.f, s.n * c⟩, scN c r.nd⟩
def scO (c : Int) (o : Op) : Op := ⟨o.k, o.f, o.b * c⟩
theorem sc_getD (c : Int) (fl : List Fq) (k : Nat) : (fl.map (scF c)).getD k f0 = scF c (fl.getD k f0) := by
  simp only [List.getD_eq_getElem?_getD, List.getElem?_map]
  cases fl[k]? with
  | none => simp [scF, f0]
  | some f => rfl
theorem sc_nil {c : Int} {f : Fq} : (scF c f).q = [] ↔ f.q = [] := by simp [scF]
theorem sc_lt {c a b : Int} (hc : 0 < c) : a * c < b * c ↔ a < b := Int.mul_lt_mul_right hc
theorem sc_le {c a b : Int} (hc : 0 < c) : a * c ≤ b * c ↔ a ≤ b := Int.mul_le_mul_right hc
theorem leastN_yes {fl : List Fq} {i : Nat} (h : (fl.getD i f0).q ≠ [] ∧ (leastN fl i < 0 ∨ (fl.getD i f0).b < leastN fl i)) : leastN fl (i + 1) = (fl.getD i f0).b := if_pos h
theorem leastN_no {fl : List Fq} {i : Nat} (h : ¬ ((fl.getD i f0).q ≠ [] ∧ (leastN fl i < 0 ∨ (fl.getD i f0).b < leastN fl i))) : leastN fl (i + 1) = leastN fl i := if_neg h
theorem sc_least {c : Int} (hc : 0 < c) (fl : List Fq) (hb : ∀ k, 0 ≤ (fl.getD k f0).b) : ∀ i, leastN (fl.map (scF c)) i = if leastN fl i < 0 then -1 else leastN fl i * c
  | 0 => rfl
  | i + 1 => by
    have ih := sc_least hc fl hb i
    have hi := hb i
    by_cases hq : (fl.getD i f0).q = []
    · rw [leastN_no (fl := fl.map (scF c)) (fun h => h.1 (by rw [sc_getD]; exact sc_nil.2 hq)), leastN_no (fl := fl) (fun h => h.1 hq), ih]
    · have hq' : ((fl.map (scF c)).getD i f0).q ≠ [] := by rw [sc_getD]; exact fun h => hq (sc_nil.1 h)
      have hbb : ((fl.map (scF c)).getD i f0).b = (fl.getD i f0).b * c := by rw [sc_getD]; rfl
      by_cases hL : leastN fl i < 0
      · rw [leastN_yes (fl := fl.map (scF c)) ⟨hq', .inl (by rw [ih, if_pos hL]; decide)⟩, leastN_yes (fl := fl) ⟨hq, .inl hL⟩, if_neg (by omega), hbb]
      · rw [if_neg hL] at ih
        have hLc : 0 ≤ leastN fl i * c := Int.mul_nonneg (by omega) (by omega)
        by_cases h : (fl.getD i f0).b < leastN fl i
        · rw [leastN_yes (fl := fl.map (scF c)) ⟨hq', .inr (by rw [ih, hbb]; exact (sc_lt hc).2 h)⟩, leastN_yes (fl := fl) ⟨hq, .inr h⟩, if_neg (by omega), hbb]
        · have h2 : ¬ ((fl.map (scF c)).getD i f0).b < leastN (fl.map (scF c)) i := by rw [ih, hbb]; exact fun h' => h ((sc_lt hc).1 h')
          rw [leastN_no (fl := fl.map (scF c)) (fun h' => h'.2.elim (fun h' => by omega) h2), leastN_no (fl := fl) (fun h' => h'.2.elim hL h), if_neg hL, ih]
theorem sc_best {c : Int} (hc : 0 < c) (fl : List Fq) (t : Int) : ∀ i, bestN (fl.map (scF c)) (t * c) i = bestN fl t i
  | 0 => rfl
  | i + 1 => by
    simp only [bestN, sc_getD, sc_best hc fl t i]
    have e1 : (scF c (fl.getD i f0)).b ≤ t * c ↔ (fl.getD i f0).b ≤ t := sc_le hc
    have e2 : (scF c (fl.getD i f0)).u < (scF c (fl.getD (bestN fl t i).toNat f0)).u ↔ (fl.getD i f0).u < (fl.getD (bestN fl t i).toNat f0).u := sc_lt hc
    simp only [ne_eq, sc_nil, e1, e2]
theorem sc_pickT {c M : Int} (hc : 0 < c) {nd : Nd} (hok : OkN M nd) : pickT (scN c nd) = pickT nd * c := by
  unfold pickT
  simp only [scN, List.length_map, sc_least hc nd.fl (fun k => (hok.f k).1.1)]
  split
  · rw [if_pos (by decide)]
  · rename_i h
    have hLc : 0 ≤ leastN nd.fl nd.fl.length * c := Int.mul_nonneg (by omega) (by omega)
    rw [if_neg (by omega)]
    rcases Int.le_total nd.t (leastN nd.fl nd.fl.length) with h | h
    · rw [Int.max_eq_right h, Int.max_eq_right ((sc_le hc).2 h)]
    · rw [Int.max_eq_left h, Int.max_eq_left ((sc_le hc).2 h)]
theorem sc_pickK {c M : Int} (hc : 0 < c) {nd : Nd} (hok : OkN M nd) : pickK (scN c nd) = pickK nd := by
  have hT := sc_pickT hc hok
  unfold pickK
  rw [hT]
  simp only [scN, List.length_map, sc_least hc nd.fl (fun k => (hok.f k).1.1), sc_best hc]
  split
  · rw [if_pos (by decide)]
  · rename_i h
    have hLc : 0 ≤ leastN nd.fl nd.fl.length * c := Int.mul_nonneg (by omega) (by omega)
    rw [if_neg (by omega)]
theorem sc_headQ (c : Int) (l : List Int) : headQ (l.map (· * c)) = headQ l * c := by
  cases l with
  | nil => simp [headQ]
  | cons x r => rfl
theorem sc_headF (c S w fr : Int) (f : Fq) : headF S w (fr * c) (scF c f) = scF c (headF S w fr f) := by
  simp only [headF, scF, sc_headQ, Int.add_mul]
  congr 2
  rw [Int.mul_assoc, Int.mul_assoc, Int.mul_assoc, Int.mul_assoc]
  congr 1
  rw [Int.mul_comm c, Int.mul_assoc]
theorem sc_tailF (c S : Int) (ws : List Int) (k : Nat) (f : Fq) : tailF ws S k (scF c f) = scF c (tailF ws S k f) := by
  unfold tailF
  have e : (scF c f).q.tail = f.q.tail.map (· * c) := by simp [scF]
  rw [e]
  by_cases h : f.q.tail = []
  · rw [if_pos h, if_pos (by rw [h]; rfl)]; rfl
  · rw [if_neg h, if_neg (fun h' => h (List.map_eq_nil_iff.1 h'))]
    exact sc_headF c S _ f.u ⟨f.q.tail, f.b, f.u⟩
theorem sc_max {c a b : Int} (hc : 0 < c) : max (a * c) (b * c) = max a b * c := by
  rcases Int.le_total a b with h | h
  · rw [Int.max_eq_right h, Int.max_eq_right ((sc_le hc).2 h)]
  · rw [Int.max_eq_left h, Int.max_eq_left ((sc_le hc).2 h)]
theorem sc_inN {c : Int} (hc : 0 < c) (ws : List Int) (S : Int) (nd : Nd) (k : Nat) (x : Int) : inN ws S (scN c nd) k (x * c) = scN c (inN ws S nd k x) := by
  simp only [inN, scN, sc_getD, List.map_set]
  congr 2
  by_cases h : (nd.fl.getD k f0).q = []
  · rw [if_pos h, if_pos (sc_nil.2 h)]
    have e : max (scF c (nd.fl.getD k f0)).u (nd.t * c) = max (nd.fl.getD k f0).u nd.t * c := sc_max hc
    rw [e]
    exact sc_headF c S _ _ ⟨[x], _, _⟩
  · rw [if_neg h, if_neg (fun h' => h (sc_nil.1 h'))]
    simp [scF]
theorem sc_outN {c M : Int} (hc : 0 < c) (ws : List Int) (S : Int) {nd : Nd} (hok : OkN M nd) (k : Nat) : outN ws S (scN c nd) k = scN c (outN ws S nd k) := by
  have hT := sc_pickT hc hok
  unfold outN
  rw [hT]
  simp only [scN, sc_getD, List.map_set, sc_tailF]
  congr 1
  simp only [scF, sc_headQ, Int.add_mul]
  rw [Int.mul_assoc, Int.mul_assoc, Int.mul_comm c]
theorem step_none {ws : List Int} {S : Int} {r : Rn} {o : Op} (h1 : o.k = 2) (h2 : pickK r.nd < 0) : stepR ws S r o = ⟨r.errs ++ [3], r.sent, ⟨r.nd.fl, pickT r.nd⟩⟩ := by
  unfold stepR; rw [if_pos h1, if_pos h2]
theorem step_out {ws : List Int} {S : Int} {r : Rn} {o : Op} (h1 : o.k = 2) (h2 : ¬ pickK r.nd < 0) : stepR ws S r o = ⟨r.errs ++ [0], r.sent ++ [⟨pickK r.nd, headQ (r.nd.fl.getD (pickK r.nd).toNat f0).q⟩], outN ws S r.nd (pickK r.nd).toNat⟩ := by
  unfold stepR; rw [if_pos h1, if_neg h2]
theorem step_kind {ws : List Int} {S : Int} {r : Rn} {o : Op} (h1 : o.k ≠ 2) (h2 : o.k ≠ 1) : stepR ws S r o = ⟨r.errs ++ [5], r.sent, r.nd⟩ := by
  unfold stepR; rw [if_neg h1, if_pos h2]
theorem step_flow {ws : List Int} {S : Int} {r : Rn} {o : Op} (h1 : o.k = 1) (h2 : o.f < 0 ∨ (ws.length : Int) ≤ o.f) : stepR ws S r o = ⟨r.errs ++ [3], r.sent, r.nd⟩ := by
  unfold stepR; rw [if_neg (by omega), if_neg (by omega), if_pos h2]
theorem step_in {ws : List Int} {S : Int} {r : Rn} {o : Op} (h1 : o.k = 1) (h2 : ¬ (o.f < 0 ∨ (ws.length : Int) ≤ o.f)) (h3 : ¬ (o.b < 1 ∨ 1500 < o.b)) : stepR ws S r o = ⟨r.errs ++ [0], r.sent, inN ws S r.nd o.f.toNat o.b⟩ := by
  unfold stepR; rw [if_neg (by omega), if_neg (by omega), if_neg h2, if_neg h3]
theorem sc_step {c M : Int} (hc : 1 ≤ c ∧ c ≤ 1500) (ws : List Int) (S : Int) {r : Rn} {o : Op} (hok : OkN M r.nd) (ho : o.k = 1 → o.b = 1) : stepR ws S (scR c r) (scO c o) = scR c (stepR ws S r o) := by
  have hc0 : 0 < c := by omega
  have hK : pickK (scR c r).nd = pickK r.nd := sc_pickK hc0 hok
  have hT : pickT (scR c r).nd = pickT r.nd * c := sc_pickT hc0 hok
  have k1 : (scO c o).k = o.k := rfl
  have k2 : (scO c o).f = o.f := rfl
  have k3 : (scO c o).b = o.b * c := rfl
  by_cases h2 : o.k = 2
  · by_cases hk : pickK r.nd < 0
    · rw [step_none (o := o) h2 hk, step_none (k1.trans h2) (by rw [hK]; exact hk), hT]; rfl
    · rw [step_out (o := o) h2 hk, step_out (k1.trans h2) (by rw [hK]; exact hk), hK]
      have e1 : outN ws S (scR c r).nd (pickK r.nd).toNat = scN c (outN ws S r.nd (pickK r.nd).toNat) := sc_outN hc0 ws S hok _
      have e2 : headQ ((scR c r).nd.fl.getD (pickK r.nd).toNat f0).q = headQ (r.nd.fl.getD (pickK r.nd).toNat f0).q * c := by
        show headQ (((r.nd.fl.map (scF c)).getD (pickK r.nd).toNat f0).q) = _
        rw [sc_getD]; exact sc_headQ c _
      rw [e1, e2]
      simp only [scR, List.map_append, List.map_cons, List.map_nil]
  · by_cases h1 : o.k = 1
    · have hb := ho h1
      by_cases hf : o.f < 0 ∨ (ws.length : Int) ≤ o.f
      · rw [step_flow (o := o) h1 hf, step_flow (k1.trans h1) hf]; rfl
      · rw [step_in (o := o) h1 hf (by omega), step_in (k1.trans h1) hf (by rw [k3, hb]; omega), k3, k2]
        have e1 : inN ws S (scR c r).nd o.f.toNat (o.b * c) = scN c (inN ws S r.nd o.f.toNat o.b) := sc_inN hc0 ws S _ _ _
        rw [e1]; rfl
    · rw [step_kind (o := o) h2 h1, step_kind (by rw [k1]; exact h2) (by rw [k1]; exact h1)]; rfl
theorem sc_run {c : Int} (hc : 1 ≤ c ∧ c ≤ 1500) {ws : List Int} {S : Int} (hw : okW ws S) (l : List Op) (hl : ∀ o ∈ l, o.k = 1 → o.b = 1) : runR ws S (l.map (scO c)) = scR c (runR ws S l) := by
  have : ∀ n, n ≤ l.length → runR ws S ((l.take n).map (scO c)) = scR c (runR ws S (l.take n)) := fun n => by
    induction n with
    | zero =>
      intro _
      simp only [List.take_zero, List.map_nil, runR, List.foldl_nil, startR, scR, scN]
      simp [scF, f0]
    | succ n ih =>
      intro hn
      have ih := ih (by omega)
      have e : l.take (n + 1) = l.take n ++ [l.getD n o0] := by
        rw [List.take_add_one, List.getD_eq_getElem?_getD, List.getElem?_eq_getElem (by omega)]; rfl
      have hm : l.getD n o0 ∈ l := by rw [List.getD_eq_getElem?_getD, List.getElem?_eq_getElem (by omega)]; exact List.getElem_mem _
      rw [e, List.map_append, List.map_cons, List.map_nil, runR_snoc, runR_snoc, ih]
      exact sc_step hc ws S (run_okN hw l n) (hl _ hm)
  have := this l.length (Nat.le_refl _)
  rwa [List.take_length] at this

def wsM (m : Nat) : List Int := (m : Int) :: List.replicate m 1
def in1 (x : Int) (m i : Nat) : List Op := List.replicate (min i m) ⟨1, 0, x⟩
def lights (x : Int) : Nat → List Op
  | 0 => []
  | i + 1 => lights x i ++ [⟨1, (i : Int) + 1, x⟩]
def opsM (x : Int) (m a b c : Nat) : List Op := List.replicate a ⟨1, 0, x⟩ ++ lights x b ++ List.replicate c ⟨2, 0, 0⟩
def smoothB (m : Nat) : Bool :=
  let s := (runR (wsM m) (2 * m) (opsM 1 m m m (2 * m))).sent
  s.length == 2 * m && (List.range (2 * m)).all fun k => k == 0 || !((s.getD k s0).f == 0 && (s.getD (k - 1) s0).f == 0)
end Go.Proofs.Ytdcodafidefloaa
