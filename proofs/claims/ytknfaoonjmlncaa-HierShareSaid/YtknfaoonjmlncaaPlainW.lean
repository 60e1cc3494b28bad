import Derived.Test.YtknfaoonjmlncaaPlainV
/- Leaves of a tree of classes served, in plain Lean: what the law meets. -/
set_option linter.unusedVariables false
set_option linter.unusedSimpArgs false
namespace Go.Proofs.Ytknfaoonjmlncaa

theorem inv_reachW {l : List Nd} (hl : okT l) {kd : Nat → List Int} {S : St} {q : Nat → List Int} {M : Int} (h : Inv l.length kd S q) (hok : OkS l.length M S) (hT : Tk l.length kd S) (hu : ∀ j, j < l.length → (S j).up = up l j) : ∀ (d k : Nat), l.length - k ≤ d → k < l.length → (S k).bytes ≠ 0 → ∃ lf : Nat, (S k).leaf = lf ∧ lf < l.length ∧ kd lf = [] ∧ q lf ≠ [] ∧ (S k).bytes = hdQ (q lf) ∧ (k : Int) ∈ way l lf
  | 0, k, hd, hk, _ => by omega
  | d + 1, k, hd, hk, hb => by
    by_cases hkd : kd k = []
    · rcases h.leaf k hk hkd with ⟨_, h2⟩ | ⟨h1, h2, h3, h4⟩
      · exact (hb h2).elim
      · exact ⟨k, h4, hk, hkd, h1, h2, way_mem hl hk⟩
    · rcases h.inner k hk hkd with ⟨_, h2⟩ | ⟨c, h1, h2, h3, h4⟩
      · exact (hb h2).elim
      · obtain ⟨j, rfl, h5, h6⟩ := (hT.mem k hk c).1 h1
        rw [Int.toNat_natCast] at h2 h3 h4
        have hj : k < j := by rcases hok.up_lt h5 with h7 | ⟨p, h7, h8⟩ <;> omega
        obtain ⟨lf, e1, e2, e3, e4, e5, e6⟩ := inv_reachW hl h hok hT hu d j (by omega) h5 (by omega)
        exact ⟨lf, h3.trans e1, e2, e3, e4, h4.trans e5, way_up hl lf lf (Nat.le_refl _) e2 j k e6 (by rw [← hu j h5]; exact h6)⟩
/-- All on the way of what goes have it. -/
theorem inv_path {l : List Nd} (hl : okT l) {kd : Nat → List Int} {S : St} {q : Nat → List Int} {M : Int} (h : Inv l.length kd S q) (hok : OkS l.length M S) (hT : Tk l.length kd S) (hu : ∀ j, j < l.length → (S j).up = up l j) {lf : Nat} (hlf : lf < l.length) (h0 : (S 0).leaf = lf) (hb : (S 0).bytes ≠ 0) : ∀ (d u : Nat), u ≤ d → u < l.length → (u : Int) ∈ way l lf → (S u).leaf = lf ∧ (S u).bytes = (S 0).bytes
  | 0, u, hd, hun, hw => by
    obtain rfl : u = 0 := by omega
    exact ⟨h0, rfl⟩
  | d + 1, u, hd, hun, hw => by
    by_cases e : u = 0
    · subst e; exact ⟨h0, rfl⟩
    · obtain ⟨r, h2, h3, h4⟩ := way_lt hl hun (by omega)
      have hr := way_up hl lf lf (Nat.le_refl _) hlf u r hw h2
      obtain ⟨h5, h6⟩ := inv_path hl h hok hT hu hlf h0 hb d r (by omega) (by omega) hr
      have hkd := hT.up_ne hun (show r < l.length by omega) (by rw [hu u hun]; exact h2)
      rcases h.inner r (by omega) hkd with ⟨_, h7⟩ | ⟨c, h7, h8, h9, h10⟩
      · exact (hb (by omega)).elim
      · obtain ⟨j, rfl, h11, h12⟩ := (hT.mem r (by omega) c).1 h7
        rw [Int.toNat_natCast] at h8 h9 h10
        obtain ⟨lf', e1, e2, _, _, _, e6⟩ := inv_reachW hl h hok hT hu l.length j (by omega) h11 (by omega)
        obtain rfl : lf = lf' := by omega
        obtain rfl : u = j := way_one hl lf lf (Nat.le_refl _) hlf u j r hw e6 h2 (by rw [← hu j h11]; exact h12)
        exact ⟨by omega, by omega⟩
theorem inv_upto {l : List Nd} (hl : okT l) {kd : Nat → List Int} {S : St} {q : Nat → List Int} {M : Int} (h : Inv l.length kd S q) (hok : OkS l.length M S) (hT : Tk l.length kd S) (hu : ∀ j, j < l.length → (S j).up = up l j) {who : Nat} : ∀ (d k : Nat), k ≤ d → k < l.length → (S k).bytes ≠ 0 → (who : Int) ∈ way l k → (S who).bytes ≠ 0
  | d, k, hd, hk, hb, hw => by
    by_cases h0 : k = 0
    · subst h0
      rw [way_zero, List.mem_singleton] at hw
      obtain rfl : who = 0 := by omega
      exact hb
    · obtain ⟨r, h2, h3, h4⟩ := way_lt hl hk (by omega)
      rw [h4] at hw
      rcases List.mem_append.1 hw with hw1 | hw1
      · cases d with
        | zero => omega
        | succ d =>
          have hm := (hT.mem r (by omega) (k : Int)).2 ⟨k, rfl, hk, by rw [hu k hk]; exact h2⟩
          refine inv_upto hl h hok hT hu d r (by omega) (by omega) ?_ hw1
          rcases h.inner r (by omega) (fun e => by rw [e] at hm; cases hm) with ⟨h1, _⟩ | ⟨c, h1, h5, _, h6⟩
          · have := h1 _ hm; rw [Int.toNat_natCast] at this; exact (hb this).elim
          · omega
      · rw [List.mem_singleton] at hw1
        obtain rfl : who = k := by omega
        exact hb
/-- How many wait below a node. -/
def cntW (l : List Nd) (who : Nat) (q : Nat → List Int) : Int := sumN (fun k => if (who : Int) ∈ way l k then ((q k).length : Int) else 0) l.length
theorem sumN_set {f g : Nat → Int} {k n : Nat} (hk : k < n) (h : ∀ j, j < n → j ≠ k → f j = g j) : sumN f n = sumN g n + (f k - g k) := by
  have h1 := sumN_upd (f := f) (g := g) (j := k) (d := f k - g k) hk (fun j hj hjk => by rw [h j hj hjk]; exact Int.le_refl _) (by omega)
  have h2 := sumN_upd (f := g) (g := f) (j := k) (d := g k - f k) hk (fun j hj hjk => by rw [h j hj hjk]; exact Int.le_refl _) (by omega)
  omega
theorem cntW_upd (l : List Nd) (who : Nat) (q : Nat → List Int) {k : Nat} (hk : k < l.length) (x : List Int) : cntW l who (updQ q k x) = cntW l who q + (if (who : Int) ∈ way l k then (x.length : Int) - (q k).length else 0) := by
  unfold cntW
  rw [sumN_set (g := fun k => if (who : Int) ∈ way l k then ((q k).length : Int) else 0) hk (fun j hj hjk => by rw [updQ_ne hjk])]
  simp only [updQ_same]
  split <;> omega
theorem cntW_pos {l : List Nd} (hl : okT l) {kd : Nat → List Int} {S : St} {q : Nat → List Int} {M : Int} (h : Inv l.length kd S q) (hok : OkS l.length M S) (hT : Tk l.length kd S) (hu : ∀ j, j < l.length → (S j).up = up l j) {who : Nat} (hwho : who < l.length) : 0 ≤ cntW l who q ∧ (0 < cntW l who q ↔ (S who).bytes ≠ 0) := by
  have hnn : ∀ k, k < l.length → (0 : Int) ≤ (if (who : Int) ∈ way l k then ((q k).length : Int) else 0) := fun k _ => by split <;> omega
  refine ⟨sumN_nonneg hnn, fun hp => ?_, fun hb => ?_⟩
  · by_cases hex : ∃ k, k < l.length ∧ (who : Int) ∈ way l k ∧ q k ≠ []
    · obtain ⟨k, h1, h2, h3⟩ := hex
      have hkd : kd k = [] := Classical.byContradiction fun hne => h3 (h.qi k h1 hne)
      rcases h.leaf k h1 hkd with ⟨h4, _⟩ | ⟨_, _, h4, _⟩
      · exact (h3 h4).elim
      · exact inv_upto hl h hok hT hu k k (Nat.le_refl _) h1 (by omega) h2
    · have : cntW l who q ≤ sumN (fun _ => 0) l.length := sumN_le fun k hk => by
        show (if (who : Int) ∈ way l k then ((q k).length : Int) else 0) ≤ 0
        split
        · rename_i hw
          have : q k = [] := Classical.byContradiction fun hne => hex ⟨k, hk, hw, hne⟩
          rw [this]; simp
        · exact Int.le_refl _
      have hz : sumN (fun _ => 0) l.length = 0 := by
        have := sumN_mul (fun _ => 0) 0 l.length
        simpa using this
      omega
  · obtain ⟨lf, _, e2, _, e4, _, e6⟩ := inv_reachW hl h hok hT hu l.length who (by omega) hwho hb
    have := sumN_one (f := fun k => if (who : Int) ∈ way l k then ((q k).length : Int) else 0) e2 hnn
    simp only [if_pos e6] at this
    have h3 : 0 < (q lf).length := List.length_pos_iff.2 e4
    have : ((q lf).length : Int) ≤ cntW l who q := this
    omega
theorem step_same {n : Nat} {kd : Nat → List Int} {lv : List Int} (r : RnH) (o : Op) (j : Nat) : Same ((stepH n kd lv r o).S j) (r.S j) := by
  unfold stepH
  split
  · split
    · exact ⟨rfl, rfl, rfl⟩
    · exact out_up _ _ _ _ _ _
  · split
    · exact ⟨rfl, rfl, rfl⟩
    · split
      · exact ⟨rfl, rfl, rfl⟩
      · split
        · exact ⟨rfl, rfl, rfl⟩
        · exact in_up _ _ _ _ _ _
theorem run_same (l : List Nd) (ops : List Op) : ∀ i, i ≤ ops.length → ∀ j, Same ((runH l (ops.take i)).S j) (startS l l.length j)
  | 0, _, j => ⟨rfl, rfl, rfl⟩
  | i + 1, hi, j => by
    rw [take_snocO ops i (by omega), runH_snoc]
    have h1 := step_same (n := l.length) (kd := kdT l) (lv := lvT l) (runH l (ops.take i)) (ops.getD i o0) j
    have h2 := run_same l ops i (by omega) j
    exact ⟨h1.1.trans h2.1, h1.2.1.trans h2.2.1, h1.2.2.trans h2.2.2⟩
theorem start_pi {l : List Nd} (h : okT l) {p who : Nat} (hp : p < l.length) (hwho : who < l.length) : PI l.length (startS l l.length) p (-1) ∧ AhH (startS l l.length) p who (thH (startS l l.length) p) 0 0 := by
  have hw : ∀ m, sumN (fun j => if up l j = p then wt l j else 0) m = sumW l p m := fun m => by
    induction m with
    | zero => rfl
    | succ m ih => simp only [sumN, sumW, ih]
  have hok := start_ok h l.length (Nat.le_refl _)
  have htb := (tag_bound (hok.sum p hp) (hok.w who hwho) (x := 1500) (by omega)).2.2.1
  have hb0 : ∀ k, (startS l l.length k).bytes = 0 := fun _ => rfl
  refine ⟨⟨⟨hw _, fun k _ _ hb => ?_, fun hx => by omega, fun D k _ _ hb _ _ => ?_⟩, .inl ⟨rfl, rfl⟩⟩, fun hb => ?_, fun _ => ?_, fun hb => ?_⟩
  · rw [hb0] at hb; omega
  · rw [hb0] at hb; omega
  · rw [hb0] at hb; omega
  · have e1 : (startS l l.length who).un = 0 := rfl
    have e2 : thH (startS l l.length) p = 0 := by
      have e3 : (startS l l.length p).time = 0 := rfl
      unfold thH; rw [hb0, e3]; omega
    rw [e1, e2]; omega
  · rw [hb0] at hb; omega
theorem step_pre (n : Nat) (kd : Nat → List Int) (lv : List Int) (r : RnH) (o : Op) : ∃ e s, (stepH n kd lv r o).errs = r.errs ++ e ∧ (stepH n kd lv r o).sent = r.sent ++ s := by
  unfold stepH
  split
  · split
    · exact ⟨_, [], rfl, by simp⟩
    · exact ⟨_, _, rfl, rfl⟩
  · split
    · exact ⟨_, [], rfl, by simp⟩
    · split
      · exact ⟨_, [], rfl, by simp⟩
      · split
        · exact ⟨_, [], rfl, by simp⟩
        · exact ⟨_, [], rfl, by simp⟩
theorem run_snoc_at (l : List Nd) (ops : List Op) (i : Nat) (h : i < ops.length) : runH l (ops.take (i + 1)) = stepH l.length (kdT l) (lvT l) (runH l (ops.take i)) (ops.getD i o0) := by
  rw [take_snocO ops i h, runH_snoc]
theorem run_pre (l : List Nd) (ops : List Op) (i : Nat) : ∀ j, i + j ≤ ops.length → ∃ e s, (runH l (ops.take (i + j))).errs = (runH l (ops.take i)).errs ++ e ∧ (runH l (ops.take (i + j))).sent = (runH l (ops.take i)).sent ++ s
  | 0, _ => ⟨[], [], by simp, by simp⟩
  | j + 1, h => by
    obtain ⟨e, s, h1, h2⟩ := run_pre l ops i j (by omega)
    obtain ⟨e', s', h3, h4⟩ := step_pre l.length (kdT l) (lvT l) (runH l (ops.take (i + j))) (ops.getD (i + j) o0)
    rw [← Nat.add_assoc, run_snoc_at l ops (i + j) (by omega), h3, h4, h1, h2]
    exact ⟨e ++ e', s ++ s', by simp, by simp⟩
/-- What the law meets in its i-th round. -/
theorem run_at {l : List Nd} (h : okT l) (ops : List Op) (i : Nat) (hi : i < ops.length) :
    (∃ e, e ≠ 0 ∧ (runH l ops).errs.getD i 0 = e ∧ (runH l (ops.take (i + 1))).S = (runH l (ops.take i)).S ∧ (runH l (ops.take (i + 1))).q = (runH l (ops.take i)).q ∧ (runH l (ops.take (i + 1))).sent = (runH l (ops.take i)).sent) ∨
    (∃ k : Nat, (ops.getD i o0).k = 1 ∧ k < l.length ∧ kdT l k = [] ∧ (ops.getD i o0).f = k ∧ (1 ≤ (ops.getD i o0).b ∧ (ops.getD i o0).b ≤ 1500) ∧ (runH l ops).errs.getD i 0 = 0 ∧ (runH l (ops.take (i + 1))).S = inH l.length (kdT l) (runH l (ops.take i)).S k (ops.getD i o0).b ∧ (runH l (ops.take (i + 1))).q = updQ (runH l (ops.take i)).q k ((runH l (ops.take i)).q k ++ [(ops.getD i o0).b]) ∧ (runH l (ops.take (i + 1))).sent = (runH l (ops.take i)).sent) ∨
    (∃ lf : Nat, (ops.getD i o0).k = 2 ∧ lf < l.length ∧ kdT l lf = [] ∧ (runH l (ops.take i)).q lf ≠ [] ∧ ((runH l (ops.take i)).S 0).leaf = lf ∧ ((runH l (ops.take i)).S 0).bytes ≠ 0 ∧ (runH l ops).errs.getD i 0 = 0 ∧ (runH l (ops.take (i + 1))).S = outH l.length (kdT l) (runH l (ops.take i)).S ((runH l (ops.take i)).q lf) lf ∧ (runH l (ops.take (i + 1))).q = updQ (runH l (ops.take i)).q lf ((runH l (ops.take i)).q lf).tail ∧ (runH l (ops.take (i + 1))).sent = (runH l (ops.take i)).sent ++ [⟨lf, ((runH l (ops.take i)).S 0).bytes⟩] ∧
      (runH l (ops.take i)).sent.length < (runH l ops).sent.length ∧ (runH l ops).sent.getD (runH l (ops.take i)).sent.length s0 = ⟨lf, ((runH l (ops.take i)).S 0).bytes⟩) := by
  have hr := run_ri h ops i (by omega)
  obtain ⟨e1, s1, hp1, hp2⟩ := run_pre l ops (i + 1) (ops.length - (i + 1)) (by omega)
  rw [show i + 1 + (ops.length - (i + 1)) = ops.length by omega, List.take_length] at hp1 hp2
  rw [hp1, hp2, run_snoc_at l ops i hi]
  have hli := hr.el
  generalize runH l (ops.take i) = r at *
  generalize ops.getD i o0 = o at *
  have hge : ∀ e, (r.errs ++ [e] ++ e1).getD i 0 = e := fun e => by
    rw [List.getD_eq_getElem?_getD, List.getElem?_append_left (by simp; omega), List.getElem?_append_right (by omega), hli]; simp
  have hgs : ∀ s, (r.sent ++ [s] ++ s1).getD r.sent.length s0 = s := fun s => by
    rw [List.getD_eq_getElem?_getD, List.getElem?_append_left (by simp), List.getElem?_append_right (by omega), Nat.sub_self]; rfl
  unfold stepH
  split
  · rename_i h2
    split
    · exact .inl ⟨3, by decide, hge 3, rfl, rfl, rfl⟩
    · rename_i hb
      obtain ⟨lf, a1, a2, a3, a4, a5⟩ := hr.inv.reach hr.ok hr.tk l.length 0 (by omega) h.1 hb
      rw [a1, Int.toNat_natCast]
      exact .inr (.inr ⟨lf, h2, a2, a3, a4, rfl, hb, hge 0, rfl, rfl, rfl, by simp, hgs _⟩)
  · rename_i h2
    split
    · exact .inl ⟨5, by decide, hge 5, rfl, rfl, rfl⟩
    · split
      · exact .inl ⟨3, by decide, hge 3, rfl, rfl, rfl⟩
      · rename_i hl
        split
        · exact .inl ⟨2, by decide, hge 2, rfl, rfl, rfl⟩
        · obtain ⟨k, b1, b2, b3⟩ := lvT_mem (Classical.not_not.1 hl)
          rw [b1, Int.toNat_natCast]
          exact .inr (.inl ⟨k, by omega, b2, b3, rfl, by omega, hge 0, rfl, rfl, rfl⟩)
/-- What holds in the law. -/
def LW (l : List Nd) (p who : Nat) (r : RnH) (ahead best : Int) : Prop := ∃ x, PI l.length r.S p x ∧ AhH r.S p who (thH r.S p) ahead best
theorem LW.inn {l : List Nd} (h : okT l) {p who k i : Nat} {r r1 : RnH} {b ahead best : Int} (hp : p < l.length) (hwho : who < l.length) (hwu : up l who = p) (hr : RI l i r) (hr1 : RI l (i + 1) r1) (hu : ∀ j, j < l.length → (r.S j).up = up l j) (hL : LW l p who r ahead best) (hk : k < l.length) (hkd : kdT l k = []) (hb : 1 ≤ b ∧ b ≤ 1500) (hS : r1.S = inH l.length (kdT l) r.S k b) (hq : r1.q = updQ r.q k (r.q k ++ [b])) :
    (cntW l who r1.q = cntW l who r.q + (if (who : Int) ∈ way l k then 1 else 0)) ∧ LW l p who r1 ahead (if (who : Int) ∈ way l k ∧ cntW l who r.q = 0 then ahead else best) := by
  have hc : cntW l who r1.q = cntW l who r.q + (if (who : Int) ∈ way l k then 1 else 0) := by
    rw [hq, cntW_upd l who r.q hk]
    split
    · rw [List.length_append]; simp; omega
    · rfl
  refine ⟨hc, ?_⟩
  have hu1 : ∀ j, j < l.length → (r1.S j).up = up l j := fun j hj => by rw [hS, (in_up _ _ _ _ _ j).1]; exact hu j hj
  have c0 := cntW_pos h hr.inv hr.ok hr.tk hu hwho
  have c1 := cntW_pos h hr1.inv hr1.ok hr1.tk hu1 hwho
  obtain ⟨x, hP, hA⟩ := hL
  obtain ⟨x', h1, h2⟩ := hP.inn hr.ok hr.tk hp hwho (by rw [hu who hwho]; exact hwu) hA hk hkd hb
  rw [← hS] at h1 h2
  refine ⟨x', h1, ?_⟩
  by_cases hw : (who : Int) ∈ way l k
  · rw [if_pos hw] at hc
    by_cases hz : cntW l who r.q = 0
    · rw [if_pos ⟨hw, hz⟩]
      rwa [if_pos ⟨Classical.byContradiction fun hne => by have := c0.2.2 hne; omega, c1.2.1 (by omega)⟩] at h2
    · rw [if_neg (fun hh => hz hh.2)]
      rwa [if_neg (fun hh => (c0.2.1 (by omega)) hh.1)] at h2
  · rw [if_neg hw] at hc
    rw [if_neg (fun hh => hw hh.1)]
    rwa [if_neg (fun hh => by have := c1.2.2 hh.2; exact (c0.2.1 (by omega)) hh.1)] at h2
/-- How far it is ahead behind a packet that goes. -/
def aheadW (l : List Nd) (r : RnH) (p who lf : Nat) (ahead : Int) : Int := (if (p : Int) ∈ way l lf then ahead - (r.S 0).bytes * (r.S who).w else ahead) + (if (who : Int) ∈ way l lf then (r.S 0).bytes * (r.S p).sum else 0)
theorem LW.out {l : List Nd} (h : okT l) {p who lf i : Nat} {r r1 : RnH} {ahead best : Int} (hp : p < l.length) (hwho : who < l.length) (hwu : up l who = p) (hr : RI l i r) (hr1 : RI l (i + 1) r1) (hu : ∀ j, j < l.length → (r.S j).up = up l j) (hL : LW l p who r ahead best) (hlf : lf < l.length) (hkd : kdT l lf = []) (hqn : r.q lf ≠ []) (h0 : (r.S 0).leaf = lf) (hb : (r.S 0).bytes ≠ 0) (hS : r1.S = outH l.length (kdT l) r.S (r.q lf) lf) (hq : r1.q = updQ r.q lf (r.q lf).tail) :
    (cntW l who r1.q = cntW l who r.q - (if (who : Int) ∈ way l lf then 1 else 0)) ∧ LW l p who r1 (aheadW l r p who lf ahead) (max best (aheadW l r p who lf ahead)) ∧ (0 < cntW l who r1.q → max best (aheadW l r p who lf ahead) - aheadW l r p who lf ahead ≤ 4500 * (r.S p).sum) := by
  have hc : cntW l who r1.q = cntW l who r.q - (if (who : Int) ∈ way l lf then 1 else 0) := by
    rw [hq, cntW_upd l who r.q hlf]
    have : 0 < (r.q lf).length := List.length_pos_iff.2 hqn
    rw [List.length_tail]
    split <;> omega
  have hu1 : ∀ j, j < l.length → (r1.S j).up = up l j := fun j hj => by rw [hS, (out_up _ _ _ _ _ j).1]; exact hu j hj
  have hsum1 : (r1.S p).sum = (r.S p).sum := by rw [hS]; exact (out_up _ _ _ _ _ p).2.2
  have hL1 : LW l p who r1 (aheadW l r p who lf ahead) (max best (aheadW l r p who lf ahead)) := by
    obtain ⟨x, hP, hA⟩ := hL
    have hwu' : (r.S who).up = p := by rw [hu who hwho]; exact hwu
    have hqb := hr.inv.qb lf hlf
    unfold LW
    rw [hS]
    by_cases hpw : (p : Int) ∈ way l lf
    · obtain ⟨e1, e2⟩ := inv_path h hr.inv hr.ok hr.tk hu hlf h0 hb p p (Nat.le_refl _) hp hpw
      rcases hP.cs with ⟨_, hz⟩ | ⟨k, hxk, hlk, hbk⟩
      · omega
      · subst hxk
        obtain ⟨k', q1, hkn, hku, hkb, _⟩ := hP.sh.pend (by omega)
        obtain rfl : k = k' := by omega
        obtain ⟨lf', a1, a2, _, _, _, a6⟩ := inv_reachW h hr.inv hr.ok hr.tk hu l.length k (by omega) hkn (by omega)
        obtain rfl : lf = lf' := by omega
        have := hP.out h hp hwho hr.ok hr.tk hu hwu' hA hlf hkd hqb hpw a6
        have hak : aheadK r.S p who k ahead = aheadW l r p who lf ahead := by
          unfold aheadK aheadW
          rw [if_pos hpw, e2]
          by_cases hw : (who : Int) ∈ way l lf
          · obtain rfl : k = who := way_one h lf lf (Nat.le_refl _) hlf k who p a6 hw (by rw [← hu k hkn]; exact hku) hwu
            rw [if_pos rfl, if_pos hw]
          · have : k ≠ who := fun e => hw (by rw [← e]; exact a6)
            rw [if_neg this, if_neg hw]
        rwa [hak] at this
    · have hww : ¬ (who : Int) ∈ way l lf := fun hw => hpw (way_up h lf lf (Nat.le_refl _) hlf who p hw hwu)
      have hak : aheadW l r p who lf ahead = ahead := by
        unfold aheadW; rw [if_neg hpw, if_neg hww, Int.add_zero]
      rw [hak]
      obtain ⟨h1, h2⟩ := hP.far h hp hwho hr.ok hr.tk hu hwu' hA hlf hqb hpw
      exact ⟨x, h1, h2.max⟩
  refine ⟨hc, hL1, fun hpos => ?_⟩
  have c1 := cntW_pos h hr1.inv hr1.ok hr1.tk hu1 hwho
  have hbw := c1.2.1 hpos
  have hbn := hr1.ok.b who hwho
  obtain ⟨x, hP, hA⟩ := hL1
  have := AhH.fin hr1.ok hp hwho (by rw [hu1 who hwho]; exact hwu) hP hA (by omega)
  rwa [hsum1] at this
end Go.Proofs.Ytknfaoonjmlncaa
