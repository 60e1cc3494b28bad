import Derived.Test.YtknfaoonjmlncaaPlainU
/- Leaves of a tree of classes served, in plain Lean: what goes, goes along a way. -/
set_option linter.unusedVariables false
set_option linter.unusedSimpArgs false
namespace Go.Proofs.Ytknfaoonjmlncaa

theorem way_lt {l : List Nd} (h : okT l) {v : Nat} (hv : v < l.length) (h0 : 0 < v) : ∃ r : Nat, up l v = r ∧ r < v ∧ way l v = way l r ++ [(v : Int)] := by
  have := (h.2.2 v hv).2.2 h0
  refine ⟨(up l v).toNat, by omega, by omega, way_step h h0 hv⟩
theorem way_le {l : List Nd} (h : okT l) : ∀ (d v : Nat), v ≤ d → v < l.length → ∀ c ∈ way l v, 0 ≤ c ∧ c ≤ v
  | 0, v, h1, hv, c, hc => by
    obtain rfl : v = 0 := by omega
    rw [way_zero, List.mem_singleton] at hc; omega
  | d + 1, v, h1, hv, c, hc => by
    by_cases e : v = 0
    · subst e; rw [way_zero, List.mem_singleton] at hc; omega
    · obtain ⟨r, h2, h3, h4⟩ := way_lt h hv (by omega)
      rw [h4] at hc
      rcases List.mem_append.1 hc with hc | hc
      · have := way_le h d r (by omega) (by omega) c hc; omega
      · rw [List.mem_singleton] at hc; omega
theorem way_le' {l : List Nd} (h : okT l) {v : Nat} (hv : v < l.length) {c : Int} (hc : c ∈ way l v) : 0 ≤ c ∧ c ≤ v := way_le h v v (Nat.le_refl _) hv c hc
/-- Two on a way that are below the same one are one. -/
theorem way_one {l : List Nd} (h : okT l) : ∀ (d v : Nat), v ≤ d → v < l.length → ∀ (a b p : Nat), (a : Int) ∈ way l v → (b : Int) ∈ way l v → up l a = p → up l b = p → a = b
  | d, v, h1, hv, a, b, p, ha, hb, hua, hub => by
    by_cases e : v = 0
    · subst e
      rw [way_zero, List.mem_singleton] at ha hb
      omega
    · obtain ⟨r, h2, h3, h4⟩ := way_lt h hv (by omega)
      rw [h4] at ha hb
      have hup : ∀ x : Nat, (x : Int) ∈ way l r → up l x = p → up l v = p → False := fun x hx hu hv' => by
        have h5 := way_le' h (by omega) hx
        obtain rfl : r = p := by omega
        have h6 := (h.2.2 x (by omega)).2
        by_cases e0 : x = 0
        · have := h6.1 e0; omega
        · have := h6.2 (by omega); omega
      rcases List.mem_append.1 ha with ha1 | ha1
      · rcases List.mem_append.1 hb with hb1 | hb1
        · cases d with
          | zero => omega
          | succ d => exact way_one h d r (by omega) (by omega) a b p ha1 hb1 hua hub
        · rw [List.mem_singleton] at hb1
          have hbv : b = v := by omega
          exact (hup a ha1 hua (by rw [← hbv]; exact hub)).elim
      · rw [List.mem_singleton] at ha1
        have hav : a = v := by omega
        rcases List.mem_append.1 hb with hb1 | hb1
        · exact (hup b hb1 hub (by rw [← hav]; exact hua)).elim
        · rw [List.mem_singleton] at hb1; omega
/-- Whom one on a way is below is on it too. -/
theorem way_up {l : List Nd} (h : okT l) : ∀ (d v : Nat), v ≤ d → v < l.length → ∀ (a p : Nat), (a : Int) ∈ way l v → up l a = p → (p : Int) ∈ way l v
  | d, v, h1, hv, a, p, ha, hua => by
    by_cases e : v = 0
    · subst e
      rw [way_zero, List.mem_singleton] at ha
      obtain rfl : a = 0 := by omega
      have := (h.2.2 0 hv).2.1 rfl; omega
    · obtain ⟨r, h2, h3, h4⟩ := way_lt h hv (by omega)
      rw [h4] at ha ⊢
      rcases List.mem_append.1 ha with ha | ha
      · cases d with
        | zero => omega
        | succ d => exact List.mem_append.2 (.inl (way_up h d r (by omega) (by omega) a p ha hua))
      · rw [List.mem_singleton] at ha
        obtain rfl : a = v := by omega
        obtain rfl : r = p := by omega
        exact List.mem_append.2 (.inl (way_mem h (by omega)))
theorem climb_neg {kd : Nat → List Int} {a : Bool} {f : Nat} {S : St} {u : Int} (h : u < 0) : climb kd a f S u = S := by
  cases f with
  | zero => rfl
  | succ f => show (if _ then _ else _) = _
              rw [if_neg (fun hh => by omega)]
theorem climb_far {l : List Nd} (h : okT l) {kd : Nat → List Int} {a : Bool} {p : Nat} : ∀ (f : Nat) (S : St) (v : Nat), v < l.length → (∀ j, j < l.length → (S j).up = up l j) → ¬ (p : Int) ∈ way l v → climb kd a f S v p = S p ∧ ∀ j, j < l.length → (S j).up = p → climb kd a f S v j = S j
  | 0, S, v, hv, hu, hw => ⟨rfl, fun _ _ _ => rfl⟩
  | f + 1, S, v, hv, hu, hw => by
    unfold climb
    split
    · rw [Int.toNat_natCast]
      have hvp : p ≠ v := fun e => hw (by rw [e]; exact way_mem h hv)
      have hst : ∀ j, (pickH S (kd v) v a j).up = (S j).up := fun j => (pickH_stat _ _ _ _ _).1
      have hpp : pickH S (kd v) v a p = S p := pickH_ne hvp
      have hku : (S v).up ≠ p := fun e => by
        rw [hu v hv] at e
        exact hw (way_up h v v (Nat.le_refl _) hv v p (way_mem h hv) e)
      have hkk : ∀ j, j < l.length → (S j).up = p → pickH S (kd v) v a j = S j := fun j hj hju => pickH_ne (fun e => hku (e ▸ hju))
      by_cases e0 : v = 0
      · have h1 := (h.2.2 v hv).2.1 e0
        rw [climb_neg (by rw [hu v hv, h1]; decide)]
        exact ⟨hpp, hkk⟩
      · obtain ⟨r, h2, h3, h4⟩ := way_lt h hv (by omega)
        rw [hu v hv, h2]
        have ih := climb_far h (kd := kd) (a := a) (p := p) f (pickH S (kd v) v a) r (by omega) (fun j hj => (hst j).trans (hu j hj)) (fun hh => hw (by rw [h4]; exact List.mem_append.2 (.inl hh)))
        exact ⟨ih.1.trans hpp, fun j hj hju => (ih.2 j hj (by rw [hst]; exact hju)).trans (hkk j hj hju)⟩
    · exact ⟨rfl, fun _ _ _ => rfl⟩
/-- The node itself picks, behind a packet that has gone. -/
theorem climb_p {l : List Nd} (h : okT l) {kd : Nat → List Int} {p who : Nat} (hp : p < l.length) (hwho : who < l.length) {f : Nat} {M : Int} {S : St} {A Bt : Int} (hf : p < f) (hok : OkS l.length M S) (hT : Tk l.length kd S) (hu : ∀ j, j < l.length → (S j).up = up l j) (hwu : (S who).up = p) (hs : ShH l.length S p (-1)) (hA : AhH S p who (S p).time A Bt) :
    ∃ x', PI l.length (climb kd true f S p) p x' ∧ AhH (climb kd true f S p) p who (thH (climb kd true f S p) p) A Bt := by
  obtain ⟨f, rfl⟩ : ∃ g, f = g + 1 := ⟨f - 1, by omega⟩
  have e : climb kd true (f + 1) S p = climb kd true f (pickH S (kd p) p true) (S p).up := by
    show (if _ then _ else _) = _
    rw [if_pos ⟨by omega, .inl rfl⟩, Int.toNat_natCast]
  rw [e]
  have hwp : who ≠ p := fun e => by subst e; rcases hok.up_lt hwho with h1 | ⟨r, h1, h2⟩ <;> omega
  have hst : ∀ j, (pickH S (kd p) p true j).up = (S j).up := fun j => (pickH_stat _ _ _ _ _).1
  have ew : pickH S (kd p) p true who = S who := pickH_ne hwp
  have es : (pickH S (kd p) p true p).sum = (S p).sum := (pickH_stat _ _ _ _ _).2.2
  have hkid : ∀ j, j < l.length → (S j).up = p → pickH S (kd p) p true j = S j := fun j hj hju => pickH_ne (fun e => by subst e; rcases hok.up_lt hj with h1 | ⟨r, h1, h2⟩ <;> omega)
  have hmid : ∃ x', PI l.length (pickH S (kd p) p true) p x' ∧ AhH (pickH S (kd p) p true) p who (thH (pickH S (kd p) p true) p) A Bt := by
    rcases hs.pick hok hT hp true with ⟨h1, h2, h3⟩ | ⟨k, h1, h2, h3, h4, h5, h6, h7⟩
    · refine ⟨-1, ⟨h2, .inl ⟨rfl, h1⟩⟩, hA.mono ew es ?_⟩
      unfold thH; rw [h1, h3]; omega
    · refine ⟨k, ⟨h4, .inr ⟨k, rfl, by rw [hkid k h1 h2]; exact h5, by rw [hkid k h1 h2]; exact h6⟩⟩, hA.mono ew es ?_⟩
      unfold thH; rw [h6]; omega
  obtain ⟨x', hP, hA'⟩ := hmid
  refine ⟨x', ?_⟩
  have hfar : climb kd true f (pickH S (kd p) p true) (S p).up p = pickH S (kd p) p true p ∧ ∀ j, j < l.length → (pickH S (kd p) p true j).up = p → climb kd true f (pickH S (kd p) p true) (S p).up j = pickH S (kd p) p true j := by
    rw [hu p hp]
    by_cases e0 : p = 0
    · have h1 := (h.2.2 p hp).2.1 e0
      rw [climb_neg (by rw [h1]; decide)]
      exact ⟨rfl, fun _ _ _ => rfl⟩
    · obtain ⟨r, h2, h3, h4⟩ := way_lt h hp (by omega)
      rw [h2]
      exact climb_far h f _ r (by omega) (fun j hj => (hst j).trans (hu j hj)) (fun hh => by have := way_le' h (by omega) hh; omega)
  have hus : ∀ j, (climb kd true f (pickH S (kd p) p true) (S p).up j).up = (pickH S (kd p) p true j).up := fun j => (climb_stat _ _ _ _ _ _).1
  refine ⟨hP.congr hus hfar.1 hfar.2, ?_⟩
  have hww := hfar.2 who hwho (by rw [hst]; exact hwu)
  have hth : thH (climb kd true f (pickH S (kd p) p true) (S p).up) p = thH (pickH S (kd p) p true) p := by unfold thH; rw [hfar.1]
  rw [hth]
  exact hA'.mono hww (by rw [hfar.1]) (Int.le_refl _)
theorem climb_near {l : List Nd} (h : okT l) {kd : Nat → List Int} {p who : Nat} (hp : p < l.length) (hwho : who < l.length) : ∀ (f : Nat) (M : Int) (S : St) (v k : Nat) (ahead best : Int), v < l.length → v < f → OkS l.length M S → Tk l.length kd S → (∀ j, j < l.length → (S j).up = up l j) → (S who).up = p → PI l.length S p k → AhH S p who (thH S p) ahead best → (p : Int) ∈ way l v → p ≠ v → (k : Int) ∈ way l v →
    ∃ x', PI l.length (climb kd true f S v) p x' ∧ AhH (climb kd true f S v) p who (thH (climb kd true f S v) p) (aheadK S p who k ahead) (max best (aheadK S p who k ahead))
  | 0, M, S, v, k, ahead, best, hv, hf, _, _, _, _, _, _, _, _, _ => by omega
  | f + 1, M, S, v, k, ahead, best, hv, hf, hok, hT, hu, hwu, hP, hA, hpw, hpv, hkw => by
    have e : climb kd true (f + 1) S v = climb kd true f (pickH S (kd v) v true) (S v).up := by
      show (if _ then _ else _) = _
      rw [if_pos ⟨by omega, .inl rfl⟩, Int.toNat_natCast]
    rw [e]
    have hv0 : 0 < v := by
      have := way_le' h hv hpw
      omega
    obtain ⟨r, h2, h3, h4⟩ := way_lt h hv hv0
    have hst : ∀ j, (pickH S (kd v) v true j).up = (S j).up := fun j => (pickH_stat _ _ _ _ _).1
    have hok1 := hok.pick (hT.in_n hv) hv true
    obtain ⟨k', q1, hkn, hku, hkb, hkt⟩ := hP.sh.pend (by omega)
    obtain rfl : k = k' := by omega
    rw [hu v hv, h2]
    by_cases er : r = p
    · subst er
      obtain rfl : v = k := way_one h v v (Nat.le_refl _) hv v k r (way_mem h hv) hkw h2 (by rw [← hu k hkn]; exact hku)
      have hsend : ∃ y, pickH S (kd v) v true = updS S v y ∧ Same y (S v) ∧ ((y.bytes = 0 ∧ y.un = (S v).un) ∨ ((0 < y.bytes ∧ y.bytes ≤ 1500) ∧ y.bg = (S v).un ∧ y.un = y.bg + y.bytes * (27720 / (S v).w) * (S r).sum)) := by
        rcases pick_best hok (hT.in_n hv) v with ⟨h1, _⟩ | ⟨h1, _, _, _, h5, h6, _, _⟩
        · exact ⟨{ S v with bytes := 0 }, by unfold pickH; rw [if_pos h1], ⟨rfl, rfl, rfl⟩, .inl ⟨rfl, rfl⟩⟩
        · have st := offH_stat (setT S v (timeK S (kd v) v + (S (bestN S (kd v) v)).bytes * 27720)) v (S (bestN S (kd v) v)).leaf (S (bestN S (kd v) v)).bytes true
          have hks : Same (setT S v (timeK S (kd v) v + (S (bestN S (kd v) v)).bytes * 27720) v) (S v) := by unfold setT; rw [updS_same]; exact ⟨rfl, rfl, rfl⟩
          have hun : (setT S v (timeK S (kd v) v + (S (bestN S (kd v) v)).bytes * 27720) v).un = (S v).un := by unfold setT; rw [updS_same]
          have hpp : setT S v (timeK S (kd v) v + (S (bestN S (kd v) v)).bytes * 27720) r = S r := updS_ne hpv
          have hbb := hok.b _ h5
          have hoe := offH_eq (S := setT S v (timeK S (kd v) v + (S (bestN S (kd v) v)).bytes * 27720)) (k := v) (p := r) (by rw [hks.1]; exact hku) (S (bestN S (kd v) v)).leaf (S (bestN S (kd v) v)).bytes true
          rw [hun, hpp, hks.2.1, if_pos rfl] at hoe
          refine ⟨_, by unfold pickH; rw [if_neg (by omega)], ⟨st.1.trans hks.1, st.2.1.trans hks.2.1, st.2.2.1.trans hks.2.2⟩, .inr ⟨by rw [st.2.2.2.2.1]; omega, hoe.1, ?_⟩⟩
          rw [hoe.2, hoe.1, st.2.2.2.2.1]
      obtain ⟨y, hy1, hy2, hy3⟩ := hsend
      obtain ⟨hs1, hA1⟩ := hP.send hok hp hwho hwu hA (Ne.symm hpv) hy2 hy3
      rw [← hy1] at hs1 hA1
      have hpp : pickH S (kd v) v true r = S r := pickH_ne hpv
      rw [← hpp] at hA1
      have := climb_p h hp hwho (kd := kd) (f := f) (by omega) hok1 (hT.stat hst) (fun j hj => (hst j).trans (hu j hj)) (by rw [hst]; exact hwu) hs1 hA1
      exact this
    · have hpp : pickH S (kd v) v true p = S p := pickH_ne hpv
      have hvk : k ≠ v := fun ee => by
        subst ee
        rw [hu k hkn] at hku
        omega
      have hkk : ∀ j, j < l.length → (S j).up = p → pickH S (kd v) v true j = S j := fun j hj hju => pickH_ne (fun ee => by
        subst ee
        rw [hu j hj] at hju
        omega)
      have hP1 := hP.congr hst hpp hkk
      have hth : thH (pickH S (kd v) v true) p = thH S p := by unfold thH; rw [hpp]
      have hA1 : AhH (pickH S (kd v) v true) p who (thH (pickH S (kd v) v true) p) ahead best := by
        rw [hth]; exact hA.mono (hkk who hwho hwu) (by rw [hpp]) (Int.le_refl _)
      have hpr : (p : Int) ∈ way l r := by
        rw [h4] at hpw
        rcases List.mem_append.1 hpw with hh | hh
        · exact hh
        · rw [List.mem_singleton] at hh; omega
      have hkr : (k : Int) ∈ way l r := by
        rw [h4] at hkw
        rcases List.mem_append.1 hkw with hh | hh
        · exact hh
        · rw [List.mem_singleton] at hh; omega
      have ih := climb_near h hp hwho f _ (pickH S (kd v) v true) r k ahead best (by omega) (by omega) hok1 (hT.stat hst) (fun j hj => (hst j).trans (hu j hj)) (by rw [hst]; exact hwu) hP1 hA1 hpr (Ne.symm er) hkr
      have hak : aheadK (pickH S (kd v) v true) p who k ahead = aheadK S p who k ahead := by
        unfold aheadK; rw [hpp, hkk who hwho hwu]
      rw [hak] at ih
      exact ih
theorem outH1_upd (S : St) (q : List Int) (k : Nat) : outH1 S q k = updS S k (outH1 S q k k) := by
  funext j
  by_cases e : j = k
  · subst e; rw [updS_same]
  · rw [updS_ne e]
    unfold outH1 zeroB
    split <;> exact updS_ne e
/-- A packet goes from below. -/
theorem PI.out {l : List Nd} (h : okT l) {kd : Nat → List Int} {p who : Nat} (hp : p < l.length) (hwho : who < l.length) {M : Int} {S : St} {lf k : Nat} {q : List Int} {ahead best : Int} (hok : OkS l.length M S) (hT : Tk l.length kd S) (hu : ∀ j, j < l.length → (S j).up = up l j) (hwu : (S who).up = p) (hP : PI l.length S p k) (hA : AhH S p who (thH S p) ahead best) (hlf : lf < l.length) (hkd : kd lf = []) (hq : ∀ x ∈ q, 1 ≤ x ∧ x ≤ 1500) (hpw : (p : Int) ∈ way l lf) (hkw : (k : Int) ∈ way l lf) :
    ∃ x', PI l.length (outH l.length kd S q lf) p x' ∧ AhH (outH l.length kd S q lf) p who (thH (outH l.length kd S q lf) p) (aheadK S p who k ahead) (max best (aheadK S p who k ahead)) := by
  have hplf : p ≠ lf := fun e => by subst e; exact hT.up_ne hwho hp hwu hkd
  obtain ⟨k', q1, hkn, hku, hkb, hkt⟩ := hP.sh.pend (by omega)
  obtain rfl : k = k' := by omega
  have hf := outH1_facts hok hlf hq
  have hst : ∀ j, (outH1 S q lf j).up = (S j).up := fun j => (outH1_same S q lf j).1
  have hpp : outH1 S q lf p = S p := hf.1 p hplf
  have hv0 : 0 < lf := by
    have := way_le' h hlf hpw
    omega
  obtain ⟨r, h2, h3, h4⟩ := way_lt h hlf hv0
  unfold outH
  rw [hu lf hlf, h2]
  by_cases er : r = p
  · subst er
    obtain rfl : lf = k := way_one h lf lf (Nat.le_refl _) hlf lf k r (way_mem h hlf) hkw h2 (by rw [← hu k hkn]; exact hku)
    have hy3 : ((outH1 S q lf lf).bytes = 0 ∧ (outH1 S q lf lf).un = (S lf).un) ∨ ((0 < (outH1 S q lf lf).bytes ∧ (outH1 S q lf lf).bytes ≤ 1500) ∧ (outH1 S q lf lf).bg = (S lf).un ∧ (outH1 S q lf lf).un = (outH1 S q lf lf).bg + (outH1 S q lf lf).bytes * (27720 / (S lf).w) * (S r).sum) := by
      have hks : Same (zeroB S lf lf) (S lf) := by unfold zeroB; rw [updS_same]; exact ⟨rfl, rfl, rfl⟩
      have hun : (zeroB S lf lf).un = (S lf).un := by unfold zeroB; rw [updS_same]
      have hzp : zeroB S lf r = S r := updS_ne hplf
      unfold outH1
      split
      · left
        exact ⟨by unfold zeroB; rw [updS_same], hun⟩
      · rename_i ht
        right
        have hh := hq _ (List.mem_of_mem_tail (hdQ_mem ht))
        have st := offH_stat (zeroB S lf) lf lf (hdQ q.tail) true
        have hoe := offH_eq (S := zeroB S lf) (k := lf) (p := r) (by rw [hks.1]; exact hku) lf (hdQ q.tail) true
        rw [hun, hzp, hks.2.1, if_pos rfl] at hoe
        rw [updS_same]
        refine ⟨by rw [st.2.2.2.2.1]; omega, hoe.1, ?_⟩
        rw [hoe.2, hoe.1, st.2.2.2.2.1]
    obtain ⟨hs1, hA1⟩ := hP.send hok hp hwho hwu hA (Ne.symm hplf) hf.2.1 hy3
    rw [← outH1_upd] at hs1 hA1
    rw [← hpp] at hA1
    exact climb_p h hp hwho (kd := kd) (f := l.length) (by omega) hf.2.2.1 (hT.stat hst) (fun j hj => (hst j).trans (hu j hj)) (by rw [hst]; exact hwu) hs1 hA1
  · have hvk : k ≠ lf := fun ee => by
      subst ee
      rw [hu k hkn] at hku
      omega
    have hkk : ∀ j, j < l.length → (S j).up = p → outH1 S q lf j = S j := fun j hj hju => hf.1 j (fun ee => by
      subst ee
      rw [hu j hj] at hju
      omega)
    have hP1 := hP.congr hst hpp hkk
    have hth : thH (outH1 S q lf) p = thH S p := by unfold thH; rw [hpp]
    have hA1 : AhH (outH1 S q lf) p who (thH (outH1 S q lf) p) ahead best := by
      rw [hth]; exact hA.mono (hkk who hwho hwu) (by rw [hpp]) (Int.le_refl _)
    have hpr : (p : Int) ∈ way l r := by
      rw [h4] at hpw
      rcases List.mem_append.1 hpw with hh | hh
      · exact hh
      · rw [List.mem_singleton] at hh; omega
    have hkr : (k : Int) ∈ way l r := by
      rw [h4] at hkw
      rcases List.mem_append.1 hkw with hh | hh
      · exact hh
      · rw [List.mem_singleton] at hh; omega
    have ih := climb_near h hp hwho (kd := kd) l.length _ (outH1 S q lf) r k ahead best (by omega) (by omega) hf.2.2.1 (hT.stat hst) (fun j hj => (hst j).trans (hu j hj)) (by rw [hst]; exact hwu) hP1 hA1 hpr (Ne.symm er) hkr
    have hak : aheadK (outH1 S q lf) p who k ahead = aheadK S p who k ahead := by
      unfold aheadK; rw [hpp, hkk who hwho hwu]
    rw [hak] at ih
    exact ih
/-- A packet goes from elsewhere. -/
theorem PI.far {l : List Nd} (h : okT l) {kd : Nat → List Int} {p who : Nat} (hp : p < l.length) (hwho : who < l.length) {M x : Int} {S : St} {lf : Nat} {q : List Int} {ahead best : Int} (hok : OkS l.length M S) (hT : Tk l.length kd S) (hu : ∀ j, j < l.length → (S j).up = up l j) (hwu : (S who).up = p) (hP : PI l.length S p x) (hA : AhH S p who (thH S p) ahead best) (hlf : lf < l.length) (hq : ∀ x ∈ q, 1 ≤ x ∧ x ≤ 1500) (hpw : ¬ (p : Int) ∈ way l lf) :
    PI l.length (outH l.length kd S q lf) p x ∧ AhH (outH l.length kd S q lf) p who (thH (outH l.length kd S q lf) p) ahead best := by
  have hplf : p ≠ lf := fun e => hpw (by rw [e]; exact way_mem h hlf)
  have hf := outH1_facts hok hlf hq
  have hst : ∀ j, (outH1 S q lf j).up = (S j).up := fun j => (outH1_same S q lf j).1
  have hpp : outH1 S q lf p = S p := hf.1 p hplf
  have hku : up l lf ≠ p := fun e => hpw (way_up h lf lf (Nat.le_refl _) hlf lf p (way_mem h hlf) e)
  have hkk : ∀ j, j < l.length → (S j).up = p → outH1 S q lf j = S j := fun j hj hju => hf.1 j (fun ee => by
    subst ee
    rw [hu j hj] at hju
    exact hku hju)
  have hfar : Go.Proofs.Ytknfaoonjmlncaa.climb kd true l.length (outH1 S q lf) (S lf).up p = outH1 S q lf p ∧ ∀ j, j < l.length → (outH1 S q lf j).up = p → Go.Proofs.Ytknfaoonjmlncaa.climb kd true l.length (outH1 S q lf) (S lf).up j = outH1 S q lf j := by
    rw [hu lf hlf]
    by_cases e0 : lf = 0
    · have h1 := (h.2.2 lf hlf).2.1 e0
      rw [climb_neg (by rw [h1]; decide)]
      exact ⟨rfl, fun _ _ _ => rfl⟩
    · obtain ⟨r, h2, h3, h4⟩ := way_lt h hlf (by omega)
      rw [h2]
      exact climb_far h _ _ r (by omega) (fun j hj => (hst j).trans (hu j hj)) (fun hh => hpw (by rw [h4]; exact List.mem_append.2 (.inl hh)))
  have hall : ∀ j, j < l.length → (S j).up = p → outH l.length kd S q lf j = S j := fun j hj hju => (hfar.2 j hj (by rw [hst]; exact hju)).trans (hkk j hj hju)
  have hpp2 : outH l.length kd S q lf p = S p := hfar.1.trans hpp
  have hth : thH (outH l.length kd S q lf) p = thH S p := by unfold thH; rw [hpp2]
  rw [hth]
  exact ⟨hP.congr (fun j => (out_up _ _ _ _ _ j).1) hpp2 hall, hA.mono (hall who hwho hwu) (by rw [hpp2]) (Int.le_refl _)⟩
end Go.Proofs.Ytknfaoonjmlncaa
