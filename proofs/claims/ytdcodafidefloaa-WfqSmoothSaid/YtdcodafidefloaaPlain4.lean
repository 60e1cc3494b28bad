import Derived.Test.YtdcodafidefloaaPlain3
/- a flow that waits has its part: virtual time is never far behind a deadline -/
set_option linter.unusedVariables false
namespace Go.Proofs.Ytdcodafidefloaa

def sumN (f : Nat → Int) : Nat → Int
  | 0 => 0
  | n + 1 => sumN f n + f n
theorem sumN_le {f g : Nat → Int} : ∀ {n : Nat}, (∀ k, k < n → f k ≤ g k) → sumN f n ≤ sumN g n
  | 0, _ => Int.le_refl _
  | n + 1, h => by
    have := sumN_le (n := n) (fun k hk => h k (by omega))
    have := h n (by omega)
    simp only [sumN]; omega
theorem sumN_upd {f g : Nat → Int} {j : Nat} {d : Int} : ∀ {n : Nat}, j < n → (∀ k, k < n → k ≠ j → f k ≤ g k) → f j ≤ g j + d → sumN f n ≤ sumN g n + d
  | 0, h, _, _ => by omega
  | n + 1, hj, h, hd => by
    simp only [sumN]
    by_cases e : j = n
    · subst e
      have := sumN_le (n := j) (f := f) (g := g) (fun k hk => h k (by omega) (by omega))
      omega
    · have := sumN_upd (n := n) (by omega) (fun k hk => h k (by omega)) hd
      have := h n (by omega) (Ne.symm e)
      omega
theorem sumN_mul (f : Nat → Int) (c : Int) : ∀ n, sumN (fun k => f k * c) n = sumN f n * c
  | 0 => by simp [sumN]
  | n + 1 => by simp only [sumN, sumN_mul f c n, Int.add_mul]
theorem sumN_nonneg {f : Nat → Int} : ∀ {n : Nat}, (∀ k, k < n → 0 ≤ f k) → 0 ≤ sumN f n
  | 0, _ => Int.le_refl _
  | n + 1, h => by
    have := sumN_nonneg (n := n) (fun k hk => h k (by omega))
    have := h n (by omega)
    simp only [sumN]; omega
theorem sumN_one {f : Nat → Int} {j : Nat} : ∀ {n : Nat}, j < n → (∀ k, k < n → 0 ≤ f k) → f j ≤ sumN f n
  | 0, h, _ => by omega
  | n + 1, hj, h => by
    simp only [sumN]
    by_cases e : j = n
    · subst e
      have := sumN_nonneg (n := j) (f := f) (fun k hk => h k (by omega))
      omega
    · have := sumN_one (n := n) (j := j) (by omega) (fun k hk => h k (by omega))
      have := h n (by omega)
      omega
theorem sumN_ws (ws : List Int) : sumN (fun k => ws.getD k 0) ws.length = ws.sum := by
  have : ∀ i, i ≤ ws.length → sumN (fun k => ws.getD k 0) i = (ws.take i).sum := fun i => by
    induction i with
    | zero => intro _; simp [sumN]
    | succ i ih =>
      intro hi
      have e : ws.take (i + 1) = ws.take i ++ [ws.getD i 0] := by
        rw [List.take_add_one, List.getD_eq_getElem?_getD, List.getElem?_eq_getElem (by omega)]; rfl
      rw [e, List.sum_append, sumN, ih (by omega)]; simp
  have := this ws.length (Nat.le_refl _)
  rwa [List.take_length] at this
theorem w_div {w : Int} (h : 1 ≤ w ∧ w ≤ 12) : w * (27720 / w) = 27720 := by
  rcases (by omega : w = 1 ∨ w = 2 ∨ w = 3 ∨ w = 4 ∨ w = 5 ∨ w = 6 ∨ w = 7 ∨ w = 8 ∨ w = 9 ∨ w = 10 ∨ w = 11 ∨ w = 12) with rfl | rfl | rfl | rfl | rfl | rfl | rfl | rfl | rfl | rfl | rfl | rfl <;> rfl
theorem headQ_app {l : List Int} {x : Int} (h : l ≠ []) : headQ (l ++ [x]) = headQ l := by
  cases l with
  | nil => exact (h rfl).elim
  | cons y r => rfl
/-- What of a flow may still come until a deadline. -/
def potF (w t D : Int) (f : Fq) : Int :=
  if f.q = [] then (if max f.u t ≤ D then w * (D - max f.u t) else 0) else if f.u ≤ D then w * (D - f.b) else 0
def potN (ws : List Int) (nd : Nd) (D : Int) : Int := sumN (fun k => potF (ws.getD k 0) nd.t D (nd.fl.getD k f0)) ws.length
theorem potF_nonneg {w t D : Int} {f : Fq} (hw : 0 ≤ w) (hb : f.q ≠ [] → f.b ≤ f.u) : 0 ≤ potF w t D f := by
  unfold potF; split
  · split
    · exact Int.mul_nonneg hw (by omega)
    · exact Int.le_refl _
  · rename_i hq; have := hb hq; split
    · exact Int.mul_nonneg hw (by omega)
    · exact Int.le_refl _
theorem potF_time {w t t' D : Int} {f : Fq} (hw : 0 ≤ w) (ht : t ≤ t') : potF w t' D f ≤ potF w t D f := by
  unfold potF; split
  · split
    · rename_i h; rw [if_pos (by omega)]; exact Int.mul_le_mul_of_nonneg_left (by omega) hw
    · split
      · exact Int.mul_nonneg hw (by omega)
      · omega
  · exact Int.le_refl _
theorem potF_nil {w t D : Int} {f : Fq} (h : f.q = []) : potF w t D f = if max f.u t ≤ D then w * (D - max f.u t) else 0 := if_pos h
theorem potF_cons {w t D : Int} {f : Fq} (h : f.q ≠ []) : potF w t D f = if f.u ≤ D then w * (D - f.b) else 0 := if_neg h
theorem ite_later {w a y D : Int} (hw : 0 ≤ w) (hy : 0 ≤ y) : (if a + y ≤ D then w * (D - a) else 0) ≤ if a ≤ D then w * (D - a) else 0 := by
  split
  · rw [if_pos (by omega)]; exact Int.le_refl _
  · split
    · exact Int.mul_nonneg (by omega) (by omega)
    · exact Int.le_refl _
structure Sh (ws : List Int) (S : Int) (nd : Nd) : Prop where
  tag : ∀ k, k < ws.length → (nd.fl.getD k f0).q ≠ [] → (nd.fl.getD k f0).u = (nd.fl.getD k f0).b + headQ (nd.fl.getD k f0).q * (27720 / ws.getD k 0) * S
  main : ∀ D k, k < ws.length → (nd.fl.getD k f0).q ≠ [] → (nd.fl.getD k f0).u ≤ D → (nd.fl.getD k f0).b ≤ nd.t → S * nd.t + potN ws nd D ≤ S * (D + 41580000)
theorem Sh.bu {ws : List Int} {S M : Int} {nd : Nd} (hw : okW ws S) (hok : OkN M nd) (h : Sh ws S nd) (k : Nat) (hk : k < ws.length) (hq : (nd.fl.getD k f0).q ≠ []) : (nd.fl.getD k f0).b ≤ (nd.fl.getD k f0).u ∧ (nd.fl.getD k f0).u ≤ (nd.fl.getD k f0).b + 1500 * (27720 / ws.getD k 0) * S := by
  have h1 := h.tag k hk hq
  have h2 := headQ_bound (hok.f k).2.2
  have h3 := tag_bound hw.2.2 (hw.2.1 k hk) h2
  have h4 := Int.mul_le_mul_of_nonneg_right (Int.mul_le_mul_of_nonneg_right h2.2 h3.1.1) hw.2.2.1
  omega
theorem pot_auto {ws : List Int} {S : Int} {nd : Nd} {D : Int} (hw : okW ws S) (hS : ws.sum = S) (htD : nd.t ≤ D) (h : ∀ k, k < ws.length → (nd.fl.getD k f0).q ≠ [] → (nd.fl.getD k f0).u ≤ D → nd.t ≤ (nd.fl.getD k f0).b) : S * nd.t + potN ws nd D ≤ S * D := by
  have h1 : potN ws nd D ≤ sumN (fun k => ws.getD k 0 * (D - nd.t)) ws.length := sumN_le fun k hk => by
    have hwk : 0 ≤ ws.getD k 0 := by have := hw.2.1 k hk; omega
    have hk' := h k hk
    show potF _ _ _ _ ≤ _
    unfold potF; split
    · split
      · exact Int.mul_le_mul_of_nonneg_left (by omega) hwk
      · exact Int.mul_nonneg hwk (by omega)
    · rename_i hq; split
      · rename_i hu
        have := hk' hq hu
        exact Int.mul_le_mul_of_nonneg_left (by omega) hwk
      · exact Int.mul_nonneg hwk (by omega)
  rw [sumN_mul, sumN_ws, hS, Int.mul_sub] at h1
  omega
theorem inN_getD {ws : List Int} {S : Int} {nd : Nd} {k : Nat} {x : Int} (hk : k < nd.fl.length) (j : Nat) :
    (inN ws S nd k x).fl.getD j f0 = if k = j then (if (nd.fl.getD k f0).q = [] then headF S (ws.getD k 0) (max (nd.fl.getD k f0).u nd.t) ⟨[x], (nd.fl.getD k f0).b, (nd.fl.getD k f0).u⟩ else ⟨(nd.fl.getD k f0).q ++ [x], (nd.fl.getD k f0).b, (nd.fl.getD k f0).u⟩) else nd.fl.getD j f0 := by
  simp only [inN]
  rw [getD_setF]
  by_cases e : k = j
  · rw [if_pos ⟨e, hk⟩, if_pos e]
  · rw [if_neg (fun h => e h.1), if_neg e]
theorem outN_getD {ws : List Int} {S : Int} {nd : Nd} {k : Nat} (hk : k < nd.fl.length) (j : Nat) :
    (outN ws S nd k).fl.getD j f0 = if k = j then tailF ws S k (nd.fl.getD k f0) else nd.fl.getD j f0 := by
  simp only [outN]
  rw [getD_setF]
  by_cases e : k = j
  · rw [if_pos ⟨e, hk⟩, if_pos e]
  · rw [if_neg (fun h => e h.1), if_neg e]
theorem Sh.inn {ws : List Int} {S M : Int} {nd : Nd} {k : Nat} {x : Int} (hw : okW ws S) (hS : ws.sum = S) (hl : nd.fl.length = ws.length) (hok : OkN M nd) (h : Sh ws S nd) (hk : k < ws.length) (hx : 1 ≤ x ∧ x ≤ 1500) : Sh ws S (inN ws S nd k x) := by
  have hg := fun j => inN_getD (ws := ws) (S := S) (nd := nd) (x := x) (k := k) (by omega) j
  have hwk := hw.2.1 k hk
  have hf := hok.f k
  have htb := tag_bound hw.2.2 hwk (show 0 ≤ x ∧ x ≤ 1500 by omega)
  have ht : (inN ws S nd k x).t = nd.t := rfl
  have hpot : ∀ D, potN ws (inN ws S nd k x) D ≤ potN ws nd D := fun D => sumN_le fun j hj => by
    simp only [ht, hg j]
    by_cases e : k = j
    · subst e
      rw [if_pos rfl]
      by_cases hq : (nd.fl.getD k f0).q = []
      · rw [if_pos hq]
        rw [potF_nil hq, potF_cons (List.cons_ne_nil x [])]
        exact ite_later (by omega) (by simp only [headQ]; omega)
      · rw [if_neg hq]
        rw [potF_cons hq, potF_cons (show (nd.fl.getD k f0).q ++ [x] ≠ [] by simp)]; exact Int.le_refl _
    · rw [if_neg e]; exact Int.le_refl _
  refine ⟨fun j hj hq => ?_, fun D j hj hq hu hb => ?_⟩
  · rw [hg j] at hq ⊢
    by_cases e : k = j
    · subst e
      rw [if_pos rfl] at hq ⊢
      by_cases hq0 : (nd.fl.getD k f0).q = []
      · rw [if_pos hq0]; rfl
      · rw [if_neg hq0]
        simp only
        rw [headQ_app hq0]; exact h.tag k hj hq0
    · rw [if_neg e] at hq ⊢; exact h.tag j hj hq
  · have hp := hpot D
    rw [ht] at hb ⊢
    by_cases hex : ∃ i, i < ws.length ∧ (nd.fl.getD i f0).q ≠ [] ∧ (nd.fl.getD i f0).u ≤ D ∧ (nd.fl.getD i f0).b ≤ nd.t
    · obtain ⟨i, h1, h2, h3, h4⟩ := hex
      have := h.main D i h1 h2 h3 h4
      omega
    · have hno : ∀ i, i < ws.length → (nd.fl.getD i f0).q ≠ [] → (nd.fl.getD i f0).u ≤ D → nd.t ≤ (nd.fl.getD i f0).b := fun i h1 h2 h3 => by
        refine Classical.byContradiction fun hn => hex ⟨i, h1, h2, h3, by omega⟩
      have htD : nd.t ≤ D := by
        rw [hg j] at hq hu hb
        by_cases e : k = j
        · subst e
          rw [if_pos rfl] at hu hb hq
          by_cases hq0 : (nd.fl.getD k f0).q = []
          · rw [if_pos hq0] at hu hb
            simp only [headF, headQ] at hu hb
            omega
          · rw [if_neg hq0] at hu hb
            exact (hex ⟨k, hj, hq0, hu, hb⟩).elim
        · rw [if_neg e] at hu hb hq
          exact (hex ⟨j, hj, hq, hu, hb⟩).elim
      have := pot_auto hw hS htD hno
      rw [Int.mul_add]
      have := hw.2.2
      omega
theorem bestN_min (fl : List Fq) (t : Int) : ∀ (i k : Nat), bestN fl t i = k → ∀ j, j < i → (fl.getD j f0).q ≠ [] → (fl.getD j f0).b ≤ t → (fl.getD k f0).u ≤ (fl.getD j f0).u
  | 0, k, _, j, hj, _, _ => by omega
  | i + 1, k, h, j, hj, hq, hb => by
    unfold bestN at h
    split at h
    · rename_i hc
      obtain rfl : i = k := by omega
      by_cases e : j = i
      · subst e; exact Int.le_refl _
      · rcases bestN_cases fl t i with ⟨h1, h2⟩ | ⟨k', h1, h2, h3, h4⟩
        · rcases h2 j (by omega) with h2 | h2
          · exact (hq h2).elim
          · omega
        · have := bestN_min fl t i k' h4 j (by omega) hq hb
          rw [h4, Int.toNat_natCast] at hc
          omega
    · rename_i hc
      by_cases e : j = i
      · subst e
        rw [h, Int.toNat_natCast] at hc
        have : ¬ ((k : Int) < 0 ∨ (fl.getD j f0).u < (fl.getD k f0).u) := fun hh => hc ⟨⟨hq, hb⟩, hh⟩
        omega
      · exact bestN_min fl t i k h j (by omega) hq hb
structure Pk (nd : Nd) (n k : Nat) : Prop where
  t : nd.t ≤ pickT nd
  q : (nd.fl.getD k f0).q ≠ []
  b : (nd.fl.getD k f0).b ≤ pickT nd
  u : ∀ j, j < n → (nd.fl.getD j f0).q ≠ [] → (nd.fl.getD j f0).b ≤ pickT nd → (nd.fl.getD k f0).u ≤ (nd.fl.getD j f0).u
  j : pickT nd = nd.t ∨ ∀ j, j < n → (nd.fl.getD j f0).q ≠ [] → pickT nd ≤ (nd.fl.getD j f0).b
theorem pk_of {M : Int} {nd : Nd} {k : Nat} (hok : OkN M nd) (h : pickK nd = k) : Pk nd nd.fl.length k := by
  have hb := fun i => (hok.f i).1.1
  unfold pickK at h
  split at h
  · omega
  · rename_i hL
    have hT : pickT nd = max nd.t (leastN nd.fl nd.fl.length) := by unfold pickT; rw [if_neg hL]
    rcases bestN_cases nd.fl (pickT nd) nd.fl.length with ⟨h1, _⟩ | ⟨k', h1, h2, h3, h4⟩
    · omega
    · obtain rfl : k' = k := by omega
      refine ⟨by omega, h2, h3, fun j hj hq hb => bestN_min _ _ _ _ h4 j hj hq hb, ?_⟩
      by_cases e : leastN nd.fl nd.fl.length ≤ nd.t
      · left; omega
      · right; intro j hj hq
        have := leastN_le nd.fl nd.fl.length hb j hj hq
        omega
theorem Sh.out {ws : List Int} {S M : Int} {nd : Nd} {k : Nat} (hw : okW ws S) (hS : ws.sum = S) (hl : nd.fl.length = ws.length) (hok : OkN M nd) (h : Sh ws S nd) (hk : k < ws.length) (hp : Pk nd ws.length k) : Sh ws S (outN ws S nd k) := by
  have hg := fun j => outN_getD (ws := ws) (S := S) (nd := nd) (k := k) (by omega) j
  have hwk := hw.2.1 k hk
  have hbu := fun j hj hq => (h.bu hw hok j hj hq).1
  have hx := headQ_bound (hok.f k).2.2
  have ht : (outN ws S nd k).t = pickT nd + headQ (nd.fl.getD k f0).q * 27720 := rfl
  have hm1 : ∀ D j, j < ws.length → (nd.fl.getD j f0).q ≠ [] → (nd.fl.getD j f0).u ≤ D → (nd.fl.getD j f0).b ≤ pickT nd → S * pickT nd + potN ws ⟨nd.fl, pickT nd⟩ D ≤ S * (D + 41580000) := fun D j hj hq hu hb => by
    rcases hp.j with e | e
    · rw [e] at hb ⊢; exact h.main D j hj hq hu hb
    · have h1 := e j hj hq
      have h2 := hbu j hj hq
      have := pot_auto (nd := ⟨nd.fl, pickT nd⟩) (D := D) hw hS (by simp only; omega) (fun i hi hq _ => e i hi hq)
      simp only at this
      rw [Int.mul_add]
      have := hw.2.2
      omega
  have hkq := h.tag k hk hp.q
  generalize hxx : headQ (nd.fl.getD k f0).q = x at *
  have hdu : ws.getD k 0 * ((nd.fl.getD k f0).u - (nd.fl.getD k f0).b) = S * (x * 27720) := by
    have : (nd.fl.getD k f0).u - (nd.fl.getD k f0).b = x * (27720 / ws.getD k 0) * S := by omega
    rw [this, Int.mul_comm (x * _) S, Int.mul_left_comm, Int.mul_left_comm (ws.getD k 0) x, w_div hwk]
  have htl : (tailF ws S k (nd.fl.getD k f0)).q = (nd.fl.getD k f0).q.tail := by
    unfold tailF; split
    · rename_i e; rw [e]
    · rfl
  have htu : (nd.fl.getD k f0).u ≤ (tailF ws S k (nd.fl.getD k f0)).u := by
    unfold tailF; split
    · exact Int.le_refl _
    · have htb := tag_bound hw.2.2 hwk (headQ_bound (l := (nd.fl.getD k f0).q.tail) fun y hy => (hok.f k).2.2 y (List.mem_of_mem_tail hy))
      simp only [headF]; omega
  have htb : (nd.fl.getD k f0).q.tail ≠ [] → (tailF ws S k (nd.fl.getD k f0)).b = (nd.fl.getD k f0).u := fun hq => by
    unfold tailF; rw [if_neg hq]; rfl
  refine ⟨fun j hj hq => ?_, fun D j hj hq hu hb => ?_⟩
  · rw [hg j] at hq ⊢
    by_cases e : k = j
    · subst e
      rw [if_pos rfl] at hq ⊢
      rw [htl] at hq
      unfold tailF; rw [if_neg hq]; rfl
    · rw [if_neg e] at hq ⊢; exact h.tag j hj hq
  · rw [ht, Int.mul_add]
    have hoth : ∀ i, i < ws.length → i ≠ k → potF (ws.getD i 0) (outN ws S nd k).t D ((outN ws S nd k).fl.getD i f0) ≤ potF (ws.getD i 0) (pickT nd) D (nd.fl.getD i f0) := fun i hi hik => by
      rw [hg i, if_neg (Ne.symm hik)]
      exact potF_time (by have := hw.2.1 i hi; omega) (by rw [ht]; omega)
    by_cases huk : (nd.fl.getD k f0).u ≤ D
    · have h1 := hm1 D k hk hp.q huk hp.b
      have h2 : potN ws (outN ws S nd k) D ≤ potN ws ⟨nd.fl, pickT nd⟩ D + -(S * (x * 27720)) := by
        refine sumN_upd (j := k) hk hoth ?_
        simp only
        rw [hg k, if_pos rfl]
        have hb4 : potF (ws.getD k 0) (pickT nd) D (nd.fl.getD k f0) = ws.getD k 0 * (D - (nd.fl.getD k f0).b) := by unfold potF; rw [if_neg hp.q, if_pos huk]
        have haf : potF (ws.getD k 0) (outN ws S nd k).t D (tailF ws S k (nd.fl.getD k f0)) ≤ ws.getD k 0 * (D - (nd.fl.getD k f0).u) := by
          unfold potF
          rw [htl]
          split
          · split
            · exact Int.mul_le_mul_of_nonneg_left (by omega) (by omega)
            · exact Int.mul_nonneg (by omega) (by omega)
          · rename_i hq'
            split
            · rw [htb hq']; exact Int.le_refl _
            · exact Int.mul_nonneg (by omega) (by omega)
        rw [hb4, ← hdu]
        rw [Int.mul_sub] at haf ⊢
        rw [Int.mul_sub]
        omega
      omega
    · have hno : ∀ i, i < ws.length → (nd.fl.getD i f0).q ≠ [] → (nd.fl.getD i f0).u ≤ D → pickT nd < (nd.fl.getD i f0).b := fun i hi hq hu => by
        refine Classical.byContradiction fun hn => ?_
        have := hp.u i hi hq (by omega)
        omega
      have hjk : k ≠ j := fun e => by
        subst e
        rw [hg k, if_pos rfl] at hu
        omega
      rw [hg j, if_neg hjk] at hq hu
      have h1 := hno j hj hq hu
      have h2 := hbu j hj hq
      have h3 := pot_auto (nd := ⟨nd.fl, pickT nd⟩) (D := D) hw hS (by simp only; omega) (fun i hi hq hu => by have := hno i hi hq hu; simp only; omega)
      have h4 : potN ws (outN ws S nd k) D ≤ potN ws ⟨nd.fl, pickT nd⟩ D + 0 := by
        refine sumN_upd (j := k) hk hoth ?_
        simp only
        rw [hg k, if_pos rfl]
        have hb4 : potF (ws.getD k 0) (pickT nd) D (nd.fl.getD k f0) = 0 := by unfold potF; rw [if_neg hp.q, if_neg huk]
        rw [hb4]
        unfold potF
        split
        · rw [if_neg (by omega)]; exact Int.le_refl _
        · rw [if_neg (by omega)]; exact Int.le_refl _
      simp only at h3
      have h5 := Int.mul_le_mul_of_nonneg_left (show x * 27720 ≤ 41580000 by omega) hw.2.2.1
      rw [Int.mul_add]
      omega
/-- Virtual time is never far behind a deadline. -/
theorem Sh.late {ws : List Int} {S M : Int} {nd : Nd} {k : Nat} (hw : okW ws S) (hS : ws.sum = S) (hok : OkN M nd) (h : Sh ws S nd) (hk : k < ws.length) (hq : (nd.fl.getD k f0).q ≠ []) : nd.t ≤ (nd.fl.getD k f0).u + 41580000 := by
  have hb := h.bu hw hok k hk hq
  by_cases e : (nd.fl.getD k f0).b ≤ nd.t
  · have h1 := h.main _ k hk hq (Int.le_refl _) e
    have h2 : 0 ≤ potN ws nd (nd.fl.getD k f0).u := sumN_nonneg fun j hj => potF_nonneg (by have := hw.2.1 j hj; omega) fun hq => (h.bu hw hok j hj hq).1
    have hS1 : 1 ≤ S := by
      have := sumN_one (f := fun k => ws.getD k 0) hk (fun j hj => by have := hw.2.1 j hj; show 0 ≤ ws.getD j 0; omega)
      rw [sumN_ws, hS] at this
      have := hw.2.1 k hk
      omega
    exact Int.le_of_mul_le_mul_left (show S * nd.t ≤ S * _ by omega) (by omega)
  · omega
end Go.Proofs.Ytdcodafidefloaa
