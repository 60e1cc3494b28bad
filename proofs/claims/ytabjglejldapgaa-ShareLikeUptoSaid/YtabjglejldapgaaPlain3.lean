import Derived.Test.YtabjglejldapgaaPlain2
/- Sharing out by weights, in plain Lean: the laws. -/
namespace Go.Proofs.Ytabjglejldapgaa

theorem getF_A {s : Wants} {num den : Int} {i : Nat} (h : den = 0 ∨ sat s num den i) : getF s num den i = ⟨s.w i, 1⟩ := if_pos h
theorem getF_B {s : Wants} {num den : Int} {i : Nat} (h : ¬ (den = 0 ∨ sat s num den i)) : getF s num den i = ⟨s.c i * num, den⟩ := if_neg h
/-- What one adds to the sum. -/
def tm (s : Wants) (num den : Int) (i : Nat) : Int := if den = 0 ∨ sat s num den i then s.w i * max den 1 else s.c i * num
/-- All is shared out, or all have what they want. -/
theorem share_all {s : Wants} {all num den : Int} (h : IsLev s all num den) : sI (tm s num den) s.n = min all (sI s.w s.n) * max den 1 := by
  rcases h with ⟨rfl, rfl, h3⟩ | ⟨h1, h2, h3, h4⟩
  · have e : sI (tm s 0 0) s.n = sI (fun i => s.w i * 1) s.n := sI_ext _ fun i _ => by
      unfold tm
      rw [if_pos (Or.inl rfl)]; rfl
    rw [e, sI_mul, show max (0 : Int) 1 = 1 from rfl, show min all (sI s.w s.n) = sI s.w s.n by omega]
  · have hm : max den 1 = den := by omega
    have e : sI (tm s num den) s.n = sI (gets s num den) s.n := sI_ext _ fun i _ => by
      unfold tm gets
      rw [hm]
      by_cases hs : sat s num den i
      · rw [if_pos (Or.inr hs), if_pos hs]
      · rw [if_neg (fun h => h.elim (fun h => by omega) hs), if_neg hs]
    have s1 := lev_sum h3 h4
    obtain ⟨k, hk, hks⟩ := lev_some h1 h4
    have hlt : sI (gets s num den) s.n < sI (fun i => s.w i * den) s.n := sI_lt _ (fun i _ => gets_le i) k hk (by
      unfold gets; rw [if_neg hks]; unfold sat at hks; omega)
    rw [s1, sI_mul] at hlt
    have := Int.lt_of_mul_lt_mul_right hlt (by omega)
    rw [e, s1, hm, show min all (sI s.w s.n) = all by omega]
/-- Nobody can have more but of one who has no more. -/
theorem share_fair {s : Wants} {all num den : Int} (hok : s.ok all) (h : IsLev s all num den) {o : Nat → Int} (ho : ∀ i, i < s.n → o i ≤ s.w i) (hs : sI o s.n ≤ all) {k : Nat} (hk : k < s.n) (hm : ¬ o k * (getF s num den k).den ≤ (getF s num den k).num) :
    ∃ i, i < s.n ∧ o i * (getF s num den i).den < (getF s num den i).num ∧ (getF s num den i).num * s.c k * (getF s num den k).den ≤ (getF s num den k).num * s.c i * (getF s num den i).den := by
  have hnk : ¬ (den = 0 ∨ sat s num den k) := fun hh => by
    rw [getF_A hh] at hm
    exact hm (by show o k * 1 ≤ s.w k; have := ho k hk; omega)
  rw [getF_B hnk] at hm ⊢
  simp only at hm ⊢
  rcases h with ⟨rfl, rfl, h3⟩ | ⟨h1, h2, h3, h4⟩
  · exact absurd (Or.inl rfl) hnk
  · have s1 := lev_sum h3 h4
    have hks : ¬ sat s num den k := fun hh => hnk (Or.inr hh)
    by_cases hex : ∃ i, i < s.n ∧ o i * den < gets s num den i
    · obtain ⟨i, hi, hlt⟩ := hex
      have hci := hok.c i hi
      have hck := hok.c k hk
      refine ⟨i, hi, ?_⟩
      by_cases hsi : sat s num den i
      · rw [getF_A (Or.inr hsi)]
        unfold gets at hlt
        rw [if_pos hsi] at hlt
        have h5 := Int.lt_of_mul_lt_mul_right hlt (by omega)
        refine ⟨by show o i * 1 < s.w i; omega, ?_⟩
        show s.w i * s.c k * den ≤ s.c k * num * s.c i * 1
        unfold sat at hsi
        have m := Int.mul_le_mul_of_nonneg_left hsi (show 0 ≤ s.c k by omega)
        have e1 : s.w i * s.c k * den = s.c k * (s.w i * den) := by rw [Int.mul_comm (s.w i), Int.mul_assoc]
        have e2 : s.c k * num * s.c i * 1 = s.c k * (s.c i * num) := by rw [Int.mul_one, Int.mul_assoc, Int.mul_comm num]
        omega
      · have hni : ¬ (den = 0 ∨ sat s num den i) := fun hh => hh.elim (fun h => by omega) hsi
        rw [getF_B hni]
        unfold gets at hlt
        rw [if_neg hsi] at hlt
        refine ⟨hlt, ?_⟩
        show s.c i * num * s.c k * den ≤ s.c k * num * s.c i * den
        have e : s.c i * num * s.c k = s.c k * num * s.c i := by
          rw [Int.mul_assoc, Int.mul_comm num, ← Int.mul_assoc, Int.mul_comm (s.c i), Int.mul_assoc, Int.mul_comm (s.c i), ← Int.mul_assoc]
        rw [e]; exact Int.le_refl _
    · exfalso
      have hle : ∀ i, i < s.n → gets s num den i ≤ o i * den := fun i hi => by
        by_cases hh : o i * den < gets s num den i
        · exact absurd ⟨i, hi, hh⟩ hex
        · omega
      have hlt : sI (gets s num den) s.n < sI (fun i => o i * den) s.n := sI_lt _ hle k hk (by unfold gets; rw [if_neg hks]; omega)
      rw [s1, sI_mul] at hlt
      have := mul_le3 hs (Int.le_of_lt h1)
      omega
/-- More for all, and less wanted by others, is no less for anybody. -/
theorem share_more {s t : Wants} {all all' num den num' den' : Int} (hok : s.ok all) (hn : t.n = s.n) (hc : ∀ i, i < s.n → t.c i = s.c i) (hw : ∀ i, i < s.n → t.w i ≤ s.w i) (ha : all ≤ all') (h : IsLev s all num den) (h' : IsLev t all' num' den') {k : Nat} (hk : k < s.n) (hwk : t.w k = s.w k) :
    (getF s num den k).num * (getF t num' den' k).den ≤ (getF t num' den' k).num * (getF s num den k).den := by
  have hr := getF_range hok h hk
  have hck := hok.c k hk
  by_cases hA : den' = 0 ∨ sat t num' den' k
  · rw [getF_A hA, hwk]
    show _ * 1 ≤ s.w k * _
    omega
  · rw [getF_B hA, hc k hk]
    show _ * den' ≤ s.c k * num' * _
    have hd' : den' ≠ 0 := fun e => hA (Or.inl e)
    rcases h' with ⟨_, b2, _⟩ | ⟨b1, b2, b3, b4⟩
    · exact absurd b2 hd'
    · rcases h with ⟨_, _, a3⟩ | ⟨a1, a2, a3, a4⟩
      · exact (lev_all hn hw ha a3 b1 b3 b4).elim
      · have hm := lev_mono hn (fun i hi => ⟨hc i hi, (hok.c i hi).1⟩) hw ha a1 a3 a4 b1 b3 b4
        have m0 := Int.mul_le_mul_of_nonneg_left hm (show 0 ≤ s.c k by omega)
        rw [← Int.mul_assoc, ← Int.mul_assoc] at m0
        by_cases hS : den = 0 ∨ sat s num den k
        · rw [getF_A hS]
          show s.w k * den' ≤ s.c k * num' * 1
          rcases hS with h | hS
          · omega
          · unfold sat at hS
            have m1 := mul_le3 hS (Int.le_of_lt b1)
            rw [Int.mul_one]
            have e : s.w k * den' * den = s.w k * den * den' := by rw [Int.mul_assoc, Int.mul_comm den', ← Int.mul_assoc]
            exact Int.le_of_mul_le_mul_right (show s.w k * den' * den ≤ s.c k * num' * den by omega) a1
        · rw [getF_B hS]
          exact m0

/-- In another order it is the same. -/
theorem sI_rev (f : Nat → Int) : ∀ n, sI (fun i => f (n - 1 - i)) n = sI f n := fun n => by
  have h1 := sL_range (fun i => f (n - 1 - i)) n
  have h2 := sL_range f n
  rw [← h1, ← h2]
  have e : (List.range n).reverse = (List.range n).map fun i => n - 1 - i := by
    apply List.ext_getElem
    · simp
    · intro i h1 h2; simp
  have e2 : ∀ p : List Nat, sL (fun i => f (n - 1 - i)) p = sL f (p.map fun i => n - 1 - i) := fun p => by
    induction p with
    | nil => rfl
    | cons x p ih => simp only [sL, List.map_cons, ih]
  rw [e2, ← e]
  exact sL_perm f (List.reverse_perm _)
theorem lev_rev {s t : Wants} {all num den : Int} (hn : t.n = s.n) (hw : ∀ i, i < s.n → t.w i = s.w (s.n - 1 - i)) (hc : ∀ i, i < s.n → t.c i = s.c (s.n - 1 - i)) (h : IsLev s all num den) : IsLev t all num den := by
  have hsat : ∀ i, i < s.n → (sat t num den i ↔ sat s num den (s.n - 1 - i)) := fun i hi => by unfold sat; rw [hw i hi, hc i hi]
  have e1 : sI t.w t.n = sI s.w s.n := by rw [hn, ← sI_rev s.w]; exact sI_ext _ hw
  have e2 : sI (fun i => if sat t num den i then t.w i else 0) t.n = sI (fun i => if sat s num den i then s.w i else 0) s.n := by
    rw [hn, ← sI_rev (fun i => if sat s num den i then s.w i else 0)]
    exact sI_ext _ fun i hi => by simp only [hsat i hi, hw i hi]
  have e3 : sI (fun i => if sat t num den i then 0 else t.c i) t.n = sI (fun i => if sat s num den i then 0 else s.c i) s.n := by
    rw [hn, ← sI_rev (fun i => if sat s num den i then 0 else s.c i)]
    exact sI_ext _ fun i hi => by simp only [hsat i hi, hc i hi]
  unfold IsLev
  rw [e1, e2, e3]
  exact h
theorem getF_rev {s t : Wants} {num den : Int} {i : Nat} (hi : i < s.n) (hw : ∀ i, i < s.n → t.w i = s.w (s.n - 1 - i)) (hc : ∀ i, i < s.n → t.c i = s.c (s.n - 1 - i)) : getF t num den i = getF s num den (s.n - 1 - i) := by
  have hs : sat t num den i ↔ sat s num den (s.n - 1 - i) := by unfold sat; rw [hw i hi, hc i hi]
  by_cases h : den = 0 ∨ sat s num den (s.n - 1 - i)
  · rw [getF_A h, getF_A (h.imp id hs.2), hw i hi]
  · rw [getF_B h, getF_B (fun h2 => h (h2.imp id hs.1)), hc i hi]
theorem gl_rev {s t : Wants} {num den : Int} (hw : ∀ i, i < s.n → t.w i = s.w (s.n - 1 - i)) (hc : ∀ i, i < s.n → t.c i = s.c (s.n - 1 - i)) : (gl t num den s.n).reverse = gl s num den s.n := by
  apply List.ext_getElem
  · simp [gl_len]
  · intro i h1 h2
    rw [gl_len] at h2
    have l1 := gl_len t num den s.n
    have l2 := gl_len s num den s.n
    rw [List.getElem_reverse]
    have g1 := gl_get t num den s.n (s.n - 1 - i) (by omega)
    have g2 := gl_get s num den s.n i h2
    rw [List.getD_eq_getElem?_getD, List.getElem?_eq_getElem (by omega)] at g1 g2
    simp only [Option.getD_some] at g1 g2
    rw [g2]
    have : (gl t num den s.n)[(gl t num den s.n).length - 1 - i]'(by omega) = (gl t num den s.n)[s.n - 1 - i]'(by omega) := by congr 1; omega
    rw [this, g1, getF_rev (by omega) hw hc]
    congr 1; omega
end Go.Proofs.Ytabjglejldapgaa
