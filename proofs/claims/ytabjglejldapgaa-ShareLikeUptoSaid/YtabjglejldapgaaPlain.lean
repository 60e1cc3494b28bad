/- Sharing out by weights, in plain Lean: the level. -/
set_option linter.unusedVariables false
namespace Go.Proofs.Ytabjglejldapgaa

def sI (f : Nat → Int) : Nat → Int
  | 0 => 0
  | n + 1 => sI f n + f n
theorem sI_ext {f g : Nat → Int} : ∀ n, (∀ i, i < n → f i = g i) → sI f n = sI g n
  | 0, _ => rfl
  | n + 1, h => by simp only [sI, sI_ext n (fun i hi => h i (by omega)), h n (by omega)]
theorem sI_le {f g : Nat → Int} : ∀ n, (∀ i, i < n → f i ≤ g i) → sI f n ≤ sI g n
  | 0, _ => Int.le_refl _
  | n + 1, h => by
    have := sI_le n (fun i hi => h i (by omega))
    have := h n (by omega)
    simp only [sI]; omega
theorem sI_lt {f g : Nat → Int} : ∀ n, (∀ i, i < n → f i ≤ g i) → ∀ k, k < n → f k < g k → sI f n < sI g n
  | 0, _, k, hk, _ => by omega
  | n + 1, h, k, hk, hl => by
    have hn := h n (by omega)
    simp only [sI]
    by_cases e : k = n
    · subst e
      have := sI_le k (fun i hi => h i (by omega))
      omega
    · have := sI_lt n (fun i hi => h i (by omega)) k (by omega) hl
      omega
theorem sI_mul (f : Nat → Int) (x : Int) : ∀ n, sI (fun i => f i * x) n = sI f n * x
  | 0 => by simp [sI]
  | n + 1 => by simp only [sI, sI_mul f x n, Int.add_mul]
theorem sI_add (f g : Nat → Int) : ∀ n, sI (fun i => f i + g i) n = sI f n + sI g n
  | 0 => rfl
  | n + 1 => by simp only [sI, sI_add f g n]; omega
theorem sI_nonneg {f : Nat → Int} : ∀ n, (∀ i, i < n → 0 ≤ f i) → 0 ≤ sI f n
  | 0, _ => Int.le_refl _
  | n + 1, h => by
    have := sI_nonneg n (fun i hi => h i (by omega))
    have := h n (by omega)
    simp only [sI]; omega
theorem sI_bound {f : Nat → Int} {b : Int} (n : Nat) (h : ∀ i, i < n → 0 ≤ f i ∧ f i ≤ b) : 0 ≤ sI f n ∧ sI f n ≤ b * n := by
  induction n with
  | zero => simp [sI]
  | succ n ih =>
    have := ih (fun i hi => h i (by omega))
    have := h n (by omega)
    simp only [sI]
    rw [Int.natCast_add, Int.mul_add]
    omega
/-- A sum over a list of places. -/
def sL (f : Nat → Int) : List Nat → Int
  | [] => 0
  | k :: r => f k + sL f r
theorem sL_perm (f : Nat → Int) {p q : List Nat} (h : p.Perm q) : sL f p = sL f q := by
  induction h with
  | nil => rfl
  | cons x _ ih => simp only [sL, ih]
  | swap x y l => simp only [sL]; omega
  | trans _ _ ih1 ih2 => exact ih1.trans ih2
theorem sL_app (f : Nat → Int) (p q : List Nat) : sL f (p ++ q) = sL f p + sL f q := by
  induction p with
  | nil => simp [sL]
  | cons x p ih => simp only [List.cons_append, sL, ih]; omega
theorem sL_range (f : Nat → Int) : ∀ n, sL f (List.range n) = sI f n
  | 0 => rfl
  | n + 1 => by rw [List.range_succ, sL_app, sL_range f n]; simp [sL, sI]
theorem sL_ext {f g : Nat → Int} (p : List Nat) (h : ∀ k ∈ p, f k = g k) : sL f p = sL g p := by
  induction p with
  | nil => rfl
  | cons x p ih => simp only [sL, h x (by simp), ih (fun k hk => h k (by simp [hk]))]
theorem sL_zero (p : List Nat) : sL (fun _ => 0) p = 0 := by
  induction p with
  | nil => rfl
  | cons x p ih => simp only [sL, ih]; rfl

/-- What all want, and their weights. -/
structure Wants where
  n : Nat
  w : Nat → Int
  c : Nat → Int
structure Wants.ok (s : Wants) (all : Int) : Prop where
  len : s.n ≤ 16
  pos : 0 ≤ all ∧ all ≤ 1048576
  w : ∀ i, i < s.n → 0 ≤ s.w i ∧ s.w i ≤ 1048576
  c : ∀ i, i < s.n → 1 ≤ s.c i ∧ s.c i ≤ 1000
/-- Has it all that it wants? -/
def sat (s : Wants) (num den : Int) (i : Nat) : Prop := s.w i * den ≤ s.c i * num
instance (s : Wants) (num den : Int) (i : Nat) : Decidable (sat s num den i) := by unfold sat; infer_instance
/-- The level: all through what; den 0: all get what they want. -/
def IsLev (s : Wants) (all num den : Int) : Prop :=
  (num = 0 ∧ den = 0 ∧ sI s.w s.n ≤ all) ∨
  (0 < den ∧ 0 ≤ num ∧ num = all - sI (fun i => if sat s num den i then s.w i else 0) s.n ∧ den = sI (fun i => if sat s num den i then 0 else s.c i) s.n)
/-- What each one gets, times den. -/
def gets (s : Wants) (num den : Int) (i : Nat) : Int := if sat s num den i then s.w i * den else s.c i * num
theorem lev_sum {s : Wants} {all num den : Int} (h1 : num = all - sI (fun i => if sat s num den i then s.w i else 0) s.n) (h2 : den = sI (fun i => if sat s num den i then 0 else s.c i) s.n) : sI (gets s num den) s.n = all * den := by
  have e : sI (gets s num den) s.n = sI (fun i => (if sat s num den i then s.w i else 0) * den + (if sat s num den i then 0 else s.c i) * num) s.n := sI_ext _ fun i _ => by
    unfold gets
    split <;> simp
  rw [e, sI_add, sI_mul, sI_mul, ← h2]
  have : sI (fun i => if sat s num den i then s.w i else 0) s.n = all - num := by omega
  rw [this, Int.sub_mul, Int.mul_comm den num]
  omega
/-- Somebody lacks something. -/
theorem lev_some {s : Wants} {num den : Int} (h0 : 0 < den) (h2 : den = sI (fun i => if sat s num den i then 0 else s.c i) s.n) : ∃ k, k < s.n ∧ ¬ sat s num den k := by
  by_cases h : ∃ k, k < s.n ∧ ¬ sat s num den k
  · exact h
  · exfalso
    have : sI (fun i => if sat s num den i then 0 else s.c i) s.n = sI (fun _ => 0) s.n := sI_ext _ fun i hi => by
      by_cases hs : sat s num den i
      · rw [if_pos hs]
      · exact absurd ⟨i, hi, hs⟩ h
    have z : ∀ n, sI (fun _ => 0) n = 0 := fun n => by induction n with | zero => rfl | succ n ih => simp only [sI, ih]; rfl
    rw [this, z] at h2
    omega
theorem gets_le {s : Wants} {num den : Int} (i : Nat) : gets s num den i ≤ s.w i * den := by
  unfold gets
  split
  · exact Int.le_refl _
  · rename_i h; unfold sat at h; omega
theorem gets_le2 {s : Wants} {num den : Int} (i : Nat) : gets s num den i ≤ s.c i * num := by
  unfold gets
  split
  · assumption
  · exact Int.le_refl _
theorem mul_le3 {a b x : Int} (h : a ≤ b) (hx : 0 ≤ x) : a * x ≤ b * x := Int.mul_le_mul_of_nonneg_right h hx
theorem mul_lt3 {a b x : Int} (h : a < b) (hx : 0 < x) : a * x < b * x := Int.mul_lt_mul_of_pos_right h hx
/-- With no more wanted, and no less there, the level is no lower. -/
theorem lev_mono {s t : Wants} {all all' num den num' den' : Int} (hn : t.n = s.n) (hc : ∀ i, i < s.n → t.c i = s.c i ∧ 1 ≤ s.c i) (hw : ∀ i, i < s.n → t.w i ≤ s.w i) (ha : all ≤ all')
    (hd : 0 < den) (h1 : num = all - sI (fun i => if sat s num den i then s.w i else 0) s.n) (h2 : den = sI (fun i => if sat s num den i then 0 else s.c i) s.n)
    (hd' : 0 < den') (h1' : num' = all' - sI (fun i => if sat t num' den' i then t.w i else 0) t.n) (h2' : den' = sI (fun i => if sat t num' den' i then 0 else t.c i) t.n) : num * den' ≤ num' * den := by
  by_cases h : num * den' ≤ num' * den
  · exact h
  · exfalso
    have h : num' * den < num * den' := by omega
    have s1 := lev_sum h1 h2
    have s2 := lev_sum h1' h2'
    obtain ⟨k, hk, hks⟩ := lev_some hd h2
    have key : ∀ i, i < s.n → gets t num' den' i * den ≤ gets s num den i * den' ∧ (¬ sat s num den i → gets t num' den' i * den < gets s num den i * den') := fun i hi => by
      obtain ⟨ec, c1⟩ := hc i hi
      have hwi := hw i hi
      have g1 := gets_le (s := t) (num := num') (den := den') i
      have g2 := gets_le2 (s := t) (num := num') (den := den') i
      rw [ec] at g2
      have m1 := mul_le3 g1 (Int.le_of_lt hd)
      have m2 := mul_le3 g2 (Int.le_of_lt hd)
      have m3 : s.c i * num' * den < s.c i * num * den' := by
        rw [Int.mul_assoc, Int.mul_assoc]
        exact Int.mul_lt_mul_of_pos_left h (by omega)
      have m4 : t.w i * den' * den ≤ s.w i * den * den' := by
        have := mul_le3 (mul_le3 hwi (Int.le_of_lt hd')) (Int.le_of_lt hd)
        rw [Int.mul_assoc (s.w i), Int.mul_comm den, ← Int.mul_assoc]
        exact this
      unfold gets
      by_cases hs : sat s num den i
      · rw [if_pos hs]
        exact ⟨by unfold gets at m1; omega, fun h => absurd hs h⟩
      · rw [if_neg hs]
        unfold gets at m2
        exact ⟨by omega, fun _ => by omega⟩
    have hlt : sI (fun i => gets t num' den' i * den) s.n < sI (fun i => gets s num den i * den') s.n := sI_lt _ (fun i hi => (key i hi).1) k hk ((key k hk).2 hks)
    rw [sI_mul, sI_mul, s1, ← hn, s2, Int.mul_assoc, Int.mul_assoc, Int.mul_comm den' den] at hlt
    have := mul_le3 ha (Int.le_of_lt (Int.mul_pos hd hd'))
    omega
/-- When all have what they want, they have when less is wanted of more. -/
theorem lev_all {s t : Wants} {all all' num' den' : Int} (hn : t.n = s.n) (hw : ∀ i, i < s.n → t.w i ≤ s.w i) (ha : all ≤ all') (hs : sI s.w s.n ≤ all) (hd' : 0 < den') (h1' : num' = all' - sI (fun i => if sat t num' den' i then t.w i else 0) t.n) (h2' : den' = sI (fun i => if sat t num' den' i then 0 else t.c i) t.n) : False := by
  have s2 := lev_sum h1' h2'
  obtain ⟨k, hk, hks⟩ := lev_some hd' h2'
  have hlt : sI (gets t num' den') t.n < sI (fun i => t.w i * den') t.n := sI_lt _ (fun i _ => gets_le i) k hk (by
    unfold gets; rw [if_neg hks]; unfold sat at hks; omega)
  rw [s2, sI_mul] at hlt
  have h3 : sI t.w t.n ≤ sI s.w s.n := by rw [hn]; exact sI_le _ hw
  have := mul_le3 (show sI t.w t.n ≤ all' by omega) (Int.le_of_lt hd')
  omega
/-- There is one level only. -/
theorem lev_one {s : Wants} {all num den num' den' : Int} (hc : ∀ i, i < s.n → 1 ≤ s.c i) (h : IsLev s all num den) (h' : IsLev s all num' den') : num = num' ∧ den = den' := by
  rcases h with ⟨a1, a2, a3⟩ | ⟨a1, a2, a3, a4⟩
  · rcases h' with ⟨b1, b2, b3⟩ | ⟨b1, b2, b3, b4⟩
    · exact ⟨by omega, by omega⟩
    · exact (lev_all (s := s) (t := s) rfl (fun _ _ => Int.le_refl _) (Int.le_refl _) a3 b1 b3 b4).elim
  · rcases h' with ⟨b1, b2, b3⟩ | ⟨b1, b2, b3, b4⟩
    · exact (lev_all (s := s) (t := s) rfl (fun _ _ => Int.le_refl _) (Int.le_refl _) b3 a1 a3 a4).elim
    · have e1 := lev_mono (s := s) (t := s) rfl (fun i hi => ⟨rfl, hc i hi⟩) (fun _ _ => Int.le_refl _) (Int.le_refl all) a1 a3 a4 b1 b3 b4
      have e2 := lev_mono (s := s) (t := s) rfl (fun i hi => ⟨rfl, hc i hi⟩) (fun _ _ => Int.le_refl _) (Int.le_refl all) b1 b3 b4 a1 a3 a4
      have e : num * den' = num' * den := by omega
      have hs : ∀ i, sat s num den i ↔ sat s num' den' i := fun i => by
        unfold sat
        constructor
        · intro hh
          have := mul_le3 hh (Int.le_of_lt b1)
          rw [Int.mul_assoc (s.c i), e, ← Int.mul_assoc, Int.mul_assoc (s.w i), Int.mul_comm den, ← Int.mul_assoc] at this
          exact Int.le_of_mul_le_mul_right this a1
        · intro hh
          have := mul_le3 hh (Int.le_of_lt a1)
          rw [Int.mul_assoc (s.c i), ← e, ← Int.mul_assoc, Int.mul_assoc (s.w i), Int.mul_comm den', ← Int.mul_assoc] at this
          exact Int.le_of_mul_le_mul_right this b1
      simp only [hs] at a3 a4
      exact ⟨by omega, by omega⟩

/-- How the code finds it: in the order of what they want by their weights. -/
def lev (s : Wants) : List Nat → Int → Int → Int × Int
  | [], _, _ => (0, 0)
  | k :: r, left, sum => if left * s.c k < s.w k * sum then (left, sum) else lev s r (left - s.w k) (sum - s.c k)
def before (s : Wants) (i j : Nat) : Prop := s.w i * s.c j ≤ s.w j * s.c i
theorem lev_go {s : Wants} {all : Int} (hok : s.ok all) : ∀ (q d : List Nat) (left sum : Int), (d ++ q).Perm (List.range s.n) → (d ++ q).Pairwise (before s) → 0 ≤ left → left = all - sL s.w d → sum = sL s.c q → (∀ y ∈ d, s.w y * sum ≤ s.c y * left) → IsLev s all (lev s q left sum).1 (lev s q left sum).2
  | [], d, left, sum, hp, hs, h0, h1, h2, h3 => by
    refine Or.inl ⟨rfl, rfl, ?_⟩
    rw [List.append_nil] at hp
    rw [← sL_range, ← sL_perm s.w hp]
    omega
  | k :: r, d, left, sum, hp, hs, h0, h1, h2, h3 => by
    have hmem : ∀ x, x ∈ d ++ k :: r → x < s.n := fun x hx => List.mem_range.1 (hp.mem_iff.1 hx)
    have hk := hmem k (by simp)
    have hck := hok.c k hk
    have hwk := hok.w k hk
    have hsum : sum = s.c k + sL s.c r := h2
    have hr0 : 0 ≤ sL s.c r := by
      have : ∀ l : List Nat, (∀ x ∈ l, x < s.n) → 0 ≤ sL s.c l := fun l => by
        induction l with
        | nil => intro _; exact Int.le_refl _
        | cons x l ih => intro h; have := ih (fun y hy => h y (by simp [hy])); have := hok.c x (h x (by simp)); simp only [sL]; omega
      exact this r fun x hx => hmem x (by simp [hx])
    have hpw := List.pairwise_append.1 hs
    unfold lev
    by_cases hst : left * s.c k < s.w k * sum
    · rw [if_pos hst]
      -- the ones ahead are satisfied, the others are not
      have hun : ∀ z ∈ k :: r, ¬ sat s left sum z := fun z hz => by
        unfold sat
        rcases List.mem_cons.1 hz with rfl | hz
        · rw [Int.mul_comm (s.c z)]; omega
        · have hb : before s k z := (List.pairwise_cons.1 hpw.2.1).1 z hz
          unfold before at hb
          have hcz := hok.c z (hmem z (by simp [hz]))
          intro hh
          -- s.w k * sum * c z ≤ w z * c k * sum ≤ c z * left * c k < c z * w k * sum
          have m1 := mul_le3 hb (show 0 ≤ sum by omega)
          have m2 := mul_le3 hh (show 0 ≤ s.c k by omega)
          have m3 := Int.mul_lt_mul_of_pos_left hst (show 0 < s.c z by omega)
          have e1 : s.w k * s.c z * sum = s.c z * (s.w k * sum) := by rw [Int.mul_comm (s.w k), Int.mul_assoc]
          have e2 : s.w z * s.c k * sum = s.w z * sum * s.c k := by rw [Int.mul_assoc, Int.mul_comm (s.c k), ← Int.mul_assoc]
          have e3 : s.c z * left * s.c k = s.c z * (left * s.c k) := by rw [Int.mul_assoc]
          omega
      have hsa : ∀ y ∈ d, sat s left sum y := fun y hy => h3 y hy
      refine Or.inr ⟨by omega, h0, ?_, ?_⟩
      · rw [← sL_range, ← sL_perm _ hp, sL_app, sL_ext (g := s.w) d (fun y hy => if_pos (hsa y hy)), sL_ext (g := fun _ => 0) (k :: r) (fun z hz => if_neg (hun z hz)), sL_zero]
        show left = _
        omega
      · rw [← sL_range, ← sL_perm _ hp, sL_app, sL_ext (g := fun _ => 0) d (fun y hy => if_pos (hsa y hy)), sL_ext (g := s.c) (k :: r) (fun z hz => if_neg (hun z hz)), sL_zero]
        show sum = _
        rw [h2]; omega
    · rw [if_neg hst]
      have hx : s.w k * (sum - s.c k) ≤ s.c k * (left - s.w k) := by
        rw [Int.mul_sub, Int.mul_sub, Int.mul_comm (s.c k) left, Int.mul_comm (s.c k) (s.w k)]; omega
      have hs0 : 0 ≤ sum - s.c k := by omega
      have hl0 : 0 ≤ left - s.w k := by
        have := Int.mul_nonneg hwk.1 hs0
        by_cases hn : 0 ≤ left - s.w k
        · exact hn
        · exfalso
          have := Int.mul_neg_of_pos_of_neg (show 0 < s.c k by omega) (show left - s.w k < 0 by omega)
          omega
      refine lev_go hok r (d ++ [k]) (left - s.w k) (sum - s.c k) (by simpa using hp) (by simpa using hs) hl0 (by rw [sL_app]; simp only [sL]; omega) (by omega) fun y hy => ?_
      rcases List.mem_append.1 hy with hy | hy
      · have hb : before s y k := hpw.2.2 y hy k (by simp)
        unfold before at hb
        have hcy := hok.c y (hmem y (by simp [hy]))
        have m1 := mul_le3 hb hs0
        have m2 := Int.mul_le_mul_of_nonneg_left hx (show 0 ≤ s.c y by omega)
        have e1 : s.w y * s.c k * (sum - s.c k) = s.w y * (sum - s.c k) * s.c k := by rw [Int.mul_assoc, Int.mul_comm (s.c k), ← Int.mul_assoc]
        have e2 : s.w k * s.c y * (sum - s.c k) = s.c y * (s.w k * (sum - s.c k)) := by rw [Int.mul_comm (s.w k), Int.mul_assoc]
        have e3 : s.c y * (s.c k * (left - s.w k)) = s.c y * (left - s.w k) * s.c k := by rw [Int.mul_comm (s.c k), ← Int.mul_assoc]
        exact Int.le_of_mul_le_mul_right (show s.w y * (sum - s.c k) * s.c k ≤ s.c y * (left - s.w k) * s.c k by omega) (by omega)
      · obtain rfl : y = k := by simpa using hy
        exact hx
/-- The level is found. -/
theorem lev_is {s : Wants} {all : Int} (hok : s.ok all) {p : List Nat} (hp : p.Perm (List.range s.n)) (hs : p.Pairwise (before s)) : IsLev s all (lev s p all (sI s.c s.n)).1 (lev s p all (sI s.c s.n)).2 :=
  lev_go hok p [] all _ (by simpa using hp) (by simpa using hs) hok.pos.1 (by simp [sL]) (by rw [← sL_range, ← sL_perm _ hp]) (fun y hy => by simp at hy)
end Go.Proofs.Ytabjglejldapgaa
