/- Earliest due first, in plain Lean. -/
namespace Go.Proofs.Ytcoelfklgpaidaa

structure S where
  fr : Int
  by' : Int
def j0 : S := ⟨0, 0⟩
def S.bad (s : S) : Prop := s.fr < 0 ∨ 1000 < s.by' ∨ s.by' < s.fr
instance (s : S) : Decidable s.bad := by unfold S.bad; infer_instance
def wrongGo : List S → Int
  | [] => 0
  | s :: l => if s.bad then 2 else wrongGo l
def wrongL (l : List S) : Int := if 400 < l.length then 2 else wrongGo l

def F (l : List S) (k : Nat) : Int := (l.getD k j0).fr
def T (l : List S) (k : Nat) : Int := (l.getD k j0).by'
def D (d : List Int) (k : Nat) : Int := d.getD k 0

structure Fine (l : List S) : Prop where
  len : l.length ≤ 400
  ok : ∀ k, k < l.length → 0 ≤ F l k ∧ T l k ≤ 1000 ∧ F l k ≤ T l k
theorem wrongGo_ok : ∀ (l : List S), wrongGo l = 0 → ∀ k, k < l.length → ¬ (l.getD k j0).bad
  | [], _, _, h => by simp at h
  | s :: l, h, k, hk => by
    unfold wrongGo at h
    split at h
    · omega
    · cases k with
      | zero => simpa using ‹¬ s.bad›
      | succ k => simpa using wrongGo_ok l h k (by simpa using hk)
theorem fine {l : List S} (h : wrongL l = 0) : Fine l := by
  unfold wrongL at h
  split at h
  · omega
  · refine ⟨by omega, fun k hk => ?_⟩
    have := wrongGo_ok l h k hk
    unfold S.bad at this
    unfold F T
    omega

def av (l : List S) (d : List Int) (now : Int) (k : Nat) : Prop := D d k < 0 ∧ F l k ≤ now ∧ now < T l k
instance (l : List S) (d : List Int) (now : Int) (k : Nat) : Decidable (av l d now k) := by unfold av; infer_instance
def pick (l : List S) (d : List Int) (now : Int) : Nat → Int
  | 0 => -1
  | k + 1 => if av l d now k ∧ (pick l d now k < 0 ∨ T l k < T l (pick l d now k).toNat) then k else pick l d now k
theorem pick_lt (l : List S) (d : List Int) (now : Int) : ∀ k, -1 ≤ pick l d now k ∧ pick l d now k < k
  | 0 => by simp [pick]
  | k + 1 => by
    have := pick_lt l d now k
    unfold pick
    split <;> omega
theorem pick_none (l : List S) (d : List Int) (now : Int) : ∀ n, pick l d now n < 0 → ∀ k, k < n → ¬ av l d now k
  | 0, _, k, hk => by omega
  | n + 1, h, k, hk => by
    unfold pick at h
    split at h
    · omega
    · rename_i hc
      by_cases hkn : k = n
      · subst hkn
        exact fun ha => hc ⟨ha, Or.inl h⟩
      · exact pick_none l d now n h k (by omega)
theorem pick_some (l : List S) (d : List Int) (now : Int) : ∀ n b, pick l d now n = (b : Nat) → av l d now b ∧ b < n ∧ ∀ k, k < n → av l d now k → T l b ≤ T l k
  | 0, b, h => by simp only [pick] at h; omega
  | n + 1, b, h => by
    unfold pick at h
    have hlt := pick_lt l d now n
    split at h
    · rename_i hc
      obtain rfl : n = b := by omega
      refine ⟨hc.1, by omega, fun k hk ha => ?_⟩
      by_cases hkn : k = n
      · subst hkn; omega
      · by_cases hp : pick l d now n < 0
        · exact absurd ha (by
            have := pick_none l d now n hp k (by omega)
            exact this)
        · obtain ⟨c, hc2⟩ := Int.eq_ofNat_of_zero_le (show 0 ≤ pick l d now n by omega)
          have := (pick_some l d now n c hc2).2.2 k (by omega) ha
          rw [hc2] at hc
          have := hc.2
          simp at this
          omega
    · rename_i hc
      obtain ⟨h1, h2, h3⟩ := pick_some l d now n b h
      refine ⟨h1, by omega, fun k hk ha => ?_⟩
      by_cases hkn : k = n
      · subst hkn
        rw [h] at hc
        simp only [Int.toNat_natCast] at hc
        by_cases hlt : T l k < T l b
        · exact absurd ⟨ha, Or.inr hlt⟩ hc
        · omega
      · exact h3 k (by omega) ha


def step (l : List S) (d : List Int) (now : Int) : List Int := if 0 ≤ pick l d now l.length then d.set (pick l d now l.length).toNat now else d
def run (l : List S) : Nat → List Int
  | 0 => List.replicate l.length (-1)
  | t + 1 => step l (run l t) t

structure Inv (l : List S) (t : Nat) (d : List Int) : Prop where
  len : d.length = l.length
  ok : ∀ k, k < l.length → D d k = -1 ∨ (0 ≤ D d k ∧ D d k < t ∧ F l k ≤ D d k ∧ D d k < T l k)
  one : ∀ i j, i < l.length → j < l.length → 0 ≤ D d i → D d i = D d j → i = j
  busy : ∀ k, k < l.length → ∀ u : Int, F l k ≤ u → u < T l k → u < t → (D d k = -1 ∨ u < D d k) → ∃ m, m < l.length ∧ D d m = u ∧ T l m ≤ T l k

theorem D_set_hit {d : List Int} {k : Nat} (x : Int) (h : k < d.length) : D (d.set k x) k = x := by simp [D, h]
theorem D_set_miss {d : List Int} {k j : Nat} (x : Int) (h : k ≠ j) : D (d.set k x) j = D d j := by simp [D, h]

theorem run_inv {l : List S} (hf : Fine l) : ∀ t, Inv l t (run l t)
  | 0 => by
    have hD : ∀ k, k < l.length → D (run l 0) k = -1 := fun k hk => by simp [D, run, hk]
    refine ⟨by simp [run], fun k hk => Or.inl (hD k hk), fun i j hi hj h => ?_, fun k hk u h1 h2 h3 => ?_⟩
    · rw [hD i hi] at h; omega
    · have := hf.ok k hk; omega
  | t + 1 => by
    have ih := run_inv hf t
    show Inv l (t + 1) (step l (run l t) t)
    generalize run l t = d at *
    have hlt := pick_lt l d t l.length
    unfold step
    split
    · rename_i hp
      obtain ⟨b, hb⟩ := Int.eq_ofNat_of_zero_le hp
      obtain ⟨ha, hbl, hmin⟩ := pick_some l d t l.length b hb
      rw [hb, Int.toNat_natCast]
      have hbd : b < d.length := by rw [ih.len]; omega
      have hit := D_set_hit (d := d) (t : Int) hbd
      have miss := fun j hj => D_set_miss (d := d) (k := b) (j := j) (t : Int) hj
      unfold av at ha
      have hDb : D d b = -1 := by have := ih.ok b hbl; omega
      refine ⟨by simp [ih.len], fun k hk => ?_, fun i j hi hj h he => ?_, fun k hk u h1 h2 h3 h4 => ?_⟩
      · by_cases hkb : b = k
        · subst hkb; rw [hit]; omega
        · rw [miss k hkb]; have := ih.ok k hk; omega
      · by_cases hib : b = i
        · by_cases hjb : b = j
          · omega
          · subst hib
            rw [hit, miss j hjb] at he
            have := ih.ok j hj; omega
        · rw [miss i hib] at h he
          by_cases hjb : b = j
          · subst hjb
            rw [hit] at he
            have := ih.ok i hi; omega
          · rw [miss j hjb] at he
            exact ih.one i j hi hj h he
      · have hfk := hf.ok k hk
        have hok := ih.ok k hk
        have old : (u < t) → (D d k = -1 ∨ u < D d k) → ∃ m, m < l.length ∧ D (d.set b t) m = u ∧ T l m ≤ T l k := fun hu hd => by
          obtain ⟨m, hm, h5, h6⟩ := ih.busy k hk u h1 h2 hu hd
          refine ⟨m, hm, ?_, h6⟩
          rw [miss m (fun h => by subst h; omega)]
          exact h5
        by_cases hkb : b = k
        · subst hkb
          rw [hit] at h4
          exact old (by omega) (Or.inl hDb)
        · rw [miss k hkb] at h4
          by_cases hu : u < t
          · exact old hu h4
          · obtain rfl : u = t := by omega
            refine ⟨b, hbl, hit, hmin k hk ⟨?_, h1, h2⟩⟩
            omega
    · rename_i hp
      have hn := pick_none l d t l.length (by omega)
      refine ⟨ih.len, fun k hk => ?_, ih.one, fun k hk u h1 h2 h3 h4 => ?_⟩
      · have := ih.ok k hk; omega
      · by_cases hu : u < t
        · exact ih.busy k hk u h1 h2 hu h4
        · obtain rfl : u = t := by omega
          have hok := ih.ok k hk
          exact absurd ⟨by omega, h1, h2⟩ (hn k hk)

/-- How many k < n have p. -/
def cn (p : Nat → Bool) : Nat → Nat
  | 0 => 0
  | n + 1 => cn p n + (if p n then 1 else 0)
theorem cn_le (p : Nat → Bool) : ∀ n, cn p n ≤ n
  | 0 => Nat.le_refl 0
  | n + 1 => by have := cn_le p n; unfold cn; split <;> omega
theorem cn_mono {p q : Nat → Bool} : ∀ n, (∀ k, k < n → p k = true → q k = true) → cn p n ≤ cn q n
  | 0, _ => Nat.le_refl 0
  | n + 1, h => by
    have := cn_mono (p := p) (q := q) n fun k hk => h k (by omega)
    have h2 := h n (by omega)
    unfold cn
    by_cases hp : p n = true
    · rw [if_pos hp, if_pos (h2 hp)]; omega
    · rw [if_neg hp]; omega
theorem cn_or {p q r : Nat → Bool} : ∀ n, (∀ k, k < n → p k = true → q k = true ∨ r k = true) → cn p n ≤ cn q n + cn r n
  | 0, _ => Nat.le_refl 0
  | n + 1, h => by
    have := cn_or (p := p) (q := q) (r := r) n fun k hk => h k (by omega)
    have h2 := h n (by omega)
    unfold cn
    by_cases hp : p n = true
    · rw [if_pos hp]
      rcases h2 hp with h3 | h3 <;> simp only [h3, if_true] <;> split <;> omega
    · rw [if_neg hp]; omega
theorem cn_and {p q r : Nat → Bool} : ∀ n, (∀ k, k < n → q k = true → p k = true ∧ r k = false) → (∀ k, k < n → r k = true → p k = true) → cn q n + cn r n ≤ cn p n
  | 0, _, _ => Nat.le_refl 0
  | n + 1, h, h' => by
    have := cn_and (p := p) (q := q) (r := r) n (fun k hk => h k (by omega)) fun k hk => h' k (by omega)
    have h2 := h n (by omega)
    have h3 := h' n (by omega)
    unfold cn
    by_cases hq : q n = true
    · obtain ⟨a, b⟩ := h2 hq
      simp [hq, a, b]; omega
    · by_cases hr : r n = true
      · simp [hq, hr, h3 hr]; omega
      · simp [hq, hr]; split <;> omega
theorem cn_one {p : Nat → Bool} : ∀ n, (∀ i j, i < n → j < n → p i = true → p j = true → i = j) → cn p n ≤ 1
  | 0, _ => by simp [cn]
  | n + 1, h => by
    have ih := cn_one (p := p) n fun i j hi hj => h i j (by omega) (by omega)
    unfold cn
    by_cases hp : p n = true
    · have : cn p n ≤ cn (fun _ => false) n := cn_mono n fun k hk hpk => by have := h k n (by omega) (by omega) hpk hp; omega
      have h0 : ∀ n, cn (fun _ => false) n = 0 := fun n => by induction n with | zero => rfl | succ n ih => unfold cn; simp [ih]
      rw [h0] at this
      split <;> omega
    · rw [if_neg hp]; omega
theorem cn_pos {p : Nat → Bool} : ∀ {n k : Nat}, k < n → p k = true → 1 ≤ cn p n
  | 0, k, h, _ => by omega
  | n + 1, k, h, hp => by
    unfold cn
    by_cases hk : k = n
    · subst hk; simp [hp]
    · have := cn_pos (n := n) (k := k) (by omega) hp; omega

/-- How many jobs must lie within a time. -/
def inn (l : List S) (a b : Int) (k : Nat) : Bool := decide (a ≤ F l k ∧ T l k ≤ b)
def over (l : List S) (i j : Nat) : Bool := decide (max (T l j - F l i) 0 < (cn (inn l (F l i) (T l j)) l.length : Int))

/-- Any way to do all: no time is too short. -/
theorem all_not_over {l : List S} {d : List Int} (hok : ∀ k, k < l.length → F l k ≤ D d k ∧ D d k < T l k) (hone : ∀ i j, i < l.length → j < l.length → D d i = D d j → i = j) (i j : Nat) : over l i j = false := by
  have key : ∀ (x : Nat), cn (fun k => inn l (F l i) (T l j) k && decide (D d k < F l i + x)) l.length ≤ x := by
    intro x
    induction x with
    | zero =>
      have h0 : ∀ n, cn (fun _ => false) n = 0 := fun n => by induction n with | zero => rfl | succ n ih => unfold cn; simp [ih]
      have := cn_mono (p := fun k => inn l (F l i) (T l j) k && decide (D d k < F l i + (0 : Nat))) (q := fun _ => false) l.length (fun k hk h => by
        simp [inn] at h
        have := hok k hk; omega)
      rw [h0] at this; exact this
    | succ x ih =>
      have h1 := cn_or (p := fun k => inn l (F l i) (T l j) k && decide (D d k < F l i + (x + 1 : Nat))) (q := fun k => inn l (F l i) (T l j) k && decide (D d k < F l i + x)) (r := fun k => decide (D d k = F l i + x)) l.length (fun k hk h => by
        simp [inn] at h ⊢
        omega)
      have h2 := cn_one (p := fun k => decide (D d k = F l i + x)) l.length (fun a b ha hb h3 h4 => hone a b ha hb (by simp at h3 h4; omega))
      omega
  unfold over
  rw [decide_eq_false_iff_not]
  have h3 := key (T l j - F l i).toNat
  have h4 := cn_mono (p := inn l (F l i) (T l j)) (q := fun k => inn l (F l i) (T l j) k && decide (D d k < F l i + (T l j - F l i).toNat)) l.length (fun k hk h => by
    have := hok k hk
    have h' := h
    simp [inn] at h
    simp [h']
    omega)
  omega

theorem exists_min (f : Nat → Int) (p : Nat → Prop) : ∀ n, (∃ m, m < n ∧ p m) → ∃ a, a < n ∧ p a ∧ ∀ m, m < n → p m → f a ≤ f m
  | 0, ⟨m, h, _⟩ => by omega
  | n + 1, ⟨m, h, hp⟩ => by
    by_cases he : ∃ m, m < n ∧ p m
    · obtain ⟨a, h1, h2, h3⟩ := exists_min f p n he
      by_cases hn : p n ∧ f n < f a
      · refine ⟨n, by omega, hn.1, fun x hx hpx => ?_⟩
        by_cases hxn : x = n
        · subst hxn; omega
        · have := h3 x (by omega) hpx; omega
      · refine ⟨a, by omega, h2, fun x hx hpx => ?_⟩
        by_cases hxn : x = n
        · subst hxn
          by_cases hl : f x < f a
          · exact absurd ⟨hpx, hl⟩ hn
          · omega
        · exact h3 x (by omega) hpx
    · have hmn : m = n := by
        by_cases hmn : m = n
        · exact hmn
        · exact absurd ⟨m, by omega, hp⟩ he
      subst hmn
      refine ⟨m, by omega, hp, fun x hx hpx => ?_⟩
      by_cases hxn : x = m
      · subst hxn; omega
      · exact absurd ⟨x, by omega, hpx⟩ he

theorem down (good : Int → Prop) : ∀ (x : Nat) (B : Int), (∀ u : Int, x ≤ u → u < B → good u) → ∃ t0 : Nat, t0 ≤ x ∧ (∀ u : Int, t0 ≤ u → u < B → good u) ∧ (t0 = 0 ∨ ¬ good ((t0 : Int) - 1))
  | 0, B, h => ⟨0, by omega, h, Or.inl rfl⟩
  | x + 1, B, h => by
    by_cases hg : good x
    · obtain ⟨t0, h1, h2, h3⟩ := down good x B (fun u h1 h2 => by
        by_cases hu : u = x
        · subst hu; exact hg
        · exact h u (by omega) h2)
      exact ⟨t0, by omega, h2, h3⟩
    · exact ⟨x + 1, by omega, h, Or.inr (by rw [show ((x + 1 : Nat) : Int) - 1 = x by omega]; exact hg)⟩

/-- One is not done: some time is too short. -/
theorem some_over {l : List S} (hf : Fine l) {d : List Int} (h : Inv l 1000 d) {k : Nat} (hk : k < l.length) (hd : D d k = -1) : ∃ a, a < l.length ∧ over l a k = true := by
  have hfk := hf.ok k hk
  obtain ⟨B, hB⟩ := Int.eq_ofNat_of_zero_le (show 0 ≤ T l k by omega)
  obtain ⟨t0, h1, h2, h3⟩ := down (fun u => ∃ m, m < l.length ∧ D d m = u ∧ T l m ≤ B) B B (fun u h1 h2 => by omega)
  have hge : ∀ m, m < l.length → T l m ≤ B → (m = k ∨ (t0 ≤ D d m ∧ D d m < B)) → (t0 : Int) ≤ F l m := by
    intro m hm hT hor
    have hfm := hf.ok m hm
    by_cases hlt : F l m < t0
    · exfalso
      rcases h3 with h3 | h3
      · omega
      · have hd' : D d m = -1 ∨ (t0 : Int) - 1 < D d m := by
          rcases hor with rfl | hor
          · exact Or.inl hd
          · right; omega
        have hu : (t0 : Int) - 1 < T l m := by
          rcases hor with rfl | hor
          · omega
          · have := h.ok m hm; omega
        obtain ⟨m', e1, e2, e3⟩ := h.busy m hm (t0 - 1) (by omega) hu (by omega) hd'
        exact h3 ⟨m', e1, e2, by omega⟩
    · omega
  obtain ⟨a, ha, hpa, hmin⟩ := exists_min (F l) (fun m => T l m ≤ B ∧ (m = k ∨ (t0 ≤ D d m ∧ D d m < B))) l.length ⟨k, hk, by omega, Or.inl rfl⟩
  refine ⟨a, ha, ?_⟩
  have key : ∀ x : Nat, (t0 : Int) + x ≤ B → x ≤ cn (fun m => decide (T l m ≤ B ∧ (t0 : Int) ≤ D d m ∧ D d m < t0 + x)) l.length := by
    intro x
    induction x with
    | zero => intro _; omega
    | succ x ih =>
      intro hx
      have h4 := ih (by omega)
      obtain ⟨m, e1, e2, e3⟩ := h2 (t0 + x) (by omega) (by omega)
      have h5 := cn_pos (p := fun m => decide (T l m ≤ B ∧ D d m = t0 + x)) e1 (by simp; omega)
      have h6 := cn_and (p := fun m => decide (T l m ≤ B ∧ (t0 : Int) ≤ D d m ∧ D d m < t0 + (x + 1 : Nat))) (q := fun m => decide (T l m ≤ B ∧ (t0 : Int) ≤ D d m ∧ D d m < t0 + x)) (r := fun m => decide (T l m ≤ B ∧ D d m = t0 + x)) l.length (fun k hk h => by simp at h ⊢; omega) (fun k hk h => by simp at h ⊢; omega)
      omega
  have h4 := key (B - t0) (by omega)
  have h5 := cn_pos (p := fun m => decide (m = k)) hk (by simp)
  have h6 := cn_and (p := inn l (F l a) (T l k)) (q := fun m => decide (T l m ≤ B ∧ (t0 : Int) ≤ D d m ∧ D d m < t0 + (B - t0 : Nat))) (r := fun m => decide (m = k)) l.length (fun m hm h => by
    simp only [decide_eq_true_eq, decide_eq_false_iff_not] at h ⊢
    refine ⟨?_, fun he => by subst he; omega⟩
    have := hmin m hm ⟨h.1, Or.inr (by omega)⟩
    simp [inn]
    omega) (fun m hm h => by
    simp only [decide_eq_true_eq] at h
    subst h
    have := hmin m hm ⟨by omega, Or.inl rfl⟩
    simp [inn]
    omega)
  have h7 := hge a ha hpa.1 hpa.2
  unfold over
  rw [decide_eq_true_eq]
  omega
end Go.Proofs.Ytcoelfklgpaidaa
