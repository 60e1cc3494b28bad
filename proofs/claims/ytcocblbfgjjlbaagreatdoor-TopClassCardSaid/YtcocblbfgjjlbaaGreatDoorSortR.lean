/- Sorting in ranges, and merging in place: the plain laws. For any program. -/
set_option linter.unusedVariables false
set_option linter.unusedSectionVars false
namespace Go.Proofs.YtcocblbfgjjlbaaGreatDoor

section
variable {α : Type} [DecidableEq α] {d : α} {lt : α → α → Bool}
/-- Of two places what lies there, in each other's. -/
def swapG (d : α) (L : List α) (x y : Nat) : List α := (L.set x (L.getD y d)).set y (L.getD x d)
theorem swapG_len (L : List α) (x y : Nat) : (swapG d L x y).length = L.length := by simp [swapG]
theorem getD_setG (L : List α) (i k : Nat) (x : α) (hi : i < L.length) : (L.set i x).getD k d = if k = i then x else L.getD k d := by
  simp only [List.getD_eq_getElem?_getD]
  by_cases h : k = i
  · subst h; rw [if_pos rfl, List.getElem?_set_self hi]; rfl
  · rw [if_neg h, List.getElem?_set_ne (Ne.symm h)]
theorem swapG_get (L : List α) {x y : Nat} (hx : x < L.length) (hy : y < L.length) (k : Nat) : (swapG d L x y).getD k d = if k = y then L.getD x d else if k = x then L.getD y d else L.getD k d := by
  unfold swapG
  rw [getD_setG _ _ _ _ (by simpa using hy)]
  split
  · rfl
  · rw [getD_setG _ _ _ _ hx]
theorem swapG_perm (L : List α) {x y : Nat} (hx : x < L.length) (hy : y < L.length) : (swapG d L x y).Perm L := by
  rw [List.perm_iff_count]
  intro b
  unfold swapG
  have ex : L.getD x d = L[x] := by simp [List.getD_eq_getElem?_getD, hx]
  have ey : L.getD y d = L[y] := by simp [List.getD_eq_getElem?_getD, hy]
  rw [ex, ey, List.count_set (by simpa using hy), List.count_set hx]
  have e2 : (L.set x L[y])[y]'(by simpa using hy) = L[y] := by
    rw [List.getElem_set]
    split
    · rfl
    · rfl
  rw [e2]
  have h1 : 0 < (if L[x] == b then 1 else 0) → 0 < L.count b := by
    split
    · rename_i h
      intro _
      exact List.count_pos_iff.2 (by rw [← eq_of_beq h]; exact List.getElem_mem hx)
    · intro h; omega
  have h2 : (if L[x] == b then 1 else 0) ≤ 1 := by split <;> omega
  generalize (if L[x] == b then 1 else 0) = p at *
  generalize (if L[y] == b then 1 else 0) = q at *
  omega

/-- In a range nothing is lost; beside it nothing turns. -/
structure Rng (d : α) (L L' : List α) (a b : Nat) : Prop where
  perm : L'.Perm L
  out : ∀ j, j < a ∨ b ≤ j → L'.getD j d = L.getD j d
  src : ∀ j, a ≤ j → j < b → ∃ i, a ≤ i ∧ i < b ∧ L'.getD j d = L.getD i d
variable {L L' L'' : List α} {a b m : Nat}
theorem Rng.len (h : Rng d L L' a b) : L'.length = L.length := h.perm.length_eq
theorem Rng.refl (L : List α) (a b : Nat) : Rng d L L a b := ⟨.refl _, fun _ _ => rfl, fun j h1 h2 => ⟨j, h1, h2, rfl⟩⟩
theorem Rng.trans (h : Rng d L L' a b) (h' : Rng d L' L'' a b) : Rng d L L'' a b :=
  ⟨h'.perm.trans h.perm, fun j hj => (h'.out j hj).trans (h.out j hj), fun j h1 h2 => by
    obtain ⟨i, i1, i2, i3⟩ := h'.src j h1 h2
    obtain ⟨k, k1, k2, k3⟩ := h.src i i1 i2
    exact ⟨k, k1, k2, i3.trans k3⟩⟩
theorem Rng.wide {a' b' : Nat} (h : Rng d L L' a b) (ha : a' ≤ a) (hb : b ≤ b') : Rng d L L' a' b' :=
  ⟨h.perm, fun j hj => h.out j (by omega), fun j h1 h2 => by
    by_cases e : a ≤ j ∧ j < b
    · obtain ⟨i, i1, i2, i3⟩ := h.src j e.1 e.2
      exact ⟨i, by omega, by omega, i3⟩
    · exact ⟨j, h1, h2, h.out j (by omega)⟩⟩
theorem Rng.swap {x y : Nat} (hx : x < L.length) (hy : y < L.length) (h1 : a ≤ x ∧ x < b) (h2 : a ≤ y ∧ y < b) : Rng d L (swapG d L x y) a b :=
  ⟨swapG_perm L hx hy, fun j hj => by rw [swapG_get L hx hy, if_neg (by omega), if_neg (by omega)], fun j j1 j2 => by
    rw [swapG_get L hx hy]
    split
    · exact ⟨x, h1.1, h1.2, rfl⟩
    · split
      · exact ⟨y, h2.1, h2.2, rfl⟩
      · exact ⟨j, j1, j2, rfl⟩⟩

/-! ## Blocks changed for one another -/

def swR (d : α) (L : List α) (a b : Nat) : Nat → List α
  | 0 => L
  | n + 1 => swapG d (swR d L a b n) (a + n) (b + n)
def swI (a b n k : Nat) : Nat := if a ≤ k ∧ k < a + n then k - a + b else if b ≤ k ∧ k < b + n then k - b + a else k
theorem swR_len (L : List α) (a b : Nat) : ∀ n, (swR d L a b n).length = L.length
  | 0 => rfl
  | n + 1 => by rw [swR, swapG_len, swR_len L a b n]
theorem swR_get (L : List α) (a b : Nat) : ∀ n, a + n ≤ b → b + n ≤ L.length → ∀ k, (swR d L a b n).getD k d = L.getD (swI a b n k) d
  | 0, _, _, k => by unfold swI; rw [if_neg (by omega), if_neg (by omega)]; rfl
  | n + 1, h1, h2, k => by
    have ih := swR_get L a b n (by omega) (by omega)
    rw [swR, swapG_get _ (by rw [swR_len]; omega) (by rw [swR_len]; omega), ih, ih, ih]
    split
    · congr 1; unfold swI; rw [if_neg (by omega), if_neg (by omega), if_neg (by omega), if_pos (by omega)]; omega
    · split
      · congr 1; unfold swI; rw [if_neg (by omega), if_neg (by omega), if_pos (by omega)]; omega
      · congr 1
        unfold swI
        by_cases e1 : a ≤ k ∧ k < a + n
        · rw [if_pos e1, if_pos (by omega)]
        · rw [if_neg e1, if_neg (show ¬ (a ≤ k ∧ k < a + (n + 1)) by omega)]
          by_cases e2 : b ≤ k ∧ k < b + n
          · rw [if_pos e2, if_pos (by omega)]
          · rw [if_neg e2, if_neg (by omega)]
theorem swR_rng {u v : Nat} (L : List α) (a b : Nat) (hu : u ≤ a) : ∀ n, a + n ≤ b → b + n ≤ v → v ≤ L.length → Rng d L (swR d L a b n) u v
  | 0, _, _, _ => Rng.refl _ _ _
  | n + 1, h1, h2, h3 => (swR_rng L a b hu n (by omega) (by omega) h3).trans (Rng.swap (by rw [swR_len]; omega) (by rw [swR_len]; omega) (by omega) (by omega))

/-! ## Two blocks side by side, turned round -/

def rotI (a m b k : Nat) : Nat := if a ≤ k ∧ k < a + (b - m) then k + (m - a) else if a + (b - m) ≤ k ∧ k < b then k - (b - m) else k
theorem rot_gt {i j m k : Nat} (hi : i ≤ m) (h : j < i) : swI (m - i) m j (rotI (m - (i - j)) m (m + j) k) = rotI (m - i) m (m + j) k := by
  unfold rotI
  simp only [show m + j - m = j by omega, show m - (m - i) = i by omega, show m - (m - (i - j)) = i - j by omega]
  unfold swI
  by_cases c1 : m - (i - j) ≤ k ∧ k < m - (i - j) + j
  · rw [if_pos c1]
    repeat' split
    all_goals omega
  · rw [if_neg c1]
    by_cases c2 : m - (i - j) + j ≤ k ∧ k < m + j
    · rw [if_pos c2]
      repeat' split
      all_goals omega
    · rw [if_neg c2]
      repeat' split
      all_goals omega
theorem rot_lt {i j m k : Nat} (hi : i ≤ m) (h : i < j) : swI (m - i) (m + j - i) i (rotI (m - i) m (m + (j - i)) k) = rotI (m - i) m (m + j) k := by
  unfold rotI
  simp only [show m + j - m = j by omega, show m + (j - i) - m = j - i by omega, show m - (m - i) = i by omega]
  unfold swI
  by_cases c1 : m - i ≤ k ∧ k < m - i + (j - i)
  · rw [if_pos c1]
    repeat' split
    all_goals omega
  · rw [if_neg c1]
    by_cases c2 : m - i + (j - i) ≤ k ∧ k < m + (j - i)
    · rw [if_pos c2]
      repeat' split
      all_goals omega
    · rw [if_neg c2]
      repeat' split
      all_goals omega
theorem rot_eq {i m k : Nat} (hi : i ≤ m) : swI (m - i) m i k = rotI (m - i) m (m + i) k := by
  unfold rotI swI
  simp only [show m + i - m = i by omega, show m - (m - i) = i by omega]
  repeat' split
  all_goals omega

/-! ## Sorted ranges -/

structure SwoG (lt : α → α → Bool) : Prop where
  asym : ∀ x y, lt x y = true → lt y x = false
  trans : ∀ x y z, lt y x = false → lt z y = false → lt z x = false
theorem SwoG.irrefl (h : SwoG lt) (x : α) : lt x x = false := by
  cases e : lt x x with
  | false => rfl
  | true => have := h.asym x x e; rw [e] at this; exact this
def srt (d : α) (lt : α → α → Bool) (L : List α) (a b : Nat) : Prop := ∀ p q, a ≤ p → p < q → q < b → lt (L.getD q d) (L.getD p d) = false
theorem srt.sub {a' b' : Nat} (h : srt d lt L a b) (ha : a ≤ a') (hb : b' ≤ b) : srt d lt L a' b' := fun p q h1 h2 h3 => h p q (by omega) h2 (by omega)
theorem srt.out (h : srt d lt L a b) (ha : ∀ j, a ≤ j → j < b → L'.getD j d = L.getD j d) : srt d lt L' a b := fun p q h1 h2 h3 => by
  rw [ha p h1 (by omega), ha q (by omega) h3]; exact h p q h1 h2 h3
theorem srt.short (h : b ≤ a + 1) : srt d lt L a b := fun p q h1 h2 h3 => by omega
/-- Two sorted ranges, of which none of the second is less than one of the first. -/
theorem srt.join (h1 : srt d lt L a m) (h2 : srt d lt L m b) (h : ∀ x y, a ≤ x → x < m → m ≤ y → y < b → lt (L.getD y d) (L.getD x d) = false) : srt d lt L a b := fun p q e1 e2 e3 => by
  by_cases c1 : q < m
  · exact h1 p q e1 e2 c1
  · by_cases c2 : m ≤ p
    · exact h2 p q c2 e2 e3
    · exact h p q e1 (by omega) (by omega) e3
theorem srt.le (ho : SwoG lt) (h : srt d lt L a b) {p q : Nat} (h1 : a ≤ p) (h2 : p ≤ q) (h3 : q < b) : lt (L.getD q d) (L.getD p d) = false := by
  by_cases e : p = q
  · subst e; exact ho.irrefl _
  · exact h p q h1 (by omega) h3
/-- What the halves hold when the blocks are turned round. -/
structure Halves (d : α) (lt : α → α → Bool) (L : List α) (a s mid e b : Nat) : Prop where
  l1 : srt d lt L a s
  l2 : srt d lt L s mid
  r1 : srt d lt L mid e
  r2 : srt d lt L e b
  cross : ∀ x y, a ≤ x → x < mid → mid ≤ y → y < b → lt (L.getD y d) (L.getD x d) = false
theorem halves (ho : SwoG lt) {s mid : Nat} (h1 : srt d lt L a m) (h2 : srt d lt L m b) (hs : a ≤ s ∧ s ≤ m ∧ s ≤ mid) (he : m ≤ mid + m - s ∧ mid + m - s ≤ b ∧ mid ≤ mid + m - s)
    (hlo : a < s → mid + m - s < b → lt (L.getD (mid + m - s) d) (L.getD (s - 1) d) = false) (hhi : s < m → m < mid + m - s → lt (L.getD s d) (L.getD (mid + m - s - 1) d) = false)
    (hL : ∀ k, L'.getD k d = L.getD (rotI s m (mid + m - s) k) d) : Halves d lt L' a s mid (mid + m - s) b := by
  have g1 : ∀ k, k < s → L'.getD k d = L.getD k d := fun k hk => by rw [hL]; unfold rotI; rw [if_neg (by omega), if_neg (by omega)]
  have g2 : ∀ k, s ≤ k → k < mid → L'.getD k d = L.getD (k + (m - s)) d := fun k hk1 hk2 => by rw [hL]; unfold rotI; rw [if_pos (by omega)]
  have g3 : ∀ k, mid ≤ k → k < mid + m - s → L'.getD k d = L.getD (k - (mid - s)) d := fun k hk1 hk2 => by
    rw [hL]; unfold rotI; rw [if_neg (by omega), if_pos (by omega)]; congr 1; omega
  have g4 : ∀ k, mid + m - s ≤ k → L'.getD k d = L.getD k d := fun k hk => by rw [hL]; unfold rotI; rw [if_neg (by omega), if_neg (by omega)]
  refine ⟨fun p q e1 e2 e3 => ?_, fun p q e1 e2 e3 => ?_, fun p q e1 e2 e3 => ?_, fun p q e1 e2 e3 => ?_, fun x y x1 x2 y1 y2 => ?_⟩
  · rw [g1 p (by omega), g1 q e3]; exact h1 p q e1 e2 (by omega)
  · rw [g2 p e1 (by omega), g2 q (by omega) e3]; exact h2 _ _ (by omega) (by omega) (by omega)
  · rw [g3 p e1 (by omega), g3 q (by omega) e3]; exact h1 _ _ (by omega) (by omega) (by omega)
  · rw [g4 p e1, g4 q (by omega)]; exact h2 p q (by omega) e2 e3
  · by_cases cx : x < s
    · rw [g1 x cx]
      by_cases cy : y < mid + m - s
      · rw [g3 y y1 cy]; exact h1 _ _ x1 (by omega) (by omega)
      · rw [g4 y (by omega)]
        have k1 := hlo (by omega) (by omega)
        have k2 := h1.le ho x1 (show x ≤ s - 1 by omega) (by omega)
        have k3 := h2.le ho (show m ≤ mid + m - s by omega) (show mid + m - s ≤ y by omega) y2
        exact ho.trans _ _ _ (ho.trans _ _ _ k2 k1) k3
    · rw [g2 x (by omega) x2]
      by_cases cy : y < mid + m - s
      · rw [g3 y y1 cy]
        have k1 := hhi (by omega) (by omega)
        have k2 := h2.le ho (show m ≤ x + (m - s) by omega) (show x + (m - s) ≤ mid + m - s - 1 by omega) (by omega)
        have k3 := h1.le ho (show a ≤ s by omega) (show s ≤ y - (mid - s) by omega) (by omega)
        exact ho.trans _ _ _ (ho.trans _ _ _ k2 k1) k3
      · rw [g4 y (by omega)]
        exact h2 _ _ (by omega) (by omega) y2
/-- The halves sorted, all is. -/
theorem Halves.all {s mid e : Nat} (h : Halves d lt L a s mid e b) (hm : a ≤ mid ∧ mid ≤ b) (hl : Rng d L L' a mid) (hl2 : srt d lt L' a mid) (hr : Rng d L' L'' mid b) (hr2 : srt d lt L'' mid b) : Rng d L L'' a b ∧ srt d lt L'' a b := by
  refine ⟨(hl.wide (Nat.le_refl _) hm.2).trans (hr.wide hm.1 (Nat.le_refl _)), srt.join (m := mid) (hl2.out fun j _ hj => hr.out j (.inl hj)) hr2 fun x y x1 x2 y1 y2 => ?_⟩
  obtain ⟨i, i1, i2, i3⟩ := hr.src y y1 y2
  obtain ⟨k, k1, k2, k3⟩ := hl.src x x1 x2
  rw [i3, hl.out i (.inr i1), hr.out x (.inl x2), k3]
  exact h.cross k i k1 k2 i1 i2

/-! ## Insertion in a range -/

structure InsR (d : α) (lt : α → α → Bool) (L : List α) (a i j : Nat) : Prop where
  le : a ≤ j ∧ j ≤ i
  but : ∀ p q, a ≤ p → p < q → q ≤ i → p ≠ j → q ≠ j → lt (L.getD q d) (L.getD p d) = false
  ov : ∀ q, j < q → q ≤ i → lt (L.getD q d) (L.getD j d) = false
theorem InsR.start {i : Nat} (h : srt d lt L a i) (hi : a ≤ i) : InsR d lt L a i i :=
  ⟨⟨hi, Nat.le_refl _⟩, fun p q h0 h1 h2 h3 h4 => h p q h0 h1 (by omega), fun q h1 h2 => by omega⟩
theorem InsR.zero {i : Nat} (h : InsR d lt L a i a) : srt d lt L a (i + 1) := fun p q h0 h1 h2 => by
  by_cases e : p = a
  · subst e; exact h.ov q h1 (by omega)
  · exact h.but p q h0 h1 (by omega) e (by omega)
theorem InsR.stop (ho : SwoG lt) {i j : Nat} (h : InsR d lt L a i (j + 1)) (hj : a ≤ j) (hn : lt (L.getD (j + 1) d) (L.getD j d) = false) : srt d lt L a (i + 1) := fun p q h0 h1 h2 => by
  have hl := h.le
  by_cases e1 : p = j + 1
  · subst e1; exact h.ov q h1 (by omega)
  · by_cases e2 : q = j + 1
    · subst e2
      by_cases e3 : p = j
      · subst e3; exact hn
      · exact ho.trans _ _ _ (h.but p j h0 (by omega) (by omega) e1 (by omega)) hn
    · exact h.but p q h0 h1 (by omega) e1 e2
theorem InsR.next (ho : SwoG lt) {i j : Nat} (h : InsR d lt L a i (j + 1)) (hj : a ≤ j) (hi : i < L.length) (hn : lt (L.getD (j + 1) d) (L.getD j d) = true) : InsR d lt (swapG d L (j + 1) j) a i j := by
  have hl := h.le
  have g := swapG_get (d := d) L (x := j + 1) (y := j) (by omega) (by omega)
  refine ⟨⟨hj, by omega⟩, fun p q h0 h1 h2 h3 h4 => ?_, fun q h1 h2 => ?_⟩
  · rw [g, g, if_neg h4, if_neg h3]
    by_cases e1 : q = j + 1
    · rw [if_pos e1, if_neg (by omega)]; exact h.but p j h0 (by omega) (by omega) (by omega) (by omega)
    · rw [if_neg e1]
      by_cases e2 : p = j + 1
      · rw [if_pos e2]; exact h.but j q hj (by omega) h2 (by omega) e1
      · rw [if_neg e2]; exact h.but p q h0 h1 h2 e2 e1
  · rw [g, g, if_neg (by omega), if_pos rfl]
    by_cases e1 : q = j + 1
    · rw [if_pos e1]; exact ho.asym _ _ hn
    · rw [if_neg e1]; exact h.ov q (by omega) h2

/-! ## One brought to its place -/

def shU (d : α) (L : List α) (a : Nat) : Nat → List α
  | 0 => L
  | t + 1 => swapG d (shU d L a t) (a + t) (a + t + 1)
theorem shU_len (L : List α) (a : Nat) : ∀ t, (shU d L a t).length = L.length
  | 0 => rfl
  | t + 1 => by rw [shU, swapG_len, shU_len L a t]
theorem shU_get (L : List α) (a : Nat) : ∀ t, a + t < L.length → ∀ k, (shU d L a t).getD k d = if a ≤ k ∧ k < a + t then L.getD (k + 1) d else if k = a + t then L.getD a d else L.getD k d
  | 0, h, k => by
    rw [if_neg (by omega)]
    split
    · rename_i e; rw [e]; rfl
    · rfl
  | t + 1, h, k => by
    have ih := shU_get L a t (by omega)
    rw [shU, swapG_get _ (by rw [shU_len]; omega) (by rw [shU_len]; omega), ih, ih, ih]
    by_cases e1 : k = a + t + 1
    · rw [if_pos e1, if_neg (by omega), if_pos rfl, if_neg (by omega), if_pos (by omega)]
    · rw [if_neg e1]
      by_cases e2 : k = a + t
      · rw [if_pos e2, if_neg (by omega), if_neg (by omega), if_pos (by omega), e2]
      · rw [if_neg e2]
        by_cases e3 : a ≤ k ∧ k < a + t
        · rw [if_pos e3, if_pos (by omega)]
        · rw [if_neg e3, if_neg e2, if_neg (by omega), if_neg (by omega)]
theorem shU_rng (L : List α) (a b : Nat) (hb : b ≤ L.length) : ∀ t, a + t < b → Rng d L (shU d L a t) a b
  | 0, _ => Rng.refl _ _ _
  | t + 1, h => (shU_rng L a b hb t (by omega)).trans (Rng.swap (by rw [shU_len]; omega) (by rw [shU_len]; omega) (by omega) (by omega))
theorem shU_srt (ho : SwoG lt) {i : Nat} (hs : srt d lt L (a + 1) b) (hi : a + 1 ≤ i ∧ i ≤ b) (hb : b ≤ L.length) (hlo : ∀ k, a + 1 ≤ k → k < i → lt (L.getD k d) (L.getD a d) = true) (hhi : ∀ k, i ≤ k → k < b → lt (L.getD k d) (L.getD a d) = false) : srt d lt (shU d L a (i - 1 - a)) a b := fun p q h1 h2 h3 => by
  have g := shU_get (d := d) L a (i - 1 - a) (by omega)
  rw [g, g]
  by_cases p1 : p < i - 1
  · rw [if_pos (show a ≤ p ∧ p < a + (i - 1 - a) by omega)]
    by_cases q1 : q < i - 1
    · rw [if_pos (show a ≤ q ∧ q < a + (i - 1 - a) by omega)]; exact hs _ _ (by omega) (by omega) (by omega)
    · rw [if_neg (show ¬ (a ≤ q ∧ q < a + (i - 1 - a)) by omega)]
      by_cases q2 : q = a + (i - 1 - a)
      · rw [if_pos q2]; exact ho.asym _ _ (hlo _ (by omega) (by omega))
      · rw [if_neg q2]; exact hs _ _ (by omega) (by omega) (by omega)
  · rw [if_neg (show ¬ (a ≤ p ∧ p < a + (i - 1 - a)) by omega), if_neg (show ¬ (a ≤ q ∧ q < a + (i - 1 - a)) by omega), if_neg (show ¬ q = a + (i - 1 - a) by omega)]
    by_cases p2 : p = a + (i - 1 - a)
    · rw [if_pos p2]; exact hhi q (by omega) h3
    · rw [if_neg p2]; exact hs p q (by omega) h2 h3
def shD (d : α) (L : List α) (m : Nat) : Nat → List α
  | 0 => L
  | t + 1 => swapG d (shD d L m t) (m - t) (m - t - 1)
theorem shD_len (L : List α) (m : Nat) : ∀ t, (shD d L m t).length = L.length
  | 0 => rfl
  | t + 1 => by rw [shD, swapG_len, shD_len L m t]
theorem shD_get (L : List α) (m : Nat) (hm : m < L.length) : ∀ t, t ≤ m → ∀ k, (shD d L m t).getD k d = if m - t < k ∧ k ≤ m then L.getD (k - 1) d else if k = m - t then L.getD m d else L.getD k d
  | 0, h, k => by
    rw [if_neg (by omega)]
    split
    · rename_i e; rw [e]; rfl
    · rfl
  | t + 1, h, k => by
    have ih := shD_get L m hm t (by omega)
    rw [shD, swapG_get _ (by rw [shD_len]; omega) (by rw [shD_len]; omega), ih, ih, ih]
    by_cases e1 : k = m - t - 1
    · rw [if_pos e1, if_neg (by omega), if_pos rfl, if_neg (by omega), if_pos (by omega)]
    · rw [if_neg e1]
      by_cases e2 : k = m - t
      · rw [if_pos e2, if_neg (by omega), if_neg (by omega), if_pos (by omega), e2]
      · rw [if_neg e2]
        by_cases e3 : m - t < k ∧ k ≤ m
        · rw [if_pos e3, if_pos (by omega)]
        · rw [if_neg e3, if_neg e2, if_neg (by omega), if_neg (by omega)]
theorem shD_rng (L : List α) (a m b : Nat) (hmb : m < b) (hb : b ≤ L.length) : ∀ t, a + t ≤ m → Rng d L (shD d L m t) a b
  | 0, _ => Rng.refl _ _ _
  | t + 1, h => (shD_rng L a m b hmb hb t (by omega)).trans (Rng.swap (by rw [shD_len]; omega) (by rw [shD_len]; omega) (by omega) (by omega))
theorem shD_srt (ho : SwoG lt) {i : Nat} (hs : srt d lt L a m) (hi : a ≤ i ∧ i ≤ m) (hm : m < L.length) (hlo : ∀ k, a ≤ k → k < i → lt (L.getD m d) (L.getD k d) = false) (hhi : ∀ k, i ≤ k → k < m → lt (L.getD m d) (L.getD k d) = true) : srt d lt (shD d L m (m - i)) a (m + 1) := fun p q h1 h2 h3 => by
  have g := shD_get (d := d) L m hm (m - i) (by omega)
  rw [g, g]
  by_cases p1 : p < i
  · rw [if_neg (show ¬ (m - (m - i) < p ∧ p ≤ m) by omega), if_neg (show ¬ p = m - (m - i) by omega)]
    by_cases q1 : q < i
    · rw [if_neg (show ¬ (m - (m - i) < q ∧ q ≤ m) by omega), if_neg (show ¬ q = m - (m - i) by omega)]; exact hs _ _ h1 h2 (by omega)
    · by_cases q2 : q = i
      · rw [if_neg (show ¬ (m - (m - i) < q ∧ q ≤ m) by omega), if_pos (show q = m - (m - i) by omega)]; exact hlo p h1 p1
      · rw [if_pos (show m - (m - i) < q ∧ q ≤ m by omega)]; exact hs _ _ h1 (by omega) (by omega)
  · rw [if_pos (show m - (m - i) < q ∧ q ≤ m by omega)]
    by_cases p2 : p = i
    · rw [if_neg (show ¬ (m - (m - i) < p ∧ p ≤ m) by omega), if_pos (show p = m - (m - i) by omega)]; exact ho.asym _ _ (hhi _ (by omega) (by omega))
    · rw [if_pos (show m - (m - i) < p ∧ p ≤ m by omega)]; exact hs _ _ (by omega) (by omega) (by omega)
end
end Go.Proofs.YtcocblbfgjjlbaaGreatDoor
