import Derived.Test.YtcocblbfgjjlbaaGreatDoorBitP
set_option linter.unusedVariables false
namespace Go.Proofs.YtcocblbfgjjlbaaGreatDoor.Tr
/- the plain laws of prefixes -/

structure Px where
  ad : A
  bits : Int
  to : Int
  deriving DecidableEq
def p0 : Px := ⟨⟨0, 0, 0, 0⟩, 0, 0⟩
/-- What is wrong with one prefix, behind those ahead of it. -/
def longP (p : Px) : Prop := p.bits < 0 ∨ 32 < p.bits
instance (p : Px) : Decidable (longP p) := by unfold longP; infer_instance
def rawP (p : Px) : Prop := ∃ i, i < 32 ∧ p.bits.toNat ≤ i ∧ bit p.ad i = 1
def heldP (pre : List Px) (p : Px) : Prop := ∃ q ∈ pre, q.bits = p.bits ∧ q.ad = p.ad
/-- All is right with prefixes. -/
structure Fine (l : List Px) : Prop where
  len : l.length ≤ 400
  long : ∀ p ∈ l, ¬ longP p
  raw : ∀ p ∈ l, ¬ rawP p
  held : l.Pairwise (fun p q => ¬ (p.bits = q.bits ∧ p.ad = q.ad))

theorem bit_two (a : A) (i : Nat) : bit a i = 0 ∨ bit a i = 1 := by have := bit_range a i; omega
/-- An address is within itself. -/
theorem within.self (a : A) {n : Int} (h : 0 ≤ n ∧ n ≤ 32) : within a a n := ⟨h.1, h.2, fun _ _ => rfl⟩
/-- Of two prefixes one is within the other one, or they have no address in common. -/
theorem nest1 {a p q : A} {m n : Int} (hmn : m ≤ n) (h1 : within a p m) (h2 : within a q n) : within q p m :=
  ⟨h1.1, h1.2.1, fun k hk => (h2.2.2 k (by omega)).symm.trans (h1.2.2 k hk)⟩
theorem nest2 {a p q : A} {m n : Int} (hmn : m ≤ n) (h1 : ¬ within a p m) (h2 : within a q n) : ¬ within q p m := fun h => h1 (h2.trans h hmn)

/- paths, and what is found -/

def pathOf (a : A) : Nat → List Int
  | 0 => []
  | k + 1 => pathOf a k ++ [bit a k]
theorem pathOf_length (a : A) : ∀ k, (pathOf a k).length = k
  | 0 => rfl
  | k + 1 => by simp [pathOf, pathOf_length a k]
theorem pathOf_eq {a b : A} : ∀ {k : Nat}, pathOf a k = pathOf b k ↔ ∀ j, j < k → bit a j = bit b j
  | 0 => by simp [pathOf]
  | k + 1 => by
    simp only [pathOf]
    constructor
    · intro h j hj
      obtain ⟨h1, h2⟩ := List.append_inj h (by rw [pathOf_length, pathOf_length])
      by_cases e : j = k
      · subst e; simpa using h2
      · exact pathOf_eq.1 h1 j (by omega)
    · intro h
      rw [pathOf_eq.2 fun j hj => h j (by omega), h k (by omega)]
def Px.path (x : Px) : List Int := pathOf x.ad x.bits.toNat
/-- What stands for a path. -/
def look (l : List Px) (p : List Int) : Option Int := l.foldl (fun acc x => if x.path = p then some x.to else acc) none
theorem look_snoc (l : List Px) (x : Px) (p : List Int) : look (l ++ [x]) p = if x.path = p then some x.to else look l p := by simp [look]
def found (l : List Px) (a : A) : Nat → Option Int
  | 0 => look l []
  | k + 1 => (look l (pathOf a (k + 1))).or (found l a k)

theorem list_snoc_ind {α : Type} {P : List α → Prop} (h0 : P []) (hs : ∀ l a, P l → P (l ++ [a])) (l : List α) : P l := by
  rw [← List.reverse_reverse l]
  induction l.reverse with
  | nil => exact h0
  | cons a r ih => rw [List.reverse_cons]; exact hs _ _ ih
theorem look_none {p : List Int} : ∀ {l : List Px}, (∀ x ∈ l, x.path ≠ p) → look l p = none := by
  apply list_snoc_ind
  · intro _; rfl
  · intro l a ih h
    rw [look_snoc, if_neg (h a (by simp))]
    exact ih fun x hx => h x (by simp [hx])
theorem look_some {p : List Int} {v : Int} : ∀ {l : List Px}, look l p = some v → ∃ x ∈ l, x.path = p ∧ x.to = v := by
  apply list_snoc_ind
  · intro h; cases h
  · intro l a ih h
    rw [look_snoc] at h
    by_cases hp : a.path = p
    · rw [if_pos hp] at h; cases h; exact ⟨a, by simp, hp, rfl⟩
    · rw [if_neg hp] at h
      obtain ⟨x, h1, h2⟩ := ih h
      exact ⟨x, by simp [h1], h2⟩
theorem look_of {p : List Int} : ∀ {l : List Px} {x : Px}, (∀ y ∈ l, y.path = p → y.to = x.to) → x ∈ l → x.path = p → look l p = some x.to := by
  apply list_snoc_ind
  · intro x _ h; simp at h
  · intro l a ih x hu hx hp
    rw [look_snoc]
    by_cases ha : a.path = p
    · rw [if_pos ha, hu a (by simp) ha]
    · rw [if_neg ha]
      rcases List.mem_append.1 hx with hx | hx
      · exact ih (fun y hy => hu y (by simp [hy])) hx hp
      · rw [List.mem_singleton.1 hx] at hp; exact (ha hp).elim

/-- A prefix's path is that of an address as far as it is within. -/
theorem path_within {l : List Px} (hf : Fine l) {x : Px} (hx : x ∈ l) {a : A} {k : Nat} (hk : k ≤ 32) : x.path = pathOf a k ↔ (x.bits = k ∧ within a x.ad x.bits) := by
  have hl := hf.long x hx
  unfold longP at hl
  unfold Px.path
  constructor
  · intro h
    have h1 := congrArg List.length h
    rw [pathOf_length, pathOf_length] at h1
    have hb : x.bits = k := by omega
    rw [h1] at h
    refine ⟨hb, by omega, by omega, fun j hj => ?_⟩
    exact (pathOf_eq.1 h j (by omega)).symm
  · rintro ⟨h1, h2⟩
    rw [h1, Int.toNat_natCast]
    exact pathOf_eq.2 fun j hj => (h2.2.2 j (by omega)).symm

/-- An address's bits beyond its prefix are all 0: two right prefixes with one path are one. -/
theorem ad_ext {a b : A} (ha : a.ok) (hb : b.ok) (h : ∀ j, j < 32 → bit a j = bit b j) : a = b := by
  have byte : ∀ (x y : Int), 0 ≤ x → x ≤ 255 → 0 ≤ y → y ≤ 255 → (∀ j : Nat, j < 8 → x / 2 ^ (7 - j) % 2 = y / 2 ^ (7 - j) % 2) → x = y := by
    intro x y hx hx' hy hy' h
    have h0 := h 0 (by omega)
    have h1 := h 1 (by omega)
    have h2 := h 2 (by omega)
    have h3 := h 3 (by omega)
    have h4 := h 4 (by omega)
    have h5 := h 5 (by omega)
    have h6 := h 6 (by omega)
    have h7 := h 7 (by omega)
    simp only [Nat.sub_zero, Nat.reduceSub, Int.reducePow, Int.pow_zero, Int.ediv_one] at h0 h1 h2 h3 h4 h5 h6 h7
    omega
  obtain ⟨⟨a0, a1⟩, ⟨a2, a3⟩, ⟨a4, a5⟩, a6, a7⟩ := ha
  obtain ⟨⟨c0, c1⟩, ⟨c2, c3⟩, ⟨c4, c5⟩, c6, c7⟩ := hb
  have k0 := byte a.b0 b.b0 a0 a1 c0 c1 fun j hj => by
    have := h j (by omega)
    unfold bit at this
    rwa [show j / 8 = 0 by omega, show j % 8 = j by omega] at this
  have k1 := byte a.b1 b.b1 a2 a3 c2 c3 fun j hj => by
    have := h (8 + j) (by omega)
    unfold bit at this
    rwa [show (8 + j) / 8 = 1 by omega, show (8 + j) % 8 = j by omega] at this
  have k2 := byte a.b2 b.b2 a4 a5 c4 c5 fun j hj => by
    have := h (16 + j) (by omega)
    unfold bit at this
    rwa [show (16 + j) / 8 = 2 by omega, show (16 + j) % 8 = j by omega] at this
  have k3 := byte a.b3 b.b3 a6 a7 c6 c7 fun j hj => by
    have := h (24 + j) (by omega)
    unfold bit at this
    rwa [show (24 + j) / 8 = 3 by omega, show (24 + j) % 8 = j by omega] at this
  cases a; cases b; simp_all
theorem path_inj {l : List Px} (hf : Fine l) (hok : ∀ x ∈ l, x.ad.ok) {x y : Px} (hx : x ∈ l) (hy : y ∈ l) (h : x.path = y.path) : x.bits = y.bits ∧ x.ad = y.ad := by
  have h1 := hf.long x hx
  have h2 := hf.long y hy
  unfold longP at h1 h2
  unfold Px.path at h
  have hl := congrArg List.length h
  rw [pathOf_length, pathOf_length] at hl
  have hb : x.bits = y.bits := by omega
  refine ⟨hb, ad_ext (hok x hx) (hok y hy) fun j hj => ?_⟩
  by_cases hjb : j < x.bits.toNat
  · rw [hl] at h
    exact pathOf_eq.1 h j (by omega)
  · have r1 := hf.raw x hx
    have r2 := hf.raw y hy
    have z1 : bit x.ad j = 0 := by rcases bit_two x.ad j with e | e; exact e; exact (r1 ⟨j, hj, by omega, e⟩).elim
    have z2 : bit y.ad j = 0 := by rcases bit_two y.ad j with e | e; exact e; exact (r2 ⟨j, hj, by omega, e⟩).elim
    rw [z1, z2]
/-- No two prefixes have one path, but one and the same. -/
theorem path_one {l : List Px} (hf : Fine l) (hok : ∀ x ∈ l, x.ad.ok) {x y : Px} (hx : x ∈ l) (hy : y ∈ l) (h : x.path = y.path) : x = y := by
  obtain ⟨h1, h2⟩ := path_inj hf hok hx hy h
  obtain ⟨i, hi, rfl⟩ := List.getElem_of_mem hx
  obtain ⟨j, hj, rfl⟩ := List.getElem_of_mem hy
  have hp := List.pairwise_iff_getElem.1 hf.held
  by_cases e : i = j
  · subst e; rfl
  · by_cases hlt : i < j
    · exact (hp i j hi hj hlt ⟨h1, h2⟩).elim
    · exact (hp j i hj hi (by omega) ⟨h1.symm, h2.symm⟩).elim
theorem look_at {l : List Px} (hf : Fine l) (hok : ∀ x ∈ l, x.ad.ok) {x : Px} (hx : x ∈ l) : look l x.path = some x.to :=
  look_of (fun y hy h => by rw [path_one hf hok hy hx h]) hx rfl

/-- What is found: that of the longest prefix that the address is within. -/
theorem found_spec {l : List Px} (hf : Fine l) (hok : ∀ x ∈ l, x.ad.ok) (a : A) : ∀ k, k ≤ 32 → (found l a k = none ∧ ∀ x ∈ l, x.bits ≤ k → ¬ within a x.ad x.bits) ∨
    ∃ x ∈ l, found l a k = some x.to ∧ within a x.ad x.bits ∧ x.bits ≤ k ∧ ∀ y ∈ l, y.bits ≤ k → within a y.ad y.bits → y.bits ≤ x.bits
  | 0, _ => by
    unfold found
    cases h : look l [] with
    | none =>
      left
      refine ⟨rfl, fun x hx hb hw => ?_⟩
      have : x.path = [] := (path_within hf hx (a := a) (k := 0) (by omega)).2 ⟨by have := hw.1; omega, hw⟩
      have h2 := look_at hf hok hx
      rw [this, h] at h2; cases h2
    | some v =>
      right
      obtain ⟨x, hx, h1, h2⟩ := look_some h
      obtain ⟨h3, h4⟩ := (path_within hf hx (a := a) (k := 0) (by omega)).1 h1
      exact ⟨x, hx, by rw [h2], h4, by omega, fun y hy hb _ => by omega⟩
  | k + 1, hk => by
    unfold found
    cases h : look l (pathOf a (k + 1)) with
    | some v =>
      right
      obtain ⟨x, hx, h1, h2⟩ := look_some h
      obtain ⟨h3, h4⟩ := (path_within hf hx hk).1 h1
      exact ⟨x, hx, by rw [← h2]; rfl, h4, by omega, fun y hy hb _ => by omega⟩
    | none =>
      have hno : ∀ x ∈ l, x.bits = ((k + 1 : Nat) : Int) → ¬ within a x.ad x.bits := fun x hx hb hw => by
        have := (path_within hf hx hk).2 ⟨hb, hw⟩
        have h2 := look_at hf hok hx
        rw [this, h] at h2; cases h2
      rw [Option.none_or]
      rcases found_spec hf hok a k (by omega) with ⟨h1, h2⟩ | ⟨x, hx, h1, h2, h3, h4⟩
      · left
        refine ⟨h1, fun x hx hb hw => ?_⟩
        by_cases e : x.bits = ((k + 1 : Nat) : Int)
        · exact hno x hx e hw
        · exact h2 x hx (by omega) hw
      · right
        refine ⟨x, hx, h1, h2, by omega, fun y hy hb hw => ?_⟩
        by_cases e : y.bits = ((k + 1 : Nat) : Int)
        · exact (hno y hy e hw).elim
        · exact h4 y hy (by omega) hw

end Go.Proofs.YtcocblbfgjjlbaaGreatDoor.Tr
