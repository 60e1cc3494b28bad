/- the plain laws of prefixes -/
set_option linter.unusedVariables false
namespace Go.Proofs.Ytiflaenenlcidaa

/-- An address. -/
structure A where
  b0 : Int
  b1 : Int
  b2 : Int
  b3 : Int
  deriving DecidableEq
def A.byte (a : A) (k : Nat) : Int := match k with | 0 => a.b0 | 1 => a.b1 | 2 => a.b2 | _ => a.b3
def A.ok (a : A) : Prop := (0 ≤ a.b0 ∧ a.b0 ≤ 255) ∧ (0 ≤ a.b1 ∧ a.b1 ≤ 255) ∧ (0 ≤ a.b2 ∧ a.b2 ≤ 255) ∧ (0 ≤ a.b3 ∧ a.b3 ≤ 255)
theorem A.ok.byte {a : A} (h : a.ok) (k : Nat) : 0 ≤ a.byte k ∧ a.byte k ≤ 255 := by
  unfold A.byte; unfold A.ok at h; split <;> omega
def bit (a : A) (k : Nat) : Int := a.byte (k / 8) / 2 ^ (7 - k % 8) % 2
theorem bit_range (a : A) (k : Nat) : 0 ≤ bit a k ∧ bit a k ≤ 1 := by unfold bit; omega
/-- Does an address begin as a prefix does? -/
def within (a p : A) (bits : Int) : Prop := 0 ≤ bits ∧ bits ≤ 32 ∧ ∀ k, k < bits.toNat → bit a k = bit p k
instance (a p : A) (bits : Int) : Decidable (within a p bits) := by unfold within; infer_instance
theorem within.trans {a p q : A} {m n : Int} (h : within a p m) (h' : within p q n) (hn : n ≤ m) : within a q n :=
  ⟨h'.1, h'.2.1, fun k hk => (h.2.2 k (by omega)).trans (h'.2.2 k hk)⟩
theorem within.zero (a p : A) : within a p 0 := ⟨by omega, by omega, fun k hk => by simp at hk⟩

structure Px where
  ad : A
  bits : Int
  to : Int
  deriving DecidableEq
def p0 : Px := ⟨⟨0, 0, 0, 0⟩, 0, 0⟩
/-- What is wrong with one prefix, behind those ahead of it. -/
def longP (p : Px) : Prop := p.bits < 0 ∨ 32 < p.bits
instance (p : Px) : Decidable (longP p) := by unfold longP; infer_instance
def rawP (p : Px) : Prop := ∃ i, i < 32 ∧ p.bits.toNat ≤ i ∧ bit p.ad i = 1
def heldP (pre : List Px) (p : Px) : Prop := ∃ q ∈ pre, q.bits = p.bits ∧ q.ad = p.ad
/-- All is right with prefixes. -/
structure Fine (l : List Px) : Prop where
  len : l.length ≤ 400
  long : ∀ p ∈ l, ¬ longP p
  raw : ∀ p ∈ l, ¬ rawP p
  held : l.Pairwise (fun p q => ¬ (p.bits = q.bits ∧ p.ad = q.ad))

theorem bit_two (a : A) (i : Nat) : bit a i = 0 ∨ bit a i = 1 := by have := bit_range a i; omega
/-- An address is within itself. -/
theorem within.self (a : A) {n : Int} (h : 0 ≤ n ∧ n ≤ 32) : within a a n := ⟨h.1, h.2, fun _ _ => rfl⟩
/-- Of two prefixes one is within the other one, or they have no address in common. -/
theorem nest1 {a p q : A} {m n : Int} (hmn : m ≤ n) (h1 : within a p m) (h2 : within a q n) : within q p m :=
  ⟨h1.1, h1.2.1, fun k hk => (h2.2.2 k (by omega)).symm.trans (h1.2.2 k hk)⟩
theorem nest2 {a p q : A} {m n : Int} (hmn : m ≤ n) (h1 : ¬ within a p m) (h2 : within a q n) : ¬ within q p m := fun h => h1 (h2.trans h hmn)
end Go.Proofs.Ytiflaenenlcidaa
