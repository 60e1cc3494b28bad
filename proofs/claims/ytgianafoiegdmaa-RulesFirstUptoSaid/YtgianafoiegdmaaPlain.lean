set_option linter.unusedVariables false
namespace Go.Proofs.Ytgianafoiegdmaa

/-- An address. -/
structure A where
  b0 : Int
  b1 : Int
  b2 : Int
  b3 : Int
  deriving DecidableEq
def A.byte (a : A) (k : Nat) : Int := match k with | 0 => a.b0 | 1 => a.b1 | 2 => a.b2 | _ => a.b3
def A.ok (a : A) : Prop := (0 ≤ a.b0 ∧ a.b0 ≤ 255) ∧ (0 ≤ a.b1 ∧ a.b1 ≤ 255) ∧ (0 ≤ a.b2 ∧ a.b2 ≤ 255) ∧ (0 ≤ a.b3 ∧ a.b3 ≤ 255)
theorem A.ok.byte {a : A} (h : a.ok) (k : Nat) : 0 ≤ a.byte k ∧ a.byte k ≤ 255 := by
  unfold A.byte; unfold A.ok at h; split <;> omega
def bit (a : A) (k : Nat) : Int := a.byte (k / 8) / 2 ^ (7 - k % 8) % 2
theorem bit_range (a : A) (k : Nat) : 0 ≤ bit a k ∧ bit a k ≤ 1 := by unfold bit; omega
/-- Does an address begin as a prefix does? -/
def within (a p : A) (bits : Int) : Prop := 0 ≤ bits ∧ bits ≤ 32 ∧ ∀ k, k < bits.toNat → bit a k = bit p k
instance (a p : A) (bits : Int) : Decidable (within a p bits) := by unfold within; infer_instance
theorem within.trans {a p q : A} {m n : Int} (h : within a p m) (h' : within p q n) (hn : n ≤ m) : within a q n :=
  ⟨h'.1, h'.2.1, fun k hk => (h.2.2 k (by omega)).trans (h'.2.2 k hk)⟩
theorem within.zero (a p : A) : within a p 0 := ⟨by omega, by omega, fun k hk => by simp at hk⟩

structure R where
  src : A
  dst : A
  sb : Int
  db : Int
  pr : Int
  lo : Int
  hi : Int
  cl : Int
  deriving DecidableEq
structure D where
  src : A
  dst : A
  pr : Int
  sp : Int
  dp : Int
  len : Int
  mark : Int
  deriving DecidableEq
def fits (r : R) (h : D) : Bool := decide (within h.src r.src r.sb ∧ within h.dst r.dst r.db ∧ (r.pr = 0 ∨ r.pr = h.pr) ∧ r.lo ≤ h.dp ∧ h.dp ≤ r.hi)
def badR (r : R) : Bool := decide (min r.sb r.db < 0 ∨ 32 < max r.sb r.db ∨ r.pr < 0 ∨ 255 < r.pr ∨ r.lo < 0 ∨ 65535 < r.hi ∨ r.hi < r.lo ∨ r.cl < 0 ∨ 16 ≤ r.cl)
def wrong (l : List R) : Bool := decide (400 < l.length) || l.any badR
def covers (a b : R) : Bool := decide ((a.sb ≤ b.sb ∧ within b.src a.src a.sb) ∧ (a.db ≤ b.db ∧ within b.dst a.dst a.db) ∧ (a.pr = 0 ∨ a.pr = b.pr) ∧ a.lo ≤ b.lo ∧ b.hi ≤ a.hi)
def first (l : List R) (h : D) : Option R := l.find? (fun r => fits r h)
/-- The class, and what is wrong. -/
def cls (l : List R) (h : D) : Int × Int := if wrong l = true then (0, 2) else match first l h with | some r => (r.cl, 0) | none => (0, 3)

theorem covers_fits {a b : R} {h : D} (hc : covers a b = true) (hf : fits b h = true) : fits a h = true := by
  simp only [covers, fits, decide_eq_true_eq] at *
  obtain ⟨⟨c1, c2⟩, ⟨c3, c4⟩, c5, c6, c7⟩ := hc
  obtain ⟨f1, f2, f3, f4, f5⟩ := hf
  refine ⟨f1.trans c2 c1, f2.trans c4 c3, by omega, by omega, by omega⟩

def pruneStep (out : List R) (r : R) : List R := if out.any (fun a => covers a r) = true then out else out ++ [r]
def prune (l : List R) : List R := l.foldl pruneStep []
theorem prune_snoc (l : List R) (r : R) : prune (l ++ [r]) = pruneStep (prune l) r := by simp [prune]

theorem list_snoc_ind {α : Type} {P : List α → Prop} (h0 : P []) (hs : ∀ l a, P l → P (l ++ [a])) (l : List α) : P l := by
  rw [← List.reverse_reverse l]
  induction l.reverse with
  | nil => exact h0
  | cons a r ih => rw [List.reverse_cons]; exact hs _ _ ih

theorem prune_first (h : D) : ∀ l : List R, first (prune l) h = first l h := by
  apply list_snoc_ind
  · rfl
  · intro l r ih
    rw [prune_snoc]
    unfold pruneStep
    by_cases hc : (prune l).any (fun a => covers a r) = true
    · rw [if_pos hc, ih]
      unfold first at *
      rw [List.find?_append]
      cases hf : l.find? (fun r => fits r h) with
      | some x => rfl
      | none =>
        rw [hf] at ih
        simp only [Option.none_or]
        by_cases hr : fits r h = true
        · obtain ⟨a, ha, hca⟩ := List.any_eq_true.1 hc
          have := List.find?_eq_none.1 ih a ha
          exact (this (covers_fits hca hr)).elim
        · simp [hr]
    · rw [if_neg hc]
      unfold first at *
      rw [List.find?_append, List.find?_append, ih]
theorem prune_sub : ∀ l : List R, (∀ r ∈ prune l, r ∈ l) ∧ (prune l).length ≤ l.length := by
  apply list_snoc_ind
  · simp [prune]
  · rintro l r ⟨h1, h2⟩
    rw [prune_snoc]
    unfold pruneStep
    split
    · exact ⟨fun x hx => by simp [h1 x hx], by simp; omega⟩
    · refine ⟨fun x hx => ?_, by simp; omega⟩
      simp only [List.mem_append, List.mem_singleton] at hx ⊢
      rcases hx with hx | hx
      · exact .inl (h1 x hx)
      · exact .inr hx
theorem prune_prune : ∀ l : List R, prune (prune l) = prune l := by
  apply list_snoc_ind
  · rfl
  · intro l r ih
    rw [prune_snoc]
    unfold pruneStep
    split
    · exact ih
    · rename_i hc
      rw [prune_snoc, ih]
      unfold pruneStep
      rw [if_neg hc]
theorem prune_wrong {l : List R} (h : wrong l = false) : wrong (prune l) = false := by
  obtain ⟨h1, h2⟩ := prune_sub l
  simp only [wrong, Bool.or_eq_false_iff, decide_eq_false_iff_not, List.any_eq_false] at *
  exact ⟨by omega, fun x hx => h.2 x (h1 x hx)⟩
theorem prune_cls {l : List R} (h : wrong l = false) (d : D) : cls (prune l) d = cls l d := by
  unfold cls
  rw [h, prune_wrong h, prune_first]

theorem cls_swap (p q : List R) (a b : R) (h : D) (hf : ¬ (fits a h = true ∧ fits b h = true)) : cls (p ++ b :: a :: q) h = cls (p ++ a :: b :: q) h := by
  have hw : wrong (p ++ b :: a :: q) = wrong (p ++ a :: b :: q) := by
    simp only [wrong, List.length_append, List.length_cons, List.any_append, List.any_cons]
    cases badR a <;> cases badR b <;> simp
  have h1 : first (p ++ b :: a :: q) h = first (p ++ a :: b :: q) h := by
    unfold first
    rw [List.find?_append, List.find?_append]
    congr 1
    simp only [List.find?_cons]
    cases ha : fits a h <;> cases hb : fits b h <;> simp_all
  unfold cls
  rw [hw, h1]
theorem first_app (l m : List R) (h : D) : first (l ++ m) h = (first l h).or (first m h) := by unfold first; rw [List.find?_append]
theorem wrong_app {l m : List R} (h : wrong (l ++ m) = false) : wrong l = false := by
  simp only [wrong, Bool.or_eq_false_iff, decide_eq_false_iff_not, List.any_append, List.length_append] at *
  exact ⟨by omega, h.2.1⟩
end Go.Proofs.Ytgianafoiegdmaa
