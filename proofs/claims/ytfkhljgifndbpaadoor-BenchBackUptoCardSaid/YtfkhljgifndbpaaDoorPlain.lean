import Derived.Lib.AtoiTie
import Derived.Lib.ItoaLen
import Derived.Lib.ItoaWalk
import Derived.Lib.Split
/- Texts as rows of bytes: cutting, numbers, lines: plain. -/
namespace Go.Proofs.YtfkhljgifndbpaaDoor
open Go.Lib

abbrev Bs := List UInt8

/-! ## Cutting -/

/-- Cut at the first byte c: before, after, is it there. -/
def cutAt (c : UInt8) : Bs → Bs × Bs × Bool
  | [] => ([], [], false)
  | b :: l => if b = c then ([], l, true) else (b :: (cutAt c l).1, (cutAt c l).2.1, (cutAt c l).2.2)
def words (c : UInt8) : Bs → List Bs
  | [] => [[]]
  | b :: l => if b = c then [] :: words c l else match words c l with
    | w :: ws => (b :: w) :: ws
    | [] => [[b]]
def pre (b : UInt8) : List Bs → List Bs
  | w :: ws => (b :: w) :: ws
  | [] => [[b]]
theorem words_cons (c b : UInt8) (l : Bs) : words c (b :: l) = if b = c then [] :: words c l else pre b (words c l) := by
  show (if b = c then [] :: words c l else match words c l with | w :: ws => (b :: w) :: ws | [] => [[b]]) = _
  cases words c l <;> rfl
theorem cutAt_cons (c b : UInt8) (l : Bs) : cutAt c (b :: l) = if b = c then ([], l, true) else (b :: (cutAt c l).1, (cutAt c l).2.1, (cutAt c l).2.2) := rfl
theorem index_cons (c b : UInt8) (l : Bs) : index (b :: l) [c] = if b = c then 0 else if index l [c] = -1 then -1 else index l [c] + 1 := by
  show (if [c].isPrefixOf (b :: l) = true then (0 : Int) else if (index l [c] == -1) = true then -1 else index l [c] + 1) = _
  by_cases h : b = c
  · rw [if_pos h, if_pos (by simp [h])]
  · rw [if_neg h, if_neg (by simp; exact fun e => h e.symm)]
    by_cases h2 : index l [c] = -1
    · rw [if_pos h2, if_pos (by simp [h2])]
    · rw [if_neg h2, if_neg (by simp [h2])]
theorem cut_cases (c : UInt8) : ∀ l : Bs, (index l [c] = -1 ∧ cutAt c l = (l, [], false) ∧ words c l = [l]) ∨
    ∃ i : Nat, index l [c] = i ∧ cutAt c l = (l.take i, l.drop (i + 1), true) ∧ words c l = l.take i :: words c (l.drop (i + 1))
  | [] => .inl ⟨rfl, rfl, rfl⟩
  | b :: l => by
    rw [index_cons, cutAt_cons, words_cons]
    by_cases h : b = c
    · rw [if_pos h, if_pos h, if_pos h]
      exact .inr ⟨0, rfl, rfl, rfl⟩
    · rw [if_neg h, if_neg h, if_neg h]
      rcases cut_cases c l with ⟨h1, h2, h3⟩ | ⟨i, h1, h2, h3⟩
      · exact .inl ⟨by rw [if_pos h1], by rw [h2], by rw [h3]; rfl⟩
      · refine .inr ⟨i + 1, by rw [if_neg (by omega), h1]; rfl, by rw [h2]; rfl, by rw [h3]; rfl⟩
theorem cut_eq (c : UInt8) (l : Bs) : cut l [c] = cutAt c l := by
  unfold cut
  rcases cut_cases c l with ⟨h1, h2, _⟩ | ⟨i, h1, h2, _⟩
  · rw [h1, h2]; rfl
  · rw [h1, h2, if_pos (by omega)]; rfl
theorem split_eq (c : UInt8) : ∀ (n : Nat) (l : Bs), l.length ≤ n → split l [c] = words c l
  | n, l, hn => by
    unfold split
    rcases cut_cases c l with ⟨h1, _, h3⟩ | ⟨i, h1, _, h3⟩
    · rw [count_miss h1, h3]; rfl
    · rw [count_hit (by simp) h1, h3, Nat.add_comm]
      unfold splitK
      rw [if_neg (by rw [h1]; simp), h1]
      simp only [List.length_cons, List.length_nil, Nat.zero_add, Int.toNat_natCast, Nat.add_zero]
      have hr := index_room l [c] (by omega)
      rw [h1] at hr
      simp only [List.length_cons, List.length_nil, Nat.zero_add] at hr
      cases n with
      | zero => omega
      | succ n => exact congrArg _ (split_eq c n (l.drop (i + 1)) (by rw [List.length_drop]; omega))
theorem words_ne (c : UInt8) (l : Bs) : words c l ≠ [] := by
  rcases cut_cases c l with ⟨_, _, h⟩ | ⟨i, _, _, h⟩ <;> rw [h] <;> simp
/-- A word without c, then c. -/
theorem words_app (c : UInt8) : ∀ (w : Bs) (l : Bs), c ∉ w → words c (w ++ c :: l) = w :: words c l
  | [], l, _ => by
    show words c (c :: l) = _
    rw [words_cons, if_pos rfl]
  | b :: w, l, h => by
    have h1 : b ≠ c := fun e => h (by rw [e]; exact List.mem_cons_self)
    show words c (b :: (w ++ c :: l)) = _
    rw [words_cons, if_neg h1, words_app c w l fun hm => h (List.mem_cons_of_mem _ hm)]
    rfl
theorem words_one (c : UInt8) : ∀ (w : Bs), c ∉ w → words c w = [w]
  | [], _ => rfl
  | b :: w, h => by
    have h1 : b ≠ c := fun e => h (by rw [e]; exact List.mem_cons_self)
    rw [words_cons, if_neg h1, words_one c w fun hm => h (List.mem_cons_of_mem _ hm)]
    rfl
theorem words_len (c : UInt8) : ∀ (l : Bs) (w : Bs), w ∈ words c l → w.length ≤ l.length
  | [], w, h => by
    have : w = [] := by simpa [words] using h
    rw [this]; exact Nat.le_refl _
  | b :: l, w, h => by
    rw [words_cons] at h
    have ih := words_len c l
    split at h
    · rcases List.mem_cons.1 h with e | h
      · rw [e]; simp
      · have := ih w h; simp only [List.length_cons]; omega
    · cases hw : words c l with
      | nil => exact absurd hw (words_ne c l)
      | cons x xs =>
        rw [hw] at h ih
        rcases List.mem_cons.1 h with e | h
        · have := ih x List.mem_cons_self
          rw [e]; simp only [List.length_cons]; omega
        · have := ih w (List.mem_cons_of_mem _ h); simp only [List.length_cons]; omega
/-- The words again in a row. -/
def glue (c : UInt8) : List Bs → Bs
  | [] => []
  | [w] => w
  | w :: ws => w ++ c :: glue c ws
theorem glue_words (c : UInt8) : ∀ l : Bs, glue c (words c l) = l
  | [] => rfl
  | b :: l => by
    have ih := glue_words c l
    rw [words_cons]
    by_cases h : b = c
    · rw [if_pos h]
      cases hw : words c l with
      | nil => exact absurd hw (words_ne c l)
      | cons w ws => rw [hw] at ih; rw [← ih, h]; rfl
    · rw [if_neg h]
      cases hw : words c l with
      | nil => exact absurd hw (words_ne c l)
      | cons w ws =>
        rw [hw] at ih
        cases ws with
        | nil => show b :: w = _; rw [← ih]; rfl
        | cons x ws => show b :: (w ++ c :: glue c (x :: ws)) = _; rw [← ih]; rfl
theorem cutAt_app (c : UInt8) : ∀ (w l : Bs), c ∉ w → cutAt c (w ++ c :: l) = (w, l, true)
  | [], l, _ => by
    show cutAt c (c :: l) = _
    rw [cutAt_cons, if_pos rfl]
  | b :: w, l, h => by
    have h1 : b ≠ c := fun e => h (by rw [e]; exact List.mem_cons_self)
    show cutAt c (b :: (w ++ c :: l)) = _
    rw [cutAt_cons, if_neg h1, cutAt_app c w l fun hm => h (List.mem_cons_of_mem _ hm)]
theorem cutAt_found {c : UInt8} : ∀ {t : Bs} {l r : Bs}, cutAt c t = (l, r, true) → t = l ++ c :: r
  | [], _, _, h => by cases h
  | b :: t, l, r, h => by
    rw [cutAt_cons] at h
    split at h
    · rename_i e; cases h; rw [e]; rfl
    · cases hc : cutAt c t with
      | mk x y =>
        obtain ⟨y, f⟩ := y
        rw [hc] at h
        cases h
        rw [cutAt_found hc]; rfl

/-! ## Lines -/

/-- The whole lines, and what stands behind the last one. -/
def segs : Bs → List Bs × Bs
  | [] => ([], [])
  | b :: l => if b = 10 then ([] :: (segs l).1, (segs l).2) else match (segs l).1 with
    | [] => ([], b :: (segs l).2)
    | w :: ws => ((b :: w) :: ws, (segs l).2)
def preS (b : UInt8) (x : List Bs × Bs) : List Bs × Bs := match x.1 with
  | [] => ([], b :: x.2)
  | w :: ws => ((b :: w) :: ws, x.2)
theorem segs_cons (b : UInt8) (l : Bs) : segs (b :: l) = if b = 10 then ([] :: (segs l).1, (segs l).2) else preS b (segs l) := rfl
theorem segs_cut : ∀ t : Bs, ((cutAt 10 t).2.2 = true → segs t = ((cutAt 10 t).1 :: (segs (cutAt 10 t).2.1).1, (segs (cutAt 10 t).2.1).2)) ∧ ((cutAt 10 t).2.2 = false → segs t = ([], t))
  | [] => ⟨fun h => (by cases h), fun _ => rfl⟩
  | b :: t => by
    obtain ⟨h1, h2⟩ := segs_cut t
    rw [cutAt_cons, segs_cons]
    by_cases h : b = 10
    · rw [if_pos h, if_pos h]
      exact ⟨fun _ => rfl, fun e => by cases e⟩
    · rw [if_neg h, if_neg h]
      refine ⟨fun hf => ?_, fun hf => ?_⟩
      · rw [h1 hf]; rfl
      · rw [h2 hf]; rfl
theorem segs_app : ∀ (t m : Bs), (segs t).2 = [] → segs (t ++ m) = ((segs t).1 ++ (segs m).1, (segs m).2)
  | [], m, _ => rfl
  | b :: t, m, h => by
    show segs (b :: (t ++ m)) = _
    rw [segs_cons] at h
    rw [segs_cons, segs_cons]
    by_cases hb : b = 10
    · rw [if_pos hb] at h ⊢
      rw [if_pos hb, segs_app t m h]; rfl
    · rw [if_neg hb] at h ⊢
      rw [if_neg hb]
      unfold preS at h ⊢
      cases hs : (segs t).1 with
      | nil => rw [hs] at h; simp at h
      | cons w ws =>
        rw [hs] at h
        simp only at h
        rw [segs_app t m h, hs]; rfl
theorem segs_count : ∀ t : Bs, t.count 10 = (segs t).1.length
  | [] => rfl
  | b :: t => by
    rw [segs_cons, List.count_cons, segs_count t]
    by_cases hb : b = 10
    · rw [if_pos hb]; simp [hb]
    · rw [if_neg hb]
      have : (b == 10) = false := by simpa using hb
      rw [this]
      unfold preS
      cases (segs t).1 <;> simp
theorem segs_join : ∀ t : Bs, ((segs t).1.flatMap (· ++ [10])) ++ (segs t).2 = t
  | [] => rfl
  | b :: t => by
    have ih := segs_join t
    rw [segs_cons]
    by_cases hb : b = 10
    · rw [if_pos hb]; simp only [List.flatMap_cons, List.nil_append, hb, List.cons_append]; rw [ih]
    · rw [if_neg hb]
      unfold preS
      cases hs : (segs t).1 with
      | nil => rw [hs] at ih; simp at ih; simp; exact ih
      | cons w ws => rw [hs] at ih; simp at ih ⊢; exact ih
theorem segs_line : ∀ (w l : Bs), 10 ∉ w → segs (w ++ 10 :: l) = (w :: (segs l).1, (segs l).2)
  | w, l, h => by
    have hc := cutAt_app 10 w l h
    have := (segs_cut (w ++ 10 :: l)).1 (by rw [hc])
    rw [this, hc]
theorem segs_lines : ∀ (ls : List Bs), (∀ l ∈ ls, 10 ∉ l) → segs (ls.flatMap (· ++ [10])) = (ls, [])
  | [], _ => rfl
  | l :: ls, h => by
    have : (l :: ls).flatMap (· ++ [10]) = l ++ 10 :: ls.flatMap (· ++ [10]) := by simp
    rw [this, segs_line l _ (h l List.mem_cons_self), segs_lines ls fun x hx => h x (List.mem_cons_of_mem _ hx)]
theorem segs_len : ∀ t : Bs, (segs t).1.length ≤ t.length
  | t => by rw [← segs_count]; exact List.count_le_length

/-! ## Numbers -/

def mx : Int := 1099511627776
def numP (s : Bs) : Option Int := match atoiAll s with
  | .ok v => if 0 ≤ v ∧ v ≤ mx ∧ itoa v = s then some v else none
  | _ => none
theorem digit_bytes (u : Nat) : ∀ b ∈ decDigits u, 48 ≤ b.toNat ∧ b.toNat ≤ 57 := by
  induction u using Nat.strongRecOn with
  | _ u ih =>
    intro b hb
    rw [decDigits] at hb
    split at hb
    · rename_i h
      simp only [List.mem_singleton] at hb
      subst hb
      have : (UInt8.ofNat (48 + u)).toNat = 48 + u := by simp; omega
      omega
    · rcases List.mem_append.1 hb with hb | hb
      · exact ih (u / 10) (by omega) b hb
      · simp only [List.mem_singleton] at hb
        subst hb
        have : (UInt8.ofNat (48 + u % 10)).toNat = 48 + u % 10 := by simp; omega
        omega
theorem decFrom_snoc (b : UInt8) (d : Nat) (hd : digitVal b = some d) : ∀ (l : Bs) (acc : Nat), decFrom acc (l ++ [b]) = (decFrom acc l).map fun n => n * 10 + d
  | [], acc => by simp [decFrom, hd]
  | x :: l, acc => by
    show decFrom acc (x :: (l ++ [b])) = _
    unfold decFrom
    cases digitVal x with
    | none => rfl
    | some e => exact decFrom_snoc b d hd l _
theorem digitVal_of {d : Nat} (h : d < 10) : digitVal (UInt8.ofNat (48 + d)) = some d := by
  have : (UInt8.ofNat (48 + d)).toNat = 48 + d := by simp; omega
  unfold digitVal
  rw [this, if_pos (by omega)]
  congr 1; omega
theorem decFrom_digits (u : Nat) : decFrom 0 (decDigits u) = some u := by
  induction u using Nat.strongRecOn with
  | _ u ih =>
    rw [decDigits]
    split
    · rename_i h
      simp only [decFrom, digitVal_of h]
      simp
    · rw [decFrom_snoc _ _ (digitVal_of (Nat.mod_lt _ (by omega))), ih (u / 10) (by omega)]
      simp; omega
theorem decDigits_ne (u : Nat) : decDigits u ≠ [] := by
  rw [decDigits]; split <;> simp
theorem nDigits_le : ∀ (k u : Nat), u < 10 ^ (k + 1) → nDigits u ≤ k + 1
  | 0, u, h => by rw [nDigits_small (by simpa using h)]; exact Nat.le_refl _
  | k + 1, u, h => by
    by_cases hu : u < 10
    · rw [nDigits_small hu]; omega
    · rw [nDigits_big hu]
      have := nDigits_le k (u / 10) (by rw [Nat.pow_succ] at h; omega)
      omega
theorem itoa_nn {n : Int} (h : 0 ≤ n) : itoa n = decDigits n.toNat := by unfold itoa; rw [if_neg (by omega)]
theorem itoa_len {n : Int} (h0 : 0 ≤ n) (h1 : n ≤ mx) : (itoa n).length ≤ 13 := by
  rw [itoa_nn h0, decDigits_length]
  exact nDigits_le 12 _ (by unfold mx at h1; omega)
theorem itoa_bytes {n : Int} (h0 : 0 ≤ n) : ∀ b ∈ itoa n, 48 ≤ b.toNat ∧ b.toNat ≤ 57 := by rw [itoa_nn h0]; exact digit_bytes _
theorem atoi_itoa {n : Int} (h0 : 0 ≤ n) (h1 : n ≤ mx) : atoiAll (itoa n) = .ok n := by
  rw [atoiAll_short _ (by have := itoa_len h0 h1; omega)]
  have hb := itoa_bytes h0
  have hd : decNat (itoa n) = some n.toNat := by
    rw [itoa_nn h0]
    unfold decNat
    rw [if_neg (by simp [decDigits_ne]), decFrom_digits]
  generalize itoa n = l at *
  cases l with
  | nil => simp [decNat] at hd
  | cons b r =>
    have h2 := hb b List.mem_cons_self
    have e1 : (b == 45) = false := by
      rw [beq_eq_false_iff_ne]; intro e; rw [e] at h2; exact absurd h2.1 (by decide)
    have e2 : (b == 43) = false := by
      rw [beq_eq_false_iff_ne]; intro e; rw [e] at h2; exact absurd h2.1 (by decide)
    have : atoi (b :: r) = (decNat (b :: r)).map fun (m : Nat) => (m : Int) := by
      show (if (b == 45) = true then (decNat r).map fun (m : Nat) => -(m : Int) else if (b == 43) = true then (decNat r).map fun (m : Nat) => (m : Int) else (decNat (b :: r)).map fun (m : Nat) => (m : Int)) = _
      rw [e1, e2]; rfl
    rw [this, hd]
    simp [NumEnd.ofOption]; omega
theorem numP_itoa {n : Int} (h0 : 0 ≤ n) (h1 : n ≤ mx) : numP (itoa n) = some n := by
  unfold numP
  rw [atoi_itoa h0 h1]
  show (if 0 ≤ n ∧ n ≤ mx ∧ itoa n = itoa n then some n else none) = _
  rw [if_pos ⟨h0, h1, rfl⟩]
theorem numP_some {s : Bs} {n : Int} (h : numP s = some n) : 0 ≤ n ∧ n ≤ mx ∧ itoa n = s := by
  unfold numP at h
  split at h
  · split at h
    · rename_i hh; cases h; exact hh
    · cases h
  · cases h
theorem itoa_no {n : Int} (h0 : 0 ≤ n) {c : UInt8} (hc : c.toNat < 48) : c ∉ itoa n := fun h => by
  have := itoa_bytes h0 c h
  omega
end Go.Proofs.YtfkhljgifndbpaaDoor
