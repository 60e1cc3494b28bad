import Derived.Test.YtknfaoonjmlncaaPlainT
import Derived.Test.YtknfaoonjmlncaaDisc
/- Leaves of a tree of classes served, in plain Lean: what a node offers, and picks. -/
set_option linter.unusedVariables false
namespace Go.Proofs.Ytknfaoonjmlncaa

structure Hn where
  up : Int
  w : Int
  sum : Int
  leaf : Int
  bytes : Int
  bg : Int
  un : Int
  time : Int
abbrev St := Nat → Hn
def updS (S : St) (k : Nat) (x : Hn) : St := fun j => if j = k then x else S j
theorem updS_same (S : St) (k : Nat) (x : Hn) : updS S k x k = x := if_pos rfl
theorem updS_ne {S : St} {k j : Nat} {x : Hn} (h : j ≠ k) : updS S k x j = S j := if_neg h
theorem updS_updS (S : St) (k : Nat) (x y : Hn) : updS (updS S k x) k y = updS S k y := funext fun j => by
  unfold updS; split <;> rfl
/-- A node that has something to send next. -/
def offH (S : St) (k : Nat) (leaf b : Int) (again : Bool) : Hn :=
  if (S k).up < 0 then { S k with leaf := leaf, bytes := b }
  else { S k with
    leaf := leaf
    bytes := b
    bg := if again then (S k).un else max (S k).un (S (S k).up.toNat).time
    un := (if again then (S k).un else max (S k).un (S (S k).up.toNat).time) + b * (27720 / (S k).w) * (S (S k).up.toNat).sum }
def leastK (S : St) (l : List Int) : Nat → Int
  | 0 => -1
  | i + 1 => if 0 < (S (l.getD i 0).toNat).bytes ∧ (leastK S l i < 0 ∨ (S (l.getD i 0).toNat).bg < leastK S l i) then (S (l.getD i 0).toNat).bg else leastK S l i
def bestK (S : St) (T : Int) (l : List Int) : Nat → Int
  | 0 => -1
  | i + 1 => if (0 < (S (l.getD i 0).toNat).bytes ∧ (S (l.getD i 0).toNat).bg ≤ T) ∧ (bestK S T l i < 0 ∨ (S (l.getD i 0).toNat).un < (S (bestK S T l i).toNat).un) then l.getD i 0 else bestK S T l i
/-- When the node picks. -/
def timeK (S : St) (l : List Int) (k : Nat) : Int := max (S k).time (leastK S l l.length)
def bestN (S : St) (l : List Int) (k : Nat) : Nat := (bestK S (timeK S l k) l l.length).toNat
def setT (S : St) (k : Nat) (t : Int) : St := updS S k { S k with time := t }
def pickH (S : St) (l : List Int) (k : Nat) (again : Bool) : St :=
  if leastK S l l.length < 0 then updS S k { S k with bytes := 0 }
  else updS S k (offH (setT S k (timeK S l k + (S (bestN S l k)).bytes * 27720)) k (S (bestN S l k)).leaf (S (bestN S l k)).bytes again)
theorem pickH_ne {S : St} {l : List Int} {k j : Nat} {a : Bool} (h : j ≠ k) : pickH S l k a j = S j := by
  unfold pickH; split <;> exact updS_ne h
theorem offH_stat (S : St) (k : Nat) (lf b : Int) (a : Bool) : (offH S k lf b a).up = (S k).up ∧ (offH S k lf b a).w = (S k).w ∧ (offH S k lf b a).sum = (S k).sum ∧ (offH S k lf b a).leaf = lf ∧ (offH S k lf b a).bytes = b ∧ (offH S k lf b a).time = (S k).time := by
  unfold offH; split <;> exact ⟨rfl, rfl, rfl, rfl, rfl, rfl⟩
/-- What stays of a node. -/
def Same (x y : Hn) : Prop := x.up = y.up ∧ x.w = y.w ∧ x.sum = y.sum
theorem pickH_stat (S : St) (l : List Int) (k : Nat) (a : Bool) (j : Nat) : Same (pickH S l k a j) (S j) := by
  by_cases h : j = k
  · subst h
    unfold pickH
    split
    · rw [updS_same]; exact ⟨rfl, rfl, rfl⟩
    · rw [updS_same]
      have := offH_stat (setT S j (timeK S l j + (S (bestN S l j)).bytes * 27720)) j (S (bestN S l j)).leaf (S (bestN S l j)).bytes a
      simp only [setT, updS_same] at this
      exact ⟨this.1, this.2.1, this.2.2.1⟩
  · rw [pickH_ne h]; exact ⟨rfl, rfl, rfl⟩
/-- All the way up. -/
def climb (kd : Nat → List Int) (again : Bool) : Nat → St → Int → St
  | 0, S, _ => S
  | f + 1, S, k => if 0 ≤ k ∧ (again = true ∨ (S k.toNat).bytes = 0) then climb kd again f (pickH S (kd k.toNat) k.toNat again) (S k.toNat).up else S
theorem climb_stat (kd : Nat → List Int) (a : Bool) : ∀ (f : Nat) (S : St) (k : Int) (j : Nat), Same (climb kd a f S k j) (S j)
  | 0, S, k, j => ⟨rfl, rfl, rfl⟩
  | f + 1, S, k, j => by
    unfold climb
    split
    · have h1 := climb_stat kd a f (pickH S (kd k.toNat) k.toNat a) (S k.toNat).up j
      have h2 := pickH_stat S (kd k.toNat) k.toNat a j
      exact ⟨h1.1.trans h2.1, h1.2.1.trans h2.2.1, h1.2.2.trans h2.2.2⟩
    · exact ⟨rfl, rfl, rfl⟩
def inH (n : Nat) (kd : Nat → List Int) (S : St) (k : Nat) (b : Int) : St :=
  if 0 < (S k).bytes then S else climb kd false n (updS S k (offH S k k b false)) (S k).up
def hdQ (l : List Int) : Int := l.getD 0 0
def zeroB (S : St) (k : Nat) : St := updS S k { S k with bytes := 0 }
def outH1 (S : St) (q : List Int) (k : Nat) : St :=
  if q.tail = [] then zeroB S k else updS S k (offH (zeroB S k) k k (hdQ q.tail) true)
def outH (n : Nat) (kd : Nat → List Int) (S : St) (q : List Int) (k : Nat) : St := climb kd true n (outH1 S q k) (S k).up

/-- The nodes below a node. -/
def kdN (l : List Nd) (k : Nat) : Nat → List Int
  | 0 => []
  | i + 1 => kdN l k i ++ (if up l i = k then [(i : Int)] else [])
theorem kdN_mem (l : List Nd) (k : Nat) : ∀ (n : Nat) (c : Int), c ∈ kdN l k n ↔ ∃ j : Nat, c = j ∧ j < n ∧ up l j = k
  | 0, c => by simp [kdN]
  | n + 1, c => by
    simp only [kdN, List.mem_append, kdN_mem l k n c]
    constructor
    · rintro (⟨j, h1, h2, h3⟩ | h)
      · exact ⟨j, h1, by omega, h3⟩
      · by_cases hu : up l n = k
        · rw [if_pos hu, List.mem_singleton] at h
          exact ⟨n, h, by omega, hu⟩
        · rw [if_neg hu] at h; cases h
    · rintro ⟨j, h1, h2, h3⟩
      by_cases hj : j = n
      · subst hj; rw [if_pos h3, List.mem_singleton]; exact Or.inr h1
      · exact Or.inl ⟨j, h1, by omega, h3⟩
theorem kdN_len (l : List Nd) (k : Nat) : ∀ n, (kdN l k n).length ≤ n
  | 0 => by simp [kdN]
  | n + 1 => by
    have := kdN_len l k n
    simp only [kdN, List.length_append]
    split <;> simp <;> omega

/-- What all numbers are between. -/
structure OkS (n : Nat) (M : Int) (S : St) : Prop where
  w : ∀ k, k < n → 1 ≤ (S k).w ∧ (S k).w ≤ 12
  sum : ∀ k, k < n → 0 ≤ (S k).sum ∧ (S k).sum ≤ 192
  b : ∀ k, k < n → 0 ≤ (S k).bytes ∧ (S k).bytes ≤ 1500
  t : ∀ k, k < n → (0 ≤ (S k).bg ∧ (S k).bg ≤ M) ∧ (0 ≤ (S k).un ∧ (S k).un ≤ M) ∧ 0 ≤ (S k).time ∧ (S k).time ≤ M
  u : ∀ k, k < n → (k = 0 → (S k).up = -1) ∧ (0 < k → 0 ≤ (S k).up ∧ (S k).up < k)
theorem tag_bound {S w x : Int} (hS : 0 ≤ S ∧ S ≤ 192) (hw : 1 ≤ w ∧ w ≤ 12) (hx : 0 ≤ x ∧ x ≤ 1500) : (0 ≤ 27720 / w ∧ 27720 / w ≤ 27720) ∧ (0 ≤ x * (27720 / w) ∧ x * (27720 / w) ≤ 41580000) ∧ 0 ≤ x * (27720 / w) * S ∧ x * (27720 / w) * S ≤ 7983360000 := by
  have h1 := Int.ediv_nonneg (a := 27720) (b := w) (by omega) (by omega)
  have h2 := Int.ediv_le_self (a := 27720) w (by omega)
  have h3 := Int.mul_nonneg hx.1 h1
  have h4 := Int.mul_le_mul hx.2 h2 h1 (by omega)
  have h5 := Int.mul_nonneg h3 hS.1
  have h6 := Int.mul_le_mul (show x * (27720 / w) ≤ 41580000 by omega) hS.2 hS.1 (by omega)
  omega
theorem OkS.mono {n : Nat} {M M' : Int} {S : St} (h : OkS n M S) (hM : M ≤ M') : OkS n M' S := ⟨h.w, h.sum, h.b, fun k hk => by have := h.t k hk; omega, h.u⟩
theorem OkS.up_lt {n : Nat} {M : Int} {S : St} (h : OkS n M S) {k : Nat} (hk : k < n) : (S k).up = -1 ∨ ∃ p : Nat, (S k).up = p ∧ p < k := by
  have := h.u k hk
  by_cases e : k = 0
  · exact .inl (this.1 e)
  · have h2 := this.2 (by omega)
    exact .inr ⟨(S k).up.toNat, by omega, by omega⟩
/-- A node of which only what is between may change. -/
theorem OkS.upd {n : Nat} {M : Int} {S : St} (h : OkS n M S) {k : Nat} (hk : k < n) {x : Hn} (hs : Same x (S k)) (hb : 0 ≤ x.bytes ∧ x.bytes ≤ 1500) (ht : (0 ≤ x.bg ∧ x.bg ≤ M) ∧ (0 ≤ x.un ∧ x.un ≤ M) ∧ 0 ≤ x.time ∧ x.time ≤ M) : OkS n M (updS S k x) := by
  obtain ⟨s1, s2, s3⟩ := hs
  refine ⟨fun j hj => ?_, fun j hj => ?_, fun j hj => ?_, fun j hj => ?_, fun j hj => ?_⟩ <;> by_cases e : j = k
  · subst e; rw [updS_same, s2]; exact h.w j hj
  · rw [updS_ne e]; exact h.w j hj
  · subst e; rw [updS_same, s3]; exact h.sum j hj
  · rw [updS_ne e]; exact h.sum j hj
  · subst e; rw [updS_same]; exact hb
  · rw [updS_ne e]; exact h.b j hj
  · subst e; rw [updS_same]; exact ht
  · rw [updS_ne e]; exact h.t j hj
  · subst e; rw [updS_same, s1]; exact h.u j hj
  · rw [updS_ne e]; exact h.u j hj
theorem OkS.off {n : Nat} {M : Int} {S : St} (h : OkS n M S) {k : Nat} (hk : k < n) (lf : Int) {b : Int} (hb : 0 ≤ b ∧ b ≤ 1500) (a : Bool) : OkS n (M + 8000000000) (updS S k (offH S k lf b a)) := by
  have hm : OkS n (M + 8000000000) S := h.mono (by omega)
  have st := offH_stat S k lf b a
  refine hm.upd hk ⟨st.1, st.2.1, st.2.2.1⟩ (by rw [st.2.2.2.2.1]; exact hb) ?_
  rw [st.2.2.2.2.2]
  have ht := h.t k hk
  unfold offH
  split
  · simp only; omega
  · rename_i hu
    rcases h.up_lt hk with h1 | ⟨p, h1, h2⟩
    · omega
    · have hs := h.sum p (by omega)
      have hp := h.t p (by omega)
      have := tag_bound hs (h.w k hk) hb
      simp only [h1, Int.toNat_natCast]
      split <;> omega
theorem leastK_cases (S : St) (l : List Int) : ∀ i, i ≤ l.length → (leastK S l i = -1 ∧ ∀ c ∈ l.take i, ¬ 0 < (S c.toNat).bytes) ∨ (∃ c ∈ l.take i, 0 < (S c.toNat).bytes ∧ leastK S l i = (S c.toNat).bg) ∨ False
  | 0, _ => .inl ⟨rfl, by simp⟩
  | i + 1, hi => by
    have e : l.take (i + 1) = l.take i ++ [l.getD i 0] := by
      rw [List.take_add_one, List.getD_eq_getElem?_getD, List.getElem?_eq_getElem (by omega)]; rfl
    rw [e]
    simp only [leastK]
    split
    · rename_i h
      exact .inr (.inl ⟨l.getD i 0, by simp, h.1, rfl⟩)
    · rename_i h
      rcases leastK_cases S l i (by omega) with ⟨h1, h2⟩ | ⟨c, h1, h2, h3⟩ | h4
      · refine .inl ⟨h1, fun c hc => ?_⟩
        rcases List.mem_append.1 hc with hc | hc
        · exact h2 c hc
        · rw [List.mem_singleton.1 hc]
          exact fun hb => h ⟨hb, .inl (by omega)⟩
      · exact .inr (.inl ⟨c, List.mem_append.2 (.inl h1), h2, h3⟩)
      · exact h4.elim
theorem bestK_cases (S : St) (T : Int) (l : List Int) (h0 : ∀ c ∈ l, 0 ≤ c) : ∀ i, i ≤ l.length → (bestK S T l i = -1 ∧ ∀ c ∈ l.take i, ¬ (0 < (S c.toNat).bytes ∧ (S c.toNat).bg ≤ T)) ∨ (bestK S T l i ∈ l.take i ∧ 0 < (S (bestK S T l i).toNat).bytes ∧ (S (bestK S T l i).toNat).bg ≤ T ∧ ∀ c ∈ l.take i, 0 < (S c.toNat).bytes → (S c.toNat).bg ≤ T → (S (bestK S T l i).toNat).un ≤ (S c.toNat).un)
  | 0, _ => .inl ⟨rfl, by simp⟩
  | i + 1, hi => by
    have e : l.take (i + 1) = l.take i ++ [l.getD i 0] := by
      rw [List.take_add_one, List.getD_eq_getElem?_getD, List.getElem?_eq_getElem (by omega)]; rfl
    have ih := bestK_cases S T l h0 i (by omega)
    rw [e]
    simp only [bestK]
    split
    · rename_i h
      refine .inr ⟨by simp, h.1.1, h.1.2, fun c hc h1 h2 => ?_⟩
      rcases List.mem_append.1 hc with hc | hc
      · rcases ih with ⟨_, h4⟩ | ⟨h3, _, _, h4⟩
        · exact (h4 c hc ⟨h1, h2⟩).elim
        · have := h4 c hc h1 h2
          have hn := h0 _ (List.mem_of_mem_take h3)
          rcases h.2 with h5 | h5 <;> omega
      · rw [List.mem_singleton.1 hc]; exact Int.le_refl _
    · rename_i h
      rcases ih with ⟨h3, h4⟩ | ⟨h3, h5, h6, h4⟩
      · refine .inl ⟨h3, fun c hc => ?_⟩
        rcases List.mem_append.1 hc with hc | hc
        · exact h4 c hc
        · rw [List.mem_singleton.1 hc]
          exact fun hb => h ⟨hb, .inl (by omega)⟩
      · refine .inr ⟨List.mem_append.2 (.inl h3), h5, h6, fun c hc h1 h2 => ?_⟩
        rcases List.mem_append.1 hc with hc | hc
        · exact h4 c hc h1 h2
        · rw [List.mem_singleton.1 hc] at h1 h2 ⊢
          refine Classical.byContradiction fun hh => h ⟨⟨h1, h2⟩, .inr (by omega)⟩
/-- What is picked. -/
theorem pick_best {n : Nat} {M : Int} {S : St} (hok : OkS n M S) {l : List Int} (hl : ∀ c ∈ l, 0 ≤ c ∧ c < n) (k : Nat) : (leastK S l l.length < 0 ∧ ∀ c ∈ l, ¬ 0 < (S c.toNat).bytes) ∨
    (0 ≤ leastK S l l.length ∧ leastK S l l.length ≤ M ∧ bestK S (timeK S l k) l l.length = bestN S l k ∧ ((bestN S l k : Nat) : Int) ∈ l ∧ bestN S l k < n ∧ 0 < (S (bestN S l k)).bytes ∧ (S (bestN S l k)).bg ≤ timeK S l k ∧ ∀ c ∈ l, 0 < (S c.toNat).bytes → (S c.toNat).bg ≤ timeK S l k → (S (bestN S l k)).un ≤ (S c.toNat).un) := by
  have h1 := leastK_cases S l l.length (Nat.le_refl _)
  have h2 := bestK_cases S (timeK S l k) l (fun c hc => (hl c hc).1) l.length (Nat.le_refl _)
  rw [List.take_length] at h1 h2
  rcases h1 with ⟨h3, h4⟩ | ⟨c, h3, h4, h5⟩ | h3
  · exact .inl ⟨by omega, h4⟩
  · have hc := hl c h3
    have htc := hok.t c.toNat (by omega)
    rcases h2 with ⟨h6, h7⟩ | ⟨h6, h7, h8, h9⟩
    · exact (h7 c h3 ⟨h4, by unfold timeK; omega⟩).elim
    · have hb := hl _ h6
      have e : bestK S (timeK S l k) l l.length = bestN S l k := by unfold bestN; omega
      refine .inr ⟨by omega, by omega, e, by rw [← e]; exact h6, by omega, h7, h8, h9⟩
  · exact h3.elim
theorem OkS.pick {n : Nat} {M : Int} {S : St} (h : OkS n M S) {l : List Int} (hl : ∀ c ∈ l, 0 ≤ c ∧ c < n) {k : Nat} (hk : k < n) (a : Bool) : OkS n (M + 8100000000) (pickH S l k a) := by
  have ht := h.t k hk
  have hb := h.b k hk
  unfold pickH
  rcases pick_best h hl k with ⟨h1, _⟩ | ⟨h1, h2, _, _, h4, h5, _, _⟩
  · rw [if_pos h1]
    have h3 : OkS n (M + 8100000000) S := h.mono (by omega)
    exact h3.upd hk ⟨rfl, rfl, rfl⟩ (by simp only; omega) (by simp only; omega)
  · rw [if_neg (by omega)]
    have hbb := h.b (bestN S l k) h4
    have hT : 0 ≤ timeK S l k ∧ timeK S l k ≤ M := by unfold timeK; omega
    have h3 : OkS n (M + 100000000) S := h.mono (by omega)
    have h6 : OkS n (M + 100000000) (setT S k (timeK S l k + (S (bestN S l k)).bytes * 27720)) := h3.upd hk ⟨rfl, rfl, rfl⟩ (by simp only; omega) (by simp only; omega)
    have h7 := h6.off hk (S (bestN S l k)).leaf hbb a
    have e : ∀ x, updS (setT S k (timeK S l k + (S (bestN S l k)).bytes * 27720)) k x = updS S k x := fun x => updS_updS _ _ _ _
    rw [e] at h7
    exact h7.mono (by omega)
theorem climb_ok {n : Nat} (kd : Nat → List Int) (hkd : ∀ k, k < n → ∀ c ∈ kd k, 0 ≤ c ∧ c < n) (a : Bool) : ∀ (f : Nat) (M : Int) (S : St) (k : Int), 0 ≤ M → k < n → OkS n M S → OkS n (M + 8100000000 * f) (climb kd a f S k)
  | 0, M, S, k, _, hk, h => h.mono (by omega)
  | f + 1, M, S, k, hM, hk, h => by
    unfold climb
    split
    · rename_i hc
      have h1 := h.pick (hkd k.toNat (by omega)) (k := k.toNat) (by omega) a
      have hu := h.up_lt (k := k.toNat) (by omega)
      have := climb_ok kd hkd a f (M + 8100000000) _ (S k.toNat).up (by omega) (by rcases hu with hu | ⟨p, hu, hp⟩ <;> omega) h1
      exact this.mono (by omega)
    · exact h.mono (by omega)
end Go.Proofs.Ytknfaoonjmlncaa
