/- Trees of classes, in plain Lean: what is right, the way down to a node, where two ways part. -/
set_option linter.unusedVariables false
namespace Go.Proofs.Ytknfaoonjmlncaa

/-- What is above a node, and its weight. -/
structure Nd where
  u : Int
  w : Int
def n0 : Nd := ⟨-1, 0⟩
def up (l : List Nd) (i : Nat) : Int := (l.getD i n0).u
def wt (l : List Nd) (i : Nat) : Int := (l.getD i n0).w
def okAt (l : List Nd) (i : Nat) : Prop := (1 ≤ wt l i ∧ wt l i ≤ 12) ∧ (i = 0 → up l i = -1) ∧ (0 < i → 0 ≤ up l i ∧ up l i < i)
def okT (l : List Nd) : Prop := 1 ≤ l.length ∧ l.length ≤ 16 ∧ ∀ i, i < l.length → okAt l i

def wayF (l : List Nd) : Nat → Nat → List Int
  | 0, _ => [0]
  | f + 1, n => if n = 0 then [0] else wayF l f (up l n).toNat ++ [(n : Int)]
/-- The way from the first node down to this one. -/
def way (l : List Nd) (n : Nat) : List Int := wayF l n n
theorem wayF_eq {l : List Nd} (h : okT l) : ∀ (f n : Nat), n ≤ f → n < l.length → wayF l f n = way l n
  | 0, n, h1, _ => by obtain rfl : n = 0 := by omega
                      rfl
  | f + 1, n, h1, h2 => by
    by_cases hn : n = 0
    · subst hn; rfl
    · obtain ⟨_, _, h4⟩ := h.2.2 n h2
      have h5 := h4 (by omega)
      have e1 : wayF l (f + 1) n = wayF l f (up l n).toNat ++ [(n : Int)] := by simp [wayF, hn]
      obtain ⟨m, rfl⟩ : ∃ m, n = m + 1 := ⟨n - 1, by omega⟩
      have e2 : way l (m + 1) = wayF l m (up l (m + 1)).toNat ++ [((m + 1 : Nat) : Int)] := by simp [way, wayF]
      rw [e1, e2, wayF_eq h f _ (by omega) (by omega), wayF_eq h m _ (by omega) (by omega)]
theorem way_zero (l : List Nd) : way l 0 = [0] := rfl
theorem way_step {l : List Nd} (h : okT l) {n : Nat} (hn : 0 < n) (h2 : n < l.length) : way l n = way l (up l n).toNat ++ [(n : Int)] := by
  obtain ⟨_, _, h4⟩ := h.2.2 n h2
  have h5 := h4 hn
  obtain ⟨m, rfl⟩ : ∃ m, n = m + 1 := ⟨n - 1, by omega⟩
  have e2 : way l (m + 1) = wayF l m (up l (m + 1)).toNat ++ [((m + 1 : Nat) : Int)] := by simp [way, wayF]
  rw [e2, wayF_eq h m _ (by omega) (by omega)]

theorem getD_app_left (a b : List Int) (i : Nat) (h : i < a.length) : (a ++ b).getD i 0 = a.getD i 0 := by
  simp only [List.getD_eq_getElem?_getD]; rw [List.getElem?_append_left h]
theorem getD_snoc (a : List Int) (x : Int) : (a ++ [x]).getD a.length 0 = x := by simp [List.getD_eq_getElem?_getD]

/-- The way goes step by step from the first node. -/
structure Way (l : List Nd) (n : Nat) (p : List Int) : Prop where
  pos : 1 ≤ p.length
  le : p.length ≤ n + 1
  first : p.getD 0 0 = 0
  last : p.getD (p.length - 1) 0 = n
  step : ∀ i, 1 ≤ i → i < p.length → 0 ≤ p.getD i 0 ∧ p.getD i 0 < l.length ∧ up l (p.getD i 0).toNat = p.getD (i - 1) 0 ∧ p.getD (i - 1) 0 < p.getD i 0
theorem way_ok {l : List Nd} (h : okT l) : ∀ (f n : Nat), n ≤ f → n < l.length → Way l n (way l n)
  | 0, n, h1, h2 => by
    obtain rfl : n = 0 := by omega
    exact ⟨by simp [way_zero], by simp [way_zero], rfl, rfl, fun i h1 h2 => by simp [way_zero] at h2; omega⟩
  | f + 1, n, h1, h2 => by
    by_cases hn : n = 0
    · exact way_ok h f n (by omega) h2
    · obtain ⟨_, _, h4⟩ := h.2.2 n h2
      have h5 := h4 (by omega)
      have ih := way_ok h f (up l n).toNat (by omega) (by omega)
      rw [way_step h (by omega) h2]
      generalize way l (up l n).toNat = p at *
      have hlen : (p ++ [(n : Int)]).length = p.length + 1 := by simp
      have := ih.pos
      have := ih.le
      refine ⟨by omega, by omega, by rw [getD_app_left _ _ _ (by omega)]; exact ih.first, by rw [hlen, Nat.add_sub_cancel, getD_snoc], fun i h6 h7 => ?_⟩
      by_cases hi : i < p.length
      · rw [getD_app_left _ _ _ hi, getD_app_left _ _ _ (by omega)]
        exact ih.step i h6 hi
      · obtain rfl : i = p.length := by omega
        rw [getD_snoc, getD_app_left _ _ _ (by omega), ih.last]
        refine ⟨by omega, by omega, ?_, by omega⟩
        rw [Int.toNat_natCast]; omega
theorem way_way {l : List Nd} (h : okT l) {n : Nat} (hn : n < l.length) : Way l n (way l n) := way_ok h n n (Nat.le_refl _) hn
theorem Way.mono {l : List Nd} {n : Nat} {p : List Int} (h : Way l n p) : ∀ (d i : Nat), i + d < p.length → p.getD i 0 ≤ p.getD (i + d) 0
  | 0, i, _ => by simp
  | d + 1, i, hd => by
    have := h.mono d i (by omega)
    have := (h.step (i + d + 1) (by omega) (by omega)).2.2.2
    rw [Nat.add_sub_cancel] at this
    rw [← Nat.add_assoc]; omega
/-- Who is on the way has the way's beginning. -/
theorem way_pre {l : List Nd} (h : okT l) : ∀ (f n : Nat), n ≤ f → n < l.length → ∀ c : Int, c ∈ way l n → 0 ≤ c ∧ c < l.length ∧ ∃ t, way l n = way l c.toNat ++ t
  | 0, n, h1, h2, c, hc => by
    obtain rfl : n = 0 := by omega
    rw [way_zero] at hc
    obtain rfl : c = 0 := by simpa using hc
    exact ⟨by omega, by omega, [], by simp⟩
  | f + 1, n, h1, h2, c, hc => by
    by_cases hn : n = 0
    · exact way_pre h f n (by omega) h2 c hc
    · obtain ⟨_, _, h4⟩ := h.2.2 n h2
      have h5 := h4 (by omega)
      rw [way_step h (by omega) h2] at hc ⊢
      rcases List.mem_append.1 hc with hc | hc
      · obtain ⟨a, b, t, ht⟩ := way_pre h f (up l n).toNat (by omega) (by omega) c hc
        exact ⟨a, b, t ++ [(n : Int)], by rw [ht, List.append_assoc]⟩
      · obtain rfl : c = n := by simpa using hc
        exact ⟨by omega, by omega, [], by rw [Int.toNat_natCast, way_step h (by omega) h2, List.append_nil]⟩
theorem way_mem {l : List Nd} (h : okT l) {n : Nat} (hn : n < l.length) : (n : Int) ∈ way l n := by
  have hw := way_way h hn
  have hp := hw.pos
  rw [← hw.last, List.getD_eq_getElem?_getD, List.getElem?_eq_getElem (by omega)]
  exact List.getElem_mem _

/-- How far two ways go together. -/
def comm : List Int → List Int → Nat
  | x :: a, y :: b => if x = y then comm a b + 1 else 0
  | _, _ => 0
theorem comm_le : ∀ (a b : List Int), comm a b ≤ a.length ∧ comm a b ≤ b.length
  | [], _ => by simp [comm]
  | x :: a, [] => by simp [comm]
  | x :: a, y :: b => by
    have := comm_le a b
    simp only [comm, List.length_cons]
    split <;> omega
theorem comm_sym : ∀ (a b : List Int), comm a b = comm b a
  | [], [] => rfl
  | [], y :: b => rfl
  | x :: a, [] => rfl
  | x :: a, y :: b => by
    have := comm_sym a b
    simp only [comm, this, eq_comm (a := x)]
theorem comm_same : ∀ (a : List Int), comm a a = a.length
  | [] => rfl
  | x :: a => by simp [comm, comm_same a]
theorem comm_get : ∀ (a b : List Int) (i : Nat), i < comm a b → a.getD i 0 = b.getD i 0
  | [], _, i, h => by simp [comm] at h
  | x :: a, [], i, h => by simp [comm] at h
  | x :: a, y :: b, i, h => by
    simp only [comm] at h
    split at h
    · rename_i e
      cases i with
      | zero => simpa using e
      | succ i => simpa using comm_get a b i (by omega)
    · omega
theorem comm_stop : ∀ (a b : List Int), comm a b < a.length → comm a b < b.length → a.getD (comm a b) 0 ≠ b.getD (comm a b) 0
  | [], _, h, _ => by simp [comm] at h
  | x :: a, [], _, h => by simp at h
  | x :: a, y :: b, h1, h2 => by
    simp only [comm] at h1 h2 ⊢
    split
    · rename_i e
      rw [if_pos e] at h1 h2
      simpa using comm_stop a b (by simpa using h1) (by simpa using h2)
    · rename_i e
      simpa using e
theorem comm_pre (p a b : List Int) : p.length ≤ comm (p ++ a) (p ++ b) := by
  induction p with
  | nil => simp
  | cons x p ih => simp only [List.cons_append, comm, if_true, List.length_cons]; omega
/-- Where two meet. -/
def meet (l : List Nd) (a b : Nat) : Int := (way l a).getD (comm (way l a) (way l b) - 1) 0
theorem comm_pos {l : List Nd} (h : okT l) {a b : Nat} (ha : a < l.length) (hb : b < l.length) : 1 ≤ comm (way l a) (way l b) := by
  have h1 := way_way h ha
  have h2 := way_way h hb
  have e1 := h1.first
  have e2 := h2.first
  have p1 := h1.pos
  have p2 := h2.pos
  generalize way l a = p at *
  generalize way l b = q at *
  cases p with
  | nil => simp at p1
  | cons x p =>
    cases q with
    | nil => simp at p2
    | cons y q =>
      simp at e1 e2
      simp [comm, e1, e2]
theorem meet_sym {l : List Nd} (h : okT l) {a b : Nat} (ha : a < l.length) (hb : b < l.length) : meet l a b = meet l b a := by
  have h1 := comm_pos h ha hb
  unfold meet
  rw [comm_sym (way l b) (way l a)]
  exact comm_get _ _ _ (by omega)
theorem meet_same {l : List Nd} (h : okT l) {a : Nat} (ha : a < l.length) : meet l a a = a := by
  unfold meet
  rw [comm_same]
  exact (way_way h ha).last
theorem meet_mem {l : List Nd} (h : okT l) {a b : Nat} (ha : a < l.length) (hb : b < l.length) : meet l a b ∈ way l a ∧ meet l a b ∈ way l b := by
  have mem : ∀ {a b : Nat}, a < l.length → b < l.length → meet l a b ∈ way l a := fun {a b} ha hb => by
    have h1 := comm_pos h ha hb
    have h2 := comm_le (way l a) (way l b)
    unfold meet
    rw [List.getD_eq_getElem?_getD, List.getElem?_eq_getElem (by omega)]
    exact List.getElem_mem _
  exact ⟨mem ha hb, by rw [meet_sym h ha hb]; exact mem hb ha⟩
theorem meet_low {l : List Nd} (h : okT l) {a b : Nat} (ha : a < l.length) (hb : b < l.length) {c : Int} (h1 : c ∈ way l a) (h2 : c ∈ way l b) : c ≤ meet l a b := by
  obtain ⟨c0, c1, t, ht⟩ := way_pre h a a (Nat.le_refl _) ha c h1
  obtain ⟨_, _, s, hs⟩ := way_pre h b b (Nat.le_refl _) hb c h2
  have hc := way_way h (show c.toNat < l.length by omega)
  have hp := hc.pos
  have h3 : (way l c.toNat).length ≤ comm (way l a) (way l b) := by rw [ht, hs]; exact comm_pre _ _ _
  have h4 := comm_le (way l a) (way l b)
  have hw := way_way h ha
  have h5 := hw.mono (comm (way l a) (way l b) - 1 - ((way l c.toNat).length - 1)) ((way l c.toNat).length - 1) (by omega)
  have h6 : (way l a).getD ((way l c.toNat).length - 1) 0 = c := by
    rw [ht, getD_app_left _ _ _ (by omega), hc.last]; omega
  rw [h6] at h5
  unfold meet
  rw [show (way l c.toNat).length - 1 + (comm (way l a) (way l b) - 1 - ((way l c.toNat).length - 1)) = comm (way l a) (way l b) - 1 by omega] at h5
  exact h5
/-- Has a node others below it? -/
def kids (l : List Nd) (i : Int) : Bool := l.any fun n => n.u == i
/-- The leaves among the first ones. -/
def lvs (l : List Nd) : Nat → List Int
  | 0 => []
  | i + 1 => lvs l i ++ (if kids l i then [] else [(i : Int)])
theorem lvs_len (l : List Nd) : ∀ i, (lvs l i).length ≤ i
  | 0 => by simp [lvs]
  | i + 1 => by
    have := lvs_len l i
    simp only [lvs, List.length_append]
    split <;> simp <;> omega
theorem lvs_mem (l : List Nd) : ∀ (i : Nat) (c : Int), c ∈ lvs l i ↔ (0 ≤ c ∧ c < i ∧ kids l c = false)
  | 0, c => by simp [lvs]; omega
  | i + 1, c => by
    have ih := lvs_mem l i c
    simp only [lvs, List.mem_append, ih]
    cases hk : kids l i with
    | true =>
      simp only [if_true, List.not_mem_nil, or_false]
      constructor
      · rintro ⟨a, b, d⟩; exact ⟨a, by omega, d⟩
      · rintro ⟨a, b, d⟩
        refine ⟨a, ?_, d⟩
        by_cases h : c = i
        · subst h; rw [hk] at d; cases d
        · omega
    | false =>
      simp only [Bool.false_eq_true, if_false, List.mem_singleton]
      constructor
      · rintro (⟨a, b, d⟩ | rfl)
        · exact ⟨a, by omega, d⟩
        · exact ⟨by omega, by omega, hk⟩
      · rintro ⟨a, b, d⟩
        by_cases h : c = i
        · exact Or.inr h
        · exact Or.inl ⟨a, by omega, d⟩
/-- The weights of all that are below this one, among the first ones. -/
def sumW (l : List Nd) (u : Int) : Nat → Int
  | 0 => 0
  | i + 1 => sumW l u i + (if up l i = u then wt l i else 0)
theorem sumW_bound {l : List Nd} (h : okT l) (u : Int) : ∀ i, i ≤ l.length → 0 ≤ sumW l u i ∧ sumW l u i ≤ 12 * i
  | 0, _ => by simp [sumW]
  | i + 1, hi => by
    have := sumW_bound h u i (by omega)
    have hw := (h.2.2 i (by omega)).1
    simp only [sumW]
    split <;> omega
theorem sumW_one {l : List Nd} (h : okT l) {u : Int} {k : Nat} (hk : up l k = u) : ∀ i, k < i → i ≤ l.length → 1 ≤ sumW l u i ∧ wt l k ≤ sumW l u i
  | 0, h1, _ => by omega
  | i + 1, h1, h2 => by
    have hb := sumW_bound h u i (by omega)
    have hw := (h.2.2 k (by omega)).1
    simp only [sumW]
    by_cases he : k = i
    · subst he; rw [if_pos hk]; omega
    · have := sumW_one h hk i (by omega) (by omega)
      have := (h.2.2 i (by omega)).1
      split <;> omega
end Go.Proofs.Ytknfaoonjmlncaa
