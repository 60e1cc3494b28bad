/- What is to be first, found again by numbers: in plain Lean. -/
set_option linter.unusedVariables false
set_option linter.unusedSimpArgs false
namespace Go.Proofs.Ytjdmpkaiijcchaa

structure It where
  i : Int
  h : Int
  l : Int
  deriving DecidableEq
def i0 : It := ⟨0, 0, 0⟩
structure Op where
  k : Int
  i : Int
  h : Int
  l : Int
def o0 : Op := ⟨0, 0, 0, 0⟩
def It.ok (x : It) : Prop := (-9223372036854775808 ≤ x.i ∧ x.i ≤ 9223372036854775807) ∧ (0 ≤ x.h ∧ x.h ≤ 18446744073709551615) ∧ 0 ≤ x.l ∧ x.l ≤ 18446744073709551615
def Op.ok (x : Op) : Prop := (-9223372036854775808 ≤ x.i ∧ x.i ≤ 9223372036854775807) ∧ (0 ≤ x.h ∧ x.h ≤ 18446744073709551615) ∧ 0 ≤ x.l ∧ x.l ≤ 18446744073709551615
/-- Where an item stands. -/
def rk (x : It) : Int := (x.h * 18446744073709551616 + x.l) * 18446744073709551616 + x.i
def cmpI (x y : Int) : Int := if x < y then -1 else if y < x then 1 else 0
def cmpK (x y : It) : Int := if cmpI x.h y.h ≠ 0 then cmpI x.h y.h else cmpI x.l y.l
theorem rk_inj {x y : It} (hx : x.ok) (hy : y.ok) (h : rk x = rk y) : x = y := by
  obtain ⟨a, b, c⟩ := x
  obtain ⟨d, e, f⟩ := y
  simp only [It.ok, rk, It.mk.injEq] at *
  have h1 : b = e := by omega
  subst h1
  have h2 : c = f := by omega
  subst h2
  exact ⟨by omega, rfl, rfl⟩
theorem cmpK_lt {x y : It} (hx : x.ok) (hy : y.ok) (h : cmpK x y ≠ 0) : cmpK x y < 0 ↔ rk x < rk y := by
  obtain ⟨a, b, c⟩ := x
  obtain ⟨d, e, f⟩ := y
  simp only [It.ok, rk, cmpK] at *
  by_cases h1 : b < e
  · have : cmpI b e = -1 := by unfold cmpI; rw [if_pos h1]
    rw [this, if_pos (by omega)]
    exact ⟨fun _ => by omega, fun _ => by omega⟩
  · by_cases h2 : e < b
    · have : cmpI b e = 1 := by unfold cmpI; rw [if_neg h1, if_pos h2]
      rw [this, if_pos (by omega)]
      exact ⟨fun _ => by omega, fun _ => by omega⟩
    · have h0 : cmpI b e = 0 := by unfold cmpI; rw [if_neg h1, if_neg h2]
      obtain rfl : b = e := by omega
      rw [h0, if_neg (by omega)] at h ⊢
      by_cases h3 : c < f
      · have : cmpI c f = -1 := by unfold cmpI; rw [if_pos h3]
        rw [this]
        exact ⟨fun _ => by omega, fun _ => by omega⟩
      · by_cases h4 : f < c
        · have : cmpI c f = 1 := by unfold cmpI; rw [if_neg h3, if_pos h4]
          rw [this]
          exact ⟨fun _ => by omega, fun _ => by omega⟩
        · have : cmpI c f = 0 := by unfold cmpI; rw [if_neg h3, if_neg h4]
          exact (h this).elim
theorem cmpK_eq {x y : It} (h : cmpK x y = 0) : x.h = y.h ∧ x.l = y.l := by
  have key : ∀ a b, cmpI a b = 0 → a = b := fun a b h => by
    unfold cmpI at h
    split at h
    · omega
    · split at h <;> omega
  unfold cmpK at h
  split at h
  · rename_i h1; exact (h1 h).elim
  · rename_i h1
    exact ⟨key _ _ (Classical.not_not.1 h1), key _ _ h⟩
theorem less_iff {x y : It} (hx : x.ok) (hy : y.ok) : (if cmpK x y ≠ 0 then cmpK x y < 0 else x.i < y.i) ↔ rk x < rk y := by
  split
  · rename_i h; exact cmpK_lt hx hy h
  · rename_i h
    obtain ⟨h1, h2⟩ := cmpK_eq (Classical.not_not.1 h)
    unfold rk
    rw [h1, h2]
    omega

def sw {α : Type} (f : Nat → α) (i j : Nat) : Nat → α := fun m => if m = i then f j else if m = j then f i else f m
theorem sw_i {α : Type} (f : Nat → α) (i j : Nat) : sw f i j i = f j := if_pos rfl
theorem sw_j {α : Type} (f : Nat → α) (i j : Nat) : sw f i j j = f i := by
  unfold sw
  by_cases h : j = i
  · rw [if_pos h, h]
  · rw [if_neg h, if_pos rfl]
theorem sw_ne {α : Type} (f : Nat → α) {i j m : Nat} (h : m ≠ i) (h2 : m ≠ j) : sw f i j m = f m := by
  unfold sw; rw [if_neg h, if_neg h2]
theorem sw_mem {α : Type} (f : Nat → α) {i j n : Nat} (hi : i < n) (hj : j < n) (x : α) : (∃ m, m < n ∧ sw f i j m = x) ↔ ∃ m, m < n ∧ f m = x := by
  constructor
  · rintro ⟨m, h1, h2⟩
    by_cases e : m = i
    · subst e; rw [sw_i] at h2; exact ⟨j, hj, h2⟩
    · by_cases e2 : m = j
      · subst e2; rw [sw_j] at h2; exact ⟨i, hi, h2⟩
      · rw [sw_ne f e e2] at h2; exact ⟨m, h1, h2⟩
  · rintro ⟨m, h1, h2⟩
    by_cases e : m = i
    · subst e; exact ⟨j, hj, by rw [sw_j]; exact h2⟩
    · by_cases e2 : m = j
      · subst e2; exact ⟨i, hi, by rw [sw_i]; exact h2⟩
      · exact ⟨m, h1, by rw [sw_ne f e e2]; exact h2⟩
/-- All stand as they should, but for the one at k and what is below it. -/
def UpI (f : Nat → Int) (n k : Nat) : Prop := (∀ j, 0 < j → j < n → j ≠ k → (j - 1) / 2 ≠ k → f ((j - 1) / 2) ≤ f j) ∧ ∀ c, 0 < c → c < n → (c - 1) / 2 = k → 0 < k → f ((k - 1) / 2) ≤ f c
def DnI (f : Nat → Int) (n k : Nat) : Prop := (∀ j, 0 < j → j < n → (j - 1) / 2 ≠ k → f ((j - 1) / 2) ≤ f j) ∧ ∀ c, 0 < c → c < n → (c - 1) / 2 = k → 0 < k → f ((k - 1) / 2) ≤ f c
def HpI (f : Nat → Int) (n : Nat) : Prop := ∀ j, 0 < j → j < n → f ((j - 1) / 2) ≤ f j
theorem UpI.step {f : Nat → Int} {n k : Nat} (h : UpI f n k) (h0 : 0 < k) (hk : k < n) (hl : f k < f ((k - 1) / 2)) : UpI (sw f k ((k - 1) / 2)) n ((k - 1) / 2) := by
  obtain ⟨h1, h2⟩ := h
  refine ⟨fun j j0 jn jk jp => ?_, fun c c0 cn cp p0 => ?_⟩
  · by_cases e : j = k
    · subst e; exact (jp rfl).elim
    · rw [sw_ne f e jk]
      by_cases e2 : (j - 1) / 2 = k
      · rw [e2, sw_i]; exact h2 j j0 jn e2 h0
      · rw [sw_ne f e2 jp]; exact h1 j j0 jn e e2
  · have hpp : ((k - 1) / 2 - 1) / 2 ≠ k := by omega
    have hpp2 : ((k - 1) / 2 - 1) / 2 ≠ (k - 1) / 2 := by omega
    rw [sw_ne f hpp hpp2]
    have hp := h1 ((k - 1) / 2) p0 (by omega) (by omega) (by omega)
    by_cases e : c = k
    · subst e; rw [sw_i]; exact hp
    · rw [sw_ne f e (by omega)]
      have := h1 c c0 cn e (by omega)
      rw [cp] at this
      omega
theorem UpI.done {f : Nat → Int} {n k : Nat} (h : UpI f n k) (hd : k = 0 ∨ f ((k - 1) / 2) ≤ f k) : DnI f n k := by
  refine ⟨fun j j0 jn jp => ?_, h.2⟩
  by_cases e : j = k
  · subst e; rcases hd with h | h
    · omega
    · exact h
  · exact h.1 j j0 jn e jp
theorem DnI.step {f : Nat → Int} {n k c : Nat} (h : DnI f n k) (c0 : 0 < c) (hc : c < n) (hp : (c - 1) / 2 = k) (hl : f c < f k) (ho : ∀ o, 0 < o → o < n → (o - 1) / 2 = k → f c ≤ f o) : DnI (sw f c k) n c := by
  obtain ⟨h1, h2⟩ := h
  refine ⟨fun j j0 jn jp => ?_, fun d d0 dn dp _ => ?_⟩
  · by_cases e : (j - 1) / 2 = k
    · rw [e, sw_j]
      by_cases e2 : j = c
      · subst e2; rw [sw_i]; omega
      · rw [sw_ne f e2 (by omega)]; exact ho j j0 jn e
    · rw [sw_ne f jp e]
      by_cases e2 : j = k
      · subst e2
        rw [sw_j]
        exact h2 c c0 hc hp j0
      · rw [sw_ne f (by omega) e2]
        exact h1 j j0 jn e
  · rw [hp, sw_j, sw_ne f (by omega) (by omega)]
    have := h1 d d0 dn (by omega)
    rw [dp] at this
    exact this
theorem DnI.done {f : Nat → Int} {n k : Nat} (h : DnI f n k) (ho : ∀ o, 0 < o → o < n → (o - 1) / 2 = k → f k ≤ f o) : HpI f n := fun j j0 jn => by
  by_cases e : (j - 1) / 2 = k
  · rw [e]; exact ho j j0 jn e
  · exact h.1 j j0 jn e
theorem HpI.turn {f g : Nat → Int} {n k : Nat} (h : HpI f n) (hg : ∀ j, j < n → j ≠ k → g j = f j) (hk : k < n) : UpI g n k := by
  refine ⟨fun j j0 jn jk jp => ?_, fun c c0 cn cp k0 => ?_⟩
  · rw [hg j jn jk, hg _ (by omega) jp]; exact h j j0 jn
  · rw [hg c cn (by omega), hg _ (by omega) (by omega)]
    have h1 := h k k0 hk
    have h2 := h c c0 cn
    rw [cp] at h2
    omega
theorem HpI.push {f g : Nat → Int} {n : Nat} (h : HpI f n) (hg : ∀ j, j < n → g j = f j) : UpI g (n + 1) n := by
  refine ⟨fun j j0 jn jk jp => ?_, fun c c0 cn cp k0 => by omega⟩
  rw [hg j (by omega), hg _ (by omega)]; exact h j j0 (by omega)
theorem HpI.less {f : Nat → Int} {n m : Nat} (h : HpI f n) (hm : m ≤ n) : HpI f m := fun j j0 jn => h j j0 (by omega)
theorem HpI.congr {f g : Nat → Int} {n : Nat} (h : HpI f n) (hg : ∀ j, j < n → g j = f j) : HpI g n := fun j j0 jn => by
  rw [hg j jn, hg _ (by omega)]; exact h j j0 jn
theorem HpI.root {f : Nat → Int} {n : Nat} (h : HpI f n) : ∀ (d j : Nat), j ≤ d → j < n → f 0 ≤ f j
  | 0, j, hd, hj => by obtain rfl : j = 0 := by omega
                       exact Int.le_refl _
  | d + 1, j, hd, hj => by
    by_cases e : j = 0
    · subst e; exact Int.le_refl _
    · have h1 := h j (by omega) hj
      have h2 := HpI.root h d ((j - 1) / 2) (by omega) (by omega)
      omega

/-- Items in a row, the first one first. -/
def Srt : List It → Prop
  | [] => True
  | x :: t => (∀ y ∈ t, rk x < rk y) ∧ Srt t
theorem Srt.uniq : ∀ {a b : List It}, Srt a → Srt b → (∀ x, x ∈ a ↔ x ∈ b) → a = b
  | [], [], _, _, _ => rfl
  | [], y :: b, _, _, h => by have := (h y).2 List.mem_cons_self; cases this
  | x :: a, [], _, _, h => by have := (h x).1 List.mem_cons_self; cases this
  | x :: a, y :: b, ha, hb, h => by
    have hxy : x = y := by
      have h1 := (h x).1 List.mem_cons_self
      have h2 := (h y).2 List.mem_cons_self
      rcases List.mem_cons.1 h1 with e | h1
      · exact e
      · rcases List.mem_cons.1 h2 with e | h2
        · exact e.symm
        · have := ha.1 y h2
          have := hb.1 x h1
          omega
    subst hxy
    congr 1
    refine Srt.uniq ha.2 hb.2 fun z => ⟨fun hz => ?_, fun hz => ?_⟩
    · rcases List.mem_cons.1 ((h z).1 (List.mem_cons_of_mem _ hz)) with e | h1
      · subst e; have := ha.1 z hz; omega
      · exact h1
    · rcases List.mem_cons.1 ((h z).2 (List.mem_cons_of_mem _ hz)) with e | h1
      · subst e; have := hb.1 z hz; omega
      · exact h1
def insS (x : It) : List It → List It
  | [] => [x]
  | y :: t => if rk x < rk y then x :: y :: t else y :: insS x t
theorem insS_mem (x : It) : ∀ (s : List It) (y : It), y ∈ insS x s ↔ y = x ∨ y ∈ s
  | [], y => by simp [insS]
  | z :: t, y => by
    unfold insS
    split
    · simp
    · rw [List.mem_cons, insS_mem x t y, List.mem_cons]
      constructor
      · rintro (h | h | h)
        · exact .inr (.inl h)
        · exact .inl h
        · exact .inr (.inr h)
      · rintro (h | h | h)
        · exact .inr (.inl h)
        · exact .inl h
        · exact .inr (.inr h)
theorem insS_srt {x : It} : ∀ {s : List It}, Srt s → (∀ y ∈ s, rk y ≠ rk x) → Srt (insS x s)
  | [], _, _ => ⟨fun y h => (by cases h), trivial⟩
  | z :: t, h, hn => by
    unfold insS
    split
    · rename_i hx
      refine ⟨fun y hy => ?_, h⟩
      rcases List.mem_cons.1 hy with e | hy
      · subst e; exact hx
      · have := h.1 y hy; omega
    · rename_i hx
      have h0 := hn z List.mem_cons_self
      refine ⟨fun y hy => ?_, insS_srt h.2 fun y hy => hn y (List.mem_cons_of_mem _ hy)⟩
      rcases (insS_mem x t y).1 hy with e | hy
      · subst e; omega
      · exact h.1 y hy
theorem Srt.filter {p : It → Bool} : ∀ {s : List It}, Srt s → Srt (s.filter p)
  | [], _ => trivial
  | z :: t, h => by
    rw [List.filter_cons]
    split
    · exact ⟨fun y hy => h.1 y (List.mem_filter.1 hy).1, Srt.filter h.2⟩
    · exact Srt.filter h.2
def outI (s : List It) (i : Int) : List It := s.filter fun x => x.i != i
theorem outI_mem (s : List It) (i : Int) (x : It) : x ∈ outI s i ↔ x ∈ s ∧ x.i ≠ i := by
  unfold outI; rw [List.mem_filter]; simp
def hasI (s : List It) (i : Int) : Bool := s.any fun x => x.i == i
theorem hasI_iff (s : List It) (i : Int) : hasI s i = true ↔ ∃ x ∈ s, x.i = i := by
  unfold hasI; rw [List.any_eq_true]; simp
structure Rn where
  errs : List Int
  pop : List Int
  s : List It
/-- What is done to a row: what is wrong with it, who was popped, who is left. -/
def doP (s : List It) (o : Op) : Int × Int × List It :=
  if o.k = 1 then
    if hasI s o.i then (6, 0, s) else (0, 0, insS ⟨o.i, o.h, o.l⟩ s)
  else if o.k = 2 then
    match s with
    | [] => (3, 0, [])
    | x :: t => (0, x.i, t)
  else if o.k = 3 then
    if hasI s o.i then (0, 0, outI s o.i) else (3, 0, s)
  else if o.k = 4 then
    if hasI s o.i then (0, 0, insS ⟨o.i, o.h, o.l⟩ (outI s o.i)) else (3, 0, s)
  else (5, 0, s)
def stepR (r : Rn) (o : Op) : Rn := ⟨r.errs ++ [(doP r.s o).1], if (doP r.s o).1 = 0 ∧ o.k = 2 then r.pop ++ [(doP r.s o).2.1] else r.pop, (doP r.s o).2.2⟩
def runR (ops : List Op) : Rn := ops.foldl stepR ⟨[], [], []⟩
theorem runR_snoc (ops : List Op) (o : Op) : runR (ops ++ [o]) = stepR (runR ops) o := by simp [runR, List.foldl_append]
theorem outI_srt {s : List It} (h : Srt s) (i : Int) : Srt (outI s i) := h.filter
theorem len_insS (x : It) : ∀ s : List It, (insS x s).length = s.length + 1
  | [] => rfl
  | y :: t => by
    unfold insS; split
    · rfl
    · simp [len_insS x t]
/-- What the row and the heap have in common. -/
structure Abs (s : List It) (g : Nat → It) (n : Nat) : Prop where
  srt : Srt s
  mem : ∀ x, x ∈ s ↔ ∃ m, m < n ∧ g m = x
  ok : ∀ m, m < n → (g m).ok
  hp : HpI (fun m => rk (g m)) n
  one : ∀ m m', m < n → m' < n → (g m).i = (g m').i → m = m'
theorem Abs.has {s : List It} {g : Nat → It} {n : Nat} (h : Abs s g n) (i : Int) : hasI s i = true ↔ ∃ m, m < n ∧ (g m).i = i := by
  rw [hasI_iff]
  constructor
  · rintro ⟨x, h1, h2⟩
    obtain ⟨m, h3, h4⟩ := (h.mem x).1 h1
    exact ⟨m, h3, by rw [h4]; exact h2⟩
  · rintro ⟨m, h1, h2⟩
    exact ⟨g m, (h.mem _).2 ⟨m, h1, rfl⟩, h2⟩
theorem Abs.nil {s : List It} {g : Nat → It} {n : Nat} (h : Abs s g n) : s = [] ↔ n = 0 := by
  constructor
  · rintro rfl
    refine Classical.byContradiction fun hn => ?_
    have := (h.mem (g 0)).2 ⟨0, by omega, rfl⟩
    cases this
  · rintro rfl
    cases s with
    | nil => rfl
    | cons x t =>
      obtain ⟨m, hm, _⟩ := (h.mem x).1 List.mem_cons_self
      omega
theorem Abs.head {x : It} {t : List It} {g : Nat → It} {n : Nat} (h : Abs (x :: t) g n) : 0 < n ∧ g 0 = x := by
  have hn : 0 < n := by
    refine Classical.byContradiction fun hn => ?_
    have := h.nil.2 (by omega)
    cases this
  refine ⟨hn, ?_⟩
  obtain ⟨m, hm, he⟩ := (h.mem x).1 List.mem_cons_self
  have h1 := h.hp.root m m (Nat.le_refl _) hm
  simp only [he] at h1
  rcases List.mem_cons.1 ((h.mem (g 0)).2 ⟨0, hn, rfl⟩) with e | h2
  · exact e
  · have := h.srt.1 _ h2; omega
theorem Abs.start (g : Nat → It) : Abs [] g 0 := ⟨trivial, fun x => ⟨fun h => (by cases h), fun ⟨m, h, _⟩ => by omega⟩, fun m h => by omega, fun j h h2 => by omega, fun m m' h => by omega⟩
/-- One more. -/
theorem Abs.push {s : List It} {g g' : Nat → It} {n : Nat} (h : Abs s g n) {x : It} (hx : x.ok) (hn : hasI s x.i = false) (hm : ∀ y, (∃ m, m < n + 1 ∧ g' m = y) ↔ y = x ∨ ∃ m, m < n ∧ g m = y) (hp : HpI (fun m => rk (g' m)) (n + 1)) (h1 : ∀ m m', m < n + 1 → m' < n + 1 → (g' m).i = (g' m').i → m = m') : Abs (insS x s) g' (n + 1) := by
  have hno : ∀ y ∈ s, y.i ≠ x.i := fun y hy e => by
    rw [(hasI_iff s x.i).2 ⟨y, hy, e⟩] at hn; cases hn
  have hyok : ∀ y ∈ s, y.ok := fun y hy => by
    obtain ⟨m, h1, h2⟩ := (h.mem y).1 hy
    rw [← h2]; exact h.ok m h1
  refine ⟨insS_srt h.srt fun y hy e => hno y hy (by rw [rk_inj (hyok y hy) hx e]), fun y => ?_, fun m hm' => ?_, hp, h1⟩
  · rw [insS_mem, h.mem, hm]
  · rcases (hm (g' m)).1 ⟨m, hm', rfl⟩ with e | ⟨m', h2, h3⟩
    · rw [e]; exact hx
    · rw [← h3]; exact h.ok m' h2
/-- One less. -/
theorem Abs.take {s s' : List It} {g g' : Nat → It} {n : Nat} (h : Abs s g (n + 1)) {x : It} (hs : Srt s') (hs' : ∀ y, y ∈ s' ↔ y ∈ s ∧ y ≠ x) (hm : ∀ y, (∃ m, m < n ∧ g' m = y) ↔ (∃ m, m < n + 1 ∧ g m = y) ∧ y ≠ x) (hp : HpI (fun m => rk (g' m)) n) (h1 : ∀ m m', m < n → m' < n → (g' m).i = (g' m').i → m = m') : Abs s' g' n := by
  refine ⟨hs, fun y => ?_, fun m hm' => ?_, hp, h1⟩
  · rw [hs', h.mem, hm]
  · obtain ⟨⟨m', h2, h3⟩, _⟩ := (hm (g' m)).1 ⟨m, hm', rfl⟩
    rw [← h3]; exact h.ok m' h2
theorem tail_mem {x : It} {t : List It} (h : Srt (x :: t)) (y : It) : y ∈ t ↔ y ∈ x :: t ∧ y ≠ x := by
  constructor
  · intro hy
    exact ⟨List.mem_cons_of_mem _ hy, fun e => by subst e; have := h.1 y hy; omega⟩
  · rintro ⟨hy, hne⟩
    rcases List.mem_cons.1 hy with e | h2
    · exact (hne e).elim
    · exact h2
theorem Abs.one_mem {s : List It} {g : Nat → It} {n : Nat} (h : Abs s g n) {k : Nat} (hk : k < n) (y : It) : y ∈ outI s (g k).i ↔ y ∈ s ∧ y ≠ g k := by
  rw [outI_mem]
  constructor
  · rintro ⟨h1, h2⟩
    exact ⟨h1, fun e => h2 (by rw [e])⟩
  · rintro ⟨h1, h2⟩
    refine ⟨h1, fun e => h2 ?_⟩
    obtain ⟨m, h3, h4⟩ := (h.mem y).1 h1
    rw [← h4] at e ⊢
    rw [h.one m k h3 hk e]
theorem Abs.turn {s : List It} {g g' : Nat → It} {n : Nat} (h : Abs s g n) {x : It} (hx : x.ok) {k : Nat} (hk : k < n) (hi : x.i = (g k).i) (hm : ∀ y, (∃ m, m < n ∧ g' m = y) ↔ y = x ∨ (∃ m, m < n ∧ g m = y) ∧ y ≠ g k) (hp : HpI (fun m => rk (g' m)) n) (h1 : ∀ m m', m < n → m' < n → (g' m).i = (g' m').i → m = m') : Abs (insS x (outI s x.i)) g' n := by
  have hyok : ∀ y ∈ s, y.ok := fun y hy => by
    obtain ⟨m, h1, h2⟩ := (h.mem y).1 hy
    rw [← h2]; exact h.ok m h1
  refine ⟨insS_srt (outI_srt h.srt x.i) fun y hy e => ?_, fun y => ?_, fun m hm' => ?_, hp, h1⟩
  · obtain ⟨h2, h3⟩ := (outI_mem s x.i y).1 hy
    exact h3 (by rw [rk_inj (hyok y h2) hx e])
  · rw [insS_mem, hm, hi, h.one_mem hk, h.mem]
  · rcases (hm (g' m)).1 ⟨m, hm', rfl⟩ with e | ⟨⟨m', h2, h3⟩, _⟩
    · rw [e]; exact hx
    · rw [← h3]; exact h.ok m' h2
end Go.Proofs.Ytjdmpkaiijcchaa
