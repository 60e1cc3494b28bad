import Derived.Test.YtabcjhpgamhpoaaSeqF
import Derived.Test.YtabcjhpgamhpoaaSteps5
import Derived.Test.YtabcjhpgamhpoaaPlain4
set_option linter.unusedSimpArgs false
set_option linter.unusedVariables false
set_option maxHeartbeats 2000000
set_option maxRecDepth 20000
namespace Go.Proofs.Ytabcjhpgamhpoaa
open Go Go.Am
attribute [local irreducible] opsW Ww loopW callW drawW outW outDW gW cW BrW bothW vW resW DropW RdW dcallW altW forkW splitW Later.run

/-- A map's entries: key, value, birth. -/
abbrev T3 := Int × Int × Nat
def E (t : T3) : MapEntry := ⟨.int .i64 t.1, .int .i64 t.2.1, t.2.2⟩
def lk : List T3 → Int → Option Int
  | [], _ => none
  | t :: m, n => if n = t.1 then some t.2.1 else lk m n
def bn : List T3 → Int → Nat
  | [], _ => 0
  | t :: m, n => if n = t.1 then t.2.2 else bn m n
def st : List T3 → Int → Int → List T3
  | [], _, _ => []
  | t :: m, n, v => if n = t.1 then (t.1, v, t.2.2) :: m else t :: st m n v
def dl : List T3 → Int → List T3
  | [], _ => []
  | t :: m, n => if n = t.1 then m else t :: dl m n
def WM : List T3 → Nat → Prop
  | [], _ => True
  | t :: m, c => t.2.2 < c ∧ (∀ x ∈ m, x.2.2 ≠ t.2.2 ∧ x.1 ≠ t.1) ∧ WM m c
theorem mfind_E (n : Int) : ∀ (m : List T3) (b : Nat), (lk m n = none ∧ mfind .i64 n (m.map E) b = some none) ∨ ∃ j u, lk m n = some u ∧ mfind .i64 n (m.map E) b = some (some (b + j, .int .i64 u)) ∧ ((m.map E)[j]?).map (·.born) = some (bn m n) ∧ (∀ v : Int, setVal (m.map E) j (.int .i64 v) = (st m n v).map E) ∧ (m.map E).eraseIdx j = (dl m n).map E
  | [], b => .inl ⟨rfl, rfl⟩
  | t :: m, b => by
    by_cases h : n = t.1
    · refine .inr ⟨0, t.2.1, by simp [lk, h], by simp [mfind, E, h], by simp [bn, E, h], fun v => by simp [setVal, st, h, E], by simp [dl, h]⟩
    · rcases mfind_E n m (b + 1) with ⟨h1, h2⟩ | ⟨j, u, h1, h2, h3, h4, h5⟩
      · exact .inl ⟨by simp [lk, h, h1], by simp [mfind, E, h]; exact h2⟩
      · refine .inr ⟨j + 1, u, by simp [lk, h, h1], ?_, ?_, fun v => ?_, ?_⟩
        · simp only [List.map_cons, mfind, E, if_true, if_neg h]
          show mfind .i64 n (m.map E) (b + 1) = _
          rw [h2, show b + 1 + j = b + (j + 1) by omega]
        · simp only [List.map_cons, List.getElem?_cons_succ, bn, if_neg h]; exact h3
        · have := h4 v
          unfold setVal at this ⊢
          simp only [List.map_cons, List.modify_succ_cons, st, if_neg h, this]
        · simp only [List.map_cons, List.eraseIdx_cons_succ, dl, if_neg h, h5]
theorem born_find {m : List T3} {c : Nat} : ∀ {j : Nat} {b : Nat}, WM m c → ((m.map E)[j]?).map (·.born) = some b → (m.map E).findIdx? (fun e => (e.born : Int) == (b : Int)) = some j := by
  induction m with
  | nil => intro j b _ h; simp at h
  | cons t m ih =>
    intro j b hw h
    obtain ⟨_, hd, hw⟩ := hw
    cases j with
    | zero =>
      have : t.2.2 = b := by simpa [E] using h
      simp [List.findIdx?_cons, E, this]
    | succ j =>
      have h' : ((m.map E)[j]?).map (·.born) = some b := by simpa using h
      have hne : ¬ t.2.2 = b := by
        intro e
        rw [Option.map_eq_some_iff] at h'
        obtain ⟨x, h1, h2⟩ := h'
        have hx := List.mem_of_getElem? h1
        obtain ⟨y, hy, rfl⟩ := List.mem_map.1 hx
        exact (hd y hy).1 (by rw [e]; exact h2)
      have hb : (((E t).born : Int) == (b : Int)) = false := by
        rw [beq_eq_false_iff_ne]
        intro e
        exact hne (by have : (t.2.2 : Int) = b := e; omega)
      rw [List.map_cons, List.findIdx?_cons, hb, ih hw h']
      rfl
theorem st_mem (n v : Int) : ∀ (m : List T3) (x : T3), x ∈ st m n v → ∃ y ∈ m, y.1 = x.1 ∧ y.2.2 = x.2.2
  | [], x, h => by cases h
  | t :: m, x, h => by
    unfold st at h
    split at h
    · rcases List.mem_cons.1 h with e | h
      · exact ⟨t, List.mem_cons_self, by rw [e], by rw [e]⟩
      · exact ⟨x, List.mem_cons_of_mem _ h, rfl, rfl⟩
    · rcases List.mem_cons.1 h with e | h
      · exact ⟨t, List.mem_cons_self, by rw [e], by rw [e]⟩
      · obtain ⟨y, h1, h2⟩ := st_mem n v m x h
        exact ⟨y, List.mem_cons_of_mem _ h1, h2⟩
theorem dl_mem (n : Int) : ∀ (m : List T3) (x : T3), x ∈ dl m n → x ∈ m
  | [], x, h => by cases h
  | t :: m, x, h => by
    unfold dl at h
    split at h
    · exact List.mem_cons_of_mem _ h
    · rcases List.mem_cons.1 h with e | h
      · rw [e]; exact List.mem_cons_self
      · exact List.mem_cons_of_mem _ (dl_mem n m x h)
theorem WM.st' (n v : Int) : ∀ {m : List T3} {c : Nat}, WM m c → WM (st m n v) c
  | [], _, _ => trivial
  | t :: m, c, h => by
    obtain ⟨h1, h2, h3⟩ := h
    unfold st
    split
    · exact ⟨h1, h2, h3⟩
    · refine ⟨h1, fun x hx => ?_, h3.st' n v⟩
      obtain ⟨y, hy, e1, e2⟩ := st_mem n v m x hx
      rw [← e1, ← e2]; exact h2 y hy
theorem WM.dl' (n : Int) : ∀ {m : List T3} {c : Nat}, WM m c → WM (dl m n) c
  | [], _, _ => trivial
  | t :: m, c, h => by
    obtain ⟨h1, h2, h3⟩ := h
    unfold dl
    split
    · exact h3
    · exact ⟨h1, fun x hx => h2 x (dl_mem n m x hx), h3.dl' n⟩
theorem WM.mono {c c' : Nat} (hc : c ≤ c') : ∀ {m : List T3}, WM m c → WM m c'
  | [], _ => trivial
  | t :: m, h => ⟨by have := h.1; omega, h.2.1, WM.mono hc h.2.2⟩
theorem WM.lt {c : Nat} : ∀ {m : List T3}, WM m c → ∀ x ∈ m, x.2.2 < c
  | [], _, x, hx => by cases hx
  | t :: m, h, x, hx => by
    rcases List.mem_cons.1 hx with e | hx
    · rw [e]; exact h.1
    · exact WM.lt h.2.2 x hx
theorem lk_mem (n : Int) : ∀ (m : List T3), lk m n = none → ∀ x ∈ m, x.1 ≠ n
  | [], _, x, hx => by cases hx
  | t :: m, h, x, hx => by
    unfold lk at h
    split at h
    · cases h
    · rename_i hne
      rcases List.mem_cons.1 hx with e | hx
      · rw [e]; exact fun e => hne e.symm
      · exact lk_mem n m h x hx
theorem WM.put {c : Nat} (n v : Int) : ∀ {m : List T3}, WM m c → lk m n = none → WM (m ++ [(n, v, c)]) (c + 1)
  | [], _, _ => ⟨by show c < c + 1; omega, fun x hx => (by cases hx), trivial⟩
  | t :: m, h, hn => by
    have hne := lk_mem n (t :: m) hn t List.mem_cons_self
    have hn' : lk m n = none := by
      unfold lk at hn; split at hn
      · cases hn
      · exact hn
    refine ⟨by have := h.1; omega, fun x hx => ?_, WM.put n v h.2.2 hn'⟩
    rcases List.mem_append.1 hx with hx | hx
    · exact h.2.1 x hx
    · rw [List.mem_singleton] at hx
      rw [hx]
      exact ⟨by have := h.1; show c ≠ _; omega, fun e => hne e.symm⟩
theorem lk_st (n v : Int) : ∀ (m : List T3) (x : Int), lk (st m n v) x = if x = n ∧ (lk m n).isSome then some v else lk m x
  | [], x => by simp [st, lk]
  | t :: m, x => by
    unfold st
    by_cases h : n = t.1
    · rw [if_pos h]
      unfold lk
      by_cases hx : x = t.1
      · rw [if_pos hx, if_pos h, if_pos ⟨by omega, rfl⟩]
      · rw [if_neg hx, if_neg (fun hh => hx (by omega)), if_neg hx]
    · rw [if_neg h]
      have ih := lk_st n v m x
      unfold lk
      by_cases hx : x = t.1
      · rw [if_pos hx, if_neg (fun hh => h (by omega)), if_pos hx]
      · rw [if_neg hx, if_neg h, ih, if_neg hx]
theorem lk_none {m : List T3} {n : Int} (h : ∀ x ∈ m, x.1 ≠ n) : lk m n = none := by
  induction m with
  | nil => rfl
  | cons t m ih =>
    unfold lk
    rw [if_neg (fun e => h t List.mem_cons_self e.symm)]
    exact ih fun x hx => h x (List.mem_cons_of_mem _ hx)
theorem lk_app (n v : Int) (c : Nat) : ∀ (m : List T3) (x : Int), lk m n = none → lk (m ++ [(n, v, c)]) x = if x = n then some v else lk m x
  | [], x, _ => rfl
  | t :: m, x, h => by
    have hne := lk_mem n (t :: m) h t List.mem_cons_self
    have hn' : lk m n = none := by
      unfold lk at h; split at h
      · cases h
      · exact h
    have ih := lk_app n v c m x hn'
    show (if x = t.1 then some t.2.1 else lk (m ++ [(n, v, c)]) x) = if x = n then some v else if x = t.1 then some t.2.1 else lk m x
    rw [ih]
    by_cases hx : x = t.1
    · rw [if_pos hx, if_neg (by omega), if_pos hx]
    · rw [if_neg hx, if_neg hx]
theorem put_E (m : List T3) (c : Nat) (n v : Int) (h : lk m n = none) : putV (m.map E) c .i64 n (.int .i64 v) = some ((m ++ [(n, v, c)]).map E, c + 1) := by
  unfold putV
  rcases mfind_E n m 0 with ⟨h1, h2⟩ | ⟨j, u, h1, h2, _⟩
  · rw [h2]; simp [E]
  · rw [h] at h1; cases h1
theorem put_in (m : List T3) (c : Nat) (n v u : Int) (h : lk m n = some u) : putV (m.map E) c .i64 n (.int .i64 v) = some ((st m n v).map E, c) := by
  unfold putV
  rcases mfind_E n m 0 with ⟨h1, h2⟩ | ⟨j, u', h1, h2, h3, h4, h5⟩
  · rw [h] at h1; cases h1
  · rw [h2]
    have := h4 v
    unfold setVal at this
    simp only [Nat.zero_add]
    rw [← this]
    rfl
theorem look_0 (m : List T3) (n : Int) : lookV (.int .i64 0) false (m.map E) .i64 n = some (.int .i64 ((lk m n).getD 0)) := by
  unfold lookV
  rcases mfind_E n m 0 with ⟨h1, h2⟩ | ⟨j, u, h1, h2, _⟩
  · rw [h1, h2]; rfl
  · rw [h1, h2]; rfl
def ctT (t : T3) : Ct := (t.1, t.2.1)
/-- One count more in the map. -/
def addM (m : List T3) (c : Nat) (x : Ct) : List T3 × Nat := match lk m x.1 with
  | some u => (st m x.1 (u + x.2), c)
  | none => (m ++ [(x.1, 0 + x.2, c)], c + 1)
theorem st_val (n v : Int) : ∀ (m : List T3), (∀ t ∈ m, 1 ≤ t.2.1) → 1 ≤ v → ∀ t ∈ st m n v, 1 ≤ t.2.1
  | [], _, _, t, h => by cases h
  | y :: m, hm, hv, t, h => by
    unfold st at h
    split at h
    · rcases List.mem_cons.1 h with e | h
      · rw [e]; exact hv
      · exact hm t (List.mem_cons_of_mem _ h)
    · rcases List.mem_cons.1 h with e | h
      · rw [e]; exact hm y List.mem_cons_self
      · exact st_val n v m (fun t ht => hm t (List.mem_cons_of_mem _ ht)) hv t h
theorem lk_in : ∀ {m : List T3} {n u : Int}, lk m n = some u → ∃ t ∈ m, t.1 = n ∧ t.2.1 = u
  | [], _, _, h => by cases h
  | t :: m, n, u, h => by
    unfold lk at h
    split at h
    · rename_i e; cases h; exact ⟨t, List.mem_cons_self, e.symm, rfl⟩
    · obtain ⟨t', h1, h2⟩ := lk_in h
      exact ⟨t', List.mem_cons_of_mem _ h1, h2⟩
theorem lk_of : ∀ {m : List T3} {c : Nat}, WM m c → ∀ t ∈ m, lk m t.1 = some t.2.1
  | [], _, _, t, h => by cases h
  | y :: m, c, hw, t, h => by
    unfold lk
    rcases List.mem_cons.1 h with e | h
    · rw [e, if_pos rfl]
    · rw [if_neg (hw.2.1 t h).2]; exact lk_of hw.2.2 t h
/-- What the map says of the first counts. -/
structure MI (L : List Ct) (m : List T3) (c : Nat) : Prop where
  wm : WM m c
  pos : ∀ t ∈ m, 1 ≤ t.2.1
  tot : ∀ x, (lk m x).getD 0 = tot L x
theorem MI.add {L : List Ct} {m : List T3} {c : Nat} (h : MI L m c) (x : Ct) (hx : 1 ≤ x.2) : MI (L ++ [x]) (addM m c x).1 (addM m c x).2 := by
  unfold addM
  cases hl : lk m x.1 with
  | some u =>
    simp only
    obtain ⟨t, ht, _, e⟩ := lk_in hl
    have hu := h.pos t ht
    refine ⟨h.wm.st' _ _, st_val _ _ m h.pos (by omega), fun y => ?_⟩
    rw [lk_st, tot_app, ← h.tot]
    by_cases hy : y = x.1
    · subst hy
      rw [if_pos ⟨rfl, by rw [hl]; rfl⟩, hl]; simp [Go.Proofs.Ytabcjhpgamhpoaa.tot]
    · rw [if_neg (fun hh => hy hh.1)]
      simp only [Go.Proofs.Ytabcjhpgamhpoaa.tot]
      rw [if_neg (fun e => hy e.symm)]; omega
  | none =>
    simp only
    refine ⟨h.wm.put _ _ hl, fun t ht => ?_, fun y => ?_⟩
    · rcases List.mem_append.1 ht with ht | ht
      · exact h.pos t ht
      · rw [List.mem_singleton] at ht; subst ht; show 1 ≤ 0 + x.2; omega
    · rw [lk_app _ _ _ _ _ hl, tot_app, ← h.tot]
      by_cases hy : y = x.1
      · subst hy
        rw [if_pos rfl, hl]; simp [Go.Proofs.Ytabcjhpgamhpoaa.tot]
      · rw [if_neg hy]
        simp only [Go.Proofs.Ytabcjhpgamhpoaa.tot]
        rw [if_neg (fun e => hy e.symm)]; omega
theorem WM.ids : ∀ {m : List T3} {c : Nat}, WM m c → (m.map (·.1)).Nodup
  | [], _, _ => List.nodup_nil
  | t :: m, c, h => by
    rw [List.map_cons, List.nodup_cons]
    refine ⟨fun hm => ?_, h.2.2.ids⟩
    obtain ⟨x, hx, e⟩ := List.mem_map.1 hm
    exact (h.2.1 x hx).2 e
theorem WM.borns : ∀ {m : List T3} {c : Nat}, WM m c → (m.map (·.2.2)).Nodup
  | [], _, _ => List.nodup_nil
  | t :: m, c, h => by
    rw [List.map_cons, List.nodup_cons]
    refine ⟨fun hm => ?_, h.2.2.borns⟩
    obtain ⟨x, hx, e⟩ := List.mem_map.1 hm
    exact (h.2.1 x hx).1 e
theorem find_E {m : List T3} {c : Nat} : WM m c → ∀ t ∈ m, (m.map E).find? (fun e => e.born == t.2.2) = some (E t) := by
  induction m with
  | nil => intro _ t h; cases h
  | cons y m ih =>
    intro hw t h
    rw [List.map_cons, List.find?_cons]
    rcases List.mem_cons.1 h with e | h
    · rw [e, show ((E y).born == y.2.2) = true from by simp [E]]
    · have : ((E y).born == t.2.2) = false := by
        rw [beq_eq_false_iff_ne]; exact fun e => (hw.2.1 t h).1 e.symm
      rw [this]; exact ih hw.2.2 t h
theorem cnt_at : ∀ {l : List Ct}, (l.map (·.1)).Nodup → ∀ c ∈ l, cnt l c.1 = c.2
  | [], _, c, h => by cases h
  | y :: l, hn, c, h => by
    rw [List.map_cons, List.nodup_cons] at hn
    unfold cnt
    rcases List.mem_cons.1 h with e | h
    · rw [e, if_pos rfl]
    · rw [if_neg (fun e => hn.1 (List.mem_map.2 ⟨c, h, e.symm⟩))]; exact cnt_at hn.2 c h
theorem cnt_no {x : Int} : ∀ {l : List Ct}, (∀ c ∈ l, c.1 ≠ x) → cnt l x = 0
  | [], _ => rfl
  | y :: l, h => by
    unfold cnt
    rw [if_neg (h y List.mem_cons_self)]; exact cnt_no fun c hc => h c (List.mem_cons_of_mem _ hc)
theorem up_of : ∀ {l : List Ct}, l.Pairwise (fun a b => ¬ b.1 < a.1) → (l.map (·.1)).Nodup → (∀ c ∈ l, 1 ≤ c.2) → ∃ b, Up b l
  | [], _, _, _ => ⟨0, trivial⟩
  | x :: l, hp, hn, h1 => by
    rw [List.pairwise_cons] at hp
    rw [List.map_cons, List.nodup_cons] at hn
    refine ⟨x.1 - 1, by omega, h1 x List.mem_cons_self, ?_⟩
    obtain ⟨b, hb⟩ := up_of hp.2 hn.2 fun c hc => h1 c (List.mem_cons_of_mem _ hc)
    cases l with
    | nil => trivial
    | cons y l =>
      have h2 := hp.1 y List.mem_cons_self
      have h3 : x.1 ≠ y.1 := fun e => hn.1 (by rw [e]; exact List.mem_cons_self)
      exact ⟨by omega, hb.2⟩
/-- All that the map says, sorted. -/
theorem join_list {L : List Ct} {m : List T3} {c : Nat} (h : MI L m c) (hL : ∀ x ∈ L, 1 ≤ x.2) {Q : List T3} (hQ : Q.Perm m) {A : List Ct} (hA : A.Perm (Q.map ctT)) (hs : A.Pairwise fun a b => ¬ b.1 < a.1) : A = mrg L := by
  obtain ⟨hM, hc, _⟩ := mrg_up hL
  have hAm : A.Perm (m.map ctT) := hA.trans (hQ.map ctT)
  have hn : (A.map (·.1)).Nodup := by
    have h1 := hAm.map (·.1)
    rw [List.map_map] at h1
    exact h1.symm.nodup h.wm.ids
  have hmem : ∀ a ∈ A, ∃ t ∈ m, a = ctT t := fun a ha => by
    obtain ⟨t, ht, e⟩ := List.mem_map.1 (hAm.mem_iff.1 ha)
    exact ⟨t, ht, e.symm⟩
  refine up_eq (up_of hs hn fun a ha => ?_) hM fun x => ?_
  · obtain ⟨t, ht, rfl⟩ := hmem a ha
    exact h.pos t ht
  · rw [hc, ← h.tot]
    cases hl : lk m x with
    | some u =>
      obtain ⟨t, ht, e1, e2⟩ := lk_in hl
      have hin : ctT t ∈ A := hAm.mem_iff.2 (List.mem_map.2 ⟨t, ht, rfl⟩)
      have := cnt_at hn _ hin
      rw [show (ctT t).1 = x from e1, show (ctT t).2 = u from e2] at this
      exact this
    | none =>
      refine cnt_no fun a ha e => ?_
      obtain ⟨t, ht, rfl⟩ := hmem a ha
      exact lk_mem x m hl t ht e
end Go.Proofs.Ytabcjhpgamhpoaa
