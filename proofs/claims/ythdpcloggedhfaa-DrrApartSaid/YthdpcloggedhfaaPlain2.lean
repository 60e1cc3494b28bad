import Derived.Test.YthdpcloggedhfaaPlain
/- flows served by turns: all flows together -/
set_option linter.unusedVariables false
namespace Go.Proofs.Ythdpcloggedhfaa

structure S where
  f : Int
  n : Int
  deriving DecidableEq
def s0 : S := ⟨0, 0⟩
def rowS (k : Nat) (l : List Int) : List S := l.map fun n => ⟨(k : Int), n⟩
/-- What a flow of these has sent. -/
def ofF (k : Nat) (l : List S) : List Int := (l.filter fun s => decide (s.f = (k : Int))).map (·.n)
theorem ofF_app (k : Nat) (a b : List S) : ofF k (a ++ b) = ofF k a ++ ofF k b := by simp [ofF]
theorem ofF_row (k j : Nat) (l : List Int) : ofF k (rowS j l) = if j = k then l else [] := by
  unfold ofF rowS
  by_cases h : j = k
  · subst h
    rw [if_pos rfl, List.filter_eq_self.2]
    · rw [List.map_map]; exact List.map_id l
    · intro s hs
      obtain ⟨x, _, rfl⟩ := List.mem_map.1 hs
      simp
  · rw [if_neg h, List.filter_eq_nil_iff.2]
    · rfl
    · intro s hs
      obtain ⟨x, _, rfl⟩ := List.mem_map.1 hs
      simp; omega
/-- What a round sends of the first i flows. -/
def sentR (ts may : List Int) (fl : List (List Int)) : Nat → List S
  | 0 => []
  | i + 1 => sentR ts may fl i ++ rowS i (outT (may.getD i 0 + ts.getD i 0) (fl.getD i []))
def leftR (ts may : List Int) (fl : List (List Int)) (i : Nat) : List (List Int) := (List.range i).map fun k => leftT (may.getD k 0 + ts.getD k 0) (fl.getD k [])
def yetR (ts may : List Int) (fl : List (List Int)) (i : Nat) : List Int := (List.range i).map fun k => yetT (may.getD k 0 + ts.getD k 0) (fl.getD k [])
theorem leftR_succ (ts may : List Int) (fl : List (List Int)) (i : Nat) : leftR ts may fl (i + 1) = leftR ts may fl i ++ [leftT (may.getD i 0 + ts.getD i 0) (fl.getD i [])] := by simp [leftR, List.range_succ]
theorem yetR_succ (ts may : List Int) (fl : List (List Int)) (i : Nat) : yetR ts may fl (i + 1) = yetR ts may fl i ++ [yetT (may.getD i 0 + ts.getD i 0) (fl.getD i [])] := by simp [yetR, List.range_succ]
theorem leftR_len (ts may : List Int) (fl : List (List Int)) (i : Nat) : (leftR ts may fl i).length = i := by simp [leftR]
theorem yetR_len (ts may : List Int) (fl : List (List Int)) (i : Nat) : (yetR ts may fl i).length = i := by simp [yetR]
theorem leftR_get (ts may : List Int) (fl : List (List Int)) (i k : Nat) (h : k < i) : (leftR ts may fl i).getD k [] = leftT (may.getD k 0 + ts.getD k 0) (fl.getD k []) := by simp [leftR, h]
theorem yetR_get (ts may : List Int) (fl : List (List Int)) (i k : Nat) (h : k < i) : (yetR ts may fl i).getD k 0 = yetT (may.getD k 0 + ts.getD k 0) (fl.getD k []) := by simp [yetR, h]
theorem ofF_sentR (ts may : List Int) (fl : List (List Int)) (k : Nat) : ∀ i, ofF k (sentR ts may fl i) = if k < i then outT (may.getD k 0 + ts.getD k 0) (fl.getD k []) else []
  | 0 => by simp [sentR, ofF]
  | i + 1 => by
    rw [sentR, ofF_app, ofF_sentR ts may fl k i, ofF_row]
    by_cases h1 : k < i
    · rw [if_pos h1, if_neg (by omega), if_pos (by omega), List.append_nil]
    · by_cases h2 : i = k
      · subst h2; rw [if_neg h1, if_pos rfl, if_pos (by omega), List.nil_append]
      · rw [if_neg h1, if_neg h2, if_neg (by omega), List.nil_append]
theorem sentR_mem {ts may : List Int} {fl : List (List Int)} : ∀ {i : Nat} {s : S}, s ∈ sentR ts may fl i → ∃ k, k < i ∧ s.f = (k : Int) ∧ s.n ∈ fl.getD k []
  | 0, s, h => by simp [sentR] at h
  | i + 1, s, h => by
    rw [sentR] at h
    rcases List.mem_append.1 h with h | h
    · obtain ⟨k, h1, h2⟩ := sentR_mem h; exact ⟨k, by omega, h2⟩
    · obtain ⟨x, h1, rfl⟩ := List.mem_map.1 h
      exact ⟨i, by omega, rfl, List.mem_of_mem_take h1⟩
theorem sentR_len {ts may : List Int} {fl : List (List Int)} {b : Nat} (hb : ∀ k, (fl.getD k []).length ≤ b) : ∀ i, (sentR ts may fl i).length ≤ i * b
  | 0 => by simp [sentR]
  | i + 1 => by
    rw [sentR, List.length_append, Nat.add_mul]
    have := sentR_len (ts := ts) (may := may) hb i
    have h2 := hb i
    have h3 : (rowS i (outT (may.getD i 0 + ts.getD i 0) (fl.getD i []))).length ≤ (fl.getD i []).length := by simp [rowS, outT]; omega
    omega
/-- What stands behind some rounds. -/
structure St where
  sent : List S
  left : List (List Int)
  may : List Int
def stepSt (ts : List Int) (s : St) : St := ⟨s.sent ++ sentR ts s.may s.left ts.length, leftR ts s.may s.left ts.length, yetR ts s.may s.left ts.length⟩
def runSt (ts : List Int) (fl : List (List Int)) : Nat → St
  | 0 => ⟨[], fl, List.replicate ts.length 0⟩
  | n + 1 => stepSt ts (runSt ts fl n)
theorem run_flow (ts : List Int) (fl : List (List Int)) (k : Nat) (hk : k < ts.length) : ∀ n, (runSt ts fl n).left.getD k [] = (runF (ts.getD k 0) (fl.getD k []) n).left ∧
    (runSt ts fl n).may.getD k 0 = (runF (ts.getD k 0) (fl.getD k []) n).may ∧ ofF k (runSt ts fl n).sent = (runF (ts.getD k 0) (fl.getD k []) n).out
  | 0 => by
    refine ⟨rfl, ?_, rfl⟩
    simp [runSt, runF, hk]
  | n + 1 => by
    obtain ⟨h1, h2, h3⟩ := run_flow ts fl k hk n
    simp only [runSt, stepSt, runF, stepF]
    rw [leftR_get _ _ _ _ _ hk, yetR_get _ _ _ _ _ hk, ofF_app, ofF_sentR, if_pos hk, h1, h2, h3]
    exact ⟨rfl, rfl, rfl⟩
theorem run_lens (ts : List Int) (fl : List (List Int)) (h : fl.length = ts.length) : ∀ n, (runSt ts fl n).left.length = ts.length ∧ (runSt ts fl n).may.length = ts.length
  | 0 => ⟨h, by simp [runSt]⟩
  | n + 1 => ⟨leftR_len _ _ _ _, yetR_len _ _ _ _⟩
/-- What turns and packets may be. -/
def okT (ts : List Int) (fl : List (List Int)) : Prop := ts.length = fl.length ∧ ts.length ≤ 16 ∧ (∀ t ∈ ts, 1 ≤ t ∧ t ≤ 10000) ∧ ∀ l ∈ fl, l.length ≤ 400 ∧ ∀ x ∈ l, 1 ≤ x ∧ x ≤ 1500
def okM (ts may : List Int) : Prop := may.length = ts.length ∧ ∀ m ∈ may, 0 ≤ m ∧ m < 1500
theorem getDmL {α : Type} {l : List α} {i : Nat} {d : α} (h : i < l.length) : l.getD i d ∈ l := by
  rw [List.getD_eq_getElem?_getD, List.getElem?_eq_getElem h]; exact List.getElem_mem h
theorem memD {α : Type} {l : List α} {x : α} (d : α) (h : x ∈ l) : ∃ i, i < l.length ∧ l.getD i d = x := by
  obtain ⟨i, hi, rfl⟩ := List.mem_iff_getElem.1 h
  exact ⟨i, hi, by simp [List.getD_eq_getElem?_getD, hi]⟩
theorem okT.flow {ts : List Int} {fl : List (List Int)} (h : okT ts fl) (k : Nat) : (fl.getD k []).length ≤ 400 ∧ ∀ x ∈ fl.getD k [], 1 ≤ x ∧ x ≤ 1500 := by
  by_cases hk : k < fl.length
  · exact h.2.2.2 _ (getDmL hk)
  · rw [List.getD_eq_getElem?_getD, List.getElem?_eq_none (by omega)]; simp
theorem okT.turn {ts : List Int} {fl : List (List Int)} (h : okT ts fl) {k : Nat} (hk : k < ts.length) : 1 ≤ ts.getD k 0 ∧ ts.getD k 0 ≤ 10000 := h.2.2.1 _ (getDmL hk)
theorem run_ok {ts : List Int} {fl : List (List Int)} (h : okT ts fl) (n : Nat) : okT ts (runSt ts fl n).left ∧ okM ts (runSt ts fl n).may := by
  have hl := run_lens ts fl h.1.symm n
  refine ⟨⟨hl.1.symm, h.2.1, h.2.2.1, fun l hm => ?_⟩, hl.2, fun m hm => ?_⟩
  · obtain ⟨k, hk, rfl⟩ := memD [] hm
    rw [hl.1] at hk
    rw [(run_flow ts fl k hk n).1]
    have hf := h.flow k
    have := (run_fair (t := ts.getD k 0) (by have := h.turn hk; omega) (fl.getD k []) (fun x hx => (hf.2 x hx).1) n).1.all
    have hsub : ∀ x ∈ (runF (ts.getD k 0) (fl.getD k []) n).left, x ∈ fl.getD k [] := fun x hx => by rw [← this]; exact List.mem_append_right _ hx
    have hlen := congrArg List.length this
    rw [List.length_append] at hlen
    exact ⟨by omega, fun x hx => hf.2 x (hsub x hx)⟩
  · obtain ⟨k, hk, rfl⟩ := memD 0 hm
    rw [hl.2] at hk
    rw [(run_flow ts fl k hk n).2.1]
    have hf := h.flow k
    obtain ⟨hF, h0⟩ := run_fair (t := ts.getD k 0) (by have := h.turn hk; omega) (fl.getD k []) (fun x hx => (hf.2 x hx).1) n
    refine ⟨h0, ?_⟩
    by_cases hl : (runF (ts.getD k 0) (fl.getD k []) n).left = []
    · rw [hF.done hl]; omega
    · have h3 := (hF.rest hl).2.2
      have hlt : 0 < (runF (ts.getD k 0) (fl.getD k []) n).left.length := List.length_pos_iff.2 hl
      have hm := getDmL (d := (0 : Int)) hlt
      have := (hf.2 _ (by rw [← hF.all]; exact List.mem_append_right _ hm)).2
      omega
theorem run_sent {ts : List Int} {fl : List (List Int)} (h : okT ts fl) : ∀ n, (runSt ts fl n).sent.length ≤ n * 6400 ∧ ∀ s ∈ (runSt ts fl n).sent, ∃ k : Nat, k < ts.length ∧ s.f = k ∧ 1 ≤ s.n ∧ s.n ≤ 1500
  | 0 => by simp [runSt]
  | n + 1 => by
    obtain ⟨h1, h2⟩ := run_sent h n
    have ho := (run_ok h n).1
    have h3 := sentR_len (ts := ts) (may := (runSt ts fl n).may) (fun k => (ho.flow k).1) ts.length
    simp only [runSt, stepSt]
    refine ⟨?_, fun s hs => ?_⟩
    · rw [List.length_append]
      have := Nat.mul_le_mul_right 400 h.2.1
      omega
    · rcases List.mem_append.1 hs with hs | hs
      · exact h2 s hs
      · obtain ⟨k, a, b, c⟩ := sentR_mem hs
        exact ⟨k, a, b, (ho.flow k).2 _ c⟩
end Go.Proofs.Ythdpcloggedhfaa
