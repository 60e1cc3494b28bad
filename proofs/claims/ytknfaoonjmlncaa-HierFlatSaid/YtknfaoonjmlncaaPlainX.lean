import Derived.Test.YtknfaoonjmlncaaPlainR
import Derived.Test.YtknfaoonjmlncaaFPlain
/- A tree of one step is a row, in plain Lean. -/
set_option linter.unusedVariables false
set_option linter.unusedSimpArgs false
namespace Go.Proofs.Ytknfaoonjmlncaa

def flatT (ws : List Int) : List Nd := ⟨-1, 1⟩ :: ws.map fun w => ⟨0, w⟩
theorem flatT_len (ws : List Int) : (flatT ws).length = ws.length + 1 := by simp [flatT]
theorem flatT_up0 (ws : List Int) : up (flatT ws) 0 = -1 := rfl
theorem flatT_at (ws : List Int) {k : Nat} (h : k < ws.length) : (flatT ws).getD (k + 1) n0 = ⟨0, ws.getD k 0⟩ := by
  simp [flatT, List.getD_eq_getElem?_getD, h]
theorem flatT_up (ws : List Int) {k : Nat} (h : k < ws.length) : up (flatT ws) (k + 1) = 0 := by
  unfold up; rw [flatT_at ws h]
theorem flatT_wt (ws : List Int) {k : Nat} (h : k < ws.length) : wt (flatT ws) (k + 1) = ws.getD k 0 := by
  unfold wt; rw [flatT_at ws h]
theorem flatT_ok {ws : List Int} (h1 : ws.length ≤ 15) (h : ∀ k, k < ws.length → 1 ≤ ws.getD k 0 ∧ ws.getD k 0 ≤ 12) : okT (flatT ws) := by
  have hl := flatT_len ws
  refine ⟨by omega, by omega, fun i hi => ?_⟩
  cases i with
  | zero => exact ⟨(⟨by decide, by decide⟩ : (1 : Int) ≤ 1 ∧ (1 : Int) ≤ 12), fun _ => rfl, fun h => by omega⟩
  | succ k =>
    have hk : k < ws.length := by omega
    have h2 := h k hk
    exact ⟨by rw [flatT_wt ws hk]; exact h2, fun h => by omega, fun _ => by rw [flatT_up ws hk]; omega⟩
def kdF : Nat → List Int
  | 0 => []
  | i + 1 => kdF i ++ [(i : Int) + 1]
theorem kdF_len : ∀ i, (kdF i).length = i
  | 0 => rfl
  | i + 1 => by simp [kdF, kdF_len i]
theorem kdF_getD : ∀ i j, j < i → (kdF i).getD j 0 = (j : Int) + 1
  | 0, j, h => by omega
  | i + 1, j, h => by
    have hl := kdF_len i
    unfold kdF
    rw [List.getD_eq_getElem?_getD]
    by_cases hj : j < i
    · rw [List.getElem?_append_left (by omega), ← List.getD_eq_getElem?_getD]
      exact kdF_getD i j hj
    · obtain rfl : j = i := by omega
      rw [List.getElem?_append_right (by omega), hl, Nat.sub_self]; rfl
theorem kdT_flat0 (ws : List Int) : kdT (flatT ws) 0 = kdF ws.length := by
  have h : ∀ i, i ≤ ws.length → kdN (flatT ws) 0 (i + 1) = kdF i := fun i => by
    induction i with
    | zero =>
      intro _
      show [] ++ (if up (flatT ws) 0 = _ then _ else []) = []
      rw [flatT_up0, if_neg (by omega)]; rfl
    | succ i ih =>
      intro hi
      show kdN (flatT ws) 0 (i + 1) ++ (if up (flatT ws) (i + 1) = ((0 : Nat) : Int) then [((i + 1 : Nat) : Int)] else []) = kdF (i + 1)
      rw [ih (by omega), flatT_up ws (by omega), if_pos (by rfl)]; rfl
  unfold kdT
  rw [flatT_len]
  exact h _ (Nat.le_refl _)
theorem kdT_flat (ws : List Int) (k : Nat) : kdT (flatT ws) (k + 1) = [] := by
  cases hk : kdT (flatT ws) (k + 1) with
  | nil => rfl
  | cons c r =>
    have hc : c ∈ kdT (flatT ws) (k + 1) := by rw [hk]; exact List.mem_cons_self
    obtain ⟨j, rfl, h1, h2⟩ := (kdN_mem _ _ _ c).1 hc
    rw [flatT_len] at h1
    cases j with
    | zero => rw [flatT_up0] at h2; omega
    | succ j => rw [flatT_up ws (by omega)] at h2; omega
theorem lvT_flat (ws : List Int) {k : Nat} (h : k < ws.length) : ((k : Int) + 1) ∈ lvT (flatT ws) :=
  (lvs_mem _ _ _).2 ⟨by omega, by rw [flatT_len]; omega, (kids_iff _ (k + 1)).2 (kdT_flat ws k)⟩
theorem take_snocI (l : List Int) (n : Nat) (h : n < l.length) : l.take (n + 1) = l.take n ++ [l.getD n 0] := by
  rw [List.take_add_one, List.getD_eq_getElem?_getD, List.getElem?_eq_getElem h]; rfl
theorem sumW_flat (ws : List Int) : sumW (flatT ws) 0 (flatT ws).length = ws.sum := by
  have h : ∀ i, i ≤ ws.length → sumW (flatT ws) 0 (i + 1) = (ws.take i).sum := fun i => by
    induction i with
    | zero =>
      intro _
      show 0 + (if up (flatT ws) 0 = 0 then _ else 0) = _
      rw [flatT_up0, if_neg (by omega)]; rfl
    | succ i ih =>
      intro hi
      show sumW (flatT ws) 0 (i + 1) + (if up (flatT ws) (i + 1) = 0 then wt (flatT ws) (i + 1) else 0) = _
      rw [ih (by omega), flatT_up ws (by omega), if_pos rfl, flatT_wt ws (by omega), take_snocI ws i (by omega)]; simp
  rw [flatT_len, h _ (Nat.le_refl _), List.take_length]

/-- The tree and the row have the same, but for what the tree's first node has (cur). -/
structure MS (ws : List Int) (S : St) (q : Nat → List Int) (nd : Q.Nd) (cur : Int) : Prop where
  len : nd.fl.length = ws.length
  wl : ∀ k, k < ws.length → 1 ≤ ws.getD k 0 ∧ ws.getD k 0 ≤ 12
  sum : 0 ≤ ws.sum
  s0 : (S 0).up = -1 ∧ (S 0).sum = ws.sum ∧ (S 0).time = nd.t ∧ 0 ≤ nd.t
  sk : ∀ k, k < ws.length → (S (k + 1)).up = 0 ∧ (S (k + 1)).w = ws.getD k 0 ∧ (S (k + 1)).un = (nd.fl.getD k Q.f0).u ∧ 0 ≤ (nd.fl.getD k Q.f0).u ∧ 0 ≤ (nd.fl.getD k Q.f0).b
  m : ∀ k : Nat, k < ws.length → (k : Int) ≠ cur → ((nd.fl.getD k Q.f0).q = [] ∧ (S (k + 1)).bytes = 0 ∧ q (k + 1) = []) ∨ ∃ x, 1 ≤ x ∧ (nd.fl.getD k Q.f0).q = [x] ∧ (S (k + 1)).bytes = x ∧ (S (k + 1)).bg = (nd.fl.getD k Q.f0).b ∧ (S (k + 1)).leaf = (k : Int) + 1 ∧ q (k + 1) = [x]

def cntF (nd : Q.Nd) : Nat := (nd.fl.map fun f => f.q.length).sum
theorem cntF_set (y : Q.Fq) : ∀ (l : List Q.Fq) (k : Nat), k < l.length → ((l.set k y).map fun f => f.q.length).sum + (l.getD k Q.f0).q.length = (l.map fun f => f.q.length).sum + y.q.length
  | [], k, h => by simp at h
  | f :: t, 0, h => by simp [List.getD_eq_getElem?_getD]; omega
  | f :: t, k + 1, h => by
    have ih := cntF_set y t k (by simpa using h)
    simp [List.getD_eq_getElem?_getD] at ih ⊢
    omega
theorem cntF_zero : ∀ l : List Q.Fq, (∀ k, k < l.length → (l.getD k Q.f0).q = []) → (l.map fun f => f.q.length).sum = 0
  | [], _ => rfl
  | f :: t, h => by
    have h0 := h 0 (by simp)
    have ih := cntF_zero t fun k hk => by
      have := h (k + 1) (by simpa using hk)
      simpa [List.getD_eq_getElem?_getD] using this
    simp [List.getD_eq_getElem?_getD] at h0 ih ⊢
    exact ⟨h0, ih⟩
theorem MS.inn {ws : List Int} {S : St} {q : Nat → List Int} {nd : Q.Nd} {cur x : Int} (h : MS ws S q nd cur) {k : Nat} (hk : k < ws.length) (hc : (k : Int) ≠ cur) (he : (nd.fl.getD k Q.f0).q = []) (hx : 1 ≤ x) :
    MS ws (updS S (k + 1) (offH S (k + 1) ((k : Int) + 1) x false)) (updQ q (k + 1) (q (k + 1) ++ [x])) (Q.inN ws ws.sum nd k x) cur ∧ (S (k + 1)).bytes = 0 ∧ cntF (Q.inN ws ws.sum nd k x) = cntF nd + 1 := by
  have hk' : k < nd.fl.length := by rw [h.len]; exact hk
  have hin : (Q.inN ws ws.sum nd k x) = ⟨nd.fl.set k ⟨[x], max (nd.fl.getD k Q.f0).u nd.t, max (nd.fl.getD k Q.f0).u nd.t + x * (27720 / ws.getD k 0) * ws.sum⟩, nd.t⟩ := by
    unfold Q.inN; rw [if_pos he]; rfl
  obtain ⟨a1, a2, a3, a4, a5⟩ := h.sk k hk
  obtain ⟨b1, b2, b3, b4⟩ := h.s0
  have hoff : offH S (k + 1) ((k : Int) + 1) x false = { S (k + 1) with leaf := (k : Int) + 1, bytes := x, bg := max (nd.fl.getD k Q.f0).u nd.t, un := max (nd.fl.getD k Q.f0).u nd.t + x * (27720 / ws.getD k 0) * ws.sum } := by
    unfold offH
    rw [if_neg (by omega), a1, a2, a3]
    simp only [Int.toNat_zero, b2, b3, Bool.false_eq_true, if_false]
  have hw := h.wl k hk
  have hd : 0 ≤ 27720 / ws.getD k 0 := Int.ediv_nonneg (by omega) (by omega)
  have hdd : 0 ≤ x * (27720 / ws.getD k 0) * ws.sum := Int.mul_nonneg (Int.mul_nonneg (by omega) hd) h.sum
  have hgd : ∀ j, ((Q.inN ws ws.sum nd k x).fl.getD j Q.f0) = if k = j then ⟨[x], max (nd.fl.getD k Q.f0).u nd.t, max (nd.fl.getD k Q.f0).u nd.t + x * (27720 / ws.getD k 0) * ws.sum⟩ else nd.fl.getD j Q.f0 := fun j => by
    rw [hin]; show (nd.fl.set k _).getD j Q.f0 = _
    rw [Q.getD_setF]
    by_cases e : k = j
    · rw [if_pos ⟨e, hk'⟩, if_pos e]
    · rw [if_neg (fun hh => e hh.1), if_neg e]
  rw [hoff]
  have hmk := h.m k hk hc
  have hb0 : (S (k + 1)).bytes = 0 ∧ q (k + 1) = [] := by
    rcases hmk with ⟨_, h2, h3⟩ | ⟨y, _, h2, _⟩
    · exact ⟨h2, h3⟩
    · rw [he] at h2; cases h2
  refine ⟨⟨by rw [hin]; simpa using h.len, h.wl, h.sum, ?_, fun j hj => ?_, fun j hj hjc => ?_⟩, hb0.1, ?_⟩
  · rw [updS_ne (by omega), hin]; exact ⟨b1, b2, b3, b4⟩
  · rw [hgd j]
    by_cases e : k = j
    · subst e
      rw [if_pos rfl, updS_same]
      exact ⟨a1, a2, rfl, by show 0 ≤ max _ _ + _; omega, by show 0 ≤ max _ _; omega⟩
    · rw [if_neg e, updS_ne (by omega)]
      exact h.sk j hj
  · rw [hgd j]
    by_cases e : k = j
    · subst e
      rw [if_pos rfl, updS_same]
      refine .inr ⟨x, hx, rfl, rfl, rfl, rfl, ?_⟩
      unfold updQ
      rw [if_pos rfl, hb0.2]; rfl
    · rw [if_neg e, updS_ne (by omega), updQ_ne (by omega)]
      exact h.m j hj hjc
  · rw [hin]
    have := cntF_set ⟨[x], max (nd.fl.getD k Q.f0).u nd.t, max (nd.fl.getD k Q.f0).u nd.t + x * (27720 / ws.getD k 0) * ws.sum⟩ nd.fl k hk'
    rw [he] at this
    simp only [List.length_cons, List.length_nil, Nat.add_zero, Nat.zero_add] at this
    exact this
theorem MS.least {ws : List Int} {S : St} {q : Nat → List Int} {nd : Q.Nd} (h : MS ws S q nd (-1)) : ∀ i, i ≤ ws.length → leastK S (kdF ws.length) i = Q.leastN nd.fl i
  | 0, _ => rfl
  | i + 1, hi => by
    have ih := h.least i (by omega)
    unfold leastK Q.leastN
    rw [kdF_getD _ _ (by omega), show ((i : Int) + 1).toNat = i + 1 by omega, ih]
    rcases h.m i (by omega) (by omega) with ⟨h1, h2, _⟩ | ⟨x, h0, h1, h2, h3, _⟩
    · rw [h1, h2, if_neg (fun hh => by omega), if_neg (fun hh => hh.1 rfl)]
    · rw [h1, h2, h3]
      by_cases hc : Q.leastN nd.fl i < 0 ∨ (nd.fl.getD i Q.f0).b < Q.leastN nd.fl i
      · rw [if_pos ⟨by omega, hc⟩, if_pos ⟨by simp, hc⟩]
      · rw [if_neg (fun hh => hc hh.2), if_neg (fun hh => hc hh.2)]
theorem MS.best {ws : List Int} {S : St} {q : Nat → List Int} {nd : Q.Nd} (h : MS ws S q nd (-1)) (T : Int) : ∀ i, i ≤ ws.length → (bestK S T (kdF ws.length) i = -1 ∧ Q.bestN nd.fl T i = -1) ∨ ∃ k : Nat, k < i ∧ (nd.fl.getD k Q.f0).q ≠ [] ∧ bestK S T (kdF ws.length) i = (k : Int) + 1 ∧ Q.bestN nd.fl T i = k
  | 0, _ => .inl ⟨rfl, rfl⟩
  | i + 1, hi => by
    have ih := h.best T i (by omega)
    unfold bestK Q.bestN
    rw [kdF_getD _ _ (by omega), show ((i : Int) + 1).toNat = i + 1 by omega]
    rcases h.m i (by omega) (by omega) with ⟨h1, h2, _⟩ | ⟨x, h0, h1, h2, h3, _⟩
    · rw [h1, h2, if_neg (fun hh => by omega), if_neg (fun hh => hh.1.1 rfl)]
      rcases ih with h5 | ⟨k, g1, g2, g3, g4⟩
      · exact .inl h5
      · exact .inr ⟨k, by omega, g2, g3, g4⟩
    · have hu := (h.sk i (by omega)).2.2.1
      have hne : (nd.fl.getD i Q.f0).q ≠ [] := by rw [h1]; simp
      rcases ih with ⟨h5, h6⟩ | ⟨k, g1, g2, g3, g4⟩
      · rw [h5, h6, h2, h3]
        by_cases hT : (nd.fl.getD i Q.f0).b ≤ T
        · rw [if_pos ⟨⟨by omega, hT⟩, .inl (by omega)⟩, if_pos ⟨⟨hne, hT⟩, .inl (by omega)⟩]
          exact .inr ⟨i, by omega, hne, rfl, rfl⟩
        · rw [if_neg (fun hh => hT hh.1.2), if_neg (fun hh => hT hh.1.2)]
          exact .inl ⟨rfl, rfl⟩
      · have hu2 := (h.sk k (by omega)).2.2.1
        rw [g3, g4, h2, h3, show ((k : Int) + 1).toNat = k + 1 by omega, Int.toNat_natCast, hu, hu2]
        by_cases hT : (nd.fl.getD i Q.f0).b ≤ T ∧ (nd.fl.getD i Q.f0).u < (nd.fl.getD k Q.f0).u
        · rw [if_pos ⟨⟨by omega, hT.1⟩, .inr hT.2⟩, if_pos ⟨⟨hne, hT.1⟩, .inr hT.2⟩]
          exact .inr ⟨i, by omega, hne, rfl, rfl⟩
        · rw [if_neg (fun hh => by rcases hh.2 with h7 | h7; · omega
                                   exact hT ⟨hh.1.2, h7⟩), if_neg (fun hh => by rcases hh.2 with h7 | h7; · omega
                                                                                exact hT ⟨hh.1.2, h7⟩)]
          exact .inr ⟨k, by omega, g2, rfl, rfl⟩
theorem MS.pick {ws : List Int} {S : St} {q : Nat → List Int} {nd : Q.Nd} (h : MS ws S q nd (-1)) (a : Bool) :
    (cntF nd = 0 ∧ Q.pickK nd < 0 ∧ pickH S (kdF ws.length) 0 a = updS S 0 { S 0 with bytes := 0 }) ∨ ∃ (k : Nat) (x : Int), k < ws.length ∧ 1 ≤ x ∧ Q.pickK nd = k ∧ Q.headQ (nd.fl.getD k Q.f0).q = x ∧ MS ws (pickH S (kdF ws.length) 0 a) q (Q.outN ws ws.sum nd k) k ∧ ((pickH S (kdF ws.length) 0 a) 0).bytes = x ∧ ((pickH S (kdF ws.length) 0 a) 0).leaf = (k : Int) + 1 ∧ q (k + 1) = [x] ∧ ((Q.outN ws ws.sum nd k).fl.getD k Q.f0).q = [] ∧ cntF (Q.outN ws ws.sum nd k) + 1 = cntF nd := by
  have hl := h.least ws.length (Nat.le_refl _)
  have hb := h.best
  have hll := h.len
  have hle := Q.leastN_cases nd.fl nd.fl.length
  rw [hll] at hle
  by_cases hn : Q.leastN nd.fl ws.length < 0
  · refine .inl ⟨?_, ?_, ?_⟩
    · refine cntF_zero _ fun k hk => ?_
      rcases hle with ⟨_, h2⟩ | ⟨k', h1, _, h3⟩
      · rcases h2 k (by omega) with h4 | h4
        · exact h4
        · have := (h.sk k (by omega)).2.2.2.2; omega
      · have := (h.sk k' (by omega)).2.2.2.2; omega
    · unfold Q.pickK; rw [hll, if_pos hn]; decide
    · unfold pickH; rw [kdF_len, hl, if_pos hn]
  · right
    have hT : timeK S (kdF ws.length) 0 = Q.pickT nd := by
      unfold timeK Q.pickT
      rw [kdF_len, hl, hll, if_neg hn, h.s0.2.2.1]
    have hPK : Q.pickK nd = Q.bestN nd.fl (Q.pickT nd) ws.length := by unfold Q.pickK; rw [hll, if_neg hn]
    have hTl : Q.leastN nd.fl ws.length ≤ Q.pickT nd := by unfold Q.pickT; rw [hll, if_neg hn]; omega
    have hT0 : 0 ≤ Q.pickT nd := by omega
    rcases hb (Q.pickT nd) ws.length (Nat.le_refl _) with ⟨_, h6⟩ | ⟨k, g1, g2, g3, g4⟩
    · exfalso
      rcases hle with ⟨h2, _⟩ | ⟨k', h1, h2, h3⟩
      · omega
      · have hbc := Q.bestN_cases nd.fl (Q.pickT nd) ws.length
        rcases hbc with ⟨_, h5⟩ | ⟨k2, _, _, _, h5⟩
        · rcases h5 k' h1 with h7 | h7
          · exact h2 h7
          · omega
        · omega
    · rcases h.m k g1 (by omega) with ⟨h1, _⟩ | ⟨x, h0, h1, h2, h3, h4, h5⟩
      · exact (g2 h1).elim
      · have hBN : bestN S (kdF ws.length) 0 = k + 1 := by unfold bestN; rw [hT, kdF_len, g3]; omega
        have hP : pickH S (kdF ws.length) 0 a = updS S 0 { S 0 with leaf := (k : Int) + 1, bytes := x, time := Q.pickT nd + x * 27720 } := by
          unfold pickH
          rw [kdF_len, hl, if_neg hn, hBN, hT, h2, h4]
          congr 1
          unfold offH
          have h7 : (setT S 0 (Q.pickT nd + x * 27720) 0).up = -1 := by unfold setT; rw [updS_same]; exact h.s0.1
          rw [if_pos (by omega)]
          unfold setT; rw [updS_same]
        have hk' : k < nd.fl.length := by omega
        have hO : Q.outN ws ws.sum nd k = ⟨nd.fl.set k ⟨[], (nd.fl.getD k Q.f0).b, (nd.fl.getD k Q.f0).u⟩, Q.pickT nd + x * 27720⟩ := by
          unfold Q.outN Q.tailF; rw [h1]; rfl
        have hgd : ∀ j, ((Q.outN ws ws.sum nd k).fl.getD j Q.f0) = if k = j then ⟨[], (nd.fl.getD k Q.f0).b, (nd.fl.getD k Q.f0).u⟩ else nd.fl.getD j Q.f0 := fun j => by
          rw [hO]; show (nd.fl.set k _).getD j Q.f0 = _
          rw [Q.getD_setF]
          by_cases e : k = j
          · rw [if_pos ⟨e, hk'⟩, if_pos e]
          · rw [if_neg (fun hh => e hh.1), if_neg e]
        refine ⟨k, x, g1, h0, by rw [hPK, g4], by rw [h1]; rfl, ⟨by rw [hO]; simpa using hll, h.wl, h.sum, ?_, fun j hj => ?_, fun j hj hjc => ?_⟩, by rw [hP, updS_same], by rw [hP, updS_same], h5, by rw [hgd k, if_pos rfl], ?_⟩
        · rw [hP, updS_same, hO]
          exact ⟨h.s0.1, h.s0.2.1, rfl, by show 0 ≤ Q.pickT nd + x * 27720; omega⟩
        · rw [hP, updS_ne (by omega), hgd j]
          obtain ⟨c1, c2, c3, c4, c5⟩ := h.sk j hj
          by_cases e : k = j
          · subst e; rw [if_pos rfl]; exact ⟨c1, c2, c3, c4, c5⟩
          · rw [if_neg e]; exact ⟨c1, c2, c3, c4, c5⟩
        · rw [hP, updS_ne (by omega), hgd j, if_neg (by omega)]
          exact h.m j hj (by omega)
        · rw [hO]
          have := cntF_set ⟨[], (nd.fl.getD k Q.f0).b, (nd.fl.getD k Q.f0).u⟩ nd.fl k hk'
          rw [h1] at this
          simp only [List.length_cons, List.length_nil, Nat.add_zero, Nat.zero_add] at this
          exact this
theorem climb_neg (kd : Nat → List Int) (a : Bool) (f : Nat) (S : St) {k : Int} (h : k < 0) : climb kd a f S k = S := by
  cases f with
  | zero => rfl
  | succ f => unfold climb; rw [if_neg (fun hh => by omega)]
theorem climb_root (kd : Nat → List Int) (a : Bool) (f : Nat) (S : St) (hu : (S 0).up = -1) (h : a = true ∨ (S 0).bytes = 0) : climb kd a (f + 1) S 0 = pickH S (kd 0) 0 a := by
  unfold climb
  rw [if_pos ⟨by omega, h⟩, Int.toNat_zero, hu, climb_neg _ _ _ _ (by omega)]

/-- One more in the tree's first node than in the row. -/
def LiveF (ws : List Int) (r : RnH) (w : Q.Rn) (c : Nat) : Prop := ∃ (cur : Nat) (y : Int) (T : List S), MS ws r.S r.q w.nd cur ∧ cntF w.nd = c ∧ cur < ws.length ∧ 1 ≤ y ∧ (r.S 0).bytes = y ∧ (r.S 0).leaf = (cur : Int) + 1 ∧ r.q (cur + 1) = [y] ∧ (w.nd.fl.getD cur Q.f0).q = [] ∧ r.sent = T.map (fun s => (⟨s.f + 1, s.n⟩ : S)) ∧ w.sent = T ++ [⟨cur, y⟩]
theorem LiveF.inn {ws : List Int} {r : RnH} {w : Q.Rn} {c : Nat} (h : LiveF ws r w c) {k : Nat} {x : Int} (hk : k < ws.length) (hx : 1 ≤ x ∧ x ≤ 1500) (he : (w.nd.fl.getD k Q.f0).q = []) (hc : r.q (k + 1) = []) :
    LiveF ws (stepH (flatT ws).length (kdT (flatT ws)) (lvT (flatT ws)) r ⟨1, (k : Int) + 1, x⟩) (Q.stepR ws ws.sum w ⟨1, k, x⟩) (c + 1) ∧ (∀ j, j ≠ k → ((Q.stepR ws ws.sum w ⟨1, k, x⟩).nd.fl.getD j Q.f0).q = (w.nd.fl.getD j Q.f0).q ∧ (stepH (flatT ws).length (kdT (flatT ws)) (lvT (flatT ws)) r ⟨1, (k : Int) + 1, x⟩).q (j + 1) = r.q (j + 1)) := by
  obtain ⟨cur, y, T, hM, rfl, hcur, hy, h0, h1, h2, h3, h4, h5⟩ := h
  have hkc : k ≠ cur := fun e => by subst e; rw [h2] at hc; cases hc
  have hs1 : stepH (flatT ws).length (kdT (flatT ws)) (lvT (flatT ws)) r ⟨1, (k : Int) + 1, x⟩ = ⟨r.errs ++ [0], r.sent, inH (flatT ws).length (kdT (flatT ws)) r.S (k + 1) x, updQ r.q (k + 1) (r.q (k + 1) ++ [x])⟩ := by
    unfold stepH
    rw [if_neg (by show ¬ (1 : Int) = 2; omega), if_neg (by show ¬ (1 : Int) ≠ 1; omega), if_neg (fun hh => hh (lvT_flat ws hk)), if_neg (by show ¬ (x < 1 ∨ 1500 < x); omega)]
    rfl
  have hs2 : Q.stepR ws ws.sum w ⟨1, k, x⟩ = ⟨w.errs ++ [0], w.sent, Q.inN ws ws.sum w.nd k x⟩ := by
    unfold Q.stepR
    rw [if_neg (by show ¬ (1 : Int) = 2; omega), if_neg (by show ¬ (1 : Int) ≠ 1; omega), if_neg (by show ¬ ((k : Int) < 0 ∨ _ ≤ (k : Int)); omega), if_neg (by show ¬ (x < 1 ∨ 1500 < x); omega)]
    rfl
  obtain ⟨hM1, hb0, hcn⟩ := hM.inn hk (by omega) he hx.1
  have hin : inH (flatT ws).length (kdT (flatT ws)) r.S (k + 1) x = updS r.S (k + 1) (offH r.S (k + 1) ((k : Int) + 1) x false) := by
    unfold inH
    rw [if_neg (by omega), (hM.sk k hk).1, flatT_len]
    unfold climb
    rw [if_neg (fun hh => ?_)]
    · rfl
    · rcases hh.2 with h6 | h6
      · cases h6
      · rw [Int.toNat_zero, updS_ne (by omega)] at h6; omega
  rw [hs1, hs2, hin]
  refine ⟨⟨cur, y, T, hM1, hcn, hcur, hy, ?_, ?_, ?_, ?_, h4, h5⟩, fun j hj => ⟨?_, updQ_ne (by omega)⟩⟩
  · show (updS r.S _ _ 0).bytes = y
    rw [updS_ne (by omega)]; exact h0
  · show (updS r.S _ _ 0).leaf = _
    rw [updS_ne (by omega)]; exact h1
  · show updQ _ _ _ _ = _
    rw [updQ_ne (by omega)]; exact h2
  · show ((w.nd.fl.set k _).getD cur Q.f0).q = []
    rw [Q.getD_setF, if_neg (fun hh => hkc hh.1)]; exact h3
  · show ((w.nd.fl.set k _).getD j Q.f0).q = _
    rw [Q.getD_setF, if_neg (fun hh => hj hh.1.symm)]
theorem LiveF.out {ws : List Int} {r : RnH} {w : Q.Rn} {c : Nat} (h : LiveF ws r w c) :
    (c = 0 → (stepH (flatT ws).length (kdT (flatT ws)) (lvT (flatT ws)) r ⟨2, 0, 0⟩).sent = (Q.stepR ws ws.sum w ⟨2, 0, 0⟩).sent.map (fun s => (⟨s.f + 1, s.n⟩ : S))) ∧
    (0 < c → LiveF ws (stepH (flatT ws).length (kdT (flatT ws)) (lvT (flatT ws)) r ⟨2, 0, 0⟩) (Q.stepR ws ws.sum w ⟨2, 0, 0⟩) (c - 1)) := by
  obtain ⟨cur, y, T, hM, rfl, hcur, hy, h0, h1, h2, h3, h4, h5⟩ := h
  have hs1 : stepH (flatT ws).length (kdT (flatT ws)) (lvT (flatT ws)) r ⟨2, 0, 0⟩ = ⟨r.errs ++ [0], r.sent ++ [⟨(cur : Int) + 1, y⟩], pickH (zeroB r.S (cur + 1)) (kdF ws.length) 0 true, updQ r.q (cur + 1) []⟩ := by
    unfold stepH
    rw [if_pos rfl, if_neg (by omega), h0, h1, show ((cur : Int) + 1).toNat = cur + 1 by omega, h2]
    congr 1
    unfold outH outH1
    rw [if_pos (show [y].tail = [] from rfl), (hM.sk cur hcur).1, flatT_len, climb_root _ _ _ _ _ (.inl rfl), kdT_flat0]
    unfold zeroB
    rw [updS_ne (by omega)]; exact hM.s0.1
  have hM0 : MS ws (zeroB r.S (cur + 1)) (updQ r.q (cur + 1) []) w.nd (-1) := by
    refine ⟨hM.len, hM.wl, hM.sum, ?_, fun j hj => ?_, fun j hj _ => ?_⟩
    · unfold zeroB; rw [updS_ne (by omega)]; exact hM.s0
    · have hj' := hM.sk j hj
      unfold zeroB
      by_cases e : j = cur
      · subst e; rw [updS_same]; exact hj'
      · rw [updS_ne (by omega)]; exact hj'
    · unfold zeroB
      by_cases e : j = cur
      · subst e
        rw [updS_same]
        exact .inl ⟨h3, rfl, by unfold updQ; rw [if_pos rfl]⟩
      · rw [updS_ne (by omega), updQ_ne (by omega)]
        exact hM.m j hj (by omega)
  rw [hs1]
  rcases hM0.pick true with ⟨c0, p1, p2⟩ | ⟨k, x, k1, k2, k3, k4, k5, k6, k7, k8, k9, k10⟩
  · have hs2 : Q.stepR ws ws.sum w ⟨2, 0, 0⟩ = ⟨w.errs ++ [3], w.sent, ⟨w.nd.fl, Q.pickT w.nd⟩⟩ := by
      unfold Q.stepR
      rw [if_pos rfl, if_pos p1]
    rw [hs2]
    refine ⟨fun _ => ?_, fun h => by omega⟩
    show r.sent ++ _ = w.sent.map _
    rw [h4, h5]; simp
  · have hs2 : Q.stepR ws ws.sum w ⟨2, 0, 0⟩ = ⟨w.errs ++ [0], w.sent ++ [⟨k, x⟩], Q.outN ws ws.sum w.nd k⟩ := by
      unfold Q.stepR
      rw [if_pos rfl, if_neg (by omega), k3, Int.toNat_natCast, k4]
    rw [hs2]
    refine ⟨fun h => by omega, fun _ => ⟨k, x, T ++ [⟨cur, y⟩], k5, by show cntF (Q.outN ws ws.sum w.nd k) = _; omega, k1, k2, k6, k7, k8, k9, ?_, ?_⟩⟩
    · show r.sent ++ _ = _
      rw [h4]; simp
    · show w.sent ++ _ = _
      rw [h5]
/-- What comes, and goes, of the tree and of the row. -/
def aF (z : List Int) : Nat → List Op
  | 0 => []
  | k + 1 => aF z k ++ [⟨1, (k : Int) + 1, z.getD k 0⟩]
def bF (z : List Int) : Nat → List Op
  | 0 => []
  | k + 1 => bF z k ++ (⟨1, k, z.getD k 0⟩ :: if k = 0 then [⟨2, 0, 0⟩] else [])
def outs (m : Nat) : List Op := List.replicate m ⟨2, 0, 0⟩
theorem outs_succ (m : Nat) : outs (m + 1) = outs m ++ [⟨2, 0, 0⟩] := by
  unfold outs; rw [List.replicate_succ']
theorem runR_snoc' (ws : List Int) (l : List Op) (o : Op) : Q.runR ws ws.sum (l ++ [o]) = Q.stepR ws ws.sum (Q.runR ws ws.sum l) o := Q.runR_snoc ws ws.sum l o
theorem flat_first {ws z : List Int} (hn : 1 ≤ ws.length) (hw : ∀ k, k < ws.length → 1 ≤ ws.getD k 0 ∧ ws.getD k 0 ≤ 12) (hs : 0 ≤ ws.sum) (hz : 1 ≤ z.getD 0 0 ∧ z.getD 0 0 ≤ 1500) : LiveF ws (runH (flatT ws) (aF z 1)) (Q.runR ws ws.sum (bF z 1)) 0 ∧ ∀ j, 1 ≤ j → ((Q.runR ws ws.sum (bF z 1)).nd.fl.getD j Q.f0).q = [] ∧ (runH (flatT ws) (aF z 1)).q (j + 1) = [] := by
  have hf0 : ∀ k, (List.replicate ws.length Q.f0).getD k Q.f0 = Q.f0 := fun k => by
    rw [List.getD_eq_getElem?_getD, List.getElem?_replicate]; split <;> rfl
  have hM : MS ws (startS (flatT ws) (flatT ws).length) (fun _ => []) ⟨List.replicate ws.length Q.f0, 0⟩ (-1) := by
    refine ⟨by simp, hw, hs, ⟨rfl, sumW_flat ws, rfl, Int.le_refl _⟩, fun k hk => ?_, fun k hk _ => .inl ⟨?_, rfl, rfl⟩⟩
    · show up (flatT ws) (k + 1) = 0 ∧ wt (flatT ws) (k + 1) = _ ∧ (0 : Int) = ((List.replicate ws.length Q.f0).getD k Q.f0).u ∧ 0 ≤ ((List.replicate ws.length Q.f0).getD k Q.f0).u ∧ 0 ≤ ((List.replicate ws.length Q.f0).getD k Q.f0).b
      rw [hf0]
      exact ⟨flatT_up ws hk, flatT_wt ws hk, rfl, Int.le_refl _, Int.le_refl _⟩
    · show ((List.replicate ws.length Q.f0).getD k Q.f0).q = []
      rw [hf0]; rfl
  obtain ⟨hM1, hb0, hcn⟩ := hM.inn (x := z.getD 0 0) (show 0 < ws.length by omega) (by omega) (by show ((List.replicate ws.length Q.f0).getD 0 Q.f0).q = []; rw [hf0]; rfl) hz.1
  have hc0 : cntF ⟨List.replicate ws.length Q.f0, 0⟩ = 0 := cntF_zero _ fun k hk => by show ((List.replicate ws.length Q.f0).getD k Q.f0).q = []; rw [hf0]; rfl
  have hup : (updS (startS (flatT ws) (flatT ws).length) (0 + 1) (offH (startS (flatT ws) (flatT ws).length) (0 + 1) (((0 : Nat) : Int) + 1) (z.getD 0 0) false) 0) = startS (flatT ws) (flatT ws).length 0 := updS_ne (by omega)
  have hr : runH (flatT ws) (aF z 1) = ⟨[0], [], pickH (updS (startS (flatT ws) (flatT ws).length) (0 + 1) (offH (startS (flatT ws) (flatT ws).length) (0 + 1) (((0 : Nat) : Int) + 1) (z.getD 0 0) false)) (kdF ws.length) 0 false, updQ (fun _ => []) (0 + 1) ([] ++ [z.getD 0 0])⟩ := by
    show stepH (flatT ws).length (kdT (flatT ws)) (lvT (flatT ws)) (startH (flatT ws)) ⟨1, ((0 : Nat) : Int) + 1, z.getD 0 0⟩ = _
    unfold stepH
    rw [if_neg (by show ¬ (1 : Int) = 2; omega), if_neg (by show ¬ (1 : Int) ≠ 1; omega), if_neg (fun hh => hh (lvT_flat ws hn)), if_neg (by show ¬ (z.getD 0 0 < 1 ∨ 1500 < z.getD 0 0); omega)]
    show (⟨[] ++ [0], [], inH (flatT ws).length (kdT (flatT ws)) (startS (flatT ws) (flatT ws).length) (0 + 1) (z.getD 0 0), _⟩ : RnH) = _
    have hin : inH (flatT ws).length (kdT (flatT ws)) (startS (flatT ws) (flatT ws).length) (0 + 1) (z.getD 0 0) = pickH (updS (startS (flatT ws) (flatT ws).length) (0 + 1) (offH (startS (flatT ws) (flatT ws).length) (0 + 1) (((0 : Nat) : Int) + 1) (z.getD 0 0) false)) (kdF ws.length) 0 false := by
      unfold inH
      rw [if_neg (by omega)]
      have e1 : (startS (flatT ws) (flatT ws).length (0 + 1)).up = 0 := flatT_up ws hn
      rw [e1]
      have e2 : (flatT ws).length = ws.length + 1 := flatT_len ws
      have := climb_root (kdT (flatT ws)) false ws.length (updS (startS (flatT ws) (flatT ws).length) (0 + 1) (offH (startS (flatT ws) (flatT ws).length) (0 + 1) (((0 : Nat) : Int) + 1) (z.getD 0 0) false)) (by rw [hup]; rfl) (.inr (by rw [hup]; rfl))
      rw [kdT_flat0] at this
      rw [← this, ← e2]
      rfl
    rw [hin]; rfl
  have hr2 : Q.runR ws ws.sum (bF z 1) = Q.stepR ws ws.sum ⟨[0], [], Q.inN ws ws.sum ⟨List.replicate ws.length Q.f0, 0⟩ 0 (z.getD 0 0)⟩ ⟨2, 0, 0⟩ := by
    show Q.stepR ws ws.sum (Q.stepR ws ws.sum (Q.startR ws) ⟨1, ((0 : Nat) : Int), z.getD 0 0⟩) ⟨2, 0, 0⟩ = _
    congr 1
    unfold Q.stepR
    rw [if_neg (by show ¬ (1 : Int) = 2; omega), if_neg (by show ¬ (1 : Int) ≠ 1; omega), if_neg (by show ¬ (((0 : Nat) : Int) < 0 ∨ _ ≤ ((0 : Nat) : Int)); omega), if_neg (by show ¬ (z.getD 0 0 < 1 ∨ 1500 < z.getD 0 0); omega)]
    rfl
  have hq1 : updQ (fun _ => ([] : List Int)) (0 + 1) ((fun _ => ([] : List Int)) (0 + 1) ++ [z.getD 0 0]) = updQ (fun _ => []) (0 + 1) ([] ++ [z.getD 0 0]) := rfl
  rcases hM1.pick false with ⟨c0, _⟩ | ⟨k, x, k1, k2, k3, k4, k5, k6, k7, k8, k9, k10⟩
  · omega
  · have hk0 : k = 0 := by
      refine Classical.byContradiction fun hne => ?_
      unfold updQ at k8
      rw [if_neg (by omega)] at k8
      cases k8
    subst hk0
    rw [hr2, hr]
    have hs2 : Q.stepR ws ws.sum ⟨[0], [], Q.inN ws ws.sum ⟨List.replicate ws.length Q.f0, 0⟩ 0 (z.getD 0 0)⟩ ⟨2, 0, 0⟩ = ⟨[0] ++ [0], [] ++ [⟨((0 : Nat) : Int), x⟩], Q.outN ws ws.sum (Q.inN ws ws.sum ⟨List.replicate ws.length Q.f0, 0⟩ 0 (z.getD 0 0)) 0⟩ := by
      clear hr hr2 k5 k6 k7 k8 k9 k10 hM1
      generalize Q.inN ws ws.sum ⟨List.replicate ws.length Q.f0, 0⟩ 0 (z.getD 0 0) = N at *
      unfold Q.stepR
      rw [if_pos rfl, if_neg (by show ¬ Q.pickK N < 0; omega)]
      show (⟨[0] ++ [0], [] ++ [⟨Q.pickK N, Q.headQ (N.fl.getD (Q.pickK N).toNat Q.f0).q⟩], Q.outN ws ws.sum N (Q.pickK N).toNat⟩ : Q.Rn) = _
      rw [k3, Int.toNat_natCast, k4]
    rw [hs2]
    refine ⟨⟨0, x, [], k5, by show cntF (Q.outN ws ws.sum (Q.inN ws ws.sum ⟨List.replicate ws.length Q.f0, 0⟩ 0 (z.getD 0 0)) 0) = 0; omega, by omega, k2, k6, k7, k8, k9, rfl, rfl⟩, fun j hj => ⟨?_, ?_⟩⟩
    · show (((((List.replicate ws.length Q.f0).set 0 _).set 0 _)).getD j Q.f0).q = []
      rw [Q.getD_setF, if_neg (fun hh => by omega), Q.getD_setF, if_neg (fun hh => by omega), hf0]; rfl
    · exact updQ_ne (q := fun _ => []) (l := [] ++ [z.getD 0 0]) (show j + 1 ≠ 0 + 1 by omega)
theorem flat_ins {ws z : List Int} (hw : ∀ k, k < ws.length → 1 ≤ ws.getD k 0 ∧ ws.getD k 0 ≤ 12) (hs : 0 ≤ ws.sum) (hz : ∀ k, k < ws.length → 1 ≤ z.getD k 0 ∧ z.getD k 0 ≤ 1500) : ∀ m, m + 1 ≤ ws.length → LiveF ws (runH (flatT ws) (aF z (m + 1))) (Q.runR ws ws.sum (bF z (m + 1))) m ∧ ∀ j, m + 1 ≤ j → ((Q.runR ws ws.sum (bF z (m + 1))).nd.fl.getD j Q.f0).q = [] ∧ (runH (flatT ws) (aF z (m + 1))).q (j + 1) = []
  | 0, hm => flat_first hm hw hs (hz 0 (by omega))
  | m + 1, hm => by
    obtain ⟨h1, h2⟩ := flat_ins hw hs hz m (by omega)
    have e1 : aF z (m + 1 + 1) = aF z (m + 1) ++ [⟨1, ((m + 1 : Nat) : Int) + 1, z.getD (m + 1) 0⟩] := rfl
    have e2 : bF z (m + 1 + 1) = bF z (m + 1) ++ [⟨1, ((m + 1 : Nat) : Int), z.getD (m + 1) 0⟩] := rfl
    rw [e1, e2, runH_snoc, runR_snoc']
    obtain ⟨h3, h4⟩ := h2 (m + 1) (Nat.le_refl _)
    obtain ⟨h5, h6⟩ := h1.inn (k := m + 1) (x := z.getD (m + 1) 0) (by omega) (hz _ (by omega)) h3 h4
    refine ⟨h5, fun j hj => ?_⟩
    obtain ⟨g1, g2⟩ := h6 j (by omega)
    obtain ⟨g3, g4⟩ := h2 j (by omega)
    exact ⟨g1.trans g3, g2.trans g4⟩
theorem flat_outs {ws z : List Int} {n : Nat} (h : LiveF ws (runH (flatT ws) (aF z n)) (Q.runR ws ws.sum (bF z n)) (n - 1)) : ∀ m, m + 1 ≤ n → LiveF ws (runH (flatT ws) (aF z n ++ outs m)) (Q.runR ws ws.sum (bF z n ++ outs m)) (n - 1 - m)
  | 0, hm => by
    show LiveF ws (runH (flatT ws) (aF z n ++ [])) (Q.runR ws ws.sum (bF z n ++ [])) _
    rw [List.append_nil, List.append_nil]; exact h
  | m + 1, hm => by
    have ih := flat_outs h m (by omega)
    rw [outs_succ, ← List.append_assoc, ← List.append_assoc, runH_snoc, runR_snoc']
    have := ih.out.2 (by omega)
    rwa [show n - 1 - m - 1 = n - 1 - (m + 1) by omega] at this
/-- What is sent of a tree of one step is what is sent of a row. -/
theorem flat_run {ws z : List Int} (hn : 1 ≤ ws.length) (hw : ∀ k, k < ws.length → 1 ≤ ws.getD k 0 ∧ ws.getD k 0 ≤ 12) (hs : 0 ≤ ws.sum) (hz : ∀ k, k < ws.length → 1 ≤ z.getD k 0 ∧ z.getD k 0 ≤ 1500) :
    (runH (flatT ws) (aF z ws.length ++ outs ws.length)).sent = (Q.runR ws ws.sum (bF z ws.length ++ outs ws.length)).sent.map (fun s => (⟨s.f + 1, s.n⟩ : S)) := by
  obtain ⟨n, hn'⟩ : ∃ n, ws.length = n + 1 := ⟨ws.length - 1, by omega⟩
  have h1 := (flat_ins hw hs hz n (by omega)).1
  have h2 := flat_outs (n := n + 1) (by simpa using h1) n (by omega)
  rw [hn', outs_succ, ← List.append_assoc, ← List.append_assoc, runH_snoc, runR_snoc']
  exact h2.out.1 (by omega)
theorem sent_f {ws : List Int} : ∀ (ops : List Op) (r : Q.Rn), r.nd.fl.length = ws.length → (∀ s ∈ r.sent, 0 ≤ s.f ∧ s.f < ws.length) → ∀ s ∈ (ops.foldl (Q.stepR ws ws.sum) r).sent, 0 ≤ s.f ∧ s.f < ws.length
  | [], r, _, h => h
  | o :: t, r, hl, h => by
    refine sent_f t (Q.stepR ws ws.sum r o) (Q.step_lens hl).2.2 ?_
    unfold Q.stepR
    split
    · split
      · exact h
      · rename_i hp
        obtain ⟨k, h1, h2, _⟩ := Q.pickK_pos hp
        intro s hs
        rcases List.mem_append.1 hs with h3 | h3
        · exact h s h3
        · rw [List.mem_singleton] at h3
          subst h3
          show 0 ≤ Q.pickK r.nd ∧ Q.pickK r.nd < _
          omega
    · split
      · exact h
      · split
        · exact h
        · split <;> exact h
theorem run_sent_f (ws : List Int) (ops : List Op) : ∀ s ∈ (Q.runR ws ws.sum ops).sent, 0 ≤ s.f ∧ s.f < ws.length :=
  sent_f ops (Q.startR ws) (by simp [Q.startR]) (fun s hs => by cases hs)
theorem outs_len (m : Nat) : (outs m).length = m := by simp [outs]
theorem aF_len (z : List Int) : ∀ k, (aF z k).length = k
  | 0 => rfl
  | k + 1 => by simp [aF, aF_len z k]
theorem bF_len (z : List Int) : ∀ k, (bF z (k + 1)).length = k + 2
  | 0 => rfl
  | k + 1 => by
    have : bF z (k + 1 + 1) = bF z (k + 1) ++ [⟨1, ((k + 1 : Nat) : Int), z.getD (k + 1) 0⟩] := rfl
    rw [this, List.length_append, bF_len z k]; rfl
end Go.Proofs.Ytknfaoonjmlncaa
