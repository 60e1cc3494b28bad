import Derived.Test.YtiflaenenlcidaaSteps
import Derived.Test.YtiflaenenlcidaaPlain2
set_option linter.unusedSimpArgs false
set_option linter.unusedVariables false
set_option maxHeartbeats 1000000
set_option maxRecDepth 20000
namespace Go.Proofs.Ytiflaenenlcidaa
open Go Go.Am
attribute [local irreducible] opsW Ww loopW callW drawW outW outDW gW cW BrW bothW vW resW DropW RdW dcallW altW Later.run

abbrev NMap := List Int → Option Nat
abbrev TMap := List Int → Option (Nat × Int)
def kidV (N : NMap) (p : List Int) (b : Int) : Value := match N (p ++ [b]) with | some j => .pointer (some ⟨j, 0, some 1⟩) | none => .pointer none
def toV (T : TMap) (p : List Int) : Value := match T p with | some (j, _) => .pointer (some ⟨j, 0, some 1⟩) | none => .pointer none
/-- A tree of bits in the heap, its objects from base on: where each path's node lies, and what stands for the path. -/
structure Rep (base : Nat) (H : Heap) (N : NMap) (T : TMap) : Prop where
  node : ∀ p k, N p = some k → base ≤ k ∧ H[k]? = some (.cells 0 0 false [kidV N p 0, kidV N p 1, toV T p])
  leaf : ∀ p j v, T p = some (j, v) → H[j]? = some (.cells 0 0 false [.int .i64 v])
  inj : ∀ p q k, N p = some k → N q = some k → p = q
  up : ∀ p b, N (p ++ [b]) ≠ none → N p ≠ none
  tn : ∀ p, T p ≠ none → N p ≠ none
theorem Rep.le {base : Nat} {H H' : Heap} {N : NMap} {T : TMap} (h : Rep base H N T) (hl : Le H H') : Rep base H' N T :=
  ⟨fun p k hk => ⟨(h.node p k hk).1, hl.get (h.node p k hk).2⟩, fun p j v hj => hl.get (h.leaf p j v hj), h.inj, h.up, h.tn⟩
theorem Le.set {H H' : Heap} (h : Le H H') {j : Nat} {x : AObj} (hj : H.length ≤ j) : Le H (H'.set j x) := by
  obtain ⟨X, rfl⟩ := h
  exact ⟨X.set (j - H.length) x, by rw [List.set_append_right _ _ hj]⟩
theorem snoc_ne {p q : List Int} {b c : Int} (h : ¬ (p = q ∧ b = c)) : p ++ [b] ≠ q ++ [c] := fun e => by
  have := List.append_inj' e rfl
  exact h ⟨this.1, by simpa using this.2⟩

/-- A new node for one bit more. -/
theorem Rep.grow {base : Nat} {H : Heap} {N : NMap} {T : TMap} (h : Rep base H N T) (hb : base ≤ H.length) {p : List Int} {j : Nat} {b : Int} (hj : N p = some j) (hn : N (p ++ [b]) = none) {x y : Value}
    (hx : x = kidV (fun q => if q = p ++ [b] then some H.length else N q) p 0) (hy : y = kidV (fun q => if q = p ++ [b] then some H.length else N q) p 1) :
    Rep base ((H ++ [AObj.cells 0 0 false [.pointer none, .pointer none, .pointer none]]).set j (.cells 0 0 false [x, y, toV T p])) (fun q => if q = p ++ [b] then some H.length else N q) T := by
  have hjl : j < H.length := (List.getElem?_eq_some_iff.1 (h.node p j hj).2).1
  have hlt : ∀ q k, N q = some k → k < H.length := fun q k hk => (List.getElem?_eq_some_iff.1 (h.node q k hk).2).1
  have hpp : p ≠ p ++ [b] := fun e => by have := congrArg List.length e; simp at this
  refine ⟨fun q k hk => ?_, fun q i v hi => ?_, fun q r k hq hr => ?_, fun q c hq => ?_, fun q hq => ?_⟩
  · by_cases e : q = p ++ [b]
    · subst e
      rw [if_pos rfl] at hk
      cases hk
      refine ⟨hb, ?_⟩
      rw [List.getElem?_set_ne (by omega), get_new0]
      have k0 : ∀ c, kidV (fun q => if q = p ++ [b] then some H.length else N q) (p ++ [b]) c = .pointer none := fun c => by
        unfold kidV
        simp only
        rw [if_neg (fun e => by have := congrArg List.length e; simp at this)]
        cases hc : N (p ++ [b] ++ [c]) with
        | none => rfl
        | some i => exact (h.up _ _ (by rw [hc]; simp) hn).elim
      have t0 : toV T (p ++ [b]) = .pointer none := by
        unfold toV
        cases ht : T (p ++ [b]) with
        | none => rfl
        | some z => exact (h.tn _ (by rw [ht]; simp) hn).elim
      rw [k0, k0, t0]
    · rw [if_neg e] at hk
      have hk' := h.node q k hk
      refine ⟨hk'.1, ?_⟩
      by_cases ek : k = j
      · subst ek
        obtain rfl := h.inj q p k hk hj
        rw [List.getElem?_set_self (by simp; omega), hx, hy]
      · rw [List.getElem?_set_ne (Ne.symm ek), get_old hk'.2]
        have kk : ∀ c, kidV (fun q => if q = p ++ [b] then some H.length else N q) q c = kidV N q c := fun c => by
          unfold kidV
          simp only
          rw [if_neg]
          intro e2
          have := List.append_inj' e2 rfl
          exact ek (Option.some.inj (hk.symm.trans (this.1 ▸ hj)))
        rw [kk, kk]
  · have := h.leaf q i v hi
    have hne : i ≠ j := fun e => by
      rw [e, (h.node p j hj).2] at this
      simp at this
    rw [List.getElem?_set_ne (Ne.symm hne), get_old this]
  · by_cases e : q = p ++ [b]
    · by_cases e2 : r = p ++ [b]
      · rw [e, e2]
      · rw [if_pos e] at hq; rw [if_neg e2] at hr
        have := hlt r k hr
        cases hq; omega
    · rw [if_neg e] at hq
      by_cases e2 : r = p ++ [b]
      · rw [if_pos e2] at hr
        have := hlt q k hq
        cases hr; omega
      · rw [if_neg e2] at hr; exact h.inj q r k hq hr
  · by_cases e : q = p ++ [b]
    · rw [if_pos e]; simp
    · rw [if_neg e]
      by_cases e2 : q ++ [c] = p ++ [b]
      · have := List.append_inj' e2 rfl
        rw [this.1, hj]; simp
      · rw [if_neg e2] at hq; exact h.up q c hq
  · by_cases e : q = p ++ [b]
    · rw [if_pos e]; simp
    · rw [if_neg e]; exact h.tn q hq

/-- What stands for a path from now on. -/
theorem Rep.put {base : Nat} {H : Heap} {N : NMap} {T : TMap} (h : Rep base H N T) {p : List Int} {j : Nat} {v : Int} (hj : N p = some j) :
    Rep base ((H ++ [AObj.cells 0 0 false [.int .i64 v]]).set j (.cells 0 0 false [kidV N p 0, kidV N p 1, .pointer (some ⟨H.length, 0, some 1⟩)])) N (fun q => if q = p then some (H.length, v) else T q) := by
  have hjl : j < H.length := (List.getElem?_eq_some_iff.1 (h.node p j hj).2).1
  refine ⟨fun q k hk => ?_, fun q i w hi => ?_, h.inj, h.up, fun q hq => ?_⟩
  · have hk' := h.node q k hk
    refine ⟨hk'.1, ?_⟩
    by_cases ek : k = j
    · subst ek
      obtain rfl := h.inj q p k hk hj
      rw [List.getElem?_set_self (by simp; omega)]
      unfold toV
      simp
    · rw [List.getElem?_set_ne (Ne.symm ek), get_old hk'.2]
      unfold toV
      simp only
      rw [if_neg]
      intro e
      subst e
      exact ek (Option.some.inj (hk.symm.trans hj))
  · by_cases e : q = p
    · rw [if_pos e] at hi
      cases hi
      rw [List.getElem?_set_ne (by omega), get_new0]
    · rw [if_neg e] at hi
      have := h.leaf q i w hi
      have hne : i ≠ j := fun e => by
        rw [e, (h.node p j hj).2] at this
        simp at this
      rw [List.getElem?_set_ne (Ne.symm hne), get_old this]
  · by_cases e : q = p
    · rw [e, hj]; simp
    · rw [if_neg e] at hq; exact h.tn q hq

theorem build_spec (l : List Px) (k o g c : Nat) (H : Heap) (hs : Ps H k o g l) (hl : l.length ≤ 400) (hf : ∀ x ∈ l, ¬ longP x) (hok : ∀ x ∈ l, x.ad.ok) :
    ACallK Try.prog 18 [slv k o g l.length c] H (fun v H' => ∃ N T r, v = .pointer (some ⟨r, 0, some 1⟩) ∧ Le H H' ∧ Rep H.length H' N T ∧ N [] = some r ∧ ∀ p, (T p).map (·.2) = look l p) := by
  obtain ⟨ro, cs, hk, hcl, hcs⟩ := hs.at'
  have hkl := hs.lt
  refine .walkW f18_ok (by simp; decide) (by decide) ?_
  repeat' first | simp (disch := first | with_reducible assumption | omega) only [go_sem, Bool.true_and, Bool.and_true, Bool.and_self, Bool.false_and, Bool.and_false, Bool.true_or, Bool.or_true, Bool.false_or, Bool.or_false, ↓reduceIte, Nat.reduceEqDiff, Nat.reduceAdd, Nat.reduceMul, Nat.reduceSub, Nat.reduceBEq, Nat.reduceLeDiff, Nat.reduceLT, Nat.reduceMod, Nat.reduceDiv, Int.reduceToNat, Int.reducePow, Int.reduceMul, Int.reduceAdd, Int.reduceSub, Int.reduceLE, Int.reduceLT, Int.reduceNeg, Int.reduceDiv, Int.reduceMod, Int.reduceEq, Int.reduceBEq, Int.reduceBNe, f18, f18b, f18r0, f18r1, f18r2, f18r3, f18r4, f18r5, f18r6, f18r7, f18r8, f18r9, f18r10, f18r11, f18r12, f18r13, f18r15, f18r16, f18r17, f18r19, hk, get_old hk] | (refine BrW.of (fun hb => ?_) (fun hb => ?_) <;> (have hb' := hb; try simp only [decide_eq_true_eq, decide_eq_false_iff_not, beq_iff_eq, bne_iff_ne, beq_eq_false_iff_ne, bne_eq_false_iff_eq, Bool.not_eq_true', Bool.not_eq_false', Bool.not_eq_true, Bool.not_eq_false, Bool.and_eq_true, Bool.or_eq_true, Bool.and_eq_false_iff, Bool.or_eq_false_iff, Int.not_lt, Int.not_le, ne_eq, gt_iff_lt, ge_iff_le] at hb') <;> (try (exfalso; omega))) | (refine altW.of ?_ ?_)
  refine loopW.of (by decide) (fun m e H2 => ∃ (i : Nat) (N : NMap) (T : TMap), e = [(3, .pointer (some ⟨H.length, 0, some 1⟩)), (12, slv k o g l.length c), (13, .int .i64 l.length), (14, .int .i64 i)] ∧ Le H H2 ∧ i ≤ l.length ∧ m = l.length - i ∧ Rep H.length H2 N T ∧ N [] = some H.length ∧ ∀ p, (T p).map (·.2) = look (l.take i) p) l.length
    ⟨0, fun p => if p = [] then some H.length else none, fun _ => none, rfl, .app _ _, by omega, rfl, ⟨fun p k hk => ?_, fun p j v h => (by cases h), fun p q k hp hq => ?_, fun p b hb => ?_, fun p h => (h rfl).elim⟩, rfl, fun p => rfl⟩ ?_
  · by_cases e : p = []
    · rw [if_pos e] at hk
      cases hk
      refine ⟨Nat.le_refl _, ?_⟩
      rw [get_new0, e]; rfl
    · rw [if_neg e] at hk; cases hk
  · by_cases e : p = []
    · by_cases e2 : q = []
      · rw [e, e2]
      · rw [if_neg e2] at hq; cases hq
    · rw [if_neg e] at hp; cases hp
  · rw [if_neg (by simp)] at hb; exact (hb rfl).elim
  rintro m e H2 ⟨i, N, T, rfl, hle, hi, rfl, hR, hN, hT⟩
  have hk2 := hle.get hk
  by_cases hlt : i < l.length
  · have hld := Tbl.ld (enc := Px.cells) (fun _ => rfl) hcs i hlt
    have hmem := getD_mem (d := p0) hlt
    have hlg := hf _ hmem
    have hpo := hok _ hmem
    have htk : ∀ p, ((l.getD i p0).path = p → look (l.take (i + 1)) p = some (l.getD i p0).to) ∧ (¬ (l.getD i p0).path = p → look (l.take (i + 1)) p = look (l.take i) p) := fun p => ⟨fun h => by rw [take_snoc p0 l i hlt, look_snoc, if_pos h], fun h => by rw [take_snoc p0 l i hlt, look_snoc, if_neg h]⟩
    generalize l.getD i p0 = x at *
    obtain ⟨ad, bits, to⟩ := x
    have hb : 0 ≤ bits ∧ bits ≤ 32 := by unfold longP at hlg; simp only at hlg; omega
    obtain ⟨n, rfl⟩ := Int.eq_ofNat_of_zero_le hb.1
    simp only [Px.cells] at hld
    simp only at hpo
    simp only [Px.path, Int.toNat_natCast] at htk
    repeat' first | simp (disch := first | with_reducible assumption | omega) only [go_sem, Bool.true_and, Bool.and_true, Bool.and_self, Bool.false_and, Bool.and_false, Bool.true_or, Bool.or_true, Bool.false_or, Bool.or_false, ↓reduceIte, Nat.reduceEqDiff, Nat.reduceAdd, Nat.reduceMul, Nat.reduceSub, Nat.reduceBEq, Nat.reduceLeDiff, Nat.reduceLT, Nat.reduceMod, Nat.reduceDiv, Int.reduceToNat, Int.reducePow, Int.reduceMul, Int.reduceAdd, Int.reduceSub, Int.reduceLE, Int.reduceLT, Int.reduceNeg, Int.reduceDiv, Int.reduceMod, Int.reduceEq, Int.reduceBEq, Int.reduceBNe, f18, f18b, f18r0, f18r1, f18r2, f18r3, f18r4, f18r5, f18r6, f18r7, f18r8, f18r9, f18r10, f18r11, f18r12, f18r13, f18r15, f18r16, f18r17, f18r19, f18l1, hk2, get_old hk2, ↓hld] | (refine BrW.of (fun hb => ?_) (fun hb => ?_) <;> (have hb' := hb; try simp only [decide_eq_true_eq, decide_eq_false_iff_not, beq_iff_eq, bne_iff_ne, beq_eq_false_iff_ne, bne_eq_false_iff_eq, Bool.not_eq_true', Bool.not_eq_false', Bool.not_eq_true, Bool.not_eq_false, Bool.and_eq_true, Bool.or_eq_true, Bool.and_eq_false_iff, Bool.or_eq_false_iff, Int.not_lt, Int.not_le, ne_eq, gt_iff_lt, ge_iff_le] at hb') <;> (try (exfalso; omega))) | (refine altW.of ?_ ?_)
    have hle3 := hle.trans (.app H2 [.cells 0 0 false [.int .u8 ad.b0, .int .u8 ad.b1, .int .u8 ad.b2, .int .u8 ad.b3, .int .i64 n, .int .i64 to]])
    have hR3 := hR.le (.app H2 [.cells 0 0 false [.int .u8 ad.b0, .int .u8 ad.b1, .int .u8 ad.b2, .int .u8 ad.b3, .int .i64 n, .int .i64 to]])
    have hP3 : (H2 ++ [.cells 0 0 false [.int .u8 ad.b0, .int .u8 ad.b1, .int .u8 ad.b2, .int .u8 ad.b3, .int .i64 n, .int .i64 to]])[H2.length]? = some _ := get_new0 _ _ _
    have hn32 : n ≤ 32 := by omega
    have hPH : H.length ≤ H2.length := by obtain ⟨X, rfl⟩ := hle; simp
    generalize H2 ++ [.cells 0 0 false [.int .u8 ad.b0, .int .u8 ad.b1, .int .u8 ad.b2, .int .u8 ad.b3, .int .i64 n, .int .i64 to]] = J at *
    generalize H2.length = P at *
    clear hle hR hk2
    refine loopW.of (by decide) (fun m e J2 => ∃ (q cur : Nat) (N : NMap), e = [(3, .pointer (some ⟨H.length, 0, some 1⟩)), (5, .pointer (some ⟨P, 0, some 1⟩)), (6, .pointer (some ⟨cur, 0, some 1⟩)), (12, slv k o g l.length c), (13, .int .i64 l.length), (14, .int .i64 i), (20, .int .i64 n), (21, .int .i64 q)] ∧ Le H J2 ∧ q ≤ n ∧ m = n - q ∧ Rep H.length J2 N T ∧ N [] = some H.length ∧ N (pathOf ad q) = some cur ∧ J2[P]? = some (.cells 0 0 false [.int .u8 ad.b0, .int .u8 ad.b1, .int .u8 ad.b2, .int .u8 ad.b3, .int .i64 n, .int .i64 to])) n
      ⟨0, H.length, N, rfl, hle3, by omega, rfl, hR3, hN, hN, hP3⟩ ?_
    clear hle3 hR3 hN hP3
    rintro m e J2 ⟨q, cur, N, rfl, hle, hq, rfl, hR, hN, hcur, hP⟩
    obtain ⟨hcb, hcn⟩ := hR.node _ _ hcur
    have hJl : H.length ≤ J2.length := by obtain ⟨X, rfl⟩ := hle; simp
    by_cases hqn : q < n
    · have hbs := fun H' => bit_spec ad q H' hpo (by omega)
      have hpath : pathOf ad (q + 1) = pathOf ad q ++ [bit ad q] := rfl
      have hPc : P ≠ cur := fun e => by rw [e, hcn] at hP; simp at hP
      cases hk2 : N (pathOf ad q ++ [bit ad q]) with
      | none =>
        have hg := fun x y h1 h2 => hR.grow (x := x) (y := y) hJl hcur hk2 h1 h2
        have hcl : cur < J2.length := (List.getElem?_eq_some_iff.1 hcn).1
        have hkv : ∀ b, kidV (fun p => if p = pathOf ad q ++ [bit ad q] then some J2.length else N p) (pathOf ad q) b = if b = bit ad q then .pointer (some ⟨J2.length, 0, some 1⟩) else kidV N (pathOf ad q) b := fun b => by
          unfold kidV
          simp only
          by_cases e : b = bit ad q
          · rw [if_pos (by rw [e]), if_pos e]
          · rw [if_neg (fun h => e (by simpa using (List.append_inj' h rfl).2)), if_neg e]
        have hN2 : (if ([] : List Int) = pathOf ad q ++ [bit ad q] then some J2.length else N []) = some H.length := by rw [if_neg (by simp)]; exact hN
        have hcur2 : (if pathOf ad (q + 1) = pathOf ad q ++ [bit ad q] then some J2.length else N (pathOf ad (q + 1))) = some J2.length := if_pos hpath
        have hk0 : kidV N (pathOf ad q) (bit ad q) = .pointer none := by unfold kidV; rw [hk2]
        have hcn' := get_old hcn [.cells 0 0 false [.pointer none, .pointer none, .pointer none]]
        rcases bit_two ad q with hz | hz
        · rw [hz] at hbs hk0
          rw [hk0] at hcn hcn'
          have hR2 := hg (.pointer (some ⟨J2.length, 0, some 1⟩)) (kidV N (pathOf ad q) 1) (by rw [hkv, hz]; rfl) (by rw [hkv, hz]; rfl)
          generalize kidV N (pathOf ad q) 1 = kv at *
          generalize toV T (pathOf ad q) = tv at *
          have hset := fun X => get_set_hit (x := X) hcn'
          have hP' : ∀ X, (List.set (J2 ++ [AObj.cells 0 0 false [.pointer none, .pointer none, .pointer none]]) cur X)[P]? = some (.cells 0 0 false [.int .u8 ad.b0, .int .u8 ad.b1, .int .u8 ad.b2, .int .u8 ad.b3, .int .i64 n, .int .i64 to]) := fun X => by rw [List.getElem?_set_ne (Ne.symm hPc)]; exact get_old hP _
          repeat' first | simp (disch := first | with_reducible assumption | omega) only [go_sem, Bool.true_and, Bool.and_true, Bool.and_self, Bool.false_and, Bool.and_false, Bool.true_or, Bool.or_true, Bool.false_or, Bool.or_false, ↓reduceIte, Nat.reduceEqDiff, Nat.reduceAdd, Nat.reduceMul, Nat.reduceSub, Nat.reduceBEq, Nat.reduceLeDiff, Nat.reduceLT, Nat.reduceMod, Nat.reduceDiv, Int.reduceToNat, Int.reducePow, Int.reduceMul, Int.reduceAdd, Int.reduceSub, Int.reduceLE, Int.reduceLT, Int.reduceNeg, Int.reduceDiv, Int.reduceMod, Int.reduceEq, Int.reduceBEq, Int.reduceBNe, f18, f18b, f18r0, f18r1, f18r2, f18r3, f18r4, f18r5, f18r6, f18r7, f18r8, f18r9, f18r10, f18r11, f18r12, f18r13, f18r15, f18r16, f18r17, f18r19, f18l0, hP, hcn, get_old hcn, hset] | (refine BrW.of (fun hb => ?_) (fun hb => ?_) <;> (have hb' := hb; try simp only [decide_eq_true_eq, decide_eq_false_iff_not, beq_iff_eq, bne_iff_ne, beq_eq_false_iff_ne, bne_eq_false_iff_eq, Bool.not_eq_true', Bool.not_eq_false', Bool.not_eq_true, Bool.not_eq_false, Bool.and_eq_true, Bool.or_eq_true, Bool.and_eq_false_iff, Bool.or_eq_false_iff, Int.not_lt, Int.not_le, ne_eq, gt_iff_lt, ge_iff_le] at hb') <;> (try (exfalso; omega))) | (refine altW.of ?_ ?_) | (refine .of ((hbs _).mono ?_); rintro v J2 ⟨rfl, rfl⟩)
          refine RdW.keep [3, 5, 6, 12, 13, 14, 20, 21] (n - (q + 1)) (by omega) ?_
          simp (disch := first | with_reducible assumption | omega) only [go_sem, Bool.true_and, Bool.and_true, Bool.and_self, Bool.false_and, Bool.and_false, Bool.true_or, Bool.or_true, Bool.false_or, Bool.or_false, ↓reduceIte, Nat.reduceEqDiff, Nat.reduceAdd, Nat.reduceMul, Nat.reduceSub, Nat.reduceBEq, Nat.reduceLeDiff, Nat.reduceLT, Nat.reduceMod, Nat.reduceDiv, Int.reduceToNat, Int.reducePow, Int.reduceMul, Int.reduceAdd, Int.reduceSub, Int.reduceLE, Int.reduceLT, Int.reduceNeg, Int.reduceDiv, Int.reduceMod, Int.reduceEq, Int.reduceBEq, Int.reduceBNe]
          exact ⟨q + 1, J2.length, _, rfl, Le.set (hle.trans (.app _ _)) hcb, by omega, rfl, hR2, hN2, hcur2, hP' _⟩
        · rw [hz] at hbs hk0
          rw [hk0] at hcn hcn'
          have hR2 := hg (kidV N (pathOf ad q) 0) (.pointer (some ⟨J2.length, 0, some 1⟩)) (by rw [hkv, hz]; rfl) (by rw [hkv, hz]; rfl)
          generalize kidV N (pathOf ad q) 0 = kv at *
          generalize toV T (pathOf ad q) = tv at *
          have hset := fun X => get_set_hit (x := X) hcn'
          have hP' : ∀ X, (List.set (J2 ++ [AObj.cells 0 0 false [.pointer none, .pointer none, .pointer none]]) cur X)[P]? = some (.cells 0 0 false [.int .u8 ad.b0, .int .u8 ad.b1, .int .u8 ad.b2, .int .u8 ad.b3, .int .i64 n, .int .i64 to]) := fun X => by rw [List.getElem?_set_ne (Ne.symm hPc)]; exact get_old hP _
          repeat' first | simp (disch := first | with_reducible assumption | omega) only [go_sem, Bool.true_and, Bool.and_true, Bool.and_self, Bool.false_and, Bool.and_false, Bool.true_or, Bool.or_true, Bool.false_or, Bool.or_false, ↓reduceIte, Nat.reduceEqDiff, Nat.reduceAdd, Nat.reduceMul, Nat.reduceSub, Nat.reduceBEq, Nat.reduceLeDiff, Nat.reduceLT, Nat.reduceMod, Nat.reduceDiv, Int.reduceToNat, Int.reducePow, Int.reduceMul, Int.reduceAdd, Int.reduceSub, Int.reduceLE, Int.reduceLT, Int.reduceNeg, Int.reduceDiv, Int.reduceMod, Int.reduceEq, Int.reduceBEq, Int.reduceBNe, f18, f18b, f18r0, f18r1, f18r2, f18r3, f18r4, f18r5, f18r6, f18r7, f18r8, f18r9, f18r10, f18r11, f18r12, f18r13, f18r15, f18r16, f18r17, f18r19, f18l0, hP, hcn, get_old hcn, hset] | (refine BrW.of (fun hb => ?_) (fun hb => ?_) <;> (have hb' := hb; try simp only [decide_eq_true_eq, decide_eq_false_iff_not, beq_iff_eq, bne_iff_ne, beq_eq_false_iff_ne, bne_eq_false_iff_eq, Bool.not_eq_true', Bool.not_eq_false', Bool.not_eq_true, Bool.not_eq_false, Bool.and_eq_true, Bool.or_eq_true, Bool.and_eq_false_iff, Bool.or_eq_false_iff, Int.not_lt, Int.not_le, ne_eq, gt_iff_lt, ge_iff_le] at hb') <;> (try (exfalso; omega))) | (refine altW.of ?_ ?_) | (refine .of ((hbs _).mono ?_); rintro v J2 ⟨rfl, rfl⟩)
          refine RdW.keep [3, 5, 6, 12, 13, 14, 20, 21] (n - (q + 1)) (by omega) ?_
          simp (disch := first | with_reducible assumption | omega) only [go_sem, Bool.true_and, Bool.and_true, Bool.and_self, Bool.false_and, Bool.and_false, Bool.true_or, Bool.or_true, Bool.false_or, Bool.or_false, ↓reduceIte, Nat.reduceEqDiff, Nat.reduceAdd, Nat.reduceMul, Nat.reduceSub, Nat.reduceBEq, Nat.reduceLeDiff, Nat.reduceLT, Nat.reduceMod, Nat.reduceDiv, Int.reduceToNat, Int.reducePow, Int.reduceMul, Int.reduceAdd, Int.reduceSub, Int.reduceLE, Int.reduceLT, Int.reduceNeg, Int.reduceDiv, Int.reduceMod, Int.reduceEq, Int.reduceBEq, Int.reduceBNe]
          exact ⟨q + 1, J2.length, _, rfl, Le.set (hle.trans (.app _ _)) hcb, by omega, rfl, hR2, hN2, hcur2, hP' _⟩
      | some nx =>
        have hk0 : kidV N (pathOf ad q) (bit ad q) = .pointer (some ⟨nx, 0, some 1⟩) := by unfold kidV; rw [hk2]
        have hnx := (hR.node _ _ hk2).2
        rcases bit_two ad q with hz | hz
        · rw [hz] at hbs hk0
          rw [hk0] at hcn
          generalize kidV N (pathOf ad q) 1 = kv at *
          generalize toV T (pathOf ad q) = tv at *
          repeat' first | simp (disch := first | with_reducible assumption | omega) only [go_sem, Bool.true_and, Bool.and_true, Bool.and_self, Bool.false_and, Bool.and_false, Bool.true_or, Bool.or_true, Bool.false_or, Bool.or_false, ↓reduceIte, Nat.reduceEqDiff, Nat.reduceAdd, Nat.reduceMul, Nat.reduceSub, Nat.reduceBEq, Nat.reduceLeDiff, Nat.reduceLT, Nat.reduceMod, Nat.reduceDiv, Int.reduceToNat, Int.reducePow, Int.reduceMul, Int.reduceAdd, Int.reduceSub, Int.reduceLE, Int.reduceLT, Int.reduceNeg, Int.reduceDiv, Int.reduceMod, Int.reduceEq, Int.reduceBEq, Int.reduceBNe, f18, f18b, f18r0, f18r1, f18r2, f18r3, f18r4, f18r5, f18r6, f18r7, f18r8, f18r9, f18r10, f18r11, f18r12, f18r13, f18r15, f18r16, f18r17, f18r19, f18l0, hP, hcn, hnx] | (refine BrW.of (fun hb => ?_) (fun hb => ?_) <;> (have hb' := hb; try simp only [decide_eq_true_eq, decide_eq_false_iff_not, beq_iff_eq, bne_iff_ne, beq_eq_false_iff_ne, bne_eq_false_iff_eq, Bool.not_eq_true', Bool.not_eq_false', Bool.not_eq_true, Bool.not_eq_false, Bool.and_eq_true, Bool.or_eq_true, Bool.and_eq_false_iff, Bool.or_eq_false_iff, Int.not_lt, Int.not_le, ne_eq, gt_iff_lt, ge_iff_le] at hb') <;> (try (exfalso; omega))) | (refine altW.of ?_ ?_) | (refine .of ((hbs _).mono ?_); rintro v _ ⟨rfl, rfl⟩)
          refine RdW.keep [3, 5, 6, 12, 13, 14, 20, 21] (n - (q + 1)) (by omega) ?_
          simp (disch := first | with_reducible assumption | omega) only [go_sem, Bool.true_and, Bool.and_true, Bool.and_self, Bool.false_and, Bool.and_false, Bool.true_or, Bool.or_true, Bool.false_or, Bool.or_false, ↓reduceIte, Nat.reduceEqDiff, Nat.reduceAdd, Nat.reduceMul, Nat.reduceSub, Nat.reduceBEq, Nat.reduceLeDiff, Nat.reduceLT, Nat.reduceMod, Nat.reduceDiv, Int.reduceToNat, Int.reducePow, Int.reduceMul, Int.reduceAdd, Int.reduceSub, Int.reduceLE, Int.reduceLT, Int.reduceNeg, Int.reduceDiv, Int.reduceMod, Int.reduceEq, Int.reduceBEq, Int.reduceBNe]
          exact ⟨q + 1, nx, N, rfl, hle, by omega, rfl, hR, hN, by rw [hpath]; exact hk2, hP⟩
        · rw [hz] at hbs hk0
          rw [hk0] at hcn
          generalize kidV N (pathOf ad q) 0 = kv at *
          generalize toV T (pathOf ad q) = tv at *
          repeat' first | simp (disch := first | with_reducible assumption | omega) only [go_sem, Bool.true_and, Bool.and_true, Bool.and_self, Bool.false_and, Bool.and_false, Bool.true_or, Bool.or_true, Bool.false_or, Bool.or_false, ↓reduceIte, Nat.reduceEqDiff, Nat.reduceAdd, Nat.reduceMul, Nat.reduceSub, Nat.reduceBEq, Nat.reduceLeDiff, Nat.reduceLT, Nat.reduceMod, Nat.reduceDiv, Int.reduceToNat, Int.reducePow, Int.reduceMul, Int.reduceAdd, Int.reduceSub, Int.reduceLE, Int.reduceLT, Int.reduceNeg, Int.reduceDiv, Int.reduceMod, Int.reduceEq, Int.reduceBEq, Int.reduceBNe, f18, f18b, f18r0, f18r1, f18r2, f18r3, f18r4, f18r5, f18r6, f18r7, f18r8, f18r9, f18r10, f18r11, f18r12, f18r13, f18r15, f18r16, f18r17, f18r19, f18l0, hP, hcn, hnx] | (refine BrW.of (fun hb => ?_) (fun hb => ?_) <;> (have hb' := hb; try simp only [decide_eq_true_eq, decide_eq_false_iff_not, beq_iff_eq, bne_iff_ne, beq_eq_false_iff_ne, bne_eq_false_iff_eq, Bool.not_eq_true', Bool.not_eq_false', Bool.not_eq_true, Bool.not_eq_false, Bool.and_eq_true, Bool.or_eq_true, Bool.and_eq_false_iff, Bool.or_eq_false_iff, Int.not_lt, Int.not_le, ne_eq, gt_iff_lt, ge_iff_le] at hb') <;> (try (exfalso; omega))) | (refine altW.of ?_ ?_) | (refine .of ((hbs _).mono ?_); rintro v _ ⟨rfl, rfl⟩)
          refine RdW.keep [3, 5, 6, 12, 13, 14, 20, 21] (n - (q + 1)) (by omega) ?_
          simp (disch := first | with_reducible assumption | omega) only [go_sem, Bool.true_and, Bool.and_true, Bool.and_self, Bool.false_and, Bool.and_false, Bool.true_or, Bool.or_true, Bool.false_or, Bool.or_false, ↓reduceIte, Nat.reduceEqDiff, Nat.reduceAdd, Nat.reduceMul, Nat.reduceSub, Nat.reduceBEq, Nat.reduceLeDiff, Nat.reduceLT, Nat.reduceMod, Nat.reduceDiv, Int.reduceToNat, Int.reducePow, Int.reduceMul, Int.reduceAdd, Int.reduceSub, Int.reduceLE, Int.reduceLT, Int.reduceNeg, Int.reduceDiv, Int.reduceMod, Int.reduceEq, Int.reduceBEq, Int.reduceBNe]
          exact ⟨q + 1, nx, N, rfl, hle, by omega, rfl, hR, hN, by rw [hpath]; exact hk2, hP⟩
    · obtain rfl : q = n := by omega
      have hR2 := hR.put (v := to) hcur
      have hT2 : ∀ p, ((fun p => if p = pathOf ad q then some (J2.length, to) else T p) p).map (·.2) = look (l.take (i + 1)) p := fun p => by
        by_cases e : p = pathOf ad q
        · rw [(htk p).1 e.symm]; simp [e]
        · rw [(htk p).2 (fun h => e h.symm)]; simp only [if_neg e]; exact hT p
      have hcn' := get_old hcn [.cells 0 0 false [.int .i64 to]]
      have hP' := get_old hP [.cells 0 0 false [.int .i64 to]]
      have hle2 := hle.trans (.app J2 [.cells 0 0 false [.int .i64 to]])
      generalize kidV N (pathOf ad q) 0 = kv0 at *
      generalize kidV N (pathOf ad q) 1 = kv1 at *
      generalize toV T (pathOf ad q) = tv at *
      repeat' first | simp (disch := first | with_reducible assumption | omega) only [go_sem, Bool.true_and, Bool.and_true, Bool.and_self, Bool.false_and, Bool.and_false, Bool.true_or, Bool.or_true, Bool.false_or, Bool.or_false, ↓reduceIte, Nat.reduceEqDiff, Nat.reduceAdd, Nat.reduceMul, Nat.reduceSub, Nat.reduceBEq, Nat.reduceLeDiff, Nat.reduceLT, Nat.reduceMod, Nat.reduceDiv, Int.reduceToNat, Int.reducePow, Int.reduceMul, Int.reduceAdd, Int.reduceSub, Int.reduceLE, Int.reduceLT, Int.reduceNeg, Int.reduceDiv, Int.reduceMod, Int.reduceEq, Int.reduceBEq, Int.reduceBNe, f18, f18b, f18r0, f18r1, f18r2, f18r3, f18r4, f18r5, f18r6, f18r7, f18r8, f18r9, f18r10, f18r11, f18r12, f18r13, f18r15, f18r16, f18r17, f18r19, f18l0, hP, hP', hcn, hcn'] | (refine BrW.of (fun hb => ?_) (fun hb => ?_) <;> (have hb' := hb; try simp only [decide_eq_true_eq, decide_eq_false_iff_not, beq_iff_eq, bne_iff_ne, beq_eq_false_iff_ne, bne_eq_false_iff_eq, Bool.not_eq_true', Bool.not_eq_false', Bool.not_eq_true, Bool.not_eq_false, Bool.and_eq_true, Bool.or_eq_true, Bool.and_eq_false_iff, Bool.or_eq_false_iff, Int.not_lt, Int.not_le, ne_eq, gt_iff_lt, ge_iff_le] at hb') <;> (try (exfalso; omega))) | (refine altW.of ?_ ?_)
      refine RdW.keep [3, 12, 13, 14] (l.length - (i + 1)) (by omega) ?_
      simp (disch := first | with_reducible assumption | omega) only [go_sem, Bool.true_and, Bool.and_true, Bool.and_self, Bool.false_and, Bool.and_false, Bool.true_or, Bool.or_true, Bool.false_or, Bool.or_false, ↓reduceIte, Nat.reduceEqDiff, Nat.reduceAdd, Nat.reduceMul, Nat.reduceSub, Nat.reduceBEq, Nat.reduceLeDiff, Nat.reduceLT, Nat.reduceMod, Nat.reduceDiv, Int.reduceToNat, Int.reducePow, Int.reduceMul, Int.reduceAdd, Int.reduceSub, Int.reduceLE, Int.reduceLT, Int.reduceNeg, Int.reduceDiv, Int.reduceMod, Int.reduceEq, Int.reduceBEq, Int.reduceBNe]
      exact ⟨i + 1, N, _, rfl, hle2.set hcb, by omega, rfl, hR2, hN, hT2⟩
  · obtain rfl : i = l.length := by omega
    rw [List.take_length] at hT
    repeat' first | simp (disch := first | with_reducible assumption | omega) only [go_sem, Bool.true_and, Bool.and_true, Bool.and_self, Bool.false_and, Bool.and_false, Bool.true_or, Bool.or_true, Bool.false_or, Bool.or_false, ↓reduceIte, Nat.reduceEqDiff, Nat.reduceAdd, Nat.reduceMul, Nat.reduceSub, Nat.reduceBEq, Nat.reduceLeDiff, Nat.reduceLT, Nat.reduceMod, Nat.reduceDiv, Int.reduceToNat, Int.reducePow, Int.reduceMul, Int.reduceAdd, Int.reduceSub, Int.reduceLE, Int.reduceLT, Int.reduceNeg, Int.reduceDiv, Int.reduceMod, Int.reduceEq, Int.reduceBEq, Int.reduceBNe, f18, f18b, f18r0, f18r1, f18r2, f18r3, f18r4, f18r5, f18r6, f18r7, f18r8, f18r9, f18r10, f18r11, f18r12, f18r13, f18r15, f18r16, f18r17, f18r19, f18l1, f18, f18b, f18r0, f18r1, f18r2, f18r3, f18r4, f18r5, f18r6, f18r7, f18r8, f18r9, f18r10, f18r11, f18r12, f18r13, f18r15, f18r16, f18r17, f18r19] | (refine BrW.of (fun hb => ?_) (fun hb => ?_) <;> (have hb' := hb; try simp only [decide_eq_true_eq, decide_eq_false_iff_not, beq_iff_eq, bne_iff_ne, beq_eq_false_iff_ne, bne_eq_false_iff_eq, Bool.not_eq_true', Bool.not_eq_false', Bool.not_eq_true, Bool.not_eq_false, Bool.and_eq_true, Bool.or_eq_true, Bool.and_eq_false_iff, Bool.or_eq_false_iff, Int.not_lt, Int.not_le, ne_eq, gt_iff_lt, ge_iff_le] at hb') <;> (try (exfalso; omega))) | (refine altW.of ?_ ?_)
    exact .here ⟨N, T, _, rfl, hle, hR, hN, hT⟩
end Go.Proofs.Ytiflaenenlcidaa
