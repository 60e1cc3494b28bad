/-
  The abstract machine, part W: a call whose arguments are known is reckoned; and a call of plain values leaves every heap as it was. For any program.
-/
import Derived.Test.YtfkhljgifndbpaaDoorAmQ
namespace Go.Am

/-- The same value, where that is seen at once. -/
def veq0 : Value → Value → Bool
  | .bool a, .bool b => a == b
  | .int k a, .int k' b => decide (k = k') && decide (a = b)
  | .pointer none, .pointer none => true
  | .pointer (some ⟨a, o, s⟩), .pointer (some ⟨a', o', s'⟩) => a == a' && o == o' && s == s'
  | .slice none n c, .slice none n' c' => n == n' && c == c'
  | .slice (some ⟨a, o, s⟩) n c, .slice (some ⟨a', o', s'⟩) n' c' => a == a' && o == o' && s == s' && n == n' && c == c'
  | .map none, .map none => true
  | .map (some a), .map (some b) => a == b
  | .nilFunc, .nilFunc => true
  | .nilIface, .nilIface => true
  | _, _ => false
def leq0 : List Value → List Value → Bool
  | [], [] => true
  | a :: l, b :: m => veq0 a b && leq0 l m
  | _, _ => false
def veq : Value → Value → Bool
  | .agg a, .agg b => leq0 a.toList b.toList
  | .tuple a, .tuple b => leq0 a.toList b.toList
  | .func (.func f) a b, .func (.func g) c d => f == g && leq0 a.toList c.toList && leq0 b.toList d.toList
  | a, b => veq0 a b
theorem veq0_eq {a b : Value} (h : veq0 a b = true) : a = b := by
  unfold veq0 at h
  split at h <;> simp_all
theorem leq0_eq : ∀ {l m : List Value}, leq0 l m = true → l = m
  | [], [], _ => rfl
  | a :: l, b :: m, h => by simp only [leq0, Bool.and_eq_true] at h; rw [veq0_eq h.1, leq0_eq h.2]
  | [], _ :: _, h => by simp [leq0] at h
  | _ :: _, [], h => by simp [leq0] at h
theorem veq_eq {a b : Value} (h : veq a b = true) : a = b := by
  unfold veq at h
  split at h
  · have := leq0_eq h; congr 1; exact Array.toList_inj.1 this
  · have := leq0_eq h; congr 1; exact Array.toList_inj.1 this
  · simp only [Bool.and_eq_true, beq_iff_eq] at h
    obtain ⟨⟨rfl, h1⟩, h2⟩ := h
    rw [Array.toList_inj.1 (leq0_eq h1), Array.toList_inj.1 (leq0_eq h2)]
  · exact veq0_eq h

/-- An operation that turns nothing leaves the heap. -/
theorem opV_quiet {op : AOp} {e : Env} {H H' : Heap} {v : Value} (hq : loudOp op = false) (h : opV op e H = some (v, H')) : H' = H := by
  cases op with
  | alloc | box | buildSlice | store | makeSlice | append | appendZ | copy | clearS | callF | callV | bad | makeMap | rangeMap | nextMap | mapUpdate | mapEntry | entryStore | mapDelete => simp [loudOp] at hq
  | entryAt x =>
    simp only [opV] at h
    split at h
    · split at h
      · cases hl : entryOf _ _ _ _ with
        | none => rw [hl] at h; cases h
        | some r => rw [hl] at h; simp only [Option.map_some, Option.some.injEq, Prod.mk.injEq] at h; exact h.2.symm
      · cases h
    · cases h
  | lookup zero ok x i =>
    simp only [opV] at h
    split at h
    · split at h
      · rename_i es _ _ _
        cases hl : lookV zero ok _ _ _ with
        | none => rw [hl] at h; cases h
        | some r => rw [hl] at h; simp only [Option.map_some, Option.some.injEq, Prod.mk.injEq] at h; exact h.2.symm
      · cases h
    · cases h
  | _ =>
    simp only [opV] at h
    repeat' (split at h)
    all_goals first | (cases h; done) | (simp only [Option.some.injEq, Prod.mk.injEq] at h; exact h.2.symm)

abbrev CallX := FuncId → List Value → Heap → Option (Value × Heap)

/-- An operation's value and heap, calls by c. -/
def outX (c : CallX) (op : AOp) (e : Env) (H : Heap) : Option (Value × Heap) := match outV op e H with
  | .val v H => some (v, H)
  | .call f l => c f l H
  | .maybe b u _ H => if b then none else some (u, H)
  | .stuck => none

def opsX (c : CallX) : List AInstr → Env → Heap → Option (Env × Heap)
  | [], e, H => some (e, H)
  | i :: r, e, H => match wantE e i.guard with
    | some true => match outX c i.op e H with
      | some (v, H) => opsX c r (putE i.dst v e) H
      | none => none
    | some false => opsX c r (putE i.dst (.tuple #[]) e) H
    | none => none

def noCall : CallX := fun _ _ _ => none
/-- Does a quiet operation give that value here, too? -/
def sameX (op : AOp) (e : Env) (v : Value) (H : Heap) : Bool := match outX noCall op e H with
  | some (u, _) => veq u v
  | none => false

def pendX (n : Nat) (H : Heap) (l : List (Nat × AOp × Env × Value)) : Bool := l.all fun p => !decide (n < p.1) || sameX p.2.1 p.2.2.1 p.2.2.2 H

def drawX (c : CallX) : List AInstr → List (Nat × Nat × Bool) → Heap → List Heap → List (Nat × AOp × Env × Value) → Env → Option (Env × Heap)
  | i :: r, (lo, hi, loud) :: sp, cur, past, pend, e => match wantE e i.guard with
    | none => none
    | some false => if !loud || pendX past.length cur pend then drawX c r sp cur (if loud then cur :: past else past) pend (putE i.dst (.tuple #[]) e) else none
    | some true => match outX c i.op e cur with
      | none => none
      | some (v, H') => if loud then (if pendX past.length H' pend then drawX c r sp H' (cur :: past) pend (putE i.dst v e) else none)
        else if !loudOp i.op && (past.take (past.length - lo)).all (sameX i.op e v) then drawX c r sp cur past (if past.length < hi then (hi, i.op, e, v) :: pend else pend) (putE i.dst v e) else none
  | _, _, cur, _, _, e => some (e, cur)

def resX : List ARes → Env → Heap → Option (List Value)
  | [], _, _ => some []
  | .tmp t :: r, e, H => match e.get t, resX r e H with
    | some v, some l => some (v :: l)
    | _, _ => none
  | .cell t agg :: r, e, H => match loadO H agg (e.get t), resX r e H with
    | some v, some l => some (v :: l)
    | _, _ => none

/-- Code, reckoned. -/
def exec (pr : CallX) (tab : FuncId → Option AFn) : Nat → ACode → Env → Heap → Option (Exit × Env × Heap)
  | 0, _, _, _ => none
  | n + 1, c, e, H =>
    let call : CallX := fun f l H => match tab f with
      | some F => if l.length ≤ F.n then (match exec pr tab n F.body (argEnv 0 l) H with
        | some (.normal, e, H') | some (.ret, e, H') => (match resX F.rs e H' with
          | some vs => some (tupled vs, H')
          | none => none)
        | _ => none) else none
      | none => pr f l H
    match c with
    | .skip => some (.normal, e, H)
    | .ops l => match opsX call l e H with | some (e, H) => some (.normal, e, H) | none => none
    | .fork _ => none
    | .draw l sp => match drawX call l sp H [] [] e with | some (e, H) => some (.normal, e, H) | none => none
    | .alt _ => none
    | .seq a b => match exec pr tab n a e H with
      | some (.normal, e, H) => exec pr tab n b e H
      | r => r
    | .cond x a b => match ev e x with
      | some (.bool true) => exec pr tab n a e H
      | some (.bool false) => exec pr tab n b e H
      | _ => none
    | .block id c => match exec pr tab n c e H with
      | some (.exit i, e, H) => if i = id then some (.normal, e, H) else some (.exit i, e, H)
      | r => r
    | .loop c => match exec pr tab n c e H with
      | some (.normal, e, H) => exec pr tab n (.loop c) e H
      | r => r
    | .exit i => some (.exit i, e, H)
    | .ret => some (.ret, e, H)
    | .keep l c => exec pr tab n c (e.keep l) H
    | .bad => none

def callX (pr : CallX) (tab : FuncId → Option AFn) (n : Nat) : CallX := fun f l H => match tab f with
  | some F => if l.length ≤ F.n then (match exec pr tab n F.body (argEnv 0 l) H with
    | some (.normal, e, H') | some (.ret, e, H') => (match resX F.rs e H' with
      | some vs => some (tupled vs, H')
      | none => none)
    | _ => none) else none
  | none => pr f l H

def TabOk (P : Program) (tab : FuncId → Option AFn) : Prop := ∀ f F, tab f = some F → compFn P f = some F.strip ∧ F.n ≤ 1000000000

/-- What is reckoned holds. -/
def CallOk (P : Program) (c : CallX) : Prop := ∀ f l H v H', c f l H = some (v, H') → ∀ K : Value → Heap → Prop, K v H' → ACallK P f l H K
theorem noCall_ok (P : Program) : CallOk P noCall := fun _ _ _ _ _ h => by cases h

section
variable {P : Program}

theorem outX_ok {c : CallX} (hc : CallOk P c) {op : AOp} {e : Env} {H H' : Heap} {v : Value} (h : outX c op e H = some (v, H')) {K : Value → Heap → Prop} (hk : K v H') : outK (ACallK P) H K (outV op e H) := by
  unfold outX at h
  generalize outV op e H = o at h
  cases o with
  | val u H2 => simp only [Option.some.injEq, Prod.mk.injEq] at h; obtain ⟨rfl, rfl⟩ := h; exact hk
  | call f l => exact hc _ _ _ _ _ h K hk
  | maybe b u w H2 =>
    simp only at h
    split at h
    · cases h
    · rename_i hb
      simp only [Option.some.injEq, Prod.mk.injEq] at h
      obtain ⟨rfl, rfl⟩ := h
      exact ⟨hk, fun hb' => (hb hb').elim⟩
  | stuck => cases h

theorem opsX_ok {c : CallX} (hc : CallOk P c) : ∀ {l : List AInstr} {e e' : Env} {H H' : Heap}, opsX c l e H = some (e', H') → ∀ {K : Env → Heap → Prop}, K e' H' → opsV (ACallK P) l e H K
  | [], e, e', H, H', h, K, hk => by cases h; exact hk
  | i :: r, e, e', H, H', h, K, hk => by
    unfold opsX at h
    unfold opsV
    split at h
    · rename_i hw
      split at h
      · rename_i v H1 ho
        have key : outK (ACallK P) H (fun v H => opsV (ACallK P) r (putE i.dst v e) H K) (outV i.op e H) := outX_ok hc ho (opsX_ok hc h hk)
        unfold wantE at hw
        split at hw
        · rename_i hg; rw [hg]; exact key
        · rename_i t want hg
          rw [hg]
          simp only
          split at hw
          · rename_i b hb
            rw [hb]
            simp only [Option.some.injEq] at hw
            simp only [hw]
            exact (Br_true _ _).2 key
          · cases hw
          · cases hw
      · cases h
    · rename_i hw
      have key := opsX_ok hc h hk
      unfold wantE at hw
      split at hw
      · cases hw
      · rename_i t want hg
        rw [hg]
        simp only
        split at hw
        · rename_i b hb
          rw [hb]
          simp only [Option.some.injEq] at hw
          simp only [hw]
          exact (Br_false _ _).2 key
        · rename_i vs hb; rw [hb]; exact key
        · cases hw
    · cases h

theorem sameX_ok {op : AOp} (hq : loudOp op = false) {e : Env} {v : Value} {H : Heap} (h : sameX op e v H = true) : detV (ACallK P) op e H v H := by
  unfold sameX at h
  split at h
  · rename_i u H1 ho
    have hv := veq_eq h
    subst hv
    have : H1 = H := by
      unfold outX at ho
      split at ho
      · rename_i v2 H2 hov
        cases ho
        cases op with
        | callF f l => simp [loudOp] at hq
        | callV x l => simp [loudOp] at hq
        | eqS neg x y =>
          simp only [outV] at hov
          repeat' (split at hov)
          all_goals first | (cases hov; done) | (simp only [Out.val.injEq] at hov; exact hov.2.symm) | skip
        | _ =>
          simp only [outV, ofO] at hov
          split at hov
          · rename_i hop
            simp only [Out.val.injEq] at hov
            rw [← hov.2]
            exact opV_quiet hq hop
          · cases hov
      · cases ho
      · rename_i b u2 w2 H2 hov
        split at ho
        · cases ho
        · cases ho
          cases op with
          | eqS neg x y =>
            simp only [outV] at hov
            repeat' (split at hov)
            all_goals first | (cases hov; done) | (simp only [Out.maybe.injEq] at hov; exact hov.2.2.2.symm) | skip
          | callF f l => simp [loudOp] at hq
          | callV x l => simp [loudOp] at hq
          | _ =>
            simp only [outV, ofO] at hov
            split at hov <;> cases hov
      · cases ho
    subst this
    exact outX_ok (noCall_ok P) ho ⟨rfl, rfl⟩
  · cases h

def pendOf (P : Program) (l : List (Nat × AOp × Env × Value)) : List (Nat × (Heap → Prop)) := l.map fun p => (p.1, fun H => detV (ACallK P) p.2.1 p.2.2.1 H p.2.2.2 H)
theorem pendX_ok {n : Nat} {H : Heap} : ∀ {l : List (Nat × AOp × Env × Value)}, (∀ p ∈ l, loudOp p.2.1 = false) → pendX n H l = true → pendP n H (pendOf P l)
  | [], _, _ => trivial
  | p :: l, hq, h => by
    simp only [pendX, List.all_cons, Bool.and_eq_true, Bool.or_eq_true, Bool.not_eq_true', decide_eq_false_iff_not] at h
    refine ⟨fun hn => ?_, pendX_ok (fun p hp => hq p (by simp [hp])) (by simpa [pendX] using h.2)⟩
    rcases h.1 with h1 | h1
    · exact (h1 hn).elim
    · exact sameX_ok (hq p (by simp)) h1

theorem allP_of {p : Heap → Prop} : ∀ {l : List Heap}, (∀ H ∈ l, p H) → allP l p
  | [], _ => trivial
  | H :: l, h => ⟨h H (by simp), allP_of fun H hH => h H (by simp [hH])⟩

theorem drawX_ok {c : CallX} (hc : CallOk P c) : ∀ {l : List AInstr} {sp : List (Nat × Nat × Bool)} {cur : Heap} {past : List Heap} {pend : List (Nat × AOp × Env × Value)} {e e' : Env} {H' : Heap}, (∀ p ∈ pend, loudOp p.2.1 = false) →
    drawX c l sp cur past pend e = some (e', H') → ∀ {K : Env → Heap → Prop}, K e' H' → drawV (ACallK P) l sp cur past (pendOf P pend) e K
  | [], sp, cur, past, pend, e, e', H', hq, h, K, hk => by
    simp only [drawX, Option.some.injEq, Prod.mk.injEq] at h
    obtain ⟨rfl, rfl⟩ := h
    simpa [drawV] using hk
  | i :: r, [], cur, past, pend, e, e', H', hq, h, K, hk => by
    simp only [drawX, Option.some.injEq, Prod.mk.injEq] at h
    obtain ⟨rfl, rfl⟩ := h
    simpa [drawV] using hk
  | i :: r, (lo, hi, loud) :: sp, cur, past, pend, e, e', H', hq, h, K, hk => by
    unfold drawX at h
    unfold drawV
    split at h
    · cases h
    · rename_i hw
      simp only [hw]
      split at h
      · rename_i hp
        refine ⟨fun hl => ?_, drawX_ok hc hq h hk⟩
        subst hl
        simp only [Bool.not_true, Bool.false_or] at hp
        exact pendX_ok hq hp
      · cases h
    · rename_i hw
      simp only [hw]
      split at h
      · cases h
      · rename_i v H1 ho
        cases loud with
        | true =>
          simp only [if_true] at h ⊢
          suffices hD : outD (ACallK P) cur (fun v H' => pendP past.length H' (pendOf P pend) ∧ drawV (ACallK P) r sp H' (cur :: past) (pendOf P pend) (putE i.dst v e) K) (outV i.op e cur) by
            split
            · exact outD_outK (ACallK.mono' P) hD
            · exact hD
          split at h
          · rename_i hp
            have h1 := pendX_ok (P := P) hq hp
            have h2 := drawX_ok hc hq h hk
            unfold outX at ho
            generalize outV i.op e cur = o at ho
            cases o with
            | val u H2 => simp only [Option.some.injEq, Prod.mk.injEq] at ho; obtain ⟨rfl, rfl⟩ := ho; exact ⟨h1, h2⟩
            | call f l => exact ⟨v, H1, hc _ _ _ _ _ ho _ ⟨rfl, rfl⟩, h1, h2⟩
            | maybe b u w H2 =>
              simp only at ho
              split at ho
              · cases ho
              · rename_i hb
                simp only [Option.some.injEq, Prod.mk.injEq] at ho
                obtain ⟨rfl, rfl⟩ := ho
                exact ⟨by simpa using hb, h1, h2⟩
            | stuck => cases ho
          · cases h
        | false =>
          simp only [Bool.false_eq_true, if_false] at h ⊢
          split at h
          · rename_i hp
            simp only [Bool.and_eq_true, Bool.not_eq_true', List.all_eq_true] at hp
            have hself : sameX i.op e v cur = true ∨ True := .inr trivial
            have h1 : allP (past.take (past.length - lo)) (fun H => detV (ACallK P) i.op e H v H) := allP_of fun H hH => sameX_ok hp.1 (hp.2 H hH)
            have h2 : drawV (ACallK P) r sp cur past (if past.length < hi then (hi, fun H => detV (ACallK P) i.op e H v H) :: pendOf P pend else pendOf P pend) (putE i.dst v e) K := by
              have := drawX_ok hc (K := K) (by
                intro p hp'
                split at hp'
                · rcases List.mem_cons.1 hp' with rfl | hp'
                  · exact hp.1
                  · exact hq p hp'
                · exact hq p hp') h hk
              split
              · rename_i hlt; rw [if_pos hlt] at this; exact this
              · rename_i hlt; rw [if_neg hlt] at this; exact this
            have hcur : H1 = cur := by
              unfold outX at ho
              split at ho
              · rename_i v2 H2 hov
                cases ho
                generalize i.op = op at hov hp
                cases op with
                | callF f l => have := hp.1; simp [loudOp] at this
                | callV x l => have := hp.1; simp [loudOp] at this
                | eqS neg x y =>
                  simp only [outV] at hov
                  repeat' (split at hov)
                  all_goals first | (cases hov; done) | (simp only [Out.val.injEq] at hov; exact hov.2.symm) | skip
                | _ =>
                  simp only [outV, ofO] at hov
                  split at hov
                  · rename_i hop
                    simp only [Out.val.injEq] at hov
                    rw [← hov.2]
                    exact opV_quiet hp.1 hop
                  · cases hov
              · rename_i f l hov
                generalize i.op = op at hov hp
                cases op with
                | callF f l => have := hp.1; simp [loudOp] at this
                | callV x l => have := hp.1; simp [loudOp] at this
                | eqS neg x y =>
                  simp only [outV] at hov
                  repeat' (split at hov)
                  all_goals first | (cases hov; done)
                | _ =>
                  simp only [outV, ofO] at hov
                  split at hov <;> cases hov
              · rename_i b u2 w2 H2 hov
                split at ho
                · cases ho
                · cases ho
                  generalize i.op = op at hov hp
                  cases op with
                  | eqS neg x y =>
                    simp only [outV] at hov
                    repeat' (split at hov)
                    all_goals first | (cases hov; done) | (simp only [Out.maybe.injEq] at hov; exact hov.2.2.2.symm) | skip
                  | callF f l => have := hp.1; simp [loudOp] at this
                  | callV x l => have := hp.1; simp [loudOp] at this
                  | _ =>
                    simp only [outV, ofO] at hov
                    split at hov <;> cases hov
              · cases ho
            subst hcur
            unfold outX at ho
            generalize outV i.op e H1 = o at ho
            cases o with
            | val u H2 => simp only [Option.some.injEq, Prod.mk.injEq] at ho; obtain ⟨rfl, rfl⟩ := ho; exact ⟨rfl, h1, h2⟩
            | call f l => exact ⟨v, H1, hc _ _ _ _ _ ho _ ⟨rfl, rfl⟩, rfl, h1, h2⟩
            | maybe b u w H2 =>
              simp only at ho
              split at ho
              · cases ho
              · rename_i hb
                simp only [Option.some.injEq, Prod.mk.injEq] at ho
                obtain ⟨rfl, rfl⟩ := ho
                exact ⟨by simpa using hb, rfl, h1, h2⟩
            | stuck => cases ho
          · cases h

theorem resX_ok : ∀ {rs : List ARes} {e : Env} {H : Heap} {l : List Value}, resX rs e H = some l → ∀ {K : List Value → Prop}, K l → resK rs e H K
  | [], e, H, l, h, K, hk => by cases h; exact hk
  | .tmp t :: r, e, H, l, h, K, hk => by
    unfold resX at h
    split at h
    · rename_i v l' hv hr
      cases h
      rw [resK_tmp, hv, vK_some]
      exact resX_ok hr hk
    · cases h
  | .cell t agg :: r, e, H, l, h, K, hk => by
    unfold resX at h
    split at h
    · rename_i v l' hv hr
      cases h
      rw [resK_cell, hv, vK_some]
      exact resX_ok hr hk
    · cases h

theorem exec_ok {pr : CallX} (hpr : CallOk P pr) {tab : FuncId → Option AFn} (ht : TabOk P tab) : ∀ (n : Nat) {c : ACode} {e e' : Env} {H H' : Heap} {x : Exit}, exec pr tab n c e H = some (x, e', H') → ∀ {N : Nat} {H0 : Heap} {Q : Exit → Env → Heap → Prop}, N ≤ 1000000000 → Q x e' H' →
    Ws (ACallK P) (loopK P N H0) c Q e H := by
  intro n
  induction n using Nat.strongRecOn with
  | _ n ih =>
    intro c e e' H H' x h N H0 Q hN hq
    cases n with
    | zero => cases h
    | succ n =>
      have hcall : CallOk P (fun f l H => match tab f with
          | some F => if l.length ≤ F.n then (match exec pr tab n F.body (argEnv 0 l) H with
            | some (.normal, e, H') | some (.ret, e, H') => (match resX F.rs e H' with
              | some vs => some (tupled vs, H')
              | none => none)
            | _ => none) else none
          | none => pr f l H) := by
        intro f l H v H' hc K hk
        simp only at hc
        split at hc
        · rename_i F hF
          obtain ⟨hcomp, hbig⟩ := ht f F hF
          split at hc
          · rename_i hlen
            refine .walk hcomp hlen hbig ?_
            split at hc
            · rename_i e1 H1 hx
              split at hc
              · rename_i vs hr
                cases hc
                exact ih n (by omega) hx hbig (Q := retK H F.rs K) ((retK_normal _ _ _).2 (resX_ok hr (.here hk)))
              · cases hc
            · rename_i e1 H1 hx
              split at hc
              · rename_i vs hr
                cases hc
                exact ih n (by omega) hx hbig (Q := retK H F.rs K) ((retK_ret _ _ _).2 (resX_ok hr (.here hk)))
              · cases hc
            · cases hc
          · cases hc
        · exact hpr _ _ _ _ _ hc K hk
      cases c with
      | skip => simp only [exec, Option.some.injEq, Prod.mk.injEq] at h; obtain ⟨rfl, rfl, rfl⟩ := h; exact hq
      | ops l =>
        simp only [exec] at h
        split at h
        · rename_i e1 H1 ho
          simp only [Option.some.injEq, Prod.mk.injEq] at h; obtain ⟨rfl, rfl, rfl⟩ := h
          exact (Ws_ops l).2 (opsX_ok hcall ho hq)
        · cases h
      | draw l sp =>
        simp only [exec] at h
        split at h
        · rename_i e1 H1 ho
          simp only [Option.some.injEq, Prod.mk.injEq] at h; obtain ⟨rfl, rfl, rfl⟩ := h
          exact (Ws_draw l sp).2 (drawX_ok hcall (pend := []) (fun p hp => by cases hp) ho hq)
        · cases h
      | alt l => simp [exec] at h
      | fork l => simp [exec] at h
      | seq a b =>
        simp only [exec] at h
        rw [Ws_seq]
        split at h
        · rename_i e1 H1 ha
          exact ih n (by omega) ha hN (thenK_normal.2 (ih n (by omega) h hN hq))
        · rename_i hx
          refine ih n (by omega) h hN ?_
          cases x with
          | normal => exact (hx _ _ h).elim
          | _ => exact hq
      | cond t a b =>
        simp only [exec] at h
        rw [Ws_cond]
        split at h
        · rename_i hv; rw [hv, cK_bool]; exact (Br_true _ _).2 (ih n (by omega) h hN hq)
        · rename_i hv; rw [hv, cK_bool]; exact (Br_false _ _).2 (ih n (by omega) h hN hq)
        · cases h
      | block id c =>
        simp only [exec] at h
        rw [Ws_block]
        split at h
        · rename_i i e1 H1 ha
          split at h
          · rename_i hi
            simp only [Option.some.injEq, Prod.mk.injEq] at h; obtain ⟨rfl, rfl, rfl⟩ := h
            refine ih n (by omega) ha hN ?_
            simp only [blockK, hi, if_true]
            exact hq
          · rename_i hi
            simp only [Option.some.injEq, Prod.mk.injEq] at h; obtain ⟨rfl, rfl, rfl⟩ := h
            refine ih n (by omega) ha hN ?_
            simp only [blockK, hi, if_false]
            exact hq
        · rename_i hx
          refine ih n (by omega) h hN ?_
          cases x with
          | exit i => exact (hx _ _ _ h).elim
          | _ => exact hq
      | loop c =>
        rw [Ws_loop]
        refine loopK.of hN (fun m e H => m ≤ n + 1 ∧ exec pr tab m (.loop c) e H = some (x, e', H')) (n + 1) ⟨Nat.le_refl _, h⟩ ?_
        rintro m e1 H1 ⟨hm, h1⟩
        cases m with
        | zero => cases h1
        | succ m =>
          simp only [exec] at h1
          split at h1
          · rename_i e2 H2 ha
            exact ih m (by omega) ha hN (thenK_normal.2 (Rd.same m (by omega) ⟨by omega, h1⟩))
          · rename_i hx
            refine ih m (by omega) h1 hN ?_
            cases x with
            | normal => exact (hx _ _ h1).elim
            | _ => exact hq
      | exit i => simp only [exec, Option.some.injEq, Prod.mk.injEq] at h; obtain ⟨rfl, rfl, rfl⟩ := h; exact hq
      | ret => simp only [exec, Option.some.injEq, Prod.mk.injEq] at h; obtain ⟨rfl, rfl, rfl⟩ := h; exact hq
      | keep l c => simp only [exec] at h; exact (Ws_keep l c).2 (ih n (by omega) h hN hq)
      | bad => cases h

theorem callX_ok {pr : CallX} (hpr : CallOk P pr) {tab : FuncId → Option AFn} (ht : TabOk P tab) (n : Nat) : CallOk P (callX pr tab n) := by
  intro f l H v H' hc K hk
  simp only [callX] at hc
  split at hc
  · rename_i F hF
    obtain ⟨hcomp, hbig⟩ := ht f F hF
    split at hc
    · rename_i hlen
      refine .walk hcomp hlen hbig ?_
      split at hc
      · rename_i e1 H1 hx
        split at hc
        · rename_i vs hr
          cases hc
          exact exec_ok hpr ht n hx hbig (Q := retK H F.rs K) ((retK_normal _ _ _).2 (resX_ok hr (.here hk)))
        · cases hc
      · rename_i e1 H1 hx
        split at hc
        · rename_i vs hr
          cases hc
          exact exec_ok hpr ht n hx hbig (Q := retK H F.rs K) ((retK_ret _ _ _).2 (resX_ok hr (.here hk)))
        · cases hc
      · cases hc
    · cases hc
  · exact hpr _ _ _ _ _ hc K hk

end

/-! ## What a call of plain values does -/

theorem VRel.plain_inv {T : List Tag} {ι : Inj} {v v' : Value} (hp : Am.plain v = true) (h : VRel T ι v v') : v' = v := by
  have fl : ∀ {u u' : Value}, Am.flat u = true → VRel T ι u u' → u' = u := fun {u u'} hu h => by
    cases h with
    | flat => rfl
    | _ => simp [Am.flat] at hu
  have arr : ∀ {a b : Array Value}, a.toList.all Am.flat = true → a.size = b.size → (∀ (i : Nat) u u', a[i]? = some u → b[i]? = some u' → VRel T ι u u') → b = a := fun {a b} ha hs hr => by
    apply Array.ext_getElem?
    intro i
    by_cases hi : i < a.size
    · rw [Array.getElem?_eq_getElem hi, Array.getElem?_eq_getElem (hs ▸ hi)]
      congr 1
      exact fl (List.all_eq_true.1 ha _ (by simp)) (hr i _ _ (Array.getElem?_eq_getElem hi) (Array.getElem?_eq_getElem (hs ▸ hi)))
    · rw [Array.getElem?_eq_none (by omega), Array.getElem?_eq_none (by omega)]
  cases h with
  | flat => rfl
  | agg hs h1 hr => simp only [Am.plain] at hp; rw [arr hp hs hr]
  | tuple hs hr => simp only [Am.plain] at hp; rw [arr hp hs hr]
  | _ => simp [Am.plain, Am.flat] at hp

theorem HSim.later {prot : Nat → Prop} {B w w' : World} {ι : Inj} {H : Heap} (h : HSim prot B w ι H) (hos : w'.os = w.os) (htape : w'.tape = w.tape) (hout : w'.output = w.output) (hsize : w.heap.size ≤ w'.heap.size)
    (hb : ∀ b, b < w.heap.size → w'.heap[b]? = w.heap[b]?) : HSim prot B w' ι H :=
  ⟨h.len, hos.trans h.os, htape.trans h.tape, hout.trans h.output, Nat.le_trans h.size hsize, h.low, fun b hp => (hb b (Nat.lt_of_lt_of_le (h.low b hp) h.size)).trans (h.frame b hp),
    fun k o hk => (h.obj k o hk).ext (.refl _ _) rfl (fun _ hL => hb _ (h.loc_lt hL)), h.sep, h.glob⟩

/-- Called with plain values, and handing back a plain one, a function leaves every heap as it was. -/
theorem ACallK.lift {P : Program} {f : FuncId} {args : List Value} {K : Value → Prop} (h : ACallK P f args [] (fun v _ => plain v = true ∧ K v)) (ha : args.all plain = true) (H : Heap) : ACallK P f args H (fun v H' => K v ∧ H' = H) := by
  refine ⟨h.1, fun prot B ι w args' hs hv => ?_⟩
  have h0 : HSim (fun b => b < w.heap.size) w w [] [] := ⟨rfl, rfl, rfl, rfl, Nat.le_refl _, fun _ h => h, fun _ _ => rfl, fun k o h => by simp at h, fun j k L L' _ h => by simp at h, hs.glob.mono fun b hb => ⟨Nat.lt_of_lt_of_le (hs.low b hb) hs.size, hs.frame b hb⟩⟩
  have hv0 : VRels (tags []) [] args args'.toList := ⟨hv.1, fun i v v' a b => by
    have hp : plain v = true := List.all_eq_true.1 ha _ (List.mem_of_getElem? a)
    have := (hv.2 i v v' a b).plain_inv hp
    subst this
    exact VRel.plain hp⟩
  refine (h.2 _ w [] w args' h0 hv0).mono ?_
  rintro e w' ⟨v, v', ι', H', rfl, h1, _, h3, hp, hk⟩
  have := h3.plain_inv hp
  subst this
  exact ⟨v', v', ι, H, rfl, hs.later h1.os h1.tape h1.output h1.size h1.frame, .refl _ _, VRel.plain hp, hk, rfl⟩

def yes : Option (Value × Heap) → Bool
  | some (.bool true, _) => true
  | _ => false
/-- A call without arguments that is reckoned to be true. -/
theorem ACallK.yes {P : Program} {tab : FuncId → Option AFn} (ht : TabOk P tab) (n : Nat) {f : FuncId} (h : yes (callX noCall tab n f [] []) = true) (H : Heap) : ACallK P f [] H (fun v H' => v = .bool true ∧ H' = H) := by
  refine ACallK.lift (args := []) ?_ rfl H
  unfold Am.yes at h
  split at h
  · rename_i H' hx
    exact callX_ok (noCall_ok P) ht n _ _ _ _ _ hx _ ⟨rfl, rfl⟩
  · cases h

/-! ## Reckoned with what stands behind: where several orders may be, all of them are reckoned. -/

abbrev CallC := FuncId → List Value → Heap → (Value → Heap → Bool) → Bool

def opsC (c : CallC) : List AInstr → Env → Heap → (Env → Heap → Bool) → Bool
  | [], e, H, k => k e H
  | i :: r, e, H, k => match wantE e i.guard with
    | some true => match outV i.op e H with
      | .val v H => opsC c r (putE i.dst v e) H k
      | .call f l => c f l H fun v H => opsC c r (putE i.dst v e) H k
      | .maybe b u w H => opsC c r (putE i.dst u e) H k && (!b || opsC c r (putE i.dst w e) H k)
      | .stuck => false
    | some false => opsC c r (putE i.dst (.tuple #[]) e) H k
    | none => false

/-- At the first step over a map. -/
def splitNext : List AInstr → Option (List AInstr × Option Nat × AOpd × List AInstr)
  | [] => none
  | ⟨d, none, .nextMap x⟩ :: r => some ([], d, x, r)
  | i :: r => match splitNext r with
    | some (p, d, x, q) => some (i :: p, d, x, q)
    | none => none
theorem splitNext_eq : ∀ {l p q : List AInstr} {d : Option Nat} {x : AOpd}, splitNext l = some (p, d, x, q) → l = p ++ ⟨d, none, .nextMap x⟩ :: q
  | [], _, _, _, _, h => by cases h
  | i :: r, p, q, d, x, h => by
    unfold splitNext at h
    split at h
    · rename_i heq; cases heq
    · rename_i heq; cases heq; cases h; rfl
    · rename_i heq; cases heq
      split at h
      · rename_i hr; cases h; rw [splitNext_eq hr]; rfl
      · cases h
def nextC (x : AOpd) (e : Env) (H : Heap) (k : Value → Heap → Bool) : Bool := match ev e x with
  | some v => match iterAt H v with
    | some (kk, r, since, seen, c0, es, clock) => decide (since ≤ c0) && (es.all fun x => decide (x.born < since) && flat x.key) && (!(leftL es seen).isEmpty || k (.tuple #[.bool false]) H) &&
        (leftL es seen).all fun x => k (.tuple #[.bool true, x.key, x.val]) (H.set kk (.iter r since (seen ++ [x.born]) clock))
    | none => false
  | none => false
theorem nextC_ok {x : AOpd} {e : Env} {H : Heap} {k : Value → Heap → Bool} (h : nextC x e H k = true) {K : Value → Heap → Prop} (hk : ∀ v H, k v H = true → K v H) : opK (.nextMap x) e H K := by
  unfold nextC at h
  split at h
  · rename_i v hv
    split at h
    · rename_i kk r since seen c0 es clock hi
      rw [Bool.and_eq_true, Bool.and_eq_true, Bool.and_eq_true, decide_eq_true_eq] at h
      obtain ⟨⟨⟨h1, h2⟩, h3⟩, h4⟩ := h
      refine evK_of hv ?_
      simp only [hi]
      rw [if_pos ⟨h1, h2⟩]
      refine ⟨fun h0 => hk _ _ ?_, fun y hy => hk _ _ ?_⟩
      · rw [h0] at h3; simpa using h3
      · rw [List.all_eq_true] at h4; exact h4 y hy
    · cases h
  · cases h

def execC (pr : CallX) (tab : FuncId → Option AFn) : Nat → ACode → Env → Heap → (Exit → Env → Heap → Bool) → Bool
  | 0, _, _, _, _ => false
  | n + 1, c, e, H, k =>
    let call : CallC := fun f l H k => match tab f with
      | some F => decide (l.length ≤ F.n) && execC pr tab n F.body (argEnv 0 l) H fun x e H' => match x with
        | .normal | .ret => (match resX F.rs e H' with
          | some vs => k (tupled vs) H'
          | none => false)
        | _ => false
      | none => (match pr f l H with
        | some (v, H') => k v H'
        | none => false)
    match c with
    | .skip => k .normal e H
    | .ops l => opsC call l e H fun e H => k .normal e H
    | .fork l => (match splitNext l with
      | some (p, d, x, q) => opsC call p e H fun e H => nextC x e H fun v H => opsC call q (putE d v e) H fun e H => k .normal e H
      | none => opsC call l e H fun e H => k .normal e H)
    | .draw l sp => match drawX (callX pr tab n) l sp H [] [] e with | some (e, H) => k .normal e H | none => false
    | .alt l => l.all fun x => match drawX (callX pr tab n) x.1 x.2 H [] [] e with | some (e, H) => k .normal e H | none => false
    | .seq a b => execC pr tab n a e H fun x e H => match x with
      | .normal => execC pr tab n b e H k
      | x => k x e H
    | .cond x a b => match ev e x with
      | some (.bool true) => execC pr tab n a e H k
      | some (.bool false) => execC pr tab n b e H k
      | _ => false
    | .block id c => execC pr tab n c e H fun x e H => match x with
      | .exit i => if i = id then k .normal e H else k (.exit i) e H
      | x => k x e H
    | .loop c => execC pr tab n c e H fun x e H => match x with
      | .normal => execC pr tab n (.loop c) e H k
      | x => k x e H
    | .exit i => k (.exit i) e H
    | .ret => k .ret e H
    | .keep l c => execC pr tab n c (e.keep l) H k
    | .bad => false

def callC (pr : CallX) (tab : FuncId → Option AFn) (n : Nat) : CallC := fun f l H k => match tab f with
  | some F => decide (l.length ≤ F.n) && execC pr tab n F.body (argEnv 0 l) H fun x e H' => match x with
    | .normal | .ret => (match resX F.rs e H' with
      | some vs => k (tupled vs) H'
      | none => false)
    | _ => false
  | none => (match pr f l H with
    | some (v, H') => k v H'
    | none => false)

def CallCOk (P : Program) (c : CallC) : Prop := ∀ f l H k, c f l H k = true → ∀ K : Value → Heap → Prop, (∀ v H', k v H' = true → K v H') → ACallK P f l H K

section
variable {P : Program}

theorem opsC_ok {c : CallC} (hc : CallCOk P c) : ∀ {l : List AInstr} {e : Env} {H : Heap} {k : Env → Heap → Bool}, opsC c l e H k = true → ∀ {K : Env → Heap → Prop}, (∀ e H, k e H = true → K e H) → opsV (ACallK P) l e H K
  | [], e, H, k, h, K, hk => hk _ _ h
  | i :: r, e, H, k, h, K, hk => by
    unfold opsC at h
    unfold opsV
    split at h
    · rename_i hw
      have key : outK (ACallK P) H (fun v H => opsV (ACallK P) r (putE i.dst v e) H K) (outV i.op e H) := by
        generalize outV i.op e H = o at h
        cases o with
        | val v H2 => exact opsC_ok hc h hk
        | call f l => exact hc _ _ _ _ h _ fun v H' hv => opsC_ok hc hv hk
        | maybe b u w H2 =>
          simp only [Bool.and_eq_true, Bool.or_eq_true, Bool.not_eq_true'] at h
          exact ⟨opsC_ok hc h.1 hk, fun hb' => opsC_ok hc (h.2.resolve_left (by rw [hb']; simp)) hk⟩
        | stuck => cases h
      unfold wantE at hw
      split at hw
      · rename_i hg; rw [hg]; exact key
      · rename_i t want hg
        rw [hg]
        simp only
        split at hw
        · rename_i b hb
          rw [hb]
          simp only [Option.some.injEq] at hw
          simp only [hw]
          exact (Br_true _ _).2 key
        · cases hw
        · cases hw
    · rename_i hw
      have key := opsC_ok hc h hk
      unfold wantE at hw
      split at hw
      · cases hw
      · rename_i t want hg
        rw [hg]
        simp only
        split at hw
        · rename_i b hb
          rw [hb]
          simp only [Option.some.injEq] at hw
          simp only [hw]
          exact (Br_false _ _).2 key
        · rename_i vs hb; rw [hb]; exact key
        · cases hw
    · cases h

theorem execC_ok {pr : CallX} (hpr : CallOk P pr) {tab : FuncId → Option AFn} (ht : TabOk P tab) : ∀ (n : Nat) {c : ACode} {e : Env} {H : Heap} {k : Exit → Env → Heap → Bool}, execC pr tab n c e H k = true → ∀ {N : Nat} {H0 : Heap} {Q : Exit → Env → Heap → Prop}, N ≤ 1000000000 → (∀ x e H, k x e H = true → Q x e H) →
    Ws (ACallK P) (loopK P N H0) c Q e H := by
  intro n
  induction n using Nat.strongRecOn with
  | _ n ih =>
    intro c e H k h N H0 Q hN hq
    cases n with
    | zero => cases h
    | succ n =>
      have hcall : CallCOk P (fun f l H k => match tab f with
          | some F => decide (l.length ≤ F.n) && execC pr tab n F.body (argEnv 0 l) H fun x e H' => match x with
            | .normal | .ret => (match resX F.rs e H' with
              | some vs => k (tupled vs) H'
              | none => false)
            | _ => false
          | none => (match pr f l H with
            | some (v, H') => k v H'
            | none => false)) := by
        intro f l H k hc K hk
        simp only at hc
        split at hc
        · rename_i F hF
          obtain ⟨hcomp, hbig⟩ := ht f F hF
          simp only [Bool.and_eq_true, decide_eq_true_eq] at hc
          refine .walk hcomp hc.1 hbig (ih n (by omega) hc.2 hbig (Q := retK H F.rs K) fun x e1 H1 hx => ?_)
          split at hx
          · split at hx
            · rename_i vs hr; exact (retK_normal _ _ _).2 (resX_ok hr (.here (hk _ _ hx)))
            · cases hx
          · split at hx
            · rename_i vs hr; exact (retK_ret _ _ _).2 (resX_ok hr (.here (hk _ _ hx)))
            · cases hx
          · cases hx
        · split at hc
          · rename_i v H' hp; exact hpr _ _ _ _ _ hp K (hk _ _ hc)
          · cases hc
      have hdir : CallOk P (callX pr tab n) := callX_ok hpr ht n
      cases c with
      | skip => simp only [execC] at h; exact (Ws_skip).2 (hq _ _ _ h)
      | ops l => simp only [execC] at h; exact (Ws_ops l).2 (opsC_ok hcall h fun e H he => hq _ _ _ he)
      | fork l =>
        simp only [execC] at h
        split at h
        · rename_i p d x q hs
          refine .inr (.inr ⟨p, d, x, q, splitNext_eq hs, opsC_ok hcall h fun e H he => nextC_ok he fun v H hv => opsC_ok hcall hv fun e H he => hq _ _ _ he⟩)
        · exact .inl (opsC_ok hcall h fun e H he => hq _ _ _ he)
      | draw l sp =>
        simp only [execC] at h
        split at h
        · rename_i e1 H1 ho
          exact (Ws_draw l sp).2 (drawX_ok hdir (pend := []) (fun p hp => by cases hp) ho (hq _ _ _ h))
        · cases h
      | alt l =>
        simp only [execC, List.all_eq_true] at h
        simp only [Ws]
        intro x hx
        have h1 := h x hx
        split at h1
        · rename_i e1 H1 ho
          exact drawX_ok hdir (pend := []) (fun p hp => by cases hp) ho (hq _ _ _ h1)
        · cases h1
      | seq a b =>
        simp only [execC] at h
        rw [Ws_seq]
        refine ih n (by omega) h hN fun x e H hx => ?_
        cases x with
        | normal => exact thenK_normal.2 (ih n (by omega) hx hN hq)
        | _ => exact hq _ _ _ hx
      | cond t a b =>
        simp only [execC] at h
        rw [Ws_cond]
        split at h
        · rename_i hv; rw [hv, cK_bool]; exact (Br_true _ _).2 (ih n (by omega) h hN hq)
        · rename_i hv; rw [hv, cK_bool]; exact (Br_false _ _).2 (ih n (by omega) h hN hq)
        · cases h
      | block id c =>
        simp only [execC] at h
        rw [Ws_block]
        refine ih n (by omega) h hN fun x e H hx => ?_
        cases x with
        | exit i =>
          simp only at hx
          simp only [blockK]
          split at hx
          · rename_i hi; rw [if_pos hi]; exact hq _ _ _ hx
          · rename_i hi; rw [if_neg hi]; exact hq _ _ _ hx
        | _ => exact hq _ _ _ hx
      | loop c =>
        rw [Ws_loop]
        refine loopK.of hN (fun m e H => m ≤ n + 1 ∧ execC pr tab m (.loop c) e H k = true) (n + 1) ⟨Nat.le_refl _, h⟩ ?_
        rintro m e1 H1 ⟨hm, h1⟩
        cases m with
        | zero => cases h1
        | succ m =>
          simp only [execC] at h1
          refine ih m (by omega) h1 hN fun x e H hx => ?_
          cases x with
          | normal => exact thenK_normal.2 (Rd.same m (by omega) ⟨by omega, hx⟩)
          | _ => exact hq _ _ _ hx
      | exit i => simp only [execC] at h; exact (Ws_exit i).2 (hq _ _ _ h)
      | ret => simp only [execC] at h; exact (Ws_ret).2 (hq _ _ _ h)
      | keep l c => simp only [execC] at h; exact (Ws_keep l c).2 (ih n (by omega) h hN hq)
      | bad => cases h

theorem callC_ok {pr : CallX} (hpr : CallOk P pr) {tab : FuncId → Option AFn} (ht : TabOk P tab) (n : Nat) : CallCOk P (callC pr tab n) := by
  intro f l H k hc K hk
  simp only [callC] at hc
  split at hc
  · rename_i F hF
    obtain ⟨hcomp, hbig⟩ := ht f F hF
    simp only [Bool.and_eq_true, decide_eq_true_eq] at hc
    refine .walk hcomp hc.1 hbig (execC_ok hpr ht n hc.2 hbig (Q := retK H F.rs K) fun x e1 H1 hx => ?_)
    split at hx
    · split at hx
      · rename_i vs hr; exact (retK_normal _ _ _).2 (resX_ok hr (.here (hk _ _ hx)))
      · cases hx
    · split at hx
      · rename_i vs hr; exact (retK_ret _ _ _).2 (resX_ok hr (.here (hk _ _ hx)))
      · cases hx
    · cases hx
  · split at hc
    · rename_i v H' hp; exact hpr _ _ _ _ _ hp K (hk _ _ hc)
    · cases hc
end

def yesV : Value → Bool
  | .bool true => true
  | _ => false
/-- A call without arguments that is reckoned to be true, whatever the orders. -/
theorem ACallK.yesC {P : Program} {tab : FuncId → Option AFn} (ht : TabOk P tab) (n : Nat) {f : FuncId} (h : callC noCall tab n f [] [] (fun v _ => yesV v) = true) (H : Heap) : ACallK P f [] H (fun v H' => v = .bool true ∧ H' = H) := by
  refine ACallK.lift (args := []) (callC_ok (noCall_ok P) ht n _ _ _ _ h _ fun v H' hv => ?_) rfl H
  unfold yesV at hv
  split at hv
  · exact ⟨rfl, rfl⟩
  · cases hv


/-- A call without arguments that is reckoned to be true, some callees by their contracts. -/
theorem ACallK.yesP {P : Program} {pr : CallX} (hpr : CallOk P pr) {tab : FuncId → Option AFn} (ht : TabOk P tab) (n : Nat) {f : FuncId} (h : callC pr tab n f [] [] (fun v _ => yesV v) = true) (H : Heap) : ACallK P f [] H (fun v H' => v = .bool true ∧ H' = H) := by
  refine ACallK.lift (args := []) (callC_ok hpr ht n _ _ _ _ h _ fun v H' hv => ?_) rfl H
  unfold yesV at hv
  split at hv
  · exact ⟨rfl, rfl⟩
  · cases hv

end Go.Am
