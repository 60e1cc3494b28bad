/-
  The abstract machine, part M: rows of operations, code, functions. For any program.
-/
import Derived.Test.YtfkhljgifndbpaaDoorAmL
namespace Go.Am

section
variable {P : Program} {prot : Nat → Prop} {B : World} {n : Nat} {H0 : Heap} {ι0 : Inj} {Q : Exit → Env → Heap → Prop}

/-- The real state (a, w) bears the abstract state (env, H). -/
structure Bears (prot : Nat → Prop) (B : World) (H0 : Heap) (ι0 : Inj) (n : Nat) (env : Env) (H : Heap) (ι : Inj) (a : Act) (w : World) : Prop where
  ext : Ext (tags H0) ι0 (tags H) ι
  sim : HSim prot B w ι H
  env : EnvOk (tags H) ι env a.tmps
  size : a.tmps.size = n
  defers : a.defers = []

theorem Bears.post {env : Env} {H : Heap} {ι : Inj} {a : Act} {w : World} {e : Exit} (h : Bears prot B H0 ι0 n env H ι a w) (hq : Q e env H) : Post prot B H0 ι0 n Q e a w := ⟨ι, env, H, h.ext, h.sim, h.env, h.size, h.defers, hq⟩

/-- A value is put into a slot (or nowhere). -/
theorem Bears.put {env : Env} {H H' : Heap} {ι ι' : Inj} {a : Act} {w w' : World} (h : Bears prot B H0 ι0 n env H ι a w) (hs : HSim prot B w' ι' H') (he : Ext (tags H) ι (tags H') ι') {dst : Option Nat} (hd : ∀ d, dst = some d → d < n) {v v' : Value} (hv : VRel (tags H') ι' v v') :
    Bears prot B H0 ι0 n (putE dst v env) H' ι' (a.put dst v') w' := by
  cases dst with
  | none => exact ⟨h.ext.trans he, hs, h.env.ext he, h.size, h.defers⟩
  | some d =>
    refine ⟨h.ext.trans he, hs, (h.env.ext he).set (by rw [h.size]; exact hd d rfl) hv, by simp [Act.put, h.size], h.defers⟩

theorem map_eval_toList (a : Act) (l : Array Operand) : (l.map a.eval).toList = l.toList.map a.eval := by simp

/-- An operation that the region wants, with whatever stands behind. -/
theorem oper_sound {env : Env} {H : Heap} {ι : Inj} {a : Act} {w : World} {o : Oper} (hB : Bears prot B H0 ι0 n env H ι a w) {K : Value → Heap → Prop} (h : instrK (ACallK P) (compOp P o) env H K)
    {next : Act → World → Prop} {Q' : Exit → Act → World → Prop} (hn : ∀ v v' H' ι' w', HSim prot B w' ι' H' → Ext (tags H) ι (tags H') ι' → VRel (tags H') ι' v v' → K v H' → next (a.put o.dst v') w') : o.wp P a w next Q' := by
  have plain : opK (compOp P o) env H K → o.wp P a w next Q' := fun h => by
    obtain ⟨v', w', v, H', ι', hr, h1, h2, h3, h4⟩ := opK_sound (P := P) hB.sim hB.env h
    unfold Oper.wp
    rcases hr with hr | ⟨hr, rfl⟩
    · rw [hr]; exact hn _ _ _ _ _ h1 h2 h3 h4
    · rw [hr]; exact hn _ _ _ _ _ h1 h2 h3 h4
  have enter : ∀ {f : FuncId} {args : List Value} {args' : Array Value}, (execOp a.eval o).run P w = (callFunc f args').run P w → VRels (tags H) ι args args'.toList → ACallK P f args H K → o.wp P a w next Q' := fun {f args args'} hr hv hc => by
    obtain ⟨⟨fn, hf, hb, hnm⟩, hc⟩ := hc
    have hrun : (callFunc f args').run P w = .ok (.enter f args') w := by
      have hnm' : ¬ fn.name = "runtime.NumGoroutine" := fun e => by rw [e] at hnm; simp at hnm
      have hbn : ¬ fn.body = none := fun e => by rw [e] at hb; cases hb
      simp [callFunc, hf, hnm', hbn]
    unfold Oper.wp
    rw [hr, hrun]
    refine (hc prot B ι w args' hB.sim hv).mono ?_
    rintro e w' ⟨v, v', ι', H', rfl, h1, h2, h3, h4⟩
    exact hn _ _ _ _ _ h1 h2 h3 h4
  unfold instrK at h
  split at h
  · rename_i f args hop
    -- a function called by its name
    have hcall : ∃ c, o.op = .call c ∧ c.callee = .value (.func f) ∧ args = c.args.toList.map opd := by
      unfold compOp at hop
      split at hop <;> (try (repeat' (split at hop))) <;> (try (cases hop; done))
      rename_i c hx
      unfold compCall at hop
      split at hop
      · (repeat' (split at hop)) <;> (try (cases hop; done))
      · rename_i f' hc; split at hop
        · cases hop
        · cases hop; exact ⟨c, hx, hc, rfl⟩
      · cases hop
      · cases hop
    obtain ⟨c, hx, hc, rfl⟩ := hcall
    obtain ⟨vs, h1, h2⟩ := evsK_inv hB.env h
    refine enter (args' := c.args.map a.eval) ?_ (by rw [map_eval_toList]; exact h2) h1
    simp [execOp, hx, resolve, hc, Act.eval, Deferred.ofValue, invoke]
  · rename_i x args hop
    have hcall : ∃ c y, o.op = .call c ∧ c.callee = .value y ∧ x = opd y ∧ args = c.args.toList.map opd := by
      unfold compOp at hop
      split at hop <;> (try (repeat' (split at hop))) <;> (try (cases hop; done))
      rename_i c hx
      unfold compCall at hop
      split at hop
      · (repeat' (split at hop)) <;> (try (cases hop; done))
      · split at hop <;> cases hop
      · rename_i y _ hc; cases hop; exact ⟨c, y, hx, hc, rfl, rfl⟩
      · cases hop
    obtain ⟨c, y, hx, hc, rfl, rfl⟩ := hcall
    obtain ⟨v, h1, h2⟩ := evK_inv hB.env h
    obtain ⟨vs, h3, h4⟩ := evsK_inv hB.env h1
    split at h3
    · rename_i f first captured
      cases hy : a.eval y <;> rw [hy] at h2 <;> cases h2 <;> try (rename_i hf; simp [flat] at hf; done)
      rename_i f' c' hfs hff hcs hcc
      refine enter (args' := (f' ++ c.args.map a.eval) ++ c') ?_ ?_ h3
      · simp [execOp, hx, resolve, hc, hy, Deferred.ofValue, invoke]
      · have r1 : VRels (tags H) ι first.toList f'.toList := ⟨by simpa using hfs, fun i v v' hv hv' => hff i v v' (by simpa using hv) (by rw [← Array.getElem?_toList]; exact hv')⟩
        have r2 : VRels (tags H) ι captured.toList c'.toList := ⟨by simpa using hcs, fun i v v' hv hv' => hcc i v v' (by simpa using hv) (by rw [← Array.getElem?_toList]; exact hv')⟩
        have app : ∀ {l l' m m' : List Value}, VRels (tags H) ι l l' → VRels (tags H) ι m m' → VRels (tags H) ι (l ++ m) (l' ++ m') := fun {l l' m m'} h h' => by
          refine ⟨by simp [h.1, h'.1], fun i v v' hv hv' => ?_⟩
          by_cases hi : i < l.length
          · rw [List.getElem?_append_left hi] at hv
            rw [List.getElem?_append_left (by rw [← h.1]; exact hi)] at hv'
            exact h.2 i v v' hv hv'
          · rw [List.getElem?_append_right (by omega)] at hv
            rw [List.getElem?_append_right (by rw [← h.1]; omega), ← h.1] at hv'
            exact h'.2 _ v v' hv hv'
        have := app (app r1 h4) r2
        simpa using this
    · exact h3.elim
  · exact plain h

theorem opsK_cons {call : FuncId → List Value → Heap → (Value → Heap → Prop) → Prop} {i : AInstr} {r : List AInstr} {e : Env} {H : Heap} {K : Env → Heap → Prop} (h : opsK call (i :: r) e H K) :
    (i.guard = none ∨ ∃ t want, i.guard = some (t, want) ∧ e.get t = some (.bool want)) ∧ instrK call i.op e H (fun v H => opsK call r (putE i.dst v e) H K) ∨
      ∃ t want, i.guard = some (t, want) ∧ (e.get t = some (.bool (!want)) ∨ ∃ vs, e.get t = some (.tuple vs)) ∧ opsK call r (putE i.dst (.tuple #[]) e) H K := by
  obtain ⟨dst, guard, op⟩ := i
  cases guard with
  | none => exact .inl ⟨.inl rfl, h⟩
  | some g =>
    obtain ⟨t, want⟩ := g
    unfold opsK at h
    split at h
    · rename_i b hb
      by_cases hw : b = want
      · rw [if_pos hw] at h
        exact .inl ⟨.inr ⟨t, want, rfl, hw ▸ hb⟩, h⟩
      · rw [if_neg hw] at h
        exact .inr ⟨t, want, rfl, .inl (by rw [hb]; cases b <;> cases want <;> simp at hw ⊢), h⟩
    · rename_i vs hb; exact .inr ⟨t, want, rfl, .inr ⟨vs, hb⟩, h⟩
    · exact h.elim

/-- Whether the region wants an operation, told from its guard's slot. -/
theorem wanted_of {env : Env} {H : Heap} {ι : Inj} {a : Act} {w : World} {ops : Array Oper} {o : Oper} (hB : Bears prot B H0 ι0 n env H ι a w) {i : AInstr} (hi : i.guard = o.guard.map fun g => (((ops[g.1]?).bind (·.dst)).getD 1000000000, g.2)) (hn : n ≤ 1000000000) :
    ((i.guard = none ∨ ∃ t want, i.guard = some (t, want) ∧ env.get t = some (.bool want)) → Region.wanted o (yielded ops a.tmps) = true) ∧
    ((∃ t want, i.guard = some (t, want) ∧ (env.get t = some (.bool (!want)) ∨ ∃ vs, env.get t = some (.tuple vs))) → Region.wanted o (yielded ops a.tmps) = false) := by
  have slot : ∀ {j : Nat} {v : Value}, env.get (((ops[j]?).bind (·.dst)).getD 1000000000) = some v → ∃ v', ((ops[j]?).bind (·.dst)).bind (a.tmps[·]?) = some v' ∧ VRel (tags H) ι v v' := fun {j v} hv => by
    obtain ⟨v', h1, h2⟩ := hB.env _ _ hv
    cases hd : (ops[j]?).bind (·.dst) with
    | some d => rw [hd] at h1; exact ⟨v', h1, h2⟩
    | none =>
      rw [hd] at h1
      have := (Array.getElem?_eq_some_iff.1 h1).1
      rw [hB.size] at this
      simp at this; omega
  refine ⟨fun h => ?_, fun h => ?_⟩
  · unfold Region.wanted
    cases hg : o.guard with
    | none => rfl
    | some g =>
      obtain ⟨j, want⟩ := g
      rw [hg] at hi
      rcases h with h | ⟨t, want', h, hv⟩
      · rw [h] at hi; cases hi
      · rw [h] at hi; simp at hi; obtain ⟨rfl, rfl⟩ := hi
        obtain ⟨v', h1, h2⟩ := slot hv
        simp only [yielded, h1, h2.bool_inv]
        simp
  · obtain ⟨t, want', h, hv⟩ := h
    unfold Region.wanted
    cases hg : o.guard with
    | none => rw [hg] at hi; rw [h] at hi; cases hi
    | some g =>
      obtain ⟨j, want⟩ := g
      rw [hg] at hi
      rw [h] at hi; simp at hi; obtain ⟨rfl, rfl⟩ := hi
      rcases hv with hv | ⟨vs, hv⟩
      · obtain ⟨v', h1, h2⟩ := slot hv
        simp only [yielded, h1, h2.bool_inv]
        cases want' <;> simp
      · obtain ⟨v', h1, h2⟩ := slot hv
        have : ∃ vs', v' = .tuple vs' := by
          cases h2 with
          | flat hf => simp [flat] at hf
          | tuple => exact ⟨_, rfl⟩
        obtain ⟨vs', rfl⟩ := this
        simp only [yielded, h1]
        rfl

theorem opsK_sound (hn : n ≤ 1000000000) (ops : Array Oper) : ∀ (rest : List Oper) (k : Nat), (∀ j, rest[j]? = ops[k + j]?) → ∀ (env : Env) (H : Heap) (ι : Inj) (a : Act) (w : World), Bears prot B H0 ι0 n env H ι a w →
    opsK (ACallK P) (rest.map (compInstr P n ops)) env H (fun env H => Q .normal env H) → wpOps P ops (Post prot B H0 ι0 n Q) (List.range' k rest.length) a w
  | [], k, _, env, H, ι, a, w, hB, h => by simpa [wpOps] using hB.post h
  | o :: rest, k, hr, env, H, ι, a, w, hB, h => by
    have ho : ops[k]? = some o := by simpa using (hr 0).symm
    have hr' : ∀ j, rest[j]? = ops[k + 1 + j]? := fun j => by have := hr (j + 1); simpa [Nat.add_assoc, Nat.add_comm 1 j] using this
    rw [List.length_cons, List.range'_succ]
    simp only [wpOps, ho]
    rw [List.map_cons] at h
    have key : ∀ d, o.dst = some d → d < n ∨ (compInstr P n ops o) = ⟨none, none, .bad⟩ := fun d hd => by
      by_cases hdn : d < n
      · exact .inl hdn
      · exact .inr (by simp [compInstr, hd, hdn])
    have good : (compInstr P n ops o) = ⟨none, none, .bad⟩ ∨ ((∀ d, o.dst = some d → d < n) ∧ (compInstr P n ops o) = ⟨o.dst, o.guard.map fun g => (((ops[g.1]?).bind (·.dst)).getD 1000000000, g.2), compOp P o⟩) := by
      cases hd : o.dst with
      | none => exact .inr ⟨fun d h => (by cases h), by simp [compInstr, hd]⟩
      | some d =>
        rcases key d hd with h' | h'
        · exact .inr ⟨fun d' e => by cases e; exact h', by simp [compInstr, hd, h']⟩
        · exact .inl h'
    rcases good with hbad | ⟨hdn, hgood⟩
    · rw [hbad] at h
      exact (show False from h).elim
    · rw [hgood] at h
      have hw := wanted_of (ops := ops) (o := o) (i := ⟨o.dst, o.guard.map fun g => (((ops[g.1]?).bind (·.dst)).getD 1000000000, g.2), compOp P o⟩) hB rfl hn
      rcases opsK_cons h with ⟨hg, h⟩ | ⟨t, want, hg, hv, h⟩
      · rw [if_pos (hw.1 hg)]
        refine .inl (oper_sound hB h fun v v' H' ι' w' h1 h2 h3 h4 => ?_)
        exact opsK_sound hn ops rest (k + 1) hr' _ _ ι' _ _ (hB.put h1 h2 hdn h3) h4
      · rw [if_neg (by rw [hw.2 ⟨t, want, hg, hv⟩]; simp)]
        exact opsK_sound hn ops rest (k + 1) hr' _ _ ι _ _ (hB.put hB.sim (.refl _ _) hdn .undef') h

end
end Go.Am
