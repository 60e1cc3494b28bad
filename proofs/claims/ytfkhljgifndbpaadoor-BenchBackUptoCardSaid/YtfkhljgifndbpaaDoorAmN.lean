/-
  The abstract machine, part N: code and functions. For any program.
-/
import Derived.Test.YtfkhljgifndbpaaDoorAmP
namespace Go.Am

/-- What code that is compiled to this does, from (env, H). -/
def AW (P : Program) (n : Nat) (H0 : Heap) (c : ACode) (Q : Exit → Env → Heap → Prop) (env : Env) (H : Heap) : Prop :=
  ∀ code, compC P n code = c.strip → AWP P n H0 code Q env H

/-- Code, with what is known of calls and of loops. -/
def Wc (call : FuncId → List Value → Heap → (Value → Heap → Prop) → Prop) (loop : ACode → (Exit → Env → Heap → Prop) → Env → Heap → Prop) : ACode → (Exit → Env → Heap → Prop) → Env → Heap → Prop
  | .skip, Q, e, H => Q .normal e H
  | .ops l, Q, e, H => opsK call l e H fun e H => Q .normal e H
  | .fork l, Q, e, H => opsK call l e H fun e H => Q .normal e H
  | .draw l sp, Q, e, H => drawK call (l.zip sp) H [] [] e fun e H => Q .normal e H
  | .alt l, Q, e, H => ∀ x ∈ l, drawK call (x.1.zip x.2) H [] [] e fun e H => Q .normal e H
  | .seq a b, Q, e, H => Wc call loop a (thenK (Wc call loop b Q) Q) e H
  | .cond c a b, Q, e, H => evK e c fun v => boolK v fun t => if t = true then Wc call loop a Q e H else Wc call loop b Q e H
  | .block id c, Q, e, H => Wc call loop c (blockK id Q) e H
  | .loop c, Q, e, H => loop c Q e H
  | .exit id, Q, e, H => Q (.exit id) e H
  | .ret, Q, e, H => Q .ret e H
  | .keep l c, Q, e, H => Wc call loop c Q (e.keep l) H
  | .bad, _, _, _ => False

theorem compDraw_is {P : Program} {n : Nat} {ops : Array Oper} {c : ACode} (h : compDraw P n ops = c) : (∃ l s, c = .draw l s) ∨ (∃ l, c = .alt l) ∨ c = .bad := by
  unfold compDraw at h
  split at h
  · exact .inl ⟨_, _, h.symm⟩
  · split at h
    · exact .inr (.inl ⟨_, h.symm⟩)
    · split at h
      · exact .inl ⟨_, _, h.symm⟩
      · exact .inr (.inr h.symm)
theorem region_is {P : Program} {n id : Nat} {ops : Array Oper} {draw : Bool} {c : ACode} (h : compC P n (.region id ops draw) = c) : (∃ l, c = .ops l) ∨ (∃ l s, c = .draw l s) ∨ (∃ l, c = .alt l) ∨ c = .bad := by
  cases draw with
  | false => exact .inl ⟨_, h.symm⟩
  | true => exact .inr (compDraw_is h)

section
variable {P : Program} {n : Nat} {H0 : Heap} {Q : Exit → Env → Heap → Prop} {env : Env} {H : Heap}

theorem AW.mono {c : ACode} {Q' : Exit → Env → Heap → Prop} (h : AW P n H0 c Q env H) (hq : ∀ e env H, Q e env H → Q' e env H) : AW P n H0 c Q' env H := fun code hc => (h code hc).mono hq

theorem AW.skip (h : Q .normal env H) : AW P n H0 .skip Q env H := fun code hc => by
  cases code <;> first | exact AWP.skip h | exact AWP.label h | (simp [compC, ACode.strip] at hc; done) | (rcases region_is hc with ⟨l, h⟩ | ⟨l, s, h⟩ | ⟨l, h⟩ | h <;> simp [ACode.strip] at h)

theorem opsK_mono {call : FuncId → List Value → Heap → (Value → Heap → Prop) → Prop} : ∀ {l : List AInstr} {e : Env} {H : Heap} {K : Env → Heap → Prop}, opsK call l e H K → opsK call l e H K := fun h => h

theorem AW.ops (hn : n ≤ 1000000000) {l : List AInstr} (h : opsK (ACallK P) l env H fun e H => Q .normal e H) : AW P n H0 (.ops l) Q env H := fun code hc => by
  cases code with
  | region id ops draw =>
    cases draw with
    | true => rcases compDraw_is hc with ⟨l, s, h⟩ | ⟨l, h⟩ | h <;> simp [ACode.strip] at h
    | false =>
      simp only [compC, ACode.strip, ACode.ops.injEq] at hc
      subst hc
      intro prot B ι0 ι a w h0 h1 h2 h3 h4 h5
      refine wp_region ?_
      have := opsK_sound (P := P) (prot := prot) (B := B) (H0 := H0) (ι0 := ι0) (Q := Q) hn ops ops.toList 0 (fun j => by simp) env H ι a w ⟨h1, h2, h3, h4, h5⟩ h
      simpa [List.range_eq_range'] using this
  | _ => simp [compC, ACode.strip] at hc

theorem AW.fork (hn : n ≤ 1000000000) {l : List AInstr} (h : opsK (ACallK P) l env H fun e H => Q .normal e H) : AW P n H0 (.fork l) Q env H := fun code hc => AW.ops (H0 := H0) hn h code hc

theorem AW.draw (hn : n ≤ 1000000000) {l : List AInstr} {sp : List (Nat × Nat × Bool)} (h : drawK (ACallK P) (l.zip sp) H [] [] env fun e H => Q .normal e H) : AW P n H0 (.draw l sp) Q env H := fun code hc => by
  cases code with
  | region id ops draw =>
    cases draw with
    | false => simp [compC, ACode.strip] at hc
    | true =>
      simp only [compC, ACode.strip, compDraw] at hc
      split at hc
      · rename_i hok
        simp only [Bool.and_eq_true] at hok
        cases hc
        intro prot B ι0 ι a w h0 h1 h2 h3 h4 h5
        exact draw_sound hn hok.1.1 hok.1.2 ⟨h1, h2, h3, h4, h5⟩ h
      · split at hc
        · cases hc
        · split at hc
          · rename_i hok
            simp only [Bool.and_eq_true] at hok
            cases hc
            intro prot B ι0 ι a w h0 h1 h2 h3 h4 h5
            exact draw_sound hn hok.1 hok.2 ⟨h1, h2, h3, h4, h5⟩ h
          · cases hc
  | _ => simp [compC, ACode.strip] at hc

theorem AW.alt (hn : n ≤ 1000000000) {l : List (List AInstr × List (Nat × Nat × Bool))} (h : ∀ x ∈ l, drawK (ACallK P) (x.1.zip x.2) H [] [] env fun e H => Q .normal e H) : AW P n H0 (.alt l) Q env H := fun code hc => by
  cases code with
  | region id ops draw =>
    cases draw with
    | false => simp [compC, ACode.strip] at hc
    | true =>
      simp only [compC, ACode.strip, compDraw] at hc
      split at hc
      · cases hc
      · split at hc
        · rename_i hok
          simp only [Bool.and_eq_true] at hok
          cases hc
          intro prot B ι0 ι a w h0 h1 h2 h3 h4 h5
          exact alts_sound hn hok.1 hok.2 ⟨h1, h2, h3, h4, h5⟩ h
        · split at hc <;> cases hc
  | _ => simp [compC, ACode.strip] at hc

theorem AW.seq {x y : ACode} (h : AW P n H0 x (thenK (AW P n H0 y Q) Q) env H) : AW P n H0 (.seq x y) Q env H := fun code hc => by
  cases code with
  | seq a b =>
    simp only [compC, ACode.strip, ACode.seq.injEq] at hc
    refine AWP.seq ((h a hc.1).mono fun e env H hq => ?_)
    cases e <;> first | exact hq b hc.2 | exact hq
  | region id ops draw => rcases region_is hc with ⟨l, h⟩ | ⟨l, s, h⟩ | ⟨l, h⟩ | h <;> simp [ACode.strip] at h
  | _ => simp [compC, ACode.strip] at hc

theorem AW.cond {c : AOpd} {x y : ACode} (h : evK env c fun v => boolK v fun t => if t = true then AW P n H0 x Q env H else AW P n H0 y Q env H) : AW P n H0 (.cond c x y) Q env H := fun code hc => by
  cases code with
  | cond o a b =>
    simp only [compC, ACode.strip, ACode.cond.injEq] at hc
    obtain ⟨rfl, hc1, hc2⟩ := hc
    intro prot B ι0 ι a w h0 h1 h2 h3 h4 h5
    obtain ⟨v, g1, g2⟩ := evK_inv h3 h
    obtain ⟨t, rfl, g3, g4⟩ := boolK_inv g1 g2
    refine wp_cond g3 ?_
    cases t with
    | true => exact (show AW P n H0 x Q env H by simpa using g4) _ hc1 prot B ι0 ι a w h0 h1 h2 h3 h4 h5
    | false => exact (show AW P n H0 y Q env H by simpa using g4) _ hc2 prot B ι0 ι a w h0 h1 h2 h3 h4 h5
  | region id ops draw => rcases region_is hc with ⟨l, h⟩ | ⟨l, s, h⟩ | ⟨l, h⟩ | h <;> simp [ACode.strip] at h
  | _ => simp [compC, ACode.strip] at hc

theorem AW.block {id : Nat} {c : ACode} (h : AW P n H0 c (blockK id Q) env H) : AW P n H0 (.block id c) Q env H := fun code hc => by
  cases code with
  | block id' c' =>
    simp only [compC, ACode.strip, ACode.block.injEq] at hc
    obtain ⟨rfl, hc⟩ := hc
    exact AWP.block (h c' hc)
  | region id ops draw => rcases region_is hc with ⟨l, h⟩ | ⟨l, s, h⟩ | ⟨l, h⟩ | h <;> simp [ACode.strip] at h
  | _ => simp [compC, ACode.strip] at hc

theorem AW.exit {id : Nat} (h : Q (.exit id) env H) : AW P n H0 (.exit id) Q env H := fun code hc => by
  cases code with
  | exit id' => simp only [compC, ACode.strip, ACode.exit.injEq] at hc; subst hc; exact AWP.exit h
  | region id ops draw => rcases region_is hc with ⟨l, h⟩ | ⟨l, s, h⟩ | ⟨l, h⟩ | h <;> simp [ACode.strip] at h
  | _ => simp [compC, ACode.strip] at hc

theorem AW.ret (h : Q .ret env H) : AW P n H0 .ret Q env H := fun code hc => by
  cases code with
  | ret => exact AWP.ret h
  | region id ops draw => rcases region_is hc with ⟨l, h⟩ | ⟨l, s, h⟩ | ⟨l, h⟩ | h <;> simp [ACode.strip] at h
  | _ => simp [compC, ACode.strip] at hc

theorem AW.weaken {c : ACode} {env' : Env} {H' : Heap} (hw : Weak H0 env H env' H') (h : AW P n H0 c Q env' H') : AW P n H0 c Q env H := fun code hc => (h code hc).weaken hw

theorem AW.keep {l : List Nat} {c : ACode} (h : AW P n H0 c Q (env.keep l) H) : AW P n H0 (.keep l c) Q env H := fun code hc =>
  AWP.weaken (.forget fun i v hv => Env.get_keep env l i v hv) (h code hc)

/-- A loop: I m holds ahead of each round, and m gets less. -/
theorem AW.loop {c : ACode} (I : Nat → Env → Heap → Prop) (m : Nat) (h0 : I m env H)
    (round : ∀ m env H, I m env H → AW P n H0 c (thenK (fun env' H' => ∃ env'' H'' m', Weak H0 env' H' env'' H'' ∧ m' < m ∧ I m' env'' H'') Q) env H) : AW P n H0 (.loop c) Q env H := fun code hc => by
  cases code with
  | loop c' =>
    simp only [compC, ACode.strip, ACode.loop.injEq] at hc
    -- the number goes with the state, as a ghost
    have key : ∀ (m : Nat) env H, I m env H → ∀ prot B ι0 ι a w, Closed H0 H0.length → Ext (tags H0) ι0 (tags H) ι → HSim prot B w ι H → EnvOk (tags H) ι env a.tmps → a.tmps.size = n → a.defers = [] →
        ∀ (b : Frame) (k : List Item) (cs : List Frame), ∃ e a' w', Post prot B H0 ι0 n Q e a' w' ∧ Arrives P (lone (b.at a (.code c' :: .inLoop c' :: k)) cs w) b k cs e a' w' := by
      intro m
      induction m using Nat.strongRecOn with
      | _ m ih =>
        intro env H hI prot B ι0 ι a w hcl h1 h2 h3 h4 h5 b k cs
        obtain ⟨e, a₁, w₁, ⟨ι', env', H', a1, a2, a3, a4, a5, a6⟩, harr⟩ := round m env H hI c' hc prot B ι0 ι a w hcl h1 h2 h3 h4 h5 b (.inLoop c' :: k) cs
        cases e with
        | normal =>
          obtain ⟨env'', H'', m', hw, hlt, hI'⟩ := a6
          obtain ⟨ι'', b1, b2, b3⟩ := hw prot B w₁ ι' ι0 a₁.tmps hcl a1 a2 a3
          obtain ⟨e₂, a₂, w₂, hq₂, harr₂⟩ := ih m' hlt env'' H'' hI' prot B ι0 ι'' a₁ w₁ hcl b1 b2 b3 a4 a5 b k cs
          exact ⟨e₂, a₂, w₂, hq₂, .of_steps (Steps.trans harr (.one step_inLoop)) harr₂⟩
        | exit id => exact ⟨_, a₁, w₁, ⟨ι', env', H', a1, a2, a3, a4, a5, a6⟩, .pass (x := .inLoop c') rfl (fun _ _ => .inl (by simp)) harr⟩
        | goto l => exact ⟨_, a₁, w₁, ⟨ι', env', H', a1, a2, a3, a4, a5, a6⟩, .pass (x := .inLoop c') rfl (fun _ _ => .inl (by simp)) harr⟩
        | ret => exact ⟨_, a₁, w₁, ⟨ι', env', H', a1, a2, a3, a4, a5, a6⟩, .pass (x := .inLoop c') rfl (fun _ _ => .inl (by simp)) harr⟩
        | panic ch => exact ⟨_, a₁, w₁, ⟨ι', env', H', a1, a2, a3, a4, a5, a6⟩, .pass (x := .inLoop c') rfl (fun _ _ => .inl (by simp)) harr⟩
        | outgrown => exact ⟨_, a₁, w₁, ⟨ι', env', H', a1, a2, a3, a4, a5, a6⟩, .pass (x := .inLoop c') rfl (fun _ _ => .inl (by simp)) harr⟩
    intro prot B ι0 ι a w hcl h1 h2 h3 h4 h5 b k cs
    obtain ⟨e, a', w', hq, harr⟩ := key m env H h0 prot B ι0 ι a w hcl h1 h2 h3 h4 h5 b k cs
    exact ⟨e, a', w', hq, .of_steps (.one step_loop) harr⟩
  | region id ops draw => rcases region_is hc with ⟨l, h⟩ | ⟨l, s, h⟩ | ⟨l, h⟩ | h <;> simp [ACode.strip] at h
  | _ => simp [compC, ACode.strip] at hc

theorem evK_mono {e : Env} {x : AOpd} {K K' : Value → Prop} (h : evK e x K) (hk : ∀ v, K v → K' v) : evK e x K' := by
  unfold evK at *
  split at h
  · exact hk _ h
  · exact h
theorem boolK_mono {v : Value} {K K' : Bool → Prop} (h : boolK v K) (hk : ∀ t, K t → K' t) : boolK v K' := by
  cases v <;> first | exact h | exact hk _ h

/-- What is known of a loop where nothing else is: that it is one. -/
def loopK (P : Program) (n : Nat) (H0 : Heap) (c : ACode) (Q : Exit → Env → Heap → Prop) (env : Env) (H : Heap) : Prop := AW P n H0 (.loop c) Q env H

theorem Wc.sound (hn : n ≤ 1000000000) : ∀ {c : ACode} {Q : Exit → Env → Heap → Prop} {env : Env} {H : Heap}, Wc (ACallK P) (loopK P n H0) c Q env H → AW P n H0 c Q env H
  | .skip, _, _, _, h => .skip h
  | .ops _, _, _, _, h => .ops hn h
  | .fork _, _, _, _, h => .fork hn h
  | .draw _ _, _, _, _, h => .draw hn h
  | .alt _, _, _, _, h => .alt hn h
  | .seq a b, Q, _, _, h => .seq ((Wc.sound hn (c := a) h).mono fun e env H hq => by cases e <;> first | exact Wc.sound hn (c := b) hq | exact hq)
  | .cond c a b, Q, env, H, h => .cond (evK_mono h fun v hv => boolK_mono hv fun t ht => by
      cases t with
      | true => simp only [if_true] at ht ⊢; exact Wc.sound hn (c := a) ht
      | false => simp only [Bool.false_eq_true, if_false] at ht ⊢; exact Wc.sound hn (c := b) ht)
  | .block id c, _, _, _, h => .block (Wc.sound hn (c := c) h)
  | .loop _, _, _, _, h => h
  | .exit _, _, _, _, h => .exit h
  | .ret, _, _, _, h => .ret h
  | .keep l c, _, _, _, h => .keep (Wc.sound hn (c := c) h)
  | .bad, _, _, _, h => h.elim

/-- What a function hands back, and what of the heap is left: garbage may go. -/
def DropTo (H0 : Heap) (H : Heap) (v : Value) (H' : Heap) (u : Value) : Prop :=
  ∀ prot B w ι ι0 v', Closed H0 H0.length → Ext (tags H0) ι0 (tags H) ι → HSim prot B w ι H → VRel (tags H) ι v v' → ∃ ι', Ext (tags H0) ι0 (tags H') ι' ∧ HSim prot B w ι' H' ∧ VRel (tags H') ι' u v'

def DropK (H0 : Heap) (v : Value) (H : Heap) (K : Value → Heap → Prop) : Prop := ∃ H' u, DropTo H0 H v H' u ∧ K u H'

theorem DropTo.refl (H0 H : Heap) (v : Value) : DropTo H0 H v H v := fun _ _ _ ι _ _ _ h1 h2 h3 => ⟨ι, h1, h2, h3⟩

theorem DropTo.take (m : Nat) (hm : H0.length ≤ m) {v : Value} (hv : bnd m v = true) (ho : ∀ j o, j < m → H[j]? = some o → H0[j]? = some o ∨ abnd m o = true) : DropTo H0 H v (H.take m) v := by
  intro prot B w ι ι0 v' h0 h1 h2 h3
  obtain ⟨ι', a1, a2, a3⟩ := Weak.drop (env := [(0, v)]) m hm (fun i u hu => by unfold Env.get at hu; split at hu <;> simp [Env.get] at hu; subst hu; exact hv) ho prot B w ι ι0 #[v'] h0 h1 h2
    (fun i u hu => by
      unfold Env.get at hu
      split at hu
      · rename_i e; subst e; cases hu; exact ⟨v', rfl, h3⟩
      · simp [Env.get] at hu)
  obtain ⟨u, b1, b2⟩ := a3 0 v (by simp [Env.get])
  simp at b1
  subst b1
  exact ⟨ι', a1, a2, b2⟩

def argEnv : Nat → List Value → Env
  | _, [] => []
  | i, v :: l => (i, v) :: argEnv (i + 1) l

theorem argEnv_get : ∀ (l : List Value) (k i : Nat) (v : Value), (argEnv k l).get i = some v → k ≤ i ∧ l[i - k]? = some v
  | [], k, i, v, h => by simp [argEnv, Env.get] at h
  | u :: l, k, i, v, h => by
    unfold argEnv Env.get at h
    split at h
    · rename_i e; subst e; cases h; simp
    · obtain ⟨h1, h2⟩ := argEnv_get l (k + 1) i v h
      refine ⟨by omega, ?_⟩
      have : i - k = (i - (k + 1)) + 1 := by omega
      rw [this]; exact h2

/-- What a function's end owes. -/
def retK (H0 : Heap) (rs : List ARes) (K : Value → Heap → Prop) : Exit → Env → Heap → Prop
  | .normal, e, H => resK rs e H fun l => DropK H0 (tupled l) H K
  | .ret, e, H => resK rs e H fun l => DropK H0 (tupled l) H K
  | _, _, _ => False

theorem run_asAddr {p : Addr} (w : World) : (asAddr (.pointer (some p))).run P w = .ok p w := rfl

def resOf (tmps : Array Value) : ResultVar → Sem Value
  | .tmp t => pure (tmps.getD t undef)
  | .cell a t => do loadVar t (← asAddr (tmps.getD a undef))

theorem results_run {prot : Nat → Prop} {B w : World} {ι : Inj} {tmps : Array Value} (hs : HSim prot B w ι H) (he : EnvOk (tags H) ι env tmps) (hn : tmps.size ≤ 1000000000) : ∀ {rs : List ResultVar} {K : List Value → Prop}, resK (rs.map (compRes P)) env H K →
    ∃ vs vs', (rs.mapM (m := Sem) (resOf tmps)).run P w = .ok vs' w ∧ VRels (tags H) ι vs vs' ∧ K vs
  | [], K, h => ⟨[], [], rfl, .nil, h⟩
  | x :: rs, K, h => by
    cases x with
    | tmp t =>
      simp only [List.map_cons, compRes, resK] at h
      cases hg : env.get t with
      | none => simp [hg] at h
      | some v =>
        simp only [hg] at h
        obtain ⟨vs, vs', h1, h2, h3⟩ := results_run hs he hn h
        obtain ⟨v', b1, b2⟩ := he t v hg
        exact ⟨v :: vs, v' :: vs', by simp [List.mapM_cons, resOf, h1, Array.getD_eq_getD_getElem?, b1], .cons b2 h2, h3⟩
    | cell t ty =>
      simp only [List.map_cons, compRes] at h
      cases ha : aggOf P ty with
      | none =>
        simp only [ha, resK] at h
        cases hg : env.get 1000000000 with
        | none => simp [hg] at h
        | some v =>
          obtain ⟨v', b1, _⟩ := he _ v hg
          have := (Array.getElem?_eq_some_iff.1 b1).1
          omega
      | some agg =>
        simp only [ha, resK] at h
        split at h
        · rename_i p hg
          obtain ⟨v', b1, b2⟩ := he t _ hg
          obtain ⟨q, u, u', c1, c2, c3, c4⟩ := loadK_inv (P := P) hs ha h b2
          obtain ⟨vs, vs', h1, h2, h3⟩ := results_run hs he hn c4
          refine ⟨u :: vs, u' :: vs', ?_, .cons c3 h2, h3⟩
          have : tmps.getD t undef = .pointer (some q) := by rw [Array.getD_eq_getD_getElem?, b1, c1]; rfl
          simp only [List.mapM_cons, resOf, this, Sem.run_bind, run_asAddr, Result.andThen_ok, c2, h1, Sem.run_pure]
        · exact h.elim

theorem tupled_rel {T : List Tag} {ι : Inj} {l : List Value} {a : Array Value} (h : VRels T ι l a.toList) : VRel T ι (tupled l) (if h : a.size = 1 then a[0] else .tuple a) := by
  by_cases h1 : a.size = 1
  · rw [dif_pos h1]
    obtain ⟨v, rfl⟩ : ∃ v, l = [v] := by
      have hl : l.length = 1 := h.1.trans (by simpa using h1)
      match l, hl with
      | [v], _ => exact ⟨v, rfl⟩
    exact h.2 0 v _ rfl (by simp [h1])
  · rw [dif_neg h1]
    have : tupled l = .tuple l.toArray := by
      match l, h.1 with
      | [], _ => rfl
      | [v], h => simp at h; omega
      | _ :: _ :: _, _ => rfl
    rw [this]
    exact .tuple (by simpa using h.1) (fun i v v' hv hv' => h.2 i v v' (by simpa using hv) (by rw [← Array.getElem?_toList] at hv'; exact hv'))

/-- A function's contract, out of its body. -/
theorem ACallK.of {f : FuncId} {F : AFn} (hF : compFn P f = some F.strip) {args : List Value} {K : Value → Heap → Prop} (hn : args.length ≤ F.n) (hbig : F.n ≤ 1000000000) (h : AW P F.n H F.body (retK H F.rs K) (argEnv 0 args) H) : ACallK P f args H K := by
  unfold compFn at hF
  cases hfn : P.funcs[f]? with
  | none => simp [hfn] at hF
  | some fn =>
    cases hb : fn.body with
    | none => simp [hfn, hb] at hF
    | some c =>
      by_cases hnm : fn.name == "runtime.NumGoroutine"
      · simp only [hfn, hb] at hF; rw [if_pos hnm] at hF; cases hF
      · simp only [hfn, hb] at hF
        rw [if_neg hnm] at hF
        simp only [Option.some.injEq, AFn.strip, AFn.mk.injEq] at hF
        obtain ⟨h1, h2, h3⟩ := hF
        refine ⟨⟨fn, hfn, by simp [hb], by simpa using hnm⟩, fun prot B ι w args' hs hv => ?_⟩
        refine calls_of_wp hfn hb ?_
        have hlen : args'.size = args.length := by have := hv.1; simpa using this.symm
        have hsz : (args' ++ Array.replicate (fn.ntmps - args'.size) undef).size = F.n := by simp; omega
        refine wp_mono (h c (by rw [← h1] at *; exact h3) prot B ι ι ⟨args' ++ Array.replicate (fn.ntmps - args'.size) undef, []⟩ w hs.closed (.refl _ _) hs (fun i v hv' => ?_) hsz rfl) ?_
        · obtain ⟨_, hi⟩ := argEnv_get args 0 i v hv'
          rw [Nat.sub_zero] at hi
          have hil : i < args.length := (List.getElem?_eq_some_iff.1 hi).1
          have hil' : i < args'.toList.length := by rw [Array.length_toList]; omega
          exact ⟨args'.toList[i], by simp only []; rw [Array.getElem?_append_left (by simpa using hil'), ← Array.getElem?_toList]; exact List.getElem?_eq_getElem hil', hv.2 i v _ hi (List.getElem?_eq_getElem hil')⟩
        · have fin : ∀ {a' : Act} {w' : World} {ι' : Inj} {env' : Env} {H' : Heap}, Ext (tags H) ι (tags H') ι' → HSim prot B w' ι' H' → EnvOk (tags H') ι' env' a'.tmps → a'.tmps.size = F.n → resK F.rs env' H' (fun l => DropK H (tupled l) H' K) →
              ∃ v, (results fn a'.tmps).run P w' = .ok v w' ∧ ∃ v0 v' ι' H', Ending.returned v = .returned v' ∧ HSim prot B w' ι' H' ∧ Ext (tags H) ι (tags H') ι' ∧ VRel (tags H') ι' v0 v' ∧ K v0 H' := by
            intro a' w' ι' env' H' e1 e2 e3 e4 e5
            rw [← h2] at e5
            obtain ⟨vs, vs', g1, g2, H'', u, g3, g4⟩ := results_run (P := P) e2 e3 (by omega) e5
            have hr : (results fn a'.tmps).run P w' = .ok (if h : vs'.toArray.size = 1 then vs'.toArray[0] else .tuple vs'.toArray) w' := by
              have hres : results fn a'.tmps = (do let vs ← fn.results.mapM (resOf a'.tmps); pure (if h : vs.size = 1 then vs[0] else .tuple vs)) := by
                unfold results
                congr 1
              rw [hres]
              simp only [Array.mapM_eq_mapM_toList, Sem.run_bind, Sem.run_map, g1]
              rfl
            obtain ⟨ι'', k1, k2, k3⟩ := g3 prot B w' ι' ι _ hs.closed e1 e2 (tupled_rel (a := vs'.toArray) (by simpa using g2))
            exact ⟨_, hr, _, _, ι'', H'', rfl, k2, k1, k3, g4⟩
          rintro e a' w' ⟨ι', env', H', b1, b2, b3, b4, b5, b6⟩
          cases e with
          | normal => exact ⟨b5, fin b1 b2 b3 b4 b6⟩
          | ret => exact ⟨b5, fin b1 b2 b3 b4 b6⟩
          | exit id => exact b6
          | goto l => exact b6
          | panic ch => exact b6.elim
          | outgrown => exact b6.elim

end
end Go.Am
