/-
  The abstract machine, part C: triples over code and calls; the rules of control; what may be forgotten. For any program.
-/
import Derived.Test.YtfkhljgifndbpaaDoorAmB
namespace Go.Am

def Post (prot : Nat → Prop) (B : World) (H0 : Heap) (ι0 : Inj) (n : Nat) (Q : Exit → Env → Heap → Prop) (e : Exit) (a : Act) (w : World) : Prop :=
  ∃ ι env H, Ext (tags H0) ι0 (tags H) ι ∧ HSim prot B w ι H ∧ EnvOk (tags H) ι env a.tmps ∧ a.tmps.size = n ∧ a.defers = [] ∧ Q e env H

/-- Run from the abstract state (env, H) the code ends in one that meets Q. n: how many slots the frame has; H0: the heap at the function's entry. -/
def AWP (P : Program) (n : Nat) (H0 : Heap) (c : Code) (Q : Exit → Env → Heap → Prop) (env : Env) (H : Heap) : Prop :=
  ∀ prot B ι0 ι a w, Closed H0 H0.length → Ext (tags H0) ι0 (tags H) ι → HSim prot B w ι H → EnvOk (tags H) ι env a.tmps → a.tmps.size = n → a.defers = [] →
    c.wp P (Post prot B H0 ι0 n Q) a w

/-- A function that a call enters. -/
def fnOk (P : Program) (f : FuncId) : Prop := ∃ fn, P.funcs[f]? = some fn ∧ fn.body.isSome = true ∧ (fn.name == "runtime.NumGoroutine") = false

/-- Called in the abstract heap H the function hands back a value, and leaves a heap, that meet K. -/
def ACallK (P : Program) (f : FuncId) (args : List Value) (H : Heap) (K : Value → Heap → Prop) : Prop :=
  fnOk P f ∧ ∀ prot B ι w args', HSim prot B w ι H → VRels (tags H) ι args args'.toList → Calls P f args' w fun e w' =>
    ∃ v v' ι' H', e = .returned v' ∧ HSim prot B w' ι' H' ∧ Ext (tags H) ι (tags H') ι' ∧ VRel (tags H') ι' v v' ∧ K v H'

theorem ACallK.mono {P : Program} {f : FuncId} {args : List Value} {H : Heap} {K K' : Value → Heap → Prop} (h : ACallK P f args H K) (hk : ∀ v H, K v H → K' v H) : ACallK P f args H K' :=
  ⟨h.1, fun prot B ι w args' h1 h2 => (h.2 prot B ι w args' h1 h2).mono fun _ _ ⟨v, v', ι', H', a, b, c, d, e⟩ => ⟨v, v', ι', H', a, b, c, d, hk _ _ e⟩⟩

section rules
variable {P : Program} {n : Nat} {H0 : Heap} {Q : Exit → Env → Heap → Prop} {env : Env} {H : Heap}

theorem Post.mono {prot : Nat → Prop} {B : World} {ι0 : Inj} {Q' : Exit → Env → Heap → Prop} (hq : ∀ e env H, Q e env H → Q' e env H) {e : Exit} {a : Act} {w : World} (h : Post prot B H0 ι0 n Q e a w) :
    Post prot B H0 ι0 n Q' e a w :=
  let ⟨ι, env, H, a1, a2, a3, a4, a5, a6⟩ := h
  ⟨ι, env, H, a1, a2, a3, a4, a5, hq _ _ _ a6⟩

theorem AWP.mono {c : Code} {Q' : Exit → Env → Heap → Prop} (h : AWP P n H0 c Q env H) (hq : ∀ e env H, Q e env H → Q' e env H) : AWP P n H0 c Q' env H :=
  fun prot B ι0 ι a w h0 h1 h2 h3 h4 h5 => wp_mono (h prot B ι0 ι a w h0 h1 h2 h3 h4 h5) fun _ _ _ => Post.mono hq

theorem AWP.here {c : Code} {e : Exit} (hc : ∀ (Q : Exit → Act → World → Prop) a w, Q e a w → c.wp P Q a w) (h : Q e env H) : AWP P n H0 c Q env H :=
  fun _ _ _ ι a w _ h1 h2 h3 h4 h5 => hc _ a w ⟨ι, env, H, h1, h2, h3, h4, h5, h⟩

theorem AWP.skip (h : Q .normal env H) : AWP P n H0 .skip Q env H := .here (fun _ _ _ => wp_skip) h
theorem AWP.label {l : Nat} (h : Q .normal env H) : AWP P n H0 (.label l) Q env H := .here (fun _ _ _ => wp_label) h
theorem AWP.exit {id : Nat} (h : Q (.exit id) env H) : AWP P n H0 (.exit id) Q env H := .here (fun _ _ _ => wp_exit) h
theorem AWP.ret (h : Q .ret env H) : AWP P n H0 .ret Q env H := .here (fun _ _ _ => wp_ret) h

/-- What stands behind. -/
def thenK (K : Env → Heap → Prop) (Q : Exit → Env → Heap → Prop) : Exit → Env → Heap → Prop
  | .normal, env, H => K env H
  | e, env, H => Q e env H

theorem AWP.seq {x y : Code} (h : AWP P n H0 x (thenK (AWP P n H0 y Q) Q) env H) : AWP P n H0 (.seq x y) Q env H := by
  intro prot B ι0 ι a w h0 h1 h2 h3 h4 h5
  refine wp_seq (wp_mono (h prot B ι0 ι a w h0 h1 h2 h3 h4 h5) ?_)
  rintro e a' w' ⟨ι', env', H', a1, a2, a3, a4, a5, a6⟩
  cases e with
  | normal => exact a6 prot B ι0 ι' a' w' h0 a1 a2 a3 a4 a5
  | _ => exact ⟨ι', env', H', a1, a2, a3, a4, a5, a6⟩

/-- What stands behind a block of that number. -/
def blockK (id : Nat) (Q : Exit → Env → Heap → Prop) : Exit → Env → Heap → Prop
  | .exit id', env, H => if id' = id then Q .normal env H else Q (.exit id') env H
  | e, env, H => Q e env H

theorem AWP.block {id : Nat} {c : Code} (h : AWP P n H0 c (blockK id Q) env H) : AWP P n H0 (.block id c) Q env H := by
  intro prot B ι0 ι a w h0 h1 h2 h3 h4 h5
  refine wp_block (wp_mono (h prot B ι0 ι a w h0 h1 h2 h3 h4 h5) ?_)
  rintro e a' w' ⟨ι', env', H', a1, a2, a3, a4, a5, a6⟩
  cases e with
  | exit id' =>
    simp only [blockK] at a6
    simp only [Exit.inBlock]
    split <;> rename_i hid
    · rw [if_pos hid] at a6; exact ⟨ι', env', H', a1, a2, a3, a4, a5, a6⟩
    · rw [if_neg hid] at a6; exact ⟨ι', env', H', a1, a2, a3, a4, a5, a6⟩
  | _ => exact ⟨ι', env', H', a1, a2, a3, a4, a5, a6⟩

theorem AWP.loop {c : Code} (I : Env → Heap → Prop) (μ : Env → Heap → Nat) (h0 : I env H)
    (round : ∀ env H, I env H → AWP P n H0 c (thenK (fun env' H' => I env' H' ∧ μ env' H' < μ env H) Q) env H) : AWP P n H0 (.loop c) Q env H := by
  -- by induction on the measure, the real loop's own rule at 'there is an abstract state of that measure'
  have key : ∀ (m : Nat) env H, μ env H = m → I env H → ∀ prot B ι0 ι a w, Closed H0 H0.length → Ext (tags H0) ι0 (tags H) ι → HSim prot B w ι H → EnvOk (tags H) ι env a.tmps → a.tmps.size = n → a.defers = [] →
      ∀ (b : Frame) (k : List Item) (cs : List Frame), ∃ e a' w', Post prot B H0 ι0 n Q e a' w' ∧ Arrives P (lone (b.at a (.code c :: .inLoop c :: k)) cs w) b k cs e a' w' := by
    intro m
    induction m using Nat.strongRecOn with
    | _ m ih =>
      intro env H hm hI prot B ι0 ι a w hc h1 h2 h3 h4 h5 b k cs
      obtain ⟨e, a₁, w₁, ⟨ι', env', H', a1, a2, a3, a4, a5, a6⟩, harr⟩ := round env H hI prot B ι0 ι a w hc h1 h2 h3 h4 h5 b (.inLoop c :: k) cs
      cases e with
      | normal =>
        obtain ⟨hI₁, hlt⟩ := a6
        obtain ⟨e₂, a₂, w₂, hq₂, harr₂⟩ := ih (μ env' H') (hm ▸ hlt) env' H' rfl hI₁ prot B ι0 ι' a₁ w₁ hc a1 a2 a3 a4 a5 b k cs
        exact ⟨e₂, a₂, w₂, hq₂, .of_steps (Steps.trans harr (.one step_inLoop)) harr₂⟩
      | exit id => exact ⟨_, a₁, w₁, ⟨ι', env', H', a1, a2, a3, a4, a5, a6⟩, .pass (x := .inLoop c) rfl (fun _ _ => .inl (by simp)) harr⟩
      | goto l => exact ⟨_, a₁, w₁, ⟨ι', env', H', a1, a2, a3, a4, a5, a6⟩, .pass (x := .inLoop c) rfl (fun _ _ => .inl (by simp)) harr⟩
      | ret => exact ⟨_, a₁, w₁, ⟨ι', env', H', a1, a2, a3, a4, a5, a6⟩, .pass (x := .inLoop c) rfl (fun _ _ => .inl (by simp)) harr⟩
      | panic ch => exact ⟨_, a₁, w₁, ⟨ι', env', H', a1, a2, a3, a4, a5, a6⟩, .pass (x := .inLoop c) rfl (fun _ _ => .inl (by simp)) harr⟩
      | outgrown => exact ⟨_, a₁, w₁, ⟨ι', env', H', a1, a2, a3, a4, a5, a6⟩, .pass (x := .inLoop c) rfl (fun _ _ => .inl (by simp)) harr⟩
  intro prot B ι0 ι a w hc h1 h2 h3 h4 h5 b k cs
  obtain ⟨e, a', w', hq, harr⟩ := key _ env H rfl h0 prot B ι0 ι a w hc h1 h2 h3 h4 h5 b k cs
  exact ⟨e, a', w', hq, .of_steps (.one step_loop) harr⟩

/-- From (env, H) to (env', H'): what is known gets less, or is named otherwise. -/
def Weak (H0 : Heap) (env : Env) (H : Heap) (env' : Env) (H' : Heap) : Prop :=
  ∀ prot B w ι ι0 tmps, Closed H0 H0.length → Ext (tags H0) ι0 (tags H) ι → HSim prot B w ι H → EnvOk (tags H) ι env tmps →
    ∃ ι', Ext (tags H0) ι0 (tags H') ι' ∧ HSim prot B w ι' H' ∧ EnvOk (tags H') ι' env' tmps

theorem Weak.refl (H0 : Heap) (env : Env) (H : Heap) : Weak H0 env H env H := fun _ _ _ ι _ _ _ h1 h2 h3 => ⟨ι, h1, h2, h3⟩
theorem Weak.trans {env' env'' : Env} {H' H'' : Heap} (h : Weak H0 env H env' H') (h' : Weak H0 env' H' env'' H'') : Weak H0 env H env'' H'' :=
  fun prot B w ι ι0 tmps h0 h1 h2 h3 => let ⟨ι', a, b, c⟩ := h prot B w ι ι0 tmps h0 h1 h2 h3; h' prot B w ι' ι0 tmps h0 a b c

/-- Slots are forgotten. -/
theorem Weak.forget {env' : Env} (hs : ∀ i v, env'.get i = some v → env.get i = some v) : Weak H0 env H env' H :=
  fun _ _ _ ι _ _ _ h1 h2 h3 => ⟨ι, h1, h2, h3.sub hs⟩

/-- The last objects are forgotten. -/
theorem Weak.drop (m : Nat) (hm : H0.length ≤ m) (he : ∀ i v, env.get i = some v → bnd m v = true) (ho : ∀ j o, j < m → H[j]? = some o → H0[j]? = some o ∨ abnd m o = true) :
    Weak H0 env H env (H.take m) := by
  intro prot B w ι ι0 tmps h0 h1 h2 h3
  have hcl : Closed H m := fun j o hj hjo => by
    rcases ho j o hj hjo with h | h
    · exact (h0 j o (List.getElem?_eq_some_iff.1 h).1 h).mono hm
    · exact abnd_bd h
  have ht : tags (H.take m) = (tags H).take m := by simp [tags, List.map_take]
  refine ⟨ι.take m, ?_, h2.trunc m hcl, fun i v hv => ?_⟩
  · intro k t hk
    obtain ⟨t', a, b, c⟩ := h1 k t hk
    have hkm : k < m := by have := (List.getElem?_eq_some_iff.1 hk).1; simp at this; omega
    exact ⟨t', by rw [ht]; exact take_some hkm a, b, fun e => ⟨(c e).1, by rw [List.getElem?_take_of_lt hkm]; exact (c e).2⟩⟩
  · obtain ⟨v', a, b⟩ := h3 i v hv
    exact ⟨v', a, by rw [ht]; exact bnd_bd (he i v hv) _ _ _ b⟩

/-- A nil slice in slot i is taken for a new object without cells. -/
theorem Weak.ghost (i : Nat) (esz : Nat) (ro : Bool) (hi : env.get i = some (.slice none 0 0)) :
    Weak H0 env H (env.set i (.slice (some ⟨H.length, 0, some 1⟩) 0 0)) (H ++ [.cells 0 esz ro []]) := by
  intro prot B w ι ι0 tmps h0 h1 h2 h3
  obtain ⟨hs, hext⟩ := h2.ghost esz ro
  refine ⟨_, h1.trans hext, hs, fun j v hv => ?_⟩
  rw [Env.get_set] at hv
  by_cases hj : j = i
  · subst hj
    simp at hv
    subst hv
    obtain ⟨v', a, b⟩ := h3 j _ hi
    cases b with
    | flat _ => exact ⟨_, a, .empty (t := ⟨0, esz, ro⟩) (by simp [AObj.tag]) rfl⟩
  · rw [if_neg hj] at hv
    obtain ⟨v', a, b⟩ := h3 j v hv
    exact ⟨v', a, b.ext hext⟩

theorem AWP.weaken {c : Code} {env' : Env} {H' : Heap} (hw : Weak H0 env H env' H') (h : AWP P n H0 c Q env' H') : AWP P n H0 c Q env H :=
  fun prot B ι0 ι a w h0 h1 h2 h3 h4 h5 => let ⟨ι', a1, a2, a3⟩ := hw prot B w ι ι0 a.tmps h0 h1 h2 h3; h prot B ι0 ι' a w h0 a1 a2 a3 h4 h5

/-- Q may be met by a weaker state. -/
def wk (H0 : Heap) (Q : Exit → Env → Heap → Prop) (e : Exit) (env : Env) (H : Heap) : Prop := ∃ env' H', Weak H0 env H env' H' ∧ Q e env' H'

theorem wk.same {e : Exit} (h : Q e env H) : wk H0 Q e env H := ⟨env, H, .refl _ _ _, h⟩

theorem AWP.of_wk {c : Code} (h : AWP P n H0 c (wk H0 Q) env H) : AWP P n H0 c Q env H := by
  intro prot B ι0 ι a w h0 h1 h2 h3 h4 h5
  refine wp_mono (h prot B ι0 ι a w h0 h1 h2 h3 h4 h5) ?_
  rintro e a' w' ⟨ι', env', H', a1, a2, a3, a4, a5, env'', H'', hw, hq⟩
  obtain ⟨ι'', b1, b2, b3⟩ := hw prot B w' ι' ι0 a'.tmps h0 a1 a2 a3
  exact ⟨ι'', env'', H'', b1, b2, b3, a4, a5, hq⟩

end rules

/-- A result: a slot, or a variable behind a slot (its cells, if it is a struct or an array). -/
inductive ARes where
  | tmp (t : Nat)
  | cell (t : Nat) (agg : Option Nat)

/-- n cells from o on. -/
def ldK (cs : List Value) (o : Nat) : Nat → (List Value → Prop) → Prop
  | 0, K => K []
  | n + 1, K => match cs[o]? with
    | some v => ldK cs (o + 1) n fun l => K (v :: l)
    | none => False

/-- The cells of the object at an address, if the address is of its present generation: element size, read only, cells. -/
def atK (H : Heap) (a : Addr) (K : Nat → Nat → Bool → List Value → Prop) : Prop :=
  match H[a.block]? with
  | some (.cells g esz ro cs) => if a.spot = some (g + 1) then K g esz ro cs else False
  | _ => False

/-- A cell, or so many cells as a struct or an array. -/
def partK (agg : Option Nat) (cs : List Value) (o : Nat) (K : Value → Prop) : Prop :=
  match agg with
  | some n => ldK cs o n fun l => K (.agg l.toArray)
  | none => match cs[o]? with
    | some v => K v
    | none => False

/-- Loaded from an address. -/
def loadK (H : Heap) (a : Addr) (agg : Option Nat) (K : Value → Prop) : Prop := atK H a fun _ _ _ cs => partK agg cs a.off K

def resK : List ARes → Env → Heap → (List Value → Prop) → Prop
  | [], _, _, K => K []
  | .tmp t :: r, env, H, K => match env.get t with
    | some v => resK r env H fun l => K (v :: l)
    | none => False
  | .cell t agg :: r, env, H, K => match env.get t with
    | some (.pointer (some a)) => loadK H a agg fun v => resK r env H fun l => K (v :: l)
    | _ => False

def tupled : List Value → Value
  | [v] => v
  | l => .tuple l.toArray

end Go.Am
