/-
  The abstract machine, part P: a region that draws its order. For any program.
-/
import Derived.Test.YtfkhljgifndbpaaDoorAmM
namespace Go.Am

/-! ## What the caller shows: one walk in textual order, each reading at every heap it may meet. -/

def wantE (e : Env) : Option (Nat × Bool) → Option Bool
  | none => some true
  | some (t, want) => match e.get t with
    | some (.bool b) => some (b == want)
    | some (.tuple _) => some false
    | _ => none

def stepD (call : FuncId → List Value → Heap → (Value → Heap → Prop) → Prop) (op : AOp) (e : Env) (H : Heap) (v : Value) (H' : Heap) : Prop :=
  instrK call op e H fun a b => a = v ∧ b = H'

/-- An operation that may turn the heap, and that all behind it wait for (hi = 0): whatever comes of it. past: the heaps so far, the newest first. pend: what must hold of the heaps to come, up to which one. -/
def drawK (call : FuncId → List Value → Heap → (Value → Heap → Prop) → Prop) : List (AInstr × Nat × Nat × Bool) → Heap → List Heap → List (Nat × (Heap → Prop)) → Env → (Env → Heap → Prop) → Prop
  | [], cur, _, _, e, K => K e cur
  | (i, lo, hi, loud) :: r, cur, past, pend, e, K => match wantE e i.guard with
    | none => False
    | some false => (loud = true → ∀ p ∈ pend, past.length < p.1 → p.2 cur) ∧ drawK call r cur (if loud then cur :: past else past) pend (putE i.dst (.tuple #[]) e) K
    | some true => if loud = true then (if hi = 0 then instrK call i.op e cur fun v H' => (∀ p ∈ pend, past.length < p.1 → p.2 H') ∧ drawK call r H' (cur :: past) pend (putE i.dst v e) K
        else ∃ v H', stepD call i.op e cur v H' ∧ (∀ p ∈ pend, past.length < p.1 → p.2 H') ∧ drawK call r H' (cur :: past) pend (putE i.dst v e) K)
      else ∃ v, (∀ H ∈ (cur :: past).take (past.length + 1 - lo), stepD call i.op e H v H) ∧
        drawK call r cur past (if past.length < hi then (hi, fun H => stepD call i.op e H v H) :: pend else pend) (putE i.dst v e) K

/-! ## What it comes to -/

def lstep (l : List (AInstr × Nat × Nat × Bool)) (k : Nat) : Bool := ((l[k]?).map fun x => x.2.2.2).getD false

/-- What the k-th operation does, whenever it comes. -/
def kthD (call : FuncId → List Value → Heap → (Value → Heap → Prop) → Prop) (x : AInstr × Nat × Nat × Bool) (S s : Nat) (e : Env) (v : Value) (hs : Nat → Heap) : Prop :=
  (wantE e x.1.guard = some false ∧ v = .tuple #[] ∧ (x.2.2.2 = true → hs (s + 1) = hs s)) ∨
  (wantE e x.1.guard = some true ∧ ((x.2.2.2 = true ∧ stepD call x.1.op e (hs s) v (hs (s + 1))) ∨
    (x.2.2.2 = false ∧ ∀ j, x.2.1 ≤ j → j ≤ x.2.2.1 → j ≤ S → stepD call x.1.op e (hs j) v (hs j))))

theorem cnt_le (p : Nat → Bool) : ∀ m, cnt p m ≤ cnt p (m + 1) := fun m => by simp [cnt]
theorem cnt_mono_len (p : Nat → Bool) {m n : Nat} (h : m ≤ n) : cnt p m ≤ cnt p n := by
  induction h with
  | refl => exact Nat.le_refl _
  | step _ ih => exact Nat.le_trans ih (cnt_le p _)
theorem cnt_mono {p q : Nat → Bool} : ∀ {m : Nat}, (∀ i, i < m → p i = true → q i = true) → cnt p m ≤ cnt q m
  | 0, _ => Nat.le_refl _
  | m + 1, h => by
    have := cnt_mono (p := p) (q := q) (m := m) (fun i hi => h i (by omega))
    simp only [cnt]
    cases hp : p m with
    | false => simp; omega
    | true => rw [h m (by omega) hp]; simp; omega
theorem cnt_congr {p q : Nat → Bool} : ∀ {m : Nat}, (∀ i, i < m → p i = q i) → cnt p m = cnt q m
  | 0, _ => rfl
  | m + 1, h => by simp only [cnt]; rw [cnt_congr (fun i hi => h i (by omega)), h m (by omega)]
theorem cnt_add {p q : Nat → Bool} {k : Nat} (hp : p k = false) (hq : ∀ i, i ≠ k → q i = p i) : ∀ {m : Nat}, k < m → cnt q m = cnt p m + if q k then 1 else 0
  | m + 1, h => by
    simp only [cnt]
    by_cases hk : k = m
    · subst hk
      rw [cnt_congr (fun i hi => hq i (by omega)), hp]; simp
    · rw [cnt_add hp hq (by omega), hq m (by omega)]; omega
theorem cnt_below {p : Nat → Bool} {k : Nat} : ∀ {m : Nat}, k ≤ m → cnt (fun i => p i && decide (i < k)) m = cnt p k
  | 0, h => by have : k = 0 := by omega
               subst this; rfl
  | m + 1, h => by
    by_cases hk : k = m + 1
    · subst hk; exact cnt_congr fun i hi => by simp [hi]
    · simp only [cnt]
      rw [cnt_below (by omega)]
      simp; omega

def upd {α : Type} (f : Nat → α) (k : Nat) (x : α) : Nat → α := fun i => if i = k then x else f i
theorem upd_at {α : Type} (f : Nat → α) (k : Nat) (x : α) : upd f k x k = x := by simp [upd]
theorem upd_ne {α : Type} (f : Nat → α) {k i : Nat} (x : α) (h : i ≠ k) : upd f k x i = f i := by simp [upd, h]

/-- The first m operations are known: their values, the environments, the heaps. dn: those whose outcome was open, done already. -/
structure PI (call : FuncId → List Value → Heap → (Value → Heap → Prop) → Prop) (full : List (AInstr × Nat × Nat × Bool)) (K : Env → Heap → Prop) (env : Env) (H : Heap) (m : Nat) (vs : Nat → Value) (hs : Nat → Heap) (es : Nat → Env) (dn : List Nat) : Prop where
  le : m ≤ full.length
  e0 : es 0 = env
  h0 : hs 0 = H
  rest : ∃ cur past pend, drawK call (full.drop m) cur past pend (es m) K ∧ past.length = cnt (lstep full) m ∧ (∀ j, j ≤ past.length → (cur :: past)[past.length - j]? = some (hs j)) ∧
    ∀ k x, k < m → full[k]? = some x → k ∉ dn → x.2.2.2 = false → wantE (es k) x.1.guard = some true → cnt (lstep full) m < x.2.2.1 → (x.2.2.1, fun H => stepD call x.1.op (es k) H (vs k) H) ∈ pend
  step : ∀ k, k < m → ∃ x, full[k]? = some x ∧ es (k + 1) = putE x.1.dst (vs k) (es k) ∧ (k ∈ dn ∨ kthD call x (cnt (lstep full) m) (cnt (lstep full) k) (es k) (vs k) hs)

section
variable {call : FuncId → List Value → Heap → (Value → Heap → Prop) → Prop} {full : List (AInstr × Nat × Nat × Bool)} {K : Env → Heap → Prop} {env : Env} {H : Heap} {m : Nat} {vs : Nat → Value} {hs : Nat → Heap} {es : Nat → Env} {dn : List Nat}

theorem cnt_lt_loud {p : Nat → Bool} {k m : Nat} (hk : k < m) (hp : p k = true) : cnt p k + 1 ≤ cnt p m := by
  have := cnt_mono_len p (show k + 1 ≤ m by omega)
  simp only [cnt, hp, if_true] at this
  exact this

theorem PI.put (h : PI call full K env H m vs hs es dn) {i : AInstr} {lo hi : Nat} {loud : Bool} (hx : full[m]? = some (i, lo, hi, loud)) {cur : Heap} {past : List Heap} {pend : List (Nat × (Heap → Prop))}
    (hpl : past.length = cnt (lstep full) m) (hps : ∀ j, j ≤ past.length → (cur :: past)[past.length - j]? = some (hs j))
    (hpc : ∀ k x, k < m → full[k]? = some x → k ∉ dn → x.2.2.2 = false → wantE (es k) x.1.guard = some true → cnt (lstep full) m < x.2.2.1 → (x.2.2.1, fun H => stepD call x.1.op (es k) H (vs k) H) ∈ pend)
    (v : Value) (cur' : Heap) (pend' : List (Nat × (Heap → Prop))) (dn' : List Nat)
    (hd : drawK call (full.drop (m + 1)) cur' (if loud then cur :: past else past) pend' (putE i.dst v (es m)) K) (hq : loud = false → cur' = cur) (hsub : ∀ p ∈ pend, p ∈ pend')
    (hpend : loud = true → ∀ p ∈ pend, past.length < p.1 → p.2 cur') (hdn : ∀ k ∈ dn, k ∈ dn') (hdn2 : ∀ k ∈ dn', k ∈ dn ∨ k = m)
    (hown : m ∈ dn' ∨ ∀ hs' : Nat → Heap, hs' (cnt (lstep full) m) = cur → (∀ j, j ≤ past.length → hs' j = hs j) → (loud = true → hs' (cnt (lstep full) m + 1) = cur') → kthD call (i, lo, hi, loud) (cnt (lstep full) (m + 1)) (cnt (lstep full) m) (es m) v hs')
    (hcov : m ∉ dn' → loud = false → wantE (es m) i.guard = some true → cnt (lstep full) (m + 1) < hi → (hi, fun H => stepD call i.op (es m) H v H) ∈ pend') :
    PI call full K env H (m + 1) (upd vs m v) (upd hs (cnt (lstep full) m + 1) cur') (upd es (m + 1) (putE i.dst v (es m))) dn' := by
  have hml : m < full.length := (List.getElem?_eq_some_iff.1 hx).1
  have hloud : lstep full m = loud := by simp [lstep, hx]
  have hc1 : cnt (lstep full) (m + 1) = cnt (lstep full) m + if loud then 1 else 0 := by simp only [cnt, hloud]
  have hag : ∀ j, j ≤ cnt (lstep full) m → upd hs (cnt (lstep full) m + 1) cur' j = hs j := fun j hj => upd_ne _ _ (by omega)
  have hcur : hs (cnt (lstep full) m) = cur := by
    have := hps past.length (Nat.le_refl _)
    rw [hpl] at this
    simpa using this.symm
  refine ⟨by omega, ?_, ?_, ⟨cur', (if loud then cur :: past else past), pend', ?_, ?_, fun j hj => ?_, fun k x hk hkx hkd hkq hkw hkc => ?_⟩, fun k hk => ?_⟩
  · rw [upd_ne _ _ (by omega)]; exact h.e0
  · rw [upd_ne _ _ (by omega)]; exact h.h0
  · rw [upd_at]; exact hd
  · rw [hc1, ← hpl]; cases loud <;> simp
  · cases loud with
    | false =>
      have := hq rfl; subst this
      simp only [Bool.false_eq_true, if_false] at hj ⊢
      rw [hag j (by omega)]; exact hps j hj
    | true =>
      simp only [if_true, List.length_cons] at hj ⊢
      by_cases e : j = past.length + 1
      · subst e
        rw [Nat.sub_self, ← hpl, upd_at]; rfl
      · rw [show past.length + 1 - j = (past.length - j) + 1 by omega, List.getElem?_cons_succ, hag j (by omega)]
        exact hps j (by omega)
  · rcases Nat.lt_or_ge k m with hkm | hkm
    · rw [upd_ne _ _ (by omega)] at hkw ⊢
      rw [upd_ne _ _ (by omega)]
      exact hsub _ (hpc k x hkm hkx (fun hc => hkd (hdn k hc)) hkq hkw (by rw [hc1] at hkc; omega))
    · obtain rfl : k = m := by omega
      rw [hx] at hkx; cases hkx
      rw [upd_ne _ _ (by omega)] at hkw ⊢
      rw [upd_at]
      exact hcov hkd hkq hkw hkc
  · rcases Nat.lt_or_ge k m with hkm | hkm
    · obtain ⟨x, b1, b2, b3⟩ := h.step k hkm
      refine ⟨x, b1, ?_, ?_⟩
      · rw [upd_ne _ _ (by omega), upd_ne _ _ (by omega), upd_ne _ _ (by omega)]; exact b2
      · rcases b3 with b3 | b3
        · exact .inl (hdn k b3)
        · by_cases hkd : k ∈ dn
          · exact .inl (hdn k hkd)
          · refine .inr ?_
            have hlk : lstep full k = x.2.2.2 := by simp [lstep, b1]
            rw [upd_ne _ _ (by omega), upd_ne _ _ (by omega)]
            rcases b3 with ⟨c1, c2, c3⟩ | ⟨c1, ⟨c2, c3⟩ | ⟨c2, c3⟩⟩
            · refine .inl ⟨c1, c2, fun hl => ?_⟩
              have := cnt_lt_loud hkm (hlk.trans hl)
              rw [hag _ (by omega), hag _ (by omega)]
              exact c3 hl
            · refine .inr ⟨c1, .inl ⟨c2, ?_⟩⟩
              have := cnt_lt_loud hkm (hlk.trans c2)
              rw [hag _ (by omega), hag _ (by omega)]
              exact c3
            · refine .inr ⟨c1, .inr ⟨c2, fun j j1 j2 j3 => ?_⟩⟩
              by_cases hj : j ≤ cnt (lstep full) m
              · rw [hag j hj]; exact c3 j j1 j2 hj
              · have hb : loud = true := by
                  cases loud with
                  | true => rfl
                  | false => rw [hc1] at j3; simp at j3; omega
                have e : j = cnt (lstep full) m + 1 := by rw [hc1, hb] at j3; simp at j3; omega
                subst e
                rw [upd_at]
                exact hpend hb _ (hpc k x hkm b1 hkd c2 c1 (by omega)) (by rw [hpl]; simp only; omega)
    · obtain rfl : k = m := by omega
      refine ⟨_, hx, ?_, ?_⟩
      · rw [upd_at, upd_at, upd_ne _ _ (by omega)]
      · rcases hown with ho | ho
        · exact .inl ho
        · refine .inr ?_
          rw [upd_at, upd_ne _ _ (by omega)]
          exact ho _ (by rw [hag _ (Nat.le_refl _)]; exact hcur) (fun j hj => hag j (by omega)) (fun _ => upd_at _ _ _)

/-- Is the m-th one whose outcome is open, and does it come? -/
def stopAt (full : List (AInstr × Nat × Nat × Bool)) (es : Nat → Env) (m : Nat) : Prop := ∃ i lo, full[m]? = some (i, lo, 0, true) ∧ wantE (es m) i.guard = some true

theorem PI.next (h : PI call full K env H m vs hs es dn) (hm : m < full.length) (hn : ¬ stopAt full es m) : ∃ vs' hs' es', PI call full K env H (m + 1) vs' hs' es' dn ∧
    (∀ k, k < m → vs' k = vs k) ∧ (∀ j, j ≤ cnt (lstep full) m → hs' j = hs j) := by
  obtain ⟨⟨i, lo, hi, loud⟩, hx⟩ : ∃ x, full[m]? = some x := ⟨_, List.getElem?_eq_getElem hm⟩
  obtain ⟨cur, past, pend, hd, hpl, hps, hpc⟩ := h.rest
  have hdr : full.drop m = (i, lo, hi, loud) :: full.drop (m + 1) := by
    rw [List.drop_eq_getElem_cons hm, Option.some.inj ((List.getElem?_eq_getElem hm).symm.trans hx)]
  rw [hdr] at hd
  have hcur : hs (cnt (lstep full) m) = cur := by
    have := hps past.length (Nat.le_refl _)
    rw [hpl] at this
    simpa using this.symm
  have hloud : lstep full m = loud := by simp [lstep, hx]
  have hc1 : cnt (lstep full) (m + 1) = cnt (lstep full) m + if loud then 1 else 0 := by simp only [cnt, hloud]
  have fin : ∀ (v : Value) (cur' : Heap), PI call full K env H (m + 1) (upd vs m v) (upd hs (cnt (lstep full) m + 1) cur') (upd es (m + 1) (putE i.dst v (es m))) dn → ∃ vs' hs' es', PI call full K env H (m + 1) vs' hs' es' dn ∧
      (∀ k, k < m → vs' k = vs k) ∧ (∀ j, j ≤ cnt (lstep full) m → hs' j = hs j) := fun v cur' hP => ⟨_, _, _, hP, fun k hk => upd_ne _ _ (by omega), fun j hj => upd_ne _ _ (by omega)⟩
  unfold drawK at hd
  split at hd
  · exact hd.elim
  · rename_i hw
    obtain ⟨h1, h2⟩ := hd
    refine fin (.tuple #[]) cur (h.put hx hpl hps hpc (.tuple #[]) cur pend dn h2 (fun _ => rfl) (fun p hp => hp) h1 (fun k hk => hk) (fun k hk => .inl hk) (.inr fun hs' b1 b2 b3 => .inl ⟨hw, rfl, fun hb => ?_⟩) (fun _ _ hw' => by rw [hw] at hw'; cases hw'))
    rw [b1, b3 hb]
  · rename_i hw
    split at hd
    · rename_i hb
      split at hd
      · rename_i hz
        exact absurd ⟨i, lo, by rw [hx, hz, hb], hw⟩ hn
      · obtain ⟨v, H', c1, c2, c3⟩ := hd
        refine fin v H' (h.put hx hpl hps hpc v H' pend dn (by rw [if_pos hb]; exact c3) (fun hf => by rw [hb] at hf; cases hf) (fun p hp => hp) (fun _ => c2) (fun k hk => hk) (fun k hk => .inl hk) (.inr fun hs' b1 b2 b3 => .inr ⟨hw, .inl ⟨hb, ?_⟩⟩) (fun _ hf => by rw [hb] at hf; cases hf))
        rw [b1, b3 hb]; exact c1
    · rename_i hb
      have hb : loud = false := by simpa using hb
      obtain ⟨v, c1, c2⟩ := hd
      have key : ∀ j, lo ≤ j → j ≤ cnt (lstep full) m → stepD call i.op (es m) (hs j) v (hs j) := fun j j1 j2 => by
        refine c1 _ (List.mem_of_getElem? (i := past.length - j) ?_)
        rw [List.getElem?_take, if_pos (by omega)]
        exact hps j (by omega)
      refine fin v cur (h.put hx hpl hps hpc v cur _ dn (by rw [if_neg (by rw [hb]; simp)]; exact c2) (fun _ => rfl) (fun p hp => by split <;> simp [hp]) (fun hf => by rw [hb] at hf; cases hf) (fun k hk => hk) (fun k hk => .inl hk) (.inr fun hs' b1 b2 b3 => .inr ⟨hw, .inr ⟨hb, fun j j1 j2 j3 => ?_⟩⟩) (fun _ _ _ hlt => ?_))
      · rw [hc1, hb] at j3
        simp at j3
        rw [b2 j (by omega)]
        exact key j j1 j3
      · rw [hc1, hb] at hlt
        simp at hlt
        rw [if_pos (by omega)]; simp

/-- On to the next one whose outcome is open, or to the end. -/
theorem PI.run : ∀ (f m : Nat) (vs : Nat → Value) (hs : Nat → Heap) (es : Nat → Env), full.length ≤ m + f → PI call full K env H m vs hs es dn → ∃ m' vs' hs' es', PI call full K env H m' vs' hs' es' dn ∧ m ≤ m' ∧ (m' = full.length ∨ stopAt full es' m') ∧
    (∀ k, k < m → vs' k = vs k) ∧ (∀ j, j ≤ cnt (lstep full) m → hs' j = hs j)
  | 0, m, vs, hs, es, hf, h => ⟨m, vs, hs, es, h, Nat.le_refl _, .inl (by have := h.le; omega), fun _ _ => rfl, fun _ _ => rfl⟩
  | f + 1, m, vs, hs, es, hf, h => by
    by_cases hm : m < full.length
    · by_cases hst : stopAt full es m
      · exact ⟨m, vs, hs, es, h, Nat.le_refl _, .inr hst, fun _ _ => rfl, fun _ _ => rfl⟩
      · obtain ⟨vs1, hs1, es1, h1, a1, a2⟩ := h.next hm hst
        obtain ⟨m', vs2, hs2, es2, h2, b1, b2, b3, b4⟩ := PI.run f (m + 1) vs1 hs1 es1 (by omega) h1
        exact ⟨m', vs2, hs2, es2, h2, by omega, b2, fun k hk => (b3 k (by omega)).trans (a1 k hk), fun j hj => (b4 j (Nat.le_trans hj (cnt_le _ _))).trans (a2 j hj)⟩
    · exact ⟨m, vs, hs, es, h, Nat.le_refl _, .inl (by have := h.le; omega), fun _ _ => rfl, fun _ _ => rfl⟩
/-- What comes of one whose outcome is open. -/
theorem PI.open (h : PI call full K env H m vs hs es dn) {i : AInstr} {lo : Nat} (hx : full[m]? = some (i, lo, 0, true)) (hw : wantE (es m) i.guard = some true) : ∃ C : Value → Heap → Prop, instrK call i.op (es m) (hs (cnt (lstep full) m)) C ∧
    ∀ v H', C v H' → PI call full K env H (m + 1) (upd vs m v) (upd hs (cnt (lstep full) m + 1) H') (upd es (m + 1) (putE i.dst v (es m))) (m :: dn) := by
  have hm : m < full.length := (List.getElem?_eq_some_iff.1 hx).1
  obtain ⟨cur, past, pend, hd, hpl, hps, hpc⟩ := h.rest
  have hdr : full.drop m = (i, lo, 0, true) :: full.drop (m + 1) := by
    rw [List.drop_eq_getElem_cons hm, Option.some.inj ((List.getElem?_eq_getElem hm).symm.trans hx)]
  rw [hdr] at hd
  have hcur : hs (cnt (lstep full) m) = cur := by
    have := hps past.length (Nat.le_refl _)
    rw [hpl] at this
    simpa using this.symm
  unfold drawK at hd
  rw [hw] at hd
  simp only [if_true] at hd
  rw [hcur]
  refine ⟨_, hd, fun v H' hc => ?_⟩
  exact h.put hx hpl hps hpc v H' pend (m :: dn) hc.2 (fun hf => by cases hf) (fun p hp => hp) (fun _ => hc.1) (fun k hk => List.mem_cons_of_mem _ hk) (fun k hk => by
    rcases List.mem_cons.1 hk with rfl | hk
    · exact .inr rfl
    · exact .inl hk) (.inl (by simp)) (fun hn => absurd (by simp) hn)
theorem PI.done (h : PI call full K env H m vs hs es dn) (hm : m = full.length) : K (es m) (hs (cnt (lstep full) m)) := by
  obtain ⟨cur, past, pend, hd, hpl, hps, hpc⟩ := h.rest
  have hcur : hs (cnt (lstep full) m) = cur := by
    have := hps past.length (Nat.le_refl _)
    rw [hpl] at this
    simpa using this.symm
  rw [hm, List.drop_length] at hd
  rw [hm] at hcur ⊢
  rw [hcur]
  simpa [drawK] using hd
theorem PI.start {e : Env} (h : drawK call full H [] [] e K) : PI call full K e H 0 (fun _ => .tuple #[]) (fun _ => H) (fun _ => e) [] :=
  ⟨by omega, rfl, rfl, ⟨H, [], [], by rw [List.drop_zero]; exact h, rfl, fun j hj => by simp, fun k x hk => by omega⟩, fun k hk => by omega⟩
end

/-! ## Environments and what is done -/

def dstOf (l : List AInstr) (k : Nat) : Option Nat := (l[k]?).bind (·.dst)

/-- The environment, the operations of D done. -/
def envD (l : List AInstr) (vs : Nat → Value) (e : Env) (D : Nat → Bool) : Nat → Env
  | 0 => e
  | m + 1 => if D m then putE (dstOf l m) (vs m) (envD l vs e D m) else envD l vs e D m

theorem get_putE {dst : Option Nat} {v : Value} {e : Env} {t : Nat} : (putE dst v e).get t = if dst = some t then some v else e.get t := by
  cases dst with
  | none => rfl
  | some d =>
    by_cases h : d = t
    · subst h; simp [putE, Env.get_set]
    · simp [putE, h, Env.get_set, Ne.symm h]

theorem envD_congr {l : List AInstr} {vs : Nat → Value} {e : Env} {D D' : Nat → Bool} {t : Nat} : ∀ {m : Nat}, (∀ i, i < m → dstOf l i = some t → D i = D' i) → (envD l vs e D m).get t = (envD l vs e D' m).get t
  | 0, _ => rfl
  | m + 1, h => by
    have ih := envD_congr (l := l) (vs := vs) (e := e) (m := m) (fun i hi => h i (by omega))
    unfold envD
    by_cases hd : dstOf l m = some t
    · rw [h m (by omega) hd]
      split
      · simp [get_putE, hd]
      · exact ih
    · split <;> split <;> simp [get_putE, hd, ih]

theorem envD_stop {l : List AInstr} {vs : Nat → Value} {e : Env} {D : Nat → Bool} {t m : Nat} : ∀ {n : Nat}, m ≤ n → (∀ i, m ≤ i → i < n → D i = true → dstOf l i ≠ some t) → (envD l vs e D n).get t = (envD l vs e D m).get t
  | 0, hm, _ => by have : m = 0 := by omega
                   subst this; rfl
  | n + 1, hm, h => by
    by_cases hk : m = n + 1
    · subst hk; rfl
    · have ih := envD_stop (l := l) (vs := vs) (e := e) (m := m) (n := n) (by omega) (fun i h1 h2 => h i h1 (by omega))
      rw [← ih]
      conv => lhs; unfold envD
      split
      · rename_i hD
        rw [get_putE, if_neg (h n (by omega) (by omega) hD)]
      · rfl

/-! ## What an operation looks at -/

theorem ev_congr {e e' : Env} {x : AOpd} (h : ∀ t ∈ opdUse x, e.get t = e'.get t) : ev e x = ev e' x := by
  cases x with
  | tmp t => exact h t (by simp [opdUse])
  | _ => rfl
theorem evK_congr {e e' : Env} {x : AOpd} (h : ∀ t ∈ opdUse x, e.get t = e'.get t) : evK e x = evK e' x := by
  unfold evK; rw [ev_congr h]
theorem evsK_congr {e e' : Env} : ∀ {l : List AOpd}, (∀ t ∈ l.flatMap opdUse, e.get t = e'.get t) → evsK e l = evsK e' l
  | [], _ => by funext K; rfl
  | x :: l, h => by
    funext K
    simp only [List.flatMap_cons, List.mem_append] at h
    simp only [evsK]
    rw [evK_congr fun t ht => h t (.inl ht), evsK_congr fun t ht => h t (.inr ht)]
theorem evoK_congr {e e' : Env} {x : Option AOpd} (h : ∀ t ∈ x.toList.flatMap opdUse, e.get t = e'.get t) : evoK e x = evoK e' x := by
  cases x with
  | none => funext K; rfl
  | some x => funext K; simp only [evoK]; rw [evK_congr]; simpa using h
theorem fillK_congr {e e' : Env} : ∀ {l : List (Nat × Nat × AOpd)} {cs : List Value} {K : List Value → Prop}, (∀ t ∈ l.flatMap (fun x => opdUse x.2.2), e.get t = e'.get t) → fillK e cs l K = fillK e' cs l K
  | [], _, _, _ => rfl
  | (o, s, x) :: l, cs, K, h => by
    simp only [List.flatMap_cons, List.mem_append] at h
    simp only [fillK]
    rw [evK_congr fun t ht => h t (.inl ht)]
    congr 1
    funext v
    congr 1
    funext w
    split
    · exact fillK_congr fun t ht => h t (.inr ht)
    · rfl

theorem instrK_congr {call : FuncId → List Value → Heap → (Value → Heap → Prop) → Prop} {op : AOp} {e e' : Env} {H : Heap} {K : Value → Heap → Prop} (h : ∀ t ∈ opUse op, e.get t = e'.get t) : instrK call op e H K = instrK call op e' H K := by
  cases op <;> simp only [opUse, List.mem_append, List.flatMap_append] at h <;> simp only [instrK, opK] <;>
    first
    | rfl
    | rw [evK_congr h]
    | rw [evsK_congr h]
    | rw [fillK_congr h]
    | rw [evK_congr fun t ht => h t (.inl ht), evK_congr fun t ht => h t (.inr ht)]
    | rw [evK_congr fun t ht => h t (.inl ht), evsK_congr fun t ht => h t (.inr ht)]
    | rw [evsK_congr fun t ht => h t (.inl ht), evsK_congr fun t ht => h t (.inr ht)]
    | rw [evK_congr fun t ht => h t (.inl (.inl ht)), evK_congr fun t ht => h t (.inl (.inr ht)), evK_congr fun t ht => h t (.inr ht)]
    | rw [evK_congr fun t ht => h t (.inl ht), evoK_congr fun t ht => h t (.inr (.inl (.inl ht))), evoK_congr fun t ht => h t (.inr (.inl (.inr ht))), evoK_congr fun t ht => h t (.inr (.inr ht))]
    | rw [evK_congr fun t ht => h t (.inl ht), evoK_congr fun t ht => h t (.inr (.inl ht)), evoK_congr fun t ht => h t (.inr (.inr ht))]

/-! ## The waits -/

inductive Bef (ops : Array Oper) : Nat → Nat → Prop
  | edge {j : Nat} {o : Oper} {e : Edge} : ops[j]? = some o → e ∈ o.after → Region.binds .any e = true → Bef ops e.on j
  | more {i j : Nat} {o : Oper} {e : Edge} : ops[j]? = some o → e ∈ o.after → Region.binds .any e = true → Bef ops i e.on → Bef ops i j

theorem waitRow_spec {acc : List Nat} {i : Nat} : ∀ {l : List Edge} {s : Nat}, (waitRow acc l s).testBit i = true → s.testBit i = true ∨ ∃ e ∈ l, Region.binds .any e = true ∧ (i = e.on ∨ (acc.getD e.on 0).testBit i = true)
  | [], s, h => .inl h
  | e :: l, s, h => by
    unfold waitRow at h
    rcases waitRow_spec h with h | ⟨e', h1, h2, h3⟩
    · split at h
      · rename_i hb
        simp only [Nat.testBit_or, Bool.or_eq_true, Nat.testBit_two_pow, decide_eq_true_eq] at h
        rcases h with (h | h) | h
        · exact .inl h
        · exact .inr ⟨e, by simp, hb, .inl h.symm⟩
        · exact .inr ⟨e, by simp, hb, .inr h⟩
      · exact .inl h
    · exact .inr ⟨e', by simp [h1], h2, h3⟩

theorem waitsFrom_spec {ops : Array Oper} : ∀ {l : List Oper} {acc : List Nat}, (∀ j, l[j]? = ops[acc.length + j]?) → (∀ j i, (acc.getD j 0).testBit i = true → Bef ops i j) → ∀ j i, ((waitsFrom l acc).getD j 0).testBit i = true → Bef ops i j
  | [], acc, _, h => h
  | o :: l, acc, hl, h => by
    unfold waitsFrom
    have h0 : ops[acc.length]? = some o := by simpa using (hl 0).symm
    refine waitsFrom_spec (fun j => by have := hl (j + 1); simpa [Nat.add_assoc, Nat.add_comm 1 j] using this) fun j i hb => ?_
    rcases Nat.lt_trichotomy j acc.length with hj | hj | hj
    · rw [List.getD_eq_getElem?_getD, List.getElem?_append_left hj, ← List.getD_eq_getElem?_getD] at hb
      exact h j i hb
    · subst hj
      rw [List.getD_eq_getElem?_getD, List.getElem?_append_right (Nat.le_refl _)] at hb
      simp only [Nat.sub_self, List.getElem?_cons_zero, Option.getD_some] at hb
      rcases waitRow_spec hb with hb | ⟨e, h1, h2, h3⟩
      · simp at hb
      · rcases h3 with rfl | h3
        · exact .edge h0 (by simpa using h1) h2
        · exact .more h0 (by simpa using h1) h2 (h _ _ h3)
    · rw [List.getD_eq_getElem?_getD, List.getElem?_append_right (by omega)] at hb
      rw [List.getElem?_eq_none (by simp; omega)] at hb
      simp at hb

theorem waits_spec {ops : Array Oper} {i j : Nat} (h : ((waits ops).getD j 0).testBit i = true) : Bef ops i j :=
  waitsFrom_spec (ops := ops) (l := ops.toList) (acc := []) (fun j => by simp) (fun j i h => by simp at h) j i h

/-- What is done holds all that it waited for. -/
def Shut (ops : Array Oper) (D : Nat → Bool) : Prop := ∀ j o, D j = true → ops[j]? = some o → ∀ e ∈ o.after, Region.binds .any e = true → D e.on = true

theorem Shut.bef {ops : Array Oper} {D : Nat → Bool} (h : Shut ops D) {i j : Nat} (hb : Bef ops i j) : D j = true → D i = true := by
  induction hb with
  | edge ho he hb => exact fun hj => h _ _ hj ho _ he hb
  | more ho he hb _ ih => exact fun hj => ih (h _ _ hj ho _ he hb)

section
variable {P : Program} {prot : Nat → Prop} {B : World} {n : Nat} {H0 : Heap} {ι0 : Inj} {Q : Exit → Env → Heap → Prop}

theorem wantE_none {e : Env} {i : AInstr} (h : wantE e i.guard = some true) : i.guard = none ∨ ∃ t want, i.guard = some (t, want) ∧ e.get t = some (.bool want) := by
  unfold wantE at h
  cases hg : i.guard with
  | none => exact .inl rfl
  | some g =>
    obtain ⟨t, want⟩ := g
    rw [hg] at h
    simp only at h
    split at h
    · rename_i b hb
      have : b = want := by simpa using h
      exact .inr ⟨t, want, rfl, this ▸ hb⟩
    · cases h
    · cases h
theorem wantE_some {e : Env} {i : AInstr} (h : wantE e i.guard = some false) : ∃ t want, i.guard = some (t, want) ∧ (e.get t = some (.bool (!want)) ∨ ∃ vs, e.get t = some (.tuple vs)) := by
  unfold wantE at h
  cases hg : i.guard with
  | none => rw [hg] at h; cases h
  | some g =>
    obtain ⟨t, want⟩ := g
    rw [hg] at h
    simp only at h
    split at h
    · rename_i b hb
      have : b = !want := by cases b <;> cases want <;> simp at h ⊢
      exact ⟨t, want, rfl, .inl (this ▸ hb)⟩
    · rename_i vs hb; exact ⟨t, want, rfl, .inr ⟨vs, hb⟩⟩
    · cases h

theorem wantE_congr {e e' : Env} {i : AInstr} (h : ∀ t ∈ instrUse i, e.get t = e'.get t) : wantE e i.guard = wantE e' i.guard := by
  unfold wantE
  cases hg : i.guard with
  | none => rfl
  | some g =>
    obtain ⟨t, want⟩ := g
    simp only
    rw [h t (by simp [instrUse, hg])]

/-- What drawOk says of two operations. -/
theorem drawOk_pair {ops : Array Oper} {l : List AInstr} {bef : List Nat} (h : drawOk ops l bef = true) {i j : Nat} {x y : AInstr} (hx : l[i]? = some x) (hy : l[j]? = some y) (hij : i < j) :
    (bef.getD j 0).testBit i = true ∨ ((loudOp x.op = true → loudOp y.op = true → False) ∧ (∀ t, x.dst = some t → t ∉ instrUse y ∧ y.dst ≠ some t) ∧ (∀ t, y.dst = some t → t ∉ instrUse x)) := by
  simp only [drawOk, Bool.and_eq_true, List.all_eq_true] at h
  have h1 := h.2 (x, i) (by rw [List.mem_zipIdx_iff_getElem?]; simpa using hx) (y, j) (by rw [List.mem_zipIdx_iff_getElem?]; simpa using hy)
  simp only [hij, decide_true, Bool.not_true, Bool.false_or, Bool.or_eq_true, Bool.and_eq_true] at h1
  rcases h1 with h1 | h1
  · exact .inl h1
  · refine .inr ⟨fun a b => by simp [a, b] at h1, fun t ht => ?_, fun t ht => ?_⟩
    · have := h1.1.2
      rw [ht] at this
      simpa using this
    · have := h1.2
      rw [ht] at this
      simpa using this

theorem drawOk_down {ops : Array Oper} {l : List AInstr} {bef : List Nat} (h : drawOk ops l bef = true) {j : Nat} {o : Oper} (ho : ops[j]? = some o) {e : Edge} (he : e ∈ o.after) (hb : Region.binds .any e = true) : e.on < j := by
  simp only [drawOk, Bool.and_eq_true, List.all_eq_true] at h
  have h1 := h.1.1 (o, j) (by rw [List.mem_zipIdx_iff_getElem?]; simpa using ho) e (by simpa using he)
  simpa [hb] using h1

theorem spanOf_get {l : List AInstr} {bef : List Nat} {k : Nat} {x : AInstr} (hx : l[k]? = some x) : (l.zip (spanOf l bef))[k]? = some (x, spanAt l bef k) := by
  have hk : k < l.length := (List.getElem?_eq_some_iff.1 hx).1
  simp [spanOf, hk, (List.getElem?_eq_some_iff.1 hx).2]

theorem envD_vals {l : List AInstr} {vs vs' : Nat → Value} {e : Env} {D : Nat → Bool} : ∀ {m : Nat}, (∀ i, i < m → D i = true → vs i = vs' i) → envD l vs e D m = envD l vs' e D m
  | 0, _ => rfl
  | m + 1, h => by
    unfold envD
    rw [envD_vals (fun i hi hd => h i (by omega) hd)]
    by_cases hd : D m = true
    · rw [h m (by omega) hd]
    · simp [hd]
theorem spanAt_cut {l : List AInstr} {bef : List Nat} {k : Nat} (h : (spanAt l bef k).2.1 = 0) (hL : (spanAt l bef k).2.2 = true) {j : Nat} (hkj : k < j) (hj : j < l.length) : (bef.getD j 0).testBit k = true := by
  have hl : loudAt l k = true := hL
  by_cases hc : cutAt l bef k = true
  · simp only [cutAt, Bool.and_eq_true, List.all_eq_true, List.mem_range] at hc
    simpa [hkj] using hc.2 j hj
  · have hc : cutAt l bef k = false := by simpa using hc
    simp [spanAt, hc, hl] at h
theorem spanAt_quiet {l : List AInstr} {bef : List Nat} {k : Nat} (h : loudAt l k = false) : (spanAt l bef k).2.1 = cnt (fun j => loudAt l j && !(bef.getD j 0).testBit k) l.length := by
  have : cutAt l bef k = false := by simp [cutAt, h]
  simp [spanAt, this, h]
theorem draw_any (hn : n ≤ 1000000000) {ops : Array Oper} {env : Env} {H : Heap} {ι : Inj} {a : Act} {wd : World}
    (hok : drawOk ops (ops.toList.map (compInstr P n ops)) (waits ops) = true) (hBd : Bears prot B H0 ι0 n env H ι a wd)
    (h : drawK (ACallK P) ((ops.toList.map (compInstr P n ops)).zip (spanOf (ops.toList.map (compInstr P n ops)) (waits ops))) H [] [] env fun env H => Q .normal env H) :
    wpAny P .any ops (Post prot B H0 ι0 n Q) ops.size (Array.replicate ops.size false) a wd := by
  generalize hl : ops.toList.map (compInstr P n ops) = l at hok h
  have hlen : l.length = ops.size := by rw [← hl]; simp
  have lget : ∀ {k : Nat} {o : Oper}, ops[k]? = some o → l[k]? = some (compInstr P n ops o) := fun {k o} ho => by
    rw [← hl, List.getElem?_map, Array.getElem?_toList, ho]; rfl
  have hfl : (l.zip (spanOf l (waits ops))).length = l.length := by simp [spanOf]
  have hst : ∀ m, m ≤ l.length → cnt (lstep (l.zip (spanOf l (waits ops)))) m = cnt (loudAt l) m := fun m hm => cnt_congr fun i hi => by
    unfold lstep
    rw [spanOf_get (List.getElem?_eq_getElem (by omega))]; rfl
  -- the environments, as far as they are known
  have hesG : ∀ {m vs hs es dn}, PI (ACallK P) (l.zip (spanOf l (waits ops))) (fun env H => Q .normal env H) env H m vs hs es dn → ∀ k, k ≤ m → es k = envD l vs env (fun _ => true) k := fun {m vs hs es dn} hPI k => by
    have hle := hPI.le
    induction k with
    | zero => intro _; exact hPI.e0
    | succ k ih =>
      intro hk
      obtain ⟨x, b1, b2, -⟩ := hPI.step k (by omega)
      have hx : l[k]? = some x.1 := by
        have := spanOf_get (bef := waits ops) (List.getElem?_eq_getElem (show k < l.length by omega))
        rw [this] at b1
        cases b1
        exact List.getElem?_eq_getElem (by omega)
      rw [b2, ih (by omega), envD]
      simp [dstOf, hx]
  -- one state of a run
  have key : ∀ (fuel : Nat) (listed : Array Bool) (a : Act) (w : World) (ι : Inj) (m : Nat) (vs : Nat → Value) (hs : Nat → Heap) (es : Nat → Env) (dn : List Nat),
      PI (ACallK P) (l.zip (spanOf l (waits ops))) (fun env H => Q .normal env H) env H m vs hs es dn → (m = (l.zip (spanOf l (waits ops))).length ∨ stopAt (l.zip (spanOf l (waits ops))) es m) → (∀ i, listed.getD i false = true → i < m) → (∀ k ∈ dn, listed.getD k false = true) →
      listed.size = ops.size → cnt (fun i => listed.getD i false) ops.size + fuel = ops.size → Shut ops (fun i => listed.getD i false) →
      Bears prot B H0 ι0 n (envD l vs env (fun i => listed.getD i false) l.length) (hs (cnt (fun i => loudAt l i && listed.getD i false) l.length)) ι a w → wpAny P .any ops (Post prot B H0 ι0 n Q) fuel listed a w := by
    have fin : ∀ (listed : Array Bool) (a : Act) (w : World) (ι : Inj) (m : Nat) (vs : Nat → Value) (hs : Nat → Heap) (es : Nat → Env) (dn : List Nat),
        PI (ACallK P) (l.zip (spanOf l (waits ops))) (fun env H => Q .normal env H) env H m vs hs es dn → (∀ i, listed.getD i false = true → i < m) → listed.size = ops.size → Region.ready .any ops listed = [] → 
        Bears prot B H0 ι0 n (envD l vs env (fun i => listed.getD i false) l.length) (hs (cnt (fun i => loudAt l i && listed.getD i false) l.length)) ι a w → Post prot B H0 ι0 n Q .normal a w := by
      intro listed a w ι m vs hs es dn hPI hDm hsz hr hB
      have all : ∀ i, i < ops.size → listed.getD i false = true := by
        intro i
        induction i using Nat.strongRecOn with
        | _ i ih =>
          intro hi
          refine Classical.byContradiction fun hf => ?_
          have hf : listed.getD i false = false := by simpa using hf
          have : i ∈ Region.ready .any ops listed := by
            rw [mem_ready]
            refine ⟨?_, ops[i], by simp [hi], fun e he hb => ?_⟩
            · simp [hsz, hi] at hf ⊢; exact hf
            · have := drawOk_down hok (j := i) (o := ops[i]) (by simp [hi]) he hb
              exact ih _ this (by omega)
          rw [hr] at this
          cases this
      have hm : m = l.length := by
        have h1 := hPI.le
        rw [hfl] at h1
        rcases Nat.lt_or_ge m l.length with h2 | h2
        · have := hDm m (all m (by omega)); omega
        · omega
      have a5 := hPI.done (by rw [hfl]; exact hm)
      rw [hst _ (by omega), hm] at a5
      have c1 : cnt (fun i => loudAt l i && listed.getD i false) l.length = cnt (loudAt l) l.length := cnt_congr fun i hi => by simp only [all i (by omega), Bool.and_true]
      have c2 : ∀ t, (envD l vs env (fun i => listed.getD i false) l.length).get t = (es l.length).get t := fun t => by
        rw [hesG hPI _ (by omega)]
        exact envD_congr fun i hi _ => all i (by omega)
      rw [c1] at hB
      exact Bears.post (env := es l.length) (H := hs (cnt (loudAt l) l.length)) ⟨hB.ext, hB.sim, fun t v hv => hB.env t v (by rw [c2]; exact hv), hB.size, hB.defers⟩ a5
    intro fuel
    induction fuel with
    | zero =>
      intro listed a w ι m vs hs es dn hPI hstop hDm hdnD hsz hc hsh hB
      have : Region.ready .any ops listed = [] := by
        rw [List.eq_nil_iff_forall_not_mem]
        intro i hi
        obtain ⟨hi1, o, ho, _⟩ := mem_ready.1 hi
        have hlt : i < ops.size := (Array.getElem?_eq_some_iff.1 ho).1
        have full : cnt (fun _ => true) ops.size = ops.size := by
          have : ∀ m, cnt (fun _ => true) m = m := fun m => by induction m with
            | zero => rfl
            | succ m ih => simp [cnt, ih]
          exact this _
        have hadd : cnt (fun j => listed.getD j false || decide (j = i)) ops.size = cnt (fun j => listed.getD j false) ops.size + 1 := by
          rw [cnt_add (p := fun j => listed.getD j false) (k := i) (by simp [hsz, hlt] at hi1 ⊢; exact hi1) (fun j hj => by simp [hj]) (m := ops.size) hlt]
          simp
        have hle : cnt (fun j => listed.getD j false || decide (j = i)) ops.size ≤ cnt (fun _ => true) ops.size := cnt_mono fun _ _ _ => rfl
        omega
      exact ⟨this, fin listed a w ι m vs hs es dn hPI hDm hsz this hB⟩
    | succ fuel ih =>
      intro listed a w ι m vs hs es dn hPI hstop hDm hdnD hsz hc hsh hB
      refine ⟨fun hr => fin listed a w ι m vs hs es dn hPI hDm hsz hr hB, fun k hk => ?_⟩
      have hml := hPI.le
      rw [hfl] at hml
      obtain ⟨hk1, o, ho, hk2⟩ := mem_ready.1 hk
      have hlt : k < ops.size := (Array.getElem?_eq_some_iff.1 ho).1
      have hkf : listed.getD k false = false := by simp [hsz, hlt] at hk1 ⊢; exact hk1
      generalize hD : (fun i => listed.getD i false) = D at *
      have hkD : D k = false := by rw [← hD]; exact hkf
      have hDl : (fun i => loudAt l i && listed.getD i false) = fun i => loudAt l i && D i := by rw [← hD]
      rw [hDl] at hB
      have hLD : ∀ i, listed.getD i false = D i := fun i => by rw [← hD]
      have hDm : ∀ i, D i = true → i < m := fun i hi => hDm i (by rw [hLD]; exact hi)
      have hdnD : ∀ k ∈ dn, D k = true := fun k hk => by rw [← hLD]; exact hdnD k hk
      have hx := lget ho
      have befk : ∀ i, ((waits ops).getD k 0).testBit i = true → D i = true := fun i hi => by
        have hb := waits_spec hi
        have d : ∀ e ∈ o.after, Region.binds .any e = true → D e.on = true := fun e he hb => by rw [← hD]; exact hk2 e he hb
        cases hb with
        | edge ho' he hb => rw [ho] at ho'; cases ho'; exact d _ he hb
        | more ho' he hb hm => rw [ho] at ho'; cases ho'; exact hsh.bef hm (d _ he hb)
      have notbef : ∀ j, D j = true → ((waits ops).getD j 0).testBit k = false := fun j hj => by
        cases hb : ((waits ops).getD j 0).testBit k with
        | false => rfl
        | true => rw [hsh.bef (waits_spec hb) hj] at hkD; cases hkD
      -- it is one of the known ones, or the one whose outcome is open
      have hkm : k ≤ m ∧ (k = m → stopAt (l.zip (spanOf l (waits ops))) es m) := by
        rcases Nat.lt_or_ge k m with h | h
        · exact ⟨by omega, fun e => by omega⟩
        · rcases hstop with e | e
          · rw [hfl] at e; omega
          · refine ⟨?_, fun _ => e⟩
            rcases Nat.lt_or_ge m k with h2 | h2
            · obtain ⟨i, lo, e1, e2⟩ := e
              rw [spanOf_get (List.getElem?_eq_getElem (show m < l.length by omega))] at e1
              have e3 : (spanAt l (waits ops) m).2.1 = 0 ∧ (spanAt l (waits ops) m).2.2 = true := by
                have := Option.some.inj e1
                rw [Prod.mk.injEq] at this
                rw [this.2]; exact ⟨rfl, rfl⟩
              have hb := spanAt_cut e3.1 e3.2 (j := k) h2 (by omega)
              have := hDm m (befk m hb)
              omega
            · exact h2
      have getl : ∀ {i : Nat} {t : Nat}, dstOf l i = some t → ∃ y, l[i]? = some y ∧ y.dst = some t := fun {i t} hd => by
        unfold dstOf at hd
        cases hy : l[i]? with
        | none => simp [hy] at hd
        | some y => rw [hy] at hd; exact ⟨y, rfl, hd⟩
      -- its slots hold what they hold in the text's order
      have agree : ∀ t ∈ instrUse (compInstr P n ops o), (envD l vs env D l.length).get t = (es k).get t := fun t ht => by
        rw [hesG hPI k hkm.1, envD_stop (m := k) (by omega) (fun i h1 h2 h3 h4 => ?_), envD_congr (D' := fun _ => true) fun i hi hd => ?_]
        · obtain ⟨y, hy, hyd⟩ := getl hd
          rcases drawOk_pair hok hy hx hi with hb | ⟨_, hb, _⟩
          · exact befk i hb
          · exact absurd ht (hb t hyd).1
        · obtain ⟨y, hy, hyd⟩ := getl h4
          rcases Nat.lt_or_ge k i with hki | hki
          · rcases drawOk_pair hok hx hy hki with hb | ⟨_, _, hb⟩
            · rw [notbef i h3] at hb; cases hb
            · exact hb t hyd ht
          · have : i = k := by omega
            subst this; rw [hkD] at h3; cases h3
      -- what stands behind it
      generalize hs1 : cnt (fun i => loudAt l i && D i) l.length = s1 at hB
      have hlo : (spanAt l (waits ops) k).1 ≤ s1 := by
        rw [← hs1]
        exact cnt_mono fun i hi hp => by
          simp only [Bool.and_eq_true] at hp ⊢
          exact ⟨hp.1, befk i hp.2⟩
      have hhi : loudOp (compInstr P n ops o).op = false → s1 ≤ (spanAt l (waits ops) k).2.1 := fun hq => by
        rw [spanAt_quiet (by simp [loudAt, hx, hq]), ← hs1]
        exact cnt_mono fun i hi hp => by
          simp only [Bool.and_eq_true] at hp ⊢
          exact ⟨hp.1, by rw [notbef i hp.2]; rfl⟩
      have hall : s1 ≤ cnt (loudAt l) m := by
        rw [← hs1, ← cnt_below (p := loudAt l) (k := m) (m := l.length) hml]
        exact cnt_mono fun i hi hp => by simp only [Bool.and_eq_true, decide_eq_true_eq] at hp ⊢; exact ⟨hp.1, hDm i hp.2⟩
      have hlk : (spanAt l (waits ops) k).2.2 = loudOp (compInstr P n ops o).op := by simp [spanAt, loudAt, hx]
      have hat : loudOp (compInstr P n ops o).op = true → s1 = cnt (loudAt l) k := fun hL => by
        rw [← hs1, ← cnt_below (p := loudAt l) (k := k) (m := l.length) (by omega)]
        refine cnt_congr fun i hi => ?_
        cases hli : loudAt l i with
        | false => rfl
        | true =>
          have hil : l[i]? = some l[i] := List.getElem?_eq_getElem hi
          have hlo : loudOp l[i].op = true := by simpa [loudAt, hil] using hli
          rcases Nat.lt_trichotomy i k with hik | hik | hik
          · have : D i = true := by
              rcases drawOk_pair hok hil hx hik with hb | ⟨hb, _⟩
              · exact befk i hb
              · exact (hb hlo hL).elim
            simp [this, hik]
          · subst hik; simp [hkD]
          · have : D i = false := by
              cases hd : D i with
              | false => rfl
              | true =>
                rcases drawOk_pair hok hx hil hik with hb | ⟨hb, _⟩
                · rw [notbef i hd] at hb; cases hb
                · exact (hb hL hlo).elim
            simp [this]; omega
      have next : ∀ {a' : Act} {w' : World} {ι' : Inj} {s2 m' : Nat} {vs' : Nat → Value} {hs' : Nat → Heap} {es' : Nat → Env} {dn' : List Nat} {h2 : Heap}, PI (ACallK P) (l.zip (spanOf l (waits ops))) (fun env H => Q .normal env H) env H m' vs' hs' es' dn' → (m' = (l.zip (spanOf l (waits ops))).length ∨ stopAt (l.zip (spanOf l (waits ops))) es' m') → m ≤ m' → k < m' →
          (∀ i, i < m → i ≠ k → vs' i = vs i) → (∀ j ∈ dn', j ∈ dn ∨ j = k) → hs' s2 = h2 → s2 = s1 + (if loudOp (compInstr P n ops o).op then 1 else 0) → Bears prot B H0 ι0 n (putE (compInstr P n ops o).dst (vs' k) (envD l vs env D l.length)) h2 ι' a' w' → wpAny P .any ops (Post prot B H0 ι0 n Q) fuel (listed.setIfInBounds k true) a' w' := by
        intro a' w' ι' s2 m' vs' hs' es' dn' h2 hPI' hstop' hmm hkm' hvs hdn' hh2 hs2 hB'
        have hev : envD l vs env D l.length = envD l vs' env D l.length := envD_vals fun i hi hDi => (hvs i (hDm i hDi) (fun e => by rw [e, hkD] at hDi; cases hDi)).symm
        rw [hev] at hB'
        subst hh2
        have hD' : ∀ i, (listed.setIfInBounds k true).getD i false = (D i || decide (i = k)) := fun i => by
          by_cases hik : i = k
          · subst hik; simp [hsz, hlt]
          · rw [getD_set_ne false (Ne.symm hik), ← hD]; simp [hik]
        have hDf : (fun i => (listed.setIfInBounds k true).getD i false) = fun i => D i || decide (i = k) := funext hD'
        have hcl : cnt (fun i => loudAt l i && (D i || decide (i = k))) l.length = s2 := by
          rw [hs2, ← hs1, cnt_add (p := fun i => loudAt l i && D i) (k := k) (by simp [hkD]) (fun i hi => by simp [hi]) (by omega)]
          simp [hkD, loudAt, hx]
        refine ih _ a' w' ι' m' vs' hs' es' dn' hPI' hstop' (fun i hi => ?_) (fun j hj => ?_) (by simp [hsz]) ?_ ?_ ?_
        · rw [hD'] at hi
          rcases Bool.or_eq_true_iff.1 hi with hi | hi
          · have := hDm i hi; omega
          · have : i = k := by simpa using hi
            omega
        · rw [hD']
          rcases hdn' j hj with hj | hj
          · rw [hdnD j hj]; rfl
          · simp [hj]
        · rw [hDf, cnt_add (p := D) (k := k) hkD (fun i hi => by simp [hi]) hlt]
          simp
          omega
        · rw [hDf]
          intro j o' hj ho' e he hb
          by_cases hjk : j = k
          · subst hjk; rw [ho] at ho'; cases ho'
            have : D e.on = true := by rw [← hD]; exact hk2 e he hb
            simp [this]
          · have : D j = true := by simpa [hjk] using hj
            have := hsh j o' this ho' e he hb
            simp [this]
        · rw [hDf]
          have hcl' : cnt (fun i => loudAt l i && (listed.setIfInBounds k true).getD i false) l.length = s2 := by
            rw [← hcl]; exact cnt_congr fun i _ => by rw [hD']
          rw [hcl']
          refine ⟨hB'.ext, hB'.sim, fun t v hv => hB'.env t v ?_, hB'.size, hB'.defers⟩
          rw [get_putE]
          have hdk : dstOf l k = (compInstr P n ops o).dst := by simp [dstOf, hx]
          rw [← hdk]
          split
          · rename_i hd
            rw [envD_stop (m := k + 1) (by omega) (fun i h1 h2 h3 h4 => ?_)] at hv
            · unfold envD at hv
              rw [if_pos (by simp), get_putE, if_pos hd] at hv
              exact hv
            · obtain ⟨y, hy, hyd⟩ := getl h4
              have h3 : D i = true := by
                have : i ≠ k := by omega
                simpa [this] using h3
              rcases drawOk_pair hok hx hy (show k < i by omega) with hb | ⟨_, hb, _⟩
              · rw [notbef i h3] at hb; cases hb
              · exact (hb t (by rw [← hdk]; exact hd)).2 hyd
          · rename_i hd
            rw [← hv]
            exact (envD_congr fun i hi hdi => by
              have : i ≠ k := fun e => hd (e ▸ hdi)
              simp [this]).symm
      have good : (compInstr P n ops o) = ⟨none, none, .bad⟩ ∨ ((∀ d, o.dst = some d → d < n) ∧ (compInstr P n ops o) = ⟨o.dst, o.guard.map fun g => (((ops[g.1]?).bind (·.dst)).getD 1000000000, g.2), compOp P o⟩) := by
        cases hd : o.dst with
        | none => exact .inr ⟨fun d h => (by cases h), by simp [compInstr, hd]⟩
        | some d =>
          by_cases hdn : d < n
          · exact .inr ⟨fun d' e => by cases e; exact hdn, by simp [compInstr, hd, hdn]⟩
          · exact .inl (by simp [compInstr, hd, hdn])
      have nextS : ∀ {a' : Act} {w' : World} {ι' : Inj} {s2 : Nat}, k < m → s2 = s1 + (if loudOp (compInstr P n ops o).op then 1 else 0) → Bears prot B H0 ι0 n (putE (compInstr P n ops o).dst (vs k) (envD l vs env D l.length)) (hs s2) ι' a' w' → wpAny P .any ops (Post prot B H0 ι0 n Q) fuel (listed.setIfInBounds k true) a' w' :=
        fun hk hs2 hB' => next hPI hstop (Nat.le_refl _) hk (fun _ _ _ => rfl) (fun _ hj => .inl hj) rfl hs2 hB'
      rcases Nat.lt_or_ge k m with hkl | hkl
      · obtain ⟨x, b1, b2, b3⟩ := hPI.step k hkl
        rw [spanOf_get hx] at b1
        cases b1
        have b3 := b3.resolve_left fun hd => by rw [hdnD k hd] at hkD; cases hkD
        rw [hst _ hml, hst _ (by omega)] at b3
        rcases good with hbad | ⟨hdn, hgood⟩
        · rw [hbad] at b3
          exfalso
          rcases b3 with ⟨h, _⟩ | ⟨_, ⟨_, h⟩ | ⟨h, _⟩⟩
          · cases h
          · exact h
          · rw [hlk, hbad] at h; cases h
        · have hwd := wanted_of (ops := ops) (o := o) (i := compInstr P n ops o) hB (by rw [hgood]) hn
          have hdst : (compInstr P n ops o).dst = o.dst := by rw [hgood]
          have hop : (compInstr P n ops o).op = compOp P o := by rw [hgood]
          unfold wpOp
          simp only [ho]
          rcases b3 with ⟨hw, hv, hh⟩ | ⟨hw, hh⟩
          · have hw' := hw
            rw [wantE_congr (e' := envD l vs env D l.length) (fun t ht => (agree t ht).symm)] at hw
            rw [if_neg (by rw [hwd.2 (wantE_some hw)]; simp)]
            refine nextS (ι' := ι) hkl rfl ?_
            have hsame : hs (s1 + (if loudOp (compInstr P n ops o).op = true then 1 else 0)) = hs s1 := by
              split
              · rename_i hL
                have := hh (by rw [hlk]; exact hL)
                rw [← hat hL] at this
                exact this
              · rfl
            rw [hsame, hv, hdst]
            exact hB.put hB.sim (.refl _ _) hdn .undef'
          · rw [wantE_congr (e' := envD l vs env D l.length) (fun t ht => (agree t ht).symm)] at hw
            rw [if_pos (hwd.1 (wantE_none hw))]
            have huse : ∀ t ∈ opUse (compInstr P n ops o).op, (es k).get t = (envD l vs env D l.length).get t := fun t ht => (agree t (by simp [instrUse, ht])).symm
            refine .inl ?_
            rcases hh with ⟨hL, hh⟩ | ⟨hL, hh⟩
            · rw [hlk] at hL
              rw [← hat hL] at hh
              unfold stepD at hh
              rw [instrK_congr huse, hop] at hh
              refine oper_sound hB hh fun v v' H' ι' w' h1 h2 h3 h4 => ?_
              obtain ⟨rfl, rfl⟩ := h4
              refine nextS (s2 := s1 + 1) (ι' := ι') hkl (by simp [hL]) ?_
              rw [hdst]
              exact hB.put h1 h2 hdn h3
            · rw [hlk] at hL
              have hh := hh s1 hlo (hhi hL) hall
              unfold stepD at hh
              rw [instrK_congr huse, hop] at hh
              refine oper_sound hB hh fun v v' H' ι' w' h1 h2 h3 h4 => ?_
              obtain ⟨rfl, rfl⟩ := h4
              refine nextS (s2 := s1) (ι' := ι') hkl (by simp [hL]) ?_
              rw [hdst]
              exact hB.put h1 h2 hdn h3
      · -- its outcome is open
        obtain rfl : k = m := by omega
        obtain ⟨i0, lo0, e1, hw⟩ := hkm.2 rfl
        have e1' := e1
        rw [spanOf_get hx] at e1'
        have e2 : compInstr P n ops o = i0 := congrArg Prod.fst (Option.some.inj e1')
        have e3 : (spanAt l (waits ops) k).2.2 = true := congrArg (fun x : AInstr × Nat × Nat × Bool => x.2.2.2) (Option.some.inj e1')
        subst e2
        obtain ⟨C, hC, hC2⟩ := hPI.open e1 hw
        have hL : loudOp (compInstr P n ops o).op = true := hlk ▸ e3
        rw [hst _ (by omega), ← hat hL] at hC
        rcases good with hbad | ⟨hdn, hgood⟩
        · rw [hbad] at hC; exact hC.elim
        · have hwd := wanted_of (ops := ops) (o := o) (i := compInstr P n ops o) hB (by rw [hgood]) hn
          have hdst : (compInstr P n ops o).dst = o.dst := by rw [hgood]
          have hop : (compInstr P n ops o).op = compOp P o := by rw [hgood]
          unfold wpOp
          simp only [ho]
          rw [wantE_congr (e' := envD l vs env D l.length) (fun t ht => (agree t ht).symm)] at hw
          rw [if_pos (hwd.1 (wantE_none hw))]
          have huse : ∀ t ∈ opUse (compInstr P n ops o).op, (es k).get t = (envD l vs env D l.length).get t := fun t ht => (agree t (by simp [instrUse, ht])).symm
          refine .inl ?_
          rw [instrK_congr huse, hop] at hC
          refine oper_sound hB hC fun v v' H' ι' w' h1 h2 h3 h4 => ?_
          obtain ⟨m', vs', hs', es', hP', hmm, hstop', hv', hh'⟩ := PI.run _ _ _ _ _ (Nat.le_add_left _ (k + 1)) (hC2 v H' h4)
          refine next (s2 := s1 + 1) (ι' := ι') (h2 := H') hP' hstop' (by omega) (by omega) (fun i hi _ => by rw [hv' i (by omega), upd_ne _ _ (by omega)]) (fun j hj => by
            rcases List.mem_cons.1 hj with rfl | hj
            · exact .inr rfl
            · exact .inl hj) ?_ (by simp [hL]) ?_
          · have hlk2 : lstep (l.zip (spanOf l (waits ops))) k = true := by simp [lstep, e1]
            have hc1 : cnt (lstep (l.zip (spanOf l (waits ops)))) (k + 1) = cnt (lstep (l.zip (spanOf l (waits ops)))) k + 1 := by simp only [cnt, hlk2, if_true]
            rw [hh' _ (by rw [hc1, hst _ (by omega), hat hL]; exact Nat.le_refl _), hst _ (by omega), ← hat hL, upd_at]
          · rw [hdst, hv' k (by omega), upd_at]
            exact hB.put h1 h2 hdn h3
  have hfalse : ∀ i, (Array.replicate ops.size false).getD i false = false := fun i => by
    by_cases hi : i < ops.size <;> simp [hi]
  obtain ⟨m', vs, hs, es, hP', -, hstop', -, hh'⟩ := PI.run _ _ _ _ _ (Nat.le_add_left _ 0) (PI.start h)
  have h0 : hs 0 = H := hP'.h0
  refine key ops.size (Array.replicate ops.size false) a wd ι m' vs hs es [] hP' hstop' (fun i hi => by rw [hfalse] at hi; cases hi) (fun k hk => by cases hk) (by simp) ?_ ?_ ?_
  · rw [cnt_congr (q := fun _ => false) (fun i hi => by simp [hi])]
    have : ∀ m, cnt (fun _ => false) m = 0 := fun m => by induction m with
      | zero => rfl
      | succ m ih => simp [cnt, ih]
    rw [this]; omega
  · intro j o hj
    simp at hj
    by_cases h : j < ops.size <;> simp [h] at hj
  · have hz : cnt (fun i => loudAt l i && (Array.replicate ops.size false).getD i false) l.length = 0 := by
      rw [cnt_congr (q := fun _ => false) (fun i hi => by
        have : i < ops.size := by omega
        simp [this])]
      have : ∀ m, cnt (fun _ => false) m = 0 := fun m => by induction m with
        | zero => rfl
        | succ m ih => simp [cnt, ih]
      exact this _
    rw [hz, h0]
    refine ⟨hBd.ext, hBd.sim, fun t v hv => hBd.env t v ?_, hBd.size, hBd.defers⟩
    rw [← hv]
    exact (envD_stop (m := 0) (by omega) (fun i h1 h2 h3 _ => by
      have : i < ops.size := by omega
      simp [this] at h3)).symm

theorem draw_sound (hn : n ≤ 1000000000) (hm : P.follows .mixedOrders = true) {ops : Array Oper} {env : Env} {H : Heap} {ι : Inj} {a : Act} {w : World} {id : Nat}
    (hok : drawOk ops (ops.toList.map (compInstr P n ops)) (waits ops) = true) (hB : Bears prot B H0 ι0 n env H ι a w)
    (h : drawK (ACallK P) ((ops.toList.map (compInstr P n ops)).zip (spanOf (ops.toList.map (compInstr P n ops)) (waits ops))) H [] [] env fun env H => Q .normal env H) :
    (Code.region id ops true).wp P (Post prot B H0 ι0 n Q) a w :=
  wp_region_any hm (draw_any hn hok ⟨hB.ext, hB.sim.drew, hB.env, hB.size, hB.defers⟩ h)

/-! ## A region in which what turns the heap may come in several orders: each of them is walked. -/

/-- One way through a region. -/
def Runs (ops : Array Oper) : List Nat → Array Bool → Prop
  | [], listed => Region.ready .any ops listed = []
  | k :: s, listed => k ∈ Region.ready .any ops listed ∧ Runs ops s (listed.setIfInBounds k true)

theorem cnt_full {p : Nat → Bool} : ∀ {m : Nat}, m ≤ cnt p m → ∀ i, i < m → p i = true
  | 0, _, i, hi => by omega
  | m + 1, h, i, hi => by
    have h1 : ∀ m, cnt p m ≤ m := fun m => by
      induction m with
      | zero => exact Nat.le_refl _
      | succ m ih => simp only [cnt]; split <;> omega
    have := h1 m
    simp only [cnt] at h
    split at h
    · rename_i hp
      by_cases e : i = m
      · rw [e]; exact hp
      · exact cnt_full (m := m) (by omega) i (by omega)
    · omega
theorem ready_nil {ops : Array Oper} {listed : Array Bool} (h : ∀ i, i < ops.size → listed.getD i false = true) : Region.ready .any ops listed = [] := by
  rw [List.eq_nil_iff_forall_not_mem]
  intro i hi
  obtain ⟨hi1, o, ho, _⟩ := mem_ready.1 hi
  have hlt : i < ops.size := (Array.getElem?_eq_some_iff.1 ho).1
  have := h i hlt
  by_cases hs : i < listed.size
  · simp [hs] at hi1 this; rw [hi1] at this; cases this
  · simp [hs] at this
theorem getD_set_at {listed : Array Bool} {k i : Nat} (hk : k < listed.size) (d : Bool) : (listed.setIfInBounds k true).getD i d = if i = k then true else listed.getD i d := by
  by_cases e : i = k
  · subst e; simp [hk]
  · rw [if_neg e, getD_set_ne d (Ne.symm e)]
theorem ready_lt {ops : Array Oper} {listed : Array Bool} {k : Nat} (h : k ∈ Region.ready .any ops listed) : k < ops.size := by
  obtain ⟨_, o, ho, _⟩ := mem_ready.1 h
  exact (Array.getElem?_eq_some_iff.1 ho).1
theorem ready_not {ops : Array Oper} {listed : Array Bool} {k : Nat} (h : k ∈ Region.ready .any ops listed) (hs : listed.size = ops.size) : listed.getD k false = false := by
  have h1 := (mem_ready.1 h).1
  have hlt := ready_lt h
  simp [hs, hlt] at h1 ⊢
  exact h1

theorem runs_go {ops : Array Oper} : ∀ (fuel t : Nat) (listed : Array Bool), listed.size = ops.size → ops.size ≤ cnt (fun i => listed.getD i false) ops.size + fuel → Runs ops (Region.linearise.go .any ops fuel t listed []) listed := by
  intro fuel
  induction fuel with
  | zero =>
    intro t listed hs hc
    simp only [Region.linearise.go, List.reverse_nil, Runs]
    exact ready_nil (cnt_full (by omega))
  | succ fuel ih =>
    intro t listed hs hc
    simp only [Region.linearise.go]
    change Runs ops (match (Region.ready .any ops listed)[t % (Region.ready .any ops listed).length]? with
      | some i => Region.linearise.go .any ops fuel (t / (Region.ready .any ops listed).length) (listed.setIfInBounds i true) [i]
      | none => [].reverse) listed
    cases hi : (Region.ready .any ops listed)[t % (Region.ready .any ops listed).length]? with
    | none =>
      have hnil : Region.ready .any ops listed = [] := by
        cases hr : Region.ready .any ops listed with
        | nil => rfl
        | cons x xs =>
          rw [hr] at hi
          have hlt : t % (x :: xs).length < (x :: xs).length := Nat.mod_lt _ (by simp)
          simp at hi
          simp at hlt
          omega
      exact hnil
    | some i =>
      simp only []
      rw [linearise_go_acc, List.reverse_singleton, List.singleton_append]
      have hm := List.mem_of_getElem? hi
      have hlt := ready_lt hm
      refine ⟨hm, ih _ _ (by simp [hs]) ?_⟩
      rw [cnt_add (p := fun i => listed.getD i false) (k := i) (ready_not hm hs) (fun j hj => by rw [getD_set_at (by omega), if_neg hj]) hlt]
      simp only [getD_set_at (show i < listed.size by omega), if_true]
      omega

theorem runs_wp {ops : Array Oper} {R : Exit → Act → World → Prop} : ∀ (s : List Nat) (fuel : Nat) (listed : Array Bool) (a : Act) (w : World), s.length ≤ fuel → Runs ops s listed → wpAny P .any ops R fuel listed a w → wpOps P ops R s a w
  | [], 0, listed, a, w, _, hr, h => h.2
  | [], fuel + 1, listed, a, w, _, hr, h => h.1 hr
  | k :: s, 0, listed, a, w, hl, hr, h => by simp at hl
  | k :: s, fuel + 1, listed, a, w, hl, hr, h => by
    rw [wpOps_cons]
    exact wpOp_mono (fun a w h => runs_wp s fuel _ a w (by simpa using hl) hr.2 h) (h.2 k hr.1)

theorem permOk_of {n : Nat} {tau : List Nat} (h : permOk n tau = true) : tau.length = n ∧ (∀ k ∈ tau, k < n) ∧ (∀ k, k < n → k ∈ tau) ∧ ∀ j, j < n → tau.idxOf (tau.getD j 0) = j := by
  simp only [permOk, Bool.and_eq_true, beq_iff_eq, List.all_eq_true, decide_eq_true_eq, List.mem_range, List.contains_iff_mem] at h
  exact ⟨h.1.1.1, h.1.1.2, h.1.2, h.2⟩
theorem permOps_size {ops : Array Oper} {tau : List Nat} {lt : Nat → Bool} : (permOps ops tau lt).size = tau.length := by simp [permOps]
theorem permOps_get {ops : Array Oper} {tau : List Nat} {lt : Nat → Bool} (h : permOk ops.size tau = true) {k : Nat} {o : Oper} (ho : ops[k]? = some o) : (permOps ops tau lt)[tau.idxOf k]? = some (permOper tau lt k o) := by
  obtain ⟨h1, h2, h3, h4⟩ := permOk_of h
  obtain ⟨hk, rfl⟩ := Array.getElem?_eq_some_iff.1 ho
  have hm := h3 k hk
  have hi := List.idxOf_lt_length_iff.2 hm
  unfold permOps
  rw [List.getElem?_toArray, List.getElem?_map, List.getElem?_eq_getElem hi, List.getElem_idxOf]
  simp [hk]
theorem perm_dst {ops : Array Oper} {tau : List Nat} {lt : Nat → Bool} (h : permOk ops.size tau = true) (g : Nat) : ((permOps ops tau lt)[tau.idxOf g]?).bind (·.dst) = (ops[g]?).bind (·.dst) := by
  obtain ⟨h1, h2, h3, h4⟩ := permOk_of h
  by_cases hg : g < ops.size
  · have ho : ops[g]? = some ops[g] := by simp [hg]
    rw [permOps_get h ho, ho]; rfl
  · have hn : g ∉ tau := fun hm => hg (h2 g hm)
    have : tau.idxOf g = tau.length := List.idxOf_eq_length hn
    rw [this, Array.getElem?_eq_none (by rw [permOps_size]; omega), Array.getElem?_eq_none (by omega)]
theorem perm_wanted {ops : Array Oper} {tau : List Nat} {lt : Nat → Bool} (h : permOk ops.size tau = true) (k : Nat) (o : Oper) (tm : Array Value) : Region.wanted (permOper tau lt k o) (yielded (permOps ops tau lt) tm) = Region.wanted o (yielded ops tm) := by
  unfold Region.wanted permOper
  cases hg : o.guard with
  | none => simp
  | some g =>
    obtain ⟨j, want⟩ := g
    simp only [Option.map_some]
    unfold yielded
    rw [perm_dst h]
theorem perm_wp {ops : Array Oper} {R : Exit → Act → World → Prop} {tau : List Nat} {lt : Nat → Bool} (h : permOk ops.size tau = true) : ∀ (s : List Nat) (a : Act) (w : World), (∀ k ∈ s, k < ops.size) → wpOps P (permOps ops tau lt) R (s.map (tau.idxOf ·)) a w → wpOps P ops R s a w
  | [], a, w, _, hw => hw
  | k :: s, a, w, hs, hw => by
    have ho : ops[k]? = some (ops[k]'(hs k (by simp))) := by simp [hs k (by simp)]
    rw [List.map_cons, wpOps_cons] at hw
    rw [wpOps_cons]
    have hw2 := wpOp_mono (fun a w h' => perm_wp h s a w (fun k hk => hs k (by simp [hk])) h') hw
    unfold wpOp at hw2 ⊢
    simp only [permOps_get h ho, ho, perm_wanted h] at hw2 ⊢
    exact hw2
theorem takeWhile_filter {lt : Nat → Bool} {k : Nat} (hk : lt k = true) : ∀ l : List Nat, (l.takeWhile (· != k)).filter lt = (l.filter lt).takeWhile (· != k)
  | [] => rfl
  | x :: l => by
    by_cases e : x = k
    · subst e; simp [hk]
    · by_cases hx : lt x = true
      · simp [e, hx, takeWhile_filter hk l]
      · simp [e, hx, takeWhile_filter hk l]
theorem takeWhile_done {k : Nat} {rest : List Nat} : ∀ {done : List Nat}, k ∉ done → (done ++ k :: rest).takeWhile (· != k) = done
  | [], _ => by simp
  | x :: done, h => by
    have hx : x ≠ k := fun e => h (by simp [e])
    simp [hx, takeWhile_done (k := k) (rest := rest) (done := done) (fun hm => h (by simp [hm]))]
theorem all_listed {ops : Array Oper} (hd : downOk ops = true) {listed : Array Bool} (hs : listed.size = ops.size) (hr : Region.ready .any ops listed = []) : ∀ i, i < ops.size → listed.getD i false = true := by
  intro i
  induction i using Nat.strongRecOn with
  | _ i ih =>
    intro hi
    refine Classical.byContradiction fun hf => ?_
    have hf : listed.getD i false = false := by simpa using hf
    have : i ∈ Region.ready .any ops listed := by
      rw [mem_ready]
      refine ⟨?_, ops[i], by simp [hi], fun e he hb => ?_⟩
      · simp [hs, hi] at hf ⊢; exact hf
      · simp only [downOk, List.all_eq_true] at hd
        have h1 := hd (ops[i], i) (by rw [List.mem_zipIdx_iff_getElem?]; simp [hi]) e (by simpa using he)
        simp only [hb, Bool.not_true, Bool.false_or, decide_eq_true_eq] at h1
        exact ih _ h1 (by omega)
    rw [hr] at this
    cases this
theorem runs_perm {ops : Array Oper} {tau : List Nat} {lt : Nat → Bool} (hd : downOk ops = true) (h : permOk ops.size tau = true) : ∀ (s : List Nat) (listed listed' : Array Bool) (done : List Nat), listed.size = ops.size → listed'.size = ops.size →
    (∀ j, j < ops.size → listed'.getD j false = listed.getD (tau.getD j 0) false) → tau.filter lt = done ++ s.filter lt → (∀ k ∈ done, listed.getD k false = true) → (∀ k, lt k = true → listed.getD k false = true → k ∈ done) →
    Runs ops s listed → Runs (permOps ops tau lt) (s.map (tau.idxOf ·)) listed'
  | [], listed, listed', done, hs, hs', hrel, hf, hd1, hd2, hr => by
    obtain ⟨h1, h2, h3, h4⟩ := permOk_of h
    have ha := all_listed hd hs hr
    refine ready_nil fun i hi => ?_
    rw [permOps_size, h1] at hi
    rw [hrel i hi]
    refine ha _ (h2 _ ?_)
    rw [List.getD_eq_getElem?_getD, List.getElem?_eq_getElem (by omega)]
    exact List.getElem_mem _
  | k :: s, listed, listed', done, hs, hs', hrel, hf, hd1, hd2, hr => by
    obtain ⟨h1, h2, h3, h4⟩ := permOk_of h
    have hk := ready_lt hr.1
    have hkn := ready_not hr.1 hs
    obtain ⟨_, o, ho, hafter⟩ := mem_ready.1 hr.1
    have hidx : tau.idxOf k < ops.size := by rw [← h1]; exact List.idxOf_lt_length_iff.2 (h3 k hk)
    have hget : tau.getD (tau.idxOf k) 0 = k := by
      rw [List.getD_eq_getElem?_getD, List.getElem?_eq_getElem (by omega)]
      simp [List.getElem_idxOf]
    have hback : ∀ i, i < ops.size → tau.idxOf i < ops.size ∧ tau.getD (tau.idxOf i) 0 = i := fun i hi => by
      have hlt : tau.idxOf i < tau.length := List.idxOf_lt_length_iff.2 (h3 i hi)
      refine ⟨by omega, ?_⟩
      rw [List.getD_eq_getElem?_getD, List.getElem?_eq_getElem hlt]
      simp [List.getElem_idxOf]
    have hlisted : ∀ i, listed.getD i false = true → listed'.getD (tau.idxOf i) false = true := fun i hi => by
      have hlt : i < ops.size := by
        refine Classical.byContradiction fun hn => ?_
        simp [show ¬ i < listed.size by omega] at hi
      rw [hrel _ (hback i hlt).1, (hback i hlt).2]; exact hi
    have hkd : k ∉ done := fun hm => by rw [hd1 k hm] at hkn; cases hkn
    refine ⟨?_, ?_⟩
    · rw [mem_ready]
      refine ⟨?_, _, permOps_get h ho, fun e he hb => ?_⟩
      · have := hrel _ hidx
        rw [hget, hkn] at this
        simp [hs', hidx] at this ⊢
        exact this
      · unfold permOper at he
        simp only [List.mem_toArray, List.mem_append, List.mem_map, List.mem_filter] at he
        rcases he with ⟨e0, ⟨he0, hb0⟩, rfl⟩ | he
        · exact hlisted _ (hafter e0 (by simpa using he0) hb0)
        · split at he
          · rename_i hlt
            obtain ⟨i, hi, rfl⟩ := List.mem_map.1 he
            rw [takeWhile_filter hlt, hf, List.filter_cons_of_pos hlt, takeWhile_done hkd] at hi
            exact hlisted i (hd1 i hi)
          · cases he
    · show Runs _ (s.map _) (listed'.setIfInBounds (tau.idxOf k) true)
      refine runs_perm hd h s _ _ (if lt k = true then done ++ [k] else done) (by simp [hs]) (by simp [hs']) (fun j hj => ?_) ?_ (fun i hi => ?_) (fun i hi1 hi2 => ?_) hr.2
      · rw [getD_set_at (by omega), getD_set_at (by omega), hrel j hj]
        by_cases e : j = tau.idxOf k
        · rw [if_pos e, if_pos (by rw [e]; exact hget)]
        · rw [if_neg e, if_neg (fun e2 => e (by rw [← e2]; exact (h4 j hj).symm))]
      · by_cases hlt : lt k = true
        · rw [if_pos hlt, hf, List.filter_cons_of_pos hlt]; simp
        · rw [if_neg hlt, hf, List.filter_cons_of_neg hlt]
      · rw [getD_set_at (by omega)]
        by_cases e : i = k
        · rw [if_pos e]
        · rw [if_neg e]
          split at hi
          · rcases List.mem_append.1 hi with hi | hi
            · exact hd1 i hi
            · exact (e (List.mem_singleton.1 hi)).elim
          · exact hd1 i hi
      · rw [getD_set_at (by omega)] at hi2
        by_cases e : i = k
        · subst e; rw [if_pos hi1]; simp
        · rw [if_neg e] at hi2
          have := hd2 i hi1 hi2
          split
          · exact List.mem_append_left _ this
          · exact this
theorem runs_exts {ops : Array Oper} {lt : Nat → Bool} (hd : downOk ops = true) : ∀ (s : List Nat) (listed : Array Bool) (rem : List Nat) (fuel : Nat), listed.size = ops.size → Shut ops (fun i => listed.getD i false) → (∀ k, k ∈ rem ↔ lt k = true ∧ k < ops.size ∧ listed.getD k false = false) → rem.length ≤ fuel → Runs ops s listed → s.filter lt ∈ exts (waits ops) fuel rem
  | [], listed, rem, fuel, hs, hsh, hrem, hf, hr => by
    have ha := all_listed hd hs hr
    have : rem = [] := by
      rw [List.eq_nil_iff_forall_not_mem]
      intro k hk
      obtain ⟨_, h2, h3⟩ := (hrem k).1 hk
      rw [ha k h2] at h3; cases h3
    subst this
    cases fuel <;> simp [exts]
  | k :: s, listed, rem, fuel, hs, hsh, hrem, hf, hr => by
    have hk := ready_lt hr.1
    have hkn := ready_not hr.1 hs
    obtain ⟨_, o, ho, hafter⟩ := mem_ready.1 hr.1
    have hsh2 : Shut ops (fun i => (listed.setIfInBounds k true).getD i false) := fun j o' hj ho' e he hb => by
      simp only [getD_set_at (show k < listed.size by omega)] at hj ⊢
      split
      · rfl
      · split at hj
        · rename_i e; subst e; rw [ho] at ho'; cases ho'; exact hafter _ he hb
        · exact hsh j o' hj ho' _ he hb
    by_cases hlt : lt k = true
    · have hmem : k ∈ rem := (hrem k).2 ⟨hlt, hk, hkn⟩
      have hne : rem.isEmpty = false := by cases rem with
        | nil => cases hmem
        | cons _ _ => rfl
      cases fuel with
      | zero => have := List.length_pos_of_mem hmem; omega
      | succ m =>
        rw [List.filter_cons_of_pos hlt]
        unfold exts
        rw [hne]
        simp only [Bool.false_eq_true, if_false, List.mem_flatMap, List.mem_map, List.mem_filter]
        refine ⟨k, ⟨hmem, ?_⟩, s.filter lt, ?_, rfl⟩
        · rw [List.all_eq_true]
          intro j hj
          by_cases e : j = k
          · simp [e]
          · have hjn := ((hrem j).1 hj).2.2
            have : ((waits ops).getD k 0).testBit j = false := by
              cases hb : ((waits ops).getD k 0).testBit j with
              | false => rfl
              | true =>
                exfalso
                have hbf := waits_spec hb
                have : listed.getD j false = true := by
                  cases hbf with
                  | edge ho' he hbb => rw [ho] at ho'; cases ho'; exact hafter _ he hbb
                  | more ho' he hbb hm => rw [ho] at ho'; cases ho'; exact hsh.bef hm (hafter _ he hbb)
                rw [hjn] at this; cases this
            rw [this]; simp
        · refine runs_exts hd s _ _ m (by simp [hs]) hsh2 (fun j => ?_) ?_ hr.2
          · rw [List.mem_filter, hrem j, getD_set_at (by omega)]
            by_cases e : j = k
            · subst e; simp
            · simp [e]
          · have : (rem.filter (· != k)).length < rem.length := List.length_filter_lt_length_iff_exists.2 ⟨k, hmem, by simp⟩
            omega
    · rw [List.filter_cons_of_neg hlt]
      refine runs_exts hd s _ rem fuel (by simp [hs]) hsh2 (fun j => ?_) hf hr.2
      rw [hrem j, getD_set_at (by omega)]
      by_cases e : j = k
      · subst e; simp [hlt]
      · simp [e]
theorem runs_mem {ops : Array Oper} : ∀ {s : List Nat} {listed : Array Bool}, Runs ops s listed → ∀ k ∈ s, k < ops.size
  | [], _, _, k, hk => by cases hk
  | x :: s, _, h, k, hk => by
    rcases List.mem_cons.1 hk with rfl | hk
    · exact ready_lt h.1
    · exact runs_mem h.2 k hk
theorem runs_len {ops : Array Oper} : ∀ {s : List Nat} {listed : Array Bool}, listed.size = ops.size → Runs ops s listed → cnt (fun i => listed.getD i false) ops.size + s.length ≤ ops.size
  | [], listed, hs, h => by
    have h1 : ∀ (p : Nat → Bool) m, cnt p m ≤ m := fun p m => by
      induction m with
      | zero => exact Nat.le_refl _
      | succ m ih => simp only [cnt]; split <;> omega
    simpa using h1 _ _
  | k :: s, listed, hs, h => by
    have hlt := ready_lt h.1
    have := runs_len (by simp [hs]) h.2
    rw [cnt_add (p := fun i => listed.getD i false) (k := k) (ready_not h.1 hs) (fun j hj => by rw [getD_set_at (by omega), if_neg hj]) hlt] at this
    simp only [getD_set_at (show k < listed.size by omega), if_true] at this
    simp only [List.length_cons]
    omega

theorem alts_sound (hn : n ≤ 1000000000) (hm : P.follows .mixedOrders = true) {ops : Array Oper} {env : Env} {H : Heap} {ι : Inj} {a : Act} {w : World} {id : Nat}
    (hok : altsOk P n ops = true) (hB : Bears prot B H0 ι0 n env H ι a w)
    (h : ∀ x ∈ (tausOf P n ops).map (altOf P n ops (loudsOf P n ops)), drawK (ACallK P) (x.1.zip x.2) H [] [] env fun env H => Q .normal env H) :
    (Code.region id ops true).wp P (Post prot B H0 ι0 n Q) a w := by
  simp only [altsOk, Bool.and_eq_true, List.all_eq_true, List.any_eq_true, beq_iff_eq] at hok
  obtain ⟨⟨⟨_, hdn⟩, hall⟩, hcov⟩ := hok
  refine wp_region_draw fun t => ?_
  simp only [Region.schedule, hm, Bool.true_or, if_true]
  have hz : cnt (fun i => (Array.replicate ops.size false).getD i false) ops.size = 0 := by
    rw [cnt_congr (q := fun _ => false) (fun i hi => by simp [hi])]
    have : ∀ m, cnt (fun _ => false) m = 0 := fun m => by induction m with
      | zero => rfl
      | succ m ih => simp [cnt, ih]
    exact this _
  have hr : Runs ops (Region.linearise.go .any ops ops.size t (Array.replicate ops.size false) []) (Array.replicate ops.size false) := runs_go _ _ _ (by simp) (by omega)
  show wpOps P ops _ (Region.linearise.go .any ops ops.size t (Array.replicate ops.size false) []) _ _
  generalize Region.linearise.go .any ops ops.size t (Array.replicate ops.size false) [] = s at hr
  have hfalse : ∀ i, (Array.replicate ops.size false).getD i false = false := fun i => by
    by_cases hi : i < ops.size <;> simp [hi]
  have hx := runs_exts (lt := loudsOf P n ops) hdn s _ ((List.range ops.size).filter (loudsOf P n ops)) _ (by simp) (fun j o hj => by have hj2 : (Array.replicate ops.size false).getD j false = true := hj; rw [hfalse] at hj2; cases hj2) (fun k => by
    rw [List.mem_filter, List.mem_range, hfalse]; simp [and_comm]) (Nat.le_refl _) hr
  obtain ⟨tau, htau, hft⟩ := hcov _ hx
  have hao := hall tau htau
  simp only [altOk, Bool.and_eq_true] at hao
  obtain ⟨hp, hdo⟩ := hao
  obtain ⟨h1, h2, h3, h4⟩ := permOk_of hp
  have hd := h _ (List.mem_map_of_mem htau)
  have hany := draw_any (wd := { w with drawn := w.drawn + 1 }) hn hdo ⟨hB.ext, hB.sim.drew, hB.env, hB.size, hB.defers⟩ hd
  have hsz : (permOps ops tau (loudsOf P n ops)).size = ops.size := by rw [permOps_size, h1]
  rw [hsz] at hany
  have hrp := runs_perm (lt := loudsOf P n ops) hdn hp s _ (Array.replicate ops.size false) [] (by simp) (by simp) (fun j hj => by rw [hfalse, hfalse]) (by rw [hft]; rfl) (fun k hk => by cases hk) (fun k _ hk => by rw [hfalse] at hk; cases hk) hr
  have hlen := runs_len (by simp) hr
  exact perm_wp hp s _ _ (runs_mem hr) (runs_wp _ _ _ _ _ (by rw [List.length_map]; omega) hrp hany)

end
end Go.Am
