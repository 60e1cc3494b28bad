/-
  The abstract machine, part Q: what a walk is typed in: each operation a function, each step a rule for simp. For any program.
-/
import Derived.Test.YtfkhljgifndbpaaDoorAmO
namespace Go.Am

/-! ## Steps -/

/-- A branch. simp looks at the test alone. -/
def Br (t : Bool) (A B : Prop) : Prop := if t = true then A else B
theorem Br.congr {t t' : Bool} {A B : Prop} (h : t = t') : Br t A B = Br t' A B := by rw [h]
theorem Br_true (A B : Prop) : Br true A B ↔ A := by simp [Br]
theorem Br_false (A B : Prop) : Br false A B ↔ B := by simp [Br]
theorem Br.of {t : Bool} {A B : Prop} (ha : t = true → A) (hb : t = false → B) : Br t A B := by
  cases t with
  | true => exact ha rfl
  | false => exact hb rfl

abbrev CallR := FuncId → List Value → Heap → (Value → Heap → Prop) → Prop
abbrev LoopR := ACode → (Exit → Env → Heap → Prop) → Env → Heap → Prop

/-- What an operation does: a value and a heap, a call, or nothing that is known. -/
inductive Out where
  | val (v : Value) (H : Heap)
  | call (f : FuncId) (args : List Value)
  | maybe (b : Bool) (u v : Value) (H : Heap)
  | stuck
def ofO : Option (Value × Heap) → Out
  | some (v, H) => .val v H
  | none => .stuck
def outV (op : AOp) (e : Env) (H : Heap) : Out := match op with
  | .callF f args => match evs e args with
    | some l => .call f l
    | none => .stuck
  | .callV x args => match ev e x, evs e args with
    | some (.func (.func f) first captured), some l => .call f (first.toList ++ l ++ captured.toList)
    | _, _ => .stuck
  | .eqS neg x y => match ev e x, ev e y with
    | some v, some (.slice none 0 0) => match sliceV H v with
      | some none => .val (.bool !neg) H
      | some (some (_, _, c, _, _, _, _)) => .maybe (c == 0) (.bool neg) (.bool !neg) H
      | none => .stuck
    | _, _ => .stuck
  | op => ofO (opV op e H)
/-- The first one; where b holds, the other one may be. -/
def both (b : Bool) (A B : Prop) : Prop := A ∧ (b = true → B)
def outK (call : CallR) (H : Heap) (K : Value → Heap → Prop) : Out → Prop
  | .val v H => K v H
  | .call f l => call f l H K
  | .maybe b u v H => both b (K u H) (K v H)
  | .stuck => False

theorem instrK_of {call : CallR} {op : AOp} {e : Env} {H : Heap} {K : Value → Heap → Prop} (h : outK call H K (outV op e H)) : instrK call op e H K := by
  have plain : outK call H K (ofO (opV op e H)) → opK op e H K := fun h => by
    unfold ofO at h
    split at h
    · rename_i v H' hv; exact opK_of hv h
    · exact h.elim
  cases op with
  | callF f args =>
    simp only [outV] at h
    split at h
    · rename_i l hl; exact evsK_iff.2 ⟨l, hl, h⟩
    · exact h.elim
  | callV x args =>
    simp only [outV] at h
    split at h
    · rename_i hx ha; exact evK_of hx (evsK_iff.2 ⟨_, ha, h⟩)
    · exact h.elim
  | eqS neg x y =>
    simp only [outV] at h
    split at h
    · rename_i hx hy
      refine evK_of hx (evK_of hy ?_)
      split at h
      · rename_i hs; exact sliceK_of.1 hs h
      · rename_i hs; exact sliceK_of.2 _ _ _ _ _ _ _ hs ⟨h.1, fun hc => h.2 (by simpa using hc)⟩
      · exact h.elim
    · exact h.elim
  | _ => exact plain h

def opsV (call : CallR) : List AInstr → Env → Heap → (Env → Heap → Prop) → Prop
  | [], e, H, K => K e H
  | i :: r, e, H, K => match i.guard with
    | none => outK call H (fun v H => opsV call r (putE i.dst v e) H K) (outV i.op e H)
    | some (t, want) => match e.get t with
      | some (.bool b) => Br (b == want) (outK call H (fun v H => opsV call r (putE i.dst v e) H K) (outV i.op e H)) (opsV call r (putE i.dst (.tuple #[]) e) H K)
      | some (.tuple _) => opsV call r (putE i.dst (.tuple #[]) e) H K
      | _ => False

theorem instrK_mono_eq {call : CallR} {op : AOp} {e : Env} {H : Heap} {K K' : Value → Heap → Prop} (h : ∀ v H, K v H = K' v H) : instrK call op e H K = instrK call op e H K' := by
  rw [show K = K' from funext fun v => funext fun H => h v H]

/-- Calls that may be met by more. -/
def Mono (call : CallR) : Prop := ∀ (f : FuncId) (l : List Value) (H : Heap) (K K' : Value → Heap → Prop), call f l H K → (∀ v H, K v H → K' v H) → call f l H K'
theorem ACallK.mono' (P : Program) : Mono (ACallK P) := fun _ _ _ _ _ h hk => h.mono hk

theorem outK.mono {call : CallR} (hc : Mono call) {H : Heap} {K K' : Value → Heap → Prop} {o : Out} (h : outK call H K o) (hk : ∀ v H, K v H → K' v H) : outK call H K' o := by
  cases o with
  | val v H => exact hk _ _ h
  | call f l => exact hc _ _ _ _ _ h hk
  | maybe b u v H => exact ⟨hk _ _ h.1, fun hb => hk _ _ (h.2 hb)⟩
  | stuck => exact h

theorem opsV_sound {call : CallR} (hc : Mono call) : ∀ {l : List AInstr} {e : Env} {H : Heap} {K : Env → Heap → Prop}, opsV call l e H K → opsK call l e H K
  | [], e, H, K, h => h
  | ⟨d, none, op⟩ :: r, e, H, K, h => instrK_of (outK.mono hc h fun _ _ h => opsV_sound hc h)
  | ⟨d, some (t, want), op⟩ :: r, e, H, K, h => by
    unfold opsV at h
    unfold opsK
    simp only at h
    split at h
    · rename_i b hb
      rw [hb]
      simp only
      unfold Br at h
      by_cases hw : b = want
      · rw [if_pos hw]
        rw [if_pos (by simpa using hw)] at h
        exact instrK_of (outK.mono hc h fun _ _ h => opsV_sound hc h)
      · rw [if_neg hw]
        rw [if_neg (by simpa using hw)] at h
        exact opsV_sound hc h
    · rename_i vs hb
      rw [hb]
      exact opsV_sound hc h
    · exact h.elim

/-! ## Regions that draw -/

/-- The value and the heap are these alone. -/
def detV (call : CallR) (op : AOp) (e : Env) (H : Heap) (v : Value) (H' : Heap) : Prop := outK call H (fun a b => a = v ∧ b = H') (outV op e H)

def outD (call : CallR) (H : Heap) (K : Value → Heap → Prop) : Out → Prop
  | .val v H => K v H
  | .call f l => ∃ v H', call f l H (fun a b => a = v ∧ b = H') ∧ K v H'
  | .maybe b u _ H => b = false ∧ K u H
  | .stuck => False

def allP : List Heap → (Heap → Prop) → Prop
  | [], _ => True
  | H :: l, p => p H ∧ allP l p
def pendP (n : Nat) (H : Heap) : List (Nat × (Heap → Prop)) → Prop
  | [] => True
  | (m, p) :: l => (n < m → p H) ∧ pendP n H l

def drawV (call : CallR) : List AInstr → List (Nat × Nat × Bool) → Heap → List Heap → List (Nat × (Heap → Prop)) → Env → (Env → Heap → Prop) → Prop
  | i :: r, (lo, hi, loud) :: sp, cur, past, pend, e, K => match wantE e i.guard with
    | none => False
    | some false => (loud = true → pendP past.length cur pend) ∧ drawV call r sp cur (if loud then cur :: past else past) pend (putE i.dst (.tuple #[]) e) K
    | some true => if loud = true then (if hi = 0 then outK call cur (fun v H' => pendP past.length H' pend ∧ drawV call r sp H' (cur :: past) pend (putE i.dst v e) K) (outV i.op e cur)
        else outD call cur (fun v H' => pendP past.length H' pend ∧ drawV call r sp H' (cur :: past) pend (putE i.dst v e) K) (outV i.op e cur))
      else outD call cur (fun v H' => H' = cur ∧ allP (past.take (past.length - lo)) (fun H => detV call i.op e H v H) ∧
        drawV call r sp cur past (if past.length < hi then (hi, fun H => detV call i.op e H v H) :: pend else pend) (putE i.dst v e) K) (outV i.op e cur)
  | _, _, cur, _, _, e, K => K e cur

theorem allP_mem : ∀ {l : List Heap} {p : Heap → Prop}, allP l p → ∀ H ∈ l, p H
  | _ :: _, _, h, _, hm => by
    rcases List.mem_cons.1 hm with rfl | hm
    · exact h.1
    · exact allP_mem h.2 _ hm
theorem pendP_mem {n : Nat} {H : Heap} : ∀ {l : List (Nat × (Heap → Prop))}, pendP n H l → ∀ p ∈ l, n < p.1 → p.2 H
  | (_, _) :: _, h, _, hm, hn => by
    rcases List.mem_cons.1 hm with rfl | hm
    · exact h.1 hn
    · exact pendP_mem h.2 _ hm hn

theorem detV_step {call : CallR} {op : AOp} {e : Env} {H H' : Heap} {v : Value} (h : detV call op e H v H') : stepD call op e H v H' := instrK_of h
theorem outD_step {call : CallR} {op : AOp} {e : Env} {H : Heap} {K : Value → Heap → Prop} (h : outD call H K (outV op e H)) : ∃ v H', stepD call op e H v H' ∧ K v H' := by
  generalize ho : outV op e H = o at h
  cases o with
  | val v H' => exact ⟨v, H', instrK_of (by rw [ho]; exact ⟨rfl, rfl⟩), h⟩
  | call f l =>
    obtain ⟨v, H', h1, h2⟩ := h
    exact ⟨v, H', instrK_of (by rw [ho]; exact h1), h2⟩
  | maybe b u v H => exact ⟨u, H, instrK_of (by rw [ho]; exact ⟨⟨rfl, rfl⟩, fun hb => by rw [h.1] at hb; cases hb⟩), h.2⟩
  | stuck => exact h.elim

theorem outD_outK {call : CallR} (hm : Mono call) {H : Heap} {K : Value → Heap → Prop} {o : Out} (h : outD call H K o) : outK call H K o := by
  cases o with
  | val v H' => exact h
  | call f l =>
    obtain ⟨v, H', h1, h2⟩ := h
    exact hm _ _ _ _ _ h1 fun a b ⟨ha, hb⟩ => by subst ha; subst hb; exact h2
  | maybe b u v H' =>
    obtain ⟨rfl, h2⟩ := h
    exact ⟨h2, fun hf => by cases hf⟩
  | stuck => exact h
/-- pending predicates that say more -/
theorem drawV_sound {call : CallR} (hm : Mono call) {K : Env → Heap → Prop} : ∀ (l : List AInstr) (sp : List (Nat × Nat × Bool)) (cur : Heap) (past : List Heap) (pend pend' : List (Nat × (Heap → Prop))) (e : Env),
    (∀ p ∈ pend', ∃ p0 ∈ pend, p0.1 = p.1 ∧ ∀ H, p0.2 H → p.2 H) → drawV call l sp cur past pend e K → drawK call (l.zip sp) cur past pend' e K
  | [], _, cur, past, pend, pend', e, hp, h => by simpa [drawV, drawK] using h
  | _ :: _, [], cur, past, pend, pend', e, hp, h => by simpa [drawV, drawK] using h
  | i :: l, (lo, hi, loud) :: sp, cur, past, pend, pend', e, hp, h => by
    have carry : ∀ {H : Heap}, pendP past.length H pend → ∀ p ∈ pend', past.length < p.1 → p.2 H := fun {H} h p hm hn => by
      obtain ⟨p0, hm0, he, hi⟩ := hp p hm
      exact hi _ (pendP_mem h p0 hm0 (by omega))
    rw [List.zip_cons_cons]
    unfold drawV at h
    unfold drawK
    split at h
    · exact h.elim
    · rename_i hw
      simp only [hw]
      exact ⟨fun hl => carry (h.1 hl), drawV_sound hm l sp _ _ pend pend' _ hp h.2⟩
    · rename_i hw
      simp only [hw]
      by_cases hl : loud = true
      · rw [if_pos hl] at h ⊢
        by_cases hz : hi = 0
        · rw [if_pos hz] at h ⊢
          exact instrK_of (outK.mono hm h fun v H' ⟨h2, h3⟩ => ⟨carry h2, drawV_sound hm l sp _ _ pend pend' _ hp h3⟩)
        rw [if_neg hz] at h ⊢
        obtain ⟨v, H', h1, h2, h3⟩ := outD_step h
        exact ⟨v, H', h1, carry h2, drawV_sound hm l sp _ _ pend pend' _ hp h3⟩
      · rw [if_neg hl] at h ⊢
        obtain ⟨v, H', h1, rfl, h2, h3⟩ := outD_step h
        refine ⟨v, fun H hm => ?_, drawV_sound hm l sp _ _ _ _ _ ?_ h3⟩
        · by_cases hle : lo ≤ past.length
          · rw [show past.length + 1 - lo = (past.length - lo) + 1 by omega, List.take_succ_cons] at hm
            rcases List.mem_cons.1 hm with rfl | hm
            · exact h1
            · exact detV_step (allP_mem h2 _ hm)
          · rw [show past.length + 1 - lo = 0 by omega] at hm
            simp at hm
        · intro p hm
          split at hm
          · rename_i hlt
            rw [if_pos hlt]
            rcases List.mem_cons.1 hm with rfl | hm
            · exact ⟨_, List.mem_cons_self, rfl, fun H h => detV_step h⟩
            · obtain ⟨p0, h1, h2, h3⟩ := hp p hm
              exact ⟨p0, List.mem_cons_of_mem _ h1, h2, h3⟩
          · rename_i hlt
            rw [if_neg hlt]
            exact hp p hm

theorem opsV_mono {call : CallR} (hc : Mono call) {K K' : Env → Heap → Prop} : ∀ {l : List AInstr} {e : Env} {H : Heap}, opsV call l e H K → (∀ e H, K e H → K' e H) → opsV call l e H K'
  | [], e, H, h, hk => hk _ _ h
  | ⟨d, none, op⟩ :: r, e, H, h, hk => outK.mono hc h fun _ _ h => opsV_mono hc h hk
  | ⟨d, some (t, want), op⟩ :: r, e, H, h, hk => by
    unfold opsV at h ⊢
    simp only at h ⊢
    split at h
    · rename_i b hb
      unfold Br at h ⊢
      split at h
      · rename_i hw; rw [if_pos hw]; exact outK.mono hc h fun _ _ h => opsV_mono hc h hk
      · rename_i hw; rw [if_neg hw]; exact opsV_mono hc h hk
    · rename_i vs hb
      exact opsV_mono hc h hk
    · exact h.elim
/-- An append that finds no room, as both of what it may be: the row in its place, longer; or a new one. -/
def forkV (esz bytes : Nat) (x y : AOpd) (e : Env) (H : Heap) (K : Value → Heap → Prop) : Prop :=
  ∃ a n c g cs b m cs2 n2 c2 g2 z2 ro2, ev e x = some (.slice (some a) n c) ∧ sliceV H (.slice (some a) n c) = some (some (a, n, c, g, esz, false, cs)) ∧
    ev e y = some (.slice (some b) n2 c2) ∧ sliceV H (.slice (some b) n2 c2) = some (some (b, m, c2, g2, z2, ro2, cs2)) ∧ b.off + m * esz ≤ cs2.length ∧ m ≠ 0 ∧ ¬ n + m ≤ c ∧ a.off + n * esz ≤ cs.length ∧ (n + m) * bytes ≤ 140737488355328 ∧
    K (.slice (some a) (n + m) (n + m)) (H.set a.block (.cells g esz false (cs.take (a.off + n * esz) ++ (cs2.drop b.off).take (m * esz)))) ∧
    K (.slice (some ⟨H.length, 0, some 1⟩) (n + m) (n + m)) (H ++ [.cells 0 esz false ((cs.drop a.off).take (n * esz) ++ (cs2.drop b.off).take (m * esz))])
theorem forkV_sound {call : CallR} {esz bytes : Nat} {x y : AOpd} {e : Env} {H : Heap} {K : Value → Heap → Prop} (h : forkV esz bytes x y e H K) : instrK call (.append esz bytes x y) e H K := by
  obtain ⟨a, n, c, g, cs, b, m, cs2, n2, c2, g2, z2, ro2, h1, h2, h3, h4, h5, h6, h7, h8, h9, k1, k2⟩ := h
  refine evK_of h1 (evK_of h3 (sliceK_of.2 _ _ _ _ _ _ _ h4 ?_))
  rw [if_pos h5]
  unfold appendK
  refine sliceK_of.2 _ _ _ _ _ _ _ h2 ?_
  rw [if_neg h6, if_neg h7, if_pos ⟨rfl, h8, h9⟩]
  simp only [Bool.false_eq_true, if_false]
  exact .inr ⟨k1, k2⟩
theorem nextMap_mono {x : AOpd} {e : Env} {H : Heap} {K K' : Value → Heap → Prop} (h : opK (.nextMap x) e H K) (hk : ∀ v H, K v H → K' v H) : opK (.nextMap x) e H K' := by
  simp only [opK] at h ⊢
  unfold evK at h ⊢
  split at h
  · split at h
    · split at h
      · rename_i hc
        rw [if_pos hc]
        exact ⟨fun h0 => hk _ _ (h.1 h0), fun y hy => hk _ _ (h.2 y hy)⟩
      · exact h.elim
    · exact h.elim
  · exact h.elim
/-- Operations, one of them such an append, or a step over a map. -/
def opsF (call : CallR) (l : List AInstr) (e : Env) (H : Heap) (K : Env → Heap → Prop) : Prop :=
  opsV call l e H K ∨ (∃ pre d esz bytes x y post, l = pre ++ ⟨d, none, .append esz bytes x y⟩ :: post ∧ opsV call pre e H fun e H => forkV esz bytes x y e H fun v H => opsV call post (putE d v e) H K) ∨
    ∃ pre d x post, l = pre ++ ⟨d, none, .nextMap x⟩ :: post ∧ opsV call pre e H fun e H => opK (.nextMap x) e H fun v H => opsV call post (putE d v e) H K
theorem opsV_app {call : CallR} (hc : Mono call) {post : List AInstr} {K : Env → Heap → Prop} : ∀ {pre : List AInstr} {e : Env} {H : Heap}, opsV call pre e H (fun e H => opsK call post e H K) → opsK call (pre ++ post) e H K
  | [], e, H, h => h
  | ⟨d, none, op⟩ :: r, e, H, h => instrK_of (outK.mono hc h fun _ _ h => opsV_app hc h)
  | ⟨d, some (t, want), op⟩ :: r, e, H, h => by
    unfold opsV at h
    show opsK call (⟨d, some (t, want), op⟩ :: (r ++ post)) e H K
    unfold opsK
    simp only at h
    split at h
    · rename_i b hb
      rw [hb]
      simp only
      unfold Br at h
      by_cases hw : b = want
      · rw [if_pos hw]
        rw [if_pos (by simpa using hw)] at h
        exact instrK_of (outK.mono hc h fun _ _ h => opsV_app hc h)
      · rw [if_neg hw]
        rw [if_neg (by simpa using hw)] at h
        exact opsV_app hc h
    · rename_i vs hb
      rw [hb]
      exact opsV_app hc h
    · exact h.elim
theorem opsF_sound {call : CallR} (hc : Mono call) {l : List AInstr} {e : Env} {H : Heap} {K : Env → Heap → Prop} (h : opsF call l e H K) : opsK call l e H K := by
  rcases h with h | ⟨pre, d, esz, bytes, x, y, post, rfl, h⟩ | ⟨pre, d, x, post, rfl, h⟩
  · exact opsV_sound hc h
  rotate_left
  · exact opsV_app hc (opsV_mono hc h fun e H h => nextMap_mono h fun v H h => opsV_sound hc h)
  refine opsV_app hc (opsV_mono hc h fun e H h => ?_)
  obtain ⟨a, n, c, g, cs, b, m, cs2, n2, c2, g2, z2, ro2, h1, h2, h3, h4, h5, h6, h7, h8, h9, k1, k2⟩ := h
  exact forkV_sound ⟨a, n, c, g, cs, b, m, cs2, n2, c2, g2, z2, ro2, h1, h2, h3, h4, h5, h6, h7, h8, h9, opsV_sound hc k1, opsV_sound hc k2⟩

/-! ## Code -/

def Ws (call : CallR) (loop : LoopR) : ACode → (Exit → Env → Heap → Prop) → Env → Heap → Prop
  | .skip, Q, e, H => Q .normal e H
  | .ops l, Q, e, H => opsV call l e H fun e H => Q .normal e H
  | .fork l, Q, e, H => opsF call l e H fun e H => Q .normal e H
  | .draw l sp, Q, e, H => drawV call l sp H [] [] e fun e H => Q .normal e H
  | .alt l, Q, e, H => ∀ x ∈ l, drawV call x.1 x.2 H [] [] e fun e H => Q .normal e H
  | .seq a b, Q, e, H => Ws call loop a (thenK (Ws call loop b Q) Q) e H
  | .cond c a b, Q, e, H => match ev e c with
    | some (.bool t) => Br t (Ws call loop a Q e H) (Ws call loop b Q e H)
    | _ => False
  | .block id c, Q, e, H => Ws call loop c (blockK id Q) e H
  | .loop c, Q, e, H => loop c Q e H
  | .exit id, Q, e, H => Q (.exit id) e H
  | .ret, Q, e, H => Q .ret e H
  | .keep l c, Q, e, H => Ws call loop c Q (e.keep l) H
  | .bad, _, _, _ => False

section
variable {P : Program} {n : Nat} {H0 : Heap} {Q : Exit → Env → Heap → Prop} {env : Env} {H : Heap}

theorem Ws.sound (hn : n ≤ 1000000000) : ∀ {c : ACode} {Q : Exit → Env → Heap → Prop} {env : Env} {H : Heap}, Ws (ACallK P) (loopK P n H0) c Q env H → AW P n H0 c Q env H
  | .skip, _, _, _, h => .skip h
  | .ops _, _, _, _, h => .ops hn (opsV_sound (ACallK.mono' P) h)
  | .fork _, _, _, _, h => .fork hn (opsF_sound (ACallK.mono' P) h)
  | .draw _ _, _, _, _, h => .draw hn (drawV_sound (ACallK.mono' P) _ _ _ _ _ _ _ (fun p hp => by cases hp) h)
  | .alt _, _, _, _, h => .alt hn fun x hx => drawV_sound (ACallK.mono' P) _ _ _ _ _ _ _ (fun p hp => by cases hp) (h x hx)
  | .seq a b, Q, _, _, h => .seq ((Ws.sound hn (c := a) h).mono fun e env H hq => by cases e <;> first | exact Ws.sound hn (c := b) hq | exact hq)
  | .cond c a b, Q, env, H, h => by
    unfold Ws at h
    split at h
    · rename_i t ht
      refine .cond (evK_of ht ?_)
      cases t with
      | true => exact Ws.sound hn (c := a) ((Br_true _ _).1 h)
      | false => exact Ws.sound hn (c := b) ((Br_false _ _).1 h)
    · exact h.elim
  | .block id c, _, _, _, h => .block (Ws.sound hn (c := c) h)
  | .loop _, _, _, _, h => h
  | .exit _, _, _, _, h => .exit h
  | .ret, _, _, _, h => .ret h
  | .keep l c, _, _, _, h => .keep (Ws.sound hn (c := c) h)
  | .bad, _, _, _, h => h.elim

/-- A round's end: less is known, the measure is less, and the invariant holds again. -/
def Rd (H0 : Heap) (I : Nat → Env → Heap → Prop) (m : Nat) (e : Env) (H : Heap) : Prop := ∃ e' H' m', Weak H0 e H e' H' ∧ m' < m ∧ I m' e' H'

theorem Rd.keep {I : Nat → Env → Heap → Prop} {m : Nat} {e : Env} {H : Heap} (l : List Nat) (m' : Nat) (hm : m' < m) (h : I m' (e.keep l) H) : Rd H0 I m e H :=
  ⟨_, _, m', .forget fun i v hv => Env.get_keep e l i v hv, hm, h⟩
theorem Rd.same {I : Nat → Env → Heap → Prop} {m : Nat} {e : Env} {H : Heap} (m' : Nat) (hm : m' < m) (h : I m' e H) : Rd H0 I m e H := ⟨_, _, m', .refl _ _ _, hm, h⟩
/-- The slots are kept, and the objects from k on are forgotten. -/
theorem Rd.drop {I : Nat → Env → Heap → Prop} {m : Nat} {e : Env} {H : Heap} (l : List Nat) (k m' : Nat) (hm : m' < m) (hk : H0.length ≤ k) (he : ∀ i v, (e.keep l).get i = some v → bnd k v = true) (ho : ∀ j o, j < k → H[j]? = some o → H0[j]? = some o ∨ abnd k o = true)
    (h : I m' (e.keep l) (H.take k)) : Rd H0 I m e H :=
  ⟨_, _, m', (Weak.forget fun i v hv => Env.get_keep e l i v hv).trans (.drop k hk he ho), hm, h⟩

theorem loopK.of (hn : n ≤ 1000000000) {c : ACode} (I : Nat → Env → Heap → Prop) (m : Nat) (h0 : I m env H)
    (round : ∀ m env H, I m env H → Ws (ACallK P) (loopK P n H0) c (thenK (Rd H0 I m) Q) env H) : loopK P n H0 c Q env H :=
  AW.loop I m h0 fun m env H hI => Ws.sound hn (round m env H hI)

theorem ACallK.walk {f : FuncId} {F : AFn} (hF : compFn P f = some F.strip) {args : List Value} {K : Value → Heap → Prop} (hn : args.length ≤ F.n) (hbig : F.n ≤ 1000000000)
    (h : Ws (ACallK P) (loopK P F.n H) F.body (retK H F.rs K) (argEnv 0 args) H) : ACallK P f args H K := .of hF hn hbig (Ws.sound hbig h)

end

/-! ## The rules -/

section
variable {call : CallR} {loop : LoopR} {Q : Exit → Env → Heap → Prop} {e : Env} {H : Heap} {K : Env → Heap → Prop}

theorem ofO_some (v : Value) (H : Heap) : ofO (some (v, H)) = .val v H := by simp only [ofO]

theorem opsV_nil : opsV call [] e H K ↔ K e H := by simp only [opsV]
theorem opsV_cons (d : Option Nat) (op : AOp) (r : List AInstr) : opsV call (⟨d, none, op⟩ :: r) e H K ↔ outK call H (fun v H => opsV call r (putE d v e) H K) (outV op e H) := by simp only [opsV]
/-- What a guard says. -/
def gK (want : Bool) (A B : Prop) : Option Value → Prop
  | some (.bool b) => Br (b == want) A B
  | some (.tuple _) => B
  | _ => False
theorem opsV_guard (d : Option Nat) (t : Nat) (want : Bool) (op : AOp) (r : List AInstr) : opsV call (⟨d, some (t, want), op⟩ :: r) e H K ↔ gK want (opsV call (⟨d, none, op⟩ :: r) e H K) (opsV call r (putE d (.tuple #[]) e) H K) (e.get t) := by
  simp only [opsV, gK]
theorem gK.congr {w : Bool} {A B : Prop} {o o' : Option Value} (h : o = o') : gK w A B o = gK w A B o' := by rw [h]
theorem gK_yes (b : Bool) (A B : Prop) : gK true A B (some (.bool b)) ↔ Br b A B := by simp [gK]
theorem gK_no (b : Bool) (A B : Prop) : gK false A B (some (.bool b)) ↔ Br b B A := by cases b <;> simp [gK, Br]
theorem gK_tuple (w : Bool) (a : Array Value) (A B : Prop) : gK w A B (some (.tuple a)) ↔ B := by simp only [gK]
theorem outK.congr {H : Heap} {K : Value → Heap → Prop} {o o' : Out} (h : o = o') : outK call H K o = outK call H K o' := by rw [h]
theorem outK_val (H' : Heap) (K : Value → Heap → Prop) (v : Value) : outK call H' K (.val v H) ↔ K v H := by simp only [outK]
theorem outK_maybe (b : Bool) (u v : Value) (H' : Heap) (K : Value → Heap → Prop) : outK call H' K (.maybe b u v H) ↔ both b (K u H) (K v H) := by simp only [outK]
theorem both_false (A B : Prop) : both false A B ↔ A := by simp [both]
theorem both.congr {b b' : Bool} {A B : Prop} (h : b = b') : both b A B = both b' A B := by rw [h]
theorem both.of {b : Bool} {A B : Prop} (ha : A) (hb : b = true → B) : both b A B := ⟨ha, hb⟩
theorem outK_call (K : Value → Heap → Prop) (f : FuncId) (l : List Value) : outK call H K (.call f l) ↔ call f l H K := by simp only [outK]
theorem opsV.congr {l : List AInstr} {e' : Env} {H' : Heap} (h : e = e') (h' : H = H') : opsV call l e H K = opsV call l e' H' K := by rw [h, h']

theorem Ws_skip : Ws call loop .skip Q e H ↔ Q .normal e H := by simp only [Ws]
theorem Ws_ops (l : List AInstr) : Ws call loop (.ops l) Q e H ↔ opsV call l e H fun e H => Q .normal e H := by simp only [Ws]
theorem Ws_draw (l : List AInstr) (sp : List (Nat × Nat × Bool)) : Ws call loop (.draw l sp) Q e H ↔ drawV call l sp H [] [] e fun e H => Q .normal e H := by simp only [Ws]
theorem Ws_seq (a b : ACode) : Ws call loop (.seq a b) Q e H ↔ Ws call loop a (thenK (Ws call loop b Q) Q) e H := by simp only [Ws]
def cK (A B : Prop) : Option Value → Prop
  | some (.bool t) => Br t A B
  | _ => False
theorem Ws_cond (c : AOpd) (a b : ACode) : Ws call loop (.cond c a b) Q e H ↔ cK (Ws call loop a Q e H) (Ws call loop b Q e H) (ev e c) := by simp only [Ws, cK]
theorem cK.congr {A B : Prop} {o o' : Option Value} (h : o = o') : cK A B o = cK A B o' := by rw [h]
theorem cK_bool (t : Bool) (A B : Prop) : cK A B (some (.bool t)) ↔ Br t A B := by simp only [cK]
theorem Ws_block (id : Nat) (c : ACode) : Ws call loop (.block id c) Q e H ↔ Ws call loop c (blockK id Q) e H := by simp only [Ws]
theorem Ws_loop (c : ACode) : Ws call loop (.loop c) Q e H ↔ loop c Q e H := by simp only [Ws]
theorem Ws_exit (id : Nat) : Ws call loop (.exit id) Q e H ↔ Q (.exit id) e H := by simp only [Ws]
theorem Ws_ret : Ws call loop .ret Q e H ↔ Q .ret e H := by simp only [Ws]
theorem Ws_keep (l : List Nat) (c : ACode) : Ws call loop (.keep l c) Q e H ↔ Ws call loop c Q (e.keep l) H := by simp only [Ws]
theorem Ws.congr {c : ACode} {e' : Env} {H' : Heap} (h : e = e') (h' : H = H') : Ws call loop c Q e H = Ws call loop c Q e' H' := by rw [h, h']
theorem ACallK.congr {P : Program} {f : FuncId} {l l' : List Value} {H' : Heap} {K : Value → Heap → Prop} (h : l = l') (h' : H = H') : ACallK P f l H K = ACallK P f l' H' K := by rw [h, h']
theorem loopK.congr {P : Program} {n : Nat} {H0 : Heap} {c : ACode} {e' : Env} {H' : Heap} (h : e = e') (h' : H = H') : loopK P n H0 c Q e H = loopK P n H0 c Q e' H' := by rw [h, h']

theorem thenK_normal : thenK K Q .normal e H ↔ K e H := by simp only [thenK]
theorem thenK_ret : thenK K Q .ret e H ↔ Q .ret e H := by simp only [thenK]
theorem thenK_exit (i : Nat) : thenK K Q (.exit i) e H ↔ Q (.exit i) e H := by simp only [thenK]
theorem blockK_normal (id : Nat) : blockK id Q .normal e H ↔ Q .normal e H := by simp only [blockK]
theorem blockK_ret (id : Nat) : blockK id Q .ret e H ↔ Q .ret e H := by simp only [blockK]
theorem blockK_exit (id i : Nat) : blockK id Q (.exit i) e H ↔ Br (i == id) (Q .normal e H) (Q (.exit i) e H) := by simp [blockK, Br]
theorem thenK.congr {x : Exit} {e' : Env} {H' : Heap} (h : e = e') (h' : H = H') : thenK K Q x e H = thenK K Q x e' H' := by rw [h, h']
theorem blockK.congr {id : Nat} {x : Exit} {e' : Env} {H' : Heap} (h : e = e') (h' : H = H') : blockK id Q x e H = blockK id Q x e' H' := by rw [h, h']
theorem retK.congr {rs : List ARes} {K : Value → Heap → Prop} {x : Exit} {H0 : Heap} {e' : Env} {H' : Heap} (h : e = e') (h' : H = H') : retK H0 rs K x e H = retK H0 rs K x e' H' := by rw [h, h']
theorem Rd.congr {H0 : Heap} {I : Nat → Env → Heap → Prop} {m : Nat} {e' : Env} {H' : Heap} (h : e = e') (h' : H = H') : Rd H0 I m e H = Rd H0 I m e' H' := by rw [h, h']

theorem retK_normal (H0 : Heap) (rs : List ARes) (K : Value → Heap → Prop) : retK H0 rs K .normal e H ↔ resK rs e H fun l => DropK H0 (tupled l) H K := by simp only [retK]
theorem retK_ret (H0 : Heap) (rs : List ARes) (K : Value → Heap → Prop) : retK H0 rs K .ret e H ↔ resK rs e H fun l => DropK H0 (tupled l) H K := by simp only [retK]
def vK (K : Value → Prop) : Option Value → Prop
  | some v => K v
  | none => False
theorem vK.congr {K : Value → Prop} {o o' : Option Value} (h : o = o') : vK K o = vK K o' := by rw [h]
theorem vK_some (K : Value → Prop) (v : Value) : vK K (some v) ↔ K v := by simp only [vK]
theorem resK_nil (K : List Value → Prop) : resK [] e H K ↔ K [] := by simp only [resK]
theorem resK_tmp (t : Nat) (r : List ARes) (K : List Value → Prop) : resK (.tmp t :: r) e H K ↔ vK (fun v => resK r e H fun l => K (v :: l)) (e.get t) := by
  simp only [resK]; cases e.get t <;> simp [vK]
def loadO (H : Heap) (agg : Option Nat) : Option Value → Option Value
  | some (.pointer (some a)) => loadV H a agg
  | _ => none
theorem loadO_some (agg : Option Nat) (a : Addr) : loadO H agg (some (.pointer (some a))) = loadV H a agg := by simp only [loadO]
theorem resK_cell (t : Nat) (agg : Option Nat) (r : List ARes) (K : List Value → Prop) : resK (.cell t agg :: r) e H K ↔ vK (fun v => resK r e H fun l => K (v :: l)) (loadO H agg (e.get t)) := by
  simp only [resK]
  cases e.get t with
  | none => simp [vK, loadO]
  | some v =>
    cases v with
    | pointer p =>
      cases p with
      | none => simp [vK, loadO]
      | some a =>
        simp only [loadO]
        rw [loadK_iff]
        cases loadV H a agg <;> simp [vK]
    | _ => simp [vK, loadO]
theorem tupled_one (v : Value) : tupled [v] = v := by simp only [tupled]
theorem tupled_nil : tupled [] = .tuple #[] := by simp [tupled]
theorem tupled_two (u v : Value) (l : List Value) : tupled (u :: v :: l) = .tuple (u :: v :: l).toArray := by simp [tupled]
theorem DropK.congr {H0 : Heap} {v v' : Value} {H' : Heap} {K : Value → Heap → Prop} (h : v = v') (h' : H = H') : DropK H0 v H K = DropK H0 v' H' K := by rw [h, h']
theorem DropK.here {H0 : Heap} {v : Value} {K : Value → Heap → Prop} (h : K v H) : DropK H0 v H K := ⟨H, v, .refl _ _ _, h⟩
theorem DropK.cut {H0 : Heap} {v : Value} {K : Value → Heap → Prop} (m : Nat) (hm : H0.length ≤ m) (hv : bnd m v = true) (ho : ∀ j o, j < m → H[j]? = some o → H0[j]? = some o ∨ abnd m o = true) (h : K v (H.take m)) : DropK H0 v H K := ⟨H.take m, v, .take m hm hv ho, h⟩
/-- All that is new is dropped: the old is as it was. -/
theorem DropK.back {H0 l : Heap} {v : Value} {K : Value → Heap → Prop} (hv : bnd H0.length v = true) (h : K v H0) : DropK H0 v (H0 ++ l) K :=
  .cut H0.length (Nat.le_refl _) hv (fun j o hj ho => .inl (by rw [List.getElem?_append_left hj] at ho; exact ho)) (by simpa using h)

theorem get_cons (k i : Nat) (v : Value) (r : Env) : Env.get ((k, v) :: r) i = if i = k then some v else Env.get r i := by simp [Env.get]
theorem set_cons (k i : Nat) (u v : Value) (r : Env) : Env.set ((k, u) :: r) i v = if i = k then (k, v) :: r else (k, u) :: Env.set r i v := by
  by_cases h : i = k
  · subst h; simp [Env.set]
  · simp [Env.set, h]
def keepC (i : Nat) (r : Env) : Option Value → Env
  | some v => (i, v) :: r
  | none => r
theorem keep_cons (e : Env) (i : Nat) (l : List Nat) : Env.keep e (i :: l) = keepC i (Env.keep e l) (e.get i) := by
  cases h : e.get i with
  | none => simp [keep_miss h, keepC]
  | some v => simp [keep_hit h, keepC]
theorem keepC.congr {i : Nat} {r : Env} {o o' : Option Value} (h : o = o') : keepC i r o = keepC i r o' := by rw [h]
theorem keepC_some (i : Nat) (r : Env) (v : Value) : keepC i r (some v) = (i, v) :: r := by simp only [keepC]
theorem keepC_none (i : Nat) (r : Env) : keepC i r none = r := by simp only [keepC]
theorem argEnv_nil (k : Nat) : argEnv k [] = [] := by simp [argEnv]
theorem argEnv_cons (k : Nat) (v : Value) (l : List Value) : argEnv k (v :: l) = (k, v) :: argEnv (k + 1) l := by simp [argEnv]
end
end Go.Am
