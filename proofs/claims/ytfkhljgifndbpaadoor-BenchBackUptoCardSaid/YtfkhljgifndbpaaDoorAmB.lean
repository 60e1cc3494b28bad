/-
  The abstract machine, part B: abstract triples for code and for calls, over the real machine's own steps; the rules of control. For any program.
-/
import Derived.Test.YtfkhljgifndbpaaDoorAmA
namespace Go.Am

theorem Env.get_set (e : Env) (i j : Nat) (v : Value) : (e.set i v).get j = if j = i then some v else e.get j := by
  induction e with
  | nil => simp [Env.set, Env.get]
  | cons x r ih =>
    obtain ⟨k, u⟩ := x
    unfold Env.set
    by_cases h : i = k
    · subst h; simp only [if_true]; unfold Env.get; split <;> rfl
    · simp only [if_neg h]
      unfold Env.get
      by_cases h2 : j = k
      · subst h2; simp [Ne.symm h]
      · simp only [if_neg h2]; exact ih

theorem Env.get_keep (e : Env) (l : List Nat) (j : Nat) (v : Value) (h : (e.keep l).get j = some v) : e.get j = some v := by
  induction l with
  | nil => simp [Env.keep, Env.get] at h
  | cons i l ih =>
    unfold Env.keep at h
    split at h
    · rename_i u hu
      unfold Env.get at h
      split at h
      · rename_i e1; subst e1; rw [← h]; exact hu
      · exact ih h
    · exact ih h

def EnvOk (T : List Tag) (ι : Inj) (e : Env) (tmps : Array Value) : Prop := ∀ i v, e.get i = some v → ∃ v', tmps[i]? = some v' ∧ VRel T ι v v'

theorem EnvOk.ext {T T' : List Tag} {ι ι' : Inj} {e : Env} {tmps : Array Value} (h : EnvOk T ι e tmps) (he : Ext T ι T' ι') : EnvOk T' ι' e tmps :=
  fun i v hv => let ⟨v', a, b⟩ := h i v hv; ⟨v', a, b.ext he⟩

theorem EnvOk.set {T : List Tag} {ι : Inj} {e : Env} {tmps : Array Value} (h : EnvOk T ι e tmps) {i : Nat} (hi : i < tmps.size) {v v' : Value} (hv : VRel T ι v v') :
    EnvOk T ι (e.set i v) (tmps.setIfInBounds i v') := by
  intro j u hu
  rw [Env.get_set] at hu
  by_cases hj : j = i
  · subst hj; simp at hu; subst hu; exact ⟨v', by simp [hi], hv⟩
  · rw [if_neg hj] at hu
    obtain ⟨u', a, b⟩ := h j u hu
    exact ⟨u', by rw [Array.getElem?_setIfInBounds_ne (Ne.symm hj)]; exact a, b⟩

theorem EnvOk.sub {T : List Tag} {ι : Inj} {e e' : Env} {tmps : Array Value} (h : EnvOk T ι e tmps) (hs : ∀ i v, e'.get i = some v → e.get i = some v) : EnvOk T ι e' tmps :=
  fun i v hv => h i v (hs i v hv)

/-- No reference of v goes to m or beyond. -/
def Bd (m : Nat) (v : Value) : Prop := ∀ T ι v', VRel T ι v v' → VRel (T.take m) (ι.take m) v v'

theorem take_some {α : Type} {l : List α} {m k : Nat} {x : α} (hk : k < m) (h : l[k]? = some x) : (l.take m)[k]? = some x := by rw [List.getElem?_take_of_lt hk]; exact h

theorem VRel.bd_aux {T : List Tag} {ι : Inj} {v v0 : Value} (h : VRel T ι v v0) {m : Nat} (hm : T.length ≤ m) : Bd m v := by
  have lt : ∀ {k : Nat} {t : Tag}, T[k]? = some t → k < m := fun {k t} ht => Nat.lt_of_lt_of_le (List.getElem?_eq_some_iff.1 ht).1 hm
  induction h with
  | flat h =>
    intro T' ι' v' h'
    cases h' with
    | flat h => exact .flat h
    | ptr => simp [Am.flat] at h
    | slice => simp [Am.flat] at h
    | empty => simp [Am.flat] at h
    | staleP => simp [Am.flat] at h
    | staleS => simp [Am.flat] at h
    | map => simp [Am.flat] at h
    | staleM => simp [Am.flat] at h
    | func => simp [Am.flat] at h
    | iface => simp [Am.flat] at h
    | agg => simp [Am.flat] at h
    | tuple => simp [Am.flat] at h
  | @ptr k o g L t ht hg hl =>
    have hk := lt ht
    intro T' ι' v' h'
    cases h' with
    | flat h => simp [Am.flat] at h
    | ptr a b c => exact .ptr (take_some hk a) b (take_some hk c)
    | staleP a b c => exact .staleP (take_some hk a) b c
  | @slice k o g n c c' L t ht hg hl hc hr =>
    have hk := lt ht
    intro T' ι' v' h'
    cases h' with
    | flat h => simp [Am.flat] at h
    | slice a b c d e => exact .slice (take_some hk a) b (take_some hk c) d e
    | empty a b => exact .empty (take_some hk a) b
    | staleS a b c => exact .staleS (take_some hk a) b c
  | @empty k o g t a ht hg =>
    have hk := lt ht
    intro T' ι' v' h'
    cases h' with
    | flat h => simp [Am.flat] at h
    | slice a b c d e => exact .slice (take_some hk a) b (take_some hk c) d e
    | empty a b => exact .empty (take_some hk a) b
    | staleS a b c => exact .staleS (take_some hk a) b c
  | @staleP k o g t v0 ht hg h1 =>
    have hk := lt ht
    intro T' ι' v' h'
    cases h' with
    | flat h => simp [Am.flat] at h
    | ptr a b c => exact .ptr (take_some hk a) b (take_some hk c)
    | staleP a b c => exact .staleP (take_some hk a) b c
  | @staleS k o g n c t v0 ht hg h1 =>
    have hk := lt ht
    intro T' ι' v' h'
    cases h' with
    | flat h => simp [Am.flat] at h
    | slice a b c d e => exact .slice (take_some hk a) b (take_some hk c) d e
    | empty a b => exact .empty (take_some hk a) b
    | staleS a b c => exact .staleS (take_some hk a) b c
  | @map k L t ht hg hl =>
    have hk := lt ht
    intro T' ι' v' h'
    cases h' with
    | flat h => simp [Am.flat] at h
    | map a b c => exact .map (take_some hk a) b (take_some hk c)
    | staleM a b c => exact .staleM (take_some hk a) b c
  | @staleM k t v0 ht hg h1 =>
    have hk := lt ht
    intro T' ι' v' h'
    cases h' with
    | flat h => simp [Am.flat] at h
    | map a b c => exact .map (take_some hk a) b (take_some hk c)
    | staleM a b c => exact .staleM (take_some hk a) b c
  | @func fn f f' c c' hf hc hfs hcs ih1 ih2 =>
    intro T' ι' v' h'
    cases h' with
    | flat h => simp [Am.flat] at h
    | func a b c' d =>
      refine .func a b (fun i u u' hu hu' => ?_) (fun i u u' hu hu' => ?_)
      · have hi : i < f.size := (Array.getElem?_eq_some_iff.1 hu).1
        exact ih1 i u _ hu (Array.getElem?_eq_getElem (hf ▸ hi)) T' ι' u' (c' i u u' hu hu')
      · have hi : i < c.size := (Array.getElem?_eq_some_iff.1 hu).1
        exact ih2 i u _ hu (Array.getElem?_eq_getElem (hc ▸ hi)) T' ι' u' (d i u u' hu hu')
  | iface _ ih =>
    intro T' ι' v' h'
    cases h' with
    | flat h => simp [Am.flat] at h
    | iface a => exact .iface (ih T' ι' _ a)
  | @agg x y hs h1 h ih =>
    intro T' ι' v' h'
    cases h' with
    | flat h => simp [Am.flat] at h
    | agg a b c =>
      refine .agg a b (fun i u u' hu hu' => ?_)
      have hi : i < x.size := (Array.getElem?_eq_some_iff.1 hu).1
      exact ih i u _ hu (Array.getElem?_eq_getElem (hs ▸ hi)) T' ι' u' (c i u u' hu hu')
  | @tuple x y hs h ih =>
    intro T' ι' v' h'
    cases h' with
    | flat h => simp [Am.flat] at h
    | tuple a c =>
      refine .tuple a (fun i u u' hu hu' => ?_)
      have hi : i < x.size := (Array.getElem?_eq_some_iff.1 hu).1
      exact ih i u _ hu (Array.getElem?_eq_getElem (hs ▸ hi)) T' ι' u' (c i u u' hu hu')

def bnd0 (m : Nat) : Value → Bool
  | .pointer (some a) => decide (a.block < m)
  | .slice (some a) _ _ => decide (a.block < m)
  | .map (some k) => decide (k < m)
  | v => flat v
def bnd1 (m : Nat) : Value → Bool
  | .agg a => a.toList.all (bnd0 m)
  | .func _ f c => f.toList.all (bnd0 m) && c.toList.all (bnd0 m)
  | .iface _ v => bnd0 m v
  | v => bnd0 m v
def bnd (m : Nat) : Value → Bool
  | .tuple a => a.toList.all (bnd1 m)
  | v => bnd1 m v

theorem mem_of_get {a : Array Value} {i : Nat} {v : Value} (h : a[i]? = some v) : v ∈ a.toList := by
  have := List.mem_of_getElem? (l := a.toList) (i := i) (a := v) (by simpa using h)
  exact this

theorem bnd0_bd {m : Nat} {v : Value} (h : bnd0 m v = true) : Bd m v := by
  intro T ι v' h'
  cases h' with
  | flat h => exact .flat h
  | ptr a b c => exact .ptr (take_some (by simpa [bnd0] using h) a) b (take_some (by simpa [bnd0] using h) c)
  | slice a b c d e => exact .slice (take_some (by simpa [bnd0] using h) a) b (take_some (by simpa [bnd0] using h) c) d e
  | empty a b => exact .empty (take_some (by simpa [bnd0] using h) a) b
  | staleP a b c => exact .staleP (take_some (by simpa [bnd0] using h) a) b c
  | staleS a b c => exact .staleS (take_some (by simpa [bnd0] using h) a) b c
  | map a b c => exact .map (take_some (by simpa [bnd0] using h) a) b (take_some (by simpa [bnd0] using h) c)
  | staleM a b c => exact .staleM (take_some (by simpa [bnd0] using h) a) b c
  | func => simp [bnd0, Am.flat] at h
  | iface => simp [bnd0, Am.flat] at h
  | agg => simp [bnd0, Am.flat] at h
  | tuple => simp [bnd0, Am.flat] at h

theorem bnd1_bd {m : Nat} {v : Value} (h : bnd1 m v = true) : Bd m v := by
  intro T ι v' h'
  cases h' with
  | agg a b c =>
    simp only [bnd1, List.all_eq_true] at h
    exact .agg a b (fun i u u' hu hu' => bnd0_bd (h u (mem_of_get hu)) _ _ _ (c i u u' hu hu'))
  | func a b c d =>
    simp only [bnd1, Bool.and_eq_true, List.all_eq_true] at h
    exact .func a b (fun i u u' hu hu' => bnd0_bd (h.1 u (mem_of_get hu)) _ _ _ (c i u u' hu hu')) (fun i u u' hu hu' => bnd0_bd (h.2 u (mem_of_get hu)) _ _ _ (d i u u' hu hu'))
  | iface a => exact .iface (bnd0_bd (by simpa [bnd1] using h) _ _ _ a)
  | flat h => exact .flat h
  | ptr a b c => exact bnd0_bd (by simpa [bnd1] using h) _ _ _ (.ptr a b c)
  | slice a b c d e => exact bnd0_bd (by simpa [bnd1] using h) _ _ _ (.slice a b c d e)
  | empty a b => exact bnd0_bd (by simpa [bnd1] using h) _ _ _ (.empty a b)
  | staleP a b c => exact bnd0_bd (by simpa [bnd1] using h) _ _ _ (.staleP a b c)
  | staleS a b c => exact bnd0_bd (by simpa [bnd1] using h) _ _ _ (.staleS a b c)
  | map a b c => exact bnd0_bd (by simpa [bnd1] using h) _ _ _ (.map a b c)
  | staleM a b c => exact bnd0_bd (by simpa [bnd1] using h) _ _ _ (.staleM a b c)
  | tuple => simp [bnd1, bnd0, Am.flat] at h

theorem bnd_bd {m : Nat} {v : Value} (h : bnd m v = true) : Bd m v := by
  by_cases ht : ∃ a, v = .tuple a
  · obtain ⟨a, rfl⟩ := ht
    simp only [bnd, List.all_eq_true] at h
    intro T ι v' h'
    cases h' with
    | flat h => simp [Am.flat] at h
    | tuple b c => exact .tuple b (fun i u u' hu hu' => bnd1_bd (h u (mem_of_get hu)) _ _ _ (c i u u' hu hu'))
  · refine bnd1_bd ?_
    cases v <;> first | exact h | exact (ht ⟨_, rfl⟩).elim

def ABd (m : Nat) : AObj → Prop
  | .cells _ _ _ cs => ∀ v ∈ cs, Bd m v
  | .map es _ => ∀ e ∈ es, Bd m e.val
  | .iter r _ _ _ => Bd m (.map (some r))

def abnd (m : Nat) : AObj → Bool
  | .cells _ _ _ cs => cs.all (bnd m)
  | .map es _ => es.all fun e => bnd m e.val
  | .iter r _ _ _ => decide (r < m)

theorem abnd_bd {m : Nat} {o : AObj} (h : abnd m o = true) : ABd m o := by
  cases o with
  | cells g esz ro cs => simp only [abnd, List.all_eq_true] at h; exact fun v hv => bnd_bd (h v hv)
  | map es clock => simp only [abnd, List.all_eq_true] at h; exact fun e he => bnd_bd (h e he)
  | iter r since seen c0 => exact bnd_bd (v := .map (some r)) h

/-- Every reference of the first m objects of H goes to one of them. -/
def Closed (H : Heap) (m : Nat) : Prop := ∀ j o, j < m → H[j]? = some o → ABd m o

theorem Bd.mono {m m' : Nat} {v : Value} (h : Bd m v) (hm : m ≤ m') : Bd m' v := by
  intro T ι v' h'
  have := h T ι v' h'
  -- the longer take relates as well
  refine VRel.ext ?_ this
  intro k t ht
  have hk : k < m := by have := (List.getElem?_eq_some_iff.1 ht).1; simp at this; omega
  rw [List.getElem?_take_of_lt hk] at ht
  exact ⟨t, take_some (by omega) ht, Nat.le_refl _, fun _ => ⟨rfl, by rw [List.getElem?_take_of_lt hk, List.getElem?_take_of_lt (by omega)]⟩⟩

theorem ABd.mono {m m' : Nat} {o : AObj} (h : ABd m o) (hm : m ≤ m') : ABd m' o := by
  cases o with
  | cells g esz ro cs => exact fun v hv => (h v hv).mono hm
  | map es clock => exact fun e he => Bd.mono (h e he) hm
  | iter r since seen c0 => exact Bd.mono (v := .map (some r)) h hm

theorem HSim.closed {prot : Nat → Prop} {B w : World} {ι : Inj} {H : Heap} (h : HSim prot B w ι H) : Closed H H.length := by
  intro j o hj ho
  have ok := h.obj j o ho
  cases o with
  | cells g esz ro cs =>
    intro v hv
    rcases ok with ⟨_, h2⟩ | ⟨L, rc, t, fr, _, _, _, _, h5, _⟩
    · subst h2; cases hv
    · obtain ⟨i, hi⟩ := List.getElem?_of_mem hv
      obtain ⟨_, v', _, hr⟩ := h5 i v hi
      exact hr.bd_aux (by simp)
  | map es clock =>
    obtain ⟨L, es', _, _, _, _, h5⟩ := ok
    intro e he
    obtain ⟨i, hi⟩ := List.getElem?_of_mem he
    obtain ⟨e', _, _, _, hr⟩ := h5 i e hi
    exact hr.bd_aux (by simp)
  | iter r since seen c0 =>
    obtain ⟨L, bm, _, _, _, _, h5⟩ := ok
    exact h5.bd_aux (by simp)

theorem HSim.trunc {prot : Nat → Prop} {B w : World} {ι : Inj} {H : Heap} (h : HSim prot B w ι H) (m : Nat) (hc : Closed H m) : HSim prot B w (ι.take m) (H.take m) := by
  have ht : tags (H.take m) = (tags H).take m := by simp [tags, List.map_take]
  have sub : ∀ {k : Nat} {o : AObj}, (H.take m)[k]? = some o → k < m ∧ H[k]? = some o := fun {k o} hk => by
    have hl := (List.getElem?_eq_some_iff.1 hk).1
    rw [List.length_take] at hl
    have hl' : k < m := by omega
    rw [List.getElem?_take_of_lt hl'] at hk
    exact ⟨hl', hk⟩
  have subι : ∀ {k : Nat} {x : Option Loc}, (ι.take m)[k]? = some x → ι[k]? = some x := fun {k x} hk => by
    have hl := (List.getElem?_eq_some_iff.1 hk).1
    rw [List.length_take] at hl
    rw [List.getElem?_take_of_lt (by omega)] at hk
    exact hk
  have hrw : ∀ k, RW (tags (H.take m)) k → RW (tags H) k := fun k ⟨t, h1, h2⟩ => by
    rw [ht] at h1
    have hl := (List.getElem?_eq_some_iff.1 h1).1
    simp only [List.length_take] at hl
    rw [List.getElem?_take_of_lt (by omega)] at h1
    exact ⟨t, h1, h2⟩
  refine ⟨by simp [h.len], h.os, h.tape, h.output, h.size, h.low, h.frame, fun k o hk => ?_, fun j k L L' hjk hj hk rj rk => h.sep j k L L' hjk (subι hj) (subι hk) (hrw j rj) (hrw k rk), h.glob⟩
  obtain ⟨hlt, ho⟩ := sub hk
  have ok := h.obj k o ho
  have hb := hc k o hlt ho
  have hi : (ι.take m)[k]? = ι[k]? := List.getElem?_take_of_lt hlt
  rw [ht]
  cases o with
  | cells g esz ro cs =>
    rcases ok with ⟨h1, h2⟩ | ⟨L, rc, t, fr, h1, h2, h3, h4, h5, h6, h7⟩
    · exact .inl ⟨hi.trans h1, h2⟩
    · refine .inr ⟨L, rc, t, fr, hi.trans h1, h2, h3, h4, fun i v hv => ?_, h6, h7⟩
      obtain ⟨a, v', b, c⟩ := h5 i v hv
      exact ⟨a, v', b, hb v (List.mem_of_getElem? hv) _ _ _ c⟩
  | map es clock =>
    obtain ⟨L, es', h1, h2, h3, h4, h5⟩ := ok
    refine ⟨L, es', hi.trans h1, h2, h3, h4, fun i e hv => ?_⟩
    obtain ⟨e', a, b, c, d⟩ := h5 i e hv
    exact ⟨e', a, b, c, hb e (List.mem_of_getElem? hv) _ _ _ d⟩
  | iter r since seen c0 =>
    obtain ⟨L, bm, h1, h2, h3, h4, h5⟩ := ok
    exact ⟨L, bm, hi.trans h1, h2, h3, h4, hb _ _ _ h5⟩

end Go.Am
