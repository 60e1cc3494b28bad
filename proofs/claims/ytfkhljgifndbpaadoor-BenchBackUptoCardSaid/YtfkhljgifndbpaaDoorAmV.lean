/-
  The abstract machine, part V: arguments of any plain type (numbers, bools, strings, structs, arrays and slices of these, to any depth) as abstract values. For any program.
-/
import Derived.Test.YtfkhljgifndbpaaDoorAmU
namespace Go.Am
open Go.RowKit Go.ChangeShapes

/-- A cell's kind. -/
inductive CS where
  | int (k : IntKind)
  | bool
  | str
  | slice (e : List CS)

/-- A cell that came in. Slices lie in objects of their own, that are only read; none has more than B places. -/
inductive CellOk (B : Nat) (H : Heap) : CS → Value → Prop
  | int {k : IntKind} {n : Int} (h : k.min ≤ n ∧ n ≤ k.max) : CellOk B H (.int k) (.int k n)
  | bool (b : Bool) : CellOk B H .bool (.bool b)
  | str (s : ByteArray) (h : s.size ≤ B) : CellOk B H .str (.string s)
  | slice {e : List CS} {k n c : Nat} {cs : List Value} (hn : n ≤ c) (hc : c ≤ B) (hk : H[k]? = some (.cells 0 e.length true cs)) (hl : cs.length = c * e.length)
      (h : ∀ (i j : Nat) s v, i < c → e[j]? = some s → cs[i * e.length + j]? = some v → CellOk B H s v) : CellOk B H (.slice e) (.slice (some ⟨k, 0, some 1⟩) n c)

def RowOk (B : Nat) (H : Heap) (sh : List CS) (cs : List Value) : Prop := cs.length = sh.length ∧ ∀ (j : Nat) s v, sh[j]? = some s → cs[j]? = some v → CellOk B H s v

theorem CellOk.one {B : Nat} {H : Heap} {s : CS} {v : Value} (h : CellOk B H s v) : v.oneCell' = true := by cases h <;> rfl
theorem CellOk.app {B : Nat} {H : Heap} {s : CS} {v : Value} (h : CellOk B H s v) (l : Heap) : CellOk B (H ++ l) s v := by
  induction h with
  | int h => exact .int h
  | bool b => exact .bool b
  | str s h => exact .str s h
  | slice hn hc hk hl _ ih => exact .slice hn hc (by rw [List.getElem?_append_left (List.getElem?_eq_some_iff.1 hk).1]; exact hk) hl ih
theorem RowOk.app {B : Nat} {H : Heap} {s : List CS} {v : List Value} (h : RowOk B H s v) (l : Heap) : RowOk B (H ++ l) s v := ⟨h.1, fun j s v a b => (h.2 j s v a b).app l⟩
theorem RowOk.nil {B : Nat} {H : Heap} : RowOk B H [] [] := ⟨rfl, fun j s v h => by simp at h⟩
theorem RowOk.append {B : Nat} {H : Heap} {s s' : List CS} {v v' : List Value} (h : RowOk B H s v) (h' : RowOk B H s' v') : RowOk B H (s ++ s') (v ++ v') := by
  refine ⟨by simp [h.1, h'.1], fun j t u a b => ?_⟩
  by_cases hj : j < s.length
  · rw [List.getElem?_append_left hj] at a
    rw [List.getElem?_append_left (by rw [h.1]; exact hj)] at b
    exact h.2 j t u a b
  · rw [List.getElem?_append_right (by omega)] at a
    rw [List.getElem?_append_right (by rw [h.1]; omega), h.1] at b
    exact h'.2 _ t u a b

def csFields (P : Program) (g : TypeId → Option (List CS)) : List Field → Nat → Option (List CS)
  | [], _ => some []
  | f :: r, o => match g f.type with
    | some l => if f.offset = o ∧ P.cellsOf f.type = l.length then (csFields P g r (o + l.length)).map (l ++ ·) else none
    | none => none
/-- The cells of a type. -/
def csOf (P : Program) : Nat → TypeId → Option (List CS)
  | 0, _ => none
  | d + 1, t => match P.underlying t with
    | some .bool => some [.bool]
    | some (.int k) => some [.int k]
    | some .string => some [.str]
    | some (.slice e) => match csOf P d e with
      | some l => if P.cellsOf e = l.length ∧ 0 < l.length then some [.slice l] else none
      | none => none
    | some (.struct fs) => match csFields P (csOf P d) fs.toList 0 with
      | some l => if P.cellsOf t = l.length then some l else none
      | none => none
    | some (.array n e) => match csOf P d e with
      | some l => if P.cellsOf e = l.length ∧ P.cellsOf t = n * l.length then some (List.replicate n l).flatten else none
      | none => none
    | _ => none

/-- How much a reading holds: what of it is asked. -/
structure Bulk (H : Type) where
  one : DataW H → Nat
  all : List (DataW H) → Nat
  str : ∀ b, b.length ≤ one (.lit (.string b))
  slice : ∀ e s, one (.slice e s) = all e + all s + 1
  agg : ∀ l, one (.agg l) = all l + 1
  nil : all [] = 0
  cons : ∀ d l, all (d :: l) = one d + all l
  pos : ∀ d, 1 ≤ one d
theorem Bulk.mem {H : Type} (b : Bulk H) {d : DataW H} : ∀ {l : List (DataW H)}, d ∈ l → b.one d ≤ b.all l
  | x :: l, h => by
    rw [b.cons]
    rcases List.mem_cons.1 h with rfl | h
    · omega
    · have := b.mem h; omega
theorem Bulk.len {H : Type} (b : Bulk H) : ∀ (l : List (DataW H)), l.length ≤ b.all l
  | [] => by simp
  | x :: l => by rw [b.cons]; have := b.pos x; have := b.len l; simp; omega

/-- The bound: either of what is read, or what any reading meets. -/
def Small {H : Type} (B : Nat) (d : DataW H) : Prop := maxLen ≤ B ∨ ∃ b : Bulk H, b.one d ≤ B

theorem Small.agg {H : Type} {B : Nat} {l : List (DataW H)} (h : Small B (.agg l)) : ∀ d ∈ l, Small B d := fun d hd => by
  rcases h with h | ⟨b, h⟩
  · exact .inl h
  · rw [b.agg] at h
    exact .inr ⟨b, by have := b.mem hd; omega⟩
theorem Small.slice {H : Type} {B : Nat} {l s : List (DataW H)} (h : Small B (.slice l s)) : ∀ d ∈ l ++ s, Small B d := fun d hd => by
  rcases h with h | ⟨b, h⟩
  · exact .inl h
  · rw [b.slice] at h
    rcases List.mem_append.1 hd with hd | hd
    · exact .inr ⟨b, by have := b.mem hd; omega⟩
    · exact .inr ⟨b, by have := b.mem hd; omega⟩
theorem Small.len {H : Type} {B : Nat} {l s : List (DataW H)} (h : Small B (.slice l s)) (hm : l.length + s.length ≤ maxLen) : l.length + s.length ≤ B := by
  rcases h with h | ⟨b, h⟩
  · omega
  · rw [b.slice] at h
    have := b.len l
    have := b.len s
    omega

section
variable {H' : Type} {enc : TypeId × Value → H'} {P : Program} {W : World} {B : Nat}

/-- Pieces of a row, one behind the other, each one read. -/
def Pieces (enc : TypeId × Value → H') (P : Program) (W : World) (B n : Nat) : List (TypeId × List CS) → List Value → Prop
  | [], cs => cs = []
  | (t, l) :: r, cs => (∃ x, DataW.trod enc P W 0 (fun _ => true) true n t (cs.take l.length) = some x ∧ Small B x.1) ∧ (∃ d, csOf P d t = some l) ∧ l.length ≤ cs.length ∧ Pieces enc P W B n r (cs.drop l.length)

/-- A row is brought. -/
def Brought (W : World) (B : Nat) (sh : List CS) (cs : List Value) : Prop := ∀ (ι : Inj) (H : Heap), HSim (old W) W W ι H → ∃ ι' Hx acs, HSim (old W) W W ι' (H ++ Hx) ∧ Ext (tags H) ι (tags (H ++ Hx)) ι' ∧ RowOk B (H ++ Hx) sh acs ∧ VRels (tags (H ++ Hx)) ι' acs cs

theorem VRels.ext {T T' : List Tag} {ι ι' : Inj} {l l' : List Value} (h : VRels T ι l l') (he : Ext T ι T' ι') : VRels T' ι' l l' := ⟨h.1, fun i v v' a b => (h.2 i v v' a b).ext he⟩
theorem VRels.append {T : List Tag} {ι : Inj} {l l' m m' : List Value} (h : VRels T ι l l') (h2 : VRels T ι m m') : VRels T ι (l ++ m) (l' ++ m') := by
  refine ⟨by simp [h.1, h2.1], fun i v v' a b => ?_⟩
  by_cases hi : i < l.length
  · rw [List.getElem?_append_left hi] at a
    rw [List.getElem?_append_left (by rw [← h.1]; exact hi)] at b
    exact h.2 i v v' a b
  · rw [List.getElem?_append_right (by omega)] at a
    rw [List.getElem?_append_right (by rw [← h.1]; omega), ← h.1] at b
    exact h2.2 _ v v' a b

theorem brought_pieces {n : Nat} (ih : ∀ t cs x sh, (∃ d, csOf P d t = some sh) → DataW.trod enc P W 0 (fun _ => true) true n t cs = some x → Small B x.1 → Brought W B sh cs) :
    ∀ {ps : List (TypeId × List CS)} {cs : List Value}, Pieces enc P W B n ps cs → Brought W B (ps.map (·.2)).flatten cs
  | [], cs, h => fun ι H hs => by
    have h : cs = [] := h
    subst h
    exact ⟨ι, [], [], by simpa using hs, by simpa using Ext.refl _ _, .nil, .nil⟩
  | (t, l) :: r, cs, ⟨⟨x, h1, h2⟩, h3, h4, h5⟩ => fun ι H hs => by
    obtain ⟨ι1, H1, a1, s1, e1, r1, v1⟩ := ih t _ x l h3 h1 h2 ι H hs
    obtain ⟨ι2, H2, a2, s2, e2, r2, v2⟩ := brought_pieces ih h5 ι1 (H ++ H1) s1
    refine ⟨ι2, H1 ++ H2, a1 ++ a2, by simpa using s2, by simpa using e1.trans e2, ?_, ?_⟩
    · have := (r1.app H2).append r2
      simpa using this
    · have := (v1.ext e2).append v2
      simpa using this

theorem pieces_fields {n d : Nat} : ∀ {fs : List Field} {o : Nat} {sh : List CS} {cs : List Value}, csFields P (csOf P d) fs o = some sh → cs.length = o + sh.length →
    (∀ f ∈ fs, ∃ x, DataW.trod enc P W 0 (fun _ => true) true n f.type ((cs.drop f.offset).take (P.cellsOf f.type)) = some x ∧ Small B x.1) →
    ∃ ps, Pieces enc P W B n ps (cs.drop o) ∧ (ps.map (·.2)).flatten = sh
  | [], o, sh, cs, h, hl, _ => by
    simp [csFields] at h
    subst h
    simp at hl
    exact ⟨[], by show cs.drop o = []; exact List.drop_eq_nil_of_le (by omega), rfl⟩
  | f :: r, o, sh, cs, h, hl, hf => by
    unfold csFields at h
    split at h
    · rename_i l hl1
      split at h
      · rename_i hc
        rw [Option.map_eq_some_iff] at h
        obtain ⟨sh', h1, rfl⟩ := h
        obtain ⟨ps, hp, he⟩ := pieces_fields h1 (by simp at hl; omega) fun f hf' => hf f (List.mem_cons_of_mem _ hf')
        refine ⟨(f.type, l) :: ps, ⟨?_, ⟨_, hl1⟩, by simp at hl ⊢; omega, by rw [List.drop_drop]; exact hp⟩, by simp [he]⟩
        have := hf f List.mem_cons_self
        rw [hc.1, hc.2] at this
        exact this
      · cases h
    · cases h

theorem pieces_rep {n : Nat} {e : TypeId} {l : List CS} (he : ∃ d, csOf P d e = some l) : ∀ {m : Nat} {cs : List Value}, cs.length = m * l.length →
    (∀ i, i < m → ∃ x, DataW.trod enc P W 0 (fun _ => true) true n e ((cs.drop (i * l.length)).take l.length) = some x ∧ Small B x.1) →
    Pieces enc P W B n (List.replicate m (e, l)) cs
  | 0, cs, hl, _ => by
    show cs = []
    simpa using hl
  | m + 1, cs, hl, h => by
    have hm : (m + 1) * l.length = m * l.length + l.length := Nat.succ_mul _ _
    refine ⟨by simpa using h 0 (by omega), he, by omega, pieces_rep he (by simp; omega) fun i hi => ?_⟩
    have := h (i + 1) (by omega)
    rw [List.drop_drop]
    rw [Nat.succ_mul] at this
    rw [show l.length + i * l.length = i * l.length + l.length by omega]
    exact this

theorem HSim.bringV {ι : Inj} {H : Heap} (h : HSim (old W) W W ι H) (esz : Nat) (cs : List Value) (L : Loc) {rc : Array Value} {t : TypeId} {fr : Nat × Nat} (hb : W.heap[L.blk]? = some (.cells rc t fr)) (hs : rc.size = L.off + L.room) (hl : cs.length ≤ L.room)
    (hc : ∀ (i : Nat) v, cs[i]? = some v → v.oneCell' = true ∧ ∃ v', rc[L.off + i]? = some v' ∧ VRel (tags H) ι v v') :
    HSim (old W) W W (ι ++ [some L]) (H ++ [.cells 0 esz true cs]) ∧ Ext (tags H) ι (tags (H ++ [.cells 0 esz true cs])) (ι ++ [some L]) := by
  have hext : Ext (tags H) ι (tags (H ++ [.cells 0 esz true cs])) (ι ++ [some L]) := fun k t ht => by
    have hk : k < H.length := by have := (List.getElem?_eq_some_iff.1 ht).1; simpa using this
    exact ⟨t, by rw [tags, List.map_append, List.getElem?_append_left (by simpa using hk)]; exact ht, Nat.le_refl _, fun _ => ⟨rfl, List.getElem?_append_left (by rw [h.len]; exact hk)⟩⟩
  refine h.push (some L) rfl rfl rfl (Nat.le_refl _) (fun _ _ => rfl) (.inr ⟨L, rc, t, fr, by rw [← h.len]; simp, hb, hs, hl, fun i v hv => ?_, fun _ => ?_, fun hf => by cases hf⟩) (fun _ _ hf => by cases hf)
  · obtain ⟨h1, v', h2, h3⟩ := hc i v hv
    exact ⟨h1, v', h2, h3.ext hext⟩
  · exact (Array.getElem?_eq_some_iff.1 hb).1

theorem mapM_mem {α β : Type} {f : α → Option β} {l : List α} {r : List β} (h : l.mapM f = some r) : ∀ a ∈ l, ∃ b ∈ r, f a = some b := by
  intro a ha
  obtain ⟨i, hi⟩ := List.getElem?_of_mem ha
  have h1 := mapM_some_get h i a hi
  have h2 := mapM_some_length h
  have hl := (List.getElem?_eq_some_iff.1 hi).1
  rw [List.getElem?_eq_getElem (by omega)] at h1
  exact ⟨_, List.getElem_mem (by omega), h1⟩

theorem cell_blk {a : Addr} {u : Value} (h : W.cell? a = some u) : ∃ rc t fr, W.heap[a.block]? = some (.cells rc t fr) ∧ a.spot = none ∧ rc[a.off]? = some u := by
  unfold World.cell? at h
  split at h
  · rename_i c _ _ hb
    split at h
    · cases h
    · rename_i hs
      exact ⟨_, _, _, hb, by simpa using hs, h⟩
  · cases h

/-- All the rows of a slice's elements, read one by one, as one row of its block. -/
theorem slice_row {a : Addr} {c s : Nat} (hs : 0 < s) (hc : 0 < c) (h : ∀ i, i < c → ∃ ch, W.cells? 0 (a.add (i * s)) s = some ch) :
    ∃ rc t fr, W.heap[a.block]? = some (.cells rc t fr) ∧ a = ⟨a.block, a.off, none⟩ ∧ a.off + c * s ≤ rc.size ∧
      ∀ i ch, i < c → W.cells? 0 (a.add (i * s)) s = some ch → (((rc.toList.drop a.off).take (c * s)).drop (i * s)).take s = ch := by
  obtain ⟨ch0, h0⟩ := h 0 hc
  obtain ⟨_, hl0, hc0⟩ := World.cells?_some h0
  have h00 := hc0 0 hs
  rw [List.getElem?_eq_getElem (by omega)] at h00
  have e0 : (a.add (0 * s)).add 0 = a := by simp [Addr.add]
  rw [e0] at h00
  obtain ⟨rc, t, fr, hb, hsp, _⟩ := cell_blk h00
  obtain ⟨b, o, sp⟩ := a
  simp only at hb hsp
  subst hsp
  have key : ∀ i ch, i < c → W.cells? 0 ((⟨b, o, none⟩ : Addr).add (i * s)) s = some ch → ch.length = s ∧ ∀ j, j < s → rc[o + i * s + j]? = ch[j]? ∧ o + i * s + j < rc.size := fun i ch hi hch => by
    obtain ⟨_, hl, hcc⟩ := World.cells?_some hch
    refine ⟨hl, fun j hj => ?_⟩
    have := hcc j hj
    rw [add_none, add_none] at this
    rw [← this]
    rw [List.getElem?_eq_getElem (by omega)] at this
    obtain ⟨rc', t', fr', hb', _, hcell⟩ := cell_blk this
    simp only at hb' hcell
    rw [hb] at hb'
    cases hb'
    refine ⟨?_, (Array.getElem?_eq_some_iff.1 hcell).1⟩
    simp only [World.cell?, hb]
    simp
  refine ⟨rc, t, fr, hb, rfl, ?_, fun i ch hi hch => ?_⟩
  · obtain ⟨ch, hch⟩ := h (c - 1) (by omega)
    have := ((key (c - 1) ch (by omega) hch).2 (s - 1) (by omega)).2
    have e : (c - 1) * s + s = c * s := by rw [← Nat.succ_mul]; congr 1; omega
    simp only at this ⊢
    omega
  · obtain ⟨hl, hk⟩ := key i ch hi hch
    have e : i * s + s ≤ c * s := by rw [← Nat.succ_mul]; exact Nat.mul_le_mul_right _ hi
    show List.take s (List.drop (i * s) (List.take (c * s) (List.drop o rc.toList))) = ch
    apply List.ext_getElem?
    intro j
    by_cases hj : j < s
    · rw [List.getElem?_take_of_lt hj, List.getElem?_drop, List.getElem?_take_of_lt (by omega), List.getElem?_drop, ← (hk j hj).1]
      simp [Nat.add_assoc]
    · rw [List.getElem?_eq_none (by simp; omega), List.getElem?_eq_none (by omega)]

/-- What is read is brought. -/
theorem brought : ∀ (n : Nat) t cs x sh, (∃ d, csOf P d t = some sh) → DataW.trod enc P W 0 (fun _ => true) true n t cs = some x → Small B x.1 → Brought W B sh cs := by
  intro n
  induction n with
  | zero => intro t cs x sh _ h; simp [DataW.trod] at h
  | succ n ih =>
    intro t cs x sh ⟨d, hd⟩ h hsm
    cases d with
    | zero => simp [csOf] at hd
    | succ d =>
    unfold csOf at hd
    split at hd
    · rename_i hu
      obtain ⟨b, rfl, rfl⟩ := DataW.trod_bool hu h
      cases hd
      exact fun ι H hs => ⟨ι, [], [.bool b], by simpa using hs, by simpa using Ext.refl _ _, ⟨rfl, fun j s v a b => by cases j <;> simp at a b; subst a; subst b; exact .bool _⟩, .cons .bool' .nil⟩
    · rename_i k hu
      obtain ⟨m, rfl, rfl, hw⟩ := DataW.trod_int hu h
      cases hd
      have hr : k.min ≤ m ∧ m ≤ k.max := by simpa [Lit.wf] using hw
      exact fun ι H hs => ⟨ι, [], [.int k m], by simpa using hs, by simpa using Ext.refl _ _, ⟨rfl, fun j s v a b => by cases j <;> simp at a b; subst a; subst b; exact .int hr⟩, .cons .int' .nil⟩
    · rename_i hu
      obtain ⟨s, rfl, rfl, hw⟩ := DataW.trod_string hu h
      cases hd
      have hsz : s.size ≤ B := by
        rcases hsm with h | ⟨b, h⟩
        · omega
        · simp only at h
          have := b.str s.data.toList
          have e : s.data.toList.length = s.size := by rw [Array.length_toList]; rfl
          omega
      exact fun ι H hs => ⟨ι, [], [.string s], by simpa using hs, by simpa using Ext.refl _ _, ⟨rfl, fun j s v a b => by cases j <;> simp at a b; subst a; subst b; exact .str _ hsz⟩, .cons (.flat rfl) .nil⟩
    · rename_i e hu
      split at hd
      · rename_i l hl
        split at hd
        · rename_i hsz
          cases hd
          rcases DataW.trod_slice hu h with ⟨rfl, rfl⟩ | ⟨a, len, cap, elems, rest, m, he, rfl, rfl, _, hlc, hcm, hel, hE, hR, _⟩
          · intro ι H hs
            obtain ⟨hs', hext⟩ := hs.ghost l.length true
            exact ⟨_, [.cells 0 l.length true []], [.slice (some ⟨H.length, 0, some 1⟩) 0 0], hs', hext, ⟨rfl, fun j s v a b => by
              cases j <;> simp at a b
              subst a; subst b
              exact .slice (cs := []) (Nat.le_refl _) (Nat.zero_le _) (by simp) (by simp) fun i j s v hi => by omega⟩, .cons (.empty (t := ⟨0, l.length, true⟩) (by simp [AObj.tag]) rfl) .nil⟩
          · cases he
            obtain ⟨hrl, hR⟩ := hR rfl
            have hsl := hsm.slice
            have hcB : cap ≤ B := by
              have := Small.len hsm (by simp; omega)
              simp at this
              omega
            by_cases hc0 : cap = 0
            · have hl0 : len = 0 := by omega
              subst hc0
              subst hl0
              intro ι H hs
              obtain ⟨hs', hext⟩ := hs.ghost l.length true
              exact ⟨_, [.cells 0 l.length true []], [.slice (some ⟨H.length, 0, some 1⟩) 0 0], hs', hext, ⟨rfl, fun j s v a b => by
                cases j <;> simp at a b
                subst a; subst b
                exact .slice (cs := []) (Nat.le_refl _) (Nat.zero_le _) (by simp) (by simp) fun i j s v hi => by omega⟩, .cons (.empty (t := ⟨0, l.length, true⟩) (by simp [AObj.tag]) rfl) .nil⟩
            · rw [hsz.1] at hE hR
              have all : ∀ i, i < cap → ∃ ch x, W.cells? 0 (a.add (i * l.length)) l.length = some ch ∧ DataW.trod enc P W 0 (fun _ => true) true n e ch = some x ∧ Small B x.1 := fun i hi => by
                by_cases hil : i < len
                · have := hE i hil
                  rw [List.getElem?_eq_getElem (by omega), Option.bind_eq_some_iff] at this
                  obtain ⟨ch, h1, h2⟩ := this
                  exact ⟨ch, _, h1, h2, hsl _ (List.mem_append_left _ (List.mem_map.2 ⟨_, List.getElem_mem _, rfl⟩))⟩
                · have := hR (i - len) (by omega)
                  rw [List.getElem?_eq_getElem (by omega), Option.bind_eq_some_iff, show len + (i - len) = i by omega] at this
                  obtain ⟨ch, h1, h2⟩ := this
                  exact ⟨ch, _, h1, h2, hsl _ (List.mem_append_right _ (List.mem_map.2 ⟨_, List.getElem_mem _, rfl⟩))⟩
              obtain ⟨rc, ty, fr, hb, ha, hroom, hch⟩ := slice_row hsz.2 (by omega : 0 < cap) (fun i hi => let ⟨ch, _, h1, _⟩ := all i hi; ⟨ch, h1⟩)
              have hlen : ((rc.toList.drop a.off).take (cap * l.length)).length = cap * l.length := by simp; omega
              have hp := pieces_rep (enc := enc) (P := P) (W := W) (B := B) (n := n) ⟨d, hl⟩ (m := cap) hlen fun i hi => by
                obtain ⟨ch, x, h1, h2, h3⟩ := all i hi
                have h4 := hch i ch hi h1
                exact ⟨x, by rw [h4]; exact h2, h3⟩
              intro ι H hs
              obtain ⟨ι1, H1, acs, s1, e1, r1, v1⟩ := brought_pieces ih hp ι H hs
              have hac : acs.length = cap * l.length := v1.1.trans hlen
              obtain ⟨s2, e2⟩ := s1.bringV l.length acs ⟨a.block, a.off, rc.size - a.off⟩ hb (by simp; omega) (by simp; omega) fun i v hv => by
                have hi : i < cap * l.length := by have := (List.getElem?_eq_some_iff.1 hv).1; omega
                have hrc : i + a.off < rc.size := by omega
                refine ⟨?_, rc[a.off + i]'(by omega), by simp, v1.2 i v _ hv ?_⟩
                · have h5 : i < ((List.replicate cap (e, l)).map (·.2)).flatten.length := by rw [← r1.1, hac]; exact hi
                  exact (r1.2 i _ v (List.getElem?_eq_getElem h5) hv).one
                · rw [List.getElem?_take_of_lt hi, List.getElem?_drop]
                  simp
              refine ⟨_, H1 ++ [.cells 0 l.length true acs], [.slice (some ⟨(H ++ H1).length, 0, some 1⟩) len cap], by rw [← List.append_assoc]; exact s2, by rw [← List.append_assoc]; exact e1.trans e2, ⟨rfl, fun j s v h1 h2 => ?_⟩, ?_⟩
              · cases j <;> simp at h1 h2
                subst h1; subst h2
                rw [← List.append_assoc]
                refine .slice hlc hcB (by simp) hac fun i j s v hi hj hv => ?_
                refine ((r1.2 (i * l.length + j) s v ?_ hv).app [.cells 0 l.length true acs])
                have hjl := (List.getElem?_eq_some_iff.1 hj).1
                have : ∀ (m i : Nat), i < m → ((List.replicate m (e, l)).map (·.2)).flatten[i * l.length + j]? = some s := by
                  intro m
                  induction m with
                  | zero => intro i hi; omega
                  | succ m ihm =>
                    intro i hi
                    rw [List.replicate_succ, List.map_cons, List.flatten_cons]
                    cases i with
                    | zero => rw [List.getElem?_append_left (by simpa using hjl)]; simpa using hj
                    | succ i =>
                      rw [List.getElem?_append_right (by simp [Nat.succ_mul]; omega)]
                      have := ihm i (by omega)
                      rw [show (i + 1) * l.length + j - (e, l).2.length = i * l.length + j by simp [Nat.succ_mul]; omega]
                      exact this
                exact this cap i hi
              · refine .cons ?_ .nil
                have := VRel.slice (T := tags (H ++ H1 ++ [.cells 0 l.length true acs])) (ι := ι1 ++ [some ⟨a.block, a.off, rc.size - a.off⟩]) (k := (H ++ H1).length) (o := 0) (g := 0) (n := len) (c := cap) (c' := cap) (L := ⟨a.block, a.off, rc.size - a.off⟩) (t := ⟨0, l.length, true⟩) (by simp [AObj.tag]) rfl (by rw [← s1.len]; simp) (Nat.le_refl _) (.inl rfl)
                rw [← List.append_assoc, ha]
                simpa using this
        · cases hd
      · cases hd
    · rename_i fs hu
      obtain ⟨xs, m, he, rfl, hlen, hxl, hall⟩ := DataW.trod_struct hu h
      cases he
      split at hd
      · rename_i l hl
        split at hd
        · rename_i hsz
          cases hd
          obtain ⟨ps, hp, hpe⟩ := pieces_fields (enc := enc) (W := W) (B := B) (n := n) (cs := cs) hl (by omega) fun f hf => by
            obtain ⟨i, hi⟩ := List.getElem?_of_mem hf
            have := hall i f (by simpa using hi)
            have hil : i < fs.size := by have := (List.getElem?_eq_some_iff.1 hi).1; simpa using this
            rw [List.getElem?_eq_getElem (by omega)] at this
            exact ⟨_, this, hsm.agg _ (List.mem_map.2 ⟨_, List.getElem_mem _, rfl⟩)⟩
          have := brought_pieces ih hp
          rw [hpe] at this
          simpa using this
        · cases hd
      · cases hd
    · rename_i m e hu
      obtain ⟨xs, m', he, rfl, hlen, hxl, hall⟩ := DataW.trod_array hu h
      cases he
      split at hd
      · rename_i l hl
        split at hd
        · rename_i hsz
          cases hd
          rw [hsz.1] at hall
          have hp := pieces_rep (enc := enc) (P := P) (W := W) (B := B) (n := n) ⟨d, hl⟩ (m := m) (cs := cs) (by omega) fun i hi => by
            have := hall i hi
            rw [List.getElem?_eq_getElem (by omega)] at this
            exact ⟨_, this, hsm.agg _ (List.mem_map.2 ⟨_, List.getElem_mem _, rfl⟩)⟩
          have := brought_pieces ih hp
          simpa using this
        · cases hd
      · cases hd
    · cases hd


/-- An argument: a struct or an array, or one cell. -/
def argOf (P : Program) (t : TypeId) : Option (Bool × List CS) := match P.underlying t with
  | some (.struct _) | some (.array _ _) => (csOf P 20 t).map (true, ·)
  | some .bool | some (.int _) | some .string | some (.slice _) => (csOf P 20 t).map (false, ·)
  | _ => none
def ArgOk (B : Nat) (H : Heap) (s : Bool × List CS) (v : Value) : Prop := if s.1 = true then ∃ cs : List Value, v = .agg cs.toArray ∧ RowOk B H s.2 cs else ∃ c, s.2 = [c] ∧ CellOk B H c v
def ArgsOk (B : Nat) (H : Heap) : List (Bool × List CS) → List Value → Prop
  | [], l => l = []
  | s :: r, l => ∃ v l', l = v :: l' ∧ ArgOk B H s v ∧ ArgsOk B H r l'
theorem ArgOk.app {B : Nat} {H : Heap} {s : Bool × List CS} {v : Value} (h : ArgOk B H s v) (l : Heap) : ArgOk B (H ++ l) s v := by
  unfold ArgOk at h ⊢
  split at h
  · rename_i hs; rw [if_pos hs]; obtain ⟨cs, a, b⟩ := h; exact ⟨cs, a, b.app l⟩
  · rename_i hs; rw [if_neg hs]; obtain ⟨c, a, b⟩ := h; exact ⟨c, a, b.app l⟩

theorem RowOk.one {B : Nat} {H : Heap} {c : CS} {cs : List Value} (h : RowOk B H [c] cs) : ∃ v, cs = [v] ∧ CellOk B H c v := by
  obtain ⟨h1, h2⟩ := h
  match cs, h1 with
  | [v], _ => exact ⟨v, rfl, h2 0 c v rfl rfl⟩

theorem csOf_one {d : Nat} {t : TypeId} {sh : List CS} (h : csOf P d t = some sh) (hu : P.underlying t = some .bool ∨ (∃ k, P.underlying t = some (.int k)) ∨ P.underlying t = some .string ∨ ∃ e, P.underlying t = some (.slice e)) : ∃ c, sh = [c] := by
  cases d with
  | zero => simp [csOf] at h
  | succ d =>
    unfold csOf at h
    rcases hu with hu | ⟨k, hu⟩ | hu | ⟨e, hu⟩ <;> rw [hu] at h <;> simp only at h
    · cases h; exact ⟨_, rfl⟩
    · cases h; exact ⟨_, rfl⟩
    · cases h; exact ⟨_, rfl⟩
    · split at h
      · split at h
        · cases h; exact ⟨_, rfl⟩
        · cases h
      · cases h

theorem bring_arg {t : TypeId} {s : Bool × List CS} (ha : argOf P t = some s) {v : Value} {d : DataW H'} {p : List MemPlace} {b0 : Nat} (hv : Value.okWide P W .any b0 t v) (ht : DataW.Trod enc P W 0 (fun _ => true) true t v d p) (hb : Small B d)
    {ι : Inj} {H : Heap} (hs : HSim (old W) W W ι H) : ∃ ι' Hx a, HSim (old W) W W ι' (H ++ Hx) ∧ Ext (tags H) ι (tags (H ++ Hx)) ι' ∧ ArgOk B (H ++ Hx) s a ∧ VRel (tags (H ++ Hx)) ι' a v := by
  obtain ⟨fuel, hf⟩ := ht
  have agg : ∀ cs : Array Value, v = .agg cs → (csOf P 20 t).map (Prod.mk true) = some s → ∃ ι' Hx a, HSim (old W) W W ι' (H ++ Hx) ∧ Ext (tags H) ι (tags (H ++ Hx)) ι' ∧ ArgOk B (H ++ Hx) s a ∧ VRel (tags (H ++ Hx)) ι' a v := fun cs hv ha => by
    subst hv
    rw [Option.map_eq_some_iff] at ha
    obtain ⟨sh, h1, rfl⟩ := ha
    obtain ⟨ι', Hx, acs, a1, a2, a3, a4⟩ := brought fuel t _ _ sh ⟨_, h1⟩ hf hb ι H hs
    refine ⟨ι', Hx, .agg acs.toArray, a1, a2, ?_, .agg (by simpa [Value.cells] using a4.1) (fun i u hu => ?_) fun i u u' hu hu' => a4.2 i u u' (by simpa using hu) (by simpa [Value.cells] using hu')⟩
    · unfold ArgOk; rw [if_pos rfl]; exact ⟨acs, rfl, a3⟩
    · have hi := (Array.getElem?_eq_some_iff.1 hu).1
      have hl : i < sh.length := by rw [← a3.1]; simpa using hi
      exact (a3.2 i _ u (List.getElem?_eq_getElem hl) (by simpa using hu)).one
  have one : v.cells = #[v] → (P.underlying t = some .bool ∨ (∃ k, P.underlying t = some (.int k)) ∨ P.underlying t = some .string ∨ ∃ e, P.underlying t = some (.slice e)) → (csOf P 20 t).map (Prod.mk false) = some s →
      ∃ ι' Hx a, HSim (old W) W W ι' (H ++ Hx) ∧ Ext (tags H) ι (tags (H ++ Hx)) ι' ∧ ArgOk B (H ++ Hx) s a ∧ VRel (tags (H ++ Hx)) ι' a v := fun hc hu ha => by
    rw [Option.map_eq_some_iff] at ha
    obtain ⟨sh, h1, rfl⟩ := ha
    obtain ⟨c, rfl⟩ := csOf_one h1 hu
    obtain ⟨ι', Hx, acs, a1, a2, a3, a4⟩ := brought fuel t _ _ [c] ⟨_, h1⟩ hf hb ι H hs
    obtain ⟨a, rfl, hok⟩ := a3.one
    refine ⟨ι', Hx, a, a1, a2, ?_, ?_⟩
    · unfold ArgOk; rw [if_neg (by simp)]; exact ⟨c, rfl, hok⟩
    · rw [hc] at a4
      exact a4.2 0 a v rfl rfl
  unfold argOf at ha
  split at ha
  · rename_i fs hu
    obtain ⟨cs, hc, _⟩ := Go.WideShapes.okWide_struct hu hv
    exact agg cs hc ha
  · rename_i n e hu
    have hv' := hv
    unfold Value.okWide at hv'
    rw [hu] at hv'
    obtain ⟨cs, hc, _⟩ := hv'
    exact agg cs hc ha
  · rename_i hu
    obtain ⟨b, rfl⟩ := Go.WideShapes.okWide_bool hu hv
    exact one rfl (.inl hu) ha
  · rename_i k hu
    obtain ⟨b, rfl⟩ := Go.WideShapes.okWide_int hu hv
    exact one rfl (.inr (.inl ⟨_, hu⟩)) ha
  · rename_i hu
    obtain ⟨b, rfl⟩ := Go.WideShapes.okWide_string hu hv
    exact one rfl (.inr (.inr (.inl hu))) ha
  · rename_i e hu
    obtain ⟨a, n, c, rfl⟩ := Go.WideShapes.okWide_slice hu hv
    exact one rfl (.inr (.inr (.inr ⟨_, hu⟩))) ha
  · cases ha

theorem bring_args : ∀ {ts : List TypeId} {shs : List (Bool × List CS)} {vs : List Value} {ds : List (DataW H')} {ps : List MemPlace} {b0 : Nat}, ts.map (argOf P) = shs.map some →
    (∀ (j : Nat) t v, ts[j]? = some t → vs[j]? = some v → Value.okWide P W .any b0 t v) → DataW.TrodAll enc P W 0 (fun _ => true) true ts vs ds ps → (∀ d ∈ ds, Small B d) → ∀ {ι : Inj} {H : Heap}, HSim (old W) W W ι H →
    ∃ ι' Hx vals, HSim (old W) W W ι' (H ++ Hx) ∧ Ext (tags H) ι (tags (H ++ Hx)) ι' ∧ ArgsOk B (H ++ Hx) shs vals ∧ VRels (tags (H ++ Hx)) ι' vals vs
  | [], [], vs, ds, ps, _, _, _, h, _, ι, H, hs => by
    obtain ⟨rfl, rfl, rfl⟩ := trodAll_nil h
    exact ⟨ι, [], [], by simpa using hs, by simpa using Ext.refl _ _, rfl, .nil⟩
  | t :: ts, s :: shs, vs, ds, ps, b0, hm, hv, h, hb, ι, H, hs => by
    obtain ⟨v, vs', d, ds', p, q, rfl, rfl, rfl, h1, h2⟩ := trodAll_cons h
    simp only [List.map_cons, List.cons.injEq] at hm
    obtain ⟨ι1, H1, a, s1, e1, o1, v1⟩ := bring_arg hm.1 (hv 0 t v rfl rfl) h1 (hb d (by simp)) hs
    obtain ⟨ι2, H2, l, s2, e2, o2, v2⟩ := bring_args hm.2 (fun j t v a b => hv (j + 1) t v (by simpa using a) (by simpa using b)) h2 (fun d hd => hb d (by simp [hd])) s1
    refine ⟨ι2, H1 ++ H2, a :: l, by simpa using s2, by simpa using e1.trans e2, ?_, ?_⟩
    · refine ⟨a, l, rfl, ?_, ?_⟩
      · have := o1.app H2; simpa using this
      · simpa using o2
    · have := VRels.cons (v1.ext e2) v2
      simpa using this
  | [], _ :: _, _, _, _, _, hm, _, _, _, _, _, _ => by simp at hm
  | _ :: _, [], _, _, _, _, hm, _, _, _, _, _, _ => by simp at hm

/-- A law's contract gives what its row asks. -/
theorem law_contract (hl : laidOutB P = true) {f : FuncId} {fn : Func} {s : ChangeSpec} {tb : TypeId} (htb : P.underlying tb = some .bool) (hres : fn.resultTypes = #[tb]) (hvars : s.vars = [])
    (hr : fn.params.toList.all (fun t => P.readableRec t && decide (t < P.types.size)) = true) (shs : List (Bool × List CS)) (hsh : fn.params.toList.map (argOf P) = shs.map some)
    (law : ∀ H vals, ArgsOk B H shs vals → ACallK P f vals H fun v _ => v = .bool true) (hfn : ∀ (H : Type) (ds : List (DataW H)), ds.length = shs.length → s.fn H ds = { results := [.lit (.bool true)], args := ds })
    {base : Nat} {args : Array Value} {ds gs : List (DataW H')} {before : List MemPlace} (hgl : GL (old W) W)
    (hval : ∀ (j : Nat) t v, fn.params[j]? = some t → args[j]? = some v → Value.okWide P W .any base t v)
    (hW : DataW.Whole enc P fn.params.toList s.vars false W args.toList ds gs before) (hk : ∀ d ∈ ds ++ gs, Small B d) :
    Calls P f args W fun e W' => ∃ v, e = .returned v ∧ s.post enc P fn false true false false W args v W' := by
  have hW' := hW
  obtain ⟨p, q, hA, hV, rfl, _, _⟩ := hW'
  rw [hvars] at hV
  obtain ⟨rfl, rfl⟩ := trodVars_none hV
  obtain ⟨ι, Hx, vals, h1, _, h3, h4⟩ := bring_args hsh (fun j t v a b => hval j t v (by simpa using a) (by simpa using b)) hA (fun d hd => hk d (by simp [hd])) (HSim.start W hgl)
  have hlen : ∀ {ts : List TypeId} {vs : List Value} {ds : List (DataW H')} {ps : List MemPlace}, DataW.TrodAll enc P W 0 (fun _ => true) true ts vs ds ps → ds.length = ts.length := by
    intro ts
    induction ts with
    | nil => intro vs ds ps h; obtain ⟨_, rfl, _⟩ := trodAll_nil h; rfl
    | cons t ts ih => intro vs ds ps h; obtain ⟨v, vs', d, ds', p, q, _, rfl, _, _, h2⟩ := trodAll_cons h; simp [ih h2]
  have hds : ds.length = shs.length := by
    rw [hlen hA]
    have := congrArg List.length hsh
    simpa using this
  refine (law_calls (law _ vals h3) h1 h4).mono ?_
  rintro e W' ⟨rfl, hbl⟩
  refine ⟨_, rfl, law_post hl htb hres hvars (fun t ht => ?_) hW (by rw [List.append_nil]; exact hfn _ _ hds) hbl⟩
  have := List.all_eq_true.1 hr t ht
  simpa using this

end
end Go.Am
