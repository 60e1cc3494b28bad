/-
  The abstract machine, part A: abstract heaps, the relation between abstract and real values, and the simulation relation between abstract and real memory. For any program. Nothing here names a program.
-/
import Derived.Test.YtfkhljgifndbpaaDoorAm0
import Derived.Calls
import Derived.Laws.Sem
import Derived.Laws.World
import Derived.Laws.Rows
import Derived.Laws.Cells
import Derived.Orders
import Derived.Below
namespace Go.Am

/-- An abstract object: a row of cells (generation, element size, read only, cells) or a map. -/
inductive AObj where
  | cells (g esz : Nat) (ro : Bool) (cs : List Value)
  | map (es : List MapEntry) (clock : Nat)
  /-- Who goes over the map r, begun at clock 'since', those seen, at the last look's clock. -/
  | iter (r since : Nat) (seen : List Nat) (c0 : Nat)

abbrev Heap := List AObj
abbrev Env := List (Nat × Value)

/-- Where an object lies: block, first cell, how many cells there are from there to the block's end. -/
structure Loc where
  blk : Nat
  off : Nat
  room : Nat

/-- What an address must know of an object: its generation, its element size, whether it is read only. -/
structure Tag where
  g : Nat
  esz : Nat
  ro : Bool

def AObj.tag : AObj → Tag
  | .cells g esz ro _ => ⟨g, esz, ro⟩
  | .map .. => ⟨0, 0, false⟩
  | .iter .. => ⟨0, 0, false⟩

abbrev Inj := List (Option Loc)

def Env.get : Env → Nat → Option Value
  | [], _ => none
  | (k, v) :: r, i => if i = k then some v else Env.get r i

def Env.set : Env → Nat → Value → Env
  | [], i, v => [(i, v)]
  | (k, u) :: r, i, v => if i = k then (i, v) :: r else (k, u) :: Env.set r i v

/-- Only these slots are kept, in this order. -/
def Env.keep (e : Env) : List Nat → Env
  | [] => []
  | i :: l => match e.get i with
    | some v => (i, v) :: Env.keep e l
    | none => Env.keep e l

/-- A value that refers to nothing. -/
def flat : Value → Bool
  | .bool _ | .int .. | .float .. | .complex .. | .string _ | .pointer none | .slice none 0 0 | .map none | .chan none | .nilFunc | .nilIface => true
  | _ => false

/-- The abstract value and the real one. An address (k, o, some (g+1)) means cell o of object k, as of generation g. -/
inductive VRel (T : List Tag) (ι : Inj) : Value → Value → Prop
  | flat {v : Value} (h : flat v = true) : VRel T ι v v
  | ptr {k o g : Nat} {L : Loc} {t : Tag} (ht : T[k]? = some t) (hg : t.g = g) (hl : ι[k]? = some (some L)) :
      VRel T ι (.pointer (some ⟨k, o, some (g + 1)⟩)) (.pointer (some ⟨L.blk, L.off + o, none⟩))
  | slice {k o g n c c' : Nat} {L : Loc} {t : Tag} (ht : T[k]? = some t) (hg : t.g = g) (hl : ι[k]? = some (some L)) (hc : c ≤ c')
      (hr : c' = c ∨ (t.ro = false ∧ o + c' * t.esz ≤ L.room ∧ c' ≤ 9223372036854775807)) : VRel T ι (.slice (some ⟨k, o, some (g + 1)⟩) n c) (.slice (some ⟨L.blk, L.off + o, none⟩) n c')
  | empty {k o g : Nat} {t : Tag} {a : Option Addr} (ht : T[k]? = some t) (hg : t.g = g) :
      VRel T ι (.slice (some ⟨k, o, some (g + 1)⟩) 0 0) (.slice a 0 0)
  | staleP {k o g : Nat} {t : Tag} {v' : Value} (ht : T[k]? = some t) (hg : g < t.g) (h1 : v'.oneCell' = true) : VRel T ι (.pointer (some ⟨k, o, some (g + 1)⟩)) v'
  | staleS {k o g n c : Nat} {t : Tag} {v' : Value} (ht : T[k]? = some t) (hg : g < t.g) (h1 : v'.oneCell' = true) : VRel T ι (.slice (some ⟨k, o, some (g + 1)⟩) n c) v'
  | map {k : Nat} {L : Loc} {t : Tag} (ht : T[k]? = some t) (hg : t.g = 0) (hl : ι[k]? = some (some L)) : VRel T ι (.map (some k)) (.map (some L.blk))
  | staleM {k : Nat} {t : Tag} {v' : Value} (ht : T[k]? = some t) (hg : 0 < t.g) (h1 : v'.oneCell' = true) : VRel T ι (.map (some k)) v'
  | func {fn : Fn} {f f' c c' : Array Value} (hf : f.size = f'.size) (hc : c.size = c'.size) (hfs : ∀ (i : Nat) v v', f[i]? = some v → f'[i]? = some v' → VRel T ι v v')
      (hcs : ∀ (i : Nat) v v', c[i]? = some v → c'[i]? = some v' → VRel T ι v v') : VRel T ι (.func fn f c) (.func fn f' c')
  | iface {t : TypeId} {v v' : Value} (h : VRel T ι v v') : VRel T ι (.iface t v) (.iface t v')
  | agg {a b : Array Value} (hs : a.size = b.size) (h1 : ∀ (i : Nat) v, a[i]? = some v → v.oneCell' = true) (h : ∀ (i : Nat) v v', a[i]? = some v → b[i]? = some v' → VRel T ι v v') : VRel T ι (.agg a) (.agg b)
  | tuple {a b : Array Value} (hs : a.size = b.size) (h : ∀ (i : Nat) v v', a[i]? = some v → b[i]? = some v' → VRel T ι v v') : VRel T ι (.tuple a) (.tuple b)

def VRels (T : List Tag) (ι : Inj) (l l' : List Value) : Prop := l.length = l'.length ∧ ∀ (i : Nat) v v', l[i]? = some v → l'[i]? = some v' → VRel T ι v v'

theorem VRels.nil {T : List Tag} {ι : Inj} : VRels T ι [] [] := ⟨rfl, fun i v v' h => by simp at h⟩
theorem VRels.cons {T : List Tag} {ι : Inj} {v v' : Value} {l l' : List Value} (h : VRel T ι v v') (r : VRels T ι l l') : VRels T ι (v :: l) (v' :: l') := by
  refine ⟨by simp [r.1], fun i u u' hu hu' => ?_⟩
  cases i with
  | zero => simp at hu hu'; subst hu; subst hu'; exact h
  | succ i => exact r.2 i u u' (by simpa using hu) (by simpa using hu')
theorem VRels.uncons {T : List Tag} {ι : Inj} {v : Value} {l l' : List Value} (h : VRels T ι (v :: l) l') : ∃ v' r', l' = v' :: r' ∧ VRel T ι v v' ∧ VRels T ι l r' := by
  obtain ⟨hl, hh⟩ := h
  cases l' with
  | nil => simp at hl
  | cons v' r' => exact ⟨v', r', rfl, hh 0 v v' rfl rfl, by simpa using hl, fun i u u' hu hu' => hh (i + 1) u u' (by simpa using hu) (by simpa using hu')⟩
theorem VRels.unnil {T : List Tag} {ι : Inj} {l' : List Value} (h : VRels T ι [] l') : l' = [] := by
  have := h.1; simp at this; exact List.eq_nil_of_length_eq_zero this.symm

/-- What was known stays known. -/
def Ext (T : List Tag) (ι : Inj) (T' : List Tag) (ι' : Inj) : Prop :=
  ∀ (k : Nat) t, T[k]? = some t → ∃ t', T'[k]? = some t' ∧ t.g ≤ t'.g ∧ (t'.g = t.g → t' = t ∧ ι'[k]? = ι[k]?)

theorem Ext.refl (T : List Tag) (ι : Inj) : Ext T ι T ι := fun _ t h => ⟨t, h, Nat.le_refl _, fun _ => ⟨rfl, rfl⟩⟩
theorem Ext.trans {T T' T'' : List Tag} {ι ι' ι'' : Inj} (h : Ext T ι T' ι') (h' : Ext T' ι' T'' ι'') : Ext T ι T'' ι'' := by
  intro k t ht
  obtain ⟨t1, h1, hg1, he1⟩ := h k t ht
  obtain ⟨t2, h2, hg2, he2⟩ := h' k t1 h1
  refine ⟨t2, h2, Nat.le_trans hg1 hg2, fun he => ?_⟩
  have e1 : t1.g = t.g := by omega
  obtain ⟨a, b⟩ := he1 e1
  obtain ⟨c, d⟩ := he2 (by omega)
  exact ⟨c.trans a, d.trans b⟩

theorem VRel.one {T : List Tag} {ι : Inj} {v v' : Value} (h : VRel T ι v v') : v'.oneCell' = v.oneCell' := by
  cases h <;> first | rfl | assumption

theorem VRel.ext {T T' : List Tag} {ι ι' : Inj} (he : Ext T ι T' ι') {v v' : Value} (h : VRel T ι v v') : VRel T' ι' v v' := by
  induction h with
  | flat h => exact .flat h
  | @ptr k o g L t ht hg hl =>
    obtain ⟨t', h1, h2, h3⟩ := he k t ht
    by_cases e : t'.g = t.g
    · obtain ⟨rfl, hi⟩ := h3 e
      exact .ptr h1 hg (hi.trans hl)
    · exact .staleP h1 (by omega) rfl
  | @slice k o g n c c' L t ht hg hl hc hr =>
    obtain ⟨t', h1, h2, h3⟩ := he k t ht
    by_cases e : t'.g = t.g
    · obtain ⟨rfl, hi⟩ := h3 e
      exact .slice h1 hg (hi.trans hl) hc hr
    · exact .staleS h1 (by omega) rfl
  | @empty k o g t a ht hg =>
    obtain ⟨t', h1, h2, h3⟩ := he k t ht
    by_cases e : t'.g = t.g
    · exact .empty h1 (by omega)
    · exact .staleS h1 (by omega) rfl
  | @staleP k o g t v' ht hg h1 =>
    obtain ⟨t', h2, h3, _⟩ := he k t ht
    exact .staleP h2 (by omega) h1
  | @staleS k o g n c t v' ht hg h1 =>
    obtain ⟨t', h2, h3, _⟩ := he k t ht
    exact .staleS h2 (by omega) h1
  | @map k L t ht hg hl =>
    obtain ⟨t', h1, h2, h3⟩ := he k t ht
    by_cases e : t'.g = t.g
    · obtain ⟨rfl, hi⟩ := h3 e
      exact .map h1 hg (hi.trans hl)
    · exact .staleM h1 (by omega) rfl
  | @staleM k t v' ht hg h1 =>
    obtain ⟨t', h2, h3, _⟩ := he k t ht
    exact .staleM h2 (by omega) h1
  | func hf hc _ _ ih1 ih2 => exact .func hf hc ih1 ih2
  | iface _ ih => exact .iface ih
  | agg hs h1 _ ih => exact .agg hs h1 ih
  | tuple hs _ ih => exact .tuple hs ih

abbrev tags (H : Heap) : List Tag := H.map AObj.tag

def ObjOk (prot : Nat → Prop) (w : World) (T : List Tag) (ι : Inj) (k : Nat) : AObj → Prop
  | .cells _ _ ro cs =>
    (ι[k]? = some none ∧ cs = []) ∨
    ∃ L rc t fr, ι[k]? = some (some L) ∧ w.heap[L.blk]? = some (.cells rc t fr) ∧ rc.size = L.off + L.room ∧ cs.length ≤ L.room ∧
      (∀ (i : Nat) v, cs[i]? = some v → v.oneCell' = true ∧ ∃ v', rc[L.off + i]? = some v' ∧ VRel T ι v v') ∧
      (ro = true → prot L.blk) ∧ (ro = false → ¬ prot L.blk ∧ fr = (0, 0))
  | .map es clock =>
    ∃ L es', ι[k]? = some (some L) ∧ w.heap[L.blk]? = some (.map es' clock) ∧ ¬ prot L.blk ∧ es.length = es'.size ∧
      ∀ (i : Nat) e, es[i]? = some e → ∃ e', es'[i]? = some e' ∧ e'.key = e.key ∧ e'.born = e.born ∧ VRel T ι e.val e'.val
  | .iter r since seen c0 =>
    ∃ L bm, ι[k]? = some (some L) ∧ w.heap[L.blk]? = some (.mapIter (some bm) since seen.toArray c0) ∧ ¬ prot L.blk ∧ L.off = 0 ∧ VRel T ι (.map (some r)) (.map (some bm))

theorem ObjOk.ext {prot : Nat → Prop} {w w' : World} {T T' : List Tag} {ι ι' : Inj} {k : Nat} {o : AObj} (h : ObjOk prot w T ι k o) (he : Ext T ι T' ι') (hi : ι'[k]? = ι[k]?)
    (hw : ∀ L, ι[k]? = some (some L) → w'.heap[L.blk]? = w.heap[L.blk]?) : ObjOk prot w' T' ι' k o := by
  cases o with
  | cells g esz ro cs =>
    rcases h with ⟨h1, h2⟩ | ⟨L, rc, t, fr, h1, h2, h3, h4, h5, h6, h7⟩
    · exact .inl ⟨hi.trans h1, h2⟩
    · refine .inr ⟨L, rc, t, fr, hi.trans h1, (hw L h1).trans h2, h3, h4, fun i v hv => ?_, h6, h7⟩
      obtain ⟨a, v', b, c⟩ := h5 i v hv
      exact ⟨a, v', b, c.ext he⟩
  | map es clock =>
    obtain ⟨L, es', h1, h2, h3, h4, h5⟩ := h
    refine ⟨L, es', hi.trans h1, (hw L h1).trans h2, h3, h4, fun i e hv => ?_⟩
    obtain ⟨e', a, b, c, d⟩ := h5 i e hv
    exact ⟨e', a, b, c, d.ext he⟩
  | iter r since seen c0 =>
    obtain ⟨L, bm, h1, h2, h3, h4, h5⟩ := h
    exact ⟨L, bm, hi.trans h1, (hw L h1).trans h2, h3, h4, h5.ext he⟩

def RW (T : List Tag) (k : Nat) : Prop := ∃ t, T[k]? = some t ∧ t.ro = false

/-- The real memory w bears the abstract heap H, the objects lying where ι says; what is protected is as in B. -/
structure HSim (prot : Nat → Prop) (B w : World) (ι : Inj) (H : Heap) : Prop where
  len : ι.length = H.length
  os : w.os = B.os
  tape : w.tape = B.tape
  output : w.output = B.output
  size : B.heap.size ≤ w.heap.size
  low : ∀ b, prot b → b < B.heap.size
  frame : ∀ b, prot b → w.heap[b]? = B.heap[b]?
  obj : ∀ (k : Nat) o, H[k]? = some o → ObjOk prot w (tags H) ι k o
  sep : ∀ (j k : Nat) L L', j ≠ k → ι[j]? = some (some L) → ι[k]? = some (some L') → RW (tags H) j → RW (tags H) k → L.blk ≠ L'.blk
  glob : GL prot B

theorem ObjOk.lt {prot : Nat → Prop} {w : World} {T : List Tag} {ι : Inj} {k : Nat} {o : AObj} {L : Loc} (h : ObjOk prot w T ι k o) (hl : ι[k]? = some (some L)) : L.blk < w.heap.size := by
  have key : ∀ x, w.heap[L.blk]? = some x → L.blk < w.heap.size := fun x hx => (Array.getElem?_eq_some_iff.1 hx).1
  cases o with
  | cells g esz ro cs =>
    rcases h with ⟨h1, h2⟩ | ⟨L', rc, t, fr, h1, h2, _⟩
    · rw [h1] at hl; cases hl
    · rw [h1] at hl; cases hl; exact key _ h2
  | map es clock =>
    obtain ⟨L', es', h1, h2, _⟩ := h
    rw [h1] at hl; cases hl; exact key _ h2
  | iter r since seen c0 =>
    obtain ⟨L', bm, h1, h2, _⟩ := h
    rw [h1] at hl; cases hl; exact key _ h2

theorem HSim.loc_lt {prot : Nat → Prop} {B w : World} {ι : Inj} {H : Heap} (h : HSim prot B w ι H) {k : Nat} {L : Loc} (hl : ι[k]? = some (some L)) : L.blk < w.heap.size := by
  have hk : k < H.length := by rw [← h.len]; exact (List.getElem?_eq_some_iff.1 hl).1
  exact (h.obj k _ (List.getElem?_eq_getElem hk)).lt hl

/-- Of two different objects the one that may be written shares no block with the other one. -/
theorem HSim.apart {prot : Nat → Prop} {B w : World} {ι : Inj} {H : Heap} (h : HSim prot B w ι H) {j k : Nat} {L L' : Loc} (hjk : j ≠ k) (hj : ι[j]? = some (some L)) (hk : ι[k]? = some (some L'))
    (hrw : RW (tags H) k) : L.blk ≠ L'.blk := by
  have hkl : k < H.length := by rw [← h.len]; exact (List.getElem?_eq_some_iff.1 hk).1
  have hjl : j < H.length := by rw [← h.len]; exact (List.getElem?_eq_some_iff.1 hj).1
  have ok := h.obj k _ (List.getElem?_eq_getElem hkl)
  have oj := h.obj j _ (List.getElem?_eq_getElem hjl)
  obtain ⟨t, ht, hro⟩ := hrw
  by_cases hr : RW (tags H) j
  · exact h.sep j k L L' hjk hj hk hr ⟨t, ht, hro⟩
  · have hpk : ¬ prot L'.blk := by
      generalize e : H[k] = o at ok
      cases o with
      | cells g esz ro cs =>
        have : ro = false := by simp [List.getElem?_eq_getElem hkl, e] at ht; subst ht; exact hro
        rcases ok with ⟨h1, _⟩ | ⟨L2, rc, t2, fr, h1, h2, _, _, _, _, h7⟩
        · rw [h1] at hk; cases hk
        · rw [h1] at hk; cases hk; exact (h7 this).1
      | map es clock => obtain ⟨L2, es', h1, h2, h3, _⟩ := ok; rw [h1] at hk; cases hk; exact h3
      | iter r since seen c0 => obtain ⟨L2, bm, h1, h2, h3, _⟩ := ok; rw [h1] at hk; cases hk; exact h3
    have hpj : prot L.blk := by
      generalize e : H[j] = o at oj
      cases o with
      | cells g esz ro cs =>
        have : ro = true := by
          cases ro with
          | true => rfl
          | false => exact (hr ⟨⟨g, esz, false⟩, by simp [List.getElem?_eq_getElem hjl, e, AObj.tag], rfl⟩).elim
        rcases oj with ⟨h1, _⟩ | ⟨L2, rc, t2, fr, h1, h2, _, _, _, h6, _⟩
        · rw [h1] at hj; cases hj
        · rw [h1] at hj; cases hj; exact h6 this
      | map es clock => exact (hr ⟨⟨0, 0, false⟩, by simp [List.getElem?_eq_getElem hjl, e, AObj.tag], rfl⟩).elim
      | iter r since seen c0 => exact (hr ⟨⟨0, 0, false⟩, by simp [List.getElem?_eq_getElem hjl, e, AObj.tag], rfl⟩).elim
    exact fun e => hpk (e ▸ hpj)

/-- One object turns; the others stay as they were. -/
theorem HSim.replace {prot : Nat → Prop} {B w w' : World} {ι : Inj} {H : Heap} (h : HSim prot B w ι H) {k : Nat} {o' : AObj} (Ln : Option Loc) (hkl : k < H.length)
    (hos : w'.os = w.os) (htape : w'.tape = w.tape) (hout : w'.output = w.output) (hsize : w.heap.size ≤ w'.heap.size)
    (hblocks : ∀ (j : Nat) L, j ≠ k → ι[j]? = some (some L) → w'.heap[L.blk]? = w.heap[L.blk]?) (hprot : ∀ b, prot b → w'.heap[b]? = w.heap[b]?)
    (hext : Ext (tags H) ι (tags (H.set k o')) (ι.set k Ln)) (hobj : ObjOk prot w' (tags (H.set k o')) (ι.set k Ln) k o')
    (hsep : ∀ L, Ln = some L → ∀ (j : Nat) L', j ≠ k → ι[j]? = some (some L') → RW (tags H) j → L'.blk ≠ L.blk) : HSim prot B w' (ι.set k Ln) (H.set k o') := by
  have hkl' : k < ι.length := by rw [h.len]; exact hkl
  have hget : ∀ j, j ≠ k → (ι.set k Ln)[j]? = ι[j]? := fun j hj => by rw [List.getElem?_set_ne (Ne.symm hj)]
  have hself : (ι.set k Ln)[k]? = some Ln := by rw [List.getElem?_set_self hkl']
  have hrw : ∀ j, j ≠ k → RW (tags (H.set k o')) j → RW (tags H) j := fun j hj ⟨t, ht, hr⟩ => ⟨t, by rw [tags, List.getElem?_map, List.getElem?_set_ne (Ne.symm hj)] at ht; rw [tags, List.getElem?_map]; exact ht, hr⟩
  refine ⟨by simp [h.len], hos.trans h.os, htape.trans h.tape, hout.trans h.output, Nat.le_trans h.size hsize, h.low, fun b hb => (hprot b hb).trans (h.frame b hb), fun j o hj => ?_, fun i j L L' hij hi hj ri rj => ?_, h.glob⟩
  · by_cases e : j = k
    · subst e; rw [List.getElem?_set_self hkl] at hj; cases hj; exact hobj
    · rw [List.getElem?_set_ne (Ne.symm e)] at hj
      exact (h.obj j o hj).ext hext (hget j e) (fun L hL => hblocks j L e hL)
  · by_cases ei : i = k
    · subst ei
      rw [hself] at hi
      have ej : j ≠ i := Ne.symm hij
      rw [hget j ej] at hj
      exact Ne.symm (hsep L (by simpa using hi) j L' ej hj (hrw j ej rj))
    · rw [hget i ei] at hi
      by_cases ej : j = k
      · subst ej
        rw [hself] at hj
        exact hsep L' (by simpa using hj) i L ei hi (hrw i ei ri)
      · rw [hget j ej] at hj
        exact h.sep i j L L' hij hi hj (hrw i ei ri) (hrw j ej rj)

/-- A new object comes. -/
theorem HSim.push {prot : Nat → Prop} {B w w' : World} {ι : Inj} {H : Heap} (h : HSim prot B w ι H) {o' : AObj} (Ln : Option Loc)
    (hos : w'.os = w.os) (htape : w'.tape = w.tape) (hout : w'.output = w.output) (hsize : w.heap.size ≤ w'.heap.size)
    (hblocks : ∀ b, b < w.heap.size → w'.heap[b]? = w.heap[b]?)
    (hobj : ObjOk prot w' (tags (H ++ [o'])) (ι ++ [Ln]) H.length o')
    (hsep : ∀ L, Ln = some L → o'.tag.ro = false → w.heap.size ≤ L.blk) : HSim prot B w' (ι ++ [Ln]) (H ++ [o']) ∧ Ext (tags H) ι (tags (H ++ [o'])) (ι ++ [Ln]) := by
  have hget : ∀ j, j < H.length → (ι ++ [Ln])[j]? = ι[j]? := fun j hj => List.getElem?_append_left (by rw [h.len]; exact hj)
  have hself : (ι ++ [Ln])[H.length]? = some Ln := by rw [← h.len]; simp
  have hext : Ext (tags H) ι (tags (H ++ [o'])) (ι ++ [Ln]) := fun k t ht => by
    have hk : k < H.length := by have := (List.getElem?_eq_some_iff.1 ht).1; simpa using this
    exact ⟨t, by rw [tags, List.map_append, List.getElem?_append_left (by simpa using hk)]; exact ht, Nat.le_refl _, fun _ => ⟨rfl, hget k hk⟩⟩
  have hrw : ∀ j, j < H.length → RW (tags (H ++ [o'])) j → RW (tags H) j := fun j hj ⟨t, ht, hr⟩ =>
    ⟨t, by rw [tags, List.map_append, List.getElem?_append_left (by simpa using hj)] at ht; exact ht, hr⟩
  have hlast : ∀ j, j < (ι ++ [Ln]).length → ¬ j < H.length → j = H.length := fun j h1 h2 => by simp [h.len] at h1; omega
  have hnew : RW (tags (H ++ [o'])) H.length → o'.tag.ro = false := fun ⟨t, ht, hr⟩ => by simp at ht; rw [ht]; exact hr
  refine ⟨⟨by simp [h.len], hos.trans h.os, htape.trans h.tape, hout.trans h.output, Nat.le_trans h.size hsize, h.low, fun b hb => (hblocks b (Nat.lt_of_lt_of_le (h.low b hb) h.size)).trans (h.frame b hb), fun j o hj => ?_, fun i j L L' hij hi hj ri rj => ?_, h.glob⟩, hext⟩
  · by_cases e : j < H.length
    · rw [List.getElem?_append_left e] at hj
      exact (h.obj j o hj).ext hext (hget j e) (fun L hL => hblocks _ (h.loc_lt hL))
    · have hjl : j < (H ++ [o']).length := (List.getElem?_eq_some_iff.1 hj).1
      have : j = H.length := by simp at hjl; omega
      subst this
      simp at hj; subst hj; exact hobj
  · have hil := (List.getElem?_eq_some_iff.1 hi).1
    have hjl := (List.getElem?_eq_some_iff.1 hj).1
    by_cases ei : i < H.length
    · rw [hget i ei] at hi
      by_cases ej : j < H.length
      · rw [hget j ej] at hj
        exact h.sep i j L L' hij hi hj (hrw i ei ri) (hrw j ej rj)
      · have := hlast j hjl ej
        subst this
        rw [hself] at hj
        have := hsep L' (by simpa using hj) (hnew rj)
        have := h.loc_lt hi
        omega
    · have := hlast i hil ei
      subst this
      rw [hself] at hi
      have ej : j < H.length := by
        rcases Nat.lt_or_ge j H.length with h' | h'
        · exact h'
        · exact (hij (hlast j hjl (by omega)).symm).elim
      rw [hget j ej] at hj
      have := hsep L (by simpa using hi) (hnew ri)
      have := h.loc_lt hj
      omega

theorem HSim.drew {prot : Nat → Prop} {B w : World} {ι : Inj} {H : Heap} (h : HSim prot B w ι H) : HSim prot B w.drew ι H :=
  ⟨h.len, h.os, h.tape, h.output, h.size, h.low, h.frame, fun k o hk => (h.obj k o hk).ext (.refl _ _) rfl (fun _ _ => rfl), h.sep, h.glob⟩

/-- An object without cells, that lies nowhere: a slice that is nil, or without room. -/
theorem HSim.ghost {prot : Nat → Prop} {B w : World} {ι : Inj} {H : Heap} (h : HSim prot B w ι H) (esz : Nat) (ro : Bool) :
    HSim prot B w (ι ++ [none]) (H ++ [.cells 0 esz ro []]) ∧ Ext (tags H) ι (tags (H ++ [.cells 0 esz ro []])) (ι ++ [none]) :=
  h.push none rfl rfl rfl (Nat.le_refl _) (fun _ _ => rfl) (.inl ⟨by rw [← h.len]; simp, rfl⟩) (fun L hL => by cases hL)

end Go.Am
