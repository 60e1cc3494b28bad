import Derived.Test.YtabjglejldapgaaLib
import Derived.Test.YtabjglejldapgaaLay
import Derived.Test.YtabjglejldapgaaPlain
import Derived.Test.YtabjglejldapgaaFns
import Derived.Shelf.SlSortCmp.Whole1
import Derived.Deep.QuietTactic
/- slices.SortFunc by the ratio of what is wanted and the weight: the kit's contract, told of abstract heaps. -/
set_option linter.unusedVariables false
namespace Go.Proofs.Ytabjglejldapgaa
open Go Go.Am Go.Shelf Go.Sort

set_option maxHeartbeats 2000000 in
theorem ratio_call (bw ow cw bc oc cc pw po pc qo n : Nat) (W : World) (w c : Nat → Int) (hw : W.cell? ⟨pw, po, none⟩ = some (.slice (some ⟨bw, ow, none⟩) n cw)) (hc : W.cell? ⟨pc, qo, none⟩ = some (.slice (some ⟨bc, oc, none⟩) n cc))
    (gw : ∀ t, t < n → W.cell? ⟨bw, ow + t, none⟩ = some (.int .i64 (w t))) (gc : ∀ t, t < n → W.cell? ⟨bc, oc + t, none⟩ = some (.int .i64 (c t)))
    (rw : ∀ t, t < n → 0 ≤ w t ∧ w t ≤ 1048576) (rc : ∀ t, t < n → 1 ≤ c t ∧ c t ≤ 1000) (i j : Nat) (hi : i < n) (hj : j < n) :
    Calls Try.prog 17 #[.int .i64 i, .int .i64 j, .pointer (some ⟨pw, po, none⟩), .pointer (some ⟨pc, qo, none⟩)] W fun e w' => e = .returned (.int .i64 (w i * c j - w j * c i)) ∧ ∃ q, w' = W.drewN q := by
  have wi := gw i hi
  have wj := gw j hj
  have ci := gc i hi
  have cj := gc j hj
  have r1 := rw i hi
  have r2 := rw j hj
  have r3 := rc i hi
  have r4 := rc j hj
  have p1 := Int.mul_le_mul r1.2 r4.2 (by omega) (by omega)
  have p2 := Int.mul_le_mul r2.2 r3.2 (by omega) (by omega)
  have p3 := Int.mul_nonneg r1.1 (show 0 ≤ c j by omega)
  have p4 := Int.mul_nonneg r2.1 (show 0 ≤ c i by omega)
  have e1 : IntKind.i64.wrap (w i * c j) = w i * c j := by rw [IntKind.wrap_i64]; omega
  have e2 : IntKind.i64.wrap (w j * c i) = w j * c i := by rw [IntKind.wrap_i64]; omega
  have e3 : IntKind.i64.wrap (w i * c j - w j * c i) = w i * c j - w j * c i := by rw [IntKind.wrap_i64]; omega
  go_enter Try.func17, Try.ntmps17
  go_wp2
  go_quiet (fail)
  go_wp2
  go_ret
  exact ⟨rfl, nq, rfl⟩

section
variable {n : Nat}
def encF (x : Fin n) : Value := .int .i64 (x.val : Int)
def cfF (w c : Nat → Int) (x y : Fin n) : Int := w x.val * c y.val - w y.val * c x.val
theorem cf_lt (w c : Nat → Int) (x y : Fin n) : ltOf (cfF w c) x y = decide (w x.val * c y.val < w y.val * c x.val) := by
  unfold ltOf cfF
  congr 1
  exact propext ⟨fun h => by omega, fun h => by omega⟩
theorem cf_swo (w c : Nat → Int) (hc : ∀ t, t < n → 1 ≤ c t) : SWO (ltOf (cfF (n := n) w c)) where
  irrefl x := by rw [cf_lt]; simp
  trans x y z h1 h2 := by
    rw [cf_lt] at *
    simp only [decide_eq_true_eq] at *
    have c1 := hc x.val x.isLt
    have c2 := hc y.val y.isLt
    have c3 := hc z.val z.isLt
    generalize w x.val = wx at *
    generalize w y.val = wy at *
    generalize w z.val = wz at *
    generalize c x.val = cx at *
    generalize c y.val = cy at *
    generalize c z.val = cz at *
    have m1 := mul_lt3 h1 (show 0 < cz by omega)
    have m2 := mul_lt3 h2 (show 0 < cx by omega)
    have e1 : wx * cy * cz = wx * cz * cy := by rw [Int.mul_assoc, Int.mul_comm cy, ← Int.mul_assoc]
    have e2 : wy * cx * cz = wy * cz * cx := by rw [Int.mul_assoc, Int.mul_comm cx, ← Int.mul_assoc]
    have e3 : wz * cy * cx = wz * cx * cy := by rw [Int.mul_assoc, Int.mul_comm cy, ← Int.mul_assoc]
    exact Int.lt_of_mul_lt_mul_right (a := cy) (by omega) (by omega)
  ntrans x y z h1 h2 := by
    rw [cf_lt] at *
    simp only [decide_eq_false_iff_not, Int.not_lt] at *
    have c1 := hc x.val x.isLt
    have c2 := hc y.val y.isLt
    have c3 := hc z.val z.isLt
    generalize w x.val = wx at *
    generalize w y.val = wy at *
    generalize w z.val = wz at *
    generalize c x.val = cx at *
    generalize c y.val = cy at *
    generalize c z.val = cz at *
    have m1 := mul_le3 h1 (show 0 ≤ cz by omega)
    have m2 := mul_le3 h2 (show 0 ≤ cx by omega)
    have e1 : wx * cy * cz = wx * cz * cy := by rw [Int.mul_assoc, Int.mul_comm cy, ← Int.mul_assoc]
    have e2 : wy * cx * cz = wy * cz * cx := by rw [Int.mul_assoc, Int.mul_comm cx, ← Int.mul_assoc]
    have e3 : wz * cy * cx = wz * cx * cy := by rw [Int.mul_assoc, Int.mul_comm cy, ← Int.mul_assoc]
    exact Int.le_of_mul_le_mul_right (a := cy) (by omega) (by omega)
theorem put_other {α : Type} [Inhabited α] (enc : α → Value) (w : World) (blk off : Nat) (d : Array α) {b : Nat} (h : b ≠ blk) : (putRow enc w blk off d).heap[b]? = w.heap[b]? := by
  simp only [putRow, mapBlock, Array.getElem?_modify]; rw [if_neg (Ne.symm h)]
theorem put_self {α : Type} [Inhabited α] (enc : α → Value) (w : World) (blk off : Nat) (d : Array α) {rc : Array Value} {t : TypeId} {fr : Nat × Nat} (h : w.heap[blk]? = some (.cells rc t fr)) : (putRow enc w blk off d).heap[blk]? = some (.cells (putCells enc off d rc) t fr) := by
  have hlt : blk < w.heap.size := (Array.getElem?_eq_some_iff.1 h).1
  have hv : w.heap[blk] = .cells rc t fr := (Array.getElem?_eq_some_iff.1 h).2
  simp only [putRow, mapBlock]
  rw [Array.getElem?_eq_getElem (by simpa using hlt), Array.getElem_modify]
  simp [hv, onCells]
theorem put_size {α : Type} [Inhabited α] (enc : α → Value) (w : World) (blk off : Nat) (d : Array α) : (putRow enc w blk off d).heap.size = w.heap.size := by simp [putRow, mapBlock]
theorem sw_other {α : Type} [Inhabited α] (enc : α → Value) (w : World) (blk off m : Nat) (d : Array α) (os : Array Obj) {b : Nat} (h : b ≠ blk) (hb : b < w.heap.size) : (sortWorld enc w blk off m d os).heap[b]? = w.heap[b]? := by
  unfold sortWorld
  rw [heap_grow_old _ _ (by rw [put_size]; exact hb), put_other _ _ _ _ _ h]; rfl
theorem sw_self {α : Type} [Inhabited α] (enc : α → Value) (w : World) (blk off m : Nat) (d : Array α) (os : Array Obj) {rc : Array Value} {t : TypeId} {fr : Nat × Nat} (h : w.heap[blk]? = some (.cells rc t fr)) : (sortWorld enc w blk off m d os).heap[blk]? = some (.cells (putCells enc off d rc) t fr) := by
  have hlt : blk < w.heap.size := (Array.getElem?_eq_some_iff.1 h).1
  unfold sortWorld
  rw [heap_grow_old _ _ (by rw [put_size]; exact hlt)]
  exact put_self enc (Sort.ahead w m) blk off d h
theorem cell_sw {α : Type} [Inhabited α] (enc : α → Value) (w : World) (blk off m : Nat) (d : Array α) (os : Array Obj) {b o : Nat} {v : Value} (h : b ≠ blk) (hc : w.cell? ⟨b, o, none⟩ = some v) : (sortWorld enc w blk off m d os).cell? ⟨b, o, none⟩ = some v := by
  have hb : b < w.heap.size := by
    by_cases hh : b < w.heap.size
    · exact hh
    · exfalso
      simp [World.cell?, Array.getElem?_eq_none (show w.heap.size ≤ b by omega)] at hc
  simp only [World.cell?, sw_other enc w blk off m d os h hb] at hc ⊢
  exact hc
end
section
variable {prot : Nat → Prop} {B w : World} {ι : Inj} {H : Heap}
theorem ptr_at {T : List Tag} {ι : Inj} {k o g : Nat} {v' : Value} {t : Tag} (h : VRel T ι (.pointer (some ⟨k, o, some (g + 1)⟩)) v') (ht : T[k]? = some t) (hg : t.g = g) : ∃ L, ι[k]? = some (some L) ∧ v' = .pointer (some ⟨L.blk, L.off + o, none⟩) := by
  cases h with
  | flat h => simp [Am.flat] at h
  | ptr ht' _ hl => exact ⟨_, hl, rfl⟩
  | staleP ht' hg' _ => rw [ht] at ht'; cases ht'; omega
theorem int_eq {T : List Tag} {ι : Inj} {kd : IntKind} {n : Int} {v' : Value} (h : VRel T ι (.int kd n) v') : v' = .int kd n := by cases h; rfl
theorem slice_at {T : List Tag} {ι : Inj} {k o g n c : Nat} {v' : Value} {t : Tag} (h : VRel T ι (.slice (some ⟨k, o, some (g + 1)⟩) n c) v') (ht : T[k]? = some t) (hg : t.g = g) (hc : 0 < c) :
    ∃ L c', ι[k]? = some (some L) ∧ v' = .slice (some ⟨L.blk, L.off + o, none⟩) n c' ∧ c ≤ c' := by
  cases h with
  | flat h => simp [Am.flat] at h
  | slice ht' _ hl hc' hr => exact ⟨_, _, hl, rfl, hc'⟩
  | empty => omega
  | staleS ht' hg' _ => rw [ht] at ht'; cases ht'; omega
theorem func_at {T : List Tag} {ι : Inj} {fn : Fn} {p q : Value} {v' : Value} (h : VRel T ι (.func fn #[] #[p, q]) v') : ∃ p' q', v' = .func fn #[] #[p', q'] ∧ VRel T ι p p' ∧ VRel T ι q q' := by
  cases h with
  | flat h => simp [Am.flat] at h
  | @func _ _ f' _ c' hf hc hfs hcs =>
    have h1 : f' = #[] := Array.eq_empty_of_size_eq_zero (by simpa using hf.symm)
    subst h1
    have hs : c'.size = 2 := by simpa using hc.symm
    have hc2 : c' = #[c'[0], c'[1]] := by
      apply Array.ext
      · simp [hs]
      · intro i h1 h2
        have : i = 0 ∨ i = 1 := by omega
        rcases this with rfl | rfl <;> rfl
    refine ⟨c'[0], c'[1], by rw [← hc2], hcs 0 p _ rfl (Array.getElem?_eq_getElem _), hcs 1 q _ rfl (Array.getElem?_eq_getElem _)⟩
/-- Numbers as they really read. -/
theorem real_ints (hs : HSim prot B w ι H) {k o g : Nat} {l : List Int} (h : Ints H k o g l) {L : Am.Loc} (hl : ι[k]? = some (some L)) (t : Nat) (ht : t < l.length) : w.cell? ⟨L.blk, L.off + o + t, none⟩ = some (.int .i64 (l.getD t 0)) := by
  obtain ⟨ro, cs, hk, _, hc⟩ := Ints.cell h
  obtain ⟨rc, ty, fr, a1, _, _, a4, _, _⟩ := hs.row hk hl
  obtain ⟨_, v', h1, h2⟩ := a4 _ _ (hc t ht)
  rw [show L.off + o + t = L.off + (o + t) by omega]
  simp only [World.cell?, a1]
  rw [int_eq h2] at h1
  simpa using h1
theorem ext_full {α : Type} (a : Array α) {n : Nat} (h : a.size = n) : a.extract 0 n = a := by subst h; exact Array.extract_size
/-- The places, in their order. -/
def idx0 (n : Nat) : List Int := (List.range n).map fun (i : Nat) => (i : Int)
theorem idx0_get (n i : Nat) (h : i < n) : (ints (idx0 n))[i]? = some (.int .i64 i) := by
  simp [ints, idx0, h]
theorem Sort_lift {n : Nat} (hn : 0 < n) (wl cl : List Int) (hwn : wl.length = n) (hcn : cl.length = n) (rw' : ∀ t, t < n → 0 ≤ wl.getD t 0 ∧ wl.getD t 0 ≤ 1048576) (rc' : ∀ t, t < n → 1 ≤ cl.getD t 0 ∧ cl.getD t 0 ≤ 1000) (h16 : n ≤ 16)
    (k g K1 g1 e1 K2 g2 e2 kw ow gw cw kc oc gc cc : Nat) (H : Heap) (hb : H[k]? = some (.cells g 1 false (ints (idx0 n))))
    (h1 : H[K1]? = some (.cells g1 e1 false [slv kw ow gw n cw])) (h2 : H[K2]? = some (.cells g2 e2 false [slv kc oc gc n cc])) (hw : Ints H kw ow gw wl) (hc : Ints H kc oc gc cl) (hcw : n ≤ cw) (hcc : n ≤ cc) (n1 : K1 ≠ k) (n2 : K2 ≠ k) (n3 : kw ≠ k) (n4 : kc ≠ k) (hfn : fnOk Try.prog 16) :
    ACallK Try.prog 16 [slv k 0 g n n, .func (.func 17) #[] #[.pointer (some ⟨K1, 0, some (g1 + 1)⟩), .pointer (some ⟨K2, 0, some (g2 + 1)⟩)]] H (fun v H' => v = .tuple #[] ∧ ∃ p : List Nat, p.Perm (List.range n) ∧ p.Pairwise (before ⟨n, fun i => wl.getD i 0, fun i => cl.getD i 0⟩) ∧ H' = H.set k (.cells g 1 false (ints (p.map fun (i : Nat) => (i : Int))))) := by
  refine ⟨hfn, fun prot B ι w args' hs hargs => ?_⟩
  obtain ⟨s', r1, q1, hs', hr1⟩ := hargs.uncons
  obtain ⟨f', r2, q2, hf', hr2⟩ := hr1.uncons
  have q3 := hr2.unnil
  have hargs' : args' = #[s', f'] := by apply Array.toList_inj.1; rw [q1, q2, q3]
  subst hargs'
  clear hargs q1 hr1 hr2 q2 q3
  have hkl : k < H.length := (List.getElem?_eq_some_iff.1 hb).1
  have hkι : k < ι.length := by rw [hs.len]; exact hkl
  have hrw : RW (tags H) k := ⟨_, tag_at hb, rfl⟩
  obtain ⟨L, c', hL, rfl, hcap⟩ := slice_at hs' (tag_at hb) rfl hn
  obtain ⟨p1, p2, rfl, hp1, hp2⟩ := func_at hf'
  obtain ⟨L1, hL1, rfl⟩ := ptr_at hp1 (tag_at h1) rfl
  obtain ⟨L2, hL2, rfl⟩ := ptr_at hp2 (tag_at h2) rfl
  -- what the boxes hold
  obtain ⟨rc1, t1, fr1, a1, _, _, a4, _, _⟩ := hs.row h1 hL1
  obtain ⟨rc2, t2, fr2, b1, _, _, b4, _, _⟩ := hs.row h2 hL2
  obtain ⟨_, v1, c1, d1⟩ := a4 0 _ rfl
  obtain ⟨_, v2, c2, d2⟩ := b4 0 _ rfl
  obtain ⟨row, csw, hkw, _, _⟩ := Ints.cell hw
  obtain ⟨roc, csc, hkc, _, _⟩ := Ints.cell hc
  obtain ⟨Lw, cw', hLw, rfl, _⟩ := slice_at d1 (tag_at hkw) rfl (by omega)
  obtain ⟨Lc, cc', hLc, rfl, _⟩ := slice_at d2 (tag_at hkc) rfl (by omega)
  have hb1 : L1.blk ≠ L.blk := hs.apart n1 hL1 hL hrw
  have hb2 : L2.blk ≠ L.blk := hs.apart n2 hL2 hL hrw
  have hb3 : Lw.blk ≠ L.blk := hs.apart n3 hLw hL hrw
  have hb4 : Lc.blk ≠ L.blk := hs.apart n4 hLc hL hrw
  have x1 : w.cell? ⟨L1.blk, L1.off + 0, none⟩ = some (.slice (some ⟨Lw.blk, Lw.off + ow, none⟩) n cw') := by simpa [World.cell?, a1] using c1
  have x2 : w.cell? ⟨L2.blk, L2.off + 0, none⟩ = some (.slice (some ⟨Lc.blk, Lc.off + oc, none⟩) n cc') := by simpa [World.cell?, b1] using c2
  have yw := fun t (ht : t < n) => real_ints hs hw hLw t (by omega)
  have yc := fun t (ht : t < n) => real_ints hs hc hLc t (by omega)
  obtain ⟨rc, ty, fr, z1, z2, z3, z4, _, z6⟩ := hs.row hb hL
  obtain ⟨z7, rfl⟩ := z6 rfl
  haveI : Inhabited (Fin n) := ⟨⟨0, hn⟩⟩
  have hdl : (Array.ofFn fun i : Fin n => i).size = n := by simp
  have hdg : ∀ j (hj : j < n), (Array.ofFn fun i : Fin n => i)[j]! = ⟨j, hj⟩ := fun j hj => by
    rw [getElem!_pos _ j (by simpa using hj)]; simp
  have hlen0 : (ints (idx0 n)).length = n := by simp [ints, idx0]
  have hblk : L.blk < w.heap.size := (Array.getElem?_eq_some_iff.1 z1).1
  have hH : Holds (encF (n := n)) w L.blk (L.off + 0) (Array.ofFn fun i : Fin n => i) := fun j hj => by
    rw [hdl] at hj
    obtain ⟨_, v', u1, u2⟩ := z4 j _ (idx0_get n j hj)
    rw [hdg j hj]
    refine ⟨?_, by simp [World.frozen?, z1]⟩
    rw [int_eq u2] at u1
    simpa [World.cell?, z1, encF] using u1
  have hcmp : CmpLays1 Try.prog 17 #[.pointer (some ⟨L1.blk, L1.off + 0, none⟩), .pointer (some ⟨L2.blk, L2.off + 0, none⟩)] (encF (n := n)) (cfF (fun i => wl.getD i 0) (fun i => cl.getD i 0)) L.blk (L.off + 0) (Array.ofFn fun i : Fin n => i).size w := fun m os dk hds x y => by
    refine (ratio_call Lw.blk (Lw.off + ow) cw' Lc.blk (Lc.off + oc) cc' L1.blk (L1.off + 0) L2.blk (L2.off + 0) n (sortWorld encF w L.blk (L.off + 0) m dk os) (fun i => wl.getD i 0) (fun i => cl.getD i 0) (cell_sw _ _ _ _ _ _ _ hb1 x1) (cell_sw _ _ _ _ _ _ _ hb2 x2)
      (fun t ht => cell_sw _ _ _ _ _ _ _ hb3 (yw t ht)) (fun t ht => cell_sw _ _ _ _ _ _ _ hb4 (yc t ht)) rw' rc' x.val y.val x.isLt y.isLt).mono ?_
    rintro e w' ⟨rfl, q, rfl⟩
    exact ⟨rfl, q, #[], (grow_empty _).symm⟩
  have hcon := Any.slices_SortFunc laysS (encF (n := n)) (fun _ => rfl) _ (cf_swo _ _ fun t ht => (rc' t ht).1) 17 _ L.blk (L.off + 0) c' _ w (enters_of Try.func17 (by kernel_rfl) rfl) hcmp hH hblk (by rw [hdl]; omega)
  rw [hdl] at hcon
  refine (show Calls Try.prog 16 _ w _ from hcon).mono ?_
  rintro e w' ⟨rfl, d', q, os, hperm, hsort, rfl⟩
  have hsz : d'.size = n := by have := hperm.1; rwa [hdl] at this
  have hget : ∀ i (hi : i < n), d'[i]! = d'[i]'(by omega) := fun i hi => getElem!_pos _ i (by omega)
  have hlp : (d'.toList.map fun x => x.val).length = n := by simp [hsz]
  have hp : (d'.toList.map fun x => x.val).Perm (List.range n) := by
    have h3 := hperm.2.2
    rw [ext_full d' hsz, ext_full _ hdl] at h3
    have h4 := h3.map fun x : Fin n => x.val
    have e3 : (Array.ofFn fun i : Fin n => i).toList.map (fun x : Fin n => x.val) = List.range n := by
      apply List.ext_getElem
      · simp
      · intro i h1 h2; simp
    rwa [e3] at h4
  have hpw : (d'.toList.map fun x => x.val).Pairwise (before ⟨n, fun i => wl.getD i 0, fun i => cl.getD i 0⟩) := by
    rw [List.pairwise_iff_getElem]
    intro i j hi hj hij
    rw [hlp] at hi hj
    have h3 := hsort i j (Nat.zero_le _) hij hj
    rw [hget i hi, hget j hj, cf_lt] at h3
    simp only [decide_eq_false_iff_not, Int.not_lt] at h3
    simpa [before] using h3
  generalize hpd : (d'.toList.map fun x => x.val) = p at *
  have hcell : ∀ (i : Nat) v, (ints (p.map fun (i : Nat) => (i : Int)))[i]? = some v → v.oneCell' = true ∧ ∃ v', (putCells encF (L.off + 0) d' rc)[L.off + i]? = some v' ∧ VRel (tags H) ι v v' := fun i v hv => by
    have hi : i < n := by
      have := (List.getElem?_eq_some_iff.1 hv).1
      simp [ints, hlp] at this
      exact this
    have hv2 : v = .int .i64 ((d'[i]'(by omega)).val : Int) := by
      subst hpd
      simp [ints, hsz, hi] at hv
      exact hv.symm
    subst hv2
    refine ⟨rfl, _, ?_, .flat rfl⟩
    have hlt : L.off + i < rc.size := by rw [z2]; omega
    simp only [putCells, Array.getElem?_mapIdx, Array.getElem?_eq_getElem hlt, Option.map_some]
    rw [if_pos ⟨by omega, by omega⟩, show L.off + i - (L.off + 0) = i by omega, hget i hi]
    rfl
  have htag : tags (H.set k (.cells g 1 false (ints (p.map fun (i : Nat) => (i : Int))))) = tags H := by
    apply List.ext_getElem?
    intro j
    simp only [tags, List.getElem?_map, List.getElem?_set]
    by_cases hj : k = j
    · subst hj; rw [hb]; simp [hkl, AObj.tag]
    · simp [hj]
  have hsetι : ι.set k (some L) = ι := by
    apply List.ext_getElem?
    intro j
    rw [List.getElem?_set]
    by_cases hj : k = j
    · subst hj; rw [hL]; simp [hkι]
    · simp [hj]
  have hrep := hs.replace (w' := sortWorld encF w L.blk (L.off + 0) q d' os) (o' := .cells g 1 false (ints (p.map fun (i : Nat) => (i : Int)))) (some L) hkl rfl rfl rfl (by unfold sortWorld; rw [size_grow, put_size]; show w.heap.size ≤ w.heap.size + _; omega)
    (fun j L' hj hL' => sw_other _ _ _ _ _ _ _ (hs.apart hj hL' hL hrw) (hs.loc_lt hL')) (fun b hb' => sw_other _ _ _ _ _ _ _ (fun e => z7 (e ▸ hb')) (Nat.lt_of_lt_of_le (hs.low _ hb') hs.size))
    (by rw [htag, hsetι]; exact .refl _ _) ?_ (fun L1 hL1 j L' hj hL' _ => by cases hL1; exact hs.apart hj hL' hL hrw)
  · rw [hsetι] at hrep
    exact ⟨.tuple #[], .tuple #[], ι, _, rfl, hrep, by rw [htag]; exact .refl _ _, .tuple rfl (fun i v v' h => by simp at h), rfl, p, hp, hpw, rfl⟩
  · rw [htag, hsetι]
    refine .inr ⟨L, _, ty, (0, 0), hL, sw_self _ _ _ _ _ _ _ z1, ?_, ?_, hcell, fun h => (by cases h), fun _ => ⟨z7, rfl⟩⟩
    · simp [putCells, z2]
    · have : (ints (p.map fun (i : Nat) => (i : Int))).length = n := by simp [ints, hlp]
      omega
end
end Go.Proofs.Ytabjglejldapgaa
