import Derived.Test.YtabcjhpgamhpoaaSeq
import Derived.Test.YtabcjhpgamhpoaaLay
import Derived.Test.YtabcjhpgamhpoaaLib
/- slices.AppendSeq of slices.Values, and slices.Sort, told of abstract heaps. -/
set_option linter.unusedVariables false
set_option linter.unusedSimpArgs false
set_option maxHeartbeats 2000000
namespace Go.Proofs.Ytabcjhpgamhpoaa
open Go Go.Am Go.Shelf Go.Sort Go.RowKit
section
variable {prot : Nat → Prop} {B w : World} {ι : Inj} {H : Heap}
theorem intV_eq {T : List Tag} {ι : Inj} {kd : IntKind} {n : Int} {v' : Value} (h : VRel T ι (.int kd n) v') : v' = .int kd n := by cases h; rfl
theorem slice_any {T : List Tag} {ι : Inj} {k o g n c : Nat} {v' : Value} {t : Tag} (h : VRel T ι (.slice (some ⟨k, o, some (g + 1)⟩) n c) v') (ht : T[k]? = some t) (hg : t.g = g) :
    ∃ sa c', v' = .slice sa n c' ∧ (0 < n → n ≤ c → ∃ L, ι[k]? = some (some L) ∧ sa = some ⟨L.blk, L.off + o, none⟩) := by
  cases h with
  | flat h => simp [Am.flat] at h
  | slice ht' _ hl hc' hr => exact ⟨_, _, rfl, fun _ _ => ⟨_, hl, rfl⟩⟩
  | empty => exact ⟨_, _, rfl, fun h => by omega⟩
  | staleS ht' hg' _ => rw [ht] at ht'; cases ht'; omega
theorem ptrV_at {T : List Tag} {ι : Inj} {k o g : Nat} {v' : Value} {t : Tag} (h : VRel T ι (.pointer (some ⟨k, o, some (g + 1)⟩)) v') (ht : T[k]? = some t) (hg : t.g = g) : ∃ L, ι[k]? = some (some L) ∧ v' = .pointer (some ⟨L.blk, L.off + o, none⟩) := by
  cases h with
  | flat h => simp [Am.flat] at h
  | ptr ht' _ hl => exact ⟨_, hl, rfl⟩
  | staleP ht' hg' _ => rw [ht] at ht'; cases ht'; omega
theorem func1_at {T : List Tag} {ι : Inj} {fn : Fn} {p : Value} {v' : Value} (h : VRel T ι (.func fn #[] #[p]) v') : ∃ p', v' = .func fn #[] #[p'] ∧ VRel T ι p p' := by
  cases h with
  | flat h => simp [Am.flat] at h
  | @func _ _ f' _ c' hf hc hfs hcs =>
    have h1 : f' = #[] := Array.eq_empty_of_size_eq_zero (by simpa using hf.symm)
    subst h1
    have hs : c'.size = 1 := by simpa using hc.symm
    have hc2 : c' = #[c'[0]] := by
      apply Array.ext
      · simp [hs]
      · intro i h1 h2
        have : i = 0 := by omega
        subst this; rfl
    exact ⟨c'[0], by rw [← hc2], hcs 0 p _ rfl (Array.getElem?_eq_getElem _)⟩
theorem nilS_eq {T : List Tag} {ι : Inj} {v' : Value} (h : VRel T ι (.slice none 0 0) v') : v' = .slice none 0 0 := by cases h; rfl
theorem AppendSeq_spec (l : List Int) (kb gb kk o g c : Nat) (rb : Bool) (eb : Nat) (H : Heap) (hbox : H[kb]? = some (.cells gb eb rb [slv kk o g l.length c])) (hI : Ints H kk o g l) (hl : l.length ≤ 2097152) (hc : l.length ≤ c) :
    ACallK Try.prog 33 [.slice none 0 0, .func (.func 24) #[] #[.pointer (some ⟨kb, 0, some (gb + 1)⟩)]] H (fun v H' => v = slv H.length 0 0 l.length l.length ∧ H' = H ++ [.cells 0 1 false (ints l)]) := by
  refine ⟨⟨_, Try.func33, rfl, by kernel_rfl⟩, fun prot B ι w args' hs hargs => ?_⟩
  obtain ⟨s', r1, e1, hs', hr1⟩ := hargs.uncons
  obtain ⟨f', r2, e2, hf', hr2⟩ := hr1.uncons
  have e3 := hr2.unnil
  have hargs' : args' = #[s', f'] := by apply Array.toList_inj.1; rw [e1, e2, e3]
  subst hargs'
  clear hargs e1 hr1 hr2 e2 e3
  obtain rfl := nilS_eq hs'
  obtain ⟨p', rfl, hp'⟩ := func1_at hf'
  obtain ⟨Lb, hLb, rfl⟩ := ptrV_at hp' (tag_at hbox) rfl
  obtain ⟨rcb, tb, frb, a1, _, _, a4, _, _⟩ := hs.row hbox hLb
  obtain ⟨_, vb, c1, d1⟩ := a4 0 _ rfl
  obtain ⟨ro, cs, hkk, hle, hcs⟩ := Ints.cell hI
  obtain ⟨sa, c', rfl, hsa⟩ := slice_any d1 (tag_at hkk) rfl
  have hbc : w.cell? ⟨Lb.blk, Lb.off + 0, none⟩ = some (.slice sa l.length c') := by simpa [World.cell?, a1] using c1
  have hvb : Lb.blk < w.heap.size := hs.loc_lt hLb
  obtain ⟨b, off, hsa', hbl, hcells⟩ : ∃ b off, (0 < l.length → sa = some ⟨b, off, none⟩) ∧ (0 < l.length → b < w.heap.size) ∧ ∀ j, j < l.length → w.cell? ⟨b, off + j, none⟩ = some (.int .i64 (l.getD j 0)) := by
    by_cases h0 : 0 < l.length
    · obtain ⟨L, hL, e⟩ := hsa h0 hc
      obtain ⟨rc, ty, fr, z1, _, _, z4, _, _⟩ := hs.row hkk hL
      refine ⟨L.blk, L.off + o, fun _ => e, fun _ => hs.loc_lt hL, fun j hj => ?_⟩
      obtain ⟨_, v', u1, u2⟩ := z4 _ _ (hcs j hj)
      rw [show L.off + o + j = L.off + (o + j) by omega]
      simp only [World.cell?, z1]
      rw [intV_eq u2] at u1
      simpa using u1
    · exact ⟨0, 0, fun h => (h0 h).elim, fun h => (h0 h).elim, fun j hj => by omega⟩
  have hcall := (callsIn_wide).1 (appendSeq_at w Lb.blk (Lb.off + 0) b off l.length c' sa hsa' (fun j => l.getD j 0) hl hvb hbl hbc hcells)
  refine hcall.mono ?_
  rintro e w' ⟨v, rfl, hrow, hb⟩
  have hup : upto (fun j => l.getD j 0) l.length = l := by
    apply List.ext_getElem
    · simp [upto]
    · intro i h1 h2; simp [upto, List.getD_eq_getElem?_getD, List.getElem?_eq_getElem h2]
  rw [hup] at hrow
  have hblocks : ∀ b, b < w.heap.size → w'.heap[b]? = w.heap[b]? := hb.block
  rcases hrow.2 with ⟨rfl, hz⟩ | ⟨gg, cap, cur, rfl, hbase, hgb, r1, r2, r3, r4⟩
  · have hl0 : l = [] := List.eq_nil_of_length_eq_zero hz
    subst hl0
    obtain ⟨k1, k2⟩ := hs.push (w' := w') (o' := .cells 0 1 false []) none hb.os hb.tape hb.output hb.size hblocks (.inl ⟨by rw [← hs.len]; simp, rfl⟩) (fun L hL => by cases hL)
    exact ⟨_, _, _, _, rfl, k1, k2, .empty (t := ⟨0, 1, false⟩) (by simp [AObj.tag]) rfl, rfl, rfl⟩
  · have hι : (ι ++ [some (⟨gg, 0, cap⟩ : Am.Loc)])[H.length]? = some (some (⟨gg, 0, cap⟩ : Am.Loc)) := by rw [← hs.len]; simp
    have hnp : ¬ prot gg := fun hp => by have := hs.low _ hp; have := hs.size; omega
    obtain ⟨k1, k2⟩ := hs.push (w' := w') (o' := .cells 0 1 false (ints l)) (some ⟨gg, 0, cap⟩) hb.os hb.tape hb.output hb.size hblocks
      (.inr ⟨⟨gg, 0, cap⟩, cur, 3, (0, 0), hι, hgb, by simpa using r3, by rw [ints_length]; exact r1, fun i v hv => by
        have hi : i < l.length := by have := (List.getElem?_eq_some_iff.1 hv).1; rwa [ints_length] at this
        rw [ints_get l i hi] at hv
        cases hv
        refine ⟨rfl, _, ?_, .flat rfl⟩
        have h1 : (cur.toList.take (l.length * 1))[i]? = (l.map encZ)[i]? := by rw [r4]
        rw [List.getElem?_take_of_lt (by omega)] at h1
        rw [show (⟨gg, 0, cap⟩ : Am.Loc).off + i = i by simp]
        have h2 : (l.map encZ)[i]? = some (.int .i64 (l.getD i 0)) := ints_get l i hi
        rw [h2] at h1
        simpa using h1, fun h => (by cases h), fun _ => ⟨hnp, rfl⟩⟩) (fun L hL _ => by cases hL; exact hbase)
    refine ⟨_, _, _, _, rfl, k1, k2, ?_, rfl, rfl⟩
    have := VRel.slice (T := tags (H ++ [.cells 0 1 false (ints l)])) (ι := ι ++ [some ⟨gg, 0, cap⟩]) (k := H.length) (o := 0) (g := 0) (n := l.length) (c := l.length) (c' := cap) (L := ⟨gg, 0, cap⟩) (t := ⟨0, 1, false⟩)
      (by simp [AObj.tag]) rfl hι r1 (.inr ⟨rfl, by simp, by unfold maxLen at r2; omega⟩)
    simpa using this
def sortI (l : List Int) : List Int := l.mergeSort fun x y => decide (x ≤ y)
theorem put_otherI {α : Type} [Inhabited α] (enc : α → Value) (w : World) (blk off : Nat) (d : Array α) {b : Nat} (h : b ≠ blk) : (putRow enc w blk off d).heap[b]? = w.heap[b]? := by
  simp only [putRow, mapBlock, Array.getElem?_modify]; rw [if_neg (Ne.symm h)]
theorem put_selfI {α : Type} [Inhabited α] (enc : α → Value) (w : World) (blk off : Nat) (d : Array α) {rc : Array Value} {t : TypeId} {fr : Nat × Nat} (h : w.heap[blk]? = some (.cells rc t fr)) : (putRow enc w blk off d).heap[blk]? = some (.cells (putCells enc off d rc) t fr) := by
  have hlt : blk < w.heap.size := (Array.getElem?_eq_some_iff.1 h).1
  have hv : w.heap[blk] = .cells rc t fr := (Array.getElem?_eq_some_iff.1 h).2
  simp only [putRow, mapBlock]
  rw [Array.getElem?_eq_getElem (by simpa using hlt), Array.getElem_modify]
  simp [hv, onCells]
theorem put_sizeI {α : Type} [Inhabited α] (enc : α → Value) (w : World) (blk off : Nat) (d : Array α) : (putRow enc w blk off d).heap.size = w.heap.size := by simp [putRow, mapBlock]
theorem Sort_spec (l : List Int) (k g : Nat) (H : Heap) (hb : H[k]? = some (.cells g 1 false (ints l))) (hl : l.length ≤ 1000000000) :
    ACallK Try.prog 21 [slv k 0 g l.length l.length] H (fun v H' => v = .tuple #[] ∧ H' = H.set k (.cells g 1 false (ints (sortI l)))) := by
  refine ⟨⟨_, Try.func21, rfl, by kernel_rfl⟩, fun prot B ι w args' hs hargs => ?_⟩
  obtain ⟨s', r1, q1, hs', hr1⟩ := hargs.uncons
  have q3 := hr1.unnil
  have hargs' : args' = #[s'] := by apply Array.toList_inj.1; rw [q1, q3]
  subst hargs'
  clear hargs q1 hr1 q3
  have hkl : k < H.length := (List.getElem?_eq_some_iff.1 hb).1
  have hkι : k < ι.length := by rw [hs.len]; exact hkl
  have hrw : RW (tags H) k := ⟨_, tag_at hb, rfl⟩
  obtain ⟨sa, c', rfl, hsa⟩ := slice_any hs' (tag_at hb) rfl
  rcases Nat.eq_zero_or_pos l.length with h0 | h0
  · have hl0 : l = [] := List.eq_nil_of_length_eq_zero h0
    subst hl0
    have hset : H.set k (.cells g 1 false (ints (sortI []))) = H := by
      apply List.ext_getElem?
      intro j
      rw [List.getElem?_set]
      by_cases hj : k = j
      · subst hj; rw [hb]; simp [hkl, sortI]
      · simp [hj]
    refine (show Calls Try.prog 21 _ w _ from Go.Proofs.AnyM.slices_Sort_int_none laysM sa c' w).mono ?_
    rintro e w' ⟨rfl, rfl⟩
    exact ⟨.tuple #[], .tuple #[], ι, H, rfl, hs, .refl _ _, .tuple rfl (fun i v v' h => by simp at h), rfl, hset.symm⟩
  obtain ⟨L, hL, rfl⟩ := hsa h0 (Nat.le_refl _)
  obtain ⟨rc, ty, fr, z1, z2, z3, z4, _, z6⟩ := hs.row hb hL
  obtain ⟨z7, rfl⟩ := z6 rfl
  rw [ints_length] at z3
  have hblk : L.blk < w.heap.size := (Array.getElem?_eq_some_iff.1 z1).1
  have hH : Holds (Value.int .i64) w L.blk (L.off + 0) l.toArray := fun j hj => by
    have hj' : j < l.length := by simpa using hj
    obtain ⟨_, v', u1, u2⟩ := z4 j _ (ints_get l j hj')
    refine ⟨?_, by simp [World.frozen?, z1]⟩
    rw [intV_eq u2] at u1
    have e : l.toArray[j]! = l.getD j 0 := by rw [getElem!_pos _ j hj]; simp [List.getD_eq_getElem?_getD, List.getElem?_eq_getElem hj']
    rw [e]
    simpa [World.cell?, z1] using u1
  have hcon := Go.Proofs.AnyM.slices_Sort_int laysM L.blk (L.off + 0) c' l w hH hblk (by omega)
  refine (show Calls Try.prog 21 _ w _ from hcon).mono ?_
  rintro e w' ⟨rfl, q, os, rfl⟩
  change ∃ v v' ι' H', _ ∧ HSim prot B (grow (putRow (Value.int .i64) (Sort.ahead w q) L.blk (L.off + 0) (sortI l).toArray) os) ι' H' ∧ _
  have hsl : (sortI l).length = l.length := by unfold sortI; exact List.length_mergeSort _
  have hcell : ∀ (i : Nat) v, (ints (sortI l))[i]? = some v → v.oneCell' = true ∧ ∃ v', (putCells (Value.int .i64) (L.off + 0) (sortI l).toArray rc)[L.off + i]? = some v' ∧ VRel (tags H) ι v v' := fun i v hv => by
    have hi : i < (sortI l).length := by have := (List.getElem?_eq_some_iff.1 hv).1; rwa [ints_length] at this
    rw [ints_get _ i hi] at hv
    cases hv
    refine ⟨rfl, _, ?_, .flat rfl⟩
    have hlt : L.off + i < rc.size := by rw [z2]; omega
    simp only [putCells, Array.getElem?_mapIdx, Array.getElem?_eq_getElem hlt, Option.map_some]
    rw [if_pos ⟨by omega, by simp; omega⟩, show L.off + i - (L.off + 0) = i by omega, getElem!_pos _ i (by simpa using hi)]
    simp [List.getD_eq_getElem?_getD, List.getElem?_eq_getElem hi]
  have hother : ∀ b, b ≠ L.blk → b < w.heap.size → (grow (putRow (Value.int .i64) (Sort.ahead w q) L.blk (L.off + 0) (sortI l).toArray) os).heap[b]? = w.heap[b]? := fun b h1 h2 => by
    rw [heap_grow_old _ _ (by rw [put_sizeI]; exact h2), put_otherI _ _ _ _ _ h1]; rfl
  have hself : (grow (putRow (Value.int .i64) (Sort.ahead w q) L.blk (L.off + 0) (sortI l).toArray) os).heap[L.blk]? = some (.cells (putCells (Value.int .i64) (L.off + 0) (sortI l).toArray rc) ty (0, 0)) := by
    rw [heap_grow_old _ _ (by rw [put_sizeI]; exact hblk)]
    exact put_selfI (Value.int .i64) (Sort.ahead w q) L.blk (L.off + 0) (sortI l).toArray z1
  have htag : tags (H.set k (.cells g 1 false (ints (sortI l)))) = tags H := by
    apply List.ext_getElem?
    intro j
    simp only [tags, List.getElem?_map, List.getElem?_set]
    by_cases hj : k = j
    · subst hj; rw [hb]; simp [hkl, AObj.tag]
    · simp [hj]
  have hsetι : ι.set k (some L) = ι := by
    apply List.ext_getElem?
    intro j
    rw [List.getElem?_set]
    by_cases hj : k = j
    · subst hj; rw [hL]; simp [hkι]
    · simp [hj]
  have hrep := hs.replace (w' := grow (putRow (Value.int .i64) (Sort.ahead w q) L.blk (L.off + 0) (sortI l).toArray) os) (o' := .cells g 1 false (ints (sortI l))) (some L) hkl rfl rfl rfl (by rw [size_grow, put_sizeI]; show w.heap.size ≤ w.heap.size + _; omega)
    (fun j L' hj hL' => hother _ (hs.apart hj hL' hL hrw) (hs.loc_lt hL')) (fun b hb' => hother _ (fun e => z7 (e ▸ hb')) (Nat.lt_of_lt_of_le (hs.low _ hb') hs.size))
    (by rw [htag, hsetι]; exact .refl _ _) ?_ (fun L1 hL1 j L' hj hL' _ => by cases hL1; exact hs.apart hj hL' hL hrw)
  · rw [hsetι] at hrep
    exact ⟨.tuple #[], .tuple #[], ι, _, rfl, hrep, by rw [htag]; exact .refl _ _, .tuple rfl (fun i v v' h => by simp at h), rfl, rfl⟩
  · rw [htag, hsetι]
    refine .inr ⟨L, _, ty, (0, 0), hL, hself, ?_, ?_, hcell, fun h => (by cases h), fun _ => ⟨z7, rfl⟩⟩
    · simp [putCells, z2]
    · rw [ints_length]; omega
end
end Go.Proofs.Ytabcjhpgamhpoaa
