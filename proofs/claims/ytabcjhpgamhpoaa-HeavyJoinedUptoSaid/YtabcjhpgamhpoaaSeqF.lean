import Derived.Test.YtabcjhpgamhpoaaSeq2
import Derived.Test.YtabcjhpgamhpoaaLayF
import Derived.Test.YtabcjhpgamhpoaaSteps4
import Derived.Shelf.SlSortCmp.NoneTotal
/- slices.SortFunc at counts, told of abstract heaps. -/
set_option linter.unusedVariables false
set_option linter.unusedSimpArgs false
set_option maxHeartbeats 2000000
namespace Go.Proofs.Ytabcjhpgamhpoaa
open Go Go.Am Go.Shelf Go.Sort Go.RowKit
def cfC (x y : Ct) : Int := if x.1 < y.1 then -1 else 1
theorem cfC_lt (x y : Ct) : ltOf cfC x y = decide (x.1 < y.1) := by
  unfold ltOf cfC
  by_cases h : x.1 < y.1
  · simp [h]
  · simp [h]
theorem cfC_swo : SWO (ltOf cfC) where
  irrefl x := by rw [cfC_lt]; simp
  trans x y z h1 h2 := by rw [cfC_lt] at *; simp at *; omega
  ntrans x y z h1 h2 := by rw [cfC_lt] at *; simp at *; omega
set_option maxHeartbeats 1000000 in
theorem closure20 (x y : Ct) (W : World) : Calls Try.prog 20 #[.agg #[.int .i64 x.1, .int .i64 x.2], .agg #[.int .i64 y.1, .int .i64 y.2]] W fun e w' => e = .returned (.int .i64 (cfC x y)) ∧ ∃ q os', w' = grow (W.drewN q) os' := by
  by_cases h : x.1 < y.1
  · have e : cfC x y = -1 := by unfold cfC; rw [if_pos h]
    rw [e]
    go_enter Try.func20, Try.ntmps20
    go_wp2
    go_ret
    exact ⟨rfl, 0, _, by rw [alloc_eq_grow, alloc_eq_grow, grow_grow]; rfl⟩
  · have e : cfC x y = 1 := by unfold cfC; rw [if_neg h]
    rw [e]
    go_enter Try.func20, Try.ntmps20
    go_wp2
    go_ret
    exact ⟨rfl, 0, _, by rw [alloc_eq_grow, alloc_eq_grow, grow_grow]; rfl⟩
theorem flatK_eq (l : List Ct) : flatK cenc 2 l.toArray = (flat' cenc l).toArray := by
  have hs : (flatK cenc 2 l.toArray).size = (flat' cenc l).toArray.size := by simp [flC]
  apply Array.ext hs
  intro t h1 h2
  have ht : t < l.length * 2 := by simpa using h1
  have hi : t / 2 < l.length := by omega
  have h3 := get_flatK cenc 2 l.toArray t (by simpa using ht)
  rw [getElem!_pos _ t h1] at h3
  rw [h3, getElem!_pos _ (t / 2) (by simpa using hi)]
  have hl2 : (cenc l.toArray[t / 2]).length = 2 := rfl
  rw [getElem!_pos _ (t % 2) (by rw [hl2]; omega)]
  have h4 := flat'_get (enc := cenc) (s := 2) (fun _ => rfl) c0 l (t / 2) (t % 2) hi (by omega)
  rw [show t / 2 * 2 + t % 2 = t by omega, List.getD_eq_getElem?_getD, List.getElem?_eq_getElem hi] at h4
  simp only [Option.getD_some] at h4
  have h5 : (flat' cenc l)[t]? = some ((flat' cenc l)[t]'(by rw [flC]; exact ht)) := List.getElem?_eq_getElem _
  rw [h5] at h4
  rw [List.getElem?_eq_getElem (show t % 2 < (cenc l[t / 2]).length by show t % 2 < 2; omega)] at h4
  have h6 := Option.some.inj h4
  simp only [List.getElem_toArray]
  exact h6.symm
section
variable {prot : Nat → Prop} {B w : World} {ι : Inj} {H : Heap}
theorem func0_at {T : List Tag} {ι : Inj} {fn : Fn} {v' : Value} (h : VRel T ι (.func fn #[] #[]) v') : v' = .func fn #[] #[] := by
  cases h with
  | flat h => simp [Am.flat] at h
  | @func _ _ f' _ c' hf hc hfs hcs =>
    have h1 : f' = #[] := Array.eq_empty_of_size_eq_zero (by simpa using hf.symm)
    have h2 : c' = #[] := Array.eq_empty_of_size_eq_zero (by simpa using hc.symm)
    rw [h1, h2]
theorem SortC_spec (l : List Ct) (k g : Nat) (H : Heap) (hb : H[k]? = some (.cells g 2 false (flat' cenc l))) (hl : l.length ≤ 1000000000) :
    ACallK Try.prog 19 [slv k 0 g l.length l.length, .func (.func 20) #[] #[]] H (fun v H' => v = .tuple #[] ∧ ∃ l', l'.Perm l ∧ l'.Pairwise (fun a b => ¬ b.1 < a.1) ∧ H' = H.set k (.cells g 2 false (flat' cenc l'))) := by
  refine ⟨⟨_, Try.func19, rfl, by kernel_rfl⟩, fun prot B ι w args' hs hargs => ?_⟩
  obtain ⟨s', r1, q1, hs', hr1⟩ := hargs.uncons
  obtain ⟨f', r2, q2, hf', hr2⟩ := hr1.uncons
  have q3 := hr2.unnil
  have hargs' : args' = #[s', f'] := by apply Array.toList_inj.1; rw [q1, q2, q3]
  subst hargs'
  clear hargs q1 hr1 q2 hr2 q3
  obtain rfl := func0_at hf'
  have hkl : k < H.length := (List.getElem?_eq_some_iff.1 hb).1
  have hkι : k < ι.length := by rw [hs.len]; exact hkl
  have hrw : RW (tags H) k := ⟨_, tag_at hb, rfl⟩
  obtain ⟨sa, c', rfl, hsa⟩ := slice_any hs' (tag_at hb) rfl
  have hset : ∀ l' : List Ct, l' = l → H.set k (.cells g 2 false (flat' cenc l')) = H := fun l' e => by
    rw [e]
    apply List.ext_getElem?
    intro j
    rw [List.getElem?_set]
    by_cases hj : k = j
    · subst hj; rw [hb]; simp [hkl]
    · simp [hj]
  rcases Nat.eq_zero_or_pos l.length with h0 | h0
  · have hl0 : l = [] := List.eq_nil_of_length_eq_zero h0
    subst hl0
    refine (show Calls Try.prog 19 _ w _ from Go.Proofs.AnyF.slices_SortFunc_none laysF sa c' _ w).mono ?_
    rintro e w' ⟨rfl, rfl⟩
    exact ⟨.tuple #[], .tuple #[], ι, H, rfl, hs, .refl _ _, .tuple rfl (fun i v v' h => by simp at h), rfl, [], .refl _, .nil, (hset [] rfl).symm⟩
  obtain ⟨L, hL, rfl⟩ := hsa h0 (Nat.le_refl _)
  obtain ⟨rc, ty, fr, z1, z2, z3, z4, _, z6⟩ := hs.row hb hL
  obtain ⟨z7, rfl⟩ := z6 rfl
  rw [flC] at z3
  have hblk : L.blk < w.heap.size := (Array.getElem?_eq_some_iff.1 z1).1
  have hints : ∀ (l : List Ct) (j : Nat) v, (flat' cenc l)[j]? = some v → ∃ kd n, v = .int kd n := fun l j v hv => cts_ints l v (List.mem_of_getElem? hv)
  have hH : HoldsK cenc 2 w L.blk (L.off + 0) l.toArray := fun j hj => by
    rw [flatK_eq] at hj ⊢
    have hj' : j < (flat' cenc l).length := by simpa using hj
    obtain ⟨_, v', u1, u2⟩ := z4 j _ (List.getElem?_eq_getElem hj')
    refine ⟨?_, by simp [World.frozen?, z1]⟩
    obtain ⟨kd, n, e⟩ := hints l j _ (List.getElem?_eq_getElem hj')
    have e2 : (flat' cenc l).toArray[j]! = .int kd n := by rw [getElem!_pos _ j hj]; simpa using e
    rw [e] at u2
    rw [intV_eq u2] at u1
    rw [e2]
    simpa [World.cell?, z1] using u1
  have hcon := Go.Proofs.AnyQ.slices_SortFunc laysF 2 Try.isAgg35 Try.sizeOf35 cenc (fun _ => rfl) (fun x v hv => by simp [cenc] at hv; rcases hv with rfl | rfl <;> rfl) cfC cfC_swo 20 #[] L.blk (L.off + 0) c' l.toArray w (enters_of Try.func20 (by kernel_rfl) rfl)
    (fun _ _ _ _ x y => closure20 x y _) hH hblk (by simp; omega)
  refine (show Calls Try.prog 19 _ w _ from hcon).mono ?_
  rintro e w' ⟨rfl, d', q, os, hperm, hsort, rfl⟩
  have hsz : d'.size = l.length := by have := hperm.1; simpa using this
  have hfl : flatK cenc 2 d' = (flat' cenc d'.toList).toArray := by have := flatK_eq d'.toList; simpa using this
  have hsl : d'.toList.length = l.length := by simpa using hsz
  have hpm : d'.toList.Perm l := by
    have h3 := hperm.2.2
    rw [show l.toArray.size = l.length from by simp] at h3
    rw [show d'.extract 0 l.length = d' from by rw [← hsz]; exact Array.extract_size, show l.toArray.extract 0 l.length = l.toArray from by simp] at h3
    simpa using h3
  have hpw : d'.toList.Pairwise (fun a b => ¬ b.1 < a.1) := by
    rw [List.pairwise_iff_getElem]
    intro i j hi hj hij
    have h3 := hsort i j (Nat.zero_le _) hij (by simp at hj ⊢; omega)
    rw [getElem!_pos _ i (by simp at hi; omega), getElem!_pos _ j (by simpa using hj), cfC_lt] at h3
    simpa using h3
  have hcell : ∀ (i : Nat) v, (flat' cenc d'.toList)[i]? = some v → v.oneCell' = true ∧ ∃ v', (putCells id (L.off + 0) (flat' cenc d'.toList).toArray rc)[L.off + i]? = some v' ∧ VRel (tags H) ι v v' := fun i v hv => by
    have hi : i < (flat' cenc d'.toList).length := (List.getElem?_eq_some_iff.1 hv).1
    have hi2 : i < l.length * 2 := by rw [flC, hsl] at hi; exact hi
    obtain ⟨kd, n, rfl⟩ := hints _ i v hv
    refine ⟨rfl, _, ?_, .flat rfl⟩
    have hlt : L.off + i < rc.size := by rw [z2]; omega
    simp only [putCells, Array.getElem?_mapIdx, Array.getElem?_eq_getElem hlt, Option.map_some]
    rw [if_pos ⟨by omega, by simp; omega⟩, show L.off + i - (L.off + 0) = i by omega, getElem!_pos _ i (by simpa using hi)]
    rw [List.getElem?_eq_getElem hi] at hv
    simpa using hv
  have hWeq : sortWorldK cenc 2 w L.blk (L.off + 0) q d' os = grow (putRow id (Sort.ahead w q) L.blk (L.off + 0) (flat' cenc d'.toList).toArray) os := by unfold sortWorldK putRowK; rw [hfl]
  rw [hWeq]
  have hother : ∀ b, b ≠ L.blk → b < w.heap.size → (grow (putRow id (Sort.ahead w q) L.blk (L.off + 0) (flat' cenc d'.toList).toArray) os).heap[b]? = w.heap[b]? := fun b h1 h2 => by
    rw [heap_grow_old _ _ (by rw [put_sizeI]; exact h2), put_otherI _ _ _ _ _ h1]; rfl
  have hself : (grow (putRow id (Sort.ahead w q) L.blk (L.off + 0) (flat' cenc d'.toList).toArray) os).heap[L.blk]? = some (.cells (putCells id (L.off + 0) (flat' cenc d'.toList).toArray rc) ty (0, 0)) := by
    rw [heap_grow_old _ _ (by rw [put_sizeI]; exact hblk)]
    exact put_selfI id (Sort.ahead w q) L.blk (L.off + 0) _ z1
  have htag : tags (H.set k (.cells g 2 false (flat' cenc d'.toList))) = tags H := by
    apply List.ext_getElem?
    intro j
    simp only [tags, List.getElem?_map, List.getElem?_set]
    by_cases hj : k = j
    · subst hj; rw [hb]; simp [hkl, AObj.tag]
    · simp [hj]
  have hsetι : ι.set k (some L) = ι := by
    apply List.ext_getElem?
    intro j
    rw [List.getElem?_set]
    by_cases hj : k = j
    · subst hj; rw [hL]; simp [hkι]
    · simp [hj]
  have hrep := hs.replace (w' := grow (putRow id (Sort.ahead w q) L.blk (L.off + 0) (flat' cenc d'.toList).toArray) os) (o' := .cells g 2 false (flat' cenc d'.toList)) (some L) hkl rfl rfl rfl (by rw [size_grow, put_sizeI]; show w.heap.size ≤ w.heap.size + _; omega)
    (fun j L' hj hL' => hother _ (hs.apart hj hL' hL hrw) (hs.loc_lt hL')) (fun b hb' => hother _ (fun e => z7 (e ▸ hb')) (Nat.lt_of_lt_of_le (hs.low _ hb') hs.size))
    (by rw [htag, hsetι]; exact .refl _ _) ?_ (fun L1 hL1 j L' hj hL' _ => by cases hL1; exact hs.apart hj hL' hL hrw)
  · rw [hsetι] at hrep
    exact ⟨.tuple #[], .tuple #[], ι, _, rfl, hrep, by rw [htag]; exact .refl _ _, .tuple rfl (fun i v v' h => by simp at h), rfl, d'.toList, hpm, hpw, rfl⟩
  · rw [htag, hsetι]
    refine .inr ⟨L, _, ty, (0, 0), hL, hself, ?_, ?_, hcell, fun h => (by cases h), fun _ => ⟨z7, rfl⟩⟩
    · simp [putCells, z2]
    · rw [flC, hsl]; omega
end
end Go.Proofs.Ytabcjhpgamhpoaa
