import Derived.Test.YtabcjhpgamhpoaaLib
import Derived.Shelf.Spec.SlicesInsertGrow
/- slices.Insert at whole numbers, one of them ahead of what there is: the library's contracts, told of abstract heaps. For any program. -/
namespace Go.Proofs.Ytabcjhpgamhpoaa
open Go Go.Am Go.Shelf
section
variable {P : Program} {ρ : Ren} {prot : Nat → Prop} {B w : World} {ι : Inj} {H : Heap}

theorem int_eq {T : List Tag} {ι : Inj} {kd : IntKind} {n : Int} {v' : Value} (h : VRel T ι (.int kd n) v') : v' = .int kd n := by cases h; rfl
theorem slice_at {T : List Tag} {ι : Inj} {k o g n c : Nat} {v' : Value} {t : Tag} (h : VRel T ι (.slice (some ⟨k, o, some (g + 1)⟩) n c) v') (ht : T[k]? = some t) (hg : t.g = g) (hc : 0 < c) :
    ∃ L c', ι[k]? = some (some L) ∧ v' = .slice (some ⟨L.blk, L.off + o, none⟩) n c' ∧ c ≤ c' ∧ (c' = c ∨ (t.ro = false ∧ o + c' * t.esz ≤ L.room ∧ c' ≤ 9223372036854775807)) := by
  cases h with
  | flat h => simp [Am.flat] at h
  | slice ht' _ hl hc' hr => rw [ht] at ht'; cases ht'; exact ⟨_, _, hl, rfl, hc', hr⟩
  | empty => omega
  | staleS ht' hg' _ => rw [ht] at ht'; cases ht'; omega
/-- Whole numbers are what they are. -/
theorem rels_ints {T : List Tag} {ι : Inj} {l : List Int} {l' : List Value} (h : VRels T ι (ints l) l') : l' = ints l := by
  refine List.ext_getElem? fun i => ?_
  by_cases hi : i < l.length
  · have h1 : (ints l)[i]? = some (.int .i64 (l.getD i 0)) := map_get _ 0 _ i hi
    have hil : i < l'.length := by rw [← h.1]; simpa [ints] using hi
    have h2 := h.2 i _ _ h1 (List.getElem?_eq_getElem hil)
    rw [h1, List.getElem?_eq_getElem hil, int_eq h2]
  · rw [List.getElem?_eq_none (by rw [← h.1]; simpa [ints] using hi), List.getElem?_eq_none (by simpa [ints] using hi)]
theorem heap_setCell (w : World) (b o : Nat) (v : Value) {rc : Array Value} {t : TypeId} {fr : Nat × Nat} (h : w.heap[b]? = some (.cells rc t fr)) :
    ∃ rc', (w.setCell ⟨b, o, none⟩ v).heap[b]? = some (.cells rc' t fr) ∧ rc'.size = rc.size := by
  have hlt : b < w.heap.size := (Array.getElem?_eq_some_iff.1 h).1
  have hv : w.heap[b] = .cells rc t fr := (Array.getElem?_eq_some_iff.1 h).2
  refine ⟨rc.setIfInBounds o v, ?_, by simp⟩
  unfold World.setCell
  rw [Array.getElem?_eq_getElem (by simpa using hlt), Array.getElem_modify]
  simp [hv]
theorem heap_setCells (b : Nat) : ∀ (vs : List Value) (o : Nat) (w : World) {rc : Array Value} {t : TypeId} {fr : Nat × Nat}, w.heap[b]? = some (.cells rc t fr) →
    ∃ rc', (w.setCells b o vs).heap[b]? = some (.cells rc' t fr) ∧ rc'.size = rc.size
  | [], o, w, rc, t, fr, h => ⟨rc, h, rfl⟩
  | v :: r, o, w, rc, t, fr, h => by
    obtain ⟨rc1, h1, h2⟩ := heap_setCell w b o v h
    obtain ⟨rc2, h3, h4⟩ := heap_setCells b r (o + 1) _ h1
    exact ⟨rc2, h3, by rw [h4, h2]⟩
theorem heap_setCell_ne (w : World) (b o : Nat) (v : Value) {j : Nat} (h : j ≠ b) : (w.setCell ⟨b, o, none⟩ v).heap[j]? = w.heap[j]? := by
  simp only [World.setCell, Array.getElem?_modify]; rw [if_neg (Ne.symm h)]
theorem heap_setCells_ne (b : Nat) : ∀ (vs : List Value) (o : Nat) (w : World) {j : Nat}, j ≠ b → (w.setCells b o vs).heap[j]? = w.heap[j]?
  | [], _, _, _, _ => rfl
  | v :: r, o, w, j, h => by rw [World.setCells, heap_setCells_ne b r (o + 1) _ h, heap_setCell_ne w b o v h]
theorem size_setCells (b : Nat) : ∀ (vs : List Value) (o : Nat) (w : World), (w.setCells b o vs).heap.size = w.heap.size
  | [], _, _ => rfl
  | v :: r, o, w => by rw [World.setCells, size_setCells b r]; simp [World.setCell]
theorem os_setCells (b : Nat) : ∀ (vs : List Value) (o : Nat) (w : World), (w.setCells b o vs).os = w.os ∧ (w.setCells b o vs).tape = w.tape ∧ (w.setCells b o vs).output = w.output
  | [], _, _ => ⟨rfl, rfl, rfl⟩
  | v :: r, o, w => by rw [World.setCells]; obtain ⟨h1, h2, h3⟩ := os_setCells b r (o + 1) (w.setCell ⟨b, o, none⟩ v); exact ⟨h1, h2, h3⟩
theorem cell_row {w : World} {b : Nat} {rc : Array Value} {t : TypeId} {fr : Nat × Nat} (h : w.heap[b]? = some (.cells rc t fr)) (o : Nat) : w.cell? ⟨b, o, none⟩ = rc[o]? := by simp [World.cell?, h]

theorem row_ints {T : List Tag} {ι : Inj} {rc : Array Value} {off : Nat} {m : List Int} (h : ∀ i, i < m.length → rc[off + i]? = some (.int .i64 (m.getD i 0))) :
    ∀ (i : Nat) v, (ints m)[i]? = some v → v.oneCell' = true ∧ ∃ v', rc[off + i]? = some v' ∧ VRel T ι v v' := fun i v hv => by
  have hi : i < m.length := by have := (List.getElem?_eq_some_iff.1 hv).1; simpa [ints] using this
  have h1 : (ints m)[i]? = some (.int .i64 (m.getD i 0)) := map_get _ 0 _ i hi
  rw [h1] at hv
  cases hv
  exact ⟨rfl, _, h i hi, .flat rfl⟩
/-- What is written stands there. -/
theorem two_cells (b off : Nat) (x : Int) (l : List Int) (w' : World) {rc : Array Value} (h1 : ∀ o, w'.cell? ⟨b, o, none⟩ = rc[o]?)
    (h2 : w'.cell? ⟨b, off, none⟩ = some (.int .i64 x)) (h3 : ∀ j, j < l.length → w'.cell? ⟨b, off + 1 + j, none⟩ = some (.int .i64 (l.getD j 0))) : ∀ i, i < (x :: l).length → rc[off + i]? = some (.int .i64 ((x :: l).getD i 0)) := fun i hi => by
  rw [← h1]
  cases i with
  | zero => exact h2
  | succ j =>
    have := h3 j (by simp at hi; omega)
    rw [show off + (j + 1) = off + 1 + j by omega, this]
    simp
/-- x ahead of a slice that holds something. -/
theorem insert_front (L : Lays2.n21 P ρ) (hfn : fnOk P (ρ.f 21)) (x : Int) (l : List Int) (k g kv gv cv : Nat) (H : Heap) (hb : H[k]? = some (.cells g 1 false (ints l))) (hl : 0 < l.length) (hbd : l.length ≤ 1048576)
    (hv : H[kv]? = some (.cells gv 1 false [.int .i64 x])) (hkv : kv ≠ k) (hcv0 : 0 < cv) :
    ACallK P (ρ.f 21) [slv k 0 g l.length l.length, .int .i64 0, slv kv 0 gv 1 cv] H (fun v H' => v = slv k 0 (g + 1) (l.length + 1) (l.length + 1) ∧ H' = H.set k (.cells (g + 1) 1 false (ints (x :: l)))) := by
  refine ⟨hfn, fun prot B ι w args' hs hargs => ?_⟩
  obtain ⟨s', r1, e1, hs', hr1⟩ := hargs.uncons
  obtain ⟨i', r2, e2, hi', hr2⟩ := hr1.uncons
  obtain ⟨v', r3, e3, hv', hr3⟩ := hr2.uncons
  have e4 := hr3.unnil
  have hargs' : args' = #[s', i', v'] := by apply Array.toList_inj.1; rw [e1, e2, e3, e4]
  subst hargs'
  clear hargs e1 hr1 hr2 hr3 e2 e3 e4
  have hkl : k < H.length := (List.getElem?_eq_some_iff.1 hb).1
  have hkι : k < ι.length := by rw [hs.len]; exact hkl
  have hrw : RW (tags H) k := ⟨_, tag_at hb, rfl⟩
  obtain rfl := int_eq hi'
  obtain ⟨L1, c', hL1, rfl, hc, hroom⟩ := slice_at hs' (tag_at hb) rfl hl
  obtain ⟨L2, cv', hL2, rfl, hcv, _⟩ := slice_at hv' (tag_at hv) rfl hcv0
  have hne : L2.blk ≠ L1.blk := hs.apart hkv hL2 hL1 hrw
  obtain ⟨rc, t, fr, a1, a2, a3, a4, _, a6⟩ := hs.row hb hL1
  obtain ⟨b6, rfl⟩ := a6 rfl
  obtain ⟨rcv, tv, frv, v1, v2, v3, v4, _, v6⟩ := hs.row hv hL2
  obtain ⟨c6, rfl⟩ := v6 rfl
  obtain ⟨os, o1, o2, o3, o4⟩ := hs.read hb hL1 0 l.length (by simp [ints])
  obtain ⟨vs, p1, p2, p3, p4⟩ := hs.read hv hL2 0 1 (by simp)
  have hos : os = ints l := rels_ints (by rw [List.drop_zero, List.take_of_length_le (by simp [ints])] at o2; exact o2)
  have hvs : vs = ints [x] := rels_ints (l := [x]) (by simpa [ints] using p2)
  subst hos hvs
  simp only [Nat.add_zero, add_none] at o3 p3 ⊢
  have hints : (ints l).length = l.length := by simp [ints]
  by_cases hfit : l.length + 1 ≤ c'
  · -- there is room
    have hr2 := hroom.resolve_left (show ¬ c' = l.length by omega)
    have hrm : c' ≤ L1.room := by have := hr2.2.1; simpa using this
    have hsp : ∀ j, j < l.length + 1 → (w.cell? ⟨L1.blk, L1.off + j, none⟩).isSome = true := fun j hj => by
      rw [cell_row a1, Array.getElem?_eq_getElem (by omega)]; rfl
    have hfz : ∀ (b : Nat) (rc : Array Value) (t : TypeId) (o : Nat), w.heap[b]? = some (.cells rc t (0, 0)) → w.frozen? ⟨b, o, none⟩ = false := fun b rc t o h => by simp [World.frozen?, h]
    have hcall := Proofs.Any2.slices_Insert_int_shift L L1.blk L1.off l.length c' 0 L2.blk L2.off 1 cv' (ints l) (ints [x]) w hl (by omega) hfit hr2.2.2 hne hints rfl o3 hsp (fun j _ => hfz _ _ _ _ a1) p3 o4 p4 tv t rcv.size rc.size (by simp [World.shape?, v1]) (by simp [World.shape?, a1]) (by omega) (hfz _ _ _ _ v1) (hfz _ _ _ _ v1)
    refine hcall.mono ?_
    rintro e w' ⟨rfl, rfl⟩
    simp only [Nat.add_zero, Nat.zero_add, List.drop_zero]
    obtain ⟨rc1, q1, q2⟩ := heap_setCells L1.blk (ints l) (L1.off + 1) w.drew a1
    obtain ⟨rc2, q3, q4⟩ := heap_setCells L1.blk (ints [x]) L1.off _ q1
    have hin1 := World.cell?_setCells_in L1.blk (ints l) (L1.off + 1) w.drew (fun j hj => by
      have := hsp (j + 1) (by rw [hints] at hj; omega)
      rwa [show L1.off + (j + 1) = L1.off + 1 + j by omega] at this)
    have hin2 := World.cell?_setCells_in L1.blk (ints [x]) L1.off (w.drew.setCells L1.blk (L1.off + 1) (ints l)) (fun j hj => by
      obtain rfl : j = 0 := by simp [ints] at hj; omega
      rw [World.cell?_setCells_out L1.blk _ _ _ _ (fun _ _ => Or.inl (by simp))]
      exact hsp 0 (by omega)) 0 (by simp [ints])
    generalize hw' : (w.drew.setCells L1.blk (L1.off + 1) (ints l)).setCells L1.blk L1.off (ints [x]) = w' at *
    have hcells := two_cells L1.blk L1.off x l w' (rc := rc2) (fun o => cell_row q3 o) (by simpa [ints] using hin2) (fun j hj => by
      rw [← hw', World.cell?_setCells_out L1.blk _ _ _ _ (fun _ _ => Or.inr (by simp [ints])), hin1 j (by rw [hints]; exact hj)]
      have h1 : (ints l)[j]? = some (.int .i64 (l.getD j 0)) := map_get _ 0 _ j hj
      rw [← List.getElem?_eq_getElem, h1])
    have hos := os_setCells L1.blk (ints [x]) L1.off (w.drew.setCells L1.blk (L1.off + 1) (ints l))
    have hos1 := os_setCells L1.blk (ints l) (L1.off + 1) w.drew
    have hsz := size_setCells L1.blk (ints [x]) L1.off (w.drew.setCells L1.blk (L1.off + 1) (ints l))
    have hsz1 := size_setCells L1.blk (ints l) (L1.off + 1) w.drew
    have hother : ∀ j, j ≠ L1.blk → w'.heap[j]? = w.drew.heap[j]? := fun j hj => by rw [← hw', heap_setCells_ne _ _ _ _ hj, heap_setCells_ne _ _ _ _ hj]
    rw [hw'] at hos hsz
    obtain ⟨k1, k2⟩ := hs.drew.regen (w' := w') hb L1 (hos.1.trans hos1.1) (hos.2.1.trans hos1.2.1) (hos.2.2.trans hos1.2.2) (by rw [hsz, hsz1]; exact Nat.le_refl _)
      (fun j L' hj hL' => hother _ (hs.apart hj hL' hL1 hrw)) (fun b hb' => hother _ (fun e' => b6 (e' ▸ hb'))) (ints (x :: l)) rc2 t q3 (by rw [q4, q2, a2]) (by simp [ints]; omega) (row_ints hcells) b6 (fun j L' hj hL' _ => hs.apart hj hL' hL1 hrw)
    refine ⟨slv k 0 (g + 1) (l.length + 1) (l.length + 1), _, _, _, rfl, k1, k2, ?_, rfl, rfl⟩
    have := VRel.slice (T := tags (H.set k (.cells (g + 1) 1 false (ints (x :: l))))) (ι := ι.set k (some L1)) (k := k) (o := 0) (g := g + 1) (n := l.length + 1) (c := l.length + 1) (c' := c') (L := L1) (t := ⟨g + 1, 1, false⟩)
      (by simp [tags, hkl, AObj.tag]) rfl (by rw [List.getElem?_set_self hkι]) hfit (.inr ⟨rfl, by simpa using hrm, hr2.2.2⟩)
    simpa using this
  · have hcall := Proofs.Any2.slices_Insert_int_grow L L1.blk L1.off l.length c' 0 L2.blk L2.off 1 cv' (ints l) (ints [x]) w hl (by omega) hc (by omega) (by omega) hints rfl o3 p3 o4 p4
    refine hcall.mono ?_
    rintro e w' ⟨rfl, rfl⟩
    simp only [Nat.zero_add, List.drop_zero, List.take_zero, Nat.sub_zero]
    generalize hG : grownCap w (l.length + 1) c' (ρ.t 3) = G
    have hG1 : l.length + 1 ≤ G := by rw [← hG]; exact le_grownCap _ _ _ _
    have hG2 : G ≤ 9223372036854775807 := by rw [← hG]; exact grownCap_max _ _ _ _ (by omega)
    generalize hR : (([] : List Value).toArray ++ Builtin.zeroCells (Value.int .i64 0).cells (l.length + 1) ++ Builtin.zeroCells (Value.int .i64 0).cells (G - (l.length + 1))) = R
    have hRs : R.size = G := by
      rw [← hR]
      simp [size_zeroCells, Value.cells]
      omega
    have a1' : ((w.alloc (.cells R (ρ.t 3))).drew).heap[w.heap.size]? = some (.cells R (ρ.t 3) (0, 0)) := heap_alloc_new w _
    obtain ⟨rc1, q1, q2⟩ := heap_setCells w.heap.size (ints [x]) 0 _ a1'
    obtain ⟨rc2, q3, q4⟩ := heap_setCells w.heap.size (ints l) 1 (((w.alloc (.cells R (ρ.t 3))).drew.setCells w.heap.size 0 (ints [x])).drew) q1
    have hsp : ∀ j, j < l.length + 1 → ((w.alloc (.cells R (ρ.t 3))).drew.cell? ⟨w.heap.size, j, none⟩).isSome = true := fun j hj => by
      rw [cell_row a1', Array.getElem?_eq_getElem (by omega)]; rfl
    have hin1 := World.cell?_setCells_in w.heap.size (ints [x]) 0 (w.alloc (.cells R (ρ.t 3))).drew (fun j hj => by rw [Nat.zero_add]; exact hsp j (by simp [ints] at hj; omega)) 0 (by simp [ints])
    have hin2 := World.cell?_setCells_in w.heap.size (ints l) 1 (((w.alloc (.cells R (ρ.t 3))).drew.setCells w.heap.size 0 (ints [x])).drew) (fun j hj => by
      show (((w.alloc (.cells R (ρ.t 3))).drew.setCells w.heap.size 0 (ints [x])).cell? _).isSome = true
      rw [World.cell?_setCells_out w.heap.size _ _ _ _ (fun _ _ => Or.inr (by simp [ints]))]
      exact hsp _ (by rw [hints] at hj; omega))
    generalize hw' : (((w.alloc (.cells R (ρ.t 3))).drew.setCells w.heap.size 0 (ints [x])).drew).setCells w.heap.size 1 (ints l) = w' at *
    have hcells := two_cells w.heap.size 0 x l w' (rc := rc2) (fun o => cell_row q3 o) (by
      rw [← hw', World.cell?_setCells_out w.heap.size _ _ _ _ (fun _ _ => Or.inl (by simp))]
      simpa [ints] using hin1) (fun j hj => by
      rw [show 0 + 1 + j = 1 + j by omega, hin2 j (by rw [hints]; exact hj)]
      have h1 : (ints l)[j]? = some (.int .i64 (l.getD j 0)) := map_get _ 0 _ j hj
      rw [← List.getElem?_eq_getElem, h1])
    have hos := os_setCells w.heap.size (ints l) 1 (((w.alloc (.cells R (ρ.t 3))).drew.setCells w.heap.size 0 (ints [x])).drew)
    have hos1 := os_setCells w.heap.size (ints [x]) 0 (w.alloc (.cells R (ρ.t 3))).drew
    have hsz := size_setCells w.heap.size (ints l) 1 (((w.alloc (.cells R (ρ.t 3))).drew.setCells w.heap.size 0 (ints [x])).drew)
    have hsz1 := size_setCells w.heap.size (ints [x]) 0 (w.alloc (.cells R (ρ.t 3))).drew
    have hsz2 : (w.alloc (.cells R (ρ.t 3))).drew.heap.size = w.heap.size + 1 := by simp
    have hother : ∀ j, j < w.heap.size → w'.heap[j]? = w.heap[j]? := fun j hj => by
      rw [← hw', heap_setCells_ne _ _ _ _ (show j ≠ w.heap.size by omega)]
      show ((w.alloc (.cells R (ρ.t 3))).drew.setCells w.heap.size 0 (ints [x])).heap[j]? = _
      rw [heap_setCells_ne _ _ _ _ (show j ≠ w.heap.size by omega)]
      exact heap_alloc_old w _ hj
    rw [hw'] at hos hsz
    have hnp : ¬ prot w.heap.size := fun hp => by have := hs.low _ hp; have := hs.size; omega
    obtain ⟨k1, k2⟩ := hs.regen (w' := w') hb ⟨w.heap.size, 0, G⟩ (hos.1.trans hos1.1) (hos.2.1.trans hos1.2.1) (hos.2.2.trans hos1.2.2) (by rw [hsz]; show _ ≤ ((w.alloc (.cells R (ρ.t 3))).drew.setCells w.heap.size 0 (ints [x])).heap.size; rw [hsz1, hsz2]; omega)
      (fun j L' hj hL' => hother _ (hs.loc_lt hL')) (fun b hb' => hother _ (Nat.lt_of_lt_of_le (hs.low _ hb') hs.size)) (ints (x :: l)) rc2 (ρ.t 3) q3 (by rw [q4, q2, hRs]; simp) (by simp [ints]; omega) (row_ints hcells) hnp (fun j L' hj hL' _ e' => by have := hs.loc_lt hL'; simp at e'; omega)
    refine ⟨slv k 0 (g + 1) (l.length + 1) (l.length + 1), _, _, _, rfl, k1, k2, ?_, rfl, rfl⟩
    have := VRel.slice (T := tags (H.set k (.cells (g + 1) 1 false (ints (x :: l))))) (ι := ι.set k (some ⟨w.heap.size, 0, G⟩)) (k := k) (o := 0) (g := g + 1) (n := l.length + 1) (c := l.length + 1) (c' := G) (L := ⟨w.heap.size, 0, G⟩) (t := ⟨g + 1, 1, false⟩)
      (by simp [tags, hkl, AObj.tag]) rfl (by rw [List.getElem?_set_self hkι]) hG1 (.inr ⟨rfl, by simp, hG2⟩)
    simpa using this
end
end Go.Proofs.Ytabcjhpgamhpoaa
