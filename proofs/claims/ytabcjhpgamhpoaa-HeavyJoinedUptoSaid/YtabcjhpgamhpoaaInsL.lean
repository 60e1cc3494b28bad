import Derived.Test.YtabcjhpgamhpoaaInsC
import Derived.Test.YtabcjhpgamhpoaaAmX
/- slices.Insert of one struct of two cells, told of abstract heaps. -/
set_option linter.unusedVariables false
set_option linter.unusedSimpArgs false
set_option maxHeartbeats 2000000
namespace Go.Proofs.Ytabcjhpgamhpoaa
open Go Go.Am Go.Shelf
section
variable {prot : Nat → Prop} {B w : World} {ι : Inj} {H : Heap}

theorem rels_flat {T : List Tag} {ι : Inj} {l l' : List Value} (h : VRels T ι l l') (hf : ∀ v ∈ l, ∃ kd n, v = .int kd n) : l' = l := by
  refine List.ext_getElem? fun i => ?_
  by_cases hi : i < l.length
  · have hil : i < l'.length := by rw [← h.1]; exact hi
    have h2 := h.2 i _ _ (List.getElem?_eq_getElem hi) (List.getElem?_eq_getElem hil)
    obtain ⟨kd, n, e⟩ := hf l[i] (List.getElem_mem hi)
    rw [e] at h2
    rw [List.getElem?_eq_getElem hi, List.getElem?_eq_getElem hil, int_eq h2, e]
  · rw [List.getElem?_eq_none (by rw [← h.1]; omega), List.getElem?_eq_none (by omega)]
theorem ins_row (b o i n : Nat) (cs vs : List Value) (hcl : cs.length = n * 2) (hvl : vs.length = 2) (hi : i < n) (w' : World)
    (hA : ∀ j, j < i * 2 → w'.cell? ⟨b, o + j, none⟩ = cs[j]?) (hV : ∀ j, j < 2 → w'.cell? ⟨b, o + i * 2 + j, none⟩ = vs[j]?) (hB : ∀ j, j < (n - i) * 2 → w'.cell? ⟨b, o + (i + 1) * 2 + j, none⟩ = cs[i * 2 + j]?) :
    ∀ (j : Nat) v, (cs.take (i * 2) ++ vs ++ cs.drop (i * 2))[j]? = some v → w'.cell? ⟨b, o + j, none⟩ = some v := fun j v hv => by
  have hl1 : (cs.take (i * 2)).length = i * 2 := by rw [List.length_take]; omega
  by_cases h1 : j < i * 2
  · rw [List.append_assoc, List.getElem?_append_left (by omega), List.getElem?_take_of_lt h1] at hv
    rw [hA j h1, hv]
  · by_cases h2 : j < i * 2 + 2
    · rw [List.append_assoc, List.getElem?_append_right (by omega), List.getElem?_append_left (by omega), hl1] at hv
      have := hV (j - i * 2) (by omega)
      rw [show o + i * 2 + (j - i * 2) = o + j by omega] at this
      rw [this, hv]
    · rw [List.getElem?_append_right (by rw [List.length_append]; omega), List.length_append, hl1, hvl, List.getElem?_drop] at hv
      have hj : i * 2 + (j - (i * 2 + 2)) < cs.length := (List.getElem?_eq_some_iff.1 hv).1
      have := hB (j - (i * 2 + 2)) (by rw [Nat.sub_mul]; omega)
      rw [show o + (i + 1) * 2 + (j - (i * 2 + 2)) = o + j by omega] at this
      rw [this, hv]
/-- One put ahead of another one. -/
theorem insert_at (hfn : fnOk Try.prog 28) (cs vs : List Value) (n i k g kv gv cv : Nat) (H : Heap) (hb : H[k]? = some (.cells g 2 false cs)) (hcl : cs.length = n * 2) (hi : i < n) (hbd : n ≤ 2097152)
    (hv : H[kv]? = some (.cells gv 2 false vs)) (hvl : vs.length = 2) (hkv : kv ≠ k) (hcv0 : 0 < cv) (hfc : ∀ v ∈ cs, ∃ kd n, v = .int kd n) (hfv : ∀ v ∈ vs, ∃ kd n, v = .int kd n) :
    ACallK Try.prog 28 [slv k 0 g n n, .int .i64 i, slv kv 0 gv 1 cv] H (fun v H' => v = slv k 0 (g + 1) (n + 1) (n + 1) ∧ H' = H.set k (.cells (g + 1) 2 false (cs.take (i * 2) ++ vs ++ cs.drop (i * 2)))) := by
  refine ⟨hfn, fun prot B ι w args' hs hargs => ?_⟩
  obtain ⟨s', r1, e1, hs', hr1⟩ := hargs.uncons
  obtain ⟨i', r2, e2, hi', hr2⟩ := hr1.uncons
  obtain ⟨v', r3, e3, hv', hr3⟩ := hr2.uncons
  have e4 := hr3.unnil
  have hargs' : args' = #[s', i', v'] := by apply Array.toList_inj.1; rw [e1, e2, e3, e4]
  subst hargs'
  clear hargs e1 hr1 hr2 hr3 e2 e3 e4
  have hkl : k < H.length := (List.getElem?_eq_some_iff.1 hb).1
  have hkι : k < ι.length := by rw [hs.len]; exact hkl
  have hrw : RW (tags H) k := ⟨_, tag_at hb, rfl⟩
  obtain rfl := int_eq hi'
  obtain ⟨L1, c', hL1, rfl, hc, hroom⟩ := slice_at hs' (tag_at hb) rfl (by omega)
  obtain ⟨L2, cv', hL2, rfl, hcv, _⟩ := slice_at hv' (tag_at hv) rfl hcv0
  have hne : L2.blk ≠ L1.blk := hs.apart hkv hL2 hL1 hrw
  obtain ⟨rc, t, fr, a1, a2, a3, a4, _, a6⟩ := hs.row hb hL1
  obtain ⟨b6, rfl⟩ := a6 rfl
  obtain ⟨rcv, tv, frv, v1, v2, v3, v4, _, v6⟩ := hs.row hv hL2
  obtain ⟨c6, rfl⟩ := v6 rfl
  obtain ⟨os, o1, o2, o3, o4⟩ := hs.read hb hL1 0 (n * 2) (by omega)
  obtain ⟨ws, p1, p2, p3, p4⟩ := hs.read hv hL2 0 2 (by omega)
  rw [List.drop_zero, List.take_of_length_le (by omega)] at o2 p2
  have hos : os = cs := rels_flat o2 hfc
  have hws : ws = vs := rels_flat p2 hfv
  subst hos hws
  simp only [Nat.add_zero, add_none] at o3 p3 ⊢
  have hdl : (os.drop (i * 2)).length = (n - i) * 2 := by rw [List.length_drop, hcl, Nat.sub_mul]
  have hll : (os.take (i * 2) ++ ws ++ os.drop (i * 2)).length = (n + 1) * 2 := by
    rw [List.length_append, List.length_append, hdl, List.length_take, hvl, Nat.sub_mul]; omega
  have hfin : ∀ v ∈ os.take (i * 2) ++ ws ++ os.drop (i * 2), ∃ kd n, v = .int kd n := fun v hv => by
    rcases List.mem_append.1 hv with hv | hv
    · rcases List.mem_append.1 hv with hv | hv
      · exact hfc v (List.mem_of_mem_take hv)
      · exact hfv v hv
    · exact hfc v (List.mem_of_mem_drop hv)
  have hrow : ∀ (b o : Nat) (rc2 : Array Value) (w' : World), (∀ j, w'.cell? ⟨b, j, none⟩ = rc2[j]?) → (∀ (j : Nat) v, (os.take (i * 2) ++ ws ++ os.drop (i * 2))[j]? = some v → w'.cell? ⟨b, o + j, none⟩ = some v) →
      ∀ (j : Nat) v, (os.take (i * 2) ++ ws ++ os.drop (i * 2))[j]? = some v → v.oneCell' = true ∧ ∃ v', rc2[o + j]? = some v' ∧ VRel (tags H) ι v v' := fun b o rc2 w' h1 h2 j v hv => by
    obtain ⟨kd, m, rfl⟩ := hfin v (List.mem_of_getElem? hv)
    exact ⟨rfl, _, by rw [← h1]; exact h2 j _ hv, .flat rfl⟩
  by_cases hfit : n + 1 ≤ c'
  · have hr2 := hroom.resolve_left (show ¬ c' = n by omega)
    have hrm : c' * 2 ≤ L1.room := by have := hr2.2.1; simpa using this
    have hrm2 : (n + 1) * 2 ≤ L1.room := Nat.le_trans (Nat.mul_le_mul_right 2 hfit) hrm
    have hsp : ∀ j, j < (n + 1) * 2 → (w.cell? ⟨L1.blk, L1.off + j, none⟩).isSome = true := fun j hj => by
      rw [cell_row a1, Array.getElem?_eq_getElem (by omega)]; rfl
    have hfz : ∀ (b : Nat) (rc : Array Value) (t : TypeId) (o : Nat), w.heap[b]? = some (.cells rc t (0, 0)) → w.frozen? ⟨b, o, none⟩ = false := fun b rc t o h => by simp [World.frozen?, h]
    have hcall := ins_shift L1.blk L1.off n c' i L2.blk L2.off cv' os ws w hi hfit hr2.2.2 hne hcl hvl o3 hsp (fun j _ => hfz _ _ _ _ a1) p3 o4 p4 tv t rcv.size rc.size (by simp [World.shape?, v1]) (by simp [World.shape?, a1]) (by omega) (hfz _ _ _ _ v1) (hfz _ _ _ _ v1)
    refine hcall.mono ?_
    rintro e w' ⟨rfl, rfl⟩
    obtain ⟨rc1, q1, q2⟩ := heap_setCells L1.blk (os.drop (i * 2)) (L1.off + (i + 1) * 2) w.drew a1
    obtain ⟨rc2, q3, q4⟩ := heap_setCells L1.blk ws (L1.off + i * 2) _ q1
    have hin1 := World.cell?_setCells_in L1.blk (os.drop (i * 2)) (L1.off + (i + 1) * 2) w.drew (fun j hj => by
      have := hsp ((i + 1) * 2 + j) (by rw [hdl, Nat.sub_mul] at hj; omega)
      rwa [← Nat.add_assoc] at this)
    have hin2 := World.cell?_setCells_in L1.blk ws (L1.off + i * 2) (w.drew.setCells L1.blk (L1.off + (i + 1) * 2) (os.drop (i * 2))) (fun j hj => by
      rw [World.cell?_setCells_out L1.blk _ _ _ _ (fun _ _ => Or.inl (by show L1.off + i * 2 + j < _; omega))]
      have := hsp (i * 2 + j) (by omega)
      rwa [← Nat.add_assoc] at this)
    have hcells := ins_row L1.blk L1.off i n os ws hcl hvl hi ((w.drew.setCells L1.blk (L1.off + (i + 1) * 2) (os.drop (i * 2))).setCells L1.blk (L1.off + i * 2) ws) (fun j hj => by
        rw [World.cell?_setCells_out L1.blk _ _ _ _ (fun _ _ => Or.inl (by show L1.off + j < _; omega)), World.cell?_setCells_out L1.blk _ _ _ _ (fun _ _ => Or.inl (by show L1.off + j < _; omega))]
        rw [List.getElem?_eq_getElem (show j < os.length by omega)]
        exact o3 j _ (List.getElem?_eq_getElem _)) (fun j hj => by
        rw [hin2 j (by omega), List.getElem?_eq_getElem]) (fun j hj => by
        rw [World.cell?_setCells_out L1.blk _ _ _ _ (fun _ _ => Or.inr (by show L1.off + i * 2 + ws.length ≤ L1.off + (i + 1) * 2 + j; omega)), hin1 j (by rw [hdl]; exact hj), ← List.getElem?_eq_getElem, List.getElem?_drop])
    have hos := os_setCells L1.blk ws (L1.off + i * 2) (w.drew.setCells L1.blk (L1.off + (i + 1) * 2) (os.drop (i * 2)))
    have hos1 := os_setCells L1.blk (os.drop (i * 2)) (L1.off + (i + 1) * 2) w.drew
    have hsz := size_setCells L1.blk ws (L1.off + i * 2) (w.drew.setCells L1.blk (L1.off + (i + 1) * 2) (os.drop (i * 2)))
    have hsz1 := size_setCells L1.blk (os.drop (i * 2)) (L1.off + (i + 1) * 2) w.drew
    have hother : ∀ j, j ≠ L1.blk → ((w.drew.setCells L1.blk (L1.off + (i + 1) * 2) (os.drop (i * 2))).setCells L1.blk (L1.off + i * 2) ws).heap[j]? = w.drew.heap[j]? := fun j hj => by rw [heap_setCells_ne _ _ _ _ hj, heap_setCells_ne _ _ _ _ hj]
    have hR := hrow L1.blk L1.off rc2 _ (fun j => cell_row q3 j) hcells
    obtain ⟨k1, k2⟩ := hs.drew.regen (w' := (w.drew.setCells L1.blk (L1.off + (i + 1) * 2) (os.drop (i * 2))).setCells L1.blk (L1.off + i * 2) ws) hb L1 (hos.1.trans hos1.1) (hos.2.1.trans hos1.2.1) (hos.2.2.trans hos1.2.2) (by rw [hsz, hsz1]; exact Nat.le_refl _)
      (fun j L' hj hL' => hother _ (hs.apart hj hL' hL1 hrw)) (fun b hb' => hother _ (fun e' => b6 (e' ▸ hb'))) (os.take (i * 2) ++ ws ++ os.drop (i * 2)) rc2 t q3 (by rw [q4, q2, a2]) (by rw [hll]; exact hrm2) hR b6 (fun j L' hj hL' _ => hs.apart hj hL' hL1 hrw)
    refine ⟨slv k 0 (g + 1) (n + 1) (n + 1), _, _, _, rfl, k1, k2, ?_, rfl, rfl⟩
    have := VRel.slice (T := tags (H.set k (.cells (g + 1) 2 false (os.take (i * 2) ++ ws ++ os.drop (i * 2))))) (ι := ι.set k (some L1)) (k := k) (o := 0) (g := g + 1) (n := n + 1) (c := n + 1) (c' := c') (L := L1) (t := ⟨g + 1, 2, false⟩)
      (by simp [tags, hkl, AObj.tag]) rfl (by rw [List.getElem?_set_self hkι]) hfit (.inr ⟨rfl, by simpa using hrm, hr2.2.2⟩)
    simpa using this
  · have hcall := ins_grow L1.blk L1.off n c' i L2.blk L2.off cv' os ws w hi hc (by omega) (by omega) hcl hvl o3 p3 o4 p4
    refine hcall.mono ?_
    rintro e w' ⟨rfl, rfl⟩
    generalize hG : grownCap w (n + 1) c' 35 = G
    have hG1 : n + 1 ≤ G := by rw [← hG]; exact le_grownCap _ _ _ _
    have hG2 : G ≤ 9223372036854775807 := by rw [← hG]; exact grownCap_max _ _ _ _ (by omega)
    generalize hR : ((os.take (i * 2)).toArray ++ Builtin.zeroCells zOp.cells (n + 1 - i) ++ Builtin.zeroCells zOp.cells (G - (n + 1))) = R
    have hRs : R.size = G * 2 := by
      rw [← hR]
      have hzz : zOp.cells.size = 2 := rfl
      simp only [Array.size_append, size_zeroCells, List.size_toArray, List.length_take, hzz]
      omega
    have hR0 : ∀ j, j < i * 2 → R[j]? = os[j]? := fun j hj => by
      rw [← hR, Array.append_assoc, Array.getElem?_append_left (by simp; omega)]
      simp [List.getElem?_take_of_lt hj]
    have a1' : ((w.alloc (.cells R 35)).drew).heap[w.heap.size]? = some (.cells R 35 (0, 0)) := heap_alloc_new w _
    obtain ⟨rc1, q1, q2⟩ := heap_setCells w.heap.size ws (i * 2) _ a1'
    obtain ⟨rc2, q3, q4⟩ := heap_setCells w.heap.size (os.drop (i * 2)) ((i + 1) * 2) (((w.alloc (.cells R 35)).drew.setCells w.heap.size (i * 2) ws).drew) q1
    have hsp : ∀ j, j < (n + 1) * 2 → ((w.alloc (.cells R 35)).drew.cell? ⟨w.heap.size, j, none⟩).isSome = true := fun j hj => by
      rw [cell_row a1', Array.getElem?_eq_getElem (by omega)]; rfl
    have hin1 := World.cell?_setCells_in w.heap.size ws (i * 2) (w.alloc (.cells R 35)).drew (fun j hj => hsp (i * 2 + j) (by omega))
    have hin2 := World.cell?_setCells_in w.heap.size (os.drop (i * 2)) ((i + 1) * 2) (((w.alloc (.cells R 35)).drew.setCells w.heap.size (i * 2) ws).drew) (fun j hj => by
      show (((w.alloc (.cells R 35)).drew.setCells w.heap.size (i * 2) ws).cell? _).isSome = true
      rw [World.cell?_setCells_out w.heap.size _ _ _ _ (fun _ _ => Or.inr (by show i * 2 + ws.length ≤ (i + 1) * 2 + j; omega))]
      exact hsp _ (by rw [hdl, Nat.sub_mul] at hj; omega))
    have hcells := ins_row w.heap.size 0 i n os ws hcl hvl hi ((((w.alloc (.cells R 35)).drew.setCells w.heap.size (i * 2) ws).drew).setCells w.heap.size ((i + 1) * 2) (os.drop (i * 2))) (fun j hj => by
        rw [Nat.zero_add, World.cell?_setCells_out w.heap.size _ _ _ _ (fun _ _ => Or.inl (by show j < _; omega))]
        show ((w.alloc (.cells R 35)).drew.setCells w.heap.size (i * 2) ws).cell? _ = _
        rw [World.cell?_setCells_out w.heap.size _ _ _ _ (fun _ _ => Or.inl (by show j < _; omega)), cell_row a1', hR0 j hj]) (fun j hj => by
        rw [Nat.zero_add, World.cell?_setCells_out w.heap.size _ _ _ _ (fun _ _ => Or.inl (by show i * 2 + j < _; omega))]
        show ((w.alloc (.cells R 35)).drew.setCells w.heap.size (i * 2) ws).cell? _ = _
        rw [hin1 j (by omega), List.getElem?_eq_getElem]) (fun j hj => by
        rw [Nat.zero_add, hin2 j (by rw [hdl]; exact hj), ← List.getElem?_eq_getElem, List.getElem?_drop])
    have hos := os_setCells w.heap.size (os.drop (i * 2)) ((i + 1) * 2) (((w.alloc (.cells R 35)).drew.setCells w.heap.size (i * 2) ws).drew)
    have hos1 := os_setCells w.heap.size ws (i * 2) (w.alloc (.cells R 35)).drew
    have hsz := size_setCells w.heap.size (os.drop (i * 2)) ((i + 1) * 2) (((w.alloc (.cells R 35)).drew.setCells w.heap.size (i * 2) ws).drew)
    have hsz1 := size_setCells w.heap.size ws (i * 2) (w.alloc (.cells R 35)).drew
    have hsz2 : (w.alloc (.cells R 35)).drew.heap.size = w.heap.size + 1 := by simp
    generalize hw' : (((w.alloc (.cells R 35)).drew.setCells w.heap.size (i * 2) ws).drew).setCells w.heap.size ((i + 1) * 2) (os.drop (i * 2)) = w' at *
    have hother : ∀ j, j < w.heap.size → w'.heap[j]? = w.heap[j]? := fun j hj => by
      rw [← hw', heap_setCells_ne _ _ _ _ (show j ≠ w.heap.size by omega)]
      show ((w.alloc (.cells R 35)).drew.setCells w.heap.size (i * 2) ws).heap[j]? = _
      rw [heap_setCells_ne _ _ _ _ (show j ≠ w.heap.size by omega)]
      exact heap_alloc_old w _ hj
    have hnp : ¬ prot w.heap.size := fun hp => by have := hs.low _ hp; have := hs.size; omega
    have hRR := hrow w.heap.size 0 rc2 w' (fun j => cell_row q3 j) hcells
    obtain ⟨k1, k2⟩ := hs.regen (w' := w') hb ⟨w.heap.size, 0, G * 2⟩ (hos.1.trans hos1.1) (hos.2.1.trans hos1.2.1) (hos.2.2.trans hos1.2.2) (by rw [hsz]; show _ ≤ ((w.alloc (.cells R 35)).drew.setCells w.heap.size (i * 2) ws).heap.size; rw [hsz1, hsz2]; omega)
      (fun j L' hj hL' => hother _ (hs.loc_lt hL')) (fun b hb' => hother _ (Nat.lt_of_lt_of_le (hs.low _ hb') hs.size)) (os.take (i * 2) ++ ws ++ os.drop (i * 2)) rc2 35 q3 (by rw [q4, q2, hRs]; simp) (by rw [hll]; exact Nat.mul_le_mul_right 2 hG1) hRR hnp (fun j L' hj hL' _ e' => by have := hs.loc_lt hL'; simp at e'; omega)
    refine ⟨slv k 0 (g + 1) (n + 1) (n + 1), _, _, _, rfl, k1, k2, ?_, rfl, rfl⟩
    have := VRel.slice (T := tags (H.set k (.cells (g + 1) 2 false (os.take (i * 2) ++ ws ++ os.drop (i * 2))))) (ι := ι.set k (some ⟨w.heap.size, 0, G * 2⟩)) (k := k) (o := 0) (g := g + 1) (n := n + 1) (c := n + 1) (c' := G) (L := ⟨w.heap.size, 0, G * 2⟩) (t := ⟨g + 1, 2, false⟩)
      (by simp [tags, hkl, AObj.tag]) rfl (by rw [List.getElem?_set_self hkι]) hG1 (.inr ⟨rfl, by simp, hG2⟩)
    simpa using this
end
end Go.Proofs.Ytabcjhpgamhpoaa
