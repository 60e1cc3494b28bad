/-
  The abstract machine, part F: the operations are sound, one by one. For any program.
-/
import Derived.Test.YtfkhljgifndbpaaDoorAmE
namespace Go.Am

section
variable {P : Program} {prot : Nat → Prop} {B w : World} {ι : Inj} {H : Heap} {env : Env} {a : Act}

/-- A new row of cells. -/
theorem HSim.row_new (hs : HSim prot B w ι H) (rc : Array Value) (t : TypeId) (esz : Nat) (cs : List Value) (hl : cs.length ≤ rc.size)
    (hc : ∀ (i : Nat) v, cs[i]? = some v → v.oneCell' = true ∧ ∃ v', rc[i]? = some v' ∧ VRel (tags H) ι v v') :
    HSim prot B (w.alloc (.cells rc t)) (ι ++ [some ⟨w.heap.size, 0, rc.size⟩]) (H ++ [.cells 0 esz false cs]) ∧
      Ext (tags H) ι (tags (H ++ [.cells 0 esz false cs])) (ι ++ [some ⟨w.heap.size, 0, rc.size⟩]) := by
  have hι : (ι ++ [some ⟨w.heap.size, 0, rc.size⟩])[H.length]? = some (some ⟨w.heap.size, 0, rc.size⟩) := by rw [← hs.len]; simp
  have hext : Ext (tags H) ι (tags (H ++ [.cells 0 esz false cs])) (ι ++ [some ⟨w.heap.size, 0, rc.size⟩]) := fun k t ht => by
    have hk : k < H.length := by have := (List.getElem?_eq_some_iff.1 ht).1; simpa using this
    exact ⟨t, by rw [tags, List.map_append, List.getElem?_append_left (by simpa using hk)]; exact ht, Nat.le_refl _, fun _ => ⟨rfl, List.getElem?_append_left (by rw [hs.len]; exact hk)⟩⟩
  refine hs.push (some ⟨w.heap.size, 0, rc.size⟩) rfl rfl rfl (by simp) (fun b hb => heap_alloc_old _ _ _ hb)
    (.inr ⟨⟨w.heap.size, 0, rc.size⟩, rc, t, (0, 0), hι, heap_alloc_new _ _, by simp, hl, fun i v hv => ?_, fun h => (by cases h), fun _ => ⟨fun hp => ?_, rfl⟩⟩) (fun L hL _ => by cases hL; exact Nat.le_refl _)
  · obtain ⟨h1, v', h2, h3⟩ := hc i v hv
    exact ⟨h1, v', by simpa using h2, h3.ext hext⟩
  · have := hs.low _ hp
    have := hs.size
    simp at *; omega

theorem VRel.new_ptr {rc : Nat} {esz : Nat} {cs : List Value} (hs : HSim prot B w ι H) :
    VRel (tags (H ++ [.cells 0 esz false cs])) (ι ++ [some ⟨w.heap.size, 0, rc⟩]) (.pointer (some ⟨H.length, 0, some 1⟩)) (.pointer (some ⟨w.heap.size, 0, none⟩)) := by
  have := VRel.ptr (T := tags (H ++ [.cells 0 esz false cs])) (ι := ι ++ [some ⟨w.heap.size, 0, rc⟩]) (k := H.length) (o := 0) (g := 0) (L := ⟨w.heap.size, 0, rc⟩) (t := ⟨0, esz, false⟩) (by simp [AObj.tag]) rfl (by rw [← hs.len]; simp)
  simpa using this

theorem VRel.new_slice {rc : Nat} {esz n c c' : Nat} {cs : List Value} (hs : HSim prot B w ι H) (hc : c ≤ c') (hr : c' = c ∨ (c' * esz ≤ rc ∧ c' ≤ 9223372036854775807)) :
    VRel (tags (H ++ [.cells 0 esz false cs])) (ι ++ [some ⟨w.heap.size, 0, rc⟩]) (.slice (some ⟨H.length, 0, some 1⟩) n c) (.slice (some ⟨w.heap.size, 0, none⟩) n c') := by
  have := VRel.slice (T := tags (H ++ [.cells 0 esz false cs])) (ι := ι ++ [some ⟨w.heap.size, 0, rc⟩]) (k := H.length) (o := 0) (g := 0) (n := n) (c := c) (c' := c') (L := ⟨w.heap.size, 0, rc⟩) (t := ⟨0, esz, false⟩) (by simp [AObj.tag]) rfl (by rw [← hs.len]; simp) hc
    (by rcases hr with h | h
        · exact .inl h
        · exact .inr ⟨rfl, by simpa using h.1, h.2⟩)
  simpa using this

theorem wr_len : ∀ (l cs : List Value) (o : Nat), (wr cs o l).length = cs.length
  | [], cs, o => rfl
  | v :: l, cs, o => by simp [wr, wr_len l]

theorem wr_get : ∀ (l cs : List Value) (o i : Nat), o + l.length ≤ cs.length → (wr cs o l)[i]? = if o ≤ i ∧ i < o + l.length then l[i - o]? else cs[i]?
  | [], cs, o, i, h => by simp [wr]; intro h1 h2; omega
  | v :: l, cs, o, i, h => by
    simp only [List.length_cons] at h
    rw [wr, wr_get l _ _ _ (by simp; omega)]
    by_cases h1 : o + 1 ≤ i ∧ i < o + 1 + l.length
    · have h2 : o ≤ i ∧ i < o + (v :: l).length := by simp; omega
      rw [if_pos h1, if_pos h2]
      have : i - o = (i - (o + 1)) + 1 := by omega
      rw [this]; rfl
    · rw [if_neg h1]
      by_cases h3 : i = o
      · subst h3
        have h2 : i ≤ i ∧ i < i + (v :: l).length := by simp
        rw [if_pos h2, List.getElem?_set_self (by omega)]
        simp
      · have h2 : ¬ (o ≤ i ∧ i < o + (v :: l).length) := by simp at h1 ⊢; omega
        rw [if_neg h2, List.getElem?_set_ne (Ne.symm h3)]

/-- Cells are written into an object that may be written. -/
theorem HSim.write (hs : HSim prot B w ι H) {k g esz : Nat} {cs : List Value} (hb : H[k]? = some (.cells g esz false cs)) {L : Loc} (hl : ι[k]? = some (some L)) (o : Nat) (l l' : List Value)
    (hn : o + l.length ≤ cs.length) (hr : VRels (tags H) ι l l') (h1 : ∀ v ∈ l, v.oneCell' = true) :
    ∃ w', (storeCells ⟨L.blk, L.off + o, none⟩ l').run P w = .ok () w' ∧ HSim prot B w' ι (H.set k (.cells g esz false (wr cs o l))) ∧ Ext (tags H) ι (tags (H.set k (.cells g esz false (wr cs o l)))) ι := by
  obtain ⟨rc, t, fr, a1, a2, a3, a4, a5, a6⟩ := hs.row hb hl
  obtain ⟨b6, rfl⟩ := a6 rfl
  have hkl : k < H.length := (List.getElem?_eq_some_iff.1 hb).1
  have hl1 : ∀ v ∈ l', v.oneCell' = true := fun v hv => by
    obtain ⟨i, hi⟩ := List.getElem?_of_mem hv
    have hil : i < l.length := by have := (List.getElem?_eq_some_iff.1 hi).1; rw [hr.1]; exact this
    rw [(hr.2 i _ v (List.getElem?_eq_getElem hil) hi).one]
    exact h1 _ (List.getElem_mem hil)
  have hst := run_storeCells_at P L.blk (L.off + o) t l' 0 rc w a1 (by rw [← hr.1]; omega) hl1
  refine ⟨_, hst, ?_⟩
  simp only [Nat.add_zero]
  have htag : tags (H.set k (.cells g esz false (wr cs o l))) = tags H := by
    apply List.ext_getElem?
    intro j
    simp only [tags, List.getElem?_map, List.getElem?_set]
    by_cases hj : k = j
    · subst hj; rw [hb]; simp [hkl, AObj.tag]
    · simp [hj]
  have hlt : L.blk < w.heap.size := (Array.getElem?_eq_some_iff.1 a1).1
  have hsetι : ι.set k (some L) = ι := by
    apply List.ext_getElem?
    intro j
    rw [List.getElem?_set]
    by_cases hj : k = j
    · subst hj; rw [hl]; simp [(List.getElem?_eq_some_iff.1 hl).1]
    · simp [hj]
  have hother : ∀ b, b ≠ L.blk → (w.setRow L.blk (rc.toList.take (L.off + o) ++ l' ++ rc.toList.drop (L.off + o + l'.length)).toArray).heap[b]? = w.heap[b]? := fun b hbn => by
    simp only [World.setRow, Array.getElem?_modify]; rw [if_neg (Ne.symm hbn)]
  have hrw : RW (tags H) k := ⟨_, tag_at hb, rfl⟩
  have hrep := hs.replace (w' := w.setRow L.blk (rc.toList.take (L.off + o) ++ l' ++ rc.toList.drop (L.off + o + l'.length)).toArray) (o' := .cells g esz false (wr cs o l)) (some L) hkl rfl rfl rfl (by simp [World.setRow])
    (fun j L' hj hL' => hother _ (hs.apart hj hL' hl hrw)) (fun b hb' => hother _ (fun e => b6 (e ▸ hb')))
    (by rw [htag, hsetι]; exact .refl _ _) ?_ (fun L1 hL1 j L' hj hL' _ => by cases hL1; exact hs.apart hj hL' hl hrw)
  · rw [hsetι] at hrep
    exact ⟨hrep, by rw [htag]; exact .refl _ _⟩
  · rw [htag, hsetι]
    refine .inr ⟨L, _, t, (0, 0), hl, setRow_heap w L.blk rc _ t _ a1, ?_, by rw [wr_len]; exact a3, fun i v hv => ?_, fun h => (by cases h), fun _ => ⟨b6, rfl⟩⟩
    · simp; rw [← hr.1]; omega
    · rw [wr_get _ _ _ _ hn] at hv
      have hrs : rc.size = L.off + L.room := a2
      by_cases hi : o ≤ i ∧ i < o + l.length
      · rw [if_pos hi] at hv
        have hil : i - o < l'.length := by rw [← hr.1]; omega
        refine ⟨h1 v (List.mem_of_getElem? hv), l'[i - o], ?_, hr.2 _ _ _ hv (List.getElem?_eq_getElem hil)⟩
        have hmin : (List.take (L.off + o) rc.toList).length = L.off + o := by simp; omega
        simp only [List.getElem?_toArray]
        rw [List.getElem?_append_left (by simp; omega), List.getElem?_append_right (by rw [hmin]; omega), hmin, show L.off + i - (L.off + o) = i - o by omega, List.getElem?_eq_getElem hil]
      · rw [if_neg hi] at hv
        obtain ⟨b1, v', b2, b3⟩ := a4 i v hv
        refine ⟨b1, v', ?_, b3⟩
        have hmin : (List.take (L.off + o) rc.toList).length = L.off + o := by simp; omega
        simp only [List.getElem?_toArray]
        by_cases hi2 : i < o
        · rw [List.append_assoc, List.getElem?_append_left (by rw [hmin]; omega), List.getElem?_take_of_lt (by omega)]
          simpa using b2
        · have hi3 : o + l.length ≤ i := by omega
          rw [List.getElem?_append_right (by simp; rw [← hr.1]; omega), List.getElem?_drop]
          have : L.off + o + l'.length + (L.off + i - (List.take (L.off + o) rc.toList ++ l').length) = L.off + i := by simp; rw [← hr.1]; omega
          rw [this]
          simpa using b2

end
end Go.Am
