/-
  The abstract machine, part K: append and copy are sound. For any program.
-/
import Derived.Test.YtfkhljgifndbpaaDoorAmJ
import Derived.Laws.AppendOwn
import Derived.Lib.AppendZeros
import Derived.Laws.Strings
import Derived.Laws.Concat
import Derived.Laws.Externs
import Derived.MapKept
namespace Go.Am

section
variable {P : Program} {prot : Nat → Prop} {B w : World} {ι : Inj} {H : Heap} {env : Env} {a : Act} {K : Value → Heap → Prop}

/-- An object turns, and lies elsewhere from now on: what referred to it is stale. -/
theorem HSim.regen {w' : World} (hs : HSim prot B w ι H) {k g esz : Nat} {cs : List Value} (hb : H[k]? = some (.cells g esz false cs)) (L : Loc)
    (hos : w'.os = w.os) (htape : w'.tape = w.tape) (hout : w'.output = w.output) (hsize : w.heap.size ≤ w'.heap.size)
    (hblocks : ∀ (j : Nat) L', j ≠ k → ι[j]? = some (some L') → w'.heap[L'.blk]? = w.heap[L'.blk]?) (hprot : ∀ b, prot b → w'.heap[b]? = w.heap[b]?)
    (cs' : List Value) (rc : Array Value) (t : TypeId) (hrow : w'.heap[L.blk]? = some (.cells rc t (0, 0))) (hrs : rc.size = L.off + L.room) (hl : cs'.length ≤ L.room)
    (hc : ∀ (i : Nat) v, cs'[i]? = some v → v.oneCell' = true ∧ ∃ v', rc[L.off + i]? = some v' ∧ VRel (tags H) ι v v') (hnp : ¬ prot L.blk)
    (hsep : ∀ (j : Nat) L', j ≠ k → ι[j]? = some (some L') → RW (tags H) j → L'.blk ≠ L.blk) :
    HSim prot B w' (ι.set k (some L)) (H.set k (.cells (g + 1) esz false cs')) ∧ Ext (tags H) ι (tags (H.set k (.cells (g + 1) esz false cs'))) (ι.set k (some L)) := by
  have hkl : k < H.length := (List.getElem?_eq_some_iff.1 hb).1
  have hkι : k < ι.length := by rw [hs.len]; exact hkl
  have hext : Ext (tags H) ι (tags (H.set k (.cells (g + 1) esz false cs'))) (ι.set k (some L)) := by
    intro j t ht
    by_cases hj : j = k
    · subst hj
      rw [tag_at hb] at ht; cases ht
      exact ⟨⟨g + 1, esz, false⟩, by simp [tags, hkl, AObj.tag], by simp, fun e => by simp at e⟩
    · refine ⟨t, ?_, Nat.le_refl _, fun _ => ⟨rfl, by rw [List.getElem?_set_ne (Ne.symm hj)]⟩⟩
      rw [tags, List.getElem?_map, List.getElem?_set_ne (Ne.symm hj)]
      rw [tags, List.getElem?_map] at ht; exact ht
  refine ⟨hs.replace (some L) hkl hos htape hout hsize hblocks hprot hext (.inr ⟨L, rc, t, (0, 0), by rw [List.getElem?_set_self hkι], hrow, hrs, hl, fun i v hv => ?_, fun h => (by cases h), fun _ => ⟨hnp, rfl⟩⟩) (fun L1 hL1 j L' hj hL' hr => by cases hL1; exact hsep j L' hj hL' hr), hext⟩
  obtain ⟨h1, v', h2, h3⟩ := hc i v hv
  exact ⟨h1, v', h2, h3.ext hext⟩

/-- An object turns where it lies; what referred to it still does. -/
theorem HSim.renew {w' : World} (hs : HSim prot B w ι H) {k g esz : Nat} {cs : List Value} (hb : H[k]? = some (.cells g esz false cs)) {L : Loc} (hL : ι[k]? = some (some L))
    (hos : w'.os = w.os) (htape : w'.tape = w.tape) (hout : w'.output = w.output) (hsize : w.heap.size ≤ w'.heap.size)
    (hblocks : ∀ (j : Nat) L', j ≠ k → ι[j]? = some (some L') → w'.heap[L'.blk]? = w.heap[L'.blk]?) (hprot : ∀ b, prot b → w'.heap[b]? = w.heap[b]?)
    (cs' : List Value) (rc : Array Value) (t : TypeId) (hrow : w'.heap[L.blk]? = some (.cells rc t (0, 0))) (hrs : rc.size = L.off + L.room) (hl : cs'.length ≤ L.room)
    (hc : ∀ (i : Nat) v, cs'[i]? = some v → v.oneCell' = true ∧ ∃ v', rc[L.off + i]? = some v' ∧ VRel (tags H) ι v v') (hnp : ¬ prot L.blk)
    (hsep : ∀ (j : Nat) L', j ≠ k → ι[j]? = some (some L') → RW (tags H) j → L'.blk ≠ L.blk) :
    HSim prot B w' ι (H.set k (.cells g esz false cs')) ∧ Ext (tags H) ι (tags (H.set k (.cells g esz false cs'))) ι := by
  have hkl : k < H.length := (List.getElem?_eq_some_iff.1 hb).1
  have hι : ι.set k (some L) = ι := by
    refine List.ext_getElem? fun j => ?_
    by_cases e : j = k
    · subst e; rw [hL, List.getElem?_set_self (by rw [hs.len]; exact hkl)]
    · rw [List.getElem?_set_ne (Ne.symm e)]
  have ht : tags (H.set k (.cells g esz false cs')) = tags H := by
    refine List.ext_getElem? fun j => ?_
    rw [tags, List.getElem?_map]
    by_cases e : j = k
    · subst e; rw [List.getElem?_set_self hkl, tag_at hb]; rfl
    · rw [List.getElem?_set_ne (Ne.symm e), tags, List.getElem?_map]
  have hext : Ext (tags H) ι (tags (H.set k (.cells g esz false cs'))) ι := by rw [ht]; exact .refl _ _
  have := hs.replace (o' := .cells g esz false cs') (some L) hkl hos htape hout hsize hblocks hprot (by rw [hι]; exact hext) (.inr ⟨L, rc, t, (0, 0), by rw [hι]; exact hL, hrow, hrs, hl, fun i v hv => by
    obtain ⟨h1, v', h2, h3⟩ := hc i v hv
    exact ⟨h1, v', h2, by rw [hι, ht]; exact h3⟩, fun h => (by cases h), fun _ => ⟨hnp, rfl⟩⟩) (fun L1 hL1 j L' hj hL' hr => by cases hL1; exact hsep j L' hj hL' hr)
  rw [hι] at this
  exact ⟨this, hext⟩

theorem run_append_zero (w : World) {t e : TypeId} {i : TypeInfo} (ht : P.underlying t = some (.slice e)) (hi : P.info? e = some i) (ty : TypeId) (b x : Option Addr) (n c c2 : Nat) (hn : n ≤ c) :
    (Builtin.append_ #[t, t] ty #[.slice b n c, .slice x 0 c2]).run P w = .ok (.slice b n c) w := by
  have hf : (Builtin.firstCells i.size 0 (.slice x 0 c2)).run P w = .ok #[] w := by
    cases x with
    | none => simp [Builtin.firstCells]
    | some x => simp [Builtin.firstCells, loadCells, loadCellsFrom]
  cases b <;> simp [Builtin.append_, run_underlying ht, run_sizeOf' hi, Builtin.lenOf, hn, hf, storeCells]

theorem run_append_room (w w' : World) {t e : TypeId} {i : TypeInfo} (ht : P.underlying t = some (.slice e)) (hi : P.info? e = some i) (ty : TypeId) (b q : Addr) (n c m c2 : Nat) (hn : n + m ≤ c) (news : List Value) (hl : news.length = m * i.size)
    (hnews : ∀ (j : Nat) v, news[j]? = some v → w.cell? (q.add j) = some v) (hst : (storeCells (b.add (n * i.size)) news).run P w = .ok () w') :
    (Builtin.append_ #[t, t] ty #[.slice (some b) n c, .slice (some q) m c2]).run P w = .ok (.slice (some b) (n + m) c) w' := by
  have hf := run_firstCells_some (P := P) w i.size m q m c2 news hl hnews
  simp [Builtin.append_, run_underlying ht, run_sizeOf' hi, Builtin.lenOf, hn, hf, hst]

theorem grownCap_max (w : World) (need old : Nat) (e : TypeId) (h : need ≤ 9223372036854775807) : grownCap w need old e ≤ 9223372036854775807 := grownCap_le_maxLen w need old e h
theorem le_grownCap (w : World) (need old : Nat) (e : TypeId) : need ≤ grownCap w need old e := by
  simp only [grownCap, Question.cut]; omega

theorem get_append_zero {l : List Value} {z : Array Value} {i : Nat} {v : Value} (h : l[i]? = some v) : (l.toArray ++ z)[i]? = some v := by
  have hi : i < l.length := (List.getElem?_eq_some_iff.1 h).1
  rw [Array.getElem?_append_left (by simpa using hi)]
  simpa using h

/-- The real run of an append whose source is given by its cells. -/
theorem sound_appendK (hs : HSim prot B w ι H) {t e : TypeId} {i : TypeInfo} {z : List Value} (ht : P.underlying t = some (.slice e)) (hi : P.info? e = some i) (hz : zeroOf P e = some z) (hc : i.size = z.length ∧ 0 < i.size ∧ 0 < i.bytes)
    {v v' : Value} (hv : VRel (tags H) ι v v') {new news : List Value} {m c2 : Nat} {x : Option Addr} (hr : VRels (tags H) ι new news) (h1 : ∀ u ∈ new, u.oneCell' = true) (hl : news.length = m * i.size)
    (hx : m = 0 ∨ ∃ q, x = some q ∧ ∀ (j : Nat) u, news[j]? = some u → w.cell? (q.add j) = some u) (h : appendK H i.size i.bytes v new m K) (ty : TypeId) :
    ∃ u' w' u H' ι', (Builtin.append_ #[t, t] ty #[v', .slice x m c2]).run P w = .ok u' w' ∧ HSim prot B w' ι' H' ∧ Ext (tags H) ι (tags H') ι' ∧ VRel (tags H') ι' u u' ∧ K u H' := by
  obtain ⟨c1, c3, c4⟩ := hc
  obtain ⟨it, zv, hi', hzv, rfl, hf⟩ := zeroOf_spec hz
  rw [hi] at hi'; cases hi'
  have hzs : zv.cells.size = i.size := by simpa using c1.symm
  have hln : new.length = m * i.size := by rw [hr.1]; exact hl
  have hone : ∀ (j : Nat) u, new[j]? = some u → u.oneCell' = true ∧ ∃ u', news[j]? = some u' ∧ VRel (tags H) ι u u' := fun j u hu => by
    have hj : j < news.length := by rw [← hr.1]; exact (List.getElem?_eq_some_iff.1 hu).1
    exact ⟨h1 u (List.mem_of_getElem? hu), news[j], List.getElem?_eq_getElem hj, hr.2 j u _ hu (List.getElem?_eq_getElem hj)⟩
  rcases sliceK_inv h hv with ⟨rfl, rfl, h2⟩ | ⟨p, n, c, g, esz, ro, cs, rfl, hb, hsp, h2, h3⟩
  · -- nil
    by_cases hm : m = 0
    · subst hm
      rw [if_pos rfl] at h2
      exact ⟨_, w, _, H, ι, run_append_zero w ht hi ty none x 0 0 c2 (Nat.le_refl _), hs, .refl _ _, hv, h2⟩
    · rw [if_neg hm] at h2
      by_cases hbd : m * i.bytes ≤ 140737488355328
      · rw [if_pos hbd] at h2
        obtain ⟨q, rfl, hq⟩ := hx.resolve_left hm
        have hm63 : m ≤ 140737488355328 := Nat.le_trans (Nat.le_mul_of_pos_right _ c4) hbd
        have hrun := run_append_nil (P := P) w t ty e i zv ht hi hzv q m c2 news hl hq (by omega) (by omega) (by omega)
        obtain ⟨k1, k2⟩ := hs.drew.row_new (news.toArray ++ Builtin.zeroCells zv.cells (grownCap w m 0 e - m)) e i.size new (by simp; rw [hr.1]; omega)
          (fun j u hu => by obtain ⟨a1, u', a2, a3⟩ := hone j u hu; exact ⟨a1, u', get_append_zero a2, a3⟩)
        refine ⟨_, _, _, _, _, hrun, k1, k2, VRel.new_slice hs.drew (le_grownCap w m 0 e) (.inr ⟨?_, grownCap_max w m 0 e (by omega)⟩), h2⟩
        simp only [List.size_toArray, Array.size_append, size_zeroCells, hl, hzs]
        have := le_grownCap w m 0 e
        rw [← Nat.add_mul]
        exact Nat.mul_le_mul_right _ (by omega)
      · rw [if_neg hbd] at h2; exact h2.elim
  · obtain ⟨pk, po, ps⟩ := p
    simp only at hb hsp h2 h3
    subst hsp
    have htag := tag_at hb
    by_cases hm : m = 0
    · subst hm
      rw [if_pos rfl] at h2
      by_cases hnc : n ≤ c
      · rw [if_pos hnc] at h2
        rcases h3 with ⟨L, c', hL, rfl, hcc, _⟩ | ⟨rfl, rfl, b, rfl⟩
        · exact ⟨_, w, _, H, ι, run_append_zero w ht hi ty _ x n c' c2 (by omega), hs, .refl _ _, hv, h2⟩
        · exact ⟨_, w, _, H, ι, run_append_zero w ht hi ty _ x 0 0 c2 (Nat.le_refl _), hs, .refl _ _, hv, h2⟩
      · rw [if_neg hnc] at h2; exact h2.elim
    · rw [if_neg hm] at h2
      obtain ⟨q, rfl, hq⟩ := hx.resolve_left hm
      by_cases hfit : n + m ≤ c
      · rw [if_pos hfit] at h2
        by_cases hw : ro = false ∧ po + (n + m) * i.size ≤ cs.length
        · rw [if_pos hw] at h2
          obtain ⟨rfl, hw⟩ := hw
          rcases h3 with ⟨L, c', hL, rfl, hcc, hcap⟩ | ⟨rfl, rfl, b, rfl⟩
          · rw [Nat.add_mul] at hw
            obtain ⟨w', w1, w2, w3⟩ := hs.write (P := P) hb hL (po + n * i.size) new news (by rw [hln]; omega) hr h1
            have hrun := run_append_room (P := P) w w' ht hi ty ⟨L.blk, L.off + po, none⟩ q n c' m c2 (by omega) news hl hq (by rw [add_none, Nat.add_assoc]; exact w1)
            refine ⟨_, w', _, _, ι, hrun, w2, w3, ?_, h2⟩
            exact .slice (t := ⟨g, esz, false⟩) (by simp [tags, (List.getElem?_eq_some_iff.1 hb).1, AObj.tag]) rfl hL hcc hcap
          · omega
        · rw [if_neg hw] at h2; exact h2.elim
      · rw [if_neg hfit] at h2
        by_cases hw : esz = i.size ∧ po + n * i.size ≤ cs.length ∧ (n + m) * i.bytes ≤ 140737488355328
        · rw [if_pos hw] at h2
          obtain ⟨rfl, hw, hbd⟩ := hw
          have hnm63 : n + m ≤ 140737488355328 := Nat.le_trans (Nat.le_mul_of_pos_right _ c4) hbd
          have hlt : pk < H.length := (List.getElem?_eq_some_iff.1 hb).1
          have hltι : pk < ι.length := by rw [hs.len]; exact hlt
          -- what a new array gives: the old cells and the new ones
          have grow : ∀ (olds : List Value) (b : Option Addr) (n0 c0 : Nat), n0 = n → olds.length = n * i.size → VRels (tags H) ι ((cs.drop po).take (n * i.size)) olds → (∀ u ∈ (cs.drop po).take (n * i.size), u.oneCell' = true) → v' = .slice b n c0 →
              (Builtin.append_ #[t, t] ty #[.slice b n c0, .slice (some q) m c2]).run P w = .ok (.slice (some ⟨w.heap.size, 0, none⟩) (n + m) (grownCap w (n + m) c0 e))
                (w.drew.alloc (.cells ((olds ++ news).toArray ++ Builtin.zeroCells zv.cells (grownCap w (n + m) c0 e - (n + m))) e)) →
              ∃ u' w' u H' ι', (Builtin.append_ #[t, t] ty #[v', .slice (some q) m c2]).run P w = .ok u' w' ∧ HSim prot B w' ι' H' ∧ Ext (tags H) ι (tags H') ι' ∧ VRel (tags H') ι' u u' ∧ K u H' := by
            intro olds b n0 c0 _ hol hor ho1 hv' hrun
            have hall : ∀ (j : Nat) u, ((cs.drop po).take (n * i.size) ++ new)[j]? = some u → u.oneCell' = true ∧ ∃ u', (olds ++ news)[j]? = some u' ∧ VRel (tags H) ι u u' := fun j u hu => by
              have hll : ((cs.drop po).take (n * i.size)).length = olds.length := hor.1
              by_cases hj : j < olds.length
              · rw [List.getElem?_append_left (by omega)] at hu
                exact ⟨ho1 u (List.mem_of_getElem? hu), olds[j], by rw [List.getElem?_append_left hj]; exact List.getElem?_eq_getElem hj, hor.2 j u _ hu (List.getElem?_eq_getElem hj)⟩
              · rw [List.getElem?_append_right (by omega), hll] at hu
                obtain ⟨a1, u', a2, a3⟩ := hone _ u hu
                exact ⟨a1, u', by rw [List.getElem?_append_right (by omega)]; exact a2, a3⟩
            have hrcs : ((olds ++ news).toArray ++ Builtin.zeroCells zv.cells (grownCap w (n + m) c0 e - (n + m))).size = grownCap w (n + m) c0 e * i.size := by
              simp only [List.size_toArray, List.length_append, Array.size_append, size_zeroCells, hl, hol, hzs]
              have := le_grownCap w (n + m) c0 e
              rw [← Nat.add_mul, ← Nat.add_mul]
              congr 1; omega
            have hlen2 : ((cs.drop po).take (n * i.size) ++ new).length = (n + m) * i.size := by rw [List.length_append, hor.1, hol, hln, Nat.add_mul]
            have hge : (n + m) * i.size ≤ grownCap w (n + m) c0 e * i.size := Nat.mul_le_mul_right _ (le_grownCap w (n + m) c0 e)
            rw [hv']
            cases ro with
            | true =>
              rw [if_pos rfl] at h2
              obtain ⟨k1, k2⟩ := hs.drew.row_new _ e i.size ((cs.drop po).take (n * i.size) ++ new) (by rw [hrcs, hlen2]; exact hge) (fun j u hu => by obtain ⟨a1, u', a2, a3⟩ := hall j u hu; exact ⟨a1, u', get_append_zero (z := Builtin.zeroCells zv.cells (grownCap w (n + m) c0 e - (n + m))) a2, a3⟩)
              exact ⟨_, _, _, _, _, hrun, k1, k2, VRel.new_slice hs.drew (le_grownCap w (n + m) c0 e) (.inr ⟨by rw [hrcs]; exact Nat.le_refl _, grownCap_max w (n + m) c0 e (by omega)⟩), h2⟩
            | false =>
              simp only [Bool.false_eq_true, if_false] at h2
              rcases h2 with h2 | ⟨_, h2⟩
              rotate_left
              · obtain ⟨k1, k2⟩ := hs.drew.row_new _ e i.size ((cs.drop po).take (n * i.size) ++ new) (by rw [hrcs, hlen2]; exact hge) (fun j u hu => by obtain ⟨a1, u', a2, a3⟩ := hall j u hu; exact ⟨a1, u', get_append_zero (z := Builtin.zeroCells zv.cells (grownCap w (n + m) c0 e - (n + m))) a2, a3⟩)
                exact ⟨_, _, _, _, _, hrun, k1, k2, VRel.new_slice hs.drew (le_grownCap w (n + m) c0 e) (.inr ⟨by rw [hrcs]; exact Nat.le_refl _, grownCap_max w (n + m) c0 e (by omega)⟩), h2⟩
              have hnp : ¬ prot w.heap.size := fun hp => by have := hs.low _ hp; have := hs.size; omega
              obtain ⟨k1, k2⟩ := hs.regen (w' := w.drew.alloc (.cells ((olds ++ news).toArray ++ Builtin.zeroCells zv.cells (grownCap w (n + m) c0 e - (n + m))) e)) hb ⟨w.heap.size, 0, grownCap w (n + m) c0 e * i.size⟩ rfl rfl rfl (by simp)
                (fun j L' _ hL' => heap_alloc_old w.drew _ _ (hs.loc_lt hL')) (fun b' hb' => heap_alloc_old w.drew _ _ (Nat.lt_of_lt_of_le (hs.low _ hb') hs.size)) ((cs.drop po).take (n * i.size) ++ new) _ e (heap_alloc_new w.drew _) (by rw [hrcs]; simp) (by rw [hlen2]; exact hge)
                (fun j u hu => by obtain ⟨a1, u', a2, a3⟩ := hall j u hu; exact ⟨a1, u', by simpa using get_append_zero (z := Builtin.zeroCells zv.cells (grownCap w (n + m) c0 e - (n + m))) a2, a3⟩) hnp (fun j L' _ hL' _ e' => by have := hs.loc_lt hL'; simp at e'; omega)
              refine ⟨_, _, _, _, _, hrun, k1, k2, ?_, h2⟩
              have := VRel.slice (T := tags (H.set pk (.cells (g + 1) i.size false ((cs.drop po).take (n * i.size) ++ new)))) (ι := ι.set pk (some ⟨w.heap.size, 0, grownCap w (n + m) c0 e * i.size⟩)) (k := pk) (o := 0) (g := g + 1) (n := n + m) (c := n + m) (c' := grownCap w (n + m) c0 e)
                (L := ⟨w.heap.size, 0, grownCap w (n + m) c0 e * i.size⟩) (t := ⟨g + 1, i.size, false⟩) (by simp [tags, hlt, AObj.tag]) rfl (by rw [List.getElem?_set_self hltι]) (le_grownCap w (n + m) c0 e) (.inr ⟨rfl, by simp, grownCap_max w (n + m) c0 e (by omega)⟩)
              simpa using this
          rcases h3 with ⟨L, c', hL, rfl, hcc, hcap⟩ | ⟨rfl, rfl, b, rfl⟩
          · obtain ⟨olds, o1, o2, o3, o4⟩ := hs.read hb hL po (n * i.size) hw
            obtain ⟨rc, tt, fr, a1, a2, a3, a4, a5, a6⟩ := hs.row hb hL
            have ho1 : ∀ u ∈ (cs.drop po).take (n * i.size), u.oneCell' = true := fun u hu => by
              obtain ⟨j, hj⟩ := List.getElem?_of_mem (List.mem_of_mem_drop (List.mem_of_mem_take hu))
              exact (a4 j u hj).1
            by_cases hroom : n + m ≤ c'
            · -- there is room behind
              have hne : c' ≠ c := by omega
              obtain ⟨rfl, hcap, hcap3⟩ := hcap.resolve_left hne
              simp only [Bool.false_eq_true, if_false] at h2
              obtain ⟨b6, rfl⟩ := a6 rfl
              have hst := run_storeCells_at P L.blk (L.off + po + n * i.size) tt news 0 rc w a1 (by
                have : n * i.size + m * i.size ≤ c' * i.size := by rw [← Nat.add_mul]; exact Nat.mul_le_mul_right _ hroom
                rw [hl]; omega) (fun u hu => by
                obtain ⟨j, hj⟩ := List.getElem?_of_mem hu
                have hjl : j < new.length := by rw [hr.1]; exact (List.getElem?_eq_some_iff.1 hj).1
                rw [(hr.2 j _ u (List.getElem?_eq_getElem hjl) hj).one]; exact h1 _ (List.getElem_mem hjl))
              simp only [Nat.add_zero] at hst
              have hcm : n * i.size + m * i.size ≤ c' * i.size := by rw [← Nat.add_mul]; exact Nat.mul_le_mul_right _ hroom
              have hother : ∀ b, b ≠ L.blk → (w.setRow L.blk (rc.toList.take (L.off + po + n * i.size) ++ news ++ rc.toList.drop (L.off + po + n * i.size + news.length)).toArray).heap[b]? = w.heap[b]? := fun b hbn => by
                simp only [World.setRow, Array.getElem?_modify]; rw [if_neg (Ne.symm hbn)]
              have hrw : RW (tags H) pk := ⟨_, htag, rfl⟩
              have hmin : (List.take (L.off + po + n * i.size) rc.toList).length = L.off + po + n * i.size := by simp; omega
              have hlen2 : ((cs.drop po).take (n * i.size) ++ new).length = n * i.size + m * i.size := by rw [List.length_append, o2.1, o1, hln]
              rcases h2 with h2 | ⟨h2, _⟩
              rotate_left
              · have hct : (cs.take (po + n * i.size)).length = po + n * i.size := by rw [List.length_take]; omega
                have hlen3 : (cs.take (po + n * i.size) ++ new).length = po + n * i.size + m * i.size := by rw [List.length_append, hct, hln]
                obtain ⟨k1, k2⟩ := hs.renew (w' := w.setRow L.blk (rc.toList.take (L.off + po + n * i.size) ++ news ++ rc.toList.drop (L.off + po + n * i.size + news.length)).toArray) hb hL rfl rfl rfl (by simp [World.setRow])
                  (fun j L' hj hL' => hother _ (hs.apart hj hL' hL hrw)) (fun b hb' => hother _ (fun e' => b6 (e' ▸ hb'))) (cs.take (po + n * i.size) ++ new) _ tt (setRow_heap w L.blk rc _ tt _ a1)
                  (by simp; omega) (by rw [hlen3]; omega) (fun j u hu => by
                    simp only [List.getElem?_toArray]
                    by_cases hj : j < po + n * i.size
                    · rw [List.getElem?_append_left (by omega), List.getElem?_take_of_lt hj] at hu
                      obtain ⟨d1, u', d2, d3⟩ := a4 j u hu
                      refine ⟨d1, u', ?_, d3⟩
                      rw [List.append_assoc, List.getElem?_append_left (by rw [hmin]; omega), List.getElem?_take_of_lt (by omega)]
                      simpa using d2
                    · rw [List.getElem?_append_right (by omega), hct] at hu
                      obtain ⟨d1, u', d2, d3⟩ := hone _ u hu
                      refine ⟨d1, u', ?_, d3⟩
                      have hjn : j - (po + n * i.size) < news.length := (List.getElem?_eq_some_iff.1 d2).1
                      rw [List.getElem?_append_left (by rw [List.length_append, hmin]; omega), List.getElem?_append_right (by rw [hmin]; omega), hmin, show L.off + j - (L.off + po + n * i.size) = j - (po + n * i.size) by omega]
                      exact d2) b6 (fun j L' hj hL' _ => show L'.blk ≠ L.blk from hs.apart hj hL' hL hrw)
                have hrun := run_append_room (P := P) w _ ht hi ty ⟨L.blk, L.off + po, none⟩ q n c' m c2 hroom news hl hq (by rw [add_none]; exact hst)
                exact ⟨_, _, _, _, ι, hrun, k1, k2, .slice (t := ⟨g, i.size, false⟩) (by simp [tags, hlt, AObj.tag]) rfl hL hroom (.inr ⟨rfl, hcap, hcap3⟩), h2⟩
              obtain ⟨k1, k2⟩ := hs.regen (w' := w.setRow L.blk (rc.toList.take (L.off + po + n * i.size) ++ news ++ rc.toList.drop (L.off + po + n * i.size + news.length)).toArray) hb ⟨L.blk, L.off + po, L.room - po⟩ rfl rfl rfl (by simp [World.setRow])
                (fun j L' hj hL' => hother _ (hs.apart hj hL' hL hrw)) (fun b hb' => hother _ (fun e' => b6 (e' ▸ hb'))) ((cs.drop po).take (n * i.size) ++ new) _ tt (setRow_heap w L.blk rc _ tt _ a1)
                (by simp; omega) (by rw [hlen2]; simp only; omega) (fun j u hu => by
                  have hll : ((cs.drop po).take (n * i.size)).length = n * i.size := by rw [o2.1, o1]
                  simp only [List.getElem?_toArray]
                  by_cases hj : j < n * i.size
                  · rw [List.getElem?_append_left (by omega), List.getElem?_take_of_lt hj, List.getElem?_drop] at hu
                    obtain ⟨d1, u', d2, d3⟩ := a4 (po + j) u hu
                    refine ⟨d1, u', ?_, d3⟩
                    rw [List.append_assoc, List.getElem?_append_left (by rw [hmin]; omega), List.getElem?_take_of_lt (by omega), Nat.add_assoc]
                    simpa using d2
                  · rw [List.getElem?_append_right (by omega), hll] at hu
                    obtain ⟨d1, u', d2, d3⟩ := hone _ u hu
                    refine ⟨d1, u', ?_, d3⟩
                    have hjn : j - n * i.size < news.length := (List.getElem?_eq_some_iff.1 d2).1
                    rw [List.getElem?_append_left (by rw [List.length_append, hmin]; omega), List.getElem?_append_right (by rw [hmin]; omega), hmin, show L.off + po + j - (L.off + po + n * i.size) = j - n * i.size by omega]
                    exact d2) b6 (fun j L' hj hL' _ => show L'.blk ≠ L.blk from hs.apart hj hL' hL hrw)
              have hrun := run_append_room (P := P) w _ ht hi ty ⟨L.blk, L.off + po, none⟩ q n c' m c2 hroom news hl hq (by rw [add_none]; exact hst)
              refine ⟨_, _, _, _, _, hrun, k1, k2, ?_, h2⟩
              have := VRel.slice (T := tags (H.set pk (.cells (g + 1) i.size false ((cs.drop po).take (n * i.size) ++ new)))) (ι := ι.set pk (some ⟨L.blk, L.off + po, L.room - po⟩)) (k := pk) (o := 0) (g := g + 1) (n := n + m) (c := n + m) (c' := c')
                (L := ⟨L.blk, L.off + po, L.room - po⟩) (t := ⟨g + 1, i.size, false⟩) (by simp [tags, hlt, AObj.tag]) rfl (by rw [List.getElem?_set_self hltι]) hroom (.inr ⟨rfl, by simp only; omega, hcap3⟩)
              simpa using this
            · refine grow olds _ n c' rfl o1 o2 ho1 rfl ?_
              have hrun := run_append_grow (P := P) w t ty e i zv ht hi hzv ⟨L.blk, L.off + po, none⟩ n c' olds o1 o3 q m c2 news hl hq (by omega) (by omega) (growslice_fits (by omega) hbd)
              simpa using hrun
          · cases b with
            | none =>
              refine grow [] none 0 0 rfl (by simp) (by simpa using VRels.nil) (fun u hu => by simp at hu) rfl ?_
              have hrun := run_append_nil (P := P) w t ty e i zv ht hi hzv q m c2 news hl hq (by omega) (by omega) (by rw [Nat.zero_add] at hbd; omega)
              simpa using hrun
            | some b =>
              refine grow [] (some b) 0 0 rfl (by simp) (by simpa using VRels.nil) (fun u hu => by simp at hu) rfl ?_
              have hrun := run_append_grow (P := P) w t ty e i zv ht hi hzv b 0 0 [] (by simp) (fun j v hj => by simp at hj) q m c2 news hl hq (by omega) (by omega) (growslice_fits (by omega) hbd)
              simpa using hrun
        · rw [if_neg hw] at h2; exact h2.elim

theorem sound_append (hs : HSim prot B w ι H) (he : EnvOk (tags H) ι env a.tmps) {t e : TypeId} {i : TypeInfo} {z : List Value} (ht : P.underlying t = some (.slice e)) (hi : P.info? e = some i) (hz : zeroOf P e = some z) (hc : i.size = z.length ∧ 0 < i.size ∧ 0 < i.bytes)
    {x y : Operand} (h : opK (.append i.size i.bytes (opd x) (opd y)) env H K) {o : Oper} {c : Call} (ho : o.op = .call c) (hcc : c.callee = .builtin .append) (ha : c.args.toList = [x, y]) (hat : c.argTypes.toList = [t, t]) :
    RunOut prot B ι H ((execOp a.eval o).run P w) K := by
  have ha' : c.args = #[x, y] := by apply Array.toList_inj.1; simpa using ha
  have hat' : c.argTypes = #[t, t] := by apply Array.toList_inj.1; simpa using hat
  obtain ⟨v, h1, h2⟩ := evK_inv he h
  obtain ⟨u, h3, h4⟩ := evK_inv he h1
  have fin : ∀ {x' : Option Addr} {m c2 : Nat} {new news : List Value}, a.eval y = .slice x' m c2 → VRels (tags H) ι new news → (∀ u ∈ new, u.oneCell' = true) → news.length = m * i.size →
      (m = 0 ∨ ∃ q, x' = some q ∧ ∀ (j : Nat) u, news[j]? = some u → w.cell? (q.add j) = some u) → appendK H i.size i.bytes v new m K → RunOut prot B ι H ((execOp a.eval o).run P w) K := by
    intro x' m c2 new news hy f1 f2 f3 f4 f5
    obtain ⟨u', w', u, H', ι', g1, g2, g3, g4, g5⟩ := sound_appendK (P := P) hs ht hi hz hc h2 (c2 := c2) f1 f2 f3 f4 f5 o.type
    refine ⟨u', w', u, H', ι', .inl ?_, g2, g3, g4, g5⟩
    simp [execOp, ho, resolve, hcc, ha', hat', invoke, builtin, hy, g1]
  rcases sliceK_inv h3 h4 with ⟨rfl, e1, h5⟩ | ⟨p, m, c', g, esz, ro, cs, rfl, hb, hsp, h5, h6⟩
  · exact fin e1 .nil (fun u hu => by cases hu) (by simp) (.inl rfl) h5
  · by_cases hr : p.off + m * i.size ≤ cs.length
    · rw [if_pos hr] at h5
      rcases h6 with ⟨L, c'', hL, e1, _⟩ | ⟨rfl, rfl, b, e1⟩
      · obtain ⟨olds, o1, o2, o3, o4⟩ := hs.read hb hL p.off (m * i.size) hr
        obtain ⟨rc, tt, fr, a1, a2, a3, a4, _⟩ := hs.row hb hL
        refine fin e1 o2 (fun u hu => ?_) o1 (.inr ⟨_, rfl, o3⟩) h5
        obtain ⟨j, hj⟩ := List.getElem?_of_mem (List.mem_of_mem_drop (List.mem_of_mem_take hu))
        exact (a4 j u hj).1
      · exact fin e1 (news := []) (by simpa using VRels.nil) (fun u hu => by simp at hu) (by simp) (.inl rfl) h5
    · rw [if_neg hr] at h5; exact h5.elim

theorem sound_appendZ (hs : HSim prot B w ι H) (he : EnvOk (tags H) ι env a.tmps) {t tn e : TypeId} {kn : IntKind} {i : TypeInfo} {z : List Value} (ht : P.underlying t = some (.slice e)) (htn : P.underlying tn = some (.int kn)) (hi : P.info? e = some i) (hz : zeroOf P e = some z) (hc : i.size = z.length ∧ 0 < i.size ∧ 0 < i.bytes)
    {x y : Operand} (h : opK (.appendZ i.size i.bytes z (opd x) (opd y)) env H K) {o : Oper} {c : Call} (ho : o.op = .call c) (hcc : c.callee = .builtin .append) (ha : c.args.toList = [x, y]) (hat : c.argTypes.toList = [t, tn]) :
    RunOut prot B ι H ((execOp a.eval o).run P w) K := by
  have ha' : c.args = #[x, y] := by apply Array.toList_inj.1; simpa using ha
  have hat' : c.argTypes = #[t, tn] := by apply Array.toList_inj.1; simpa using hat
  obtain ⟨it, zv, hi', hzv, rfl, hf⟩ := zeroOf_spec hz
  rw [hi] at hi'; cases hi'
  obtain ⟨v, h1, h2⟩ := evK_inv he h
  obtain ⟨u, h3, h4⟩ := evK_inv he h1
  obtain ⟨k, n, rfl, e2, h6⟩ := intK_inv h3 h4
  split at h6
  · have e1 := h2.nilS_inv
    by_cases hb : 0 < n ∧ n * i.bytes ≤ 281474976710656 ∧ n < 9223372036854775808
    · rw [if_pos hb] at h6
      obtain ⟨b1, b2, b3⟩ := hb
      obtain ⟨m, rfl⟩ := Int.eq_ofNat_of_zero_le (show 0 ≤ n by omega)
      have hzs : zv.cells.size = i.size := by simpa using hc.1.symm
      have hrun := Go.Lib.run_append_nil_zeros (P := P) w t tn o.type e i zv k kn ht htn hi hzv m (by omega) hc.2.1 (by omega) (by rw [← Int.natCast_mul] at b2; omega)
      have hzc : ∀ m : Nat, (Builtin.zeroCells zv.cells m).toList = (List.replicate m zv.cells.toList).flatten := fun m => by
        have := madeCells_list zv.cells m (by omega)
        rw [← this]
        rfl
      obtain ⟨k1, k2⟩ := hs.drew.row_new (Builtin.zeroCells zv.cells m ++ Builtin.zeroCells zv.cells (grownCap w m 0 e - m)) e i.size (List.replicate m zv.cells.toList).flatten
        (by rw [Array.size_append, size_zeroCells]; simp [hzs]) (fun j v hv => by
          have hfl := flats (all_replicate hf m) hv
          have hj : j < (Builtin.zeroCells zv.cells m).size := by
            have := (List.getElem?_eq_some_iff.1 hv).1
            rw [← hzc, Array.length_toList] at this
            exact this
          refine ⟨flat_one hfl, v, ?_, .flat hfl⟩
          rw [Array.getElem?_append_left hj, ← Array.getElem?_toList, hzc]
          exact hv)
      refine ⟨_, _, _, _, _, .inl (by simp [execOp, ho, resolve, hcc, ha', hat', invoke, builtin, e1, e2, hrun]), k1, k2, VRel.new_slice hs.drew (le_grownCap w m 0 e) (.inr ⟨?_, grownCap_max w m 0 e (by omega)⟩), h6⟩
      rw [Array.size_append, size_zeroCells, size_zeroCells, hzs, ← Nat.add_mul]
      have := le_grownCap w m 0 e
      exact Nat.mul_le_mul_right _ (by omega)
    · rw [if_neg hb] at h6; exact h6.elim
  · exact h6.elim

theorem VRel.str_inv {T : List Tag} {s : ByteArray} {v' : Value} (h : VRel T ι (.string s) v') : v' = .string s := by cases h; rfl

theorem sound_indexStr (hs : HSim prot B w ι H) (he : EnvOk (tags H) ι env a.tmps) {t : TypeId} {x y : Operand} (ht : P.underlying t = some .string)
    (h : opK (.indexStr (opd x) (opd y)) env H K) {o : Oper} (ho : o.op = .index t x y) : RunOut prot B ι H ((execOp a.eval o).run P w) K := by
  obtain ⟨v, h1, h2⟩ := evK_inv he h
  obtain ⟨u, h3, h4⟩ := evK_inv he h1
  obtain ⟨k, n, rfl, e2, h6⟩ := intK_inv h3 h4
  split at h6
  · rename_i s
    have e1 : a.eval x = .string s := h2.str_inv
    by_cases hb : 0 ≤ n ∧ n < s.size
    · rw [if_pos hb] at h6
      have hrun := run_index_string (P := P) w t s k n ht
      rw [dif_pos hb] at hrun
      have hv : (s[n.toNat]'(by omega)).toNat = (s.data.toList.getD n.toNat 0).toNat := by
        have hl : n.toNat < s.data.toList.length := by rw [Array.length_toList]; have : s.data.size = s.size := rfl; omega
        rw [List.getD_eq_getElem?_getD, List.getElem?_eq_getElem hl]
        rfl
      refine .same hs (v' := .int .u8 (s[n.toNat]'(by omega)).toNat) (by simp [execOp, ho, e1, e2, hrun]) .int' ?_
      rw [hv]
      exact h6
    · rw [if_neg hb] at h6; exact h6.elim
  · exact h6.elim

theorem VRel.nilI_inv {T : List Tag} {v' : Value} (h : VRel T ι .nilIface v') : v' = .nilIface := by cases h; rfl
theorem VRel.iface_inv {T : List Tag} {t : TypeId} {v v' : Value} (h : VRel T ι (.iface t v) v') : ∃ u, v' = .iface t u := by
  cases h with
  | flat h => simp [Am.flat] at h
  | iface h => exact ⟨_, rfl⟩
theorem evs2_inv (he : EnvOk (tags H) ι env a.tmps) {x y : Operand} {K : List Value → Prop} (h : evsK env [opd x, opd y] K) : ∃ u v, VRel (tags H) ι u (a.eval x) ∧ VRel (tags H) ι v (a.eval y) ∧ K [u, v] := by
  obtain ⟨u, h1, h2⟩ := evK_inv he h
  obtain ⟨v, h3, h4⟩ := evK_inv he h1
  exact ⟨u, v, h2, h4, h3⟩
theorem evs1_inv (he : EnvOk (tags H) ι env a.tmps) {x : Operand} {K : List Value → Prop} (h : evsK env [opd x] K) : ∃ u, VRel (tags H) ι u (a.eval x) ∧ K [u] := by
  obtain ⟨u, h1, h2⟩ := evK_inv he h
  exact ⟨u, h2, h1⟩
theorem run_eqGuard_str (op : BinOp) (t : TypeId) (x y : Operand) (b c : ByteArray) (w : World) : (eqGuard op t x y (.string b) (.string c)).run P w = .ok () w := by
  unfold eqGuard; cases op <;> simp
theorem sound_strAdd (hs : HSim prot B w ι H) (he : EnvOk (tags H) ι env a.tmps) {x y : Operand} {xt yt : TypeId} (h : opK (.str .add [opd x, opd y]) env H K) {o : Oper} (ho : o.op = .binOp .add xt x y yt) :
    RunOut prot B ι H ((execOp a.eval o).run P w) K := by
  have h : evsK env [opd x, opd y] (fun l => match strV .add l with | some r => K r H | none => False) := h
  obtain ⟨u, v, h1, h2, h3⟩ := evs2_inv he h
  unfold strV at h3
  split at h3
  · rename_i r hr
    split at hr
    · rename_i hl
      simp only [List.cons.injEq, and_true] at hl
      obtain ⟨rfl, rfl⟩ := hl
      split at hr
      · rename_i hb
        cases hr
        refine .same hs ?_ (.flat rfl) h3
        simp [execOp, ho, h1.str_inv, h2.str_inv, run_eqGuard_str, binOp, run_string_add_sum w _ _ hb]
      · cases hr
    all_goals first | (cases hr; done) | (rename_i e; cases e; done) | skip
    all_goals simp_all
  · exact h3.elim
theorem sound_strCmp (hs : HSim prot B w ι H) (he : EnvOk (tags H) ι env a.tmps) {neg : Bool} {x y : Operand} {xt yt : TypeId} (h : opK (.str (.cmp neg) [opd x, opd y]) env H K) {o : Oper} (ho : o.op = .binOp (if neg then .neq else .eql) xt x y yt) :
    RunOut prot B ι H ((execOp a.eval o).run P w) K := by
  have h : evsK env [opd x, opd y] (fun l => match strV (.cmp neg) l with | some r => K r H | none => False) := h
  obtain ⟨u, v, h1, h2, h3⟩ := evs2_inv he h
  have key : ∃ b c, u = .string b ∧ v = .string c := by
    cases u <;> cases v <;> first | exact ⟨_, _, rfl, rfl⟩ | exact h3.elim
  obtain ⟨b, c, rfl, rfl⟩ := key
  refine .same hs ?_ .bool' h3
  cases neg <;> simp [execOp, ho, h1.str_inv, h2.str_inv, run_eqGuard_str, binOp, Op.stringOp, ByteArray.toList_eq]
theorem sound_strLen (hs : HSim prot B w ι H) (he : EnvOk (tags H) ι env a.tmps) {x : Operand} {t : TypeId} (hu : P.underlying t = some .string) (h : opK (.str .len [opd x]) env H K) {o : Oper} {c : Call} (ho : o.op = .call c) (hc : c.callee = .builtin .len) (ha : c.args.toList = [x]) (hat : c.argTypes.toList = [t]) :
    RunOut prot B ι H ((execOp a.eval o).run P w) K := by
  have ha' : c.args = #[x] := by apply Array.toList_inj.1; simpa using ha
  have hat' : c.argTypes = #[t] := by apply Array.toList_inj.1; simpa using hat
  have h : evsK env [opd x] (fun l => match strV .len l with | some r => K r H | none => False) := h
  obtain ⟨u, h1, h3⟩ := evs1_inv he h
  have key : ∃ b, u = .string b := by cases u <;> first | exact ⟨_, rfl⟩ | exact h3.elim
  obtain ⟨b, rfl⟩ := key
  refine .same hs ?_ .int' h3
  simp [execOp, ho, resolve, hc, ha', hat', h1.str_inv, invoke, builtin, Builtin.len_, run_underlying hu, goInt]
theorem run_equalIn_nilI (w : World) (d : Nat) {t : TypeId} {ms : Array (String × TypeId)} (ht : P.underlying t = some (.interface ms)) : (Op.equalIn (d + 1) t .nilIface .nilIface).run P w = .ok true w := by
  simp [Op.equalIn, run_underlying ht]
theorem run_equalIn_iface (w : World) (d : Nat) {t : TypeId} {ms : Array (String × TypeId)} (ht : P.underlying t = some (.interface ms)) (tx : TypeId) (v : Value) : (Op.equalIn (d + 1) t (.iface tx v) .nilIface).run P w = .ok false w := by
  simp [Op.equalIn, run_underlying ht]
theorem sound_isNil (hs : HSim prot B w ι H) (he : EnvOk (tags H) ι env a.tmps) {neg : Bool} {x y : Operand} {xt yt : TypeId} {ms : Array (String × TypeId)} (ht : P.underlying xt = some (.interface ms)) (hy : isNilC y = true)
    (h : opK (.str (.isNil neg) [opd x]) env H K) {o : Oper} (ho : o.op = .binOp (if neg then .neq else .eql) xt x y yt) : RunOut prot B ι H ((execOp a.eval o).run P w) K := by
  have h : evsK env [opd x] (fun l => match strV (.isNil neg) l with | some r => K r H | none => False) := h
  obtain ⟨u, h1, h3⟩ := evs1_inv he h
  have hyc : y = .const .nilIface := by
    unfold isNilC at hy
    split at hy
    · rfl
    · cases hy
  subst hyc
  have e2 : a.eval (.const .nilIface) = .nilIface := rfl
  have key : u = .nilIface ∨ ∃ t v, u = .iface t v := by cases u <;> first | exact .inl rfl | exact .inr ⟨_, _, rfl⟩ | exact h3.elim
  have q0 : (Op.equal xt .nilIface .nilIface).run P w = .ok true w := run_equalIn_nilI w 9999 ht
  have q1 : ∀ t v, (Op.equal xt (.iface t v) .nilIface).run P w = .ok false w := fun t v => run_equalIn_iface w 9999 ht t v
  rcases key with rfl | ⟨t, v, rfl⟩
  · refine .same hs ?_ .bool' h3
    have e1 := h1.nilI_inv
    have g : ∀ op, (eqGuard op xt x (.const .nilIface) .nilIface .nilIface) = pure () := fun op => eqGuard_nil_constR ..
    have r1 : (binOp .eql xt .nilIface .nilIface).run P w = .ok (.bool true) w := by
      show (Sem.run P (do pure (Value.bool (← Op.equal xt .nilIface .nilIface))) w) = _
      simp [q0]
    have r2 : (binOp .neq xt .nilIface .nilIface).run P w = .ok (.bool false) w := by
      show (Sem.run P (do pure (Value.bool (!(← Op.equal xt .nilIface .nilIface)))) w) = _
      simp [q0]
    cases neg <;> simp [execOp, ho, e1, e2, g, r1, r2]
  · refine .same hs ?_ .bool' h3
    obtain ⟨v', e1⟩ := h1.iface_inv
    have g : ∀ op, (eqGuard op xt x (.const .nilIface) (.iface t v') .nilIface) = pure () := fun op => by cases op <;> rfl
    have r1 : (binOp .eql xt (.iface t v') .nilIface).run P w = .ok (.bool false) w := by
      show (Sem.run P (do pure (Value.bool (← Op.equal xt (.iface t v') .nilIface))) w) = _
      simp [q1]
    have r2 : (binOp .neq xt (.iface t v') .nilIface).run P w = .ok (.bool true) w := by
      show (Sem.run P (do pure (Value.bool (!(← Op.equal xt (.iface t v') .nilIface)))) w) = _
      simp [q1]
    cases neg <;> simp [execOp, ho, e1, e2, g, r1, r2]

def subEntry : Array Value → Sem Value := fun args => do
  let (x, y, b) ← Extern.MathBitsCarry.three "Sub64" args
  pure (Extern.MathBitsCarry.pair ((x + Extern.MathBitsCarry.m64 - y - b) % Extern.MathBitsCarry.m64) (if x < y + b then 1 else 0))
theorem run_subEntry (x y c : Int) (hx : 0 ≤ x) (hy : 0 ≤ y) (hy2 : y ≤ 18446744073709551615) (hc0 : 0 ≤ c) (hc : c ≤ 1) (w : World) :
    (subEntry #[.int .u64 x, .int .u64 y, .int .u64 c]).run P w = .ok (.tuple #[.int .u64 ((x - y - c) % 18446744073709551616), .int .u64 (borrow x (y + c))]) w := by
  obtain ⟨x, rfl⟩ := Int.eq_ofNat_of_zero_le hx
  obtain ⟨y, rfl⟩ := Int.eq_ofNat_of_zero_le hy
  obtain ⟨c, rfl⟩ := Int.eq_ofNat_of_zero_le hc0
  have key : (subEntry #[.int .u64 x, .int .u64 y, .int .u64 c]).run P w = .ok (Extern.MathBitsCarry.pair ((x + Extern.MathBitsCarry.m64 - y - c) % Extern.MathBitsCarry.m64) (if x < y + c then 1 else 0)) w := by
    have : c = 0 ∨ c = 1 := by omega
    rcases this with rfl | rfl <;> rfl
  rw [key]
  have e1 : (((x + Extern.MathBitsCarry.m64 - y - c) % Extern.MathBitsCarry.m64 : Nat) : Int) = ((x : Int) - y - c) % 18446744073709551616 := by
    have : Extern.MathBitsCarry.m64 = 18446744073709551616 := by decide
    rw [this]; omega
  have e2 : ((if x < y + c then 1 else 0 : Nat) : Int) = borrow (x : Int) ((y : Int) + c) := by unfold borrow; split <;> split <;> omega
  rw [← e1, ← e2]
  rfl
theorem carry_run {f : FuncId} {s : Bool} (hf : carryOf P f = some s) {x y z r : Value} (hr : carryV s x y z = some r) (w : World) : (callFunc f #[x, y, z]).run P w = .ok (.value r) w := by
  unfold carryOf at hf
  split at hf
  · rename_i fn hfn
    split at hf
    · rename_i hb
      simp only [Bool.and_eq_true] at hb
      unfold carryV at hr
      split at hr
      · rename_i a b c
        split at hr
        · rename_i hc
          obtain ⟨c1, c2, c3, c4, c5⟩ := hc
          cases hr
          split at hf
          · rename_i hn
            cases hf
            have hnm : fn.name = "math/bits.Add64" := by simpa using hn
            have hfind : Extern.find fn = some add64Entry := by
              unfold Extern.find
              rw [hnm]
              rfl
            rw [run_callFunc_extern hfn (by rw [hnm]; rfl) hb.1 (by simpa using hb.2) hfind, run_add64 a b c c1 c2 c4 c5]
            rfl
          · split at hf
            · rename_i hn
              cases hf
              have hnm : fn.name = "math/bits.Sub64" := by simpa using hn
              have hfind : Extern.find fn = some subEntry := by
                unfold Extern.find
                rw [hnm]
                rfl
              rw [run_callFunc_extern hfn (by rw [hnm]; rfl) hb.1 (by simpa using hb.2) hfind, run_subEntry a b c c1 c2 c3 c4 c5]
              rfl
            · cases hf
        · cases hr
      · cases hr
    · cases hf
  · cases hf
theorem carryV_rel {T : List Tag} {s : Bool} {x y z r : Value} (hr : carryV s x y z = some r) : VRel T ι r r ∧ ∃ a b c, x = .int .u64 a ∧ y = .int .u64 b ∧ z = .int .u64 c := by
  unfold carryV at hr
  split at hr
  · split at hr
    · cases hr
      refine ⟨.tuple rfl (fun i v v' hv hv' => ?_), _, _, _, rfl, rfl, rfl⟩
      rw [hv] at hv'
      cases hv'
      rcases i with _ | _ | i
      · simp at hv; subst hv; exact .int'
      · simp at hv; subst hv; exact .int'
      · simp at hv
    · cases hr
  · cases hr
theorem sound_carry (hs : HSim prot B w ι H) (he : EnvOk (tags H) ι env a.tmps) {s : Bool} {x y z : Operand} (h : opK (.carry s (opd x) (opd y) (opd z)) env H K) {o : Oper} {c : Call} {f : FuncId} (ho : o.op = .call c) (hc : c.callee = .value (.func f)) (hf : carryOf P f = some s) (ha : c.args.toList = [x, y, z]) :
    RunOut prot B ι H ((execOp a.eval o).run P w) K := by
  obtain ⟨u, h1, r1⟩ := evK_inv he h
  obtain ⟨v, h2, r2⟩ := evK_inv he h1
  obtain ⟨t, h3, r3⟩ := evK_inv he h2
  split at h3
  · rename_i r hr
    obtain ⟨hrel, a1, b1, c1, rfl, rfl, rfl⟩ := carryV_rel (T := tags H) (ι := ι) hr
    have hargs : c.args.map a.eval = #[.int .u64 a1, .int .u64 b1, .int .u64 c1] := by
      have : c.args = #[x, y, z] := by rw [← ha]
      rw [this]
      simp [r1.int_inv, r2.int_inv, r3.int_inv]
    have hrun := carry_run (P := P) hf hr w
    refine .same hs ?_ hrel h3
    rw [← hrun, ← hargs]
    simp [execOp, ho, resolve, hc, Act.eval, Deferred.ofValue, invoke]
  · exact h3.elim

theorem run_copy (w w' : World) {t e : TypeId} {i : TypeInfo} (ht : P.underlying t = some (.slice e)) (hi : P.info? e = some i) (u ty : TypeId) (b q : Addr) (n c m c2 : Nat) (news : List Value) (hl : news.length = min m n * i.size)
    (hnews : ∀ (j : Nat) v, news[j]? = some v → w.cell? (q.add j) = some v) (hst : (storeCells b news).run P w = .ok () w') :
    (Builtin.copy_ #[t, u] ty #[.slice (some b) n c, .slice (some q) m c2]).run P w = .ok (.int .i64 (min m n : Nat)) w' := by
  have hf := run_firstCells_some (P := P) w i.size (min m n) q m c2 news hl hnews
  have hmin : Nat.min m n = min m n := rfl
  simp [Builtin.copy_, run_underlying ht, Builtin.lenOf, run_sizeOf' hi, hmin, hf, hst, goInt]

theorem run_copy_zero (w : World) {t e : TypeId} {i : TypeInfo} (ht : P.underlying t = some (.slice e)) (hi : P.info? e = some i) (u ty : TypeId) (b q : Option Addr) (n c m c2 : Nat) (hz : min m n = 0) :
    (Builtin.copy_ #[t, u] ty #[.slice b n c, .slice q m c2]).run P w = .ok (.int .i64 0) w := by
  have hmin : Nat.min m n = 0 := hz
  have hf : (Builtin.firstCells i.size 0 (.slice q m c2)).run P w = .ok #[] w := by
    cases q with
    | none => simp [Builtin.firstCells]
    | some q => simp [Builtin.firstCells, loadCells, loadCellsFrom]
  cases b <;> simp [Builtin.copy_, run_underlying ht, Builtin.lenOf, run_sizeOf' hi, hmin, hf, storeCells, goInt]

theorem sound_copy (hs : HSim prot B w ι H) (he : EnvOk (tags H) ι env a.tmps) {t u e : TypeId} {s : Nat} (ht : P.underlying t = some (.slice e)) (hsz : szOf P e = some s)
    {x y : Operand} (h : opK (.copy s (opd x) (opd y)) env H K) {o : Oper} {c : Call} (ho : o.op = .call c) (hcc : c.callee = .builtin .copy) (ha : c.args.toList = [x, y]) (hat : c.argTypes.toList = [t, u]) :
    RunOut prot B ι H ((execOp a.eval o).run P w) K := by
  have ha' : c.args = #[x, y] := by apply Array.toList_inj.1; simpa using ha
  have hat' : c.argTypes = #[t, u] := by apply Array.toList_inj.1; simpa using hat
  obtain ⟨v, h1, h2⟩ := evK_inv he h
  obtain ⟨v2, h3, h4⟩ := evK_inv he h1
  obtain ⟨i, hi, rfl⟩ := szOf_spec hsz
  have hrun : ∀ {r : Value} {w' : World}, (Builtin.copy_ #[t, u] o.type #[a.eval x, a.eval y]).run P w = .ok r w' → (execOp a.eval o).run P w = .ok (.value r) w' := fun hr => by
    simp [execOp, ho, resolve, hcc, ha', hat', invoke, builtin, hr]
  rcases sliceK_inv h3 h2 with ⟨rfl, e1, h5⟩ | ⟨p, n, c', g, esz, ro, cs, rfl, hb, hsp, h5, h6⟩
  · have : ∃ q m c2, a.eval y = .slice q m c2 ∧ K (.int .i64 0) H := by
      rcases sliceK_inv h5 h4 with ⟨_, e2, h6⟩ | ⟨_, _, _, _, _, _, _, _, _, _, h6, h7⟩
      · exact ⟨_, _, _, e2, h6⟩
      · rcases h7 with ⟨L, c'', hL, e1, _⟩ | ⟨_, _, b, e1⟩ <;> exact ⟨_, _, _, e1, h6⟩
    obtain ⟨q, m, c2, e2, hk⟩ := this
    exact .same hs (hrun (by rw [e1, e2]; exact run_copy_zero w ht hi u _ none q 0 0 m c2 (by omega))) .int' hk
  · have hx : ∃ q n' c2, a.eval x = .slice q n' c2 ∧ n' = n := by
      rcases h6 with ⟨L, c'', hL, e1, _⟩ | ⟨rfl, _, b, e1⟩ <;> exact ⟨_, _, _, e1, rfl⟩
    rcases sliceK_inv h5 h4 with ⟨rfl, e2, h7⟩ | ⟨p2, m, c2, g2, esz2, ro2, ds, rfl, hb2, hsp2, h7, h8⟩
    · obtain ⟨q, n', c3, e1, _⟩ := hx
      exact .same hs (hrun (by rw [e1, e2]; exact run_copy_zero w ht hi u _ q none n' c3 0 0 (by omega))) .int' h7
    · have hy : ∃ q m' c2, a.eval y = .slice q m' c2 ∧ m' = m := by
        rcases h8 with ⟨L, c'', hL, e1, _⟩ | ⟨rfl, _, b, e1⟩ <;> exact ⟨_, _, _, e1, rfl⟩
      by_cases hz : min m n = 0
      · rw [if_pos hz] at h7
        obtain ⟨q, n', c3, e1, rfl⟩ := hx
        obtain ⟨q2, m', c4, e2, rfl⟩ := hy
        exact .same hs (hrun (by rw [e1, e2]; exact run_copy_zero w ht hi u _ q q2 n' c3 m' c4 hz)) .int' h7
      · rw [if_neg hz] at h7
        by_cases hw : ro = false ∧ p.off + min m n * i.size ≤ cs.length ∧ p2.off + min m n * i.size ≤ ds.length
        · rw [if_pos hw] at h7
          obtain ⟨rfl, w1, w2⟩ := hw
          rcases h6 with ⟨L, c1, hL, e1, _⟩ | ⟨rfl, _⟩
          · rcases h8 with ⟨L2, c3, hL2, e2, _⟩ | ⟨rfl, _⟩
            · obtain ⟨olds, o1, o2, o3, o4⟩ := hs.read hb2 hL2 p2.off (min m n * i.size) w2
              obtain ⟨rc, tt, fr, a1, a2, a3, a4, _⟩ := hs.row hb2 hL2
              obtain ⟨w', q1, q2, q3⟩ := hs.write (P := P) hb hL p.off _ olds (by rw [o2.1, o1]; exact w1) o2 (fun u hu => by
                obtain ⟨j, hj⟩ := List.getElem?_of_mem (List.mem_of_mem_drop (List.mem_of_mem_take hu))
                exact (a4 j u hj).1)
              exact ⟨_, w', _, _, ι, .inl (hrun (by rw [e1, e2]; exact run_copy w w' ht hi u _ _ _ n c1 m c3 olds o1 o3 q1)), q2, q3, .int', h7⟩
            · exact (hz (by omega)).elim
          · exact (hz (by omega)).elim
        · rw [if_neg hw] at h7; exact h7.elim

/-! ## Maps with whole numbers as keys -/

theorem mfind_now {T : List Tag} {kd k : IntKind} {n : Int} : ∀ {es es' : List MapEntry} (_hl : es.length = es'.length) (_hr : ∀ (i : Nat) e, es[i]? = some e → ∃ e', es'[i]? = some e' ∧ e'.key = e.key ∧ e'.born = e.born ∧ VRel T ι e.val e'.val) (i0 : Nat),
    (mfind k n es i0 = some none → Instr.findNow (.int kd) (.int k n) es' i0 = some none) ∧
    (∀ j u, mfind k n es i0 = some (some (j, u)) → ∃ q e e', j = i0 + q ∧ es[q]? = some e ∧ es'[q]? = some e' ∧ e.key = .int k n ∧ e'.key = .int k n ∧ e'.born = e.born ∧ u = e.val ∧ VRel T ι e.val e'.val ∧ Instr.findNow (.int kd) (.int k n) es' i0 = some (some (j, e'.val)))
  | [], [], _, _, i0 => ⟨fun _ => rfl, fun j u h => by simp [mfind] at h⟩
  | [], _ :: _, hl, _, _ => by simp at hl
  | _ :: _, [], hl, _, _ => by simp at hl
  | e :: es, e' :: es', hl, hr, i0 => by
    obtain ⟨e1, h1, h2, h3, h4⟩ := hr 0 e rfl
    have h1 : e' = e1 := by simpa using h1
    subst h1
    have ih := mfind_now (kd := kd) (k := k) (n := n) (es := es) (es' := es') (by simpa using hl) (fun i x hx => by simpa using hr (i + 1) x (by simpa using hx)) (i0 + 1)
    cases hk : e.key with
    | int k' b =>
      by_cases hkk : k = k'
      · subst hkk
        by_cases hb : n = b
        · subst hb
          have hm : mfind k n (e :: es) i0 = some (some (i0, e.val)) := by simp [mfind, hk]
          have hf : Instr.findNow (.int kd) (.int k n) (e' :: es') i0 = some (some (i0, e'.val)) := by simp [Instr.findNow, Instr.sameNow, h2, hk]
          rw [hm, hf]
          refine ⟨fun h => (by cases h), fun j u h => ?_⟩
          have h := Option.some.inj (Option.some.inj h)
          rw [Prod.mk.injEq] at h
          exact ⟨0, e, e', by omega, rfl, rfl, hk, by rw [h2, hk], h3, h.2.symm, h4, by rw [h.1]⟩
        · have hm : mfind k n (e :: es) i0 = mfind k n es (i0 + 1) := by simp [mfind, hk, hb]
          have hf : Instr.findNow (.int kd) (.int k n) (e' :: es') i0 = Instr.findNow (.int kd) (.int k n) es' (i0 + 1) := by
            have hbb : (n == b) = false := by simpa using hb
            simp [Instr.findNow, Instr.sameNow, h2, hk, hbb]
          rw [hm, hf]
          refine ⟨ih.1, fun j u h => ?_⟩
          obtain ⟨q, x, x', a1, a2, a3, a4, a5, a6, a7, a8, a9⟩ := ih.2 j u h
          exact ⟨q + 1, x, x', by omega, by simpa using a2, by simpa using a3, a4, a5, a6, a7, a8, a9⟩
      · have hm : mfind k n (e :: es) i0 = none := by simp [mfind, hk, hkk]
        rw [hm]
        exact ⟨fun h => (by cases h), fun j u h => (by cases h)⟩
    | _ =>
      have hm : mfind k n (e :: es) i0 = none := by simp [mfind, hk]
      rw [hm]
      exact ⟨fun h => (by cases h), fun j u h => (by cases h)⟩

/-- The real map behind an abstract one. -/
theorem map_inv (hs : HSim prot B w ι H) {v v' : Value} (hv : VRel (tags H) ι v v') {r c : Nat} {es : List MapEntry} (hm : mapAt H v = some (r, es, c)) :
    ∃ L es', H[r]? = some (.map es c) ∧ v = .map (some r) ∧ v' = .map (some L.blk) ∧ ι[r]? = some (some L) ∧ w.heap[L.blk]? = some (.map es' c) ∧ ¬ prot L.blk ∧ es.length = es'.toList.length ∧
      ∀ (i : Nat) e, es[i]? = some e → ∃ e', es'.toList[i]? = some e' ∧ e'.key = e.key ∧ e'.born = e.born ∧ VRel (tags H) ι e.val e'.val := by
  unfold mapAt at hm
  split at hm
  · rename_i r'
    split at hm
    · rename_i es2 c2 hr
      cases hm
      have ok := hs.obj r _ hr
      obtain ⟨L, es', h1, h2, h3, h4, h5⟩ := ok
      have htag : (tags H)[r]? = some ⟨0, 0, false⟩ := by simp [tags, List.getElem?_map, hr, AObj.tag]
      cases hv with
      | flat h => simp [flat] at h
      | map ht hg hl =>
        rw [h1] at hl
        cases hl
        exact ⟨L, es', hr, rfl, rfl, h1, h2, h3, by simpa using h4, fun i e he => by
          obtain ⟨e', a, b⟩ := h5 i e he
          exact ⟨e', by simpa using a, b⟩⟩
      | staleM ht hg h1' => rw [htag] at ht; cases ht; exact absurd hg (Nat.lt_irrefl _)
    · cases hm
  · cases hm
theorem intMap_inv {t e : TypeId} (h : intMap P t = some e) : ∃ kt kd, P.underlying t = some (.map kt e) ∧ P.underlying kt = some (.int kd) := by
  unfold intMap at h
  split at h
  · rename_i k e' hu
    split at h
    · rename_i kd hk; cases h; exact ⟨k, kd, hu, hk⟩
    · cases h
  · cases h
theorem zero1_inv {t : TypeId} {z : Value} (h : zero1Of P t = some z) : flat z = true ∧ ∃ i, P.info? t = some i ∧ i.zero = some z := by
  unfold zero1Of at h
  cases hi : P.info? t with
  | none => simp [hi] at h
  | some i =>
    cases hz : i.zero with
    | none => simp [hi, hz] at h
    | some v =>
      simp only [hi, hz, Option.bind_some] at h
      split at h
      · rename_i hf; cases h; exact ⟨hf, i, rfl, hz⟩
      · cases h
theorem run_zeroValue' {t : TypeId} {i : TypeInfo} {z : Value} (hi : P.info? t = some i) (hz : i.zero = some z) (w : World) : (zeroValue t).run P w = .ok z w := by
  simp [zeroValue, typeInfo, hi, hz]
theorem sound_clear (hs : HSim prot B w ι H) (he : EnvOk (tags H) ι env a.tmps) {t e : TypeId} {i : TypeInfo} {z : List Value} (ht : P.underlying t = some (.slice e)) (hi : P.info? e = some i) (hz : zeroOf P e = some z) (hcz : i.size = z.length ∧ 0 < i.size)
    {x : Operand} (h : opK (.clearS i.size z (opd x)) env H K) {o : Oper} {c : Call} (ho : o.op = .call c) (hcc : c.callee = .builtin .clear) (ha : c.args.toList = [x]) (hat : c.argTypes.toList = [t]) :
    RunOut prot B ι H ((execOp a.eval o).run P w) K := by
  have ha' : c.args = #[x] := by apply Array.toList_inj.1; simpa using ha
  have hat' : c.argTypes = #[t] := by apply Array.toList_inj.1; simpa using hat
  obtain ⟨v, h1, h2⟩ := evK_inv he h
  obtain ⟨it, zv, hi', hzv, rfl, hf⟩ := zeroOf_spec hz
  rw [hi] at hi'; cases hi'
  have hrun : ∀ {r : Value} {w' : World}, (Builtin.clear_ #[t] o.type #[a.eval x]).run P w = .ok r w' → (execOp a.eval o).run P w = .ok (.value r) w' := fun hr => by
    simp [execOp, ho, resolve, hcc, ha', hat', invoke, builtin, hr]
  rcases sliceK_inv h1 h2 with ⟨rfl, e1, h5⟩ | ⟨p, n, c', g, esz, ro, cs, rfl, hb, hsp, h5, h6⟩
  · exact .same hs (hrun (by rw [e1]; simp [Builtin.clear_, run_underlying ht]; rfl)) .undef' h5
  · by_cases hn : n = 0
    · rw [if_pos hn] at h5
      have : ∃ q c2, a.eval x = .slice q 0 c2 := by
        rcases h6 with ⟨L, c'', hL, e1, _⟩ | ⟨_, _, b, e1⟩
        · exact ⟨_, _, by rw [e1, hn]⟩
        · exact ⟨_, _, e1⟩
      obtain ⟨q, c2, e1⟩ := this
      exact .same hs (hrun (by rw [e1]; cases q <;> simp [Builtin.clear_, run_underlying ht] <;> rfl)) .undef' h5
    · rw [if_neg hn] at h5
      by_cases hw : ro = false ∧ p.off + n * i.size ≤ cs.length
      · rw [if_pos hw] at h5
        obtain ⟨rfl, hw⟩ := hw
        rcases h6 with ⟨L, c1, hL, e1, _⟩ | ⟨h0, _⟩
        · have hzc : (Builtin.zeroCells zv.cells n).toList = (List.replicate n zv.cells.toList).flatten := by
            have := madeCells_list zv.cells n (by have := hcz.1; simp at this; omega)
            rw [← this]; rfl
          have hfl : ∀ v ∈ (List.replicate n zv.cells.toList).flatten, flat v = true := fun v hv => by
            obtain ⟨l, hl, hv⟩ := List.mem_flatten.1 hv
            rw [List.eq_of_mem_replicate hl] at hv
            exact List.all_eq_true.1 hf v hv
          have hlen : ∀ m, (List.replicate m zv.cells.toList).flatten.length = m * i.size := fun m => by
            induction m with
            | zero => simp
            | succ m ih => rw [List.replicate_succ, List.flatten_cons, List.length_append, ih, ← hcz.1, Nat.succ_mul, Nat.add_comm]
          obtain ⟨w', q1, q2, q3⟩ := hs.write (P := P) hb hL p.off _ (List.replicate n zv.cells.toList).flatten (by rw [hlen]; exact hw) ⟨rfl, fun j v v' hv hv' => by rw [hv] at hv'; cases hv'; exact .flat (hfl v (List.mem_of_getElem? hv))⟩ (fun v hv => flat_one (hfl v hv))
          refine ⟨_, w', _, _, ι, .inl (hrun ?_), q2, q3, .undef', h5⟩
          rw [e1]
          obtain ⟨k, rfl⟩ : ∃ k, n = k + 1 := ⟨n - 1, by omega⟩
          rw [← hzc] at q1
          simp [Builtin.clear_, run_underlying ht, run_zeroValue' hi hzv, q1]
          rfl
        · exact (hn h0).elim
      · rw [if_neg hw] at h5; exact h5.elim

theorem run_checkInt {kt : TypeId} {kd : IntKind} (hd : P.underlying kt = some (.int kd)) (k : IntKind) (n : Int) (e : Bool) (m : Nat) (w : World) : (Instr.checkKey e (m + 1) kt (.int k n)).run P w = .ok () w := by
  unfold Instr.checkKey
  simp only [Sem.run_bind, run_underlying hd, Result.andThen]
  rfl
theorem run_stays (k : IntKind) (n : Int) (w : World) : (Instr.keyThatStays (.int k n) (.int k n)).run P w = .ok (.int k n) w := by
  have : Instr.sameBits 10000 (.int k n) (.int k n) = true := by
    show (k == k && n == n) = true
    simp
  simp [Instr.keyThatStays, this]
/-- A map's entries are turned. -/
theorem HSim.map_set (hs : HSim prot B w ι H) {r c c' : Nat} {es es2 : List MapEntry} {L : Loc} {es' es2' : Array MapEntry} (hr : H[r]? = some (.map es c)) (hl : ι[r]? = some (some L)) (hb : w.heap[L.blk]? = some (.map es' c)) (hnp : ¬ prot L.blk)
    (hlen : es2.length = es2'.toList.length) (hrel : ∀ (i : Nat) e, es2[i]? = some e → ∃ e', es2'.toList[i]? = some e' ∧ e'.key = e.key ∧ e'.born = e.born ∧ VRel (tags H) ι e.val e'.val) :
    HSim prot B { w with heap := w.heap.setIfInBounds L.blk (.map es2' c') } ι (H.set r (.map es2 c')) ∧ Ext (tags H) ι (tags (H.set r (.map es2 c'))) ι := by
  have hkl : r < H.length := (List.getElem?_eq_some_iff.1 hr).1
  have hlt : L.blk < w.heap.size := (Array.getElem?_eq_some_iff.1 hb).1
  have htag : tags (H.set r (.map es2 c')) = tags H := by
    apply List.ext_getElem?
    intro j
    simp only [tags, List.getElem?_map, List.getElem?_set]
    by_cases hj : r = j
    · subst hj; rw [hr]; simp [hkl, AObj.tag]
    · simp [hj]
  have hsetι : ι.set r (some L) = ι := by
    apply List.ext_getElem?
    intro j
    rw [List.getElem?_set]
    by_cases hj : r = j
    · subst hj; rw [hl]; simp [(List.getElem?_eq_some_iff.1 hl).1]
    · simp [hj]
  have hrw : RW (tags H) r := ⟨⟨0, 0, false⟩, by simp [tags, List.getElem?_map, hr, AObj.tag], rfl⟩
  have hother : ∀ b, b ≠ L.blk → (w.heap.setIfInBounds L.blk (.map es2' c'))[b]? = w.heap[b]? := fun b hbn => by
    rw [Array.getElem?_setIfInBounds]; rw [if_neg (Ne.symm hbn)]
  have hrep := hs.replace (w' := { w with heap := w.heap.setIfInBounds L.blk (.map es2' c') }) (o' := .map es2 c') (some L) hkl rfl rfl rfl (by simp)
    (fun j L' hj hL' => hother _ (hs.apart hj hL' hl hrw)) (fun b hb' => hother _ (fun e => hnp (e ▸ hb')))
    (by rw [htag, hsetι]; exact .refl _ _) ?_ (fun L1 hL1 j L' hj hL' _ => by cases hL1; exact hs.apart hj hL' hl hrw)
  · rw [hsetι] at hrep
    exact ⟨hrep, by rw [htag]; exact .refl _ _⟩
  · rw [htag, hsetι]
    refine ⟨L, es2', hl, ?_, hnp, by simpa using hlen, fun i e he => ?_⟩
    · show (w.heap.setIfInBounds L.blk (.map es2' c'))[L.blk]? = _
      simp [hlt]
    · obtain ⟨e', a, b⟩ := hrel i e he
      exact ⟨e', by simpa using a, b⟩
theorem sound_makeMap (hs : HSim prot B w ι H) {t : TypeId} (h : opK .makeMap env H K) {o : Oper} (ho : o.op = .makeMap t none) : RunOut prot B ι H ((execOp a.eval o).run P w) K := by
  have hι : (ι ++ [some ⟨w.heap.size, 0, 0⟩])[H.length]? = some (some (⟨w.heap.size, 0, 0⟩ : Loc)) := by rw [← hs.len]; simp
  have hext : Ext (tags H) ι (tags (H ++ [.map [] 0])) (ι ++ [some ⟨w.heap.size, 0, 0⟩]) := fun k t ht => by
    have hk : k < H.length := by have := (List.getElem?_eq_some_iff.1 ht).1; simpa using this
    exact ⟨t, by rw [tags, List.map_append, List.getElem?_append_left (by simpa using hk)]; exact ht, Nat.le_refl _, fun _ => ⟨rfl, List.getElem?_append_left (by rw [hs.len]; exact hk)⟩⟩
  obtain ⟨k1, k2⟩ := hs.push (w' := w.alloc (.map #[] 0)) (o' := .map [] 0) (some ⟨w.heap.size, 0, 0⟩) rfl rfl rfl (by simp) (fun b hb => heap_alloc_old _ _ _ hb)
    ⟨⟨w.heap.size, 0, 0⟩, #[], hι, heap_alloc_new _ _, fun hp => by
      have := hs.low _ hp
      have := hs.size
      simp at *; omega, rfl, fun i e he => by simp at he⟩ (fun L hL _ => by cases hL; exact Nat.le_refl _)
  refine ⟨_, _, _, _, _, .inl ?_, k1, k2, .map (L := ⟨w.heap.size, 0, 0⟩) (t := ⟨0, 0, false⟩) (by simp [AObj.tag]) rfl hι, h⟩
  simp [execOp, ho, Instr.makeMap]
theorem intK_inv' {v v' : Value} {T : List Tag} {K : IntKind → Int → Prop} (h : intK v K) (hv : VRel T ι v v') : ∃ k n, v = .int k n ∧ v' = .int k n ∧ K k n := by
  cases v with
  | int k n => exact ⟨k, n, rfl, hv.int_inv, h⟩
  | _ => exact h.elim
theorem VRel.okV {T : List Tag} {v v' : Value} (hv : VRel T ι v v') (ok b : Bool) : VRel T ι (Am.okV ok v b) (if ok then .tuple #[v', .bool b] else v') := by
  cases ok with
  | false => exact hv
  | true =>
    refine .tuple rfl fun i u u' hu hu' => ?_
    match i, hu, hu' with
    | 0, hu, hu' => simp at hu hu'; subst hu; subst hu'; exact hv
    | 1, hu, hu' => simp at hu hu'; subst hu; subst hu'; exact .bool'
    | i + 2, hu, _ => simp at hu
theorem sound_lookup (hs : HSim prot B w ι H) (he : EnvOk (tags H) ι env a.tmps) {t e : TypeId} {z : Value} {ok : Bool} {x i : Operand} (hm : intMap P t = some e) (hz : zero1Of P e = some z) (h : opK (.lookup z ok (opd x) (opd i)) env H K) {o : Oper} (ho : o.op = .lookup t x i ok) :
    RunOut prot B ι H ((execOp a.eval o).run P w) K := by
  obtain ⟨kt, kd, hu, hk⟩ := intMap_inv hm
  obtain ⟨hf, ti, hi, hzz⟩ := zero1_inv hz
  obtain ⟨v, h1, h2⟩ := evK_inv he h
  obtain ⟨u, h3, h4⟩ := evK_inv he h1
  obtain ⟨k, n, rfl, hn, h5⟩ := intK_inv' h3 h4
  split at h5
  · rename_i r es c hmap
    obtain ⟨L, es', a1, rfl, a3, a4, a5, a6, a7, a8⟩ := map_inv hs h2 hmap
    split at h5
    · rename_i res hres
      unfold lookV at hres
      have hfn := mfind_now (kd := kd) (k := k) (n := n) a7 a8 0
      split at hres
      · rename_i j q hfd
        cases hres
        obtain ⟨p, x1, x2, b1, b2, b3, b4, b5, b6, b7, b8, b9⟩ := hfn.2 _ _ hfd
        subst b7
        refine .same hs (v' := if ok then .tuple #[x2.val, .bool true] else x2.val) ?_ (b8.okV ok true) h5
        simp [execOp, ho, Instr.lookup, run_underlying hu, a3, hn, MapKept.run_getObj_map a5, run_checkInt hk, MapKept.run_findKey hk b9, Result.andThen]
      · rename_i hfd
        cases hres
        have b9 := hfn.1 hfd
        refine .same hs (v' := if ok then .tuple #[z, .bool false] else z) ?_ ((VRel.flat hf).okV ok false) h5
        simp [execOp, ho, Instr.lookup, run_underlying hu, a3, hn, MapKept.run_getObj_map a5, run_checkInt hk, MapKept.run_findKey hk b9, run_zeroValue' hi hzz, Result.andThen]
      · cases hres
    · exact h5.elim
  · exact h5.elim

theorem modify_rel {T : List Tag} {es es' : List MapEntry} (hl : es.length = es'.length) (hr : ∀ (i : Nat) e, es[i]? = some e → ∃ e', es'[i]? = some e' ∧ e'.key = e.key ∧ e'.born = e.born ∧ VRel T ι e.val e'.val) {p : Nat} {f f' : MapEntry → MapEntry}
    (hf : ∀ e e', es[p]? = some e → es'[p]? = some e' → e'.key = e.key → e'.born = e.born → VRel T ι e.val e'.val → (f' e').key = (f e).key ∧ (f' e').born = (f e).born ∧ VRel T ι (f e).val (f' e').val) :
    (es.modify p f).length = (es'.modify p f').length ∧ ∀ (i : Nat) e, (es.modify p f)[i]? = some e → ∃ e', (es'.modify p f')[i]? = some e' ∧ e'.key = e.key ∧ e'.born = e.born ∧ VRel T ι e.val e'.val := by
  refine ⟨by simp [hl], fun i e he => ?_⟩
  rw [List.getElem?_modify] at he ⊢
  by_cases hi : p = i
  · subst hi
    cases hx : es[p]? with
    | none => simp [hx] at he
    | some x =>
      obtain ⟨x', h1, h2, h3, h4⟩ := hr p x hx
      have he : f x = e := by simpa [hx] using he
      subst he
      obtain ⟨a, b, c⟩ := hf x x' hx h1 h2 h3 h4
      exact ⟨f' x', by simp [h1], a, b, c⟩
  · have he : es[i]? = some e := by simpa [hi] using he
    obtain ⟨x', h1, h2⟩ := hr i e he
    exact ⟨x', by simp [hi, h1], h2⟩
theorem push_rel {T : List Tag} {es es' : List MapEntry} (hl : es.length = es'.length) (hr : ∀ (i : Nat) e, es[i]? = some e → ∃ e', es'[i]? = some e' ∧ e'.key = e.key ∧ e'.born = e.born ∧ VRel T ι e.val e'.val) {x x' : MapEntry} (h1 : x'.key = x.key) (h2 : x'.born = x.born) (h3 : VRel T ι x.val x'.val) :
    (es ++ [x]).length = (es' ++ [x']).length ∧ ∀ (i : Nat) e, (es ++ [x])[i]? = some e → ∃ e', (es' ++ [x'])[i]? = some e' ∧ e'.key = e.key ∧ e'.born = e.born ∧ VRel T ι e.val e'.val := by
  refine ⟨by simp [hl], fun i e he => ?_⟩
  by_cases hi : i < es.length
  · rw [List.getElem?_append_left hi] at he
    rw [List.getElem?_append_left (by omega)]
    exact hr i e he
  · have hlt := (List.getElem?_eq_some_iff.1 he).1
    simp at hlt
    have e1 : i = es.length := by omega
    subst e1
    simp at he
    subst he
    exact ⟨x', by rw [hl]; simp, h1, h2, h3⟩
theorem erase_rel {T : List Tag} {es es' : List MapEntry} (hl : es.length = es'.length) (hr : ∀ (i : Nat) e, es[i]? = some e → ∃ e', es'[i]? = some e' ∧ e'.key = e.key ∧ e'.born = e.born ∧ VRel T ι e.val e'.val) (p : Nat) :
    (es.eraseIdx p).length = (es'.eraseIdx p).length ∧ ∀ (i : Nat) e, (es.eraseIdx p)[i]? = some e → ∃ e', (es'.eraseIdx p)[i]? = some e' ∧ e'.key = e.key ∧ e'.born = e.born ∧ VRel T ι e.val e'.val := by
  refine ⟨by simp only [List.length_eraseIdx, hl], fun i e he => ?_⟩
  rw [List.getElem?_eraseIdx] at he ⊢
  split at he
  · rename_i h; rw [if_pos h]; exact hr i e he
  · rename_i h; rw [if_neg h]; exact hr (i + 1) e he
theorem array_modify (es : Array MapEntry) (p : Nat) (f : MapEntry → MapEntry) : (es.modify p f).toList = es.toList.modify p f := by
  apply List.ext_getElem?
  intro i
  rw [List.getElem?_modify]
  simp only [Array.getElem?_toList, Array.getElem?_modify]
  split <;> simp
theorem sound_mapUpdate (hs : HSim prot B w ι H) (he : EnvOk (tags H) ι env a.tmps) {t e : TypeId} {m k x : Operand} (hm : intMap P t = some e) (h : opK (.mapUpdate (opd m) (opd k) (opd x)) env H K) {o : Oper} (ho : o.op = .mapUpdate t m k x) :
    RunOut prot B ι H ((execOp a.eval o).run P w) K := by
  obtain ⟨kt, kd, hu, hk⟩ := intMap_inv hm
  obtain ⟨v, h1, h2⟩ := evK_inv he h
  obtain ⟨u, h3, h4⟩ := evK_inv he h1
  obtain ⟨y, h6, h7⟩ := evK_inv he h3
  obtain ⟨kk, n, rfl, hn, h5⟩ := intK_inv' h6 h4
  split at h5
  · rename_i r es c hmap
    obtain ⟨L, es', a1, rfl, a3, a4, a5, a6, a7, a8⟩ := map_inv hs h2 hmap
    split at h5
    · rename_i es2 c2 hres
      unfold putV at hres
      have hfn := mfind_now (kd := kd) (k := kk) (n := n) a7 a8 0
      split at hres
      · rename_i j q hfd
        cases hres
        obtain ⟨p, x1, x2, b1, b2, b3, b4, b5, b6, b7, b8, b9⟩ := hfn.2 _ _ hfd
        obtain rfl : j = p := by omega
        obtain ⟨c1, c2⟩ := modify_rel a7 a8 (p := j) (f := fun e => { e with val := y }) (f' := fun e => { e with key := .int kk n, val := a.eval x }) (fun e e' he he' h1 h2 h3 => by
          rw [b2] at he
          cases he
          exact ⟨by simp only; exact b4.symm, h2, h7⟩)
        rw [← array_modify es'] at c1 c2
        obtain ⟨k1, k2⟩ := hs.map_set (c' := c) a1 a4 a5 a6 c1 c2
        refine ⟨undef, _, .tuple #[], _, ι, .inr ⟨?_, rfl⟩, k1, k2, .undef', h5⟩
        have b3' : es'[j]? = some x2 := by simpa using b3
        simp [execOp, ho, Instr.mapUpdate, run_underlying hu, a3, hn, MapKept.run_getObj_map a5, run_checkInt hk, MapKept.run_findKey hk b9, b3', b5, run_stays, MapKept.run_setObj_map _ a5, Result.andThen]
      · rename_i hfd
        cases hres
        have b9 := hfn.1 hfd
        obtain ⟨c1, c2⟩ := push_rel a7 a8 (x := ⟨.int kk n, y, c⟩) (x' := ⟨.int kk n, a.eval x, c⟩) rfl rfl h7
        rw [show es'.toList ++ [(⟨.int kk n, a.eval x, c⟩ : MapEntry)] = (es'.push ⟨.int kk n, a.eval x, c⟩).toList by simp] at c1 c2
        obtain ⟨k1, k2⟩ := hs.map_set (c' := c + 1) a1 a4 a5 a6 c1 c2
        refine ⟨undef, _, .tuple #[], _, ι, .inr ⟨?_, rfl⟩, k1, k2, .undef', h5⟩
        simp [execOp, ho, Instr.mapUpdate, run_underlying hu, a3, hn, MapKept.run_getObj_map a5, run_checkInt hk, MapKept.run_findKey hk b9, MapKept.run_setObj_map _ a5, Result.andThen]
      · cases hres
    · exact h5.elim
  · exact h5.elim
theorem sound_mapEntry (hs : HSim prot B w ι H) (he : EnvOk (tags H) ι env a.tmps) {t e : TypeId} {z : Value} {m k : Operand} (hm : intMap P t = some e) (hz : zero1Of P e = some z) (h : opK (.mapEntry z (opd m) (opd k)) env H K) {o : Oper} (ho : o.op = .mapEntry t m k) :
    RunOut prot B ι H ((execOp a.eval o).run P w) K := by
  obtain ⟨kt, kd, hu, hk⟩ := intMap_inv hm
  obtain ⟨hf, ti, hi, hzz⟩ := zero1_inv hz
  obtain ⟨v, h1, h2⟩ := evK_inv he h
  obtain ⟨u, h3, h4⟩ := evK_inv he h1
  obtain ⟨kk, n, rfl, hn, h5⟩ := intK_inv' h3 h4
  have pair : ∀ {T : List Tag} {ι : Inj} {v v' : Value} {b : Int}, VRel T ι v v' → VRel T ι (.tuple #[v, .int .i64 b]) (.tuple #[v', .int .i64 b]) := fun hv => by
    refine .tuple rfl fun i u u' hu hu' => ?_
    match i, hu, hu' with
    | 0, hu, hu' => simp at hu hu'; subst hu; subst hu'; exact hv
    | 1, hu, hu' => simp at hu hu'; subst hu; subst hu'; exact .int'
    | i + 2, hu, _ => simp at hu
  split at h5
  · rename_i r es c hmap
    obtain ⟨L, es', a1, rfl, a3, a4, a5, a6, a7, a8⟩ := map_inv hs h2 hmap
    split at h5
    · rename_i y es2 c2 hres
      unfold entryV at hres
      have hfn := mfind_now (kd := kd) (k := kk) (n := n) a7 a8 0
      split at hres
      · rename_i j q hfd
        cases hres
        obtain ⟨p, x1, x2, b1, b2, b3, b4, b5, b6, b7, b8, b9⟩ := hfn.2 _ _ hfd
        obtain rfl : j = p := by omega
        subst b7
        obtain ⟨c1, c2⟩ := modify_rel a7 a8 (p := j) (f := fun e => e) (f' := fun e => { e with key := .int kk n }) (fun e e' he he' h1 h2 h3 => by
          rw [b2] at he
          cases he
          exact ⟨by simp only; exact b4.symm, h2, h3⟩)
        have hid : es.modify j (fun e => e) = es := List.modify_id j es
        rw [hid] at c1 c2
        rw [← array_modify es'] at c1 c2
        obtain ⟨k1, k2⟩ := hs.map_set (c' := c) a1 a4 a5 a6 c1 c2
        have b3' : es'[j]? = some x2 := by simpa using b3
        have hb : bornAt es j = (x2.born : Int) := by simp [bornAt, b2, b6]
        refine ⟨.tuple #[x2.val, .int .i64 x2.born], _, _, _, ι, .inl ?_, k1, k2, ?_, h5⟩
        · simp [execOp, ho, Instr.mapEntry, run_underlying hu, a3, hn, MapKept.run_getObj_map a5, run_checkInt hk, MapKept.run_findKey hk b9, b3', b5, run_stays, MapKept.run_setObj_map _ a5, Result.andThen, goInt]
        · rw [hb]; exact (pair b8).ext k2
      · rename_i hfd
        cases hres
        have b9 := hfn.1 hfd
        obtain ⟨c1, c2⟩ := push_rel a7 a8 (x := ⟨.int kk n, z, c⟩) (x' := ⟨.int kk n, z, c⟩) rfl rfl (.flat hf)
        rw [show es'.toList ++ [(⟨.int kk n, z, c⟩ : MapEntry)] = (es'.push ⟨.int kk n, z, c⟩).toList by simp] at c1 c2
        obtain ⟨k1, k2⟩ := hs.map_set (c' := c + 1) a1 a4 a5 a6 c1 c2
        refine ⟨.tuple #[z, .int .i64 c], _, _, _, ι, .inl ?_, k1, k2, pair (.flat hf), h5⟩
        simp [execOp, ho, Instr.mapEntry, run_underlying hu, a3, hn, MapKept.run_getObj_map a5, run_checkInt hk, MapKept.run_findKey hk b9, run_zeroValue' hi hzz, MapKept.run_setObj_map _ a5, Result.andThen, goInt]
      · cases hres
    · exact h5.elim
  · exact h5.elim
theorem find_rel {T : List Tag} {b : Int} : ∀ {es es' : List MapEntry}, es.length = es'.length → (∀ (i : Nat) e, es[i]? = some e → ∃ e', es'[i]? = some e' ∧ e'.key = e.key ∧ e'.born = e.born ∧ VRel T ι e.val e'.val) → es'.findIdx? (fun e => (e.born : Int) == b) = es.findIdx? (fun e => (e.born : Int) == b)
  | [], [], _, _ => rfl
  | [], _ :: _, hl, _ => by simp at hl
  | _ :: _, [], hl, _ => by simp at hl
  | e :: es, e' :: es', hl, hr => by
    obtain ⟨e1, h1, h2, h3, h4⟩ := hr 0 e rfl
    have h1 : e' = e1 := by simpa using h1
    subst h1
    have ih := find_rel (b := b) (es := es) (es' := es') (by simpa using hl) (fun i x hx => by simpa using hr (i + 1) x (by simpa using hx))
    rw [List.findIdx?_cons, List.findIdx?_cons, h3, ih]
theorem sound_entryStore (hs : HSim prot B w ι H) (he : EnvOk (tags H) ι env a.tmps) {t e : TypeId} {m k x : Operand} (_hm : intMap P t = some e) (h : opK (.entryStore (opd m) (opd k) (opd x)) env H K) {o : Oper} (ho : o.op = .entryStore t m k x) :
    RunOut prot B ι H ((execOp a.eval o).run P w) K := by
  obtain ⟨v, h1, h2⟩ := evK_inv he h
  obtain ⟨u, h3, h4⟩ := evK_inv he h1
  obtain ⟨y, h6, h7⟩ := evK_inv he h3
  obtain ⟨kk, n, rfl, hn, h5⟩ := intK_inv' h6 h4
  split at h5
  · rename_i r es c hmap
    obtain ⟨L, es', a1, rfl, a3, a4, a5, a6, a7, a8⟩ := map_inv hs h2 hmap
    split at h5
    · rename_i es2 hres
      unfold stampV at hres
      cases hfi : es.findIdx? (fun e => (e.born : Int) == n) with
      | none => simp [hfi] at hres
      | some j =>
        simp only [hfi, Option.map_some, Option.some.injEq] at hres
        subst hres
        have hfi' := (find_rel (b := n) a7 a8).trans hfi
        have hfa : es'.findIdx? (fun e => (e.born : Int) == n) = some j := by rw [← hfi']; cases es'; simp
        obtain ⟨c1, c2⟩ := modify_rel a7 a8 (p := j) (f := fun e => { e with val := y }) (f' := fun e => { e with val := a.eval x }) (fun e e' he he' h1 h2 h3 => ⟨h1, h2, h7⟩)
        rw [← array_modify es'] at c1 c2
        obtain ⟨k1, k2⟩ := hs.map_set (c' := c) a1 a4 a5 a6 c1 c2
        refine ⟨undef, _, .tuple #[], _, ι, .inr ⟨?_, rfl⟩, k1, k2, .undef', h5⟩
        simp [execOp, ho, Instr.entryStore, a3, hn, asInt, asIntOf, MapKept.run_getObj_map a5, hfa, MapKept.run_setObj_map _ a5, Result.andThen]
    · exact h5.elim
  · exact h5.elim
theorem sound_mapDelete (hs : HSim prot B w ι H) (he : EnvOk (tags H) ι env a.tmps) {t t2 e : TypeId} {m k : Operand} (hm : intMap P t = some e) (h : opK (.mapDelete (opd m) (opd k)) env H K) {o : Oper} {c : Call} (ho : o.op = .call c) (hc : c.callee = .builtin .delete) (ha : c.args.toList = [m, k]) (hat : c.argTypes.toList = [t, t2]) :
    RunOut prot B ι H ((execOp a.eval o).run P w) K := by
  obtain ⟨kt, kd, hu, hk⟩ := intMap_inv hm
  obtain ⟨v, h1, h2⟩ := evK_inv he h
  obtain ⟨u, h3, h4⟩ := evK_inv he h1
  obtain ⟨kk, n, rfl, hn, h5⟩ := intK_inv' h3 h4
  have ha' : c.args = #[m, k] := by rw [← Array.toList_inj]; exact ha
  have hat' : c.argTypes = #[t, t2] := by rw [← Array.toList_inj]; exact hat
  split at h5
  · rename_i r es cl hmap
    obtain ⟨L, es', a1, rfl, a3, a4, a5, a6, a7, a8⟩ := map_inv hs h2 hmap
    split at h5
    · rename_i es2 hres
      unfold delV at hres
      have hfn := mfind_now (kd := kd) (k := kk) (n := n) a7 a8 0
      split at hres
      · rename_i j q hfd
        cases hres
        obtain ⟨p, x1, x2, b1, b2, b3, b4, b5, b6, b7, b8, b9⟩ := hfn.2 _ _ hfd
        obtain rfl : j = p := by omega
        obtain ⟨c1, c2⟩ := erase_rel a7 a8 j
        have hea : es'.toList.eraseIdx j = (es'.eraseIdxIfInBounds j).toList := by simp
        rw [hea] at c1 c2
        obtain ⟨k1, k2⟩ := hs.map_set (c' := cl) a1 a4 a5 a6 c1 c2
        refine ⟨.tuple #[], _, .tuple #[], _, ι, .inl ?_, k1, k2, .undef', h5⟩
        simp [execOp, ho, resolve, hc, ha', hat', invoke, builtin, Builtin.delete_, run_underlying hu, a3, hn, MapKept.run_getObj_map a5, run_checkInt hk, MapKept.run_findKey hk b9, MapKept.run_setObj_map _ a5, Result.andThen]
      · rename_i hfd
        cases hres
        have b9 := hfn.1 hfd
        obtain ⟨k1, k2⟩ := hs.map_set (c' := cl) a1 a4 a5 a6 a7 a8
        refine ⟨.tuple #[], _, .tuple #[], _, ι, .inl ?_, k1, k2, .undef', h5⟩
        simp [execOp, ho, resolve, hc, ha', hat', invoke, builtin, Builtin.delete_, run_underlying hu, a3, hn, MapKept.run_getObj_map a5, run_checkInt hk, MapKept.run_findKey hk b9, MapKept.run_setObj_map _ a5, Result.andThen]
      · cases hres
    · exact h5.elim
  · exact h5.elim
theorem sound_lenMap (hs : HSim prot B w ι H) (he : EnvOk (tags H) ι env a.tmps) {x : Operand} {t k e : TypeId} (hu : P.underlying t = some (.map k e)) (h : opK (.lenMap (opd x)) env H K) {o : Oper} {c : Call} (ho : o.op = .call c) (hc : c.callee = .builtin .len) (ha : c.args.toList = [x]) (hat : c.argTypes.toList = [t]) :
    RunOut prot B ι H ((execOp a.eval o).run P w) K := by
  obtain ⟨v, h1, h2⟩ := evK_inv he h
  have ha' : c.args = #[x] := by rw [← Array.toList_inj]; exact ha
  have hat' : c.argTypes = #[t] := by rw [← Array.toList_inj]; exact hat
  split at h1
  · rename_i r es cl hmap
    obtain ⟨L, es', a1, rfl, a3, a4, a5, a6, a7, a8⟩ := map_inv hs h2 hmap
    have hsz : (es'.size : Int) = es.length := by rw [a7]; simp
    refine .same hs (v' := .int .i64 es'.size) ?_ (by rw [hsz]; exact .int') h1
    simp [execOp, ho, resolve, hc, ha', hat', invoke, builtin, Builtin.len_, run_underlying hu, a3, MapKept.run_getObj_map a5, Result.andThen, goInt]
  · exact h1.elim

/-! ## Going over a map -/

/-- No entry came since the going began: the test ahead of a step is false. -/
theorem next_test (seen : Array Nat) (es : Array MapEntry) (since c0 : Nat) (hold : ∀ x ∈ es.toList, x.born < since) (hsc : since ≤ c0) :
    (!seen.isEmpty && !es.isEmpty && es.all (fun x => decide (x.born ≥ c0))) = false := by
  cases he : es.isEmpty with
  | true => simp
  | false =>
    have hall : es.all (fun x => decide (x.born ≥ c0)) = false := by
      rw [Bool.eq_false_iff]
      intro h
      rw [Array.all_eq_true_iff_forall_mem] at h
      have h0 : 0 < es.size := by
        rcases Nat.eq_zero_or_pos es.size with h0 | h0
        · simp [Array.isEmpty, h0] at he
        · exact h0
      have hm : es[0] ∈ es := Array.getElem_mem h0
      have h1 := h _ hm
      have h2 := hold es[0] (by simp)
      simp at h1
      omega
    simp [hall]
theorem run_setObj_it {w : World} {r : Nat} {m : Option Nat} {s : Nat} {seen : Array Nat} {c : Nat} (hr : w.heap[r]? = some (.mapIter m s seen c)) (o' : Obj) : (setObj r o').run P w = .ok () { w with heap := w.heap.setIfInBounds r o' } := by
  simp [setObj, Sem.run, hr]
/-- A step: nothing is left, or one of those left comes, whichever. -/
theorem run_next_it (w : World) (ty : TypeId) (r bm since c0 : Nat) (seen : Array Nat) (es : Array MapEntry) (clock : Nat)
    (hr : w.heap[r]? = some (.mapIter (some bm) since seen c0)) (hb : w.heap[bm]? = some (.map es clock)) (hold : ∀ x ∈ es.toList, x.born < since) (hsc : since ≤ c0) :
    ((es.filter fun e => !seen.contains e.born).size = 0 ∧ (Instr.next (.pointer (some ⟨r, 0, none⟩)) false ty).run P w = .ok (.tuple #[.bool false]) w) ∨
    ∃ e ∈ (es.filter fun e => !seen.contains e.born).toList, ∃ w1 : World, (w1 = w ∨ w1 = w.drew) ∧ (Instr.next (.pointer (some ⟨r, 0, none⟩)) false ty).run P w = .ok (.tuple #[.bool true, e.key, e.val]) { w1 with heap := w1.heap.setIfInBounds r (.mapIter (some bm) since (seen.push e.born) clock) } := by
  simp only [Instr.next, getObj, Sem.run_bind, Sem.run, hr, hb, Result.andThen, next_test seen es since c0 hold hsc, Bool.false_eq_true, if_false]
  have hmem : ∀ x ∈ (Array.filter (fun e => !seen.contains e.born) es).toList, x.born < since := fun x hx => hold x (by simp at hx ⊢; exact hx.1)
  generalize Array.filter (fun e => !seen.contains e.born) es = L at hmem ⊢
  have e1 : L.filter (fun x => decide (x.born < since)) = L := Array.filter_eq_self.2 (fun x hx => by simpa using hmem x (by simpa using hx))
  have e2 : L.filter (fun x => decide (x.born ≥ since)) = #[] := by
    rw [Array.filter_eq_empty_iff]
    intro x hx
    have := hmem x (by simpa using hx)
    simp
    omega
  simp only [e1, e2, Array.append_empty]
  by_cases h0 : L.size = 0
  · left
    have : L = #[] := Array.eq_empty_of_size_eq_zero h0
    subst this
    refine ⟨rfl, ?_⟩
    simp [choose, Sem.run, Question.forced]
  · right
    have hne : L.isEmpty = false := by simp [Array.isEmpty, h0]
    simp only [hne, Bool.false_eq_true, if_false, Array.empty_append, Array.size_map]
    have hch : ∃ (j : Nat) (w1 : World), j < L.size ∧ (w1 = w ∨ w1 = w.drew) ∧ (choose (Question.mapNext L.size)).run P w = .ok j w1 := by
      by_cases hf : L.size ≤ 1
      · exact ⟨0, w, by omega, Or.inl rfl, by simp [choose, Sem.run, Question.forced, hf]⟩
      · exact ⟨_, w.drew, Nat.mod_lt _ (by omega), Or.inr rfl, by
          simp only [choose, Sem.run, Question.forced, decide_eq_true_eq, hf, if_false, Question.cut]
          rfl⟩
    obtain ⟨j, w1, hj, hal, hrun⟩ := hch
    refine ⟨L[j], by simp, w1, hal, ?_⟩
    have hr1 : w1.heap[r]? = some (.mapIter (some bm) since seen c0) := by rcases hal with rfl | rfl <;> exact hr
    simp only [hrun, Array.getElem?_map, Array.getElem?_eq_getElem hj, Option.map_some, Sem.run_bind, run_setObj_it hr1, Result.andThen]
    rfl
theorem find_stamp {T : List Tag} {b : Nat} : ∀ {es es' : List MapEntry}, es.length = es'.length → (∀ (i : Nat) e, es[i]? = some e → ∃ e', es'[i]? = some e' ∧ e'.key = e.key ∧ e'.born = e.born ∧ VRel T ι e.val e'.val) →
    ∀ e, es.find? (fun e => e.born == b) = some e → ∃ e', es'.find? (fun e => e.born == b) = some e' ∧ e'.key = e.key ∧ VRel T ι e.val e'.val
  | [], _, _, _, e, h => by simp at h
  | _ :: _, [], hl, _, _, _ => by simp at hl
  | x :: es, x' :: es', hl, hr, e, h => by
    obtain ⟨x1, h1, h2, h3, h4⟩ := hr 0 x rfl
    have h1 : x' = x1 := by simpa using h1
    subst h1
    rw [List.find?_cons] at h ⊢
    rw [h3]
    cases hb : x.born == b with
    | true => rw [hb] at h; cases h; exact ⟨x', rfl, h2, h4⟩
    | false =>
      rw [hb] at h
      exact find_stamp (es := es) (es' := es') (by simpa using hl) (fun i x hx => by simpa using hr (i + 1) x (by simpa using hx)) e h
/-- The real going behind an abstract one. -/
theorem iter_inv (hs : HSim prot B w ι H) {v v' : Value} (hv : VRel (tags H) ι v v') {k r since c0 clock : Nat} {seen : List Nat} {es : List MapEntry} (hm : iterAt H v = some (k, r, since, seen, c0, es, clock)) :
    ∃ L Lm es', H[k]? = some (.iter r since seen c0) ∧ v' = .pointer (some ⟨L.blk, 0, none⟩) ∧ ι[k]? = some (some L) ∧ L.off = 0 ∧ ¬ prot L.blk ∧ w.heap[L.blk]? = some (.mapIter (some Lm) since seen.toArray c0) ∧ VRel (tags H) ι (.map (some r)) (.map (some Lm)) ∧
      w.heap[Lm]? = some (.map es' clock) ∧ es.length = es'.toList.length ∧ ∀ (i : Nat) e, es[i]? = some e → ∃ e', es'.toList[i]? = some e' ∧ e'.key = e.key ∧ e'.born = e.born ∧ VRel (tags H) ι e.val e'.val := by
  unfold iterAt at hm
  split at hm
  · rename_i k'
    split at hm
    · rename_i r' since' seen' c0' hk
      split at hm
      · rename_i es2 c2 hr
        cases hm
        obtain ⟨L, bm, h1, h2, h3, h4, h5⟩ := hs.obj _ _ hk
        have htag : (tags H)[k]? = some ⟨0, 0, false⟩ := by simp [tags, List.getElem?_map, hk, AObj.tag]
        have hmap : mapAt H (.map (some r)) = some (r, es, clock) := by simp only [mapAt, hr]
        obtain ⟨Lm, es', a1, a2, a3, a4, a5, a6, a7, a8⟩ := map_inv hs h5 hmap
        cases a3
        cases hv with
        | flat h => simp [flat] at h
        | @ptr _ _ g L' t ht hg hl =>
          rw [h1] at hl
          cases hl
          exact ⟨L, Lm.blk, es', hk, by rw [h4], h1, h4, h3, h2, h5, a5, a7, a8⟩
        | staleP ht hg h1' => rw [htag] at ht; cases ht; exact absurd hg (Nat.not_lt_zero _)
      · cases hm
    · cases hm
  · cases hm
theorem HSim.iter_set (hs : HSim prot B w ι H) {k r since c0 c1 : Nat} {seen seen2 : List Nat} {L : Loc} {bm : Nat} {x : Obj} (hr : H[k]? = some (.iter r since seen c0)) (hl : ι[k]? = some (some L)) (hb : w.heap[L.blk]? = some x) (hnp : ¬ prot L.blk) (h0 : L.off = 0)
    (hv : VRel (tags H) ι (.map (some r)) (.map (some bm))) :
    HSim prot B { w with heap := w.heap.setIfInBounds L.blk (.mapIter (some bm) since seen2.toArray c1) } ι (H.set k (.iter r since seen2 c1)) ∧ Ext (tags H) ι (tags (H.set k (.iter r since seen2 c1))) ι := by
  have hkl : k < H.length := (List.getElem?_eq_some_iff.1 hr).1
  have hlt : L.blk < w.heap.size := (Array.getElem?_eq_some_iff.1 hb).1
  have htag : tags (H.set k (.iter r since seen2 c1)) = tags H := by
    apply List.ext_getElem?
    intro j
    simp only [tags, List.getElem?_map, List.getElem?_set]
    by_cases hj : k = j
    · subst hj; rw [hr]; simp [hkl, AObj.tag]
    · simp [hj]
  have hsetι : ι.set k (some L) = ι := by
    apply List.ext_getElem?
    intro j
    rw [List.getElem?_set]
    by_cases hj : k = j
    · subst hj; rw [hl]; simp [(List.getElem?_eq_some_iff.1 hl).1]
    · simp [hj]
  have hrw : RW (tags H) k := ⟨⟨0, 0, false⟩, by simp [tags, List.getElem?_map, hr, AObj.tag], rfl⟩
  have hother : ∀ b, b ≠ L.blk → (w.heap.setIfInBounds L.blk (.mapIter (some bm) since seen2.toArray c1))[b]? = w.heap[b]? := fun b hbn => by
    rw [Array.getElem?_setIfInBounds]; rw [if_neg (Ne.symm hbn)]
  have hrep := hs.replace (w' := { w with heap := w.heap.setIfInBounds L.blk (.mapIter (some bm) since seen2.toArray c1) }) (o' := .iter r since seen2 c1) (some L) hkl rfl rfl rfl (by simp)
    (fun j L' hj hL' => hother _ (hs.apart hj hL' hl hrw)) (fun b hb' => hother _ (fun e => hnp (e ▸ hb')))
    (by rw [htag, hsetι]; exact .refl _ _) ?_ (fun L1 hL1 j L' hj hL' _ => by cases hL1; exact hs.apart hj hL' hl hrw)
  · rw [hsetι] at hrep
    exact ⟨hrep, by rw [htag]; exact .refl _ _⟩
  · rw [htag, hsetι]
    refine ⟨L, bm, hl, ?_, hnp, h0, hv⟩
    show (w.heap.setIfInBounds L.blk (.mapIter (some bm) since seen2.toArray c1))[L.blk]? = _
    simp [hlt]
theorem sound_rangeMap (hs : HSim prot B w ι H) (he : EnvOk (tags H) ι env a.tmps) {t kt e : TypeId} {x : Operand} (hu : P.underlying t = some (.map kt e)) (h : opK (.rangeMap (opd x)) env H K) {o : Oper} (ho : o.op = .range t x) :
    RunOut prot B ι H ((execOp a.eval o).run P w) K := by
  obtain ⟨v, h1, h2⟩ := evK_inv he h
  split at h1
  · rename_i r es c hmap
    obtain ⟨L, es', a1, rfl, a3, a4, a5, a6, a7, a8⟩ := map_inv hs h2 hmap
    have hι : (ι ++ [some ⟨w.heap.size, 0, 0⟩])[H.length]? = some (some (⟨w.heap.size, 0, 0⟩ : Loc)) := by rw [← hs.len]; simp
    have hext : Ext (tags H) ι (tags (H ++ [.iter r c [] c])) (ι ++ [some ⟨w.heap.size, 0, 0⟩]) := fun k t ht => by
      have hk : k < H.length := by have := (List.getElem?_eq_some_iff.1 ht).1; simpa using this
      exact ⟨t, by rw [tags, List.map_append, List.getElem?_append_left (by simpa using hk)]; exact ht, Nat.le_refl _, fun _ => ⟨rfl, List.getElem?_append_left (by rw [hs.len]; exact hk)⟩⟩
    have hv0 : VRel (tags H) ι (.map (some r)) (.map (some L.blk)) := .map (t := ⟨0, 0, false⟩) (by simp [tags, a1, AObj.tag]) rfl a4
    obtain ⟨k1, k2⟩ := hs.push (w' := w.alloc (.mapIter (some L.blk) c #[] c)) (o' := .iter r c [] c) (some ⟨w.heap.size, 0, 0⟩) rfl rfl rfl (by simp) (fun b hb => heap_alloc_old _ _ _ hb)
      ⟨⟨w.heap.size, 0, 0⟩, L.blk, hι, heap_alloc_new _ _, fun hp => by
        have := hs.low _ hp
        have := hs.size
        simp at *; omega, rfl, hv0.ext hext⟩ (fun L hL _ => by cases hL; exact Nat.le_refl _)
    refine ⟨_, _, _, _, _, .inl ?_, k1, k2, .ptr (L := ⟨w.heap.size, 0, 0⟩) (t := ⟨0, 0, false⟩) (by simp [AObj.tag]) rfl hι, h1⟩
    simp [execOp, ho, Instr.range, run_underlying hu, a3, MapKept.run_getObj_map a5, Result.andThen]
  · exact h1.elim
theorem sound_nextMap (hs : HSim prot B w ι H) (he : EnvOk (tags H) ι env a.tmps) {x : Operand} (h : opK (.nextMap (opd x)) env H K) {o : Oper} (ho : o.op = .next x false) :
    RunOut prot B ι H ((execOp a.eval o).run P w) K := by
  obtain ⟨v, h1, h2⟩ := evK_inv he h
  split at h1
  · rename_i k r since seen c0 es clock hit
    obtain ⟨L, bm, es', a1, a2, a3, a4, a5, a6, a7, a8, a9, a10⟩ := iter_inv hs h2 hit
    split at h1
    · rename_i hc
      obtain ⟨hsc, hall⟩ := hc
      obtain ⟨hnone, hsome⟩ := h1
      have back : ∀ {e' : MapEntry}, e' ∈ es'.toList → ∃ e ∈ es, e'.key = e.key ∧ e'.born = e.born ∧ VRel (tags H) ι e.val e'.val := fun {e'} hm => by
        obtain ⟨i, hi⟩ := List.getElem?_of_mem hm
        have hlt : i < es.length := by rw [a9]; exact (List.getElem?_eq_some_iff.1 hi).1
        obtain ⟨e1, b1, b2, b3, b4⟩ := a10 i es[i] (List.getElem?_eq_getElem hlt)
        rw [hi] at b1; cases b1
        exact ⟨es[i], List.getElem_mem hlt, b2, b3, b4⟩
      rw [List.all_eq_true] at hall
      have hold : ∀ x ∈ es'.toList, x.born < since := fun x hx => by
        obtain ⟨e, e1, _, e3, _⟩ := back hx
        have := hall e e1
        simp at this
        rw [e3]; exact this.1
      rcases run_next_it (P := P) w o.type L.blk bm since c0 seen.toArray es' clock a6 a8 hold hsc with ⟨hz, hrun⟩ | ⟨e', hm, w1, hw1, hrun⟩
      · refine .same hs (v' := .tuple #[.bool false]) ?_ (.tuple rfl fun i u u' hu hu' => ?_) (hnone ?_)
        · simp [execOp, ho, a2, hrun, Result.andThen]
        · match i, hu, hu' with
          | 0, hu, hu' => simp at hu hu'; subst hu; subst hu'; exact .bool'
          | i + 1, hu, _ => simp at hu
        · rw [List.isEmpty_iff, leftL, List.filter_eq_nil_iff]
          intro e hm
          obtain ⟨i, hi⟩ := List.getElem?_of_mem hm
          obtain ⟨e1, b1, b2, b3, b4⟩ := a10 i e hi
          have hf := Array.eq_empty_of_size_eq_zero hz
          rw [Array.filter_eq_empty_iff] at hf
          have := hf e1 (by have := List.mem_of_getElem? b1; simpa using this)
          rw [b3] at this
          simpa using this
      · have hm' : e' ∈ es'.toList ∧ seen.contains e'.born = false := by simpa using hm
        obtain ⟨e, e1, e2, e3, e4⟩ := back hm'.1
        have hfl : flat e.key = true := by have := hall e e1; simp at this; exact this.2
        have hleft : e ∈ leftL es seen := by
          rw [leftL, List.mem_filter]
          exact ⟨e1, by rw [← e3, hm'.2]; rfl⟩
        have hs1 : HSim prot B w1 ι H := by rcases hw1 with rfl | rfl; exact hs; exact hs.drew
        have hb1 : w1.heap[L.blk]? = some (.mapIter (some bm) since seen.toArray c0) := by rcases hw1 with rfl | rfl <;> exact a6
        obtain ⟨k1, k2⟩ := hs1.iter_set (seen2 := seen ++ [e.born]) (c1 := clock) a1 a3 hb1 a5 a4 a7
        refine ⟨.tuple #[.bool true, e'.key, e'.val], _, .tuple #[.bool true, e.key, e.val], _, ι, .inl ?_, k1, k2, (VRel.tuple (a := #[.bool true, e.key, e.val]) (b := #[.bool true, e'.key, e'.val]) rfl fun i u u' hu hu' => ?_ : VRel (tags H) ι _ _).ext k2, hsome e hleft⟩
        · simp [execOp, ho, a2, hrun, Result.andThen, e3]
        · match i, hu, hu' with
          | 0, hu, hu' => simp at hu hu'; subst hu; subst hu'; exact .bool'
          | 1, hu, hu' => simp at hu hu'; subst hu; subst hu'; rw [e2]; exact .flat hfl
          | 2, hu, hu' => simp at hu hu'; subst hu; subst hu'; exact e4
          | i + 3, hu, _ => simp at hu
    · exact h1.elim
  · exact h1.elim
theorem sound_entryAt (hs : HSim prot B w ι H) (he : EnvOk (tags H) ι env a.tmps) {x : Operand} (h : opK (.entryAt (opd x)) env H K) {o : Oper} (ho : o.op = .entry x) :
    RunOut prot B ι H ((execOp a.eval o).run P w) K := by
  obtain ⟨v, h1, h2⟩ := evK_inv he h
  split at h1
  · rename_i k r since seen c0 es clock hit
    obtain ⟨L, bm, es', a1, a2, a3, a4, a5, a6, a7, a8, a9, a10⟩ := iter_inv hs h2 hit
    split at h1
    · rename_i y hy
      unfold entryOf at hy
      split at hy
      · rename_i hcl
        subst hcl
        split at hy
        · rename_i s hls
          split at hy
          · rename_i y' hf
            split at hy
            · rename_i hfl
              cases hy
              obtain ⟨e', b1, b2, b3⟩ := find_stamp a9 a10 y hf
              have hf' : es'.find? (fun e => e.born == s) = some e' := by rw [← Array.find?_toList]; exact b1
              have hbk : seen.toArray.back? = some s := by simpa using hls
              refine .same hs (v := .tuple #[y.key, y.val]) (v' := .tuple #[e'.key, e'.val]) ?_ (.tuple (a := #[y.key, y.val]) (b := #[e'.key, e'.val]) rfl fun i u u' hu hu' => ?_) h1
              · simp only [execOp, ho, a2, Instr.entry, getObj, Sem.run_bind, Sem.run, a6, a8, Result.andThen, hbk, bne_self_eq_false, Bool.false_eq_true, if_false, hf']
                rfl
              · match i, hu, hu' with
                | 0, hu, hu' => simp at hu hu'; subst hu; subst hu'; rw [b2]; exact .flat hfl
                | 1, hu, hu' => simp at hu hu'; subst hu; subst hu'; exact b3
                | i + 2, hu, _ => simp at hu
            · cases hy
          · cases hy
        · cases hy
      · cases hy
    · exact h1.elim
  · exact h1.elim

end
end Go.Am
