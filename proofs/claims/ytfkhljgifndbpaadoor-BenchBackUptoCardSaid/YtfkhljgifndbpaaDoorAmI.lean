/-
  The abstract machine, part I: the operations are sound, one by one (3). For any program.
-/
import Derived.Test.YtfkhljgifndbpaaDoorAmH
import Derived.Laws.MakeOwn
namespace Go.Am

section
variable {P : Program} {prot : Nat → Prop} {B w : World} {ι : Inj} {H : Heap} {env : Env} {a : Act} {K : Value → Heap → Prop}

theorem sound_eqA (hs : HSim prot B w ι H) (he : EnvOk (tags H) ι env a.tmps) {neg : Bool} {x y : Operand} {xt yt : TypeId} (hp : plainType P 20 xt = true) (hg : P.eqGuardType P.depth xt = false) (hagg : ∃ u, P.underlying xt = some u ∧ aggD u = true)
    (h : opK (.eqA neg (shapeOf P 20 xt) (opd x) (opd y)) env H K) {o : Oper}
    (ho : o.op = .binOp (if neg then .neq else .eql) xt x y yt) : RunOut prot B ι H ((execOp a.eval o).run P w) K := by
  obtain ⟨v, h1, h2⟩ := evK_inv he h
  obtain ⟨u, h3, h4⟩ := evK_inv he h1
  obtain ⟨cs, cs', rfl, e1, h5, h6, _⟩ := aggK_inv h3 h2
  obtain ⟨ds, ds', rfl, e2, h7, h8, _⟩ := aggK_inv h5 h4
  obtain ⟨t, ht, hk⟩ := sameK_inv h7
  obtain ⟨f1, f2⟩ := sameS_plain ht h6 h8
  obtain rfl : cs' = cs := Array.toList_inj.1 f1
  obtain rfl : ds' = ds := Array.toList_inj.1 f2
  obtain ⟨ud, hud, had⟩ := hagg
  obtain ⟨_, i, _, hi, _, hlen⟩ := plainType_size hp
  have heq := run_equalIn_plain (P := P) w 20 10000 (by omega) xt hp cs'.toList ds'.toList (.agg cs') (.agg ds') i t hi (by rw [(sameS_len ht).1, hlen]) ⟨ud, hud, by rw [if_pos had]⟩ ⟨ud, hud, by rw [if_pos had]⟩ ht
  refine .same hs ?_ .bool' hk
  cases neg <;> simp [execOp, ho, e1, e2, run_eqGuard_agg (P := P) w _ xt x y cs' ds' hg, run_eql_struct, run_neq_struct, heq]

theorem wr_fold : ∀ (l : List Value) (arr : Array Value) (off k : Nat), ((l.zipIdx k).foldl (fun cs (x : Value × Nat) => cs.setIfInBounds (off + x.2) x.1) arr).toList = wr arr.toList (off + k) l
  | [], arr, off, k => by simp [wr]
  | v :: l, arr, off, k => by
    rw [List.zipIdx_cons, List.foldl_cons, wr_fold l]
    simp [wr, Nat.add_assoc]

theorem VRels.wr {T : List Tag} {cs ds l m : List Value} {o : Nat} (h : VRels T ι cs ds) (h' : VRels T ι l m) (ho : o + l.length ≤ cs.length) : VRels T ι (Am.wr cs o l) (Am.wr ds o m) := by
  refine ⟨by rw [wr_len, wr_len]; exact h.1, fun i v v' hv hv' => ?_⟩
  rw [wr_get _ _ _ _ ho] at hv
  rw [wr_get _ _ _ _ (by rw [← h'.1, ← h.1]; exact ho)] at hv'
  by_cases hi : o ≤ i ∧ i < o + l.length
  · rw [if_pos hi] at hv
    rw [if_pos (by rw [← h'.1]; exact hi)] at hv'
    exact h'.2 _ v v' hv hv'
  · rw [if_neg hi] at hv
    rw [if_neg (by rw [← h'.1]; exact hi)] at hv'
    exact h.2 _ v v' hv hv'

theorem one_wr {cs l : List Value} {o : Nat} (h : ∀ v ∈ cs, v.oneCell' = true) (h' : ∀ v ∈ l, v.oneCell' = true) (ho : o + l.length ≤ cs.length) : ∀ v ∈ Am.wr cs o l, v.oneCell' = true := by
  intro v hv
  obtain ⟨i, hi⟩ := List.getElem?_of_mem hv
  rw [wr_get _ _ _ _ ho] at hi
  split at hi
  · exact h' v (List.mem_of_getElem? hi)
  · exact h v (List.mem_of_getElem? hi)

theorem fillK_inv (he : EnvOk (tags H) ι env a.tmps) {pl : Nat → Option (Nat × Nat)} : ∀ {parts : List (Nat × Operand)} {ps : List (Nat × Nat × AOpd)} {cs : List Value} {arr : Array Value} {K : List Value → Prop},
    partsOf pl parts = some ps → fillK env cs ps K → VRels (tags H) ι cs arr.toList → (∀ v ∈ cs, v.oneCell' = true) →
      ∃ cs' arr', Instr.fill pl arr (parts.map fun (i, x) => (i, a.eval x)) = some arr' ∧ VRels (tags H) ι cs' arr'.toList ∧ (∀ v ∈ cs', v.oneCell' = true) ∧ cs'.length = cs.length ∧ K cs'
  | [], ps, cs, arr, K, hp, h, hr, h1 => by
    simp [partsOf] at hp; subst hp
    exact ⟨cs, arr, rfl, hr, h1, rfl, h⟩
  | (i, x) :: r, ps, cs, arr, K, hp, h, hr, h1 => by
    unfold partsOf at hp
    split at hp
    · rename_i o s l hpl hl
      cases hp
      obtain ⟨v, h2, h3⟩ := evK_inv he h
      obtain ⟨m, h4, h5, h6⟩ := cellsK_inv h2 h3
      by_cases hc : m.length = s ∧ o + s ≤ cs.length
      · rw [if_pos hc] at h4
        obtain ⟨rfl, hos⟩ := hc
        have hw : ((a.eval x).cells.zipIdx.foldl (fun cs (x : Value × Nat) => cs.setIfInBounds (o + x.2) x.1) arr).toList = Am.wr arr.toList o (a.eval x).cells.toList := by
          have := wr_fold (a.eval x).cells.toList arr o 0
          rw [Nat.add_zero] at this
          rw [← this, ← Array.foldl_toList, Array.toList_zipIdx]
        obtain ⟨cs', arr', f1, f2, f3, f4, f5⟩ := fillK_inv (arr := (a.eval x).cells.zipIdx.foldl (fun cs (x : Value × Nat) => cs.setIfInBounds (o + x.2) x.1) arr) he hl h4 (by rw [hw]; exact hr.wr h5 hos) (one_wr h1 h6 hos)
        refine ⟨cs', arr', ?_, f2, f3, by rw [f4, wr_len], f5⟩
        have hcs : (a.eval x).cells.size = m.length := by have := h5.1; simp at this; exact this.symm
        have har : arr.size = cs.length := by have := hr.1; simp at this; exact this.symm
        simp only [List.map_cons, Instr.fill, hpl, hcs, har]
        rw [if_neg (by simp; omega)]
        exact f1
      · rw [if_neg hc] at h4; exact h4.elim
    · cases hp

theorem VRels.flat {T : List Tag} {l : List Value} (h : l.all flat = true) : VRels T ι l l :=
  ⟨rfl, fun i v v' hv hv' => by rw [hv] at hv'; cases hv'; exact .flat (flats h hv)⟩

theorem one_flat {l : List Value} (h : l.all flat = true) : ∀ v ∈ l, v.oneCell' = true := fun v hv => by
  rw [List.all_eq_true] at h; exact flat_one (h v hv)

theorem sound_build (hs : HSim prot B w ι H) (he : EnvOk (tags H) ι env a.tmps) {t : TypeId} {z : List Value} {pl : Nat → Option (Nat × Nat)} {parts : Array (Nat × Operand)} {ps : List (Nat × Nat × AOpd)} (hz : zeroOf P t = some z) (hpl : placesOf P t = some pl)
    (hps : partsOf pl parts.toList = some ps) (h : opK (.build z ps) env H K) {o : Oper} (ho : o.op = .build t parts) : RunOut prot B ι H ((execOp a.eval o).run P w) K := by
  obtain ⟨it, zv, hi, hzv, rfl, hf⟩ := zeroOf_spec hz
  obtain ⟨cs, arr, f1, f2, f3, f4, f5⟩ := fillK_inv (arr := zv.cells) he hps h (.flat hf) (one_flat hf)
  have hb : P.built t ((parts.map fun (x : Nat × Operand) => (x.1, a.eval x.2)).toList) = some arr := by
    rw [Array.toList_map]
    unfold placesOf at hpl
    unfold Program.built
    cases hu : P.underlying t with
    | none => simp [hu] at hpl
    | some d =>
      cases d <;> try (simp [hu] at hpl; done)
      case array n e =>
        cases hie : P.info? e with
        | none => simp [hu, hie] at hpl
        | some ie =>
          simp [hu, hie] at hpl
          subst hpl
          simp only [hi, hzv, hie]
          exact f1
      case struct fs =>
        cases hm : fs.toList.mapM (fun f => (P.info? f.type).map fun i => (f.offset, i.size)) with
        | none => simp [hu, hm] at hpl
        | some places =>
          simp [hu, hm] at hpl
          subst hpl
          simp only [hi, hzv, hm]
          simpa using f1
  refine .same hs (v' := .agg arr) (by simp [execOp, ho, run_build w t _ arr hb]) (.agg ?_ ?_ ?_) f5
  · have := f2.1; simpa using this
  · exact fun i v hv => f3 v (List.mem_of_getElem? (by simpa using hv))
  · exact fun i v v' hv hv' => f2.2 i v v' (by simpa using hv) (by rw [← Array.getElem?_toList] at hv'; exact hv')

theorem flatten_replicate_get (z : List Value) (hz : 0 < z.length) : ∀ (n i : Nat), i < n * z.length → (List.replicate n z).flatten[i]? = z[i % z.length]?
  | 0, i, h => by simp at h
  | n + 1, i, h => by
    rw [List.replicate_succ, List.flatten_cons]
    by_cases hi : i < z.length
    · rw [List.getElem?_append_left hi, Nat.mod_eq_of_lt hi]
    · rw [List.getElem?_append_right (by omega), flatten_replicate_get z hz n _ (by rw [Nat.succ_mul] at h; omega), Nat.mod_eq_sub_mod (a := i) (b := z.length) (by omega)]

theorem madeCells_list (z : Array Value) (n : Nat) (hz : 0 < z.size) : (madeCells z (n * z.size)).toList = (List.replicate n z.toList).flatten := by
  apply List.ext_getElem?
  intro i
  by_cases hi : i < n * z.size
  · rw [flatten_replicate_get _ (by simpa using hz) n i (by simpa using hi)]
    have hm : i % z.size < z.size := Nat.mod_lt _ hz
    simp [madeCells, hi, hm]
  · rw [List.getElem?_eq_none (by rw [Array.length_toList, size_madeCells]; omega), List.getElem?_eq_none (by simp; omega)]

theorem all_replicate {z : List Value} (hz : z.all flat = true) (n : Nat) : (List.replicate n z).flatten.all flat = true := by
  rw [List.all_eq_true] at *
  intro v hv
  rw [List.mem_flatten] at hv
  obtain ⟨l, hl, hv⟩ := hv
  rw [List.mem_replicate] at hl
  exact hz v (hl.2 ▸ hv)

theorem sound_buildSlice (hs : HSim prot B w ι H) (he : EnvOk (tags H) ι env a.tmps) {t e : TypeId} {len s : Nat} {z : List Value} {parts : Array (Nat × Operand)} {ps : List (Nat × Nat × AOpd)} (hu : P.underlying t = some (.slice e)) (hsz : szOf P e = some s) (hz : zeroOf P e = some z)
    (hc : len * s ≤ 16777216 ∧ z.length = s ∧ 0 < s) (hps : partsOf (fun i => some (i * s, s)) parts.toList = some ps) (h : opK (.buildSlice s len (List.replicate len z).flatten ps) env H K) {o : Oper} (ho : o.op = .buildSlice t len parts) :
    RunOut prot B ι H ((execOp a.eval o).run P w) K := by
  obtain ⟨it, zv, hi, hzv, rfl, hf⟩ := zeroOf_spec hz
  obtain ⟨j, hj, rfl⟩ := szOf_spec hsz
  rw [hi] at hj; cases hj
  obtain ⟨c1, c2, c3⟩ := hc
  have hzs : zv.cells.size = it.size := by simpa using c2
  have hm := madeCells_list zv.cells len (by omega)
  rw [hzs] at hm
  obtain ⟨cs, arr, f1, f2, f3, f4, f5⟩ := fillK_inv (arr := madeCells zv.cells (len * it.size)) he hps h (by rw [hm]; exact .flat (all_replicate hf len)) (one_flat (all_replicate hf len))
  obtain ⟨k1, k2⟩ := hs.row_new arr e it.size cs (by have := f2.1; simp at this; omega) (fun i v hv => by
    have hil : i < arr.toList.length := by rw [← f2.1]; exact (List.getElem?_eq_some_iff.1 hv).1
    exact ⟨f3 v (List.mem_of_getElem? hv), arr.toList[i], by rw [← Array.getElem?_toList]; exact List.getElem?_eq_getElem hil, f2.2 i v _ hv (List.getElem?_eq_getElem hil)⟩)
  refine ⟨.slice (some ⟨w.heap.size, 0, none⟩) len len, _, _, _, _, .inl ?_, k1, k2, VRel.new_slice hs (Nat.le_refl _) (.inl rfl), f5⟩
  have n1 : ¬ (16777216 < len * it.size) := by omega
  have hfill : Instr.fill (fun i => some (i * it.size, it.size)) (madeCells zv.cells (len * it.size)) (List.map (fun x => (x.1, a.eval x.2)) parts.toList) = some arr := f1
  have hfill2 : ∀ c : Array Value, c = zv.cells ∨ len * it.size = 0 → Instr.fill (fun i => some (i * it.size, it.size)) (Array.map (fun x => c[x % c.size]!) (Array.range (len * it.size))) (List.map (fun x => (x.1, a.eval x.2)) parts.toList) = some arr := by
    intro c hc
    rcases hc with rfl | hc
    · exact hfill
    · rw [hc] at hfill ⊢; simpa [madeCells, Array.range_zero'] using hfill
  by_cases h0 : len * it.size = 0
  · have := hfill2 #[] (.inr h0)
    simp [execOp, ho, Instr.buildSlice, run_underlying hu, run_sizeOf' hi, h0] at this ⊢
    simp [this, newRow]
  · have := hfill2 zv.cells (.inl rfl)
    simp [execOp, ho, Instr.buildSlice, run_underlying hu, run_sizeOf' hi, h0, n1, zeroValue, typeInfo, hi, hzv] at this ⊢
    simp [this, newRow]

theorem sound_makeSlice (hs : HSim prot B w ι H) (he : EnvOk (tags H) ι env a.tmps) {t e : TypeId} {i : TypeInfo} {z : List Value} {x y : Operand} (hu : P.underlying t = some (.slice e)) (hi : P.info? e = some i) (hz : zeroOf P e = some z) (hc : z.length = i.size ∧ 0 < i.size)
    (h : opK (.makeSlice i.size i.bytes z (opd x) (opd y)) env H K) {o : Oper} (ho : o.op = .makeSlice t x y) : RunOut prot B ι H ((execOp a.eval o).run P w) K := by
  obtain ⟨it, zv, hi', hzv, rfl, hf⟩ := zeroOf_spec hz
  rw [hi] at hi'; cases hi'
  obtain ⟨v, h1, h2⟩ := evK_inv he h
  obtain ⟨u, h3, h4⟩ := evK_inv he h1
  obtain ⟨k, l, rfl, e1, h5⟩ := intK_inv h3 h2
  obtain ⟨k', c, rfl, e2, h6⟩ := intK_inv h5 h4
  by_cases hb : 0 ≤ l ∧ l ≤ c ∧ c * i.bytes ≤ 281474976710656 ∧ c < 9223372036854775808
  · rw [if_pos hb] at h6
    obtain ⟨b1, b2, b3, b4⟩ := hb
    have hzs : zv.cells.size = i.size := by simpa using hc.1
    have hm := madeCells_list zv.cells c.toNat (by omega)
    rw [hzs] at hm
    have hrun := run_make (P := P) w t e i zv hu hi hzv k k' l c b1 b2 (by rw [Int.mul_comm]; exact b3) (by omega)
    obtain ⟨k1, k2⟩ := hs.row_new (madeCells zv.cells (c.toNat * i.size)) e i.size (List.replicate c.toNat zv.cells.toList).flatten (by rw [size_madeCells]; simp [hzs]) (fun j v hv => by
      have hfl := flats (all_replicate hf c.toNat) hv
      exact ⟨flat_one hfl, v, by rw [← Array.getElem?_toList, hm]; exact hv, .flat hfl⟩)
    exact ⟨_, _, _, _, _, .inl (by simp [execOp, ho, e1, e2, hrun]), k1, k2, VRel.new_slice hs (Nat.le_refl _) (.inl rfl), h6⟩
  · rw [if_neg hb] at h6; exact h6.elim

theorem minmaxK_inv {max : Bool} : ∀ {l l' : List Value} {v v' : Value} {K : Value → Prop}, minmaxK max v l K → VRel (tags H) ι v v' → VRels (tags H) ι l l' →
    ∃ u, VRel (tags H) ι u u ∧ K u ∧ (l'.foldlM (if max then Builtin.max2 else Builtin.min2) v').run P w = .ok u w ∨ (l = [] ∧ K v)
  | [], l', v, v', K, h, hv, hr => ⟨v, .inr ⟨rfl, h⟩⟩
  | x :: l, l', v, v', K, h, hv, hr => by
    unfold minmaxK at h
    obtain ⟨k, m, rfl, rfl, h1⟩ := intK_inv h hv
    obtain ⟨x', r, rfl, a1, a2⟩ := hr.uncons
    obtain ⟨k', n, rfl, rfl, h2⟩ := intK_inv h1 a1
    rcases minmaxK_inv h2 .int' a2 with ⟨u, ⟨b1, b2, b3⟩ | ⟨rfl, b⟩⟩
    · refine ⟨u, .inl ⟨b1, b2, ?_⟩⟩
      rw [List.foldlM_cons, Sem.run_bind]
      cases max <;> simpa [Builtin.max2, Builtin.min2] using b3
    · refine ⟨_, .inl ⟨.int', b, ?_⟩⟩
      rw [a2.unnil, List.foldlM_cons, Sem.run_bind]
      cases max <;> simp [Builtin.max2, Builtin.min2]

theorem sound_minmax (hs : HSim prot B w ι H) (he : EnvOk (tags H) ι env a.tmps) {max : Bool} {c : Call} (h : opK (.minmax max (c.args.toList.map opd)) env H K) {o : Oper} (ho : o.op = .call c) (hc : c.callee = .builtin (if max then .max else .min)) :
    RunOut prot B ι H ((execOp a.eval o).run P w) K := by
  obtain ⟨vs, h1, h2⟩ := evsK_inv he h
  cases vs with
  | nil => exact h1.elim
  | cons v l =>
    obtain ⟨v', r, hr, a1, a2⟩ := h2.uncons
    have hrun : (execOp a.eval o).run P w = (((r.foldlM (if max then Builtin.max2 else Builtin.min2) v').run P w).andThen fun v w => .ok (.value v) w) := by
      cases max <;> simp [execOp, ho, resolve, hc, invoke, builtin, Builtin.max_, Builtin.min_] <;> (try (rw [show List.map a.eval c.args.toList = v' :: r from hr])) <;> rfl
    rcases minmaxK_inv (P := P) (w := w) h1 a1 a2 with ⟨u, ⟨b1, b2, b3⟩ | ⟨rfl, b⟩⟩
    · exact .same hs (by rw [hrun, b3]; rfl) b1 b2
    · rw [a2.unnil] at hrun
      exact .same hs (by rw [hrun]; rfl) a1 b

end
end Go.Am
