/-
  The abstract machine, part E: the operations are sound. For any program.
-/
import Derived.Test.YtfkhljgifndbpaaDoorAmD
import Derived.Laws.Append
import Derived.Laws.CopyRow
import Derived.Laws.Tables
import Derived.Laws.Entries
namespace Go.Am

theorem run_sizeOf' {P : Program} {t : TypeId} {i : TypeInfo} (h : P.info? t = some i) (w : World) : (sizeOf t).run P w = .ok i.size w := by simp [sizeOf, typeInfo, h]
def aggD : TypeDesc → Bool
  | .struct _ | .array _ _ => true
  | _ => false
theorem run_isAgg' {P : Program} {t : TypeId} {d : TypeDesc} (h : P.underlying t = some d) (w : World) :
    (isAgg t).run P w = .ok (aggD d) w := by
  simp only [isAgg, Sem.run_bind, run_underlying h, Result.andThen_ok]; cases d <;> rfl

section
variable {P : Program} {prot : Nat → Prop} {B w : World} {ι : Inj} {H : Heap} {env : Env} {a : Act}

/-- What an operation's run must come to. -/
def RunOut (prot : Nat → Prop) (B : World) (ι : Inj) (H : Heap) (r : Result Next) (K : Value → Heap → Prop) : Prop :=
  ∃ v' w' v H' ι', (r = .ok (.value v') w' ∨ (r = .ok .skip w' ∧ v' = undef)) ∧ HSim prot B w' ι' H' ∧ Ext (tags H) ι (tags H') ι' ∧ VRel (tags H') ι' v v' ∧ K v H'

theorem RunOut.same {r : Result Next} {K : Value → Heap → Prop} {v v' : Value} (hs : HSim prot B w ι H) (hr : r = .ok (.value v') w) (hv : VRel (tags H) ι v v') (hk : K v H) : RunOut prot B ι H r K :=
  ⟨v', w, v, H, ι, .inl hr, hs, .refl _ _, hv, hk⟩

theorem VRel.int_inv {T : List Tag} {k : IntKind} {n : Int} {v' : Value} (h : VRel T ι (.int k n) v') : v' = .int k n := by cases h; rfl
theorem VRel.bool_inv {T : List Tag} {b : Bool} {v' : Value} (h : VRel T ι (.bool b) v') : v' = .bool b := by cases h; rfl
theorem VRel.int' {T : List Tag} {k : IntKind} {n : Int} : VRel T ι (.int k n) (.int k n) := .flat rfl
theorem VRel.bool' {T : List Tag} {b : Bool} : VRel T ι (.bool b) (.bool b) := .flat rfl
theorem VRel.undef' {T : List Tag} : VRel T ι (.tuple #[]) undef := .tuple rfl (fun i v v' h => by simp at h)

theorem flat_one {v : Value} (h : flat v = true) : v.oneCell' = true := by cases v <;> first | rfl | simp [flat] at h

theorem VRel.plain {T : List Tag} {v : Value} (h : plain v = true) : VRel T ι v v := by
  cases v with
  | agg cs =>
    simp only [Am.plain, List.all_eq_true] at h
    exact .agg rfl (fun i v hv => flat_one (h v (mem_of_get hv))) (fun i v v' hv hv' => by rw [hv] at hv'; cases hv'; exact .flat (h v (mem_of_get hv)))
  | tuple cs =>
    simp only [Am.plain, List.all_eq_true] at h
    exact .tuple rfl (fun i v v' hv hv' => by rw [hv] at hv'; cases hv'; exact .flat (h v (mem_of_get hv)))
  | _ => exact .flat (by first | exact h | (simp only [Am.plain] at h; exact h))

theorem evK_inv (he : EnvOk (tags H) ι env a.tmps) {x : Operand} {K : Value → Prop} (h : evK env (opd x) K) : ∃ v, K v ∧ VRel (tags H) ι v (a.eval x) := by
  unfold evK ev opd at h
  cases x with
  | tmp t =>
    simp only at h
    cases hg : env.get t with
    | none => simp [hg] at h
    | some v =>
      simp only [hg] at h
      obtain ⟨v', h1, h2⟩ := he t v hg
      exact ⟨v, h, by simpa [Act.eval, Array.getD_eq_getD_getElem?, h1] using h2⟩
  | const v =>
    simp only at h
    by_cases hp : plain v = true
    · rw [if_pos hp] at h
      exact ⟨v, h, .plain hp⟩
    · rw [if_neg hp] at h
      exact h.elim
  | global g => exact h.elim
  | func f => exact ⟨_, h, .func rfl rfl (fun i v v' h => by simp at h) (fun i v v' h => by simp at h)⟩

theorem evsK_inv (he : EnvOk (tags H) ι env a.tmps) : ∀ {l : List Operand} {K : List Value → Prop}, evsK env (l.map opd) K → ∃ vs, K vs ∧ VRels (tags H) ι vs (l.map a.eval)
  | [], K, h => ⟨[], h, .nil⟩
  | x :: l, K, h => by
    obtain ⟨v, h1, h2⟩ := evK_inv he h
    obtain ⟨vs, h3, h4⟩ := evsK_inv he h1
    exact ⟨v :: vs, h3, .cons h2 h4⟩

theorem evoK_inv (he : EnvOk (tags H) ι env a.tmps) {x : Option Operand} {K : Option Value → Prop} (h : evoK env (oopt x) K) :
    ∃ v, K v ∧ ((x = none ∧ v = none) ∨ ∃ y u, x = some y ∧ v = some u ∧ VRel (tags H) ι u (a.eval y)) := by
  cases x with
  | none => exact ⟨none, h, .inl ⟨rfl, rfl⟩⟩
  | some y =>
    obtain ⟨v, h1, h2⟩ := evK_inv he (x := y) h
    exact ⟨some v, h1, .inr ⟨y, v, rfl, rfl, h2⟩⟩

theorem intK_inv {v v' : Value} {K : IntKind → Int → Prop} (h : intK v K) (hv : VRel (tags H) ι v v') : ∃ k n, v = .int k n ∧ v' = .int k n ∧ K k n := by
  cases v <;> first | exact h.elim | skip
  rename_i k n
  exact ⟨k, n, rfl, hv.int_inv, h⟩
theorem boolK_inv {v v' : Value} {K : Bool → Prop} (h : boolK v K) (hv : VRel (tags H) ι v v') : ∃ b, v = .bool b ∧ v' = .bool b ∧ K b := by
  cases v <;> first | exact h.elim | skip
  rename_i b
  exact ⟨b, rfl, hv.bool_inv, h⟩
theorem ptrK_inv {v : Value} {K : Addr → Prop} (h : ptrK v K) : ∃ p, v = .pointer (some p) ∧ K p := by
  cases v <;> first | exact h.elim | skip
  rename_i p
  cases p with
  | none => exact h.elim
  | some p => exact ⟨p, rfl, h⟩
theorem aggK_inv {v v' : Value} {K : List Value → Prop} (h : aggK v K) (hv : VRel (tags H) ι v v') : ∃ cs cs', v = .agg cs ∧ v' = .agg cs' ∧ K cs.toList ∧ VRels (tags H) ι cs.toList cs'.toList ∧ (∀ u ∈ cs.toList, u.oneCell' = true) := by
  cases v <;> first | exact h.elim | skip
  rename_i cs
  cases hv with
  | flat h => simp [flat] at h
  | agg hs h1 h2 =>
    refine ⟨cs, _, rfl, rfl, h, ⟨by simpa using hs, fun i u u' hu hu' => h2 i u u' (by simpa using hu) (by simpa using hu')⟩, fun u hu => ?_⟩
    obtain ⟨i, hi⟩ := List.getElem?_of_mem hu
    exact h1 i u (by simpa using hi)

theorem cellsK_inv {v v' : Value} {K : List Value → Prop} (h : cellsK v K) (hv : VRel (tags H) ι v v') : ∃ l, K l ∧ VRels (tags H) ι l v'.cells.toList ∧ (∀ u ∈ l, u.oneCell' = true) := by
  by_cases ha : ∃ cs, v = .agg cs
  · obtain ⟨cs, rfl⟩ := ha
    obtain ⟨_, cs', e, rfl, h1, h2, h3⟩ := aggK_inv (K := K) (show aggK (.agg cs) K from h) hv
    cases e
    exact ⟨_, h1, by simpa [Value.cells] using h2, h3⟩
  · by_cases ht : ∃ cs, v = .tuple cs
    · obtain ⟨cs, rfl⟩ := ht; exact h.elim
    · have h1 : v.oneCell' = true := by cases v <;> first | rfl | exact (ha ⟨_, rfl⟩).elim | exact (ht ⟨_, rfl⟩).elim
      have hk : K [v] := by cases v <;> first | exact h | exact (ha ⟨_, rfl⟩).elim | exact (ht ⟨_, rfl⟩).elim
      have hc : v'.cells.toList = [v'] := by
        have := hv.one
        rw [h1] at this
        cases v' <;> first | rfl | simp [Value.oneCell'] at this
      exact ⟨[v], hk, by rw [hc]; exact .cons hv .nil, by simpa using h1⟩

theorem atK_inv {p : Addr} {K : Nat → Nat → Bool → List Value → Prop} (h : atK H p K) : ∃ g esz ro cs, H[p.block]? = some (.cells g esz ro cs) ∧ p.spot = some (g + 1) ∧ K g esz ro cs := by
  unfold atK at h
  split at h
  · rename_i g esz ro cs hb
    by_cases hs : p.spot = some (g + 1)
    · rw [if_pos hs] at h; exact ⟨g, esz, ro, cs, hb, hs, h⟩
    · rw [if_neg hs] at h; exact h.elim
  · exact h.elim

theorem tag_at {k g esz : Nat} {ro : Bool} {cs : List Value} (h : H[k]? = some (.cells g esz ro cs)) : (tags H)[k]? = some ⟨g, esz, ro⟩ := by simp [tags, h, AObj.tag]

theorem ptr_inv {p : Addr} {v' : Value} {g esz : Nat} {ro : Bool} {cs : List Value} (hv : VRel (tags H) ι (.pointer (some p)) v') (hb : H[p.block]? = some (.cells g esz ro cs)) (hs : p.spot = some (g + 1)) :
    ∃ L, ι[p.block]? = some (some L) ∧ v' = .pointer (some ⟨L.blk, L.off + p.off, none⟩) := by
  obtain ⟨k, o, s⟩ := p
  simp only at hb hs
  subst hs
  have ht := tag_at hb
  cases hv with
  | flat h => simp [flat] at h
  | ptr a b c => exact ⟨_, c, rfl⟩
  | staleP a b c => rw [ht] at a; cases a; simp at b

theorem ptr_mk {p : Addr} {g esz : Nat} {ro : Bool} {cs : List Value} {L : Loc} (hb : H[p.block]? = some (.cells g esz ro cs)) (hs : p.spot = some (g + 1)) (hl : ι[p.block]? = some (some L)) (d : Nat) :
    VRel (tags H) ι (.pointer (some ⟨p.block, p.off + d, p.spot⟩)) (.pointer (some ((⟨L.blk, L.off + p.off, none⟩ : Addr).add d))) := by
  obtain ⟨k, o, s⟩ := p
  simp only at hb hs hl ⊢
  subst hs
  have e : (⟨L.blk, L.off + o, none⟩ : Addr).add d = ⟨L.blk, L.off + (o + d), none⟩ := by
    unfold Addr.add; split <;> simp_all [Nat.add_assoc]
  rw [e]
  exact .ptr (t := ⟨g, esz, ro⟩) (tag_at hb) rfl hl

theorem sliceK_inv {v v' : Value} {Kn : Prop} {K : Addr → Nat → Nat → Nat → Nat → Bool → List Value → Prop} (h : sliceK H v Kn K) (hv : VRel (tags H) ι v v') :
    (v = .slice none 0 0 ∧ v' = .slice none 0 0 ∧ Kn) ∨ ∃ p n c g esz ro cs, v = .slice (some p) n c ∧ H[p.block]? = some (.cells g esz ro cs) ∧ p.spot = some (g + 1) ∧ K p n c g esz ro cs ∧
      ((∃ L c', ι[p.block]? = some (some L) ∧ v' = .slice (some ⟨L.blk, L.off + p.off, none⟩) n c' ∧ c ≤ c' ∧ (c' = c ∨ (ro = false ∧ p.off + c' * esz ≤ L.room ∧ c' ≤ 9223372036854775807))) ∨
       (n = 0 ∧ c = 0 ∧ ∃ x, v' = .slice x 0 0)) := by
  unfold sliceK at h
  split at h
  · cases hv with
    | flat _ => exact .inl ⟨rfl, rfl, h⟩
  · rename_i p n c
    obtain ⟨g, esz, ro, cs, hb, hs, hk⟩ := atK_inv h
    refine .inr ⟨p, n, c, g, esz, ro, cs, rfl, hb, hs, hk, ?_⟩
    obtain ⟨k, o, s⟩ := p
    simp only at hb hs
    subst hs
    have ht := tag_at hb
    cases hv with
    | flat h => simp [flat] at h
    | slice a b c d e =>
      rw [ht] at a; cases a
      exact .inl ⟨_, _, c, rfl, d, e⟩
    | empty a b => exact .inr ⟨rfl, rfl, _, rfl⟩
    | staleS a b c => rw [ht] at a; cases a; simp at b
  · exact h.elim

/-- The real cells of an object. -/
theorem HSim.row (hs : HSim prot B w ι H) {k g esz : Nat} {ro : Bool} {cs : List Value} (hb : H[k]? = some (.cells g esz ro cs)) {L : Loc} (hl : ι[k]? = some (some L)) :
    ∃ rc t fr, w.heap[L.blk]? = some (.cells rc t fr) ∧ rc.size = L.off + L.room ∧ cs.length ≤ L.room ∧
      (∀ (i : Nat) v, cs[i]? = some v → v.oneCell' = true ∧ ∃ v', rc[L.off + i]? = some v' ∧ VRel (tags H) ι v v') ∧ (ro = true → prot L.blk) ∧ (ro = false → ¬ prot L.blk ∧ fr = (0, 0)) := by
  rcases hs.obj k _ hb with ⟨h1, _⟩ | ⟨L', rc, t, fr, h1, h2⟩
  · rw [h1] at hl; cases hl
  · rw [h1] at hl; cases hl; exact ⟨rc, t, fr, h2⟩

theorem add_none (b o n : Nat) : (⟨b, o, none⟩ : Addr).add n = ⟨b, o + n, none⟩ := by unfold Addr.add; split <;> simp_all

/-- Some of an object's cells, as they really read. -/
theorem HSim.read (hs : HSim prot B w ι H) {k g esz : Nat} {ro : Bool} {cs : List Value} (hb : H[k]? = some (.cells g esz ro cs)) {L : Loc} (hl : ι[k]? = some (some L)) (o n : Nat) (hn : o + n ≤ cs.length) :
    ∃ cs', cs'.length = n ∧ VRels (tags H) ι ((cs.drop o).take n) cs' ∧ (∀ (j : Nat) v, cs'[j]? = some v → w.cell? ((⟨L.blk, L.off + o, none⟩ : Addr).add j) = some v) ∧ (∀ v ∈ cs', v.oneCell' = true) := by
  obtain ⟨rc, t, fr, h1, h2, h3, h4, _⟩ := hs.row hb hl
  have hget : ∀ j, j < n → ∃ v', rc[L.off + (o + j)]? = some v' := fun j hj => by
    obtain ⟨_, v', h5, _⟩ := h4 (o + j) _ (List.getElem?_eq_getElem (by omega)); exact ⟨v', h5⟩
  refine ⟨(rc.toList.drop (L.off + o)).take n, by simp; omega, ⟨by simp; omega, fun i v v' hv hv' => ?_⟩, fun j v hv => ?_, fun v hv => ?_⟩
  · have hi : i < n := by have := (List.getElem?_eq_some_iff.1 hv).1; simp at this; omega
    rw [List.getElem?_take_of_lt hi, List.getElem?_drop] at hv hv'
    obtain ⟨_, u, h5, h6⟩ := h4 (o + i) v hv
    rw [show L.off + o + i = L.off + (o + i) by omega, Array.getElem?_toList, h5] at hv'
    cases hv'; exact h6
  · have hj : j < n := by have := (List.getElem?_eq_some_iff.1 hv).1; simp at this; omega
    rw [List.getElem?_take_of_lt hj, List.getElem?_drop] at hv
    rw [add_none]
    simpa [World.cell?, h1] using hv
  · obtain ⟨i, hi⟩ := List.getElem?_of_mem hv
    have hj : i < n := by have := (List.getElem?_eq_some_iff.1 hi).1; simp at this; omega
    rw [List.getElem?_take_of_lt hj, List.getElem?_drop] at hi
    obtain ⟨o1, u, h5, h6⟩ := h4 (o + i) _ (List.getElem?_eq_getElem (by omega))
    rw [show L.off + o + i = L.off + (o + i) by omega, Array.getElem?_toList, h5] at hi
    cases hi; rw [h6.one]; exact o1

theorem ldK_inv {cs : List Value} : ∀ {n o : Nat} {K : List Value → Prop}, ldK cs o n K → o + n ≤ cs.length ∧ K ((cs.drop o).take n) ∨ (n = 0 ∧ K [])
  | 0, o, K, h => .inr ⟨rfl, h⟩
  | n + 1, o, K, h => by
    unfold ldK at h
    cases hv : cs[o]? with
    | none => simp [hv] at h
    | some v =>
      simp only [hv] at h
      have ho : o < cs.length := (List.getElem?_eq_some_iff.1 hv).1
      have hd : cs.drop o = v :: cs.drop (o + 1) := by
        rw [List.drop_eq_getElem_cons ho]; congr 1; exact Option.some.inj (by rw [← hv, List.getElem?_eq_getElem ho])
      rcases ldK_inv h with ⟨h1, h2⟩ | ⟨h1, h2⟩
      · exact .inl ⟨by omega, by rw [hd]; simpa using h2⟩
      · subst h1; exact .inl ⟨by omega, by rw [hd]; simpa using h2⟩

theorem loadK_inv (hs : HSim prot B w ι H) {p : Addr} {v' : Value} {t : TypeId} {agg : Option Nat} (ha : aggOf P t = some agg) {K : Value → Prop} (h : loadK H p agg K) (hv : VRel (tags H) ι (.pointer (some p)) v') :
    ∃ q u u', v' = .pointer (some q) ∧ (loadVar t q).run P w = .ok u' w ∧ VRel (tags H) ι u u' ∧ K u := by
  obtain ⟨g, esz, ro, cs, hb, hsp, hk⟩ := atK_inv h
  obtain ⟨L, hl, rfl⟩ := ptr_inv hv hb hsp
  unfold aggOf at ha
  cases hu : P.underlying t with
  | none => simp [hu] at ha
  | some d =>
    cases hi : P.info? t with
    | none => cases d <;> simp [hu, hi] at ha
    | some i =>
      by_cases hd : aggD d = true
      · have hag : agg = some i.size := by cases d <;> simp [hu, hi, aggD] at ha hd <;> exact ha.symm
        subst hag
        simp only [partK] at hk
        have hget : ∃ cs', cs'.length = i.size ∧ VRels (tags H) ι ((cs.drop p.off).take i.size) cs' ∧ (∀ (j : Nat) v, cs'[j]? = some v → w.cell? ((⟨L.blk, L.off + p.off, none⟩ : Addr).add j) = some v) ∧ K (.agg ((cs.drop p.off).take i.size).toArray) := by
          rcases ldK_inv hk with ⟨h1, h2⟩ | ⟨h1, h2⟩
          · obtain ⟨cs', a1, a2, a3, _⟩ := hs.read hb hl p.off i.size h1
            exact ⟨cs', a1, a2, a3, h2⟩
          · rw [h1]; exact ⟨[], rfl, by simpa using VRels.nil, fun j v hj => by simp at hj, by simpa using h2⟩
        obtain ⟨cs', a1, a2, a3, a4⟩ := hget
        obtain ⟨rc, tt, fr, _, _, _, h4, _⟩ := hs.row hb hl
        refine ⟨_, .agg ((cs.drop p.off).take i.size).toArray, .agg cs'.toArray, rfl, ?_, .agg (by simpa using a2.1) (fun j v hj => ?_) (fun j v v' hj hj' => a2.2 j v v' (by simpa using hj) (by simpa using hj')), a4⟩
        · have hc := run_loadCells_list (P := P) w _ cs' a3
          rw [a1] at hc
          simp only [loadVar, Sem.run_bind, run_isAgg' hu, Result.andThen_ok]
          simp only [hd, if_true, Sem.run_bind, run_sizeOf' hi, Result.andThen_ok, hc, Sem.run_pure]
        · have hj' : ((cs.drop p.off).take i.size)[j]? = some v := by simpa using hj
          have hm := List.mem_of_getElem? hj'
          have hm2 := List.mem_of_mem_take hm
          have hm3 := List.mem_of_mem_drop hm2
          obtain ⟨q, hq⟩ := List.getElem?_of_mem hm3
          exact (h4 q v hq).1
      · have hag : agg = none := by cases d <;> simp [hu, hi, aggD] at ha hd <;> exact ha.symm
        subst hag
        simp only [partK] at hk
        cases hc : cs[p.off]? with
        | none => simp [hc] at hk
        | some v =>
          simp only [hc] at hk
          obtain ⟨rc, tt, fr, h1, h2, h3, h4, _⟩ := hs.row hb hl
          obtain ⟨_, u', h5, h6⟩ := h4 p.off v hc
          refine ⟨_, v, u', rfl, ?_, h6, hk⟩
          have hcell : w.cell? ⟨L.blk, L.off + p.off, none⟩ = some u' := by simpa [World.cell?, h1] using h5
          simp only [loadVar, Sem.run_bind, run_isAgg' hu, Result.andThen_ok]
          simp [hd, hcell]

end
end Go.Am
