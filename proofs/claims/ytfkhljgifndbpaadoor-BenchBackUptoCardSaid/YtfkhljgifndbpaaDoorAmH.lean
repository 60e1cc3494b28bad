/-
  The abstract machine, part H: comparing structs and arrays of integers and bools. For any program.
-/
import Derived.Test.YtfkhljgifndbpaaDoorAmG
namespace Go.Am

theorem sameK_inv {s : List Bool} {l l' : List Value} {K : Bool → Prop} (h : sameK s l l' K) : ∃ t, sameS s l l' = some t ∧ K t := by
  unfold sameK at h
  split at h
  · exact ⟨_, by assumption, h⟩
  · exact h.elim

/-- What the heads of two rows that can be compared are. -/
theorem sameS_cons {c : Bool} {s : List Bool} {l l' : List Value} {t : Bool} (h : sameS (c :: s) l l' = some t) :
    ∃ x y m m', l = x :: m ∧ l' = y :: m' ∧ ((c = false ∧ ∃ k a b, x = .int k a ∧ y = .int k b ∧ ∃ u, sameS s m m' = some u ∧ t = ((a == b) && u)) ∨ (c = true ∧ ∃ a b, x = .bool a ∧ y = .bool b ∧ ∃ u, sameS s m m' = some u ∧ t = ((a == b) && u))) := by
  unfold sameS at h
  split at h
  · rename_i heq; cases heq
  · rename_i s1 k a l1 k' b l2 e0
    cases e0
    by_cases hk : k = k'
    · subst hk
      rw [if_pos rfl] at h
      cases hs : sameS s l1 l2 with
      | none => simp [hs] at h
      | some u => simp [hs] at h; exact ⟨_, _, _, _, rfl, rfl, .inl ⟨rfl, k, a, b, rfl, rfl, u, hs, h.symm⟩⟩
    · rw [if_neg hk] at h; cases h
  · rename_i s1 a l1 b l2 e0
    cases e0
    cases hs : sameS s l1 l2 with
    | none => simp [hs] at h
    | some u => simp [hs] at h; exact ⟨_, _, _, _, rfl, rfl, .inr ⟨rfl, a, b, rfl, rfl, u, hs, h.symm⟩⟩
  · cases h

theorem sameS_nil {l l' : List Value} {t : Bool} (h : sameS [] l l' = some t) : l = [] ∧ l' = [] ∧ t = true := by
  unfold sameS at h
  split at h <;> first | (cases h; exact ⟨rfl, rfl, rfl⟩) | (rename_i heq; cases heq; done) | (cases h; done)

theorem sameS_len : ∀ {s : List Bool} {l l' : List Value} {t : Bool}, sameS s l l' = some t → l.length = s.length ∧ l'.length = s.length
  | [], l, l', t, h => by obtain ⟨rfl, rfl, _⟩ := sameS_nil h; exact ⟨rfl, rfl⟩
  | c :: s, l, l', t, h => by
    obtain ⟨x, y, m, m', rfl, rfl, hc⟩ := sameS_cons h
    rcases hc with ⟨_, _, _, _, _, _, u, hu, _⟩ | ⟨_, _, _, _, _, u, hu, _⟩ <;> (have := sameS_len hu; simp [this.1, this.2])

theorem sameS_plain {T : List Tag} {ι : Inj} : ∀ {s : List Bool} {l l' : List Value} {t : Bool}, sameS s l l' = some t → ∀ {m m' : List Value}, VRels T ι l m → VRels T ι l' m' → m = l ∧ m' = l'
  | [], l, l', t, h, m, m', h1, h2 => by obtain ⟨rfl, rfl, _⟩ := sameS_nil h; exact ⟨h1.unnil, h2.unnil⟩
  | c :: s, l, l', t, h, m, m', h1, h2 => by
    obtain ⟨x, y, n, n', rfl, rfl, hc⟩ := sameS_cons h
    obtain ⟨x', r, rfl, a1, a2⟩ := h1.uncons
    obtain ⟨y', r', rfl, b1, b2⟩ := h2.uncons
    rcases hc with ⟨_, _, _, _, rfl, rfl, u, hu, _⟩ | ⟨_, _, _, rfl, rfl, u, hu, _⟩
    · obtain ⟨rfl, rfl⟩ := sameS_plain hu a2 b2
      rw [a1.int_inv, b1.int_inv]; exact ⟨rfl, rfl⟩
    · obtain ⟨rfl, rfl⟩ := sameS_plain hu a2 b2
      rw [a1.bool_inv, b1.bool_inv]; exact ⟨rfl, rfl⟩

theorem sameS_append : ∀ {s s' : List Bool} {l l' : List Value} {t : Bool}, sameS (s ++ s') l l' = some t → ∃ t1 t2, sameS s (l.take s.length) (l'.take s.length) = some t1 ∧ sameS s' (l.drop s.length) (l'.drop s.length) = some t2 ∧ t = (t1 && t2)
  | [], s', l, l', t, h => ⟨true, t, rfl, h, by simp⟩
  | c :: s, s', l, l', t, h => by
    obtain ⟨x, y, m, m', rfl, rfl, hc⟩ := sameS_cons h
    rcases hc with ⟨rfl, k, a, b, rfl, rfl, u, hu, rfl⟩ | ⟨rfl, a, b, rfl, rfl, u, hu, rfl⟩
    · obtain ⟨t1, t2, h1, h2, rfl⟩ := sameS_append hu
      exact ⟨(a == b) && t1, t2, by simp [sameS, h1], by simpa using h2, by simp [Bool.and_assoc]⟩
    · obtain ⟨t1, t2, h1, h2, rfl⟩ := sameS_append hu
      exact ⟨(a == b) && t1, t2, by simp [sameS, h1], by simpa using h2, by simp [Bool.and_assoc]⟩

/-- The value of a type whose cells are these. -/
def ValOf (P : Program) (t : TypeId) (cs : List Value) (v : Value) : Prop :=
  ∃ d, P.underlying t = some d ∧ if aggD d = true then v = .agg cs.toArray else cs = [v]

section
variable {P : Program} (w : World)

theorem part_run {t : TypeId} {i : TypeInfo} (hi : P.info? t = some i) {d : TypeDesc} (hu : P.underlying t = some d) (h1 : aggD d = false → i.size = 1) (cs : List Value) (o : Nat) (hl : o + i.size ≤ cs.length) :
    ∃ v, (part t cs.toArray o).run P w = .ok v w ∧ ValOf P t ((cs.drop o).take i.size) v := by
  by_cases hd : aggD d = true
  · refine ⟨.agg (cs.toArray.extract o (o + i.size)), by simp [part, run_isAgg' hu, hd, run_sizeOf' hi], d, hu, ?_⟩
    rw [if_pos hd]
    congr 1
    apply Array.toList_inj.1
    simp [List.extract_eq_take_drop]
  · have hs := h1 (by simpa using hd)
    have hol : o < cs.length := by omega
    refine ⟨cs[o], by simp [part, run_isAgg' hu, hd, hol], d, hu, ?_⟩
    rw [if_neg hd, hs]
    rw [List.drop_eq_getElem_cons hol]
    rfl

theorem plainType_size {d : Nat} {t : TypeId} (h : plainType P d t = true) : ∃ u i, P.underlying t = some u ∧ P.info? t = some i ∧ (aggD u = false → i.size = 1) ∧ (shapeOf P d t).length = i.size := by
  cases d with
  | zero => simp [plainType] at h
  | succ d =>
    unfold plainType at h
    rw [Bool.and_eq_true] at h
    obtain ⟨h0, h⟩ := h
    rw [decide_eq_true_eq] at h0
    split at h
    · rename_i i hu hi; exact ⟨_, i, hu, hi, fun _ => by simpa using h, by rw [← h0]; simp [Program.cellsOf, hi]⟩
    · rename_i k i hu hi; exact ⟨_, i, hu, hi, fun _ => by simpa using h, by rw [← h0]; simp [Program.cellsOf, hi]⟩
    · rename_i fs i hu hi; exact ⟨_, i, hu, hi, fun h => by simp [aggD] at h, by rw [← h0]; simp [Program.cellsOf, hi]⟩
    · rename_i n e i hu hi; exact ⟨_, i, hu, hi, fun h => by simp [aggD] at h, by rw [← h0]; simp [Program.cellsOf, hi]⟩
    · cases h

theorem fold_none (ok : TypeId → Bool) : ∀ fs : List Field, fs.foldl (fstep P ok) none = none
  | [] => rfl
  | f :: fs => by rw [List.foldl_cons]; exact fold_none ok fs

theorem run_eqFields {d N : Nat} (ih : ∀ t, plainType P d t = true → ∀ (cs ds : List Value) (v u : Value) (i : TypeInfo) (r : Bool), P.info? t = some i → cs.length = i.size → ValOf P t cs v → ValOf P t ds u → sameS (shapeOf P d t) cs ds = some r → (Op.equalIn N t v u).run P w = .ok r w)
    (cs ds : List Value) : ∀ (fs : List Field) (o : Nat) (r : Bool), fs.foldl (fstep P (plainType P d)) (some o) = some cs.length → sameS (fs.map fun f => shapeOf P d f.type).flatten (cs.drop o) (ds.drop o) = some r → cs.length = ds.length →
      (Op.eqFields N cs.toArray ds.toArray fs).run P w = .ok r w
  | [], o, r, h, hs, hl => by
    have h' : o = cs.length := Option.some.inj h
    subst h'
    have : r = true := (sameS_nil hs).2.2
    simp [Op.eqFields, this]
  | f :: fs, o, r, h, hs, hl => by
    rw [List.foldl_cons] at h
    cases hsz : szOf P f.type with
    | none => simp [fstep, hsz, fold_none] at h
    | some s =>
      by_cases hc : f.offset = o ∧ f.name ≠ "_" ∧ plainType P d f.type = true
      · have h' : fs.foldl (fstep P (plainType P d)) (some (o + s)) = some cs.length := by
          simpa [fstep, hsz, hc] using h
        obtain ⟨ho, hn, hp⟩ := hc
        obtain ⟨u, i, hu, hi, h1, h2⟩ := plainType_size hp
        obtain ⟨j, hj, rfl⟩ := szOf_spec hsz
        rw [hi] at hj; cases hj
        -- how far the fold reaches
        have reach : ∀ (fs : List Field) (o m : Nat), fs.foldl (fstep P (plainType P d)) (some o) = some m → o ≤ m := by
          intro fs
          induction fs with
          | nil => intro o m h; simp at h; omega
          | cons g gs ihg =>
            intro o m h
            rw [List.foldl_cons] at h
            cases hg : szOf P g.type with
            | none => simp [fstep, hg, fold_none] at h
            | some s' =>
              by_cases hc' : g.offset = o ∧ g.name ≠ "_" ∧ plainType P d g.type = true
              · have := ihg (o + s') m (by simpa [fstep, hg, hc'] using h); omega
              · have : fstep P (plainType P d) (some o) g = none := by simp only [fstep, hg]; rw [if_neg hc']
                rw [this, fold_none] at h; cases h
        have hos := reach fs _ _ h'
        obtain ⟨v1, p1, q1⟩ := part_run w hi hu h1 cs o (by omega)
        obtain ⟨v2, p2, q2⟩ := part_run w hi hu h1 ds o (by omega)
        rw [List.map_cons, List.flatten_cons] at hs
        obtain ⟨t1, t2, s1, s2, rfl⟩ := sameS_append hs
        rw [h2] at s1 s2
        rw [List.drop_drop, List.drop_drop] at s2
        have e1 := ih f.type hp _ _ v1 v2 i t1 hi (by simp; omega) q1 q2 s1
        have e2 := run_eqFields ih cs ds fs (o + i.size) t2 h' s2 hl
        simp only [Op.eqFields, hn, ne_eq, not_false_eq_true, if_true, Sem.run_bind, ho, p1, p2, e1, Result.andThen_ok]
        cases t1 <;> simp [e2]
      · have : fstep P (plainType P d) (some o) f = none := by simp only [fstep, hsz]; rw [if_neg hc]
        rw [this, fold_none] at h; cases h

/-- The loop over an array's elements. -/
def eqArr (N : Nat) (e : TypeId) (n : Nat) (xs ys : Array Value) : Nat → Nat → Sem Bool
  | 0, _ => pure true
  | m + 1, i => do
    let a ← part e xs (i * n)
    let b ← part e ys (i * n)
    let r ← Op.equalIn N e a b
    if (!r) = true then pure false else eqArr N e n xs ys m (i + 1)

theorem run_equalIn_array (N : Nat) {t e : TypeId} {len : Nat} {i : TypeInfo} (ht : P.underlying t = some (.array len e)) (hi : P.info? e = some i) (xs ys : Array Value) :
    (Op.equalIn (N + 1) t (.agg xs) (.agg ys)).run P w = (eqArr N e i.size xs ys len 0).run P w := by
  simp only [Op.equalIn, Sem.run_bind, run_underlying ht, Result.andThen_ok, run_sizeOf' hi]
  rw [Std.Legacy.Range.forIn_eq_forIn_range']
  simp only [Std.Legacy.Range.size, Nat.sub_zero, Nat.add_sub_cancel, Nat.div_one]
  generalize 0 = k
  clear ht
  induction len generalizing k w with
  | zero => simp [eqArr]
  | succ m ih =>
    rw [List.range'_succ, List.forIn_cons]
    simp only [eqArr, Sem.run_bind]
    generalize (part e xs (k * i.size)).run P w = r1
    cases r1 with
    | halt h w1 => simp
    | ok a1 w1 =>
      simp only [Result.andThen_ok]
      generalize (part e ys (k * i.size)).run P w1 = r2
      cases r2 with
      | halt h w2 => simp
      | ok a2 w2 =>
        simp only [Result.andThen_ok]
        generalize (Op.equalIn N e a1 a2).run P w2 = r3
        cases r3 with
        | halt h w3 => simp
        | ok b w3 =>
          cases b with
          | false => simp
          | true => simpa using ih w3 (k + 1)

theorem run_eqArr {d N : Nat} {e : TypeId} {j : TypeInfo} (hj : P.info? e = some j) (hp : plainType P d e = true)
    (ih : ∀ (cs ds : List Value) (v u : Value) (r : Bool), cs.length = j.size → ValOf P e cs v → ValOf P e ds u → sameS (shapeOf P d e) cs ds = some r → (Op.equalIn N e v u).run P w = .ok r w)
    (cs ds : List Value) (hl : cs.length = ds.length) : ∀ (m k : Nat) (r : Bool), (k + m) * j.size = cs.length → sameS (List.replicate m (shapeOf P d e)).flatten (cs.drop (k * j.size)) (ds.drop (k * j.size)) = some r → (eqArr N e j.size cs.toArray ds.toArray m k).run P w = .ok r w
  | 0, k, r, h, hs => by
    have : r = true := (sameS_nil (by simpa using hs)).2.2
    simp [eqArr, this]
  | m + 1, k, r, h, hs => by
    obtain ⟨u, i, hu, hi, h1, h2⟩ := plainType_size hp
    rw [hj] at hi; cases hi
    have hk : k * j.size + j.size ≤ cs.length := by
      rw [← h, ← Nat.succ_mul]
      exact Nat.mul_le_mul_right _ (by omega)
    obtain ⟨v1, p1, q1⟩ := part_run w hj hu h1 cs (k * j.size) hk
    obtain ⟨v2, p2, q2⟩ := part_run w hj hu h1 ds (k * j.size) (by omega)
    rw [List.replicate_succ, List.flatten_cons] at hs
    obtain ⟨t1, t2, s1, s2, rfl⟩ := sameS_append hs
    rw [h2] at s1 s2
    rw [List.drop_drop, List.drop_drop, ← Nat.succ_mul] at s2
    have e1 := ih _ _ v1 v2 t1 (by simp; omega) q1 q2 s1
    have e2 := run_eqArr hj hp ih cs ds hl m (k + 1) t2 (by rw [← h]; congr 1; omega) s2
    simp only [eqArr, Sem.run_bind, p1, p2, e1, Result.andThen_ok]
    cases t1 <;> simp [e2]

/-- Values of a type that is compared cell by cell. -/
theorem run_equalIn_plain : ∀ (d N : Nat), d ≤ N → ∀ t, plainType P d t = true → ∀ (cs ds : List Value) (v u : Value) (i : TypeInfo) (r : Bool), P.info? t = some i → cs.length = i.size → ValOf P t cs v → ValOf P t ds u → sameS (shapeOf P d t) cs ds = some r →
    (Op.equalIn N t v u).run P w = .ok r w
  | 0, _, _, t, h, _, _, _, _, _, _, _, _, _, _, _ => by simp [plainType] at h
  | d + 1, 0, hN, _, _, _, _, _, _, _, _, _, _, _, _, _ => by omega
  | d + 1, N + 1, hN, t, h, cs, ds, v, u, i, r, hi, hl, ⟨dv, hdv, hv⟩, ⟨du, hdu, hu⟩, hs => by
    have hlen : cs.length = ds.length := (sameS_len hs).1.trans (sameS_len hs).2.symm
    unfold plainType at h
    rw [Bool.and_eq_true] at h
    obtain ⟨h0, h⟩ := h
    unfold shapeOf at hs
    split at h
    · rename_i i' ht hi'
      rw [ht] at hdv hdu; cases hdv; cases hdu
      simp only [aggD, Bool.false_eq_true, if_false] at hv hu
      subst hv; subst hu
      rw [ht] at hs
      obtain ⟨x, y, m, m', e1, e2, hc⟩ := sameS_cons hs
      rcases hc with ⟨hf, _⟩ | ⟨_, a, b, rfl, rfl, t', ht', rfl⟩
      · cases hf
      · cases e1; cases e2
        have : t' = true := (sameS_nil ht').2.2
        subst this
        simpa using run_equalIn_bool' (P := P) w N t a b ht
    · rename_i k' i' ht hi'
      rw [ht] at hdv hdu; cases hdv; cases hdu
      simp only [aggD, Bool.false_eq_true, if_false] at hv hu
      subst hv; subst hu
      rw [ht] at hs
      obtain ⟨x, y, m, m', e1, e2, hc⟩ := sameS_cons hs
      rcases hc with ⟨_, k, a, b, rfl, rfl, t', ht', rfl⟩ | ⟨hf, _⟩
      · cases e1; cases e2
        have : t' = true := (sameS_nil ht').2.2
        subst this
        simpa using run_equalIn_int (P := P) w N t _ k' a b ht
      · cases hf
    · rename_i fs i' ht hi'
      rw [hi] at hi'; cases hi'
      rw [ht] at hdv hdu; cases hdv; cases hdu
      simp only [aggD, if_true] at hv hu
      subst hv; subst hu
      simp only [Bool.and_eq_true, Bool.not_eq_true', decide_eq_true_eq] at h
      have hf : P.fieldsOf t = fs := by simp [Program.fieldsOf, ht]
      rw [run_equalIn_agg (P := P) w N t _ _ (by rw [hf]; exact ht) h.1, hf]
      exact run_eqFields w (fun t' hp cs' ds' v' u' i' r' => run_equalIn_plain d N (by omega) t' hp cs' ds' v' u' i' r') cs ds fs.toList 0 r (by rw [h.2, hl]) (by rw [ht] at hs; simpa using hs) hlen
    · rename_i n e i' ht hi'
      rw [hi] at hi'; cases hi'
      rw [ht] at hdv hdu; cases hdv; cases hdu
      simp only [aggD, if_true] at hv hu
      subst hv; subst hu
      simp only [Bool.and_eq_true, decide_eq_true_eq] at h
      obtain ⟨hp, hsz⟩ := h
      cases he : szOf P e with
      | none => simp [he] at hsz
      | some s =>
        obtain ⟨j, hj, rfl⟩ := szOf_spec he
        rw [run_equalIn_array w N ht hj]
        exact run_eqArr w hj hp (fun cs' ds' v' u' r' => run_equalIn_plain d N (by omega) e hp cs' ds' v' u' j r' hj) cs ds hlen n 0 r (by simp [he] at hsz; rw [hl, ← hsz]; simp) (by rw [ht] at hs; simpa using hs)
    · cases h

end
end Go.Am
