/-
  The abstract machine, part G: the operations are sound, one by one (2). For any program.
-/
import Derived.Test.YtfkhljgifndbpaaDoorAmF
import Derived.Laws.StructEq
namespace Go.Am

section
variable {P : Program} {prot : Nat → Prop} {B w : World} {ι : Inj} {H : Heap} {env : Env} {a : Act} {K : Value → Heap → Prop}

theorem zeroOf_spec {t : TypeId} {z : List Value} (h : zeroOf P t = some z) : ∃ i v, P.info? t = some i ∧ i.zero = some v ∧ v.cells.toList = z ∧ z.all flat = true := by
  unfold zeroOf at h
  cases hi : P.info? t with
  | none => simp [hi] at h
  | some i =>
    cases hz : i.zero with
    | none => simp [hi, hz] at h
    | some v =>
      simp only [hi, hz, Option.bind_some] at h
      by_cases hf : v.cells.toList.all flat = true
      · rw [if_pos hf] at h; cases h; exact ⟨i, v, rfl, hz, rfl, hf⟩
      · rw [if_neg hf] at h; cases h

theorem flats {z : List Value} (h : z.all flat = true) {i : Nat} {v : Value} (hv : z[i]? = some v) : flat v = true := by
  rw [List.all_eq_true] at h; exact h v (List.mem_of_getElem? hv)

theorem sound_alloc (hs : HSim prot B w ι H) {t : TypeId} {z : List Value} (hz : zeroOf P t = some z) (h : opK (.alloc z) env H K) {o : Oper} (ho : o.op = .alloc t) :
    RunOut prot B ι H ((execOp a.eval o).run P w) K := by
  obtain ⟨i, v, h1, h2, h3, h4⟩ := zeroOf_spec hz
  obtain ⟨k1, k2⟩ := hs.row_new v.cells t 0 z (by rw [← h3]; simp) (fun j u hu => ⟨flat_one (flats h4 hu), u, by rw [← h3] at hu; simpa using hu, .flat (flats h4 hu)⟩)
  refine ⟨_, _, _, _, _, .inl ?_, k1, k2, VRel.new_ptr hs, h⟩
  simp [execOp, ho, Instr.alloc, zeroValue, typeInfo, h1, h2, newVar, newRow]

theorem sound_box (hs : HSim prot B w ι H) (he : EnvOk (tags H) ι env a.tmps) {t : TypeId} {x : Operand} (h : opK (.box (opd x)) env H K) {o : Oper} (ho : o.op = .box t x) :
    RunOut prot B ι H ((execOp a.eval o).run P w) K := by
  obtain ⟨v, h1, h2⟩ := evK_inv he h
  obtain ⟨l, h3, h4, h5⟩ := cellsK_inv h1 h2
  obtain ⟨k1, k2⟩ := hs.row_new (a.eval x).cells t 0 l (by rw [h4.1]; simp) (fun j u hu => by
    have hj : j < (a.eval x).cells.toList.length := by rw [← h4.1]; exact (List.getElem?_eq_some_iff.1 hu).1
    refine ⟨h5 u (List.mem_of_getElem? hu), (a.eval x).cells.toList[j], ?_, h4.2 j u _ hu (List.getElem?_eq_getElem hj)⟩
    rw [← Array.getElem?_toList]; exact List.getElem?_eq_getElem hj)
  refine ⟨_, _, _, _, _, .inl ?_, k1, k2, VRel.new_ptr hs, h3⟩
  simp [execOp, ho, Instr.box, newVar, newRow]

theorem sound_mov (hs : HSim prot B w ι H) (he : EnvOk (tags H) ι env a.tmps) {x : Operand} (h : opK (.mov (opd x)) env H K) {o : Oper} (ho : o.op = .move x ∨ o.op = .assign x) :
    RunOut prot B ι H ((execOp a.eval o).run P w) K := by
  obtain ⟨v, h1, h2⟩ := evK_inv he h
  refine .same hs ?_ h2 h1
  rcases ho with ho | ho <;> simp [execOp, ho]

theorem sound_pick (hs : HSim prot B w ι H) (he : EnvOk (tags H) ι env a.tmps) {c x y : Operand} (h : opK (.pick (opd c) (opd x) (opd y)) env H K) {o : Oper} (ho : o.op = .pick c x y) :
    RunOut prot B ι H ((execOp a.eval o).run P w) K := by
  obtain ⟨v, h1, h2⟩ := evK_inv he h
  obtain ⟨b, rfl, h3, h4⟩ := boolK_inv h1 h2
  cases b with
  | true =>
    obtain ⟨u, h5, h6⟩ := evK_inv he (show evK env (opd x) (fun v => K v H) by simpa using h4)
    exact .same hs (by simp [execOp, ho, h3, asBool]) h6 h5
  | false =>
    obtain ⟨u, h5, h6⟩ := evK_inv he (show evK env (opd y) (fun v => K v H) by simpa using h4)
    exact .same hs (by simp [execOp, ho, h3, asBool]) h6 h5

theorem sound_load (hs : HSim prot B w ι H) (he : EnvOk (tags H) ι env a.tmps) {t : TypeId} {agg : Option Nat} (ha : aggOf P t = some agg) {x : Operand} (h : opK (.load agg (opd x)) env H K) {o : Oper} (ho : o.op = .load t x) :
    RunOut prot B ι H ((execOp a.eval o).run P w) K := by
  obtain ⟨v, h1, h2⟩ := evK_inv he h
  obtain ⟨p, rfl, h3⟩ := ptrK_inv h1
  obtain ⟨q, u, u', h4, h5, h6, h7⟩ := loadK_inv (P := P) hs ha h3 h2
  exact .same hs (by simp [execOp, ho, h4, Instr.loadAt, Instr.sureAddr, h5]) h6 h7

theorem sound_store (hs : HSim prot B w ι H) (he : EnvOk (tags H) ι env a.tmps) {t : TypeId} {n : Nat} (hn : szOf P t = some n) {x y : Operand} (h : opK (.store n (opd x) (opd y)) env H K) {o : Oper} (ho : o.op = .store t x y) :
    RunOut prot B ι H ((execOp a.eval o).run P w) K := by
  obtain ⟨v, h1, h2⟩ := evK_inv he h
  obtain ⟨u, h3, h4⟩ := evK_inv he h1
  obtain ⟨p, rfl, h5⟩ := ptrK_inv h3
  obtain ⟨l, h6, h7, h8⟩ := cellsK_inv h5 h4
  obtain ⟨g, esz, ro, cs, hb, hsp, hk⟩ := atK_inv h6
  obtain ⟨L, hl, hv⟩ := ptr_inv h2 hb hsp
  by_cases hc : l.length = n ∧ ro = false ∧ p.off + n ≤ cs.length
  · rw [if_pos hc] at hk
    obtain ⟨c1, rfl, c2⟩ := hc
    obtain ⟨w', w1, w2, w3⟩ := hs.write (P := P) hb hl p.off l _ (by omega) h7 h8
    obtain ⟨i, hi⟩ : ∃ i, P.info? t = some i ∧ i.size = n := by
      unfold szOf at hn
      cases hq : P.info? t with
      | none => simp [hq] at hn
      | some i => exact ⟨i, rfl, by simpa [hq] using hn⟩
    have hsz : (a.eval y).cells.size = i.size := by
      have := h7.1; simp at this; omega
    refine ⟨undef, w', .tuple #[], _, ι, .inr ⟨?_, rfl⟩, w2, w3, .undef', hk⟩
    simp [execOp, ho, hv, Instr.storeAt, Instr.sureAddr, storeVar, sizeOf, typeInfo, hi.1, hsz, w1]
  · rw [if_neg hc] at hk; exact hk.elim

theorem sound_nilCheck (hs : HSim prot B w ι H) (he : EnvOk (tags H) ι env a.tmps) {x : Operand} (h : opK (.nilCheck (opd x)) env H K) {o : Oper} (ho : o.op = .nilCheck x) :
    RunOut prot B ι H ((execOp a.eval o).run P w) K := by
  obtain ⟨v, h1, h2⟩ := evK_inv he h
  obtain ⟨p, rfl, h3⟩ := ptrK_inv h1
  obtain ⟨g, esz, ro, cs, hb, hsp, hk⟩ := atK_inv h3
  obtain ⟨L, hl, hv⟩ := ptr_inv h2 hb hsp
  exact .same hs (by simp [execOp, ho, hv]) (hv ▸ h2) hk

theorem run_eqGuard_int (op : BinOp) (t : TypeId) (x y : Operand) (k k' : IntKind) (b c : Int) (w : World) : (eqGuard op t x y (.int k b) (.int k' c)).run P w = .ok () w := by
  unfold eqGuard
  cases op <;> simp
theorem run_eqGuard_bool (op : BinOp) (t : TypeId) (x y : Operand) (b c : Bool) (w : World) : (eqGuard op t x y (.bool b) (.bool c)).run P w = .ok () w := by
  unfold eqGuard
  cases op <;> simp
theorem run_eqGuard_ptr (op : BinOp) (t : TypeId) (x y : Operand) (b c : Option Addr) (w : World) : (eqGuard op t x y (.pointer b) (.pointer c)).run P w = .ok () w := by
  unfold eqGuard
  cases op <;> simp

theorem sound_ibin (hs : HSim prot B w ι H) (he : EnvOk (tags H) ι env a.tmps) {op : BinOp} {x y : Operand} {xt yt : TypeId} (h : opK (.ibin op (opd x) (opd y)) env H K) {o : Oper} (ho : o.op = .binOp op xt x y yt) :
    RunOut prot B ι H ((execOp a.eval o).run P w) K := by
  obtain ⟨v, h1, h2⟩ := evK_inv he h
  obtain ⟨u, h3, h4⟩ := evK_inv he h1
  obtain ⟨k, m, rfl, h5, h6⟩ := intK_inv h3 h2
  obtain ⟨k', n, rfl, h7, h8⟩ := intK_inv h6 h4
  have hrun : (execOp a.eval o).run P w = ((binOp op xt (.int k m) (.int k' n)).run P w).andThen fun v w => .ok (.value v) w := by
    simp [execOp, ho, h5, h7, run_eqGuard_int]
  have fin : ∀ {v : Value}, flat v = true → (binOp op xt (.int k m) (.int k' n)).run P w = .ok v w → K v H → RunOut prot B ι H ((execOp a.eval o).run P w) K := fun hf hr hk => .same hs (by rw [hrun, hr]; rfl) (.flat hf) hk
  unfold ibinK at h8
  by_cases hsh : op = .shl
  · subst hsh
    simp only at h8
    by_cases hn : n < 0
    · rw [if_pos hn] at h8; exact h8.elim
    · rw [if_neg hn] at h8
      exact fin rfl (by simp [binOp, Op.shift, hn, ishl]) h8
  by_cases hsr : op = .shr
  · subst hsr
    simp only at h8
    by_cases hn : n < 0
    · rw [if_pos hn] at h8; exact h8.elim
    · rw [if_neg hn] at h8
      exact fin rfl (by simp [binOp, Op.shift, hn, ishr]) h8
  by_cases hkk : k = k'
  · subst hkk
    cases op with
    | shl => exact (hsh rfl).elim
    | shr => exact (hsr rfl).elim
    | quo =>
      simp only [if_true] at h8
      by_cases hn : n = 0
      · rw [if_pos hn] at h8; exact h8.elim
      · rw [if_neg hn] at h8
        exact fin rfl (by simp [binOp, Op.intDiv, hn, iquo]) h8
    | rem =>
      simp only [if_true] at h8
      by_cases hn : n = 0
      · rw [if_pos hn] at h8; exact h8.elim
      · rw [if_neg hn] at h8
        exact fin rfl (by simp [binOp, Op.intDiv, hn, irem]) h8
    | add => simp only [if_true] at h8; exact fin rfl (by simp [binOp, Op.intArith, iadd]) h8
    | sub => simp only [if_true] at h8; exact fin rfl (by simp [binOp, Op.intArith, isub]) h8
    | mul => simp only [if_true] at h8; exact fin rfl (by simp [binOp, Op.intArith, imul]) h8
    | and => simp only [if_true] at h8; exact fin rfl (by simp [binOp, Op.intBits, iand]) h8
    | or => simp only [if_true] at h8; exact fin rfl (by simp [binOp, Op.intBits, ior]) h8
    | xor => simp only [if_true] at h8; exact fin rfl (by simp [binOp, Op.intBits, ixor]) h8
    | andNot => simp only [if_true] at h8; exact fin rfl (by simp [binOp, Op.intBits, iandn]) h8
    | eql => simp only [if_true] at h8; exact fin rfl (by simp [binOp, Op.intCmp]) h8
    | neq => simp only [if_true] at h8; exact fin rfl (by simp [binOp, Op.intCmp]) h8
    | lss => simp only [if_true] at h8; exact fin rfl (by simp [binOp, Op.intCmp]) h8
    | leq => simp only [if_true] at h8; exact fin rfl (by simp [binOp, Op.intCmp]) h8
    | gtr => simp only [if_true] at h8; exact fin rfl (by simp [binOp, Op.intCmp]) h8
    | geq => simp only [if_true] at h8; exact fin rfl (by simp [binOp, Op.intCmp]) h8
  · exfalso
    cases op <;> simp [hkk] at h8 <;> first | exact hsh rfl | exact hsr rfl

theorem VRel.nil_inv {T : List Tag} {v' : Value} (h : VRel T ι (.pointer none) v') : v' = .pointer none := by cases h; rfl
theorem binOp_eql_bool (t : TypeId) (b c : Bool) : binOp .eql t (.bool b) (.bool c) = (do pure (.bool (← Op.equal t (.bool b) (.bool c)))) := rfl
theorem binOp_neq_bool (t : TypeId) (b c : Bool) : binOp .neq t (.bool b) (.bool c) = (do pure (.bool (!(← Op.equal t (.bool b) (.bool c))))) := rfl
theorem binOp_eql_ptr (t : TypeId) (b c : Option Addr) : binOp .eql t (.pointer b) (.pointer c) = (do pure (.bool (← Op.equal t (.pointer b) (.pointer c)))) := rfl
theorem binOp_neq_ptr (t : TypeId) (b c : Option Addr) : binOp .neq t (.pointer b) (.pointer c) = (do pure (.bool (!(← Op.equal t (.pointer b) (.pointer c))))) := rfl
theorem run_equalIn_ptr1 (w : World) (d : Nat) {t e : TypeId} (ht : P.underlying t = some (.pointer e)) (c : Option Addr) : (Op.equalIn (d + 1) t (.pointer none) (.pointer c)).run P w = .ok c.isNone w := by
  simp [Op.equalIn, run_underlying ht]
theorem run_equalIn_ptr2 (w : World) (d : Nat) {t e : TypeId} (ht : P.underlying t = some (.pointer e)) (c : Addr) : (Op.equalIn (d + 1) t (.pointer (some c)) (.pointer none)).run P w = .ok false w := by
  simp [Op.equalIn, run_underlying ht]

theorem sound_eqB (hs : HSim prot B w ι H) (he : EnvOk (tags H) ι env a.tmps) {neg : Bool} {x y : Operand} {xt yt : TypeId} (ht : P.underlying xt = some .bool) (h : opK (.eqB neg (opd x) (opd y)) env H K) {o : Oper}
    (ho : o.op = .binOp (if neg then .neq else .eql) xt x y yt) : RunOut prot B ι H ((execOp a.eval o).run P w) K := by
  obtain ⟨v, h1, h2⟩ := evK_inv he h
  obtain ⟨u, h3, h4⟩ := evK_inv he h1
  obtain ⟨b, rfl, h5, h6⟩ := boolK_inv h3 h2
  obtain ⟨c, rfl, h7, h8⟩ := boolK_inv h6 h4
  refine .same hs ?_ .bool' h8
  have hq := run_equalIn_bool' (P := P) w 9999 xt b c ht
  cases neg <;> simp [execOp, ho, h5, h7, run_eqGuard_bool, binOp_eql_bool, binOp_neq_bool, Op.equal, Op.maxDepth, hq]

theorem sound_eqP (hs : HSim prot B w ι H) (he : EnvOk (tags H) ι env a.tmps) {neg : Bool} {x y : Operand} {xt yt e : TypeId} (ht : P.underlying xt = some (.pointer e)) (h : opK (.eqP neg (opd x) (opd y)) env H K) {o : Oper}
    (ho : o.op = .binOp (if neg then .neq else .eql) xt x y yt) : RunOut prot B ι H ((execOp a.eval o).run P w) K := by
  obtain ⟨v, h1, h2⟩ := evK_inv he h
  obtain ⟨u, h3, h4⟩ := evK_inv he h1
  split at h3
  · have e1 : a.eval x = .pointer none := h2.nil_inv
    have e2 : a.eval y = .pointer none := h4.nil_inv
    refine .same hs ?_ .bool' h3
    cases neg <;> simp [execOp, ho, e1, e2, run_eqGuard_ptr, binOp_eql_ptr, binOp_neq_ptr, Op.equal, Op.maxDepth, run_equalIn_ptr1 w 9999 ht]
  · obtain ⟨g, esz, ro, cs, hb, hsp, hk⟩ := atK_inv h3
    obtain ⟨L, hl, e1⟩ := ptr_inv h2 hb hsp
    have e2 : a.eval y = .pointer none := h4.nil_inv
    refine .same hs ?_ .bool' hk
    cases neg <;> simp [execOp, ho, e1, e2, run_eqGuard_ptr, binOp_eql_ptr, binOp_neq_ptr, Op.equal, Op.maxDepth, run_equalIn_ptr2 w 9999 ht]
  · obtain ⟨g, esz, ro, cs, hb, hsp, hk⟩ := atK_inv h3
    obtain ⟨L, hl, e2⟩ := ptr_inv h4 hb hsp
    have e1 : a.eval x = .pointer none := h2.nil_inv
    refine .same hs ?_ .bool' hk
    cases neg <;> simp [execOp, ho, e1, e2, run_eqGuard_ptr, binOp_eql_ptr, binOp_neq_ptr, Op.equal, Op.maxDepth, run_equalIn_ptr1 w 9999 ht]
  · exact h3.elim

theorem VRel.nilS_inv {T : List Tag} {v' : Value} (h : VRel T ι (.slice none 0 0) v') : v' = .slice none 0 0 := by cases h; rfl
theorem binOp_eql_slice (t : TypeId) (b : Option Addr) (n c : Nat) (y : Value) (hy : y = .slice none 0 0) : binOp .eql t (.slice b n c) y = (do pure (.bool (← Op.equal t (.slice b n c) y))) := by subst hy; rfl
theorem binOp_neq_slice (t : TypeId) (b : Option Addr) (n c : Nat) (y : Value) (hy : y = .slice none 0 0) : binOp .neq t (.slice b n c) y = (do pure (.bool (!(← Op.equal t (.slice b n c) y)))) := by subst hy; rfl
theorem run_eqGuard_slice (op : BinOp) (t : TypeId) (x y : Operand) (b : Option Addr) (n c : Nat) (u : Value) (w : World) : (eqGuard op t x y (.slice b n c) u).run P w = .ok () w := by
  unfold eqGuard
  cases op <;> simp
theorem run_equalIn_slice (w : World) (d : Nat) {t e : TypeId} (ht : P.underlying t = some (.slice e)) (b : Option Addr) (n c : Nat) : (Op.equalIn (d + 1) t (.slice b n c) (.slice none 0 0)).run P w = .ok b.isNone w := by
  cases b <;> simp [Op.equalIn, run_underlying ht]

theorem sound_eqS (hs : HSim prot B w ι H) (he : EnvOk (tags H) ι env a.tmps) {neg : Bool} {x y : Operand} {xt yt e : TypeId} (ht : P.underlying xt = some (.slice e)) (h : opK (.eqS neg (opd x) (opd y)) env H K) {o : Oper}
    (ho : o.op = .binOp (if neg then .neq else .eql) xt x y yt) : RunOut prot B ι H ((execOp a.eval o).run P w) K := by
  obtain ⟨v, h1, h2⟩ := evK_inv he h
  obtain ⟨u, h3, h4⟩ := evK_inv he h1
  split at h3
  · have e2 : a.eval y = .slice none 0 0 := h4.nilS_inv
    have run : ∀ (b : Option Addr) (n c : Nat), a.eval x = .slice b n c → (execOp a.eval o).run P w = .ok (.value (.bool (if neg then !b.isNone else b.isNone))) w := fun b n c hb => by
      cases neg <;> simp [execOp, ho, hb, e2, run_eqGuard_slice, binOp_eql_slice, binOp_neq_slice, Op.equal, Op.maxDepth, run_equalIn_slice w 9999 ht]
    rcases sliceK_inv h3 h2 with ⟨_, h5, h6⟩ | ⟨p, n, c', g, esz, ro, cs, rfl, hb, hsp, hk, h7⟩
    · exact .same hs (v' := .bool (!neg)) (by rw [run _ _ _ h5]; cases neg <;> rfl) .bool' h6
    · rcases h7 with ⟨L, c'', hl, hv, _⟩ | ⟨rfl, hc, x', hv⟩
      · exact .same hs (v' := .bool neg) (by rw [run _ _ _ hv]; cases neg <;> rfl) .bool' hk.1
      · cases x' with
        | none => exact .same hs (v' := .bool (!neg)) (by rw [run _ _ _ hv]; cases neg <;> rfl) .bool' (hk.2 hc)
        | some q => exact .same hs (v' := .bool neg) (by rw [run _ _ _ hv]; cases neg <;> rfl) .bool' hk.1
  · exact h3.elim

theorem sound_cap (hs : HSim prot B w ι H) (he : EnvOk (tags H) ι env a.tmps) {x : Operand} {t e : TypeId} (hu : P.underlying t = some (.slice e)) (h : opK (.cap (opd x)) env H K) {o : Oper} {c : Call} (ho : o.op = .call c) (hc : c.callee = .builtin .cap) (ha : c.args.toList = [x]) (hat : c.argTypes.toList = [t]) :
    RunOut prot B ι H ((execOp a.eval o).run P w) K := by
  have ha' : c.args = #[x] := by apply Array.toList_inj.1; simpa using ha
  have hat' : c.argTypes = #[t] := by apply Array.toList_inj.1; simpa using hat
  obtain ⟨v, h1, h2⟩ := evK_inv he h
  rcases sliceK_inv h1 h2 with ⟨_, h3, h4⟩ | ⟨p, n, c', g, esz, ro, cs, rfl, hb, hsp, hk, h7⟩
  · exact .same hs (v' := .int .i64 0) (by simp [execOp, ho, resolve, hc, ha', hat', h3, invoke, builtin, Builtin.cap_, run_underlying hu, goInt]) .int' h4
  · split at hk
    · rename_i hro
      rcases h7 with ⟨L, c'', hl, hv, _, hcc⟩ | ⟨rfl, rfl, x', hv⟩
      · have : c'' = c' := by rcases hcc with h | ⟨h, _⟩
                              · exact h
                              · rw [hro] at h; cases h
        subst this
        exact .same hs (v' := .int .i64 c'') (by simp [execOp, ho, resolve, hc, ha', hat', hv, invoke, builtin, Builtin.cap_, run_underlying hu, goInt]) .int' hk
      · exact .same hs (v' := .int .i64 0) (by simp [execOp, ho, resolve, hc, ha', hat', hv, invoke, builtin, Builtin.cap_, run_underlying hu, goInt]) .int' hk
    · exact hk.elim

theorem sound_un (hs : HSim prot B w ι H) (he : EnvOk (tags H) ι env a.tmps) {op : UnOp} {x : Operand} {xt : TypeId} (h : opK (.un op (opd x)) env H K) {o : Oper} (ho : o.op = .unOp op xt x) :
    RunOut prot B ι H ((execOp a.eval o).run P w) K := by
  obtain ⟨v, h1, h2⟩ := evK_inv he h
  unfold unK at h1
  split at h1
  · have := h2.int_inv
    exact .same hs (by simp [execOp, ho, this, Op.unary, Op.intArith, isub]) .int' h1
  · have := h2.int_inv
    exact .same hs (by simp [execOp, ho, this, Op.unary, Op.intBits, ixor]) .int' h1
  · have := h2.bool_inv
    exact .same hs (by simp [execOp, ho, this, Op.unary]) .bool' h1
  · exact h1.elim

theorem sound_conv (hs : HSim prot B w ι H) (he : EnvOk (tags H) ι env a.tmps) {k : IntKind} {x : Operand} {st dt : TypeId} (hd : P.underlying dt = some (.int k)) (hsrc : ∃ d, P.underlying st = some d) (h : opK (.conv k (opd x)) env H K) {o : Oper}
    (ho : o.op = .convert st dt x) : RunOut prot B ι H ((execOp a.eval o).run P w) K := by
  obtain ⟨v, h1, h2⟩ := evK_inv he h
  obtain ⟨k', n, rfl, h3, h4⟩ := intK_inv h1 h2
  obtain ⟨d, hsrc⟩ := hsrc
  exact .same hs (by simp [execOp, ho, h3, convert, run_underlying hd, run_underlying hsrc, Conv.intToInt, iconv]) .int' h4

theorem sound_func (hs : HSim prot B w ι H) (he : EnvOk (tags H) ι env a.tmps) {fn : Fn} {f c : Array Operand} (h : opK (.func fn (f.toList.map opd) (c.toList.map opd)) env H K) {o : Oper} (ho : o.op = .makeFunc fn f c) :
    RunOut prot B ι H ((execOp a.eval o).run P w) K := by
  obtain ⟨vs, h1, h2⟩ := evsK_inv he h
  obtain ⟨us, h3, h4⟩ := evsK_inv he h1
  refine .same hs (v' := .func fn (f.map a.eval) (c.map a.eval)) (by simp [execOp, ho, Instr.makeFunc]) (.func ?_ ?_ (fun i v v' hv hv' => ?_) (fun i v v' hv hv' => ?_)) h3
  · have := h2.1; simpa using this
  · have := h4.1; simpa using this
  · exact h2.2 i v v' (by simpa using hv) (by rw [← Array.getElem?_toList] at hv'; simpa using hv')
  · exact h4.2 i v v' (by simpa using hv) (by rw [← Array.getElem?_toList] at hv'; simpa using hv')

theorem szOf_spec {t : TypeId} {n : Nat} (h : szOf P t = some n) : ∃ i, P.info? t = some i ∧ i.size = n := by
  unfold szOf at h
  cases hq : P.info? t with
  | none => simp [hq] at h
  | some i => exact ⟨i, rfl, by simpa [hq] using h⟩

theorem sound_fieldAddr (hs : HSim prot B w ι H) (he : EnvOk (tags H) ι env a.tmps) {s : TypeId} {fs : Array Field} {f : Nat} {fd : Field} {n : Nat} {x : Operand} (hu : P.underlying s = some (.struct fs)) (hf : fs[f]? = some fd) (hn : szOf P fd.type = some n) (h0 : n ≠ 0)
    (h : opK (.fieldAddr fd.offset (opd x)) env H K) {o : Oper} (ho : o.op = .fieldAddr s x f) : RunOut prot B ι H ((execOp a.eval o).run P w) K := by
  obtain ⟨v, h1, h2⟩ := evK_inv he h
  obtain ⟨p, rfl, h3⟩ := ptrK_inv h1
  obtain ⟨g, esz, ro, cs, hb, hsp, hk⟩ := atK_inv h3
  obtain ⟨L, hl, hv⟩ := ptr_inv h2 hb hsp
  obtain ⟨i, hi, rfl⟩ := szOf_spec hn
  exact .same hs (by simp [execOp, ho, hv, Instr.fieldAt, run_underlying hu, hf, Instr.sureAddr, fieldPlace, run_sizeOf' hi, h0]) (ptr_mk hb hsp hl fd.offset) hk

/-- A part of a struct or an array that is at hand. -/
theorem part_inv {t : TypeId} {agg : Option Nat} (ha : aggOf P t = some agg) {cs cs' : Array Value} {o : Nat} {K : Value → Prop} (hr : VRels (tags H) ι cs.toList cs'.toList) (h1 : ∀ u ∈ cs.toList, u.oneCell' = true)
    (h : partK agg cs.toList o K) :
    ∃ u u', (part t cs' o).run P w = .ok u' w ∧ VRel (tags H) ι u u' ∧ K u := by
  unfold aggOf at ha
  cases hu : P.underlying t with
  | none => simp [hu] at ha
  | some d =>
    cases hi : P.info? t with
    | none => cases d <;> simp [hu, hi] at ha
    | some i =>
      by_cases hd : aggD d = true
      · have hag : agg = some i.size := by cases d <;> simp [hu, hi, aggD] at ha hd <;> exact ha.symm
        subst hag
        simp only [partK] at h
        have hK : o + i.size ≤ cs.toList.length ∧ K (.agg ((cs.toList.drop o).take i.size).toArray) ∨ (i.size = 0 ∧ K (.agg #[])) := by
          rcases ldK_inv h with ⟨a1, a2⟩ | ⟨a1, a2⟩
          · exact .inl ⟨a1, a2⟩
          · exact .inr ⟨a1, a2⟩
        have hrun : (part t cs' o).run P w = .ok (.agg (cs'.extract o (o + i.size))) w := by
          simp only [part, Sem.run_bind, run_isAgg' hu, Result.andThen_ok]
          simp only [hd, if_true, Sem.run_bind, run_sizeOf' hi, Result.andThen_ok, Sem.run_pure]
        rcases hK with ⟨a1, a2⟩ | ⟨a1, a2⟩
        · refine ⟨_, _, hrun, .agg ?_ (fun j v hj => ?_) (fun j v v' hj hj' => ?_), a2⟩
          · have := hr.1; simp at this a1 ⊢; omega
          · have hj' : ((cs.toList.drop o).take i.size)[j]? = some v := by simpa using hj
            exact h1 v (List.mem_of_mem_drop (List.mem_of_mem_take (List.mem_of_getElem? hj')))
          · have hjl : j < i.size := by have := (Array.getElem?_eq_some_iff.1 hj).1; simp at this; omega
            have e1 : cs.toList[o + j]? = some v := by
              have hj2 : ((cs.toList.drop o).take i.size)[j]? = some v := by simpa using hj
              rwa [List.getElem?_take_of_lt hjl, List.getElem?_drop] at hj2
            have e2 : cs'.toList[o + j]? = some v' := by
              rw [Array.getElem?_extract] at hj'
              split at hj'
              · simpa using hj'
              · cases hj'
            exact hr.2 _ v v' e1 e2
        · refine ⟨_, _, hrun, ?_, a2⟩
          rw [a1]
          exact .agg (by simp; omega) (fun j v hj => by simp at hj) (fun j v v' hj => by simp at hj)
      · have hag : agg = none := by cases d <;> simp [hu, hi, aggD] at ha hd <;> exact ha.symm
        subst hag
        simp only [partK] at h
        cases hc : cs.toList[o]? with
        | none => simp [hc] at h
        | some v =>
          simp only [hc] at h
          have hol : o < cs'.toList.length := by rw [← hr.1]; exact (List.getElem?_eq_some_iff.1 hc).1
          have e2 : cs'[o]? = some cs'.toList[o] := by rw [← Array.getElem?_toList]; exact List.getElem?_eq_getElem hol
          refine ⟨v, cs'.toList[o], ?_, hr.2 o v _ hc (List.getElem?_eq_getElem hol), h⟩
          simp only [part, Sem.run_bind, run_isAgg' hu, Result.andThen_ok]
          simp [hd, e2]

theorem sound_field (hs : HSim prot B w ι H) (he : EnvOk (tags H) ι env a.tmps) {t : TypeId} {fs : Array Field} {f : Nat} {fd : Field} {agg : Option Nat} {x : Operand} (hu : P.underlying t = some (.struct fs)) (hf : fs[f]? = some fd) (ha : aggOf P fd.type = some agg)
    (h : opK (.field fd.offset agg (opd x)) env H K) {o : Oper} (ho : o.op = .field t x f) : RunOut prot B ι H ((execOp a.eval o).run P w) K := by
  obtain ⟨v, h1, h2⟩ := evK_inv he h
  obtain ⟨cs, cs', rfl, h3, h4, h5, h6⟩ := aggK_inv h1 h2
  obtain ⟨u, u', h7, h8, h9⟩ := part_inv (P := P) (w := w) (K := fun v => K v H) ha h5 h6 h4
  exact .same hs (by simp [execOp, ho, h3, Instr.field, run_underlying hu, hf, asAgg, h7]) h8 h9

theorem sound_index (hs : HSim prot B w ι H) (he : EnvOk (tags H) ι env a.tmps) {t e : TypeId} {n s : Nat} {agg : Option Nat} {x y : Operand} (hu : P.underlying t = some (.array n e)) (hn : szOf P e = some s) (ha : aggOf P e = some agg)
    (h : opK (.index s n agg (opd x) (opd y)) env H K) {o : Oper} (ho : o.op = .index t x y) : RunOut prot B ι H ((execOp a.eval o).run P w) K := by
  obtain ⟨v, h1, h2⟩ := evK_inv he h
  obtain ⟨u, h3, h4⟩ := evK_inv he h1
  obtain ⟨k, i, rfl, h5, h6⟩ := intK_inv h3 h4
  obtain ⟨cs, cs', rfl, h7, h8, h9, h10⟩ := aggK_inv h6 h2
  obtain ⟨j, hj, rfl⟩ := szOf_spec hn
  by_cases hc : 0 ≤ i ∧ i < n
  · rw [if_pos hc] at h8
    obtain ⟨u, u', h11, h12, h13⟩ := part_inv (P := P) (w := w) (K := fun v => K v H) (o := i.toNat * j.size) ha h9 h10 h8
    exact .same hs (by simp [execOp, ho, h5, h7, Instr.index, asIntOf, run_underlying hu, hc, run_sizeOf' hj, h11]) h12 h13
  · rw [if_neg hc] at h8; exact h8.elim

theorem sound_indexArr (hs : HSim prot B w ι H) (he : EnvOk (tags H) ι env a.tmps) {t e : TypeId} {n s : Nat} {x y : Operand} (hu : P.underlying t = some (.array n e)) (hn : szOf P e = some s)
    (h : opK (.indexArr s n (opd x) (opd y)) env H K) {o : Oper} (ho : o.op = .indexAddr t x y) : RunOut prot B ι H ((execOp a.eval o).run P w) K := by
  obtain ⟨v, h1, h2⟩ := evK_inv he h
  obtain ⟨u, h3, h4⟩ := evK_inv he h1
  obtain ⟨k, i, rfl, h5, h6⟩ := intK_inv h3 h4
  obtain ⟨p, rfl, h7⟩ := ptrK_inv h6
  obtain ⟨g, esz, ro, cs, hb, hsp, hk⟩ := atK_inv h7
  obtain ⟨L, hl, hv⟩ := ptr_inv h2 hb hsp
  obtain ⟨j, hj, rfl⟩ := szOf_spec hn
  by_cases hc : 0 ≤ i ∧ i < n
  · rw [if_pos hc] at hk
    exact .same hs (by simp [execOp, ho, h5, hv, Instr.indexAt, asIntOf, run_underlying hu, Instr.sureAddr, hc, run_sizeOf' hj]) (ptr_mk hb hsp hl _) hk
  · rw [if_neg hc] at hk; exact hk.elim

theorem sound_indexAddr (hs : HSim prot B w ι H) (he : EnvOk (tags H) ι env a.tmps) {t e : TypeId} {s : Nat} {x y : Operand} (hu : P.underlying t = some (.slice e)) (hn : szOf P e = some s)
    (h : opK (.indexAddr s (opd x) (opd y)) env H K) {o : Oper} (ho : o.op = .indexAddr t x y) : RunOut prot B ι H ((execOp a.eval o).run P w) K := by
  obtain ⟨v, h1, h2⟩ := evK_inv he h
  obtain ⟨u, h3, h4⟩ := evK_inv he h1
  obtain ⟨k, i, rfl, h5, h6⟩ := intK_inv h3 h4
  obtain ⟨j, hj, rfl⟩ := szOf_spec hn
  rcases sliceK_inv h6 h2 with ⟨_, _, h7⟩ | ⟨p, n, c, g, esz, ro, cs, rfl, hb, hsp, hk, h7⟩
  · exact h7.elim
  · by_cases hc : 0 ≤ i ∧ i < n
    · rw [if_pos hc] at hk
      rcases h7 with ⟨L, c', hl, hv, _⟩ | ⟨h8, _⟩
      · exact .same hs (by simp [execOp, ho, h5, hv, Instr.indexAt, asIntOf, run_underlying hu, hc, run_sizeOf' hj]) (ptr_mk hb hsp hl _) hk
      · subst h8; simp at hc; omega
    · rw [if_neg hc] at hk; exact hk.elim

theorem sound_extract (hs : HSim prot B w ι H) (he : EnvOk (tags H) ι env a.tmps) {i : Nat} {x : Operand} (h : opK (.extract i (opd x)) env H K) {o : Oper} (ho : o.op = .extract x i) :
    RunOut prot B ι H ((execOp a.eval o).run P w) K := by
  obtain ⟨v, h1, h2⟩ := evK_inv he h
  split at h1
  · rename_i vs
    cases hi : vs.toList[i]? with
    | none => simp [hi] at h1
    | some u =>
      simp only [hi] at h1
      generalize hx : a.eval x = x' at h2
      cases h2 with
      | flat h => simp [flat] at h
      | @tuple _ b hs' hr =>
        have hu : vs[i]? = some u := by simpa using hi
        have hil : i < b.size := by rw [← hs']; exact (Array.getElem?_eq_some_iff.1 hu).1
        exact .same hs (by simp [execOp, ho, hx, Instr.extract, hil]) (hr i u _ hu (Array.getElem?_eq_getElem hil)) h1
  · exact h1.elim

theorem sound_len (hs : HSim prot B w ι H) (he : EnvOk (tags H) ι env a.tmps) {x : Operand} {t e : TypeId} (hu : P.underlying t = some (.slice e)) (h : opK (.len (opd x)) env H K) {o : Oper} {c : Call} (ho : o.op = .call c) (hc : c.callee = .builtin .len) (ha : c.args.toList = [x]) (hat : c.argTypes.toList = [t]) :
    RunOut prot B ι H ((execOp a.eval o).run P w) K := by
  have ha' : c.args = #[x] := by apply Array.toList_inj.1; simpa using ha
  have hat' : c.argTypes = #[t] := by apply Array.toList_inj.1; simpa using hat
  obtain ⟨v, h1, h2⟩ := evK_inv he h
  rcases sliceK_inv h1 h2 with ⟨_, h3, h4⟩ | ⟨p, n, c', g, esz, ro, cs, rfl, hb, hsp, hk, h7⟩
  · exact .same hs (v' := .int .i64 0) (by simp [execOp, ho, resolve, hc, ha', hat', h3, invoke, builtin, Builtin.len_, run_underlying hu, goInt]) .int' h4
  · rcases h7 with ⟨L, c'', hl, hv, _⟩ | ⟨rfl, _, x', hv⟩
    · exact .same hs (v' := .int .i64 n) (by simp [execOp, ho, resolve, hc, ha', hat', hv, invoke, builtin, Builtin.len_, run_underlying hu, goInt]) .int' hk
    · exact .same hs (v' := .int .i64 0) (by simp [execOp, ho, resolve, hc, ha', hat', hv, invoke, builtin, Builtin.len_, run_underlying hu, goInt]) .int' hk

end
end Go.Am
