/-
  The abstract machine, part T: what stands behind a step is kept where simp does not look: among the instances. For any program.
-/
import Derived.Test.YtfkhljgifndbpaaDoorAmQ
namespace Go.Am

class Later (α : Type) where
  get : α
def Later.run {α : Type} (K : Later α) : α := K.get
theorem run_mk {α : Type} (x : α) : Later.run ⟨x⟩ = x := by simp only [Later.run]

abbrev LP := Later Prop
abbrev LV := Later (Value → Heap → Prop)
abbrev LE := Later (Env → Heap → Prop)
abbrev LQ := Later (Exit → Env → Heap → Prop)
abbrev LL := Later (List Value → Prop)
abbrev L1 := Later (Value → Prop)
abbrev LI := Later (Nat → Env → Heap → Prop)

def BrW (t : Bool) [A : LP] [B : LP] : Prop := Br t A.run B.run
theorem BrW_true (A B : LP) : @BrW true A B ↔ A.run := by simp [BrW, Br]
theorem BrW_false (A B : LP) : @BrW false A B ↔ B.run := by simp [BrW, Br]
theorem BrW.of {t : Bool} {A B : LP} (ha : t = true → A.run) (hb : t = false → B.run) : @BrW t A B := Br.of ha hb

section
variable {call : CallR} {loop : LoopR} {e : Env} {H : Heap}

def outW (call : CallR) (H : Heap) [K : LV] (o : Out) : Prop := outK call H K.run o
def callW (call : CallR) (f : FuncId) (l : List Value) (H : Heap) [K : LV] : Prop := call f l H K.run
theorem callW.of {f : FuncId} {l : List Value} {K : LV} (h : call f l H K.run) : @callW call f l H K := h
def bothW (b : Bool) [A : LP] [B : LP] : Prop := both b A.run B.run
theorem bothW_false (A B : LP) : @bothW false A B ↔ A.run := by simp [bothW, both]
theorem bothW.of {b : Bool} {A B : LP} (ha : A.run) (hb : b = true → B.run) : @bothW b A B := ⟨ha, hb⟩
theorem outW_val (H' : Heap) (K : LV) (v : Value) : @outW call H' K (.val v H) ↔ K.run v H := by simp only [outW, outK]
theorem outW_call (K : LV) (f : FuncId) (l : List Value) : @outW call H K (.call f l) ↔ @callW call f l H K := by simp only [outW, outK, callW]
theorem outW_maybe (b : Bool) (u v : Value) (H' : Heap) (K : LV) : @outW call H' K (.maybe b u v H) ↔ @bothW b ⟨K.run u H⟩ ⟨K.run v H⟩ := by simp only [outW, outK, bothW, Later.run]

def opsW (call : CallR) (l : List AInstr) (e : Env) (H : Heap) [K : LE] : Prop := opsV call l e H K.run
def gW (w : Bool) [A : LP] [B : LP] (o : Option Value) : Prop := gK w A.run B.run o
theorem gW_yes (b : Bool) (A B : LP) : @gW true A B (some (.bool b)) ↔ @BrW b A B := by simp [gW, gK, BrW]
theorem gW_no (b : Bool) (A B : LP) : @gW false A B (some (.bool b)) ↔ @BrW b B A := by cases b <;> simp [gW, gK, Br, BrW]
theorem gW_tuple (w : Bool) (a : Array Value) (A B : LP) : @gW w A B (some (.tuple a)) ↔ B.run := by simp [gW, gK]
theorem opsW_nil (K : LE) : @opsW call [] e H K ↔ K.run e H := by simp only [opsW, opsV]
theorem opsW_cons (K : LE) (d : Option Nat) (op : AOp) (r : List AInstr) : @opsW call (⟨d, none, op⟩ :: r) e H K ↔ @outW call H ⟨fun v H => @opsW call r (putE d v e) H K⟩ (outV op e H) := by simp only [opsW, opsV, outW, Later.run]
theorem opsW_guard (K : LE) (d : Option Nat) (t : Nat) (want : Bool) (op : AOp) (r : List AInstr) :
    @opsW call (⟨d, some (t, want), op⟩ :: r) e H K ↔ @gW want ⟨@opsW call (⟨d, none, op⟩ :: r) e H K⟩ ⟨@opsW call r (putE d (.tuple #[]) e) H K⟩ (e.get t) := by
  simp only [opsW, opsV, gW, gK, Later.run]

def cW [A : LP] [B : LP] (o : Option Value) : Prop := cK A.run B.run o
theorem cW_bool (t : Bool) (A B : LP) : @cW A B (some (.bool t)) ↔ @BrW t A B := by simp only [cW, cK, BrW]
def loopW (loop : LoopR) (c : ACode) [Q : LQ] (e : Env) (H : Heap) : Prop := loop c Q.run e H
def Ww (call : CallR) (loop : LoopR) (c : ACode) [Q : LQ] (e : Env) (H : Heap) : Prop := Ws call loop c Q.run e H
theorem Ww_skip (Q : LQ) : @Ww call loop .skip Q e H ↔ Q.run .normal e H := by simp only [Ww, Ws]
/-- Operations with an append that may grow in its place, or not. -/
def splitW (esz bytes : Nat) (x y : AOpd) (e : Env) (H : Heap) [K : LV] : Prop := forkV esz bytes x y e H K.run
theorem splitW.of {esz bytes : Nat} {x y : AOpd} {e : Env} {H : Heap} {K : LV} (a : Addr) (n c g : Nat) (cs : List Value) (b : Addr) (m c2 g2 z2 : Nat) (ro2 : Bool) (cs2 : List Value) (h1 : ev e x = some (.slice (some a) n c)) (h2 : sliceV H (.slice (some a) n c) = some (some (a, n, c, g, esz, false, cs)))
    (h3 : ev e y = some (.slice (some b) m c2)) (h4 : sliceV H (.slice (some b) m c2) = some (some (b, m, c2, g2, z2, ro2, cs2))) (h5 : b.off + m * esz ≤ cs2.length) (h6 : m ≠ 0) (h7 : ¬ n + m ≤ c) (h8 : a.off + n * esz ≤ cs.length) (h9 : (n + m) * bytes ≤ 140737488355328)
    (k1 : K.run (.slice (some a) (n + m) (n + m)) (H.set a.block (.cells g esz false (cs.take (a.off + n * esz) ++ (cs2.drop b.off).take (m * esz)))))
    (k2 : K.run (.slice (some ⟨H.length, 0, some 1⟩) (n + m) (n + m)) (H ++ [.cells 0 esz false ((cs.drop a.off).take (n * esz) ++ (cs2.drop b.off).take (m * esz))])) : @splitW esz bytes x y e H K :=
  ⟨a, n, c, g, cs, b, m, cs2, m, c2, g2, z2, ro2, h1, h2, h3, h4, h5, h6, h7, h8, h9, k1, k2⟩
def forkW (call : CallR) (l : List AInstr) (e : Env) (H : Heap) [K : LE] : Prop := opsF call l e H K.run
theorem forkW.of {l pre post : List AInstr} {d : Option Nat} {esz bytes : Nat} {x y : AOpd} {K : LE} (hl : l = pre ++ ⟨d, none, .append esz bytes x y⟩ :: post)
    (h : @opsW call pre e H ⟨fun e H => @splitW esz bytes x y e H ⟨fun v H => @opsW call post (putE d v e) H K⟩⟩) : @forkW call l e H K :=
  .inr (.inl ⟨pre, d, esz, bytes, x, y, post, hl, h⟩)
def nextW (x : AOpd) (e : Env) (H : Heap) [K : LV] : Prop := opK (.nextMap x) e H K.run
theorem nextW.of {x : AOpd} {e : Env} {H : Heap} {K : LV} (v : Value) (k r since : Nat) (seen : List Nat) (c0 : Nat) (es : List MapEntry) (clock : Nat) (h1 : ev e x = some v) (h2 : iterAt H v = some (k, r, since, seen, c0, es, clock))
    (h3 : since ≤ c0) (h4 : (es.all fun x => decide (x.born < since) && flat x.key) = true) (k0 : (leftL es seen).isEmpty = true → K.run (.tuple #[.bool false]) H)
    (k1 : ∀ x ∈ leftL es seen, K.run (.tuple #[.bool true, x.key, x.val]) (H.set k (.iter r since (seen ++ [x.born]) clock))) : @nextW x e H K := by
  refine evK_of h1 ?_
  simp only [h2]
  rw [if_pos ⟨h3, h4⟩]
  exact ⟨k0, k1⟩
theorem forkW.next {l pre post : List AInstr} {d : Option Nat} {x : AOpd} {K : LE} (hl : l = pre ++ ⟨d, none, .nextMap x⟩ :: post)
    (h : @opsW call pre e H ⟨fun e H => @nextW x e H ⟨fun v H => @opsW call post (putE d v e) H K⟩⟩) : @forkW call l e H K :=
  .inr (.inr ⟨pre, d, x, post, hl, h⟩)
theorem forkW.plain {l : List AInstr} {K : LE} (h : @opsW call l e H K) : @forkW call l e H K := .inl h
theorem Ww_fork (Q : LQ) (l : List AInstr) : @Ww call loop (.fork l) Q e H ↔ @forkW call l e H ⟨fun e H => Q.run .normal e H⟩ := by simp only [Ww, Ws, forkW, Later.run]
theorem Ww_ops (Q : LQ) (l : List AInstr) : @Ww call loop (.ops l) Q e H ↔ @opsW call l e H ⟨fun e H => Q.run .normal e H⟩ := by simp only [Ww, Ws, opsW, Later.run]
theorem Ww_seq (Q : LQ) (a b : ACode) : @Ww call loop (.seq a b) Q e H ↔ @Ww call loop a ⟨thenK (fun e H => @Ww call loop b Q e H) Q.run⟩ e H := by simp only [Ww, Ws, Later.run]
theorem Ww_cond (Q : LQ) (c : AOpd) (a b : ACode) : @Ww call loop (.cond c a b) Q e H ↔ @cW ⟨@Ww call loop a Q e H⟩ ⟨@Ww call loop b Q e H⟩ (ev e c) := by simp only [Ww, Ws, cW, cK, Later.run]
theorem Ww_block (Q : LQ) (id : Nat) (c : ACode) : @Ww call loop (.block id c) Q e H ↔ @Ww call loop c ⟨blockK id Q.run⟩ e H := by simp only [Ww, Ws, Later.run]
theorem Ww_loop (Q : LQ) (c : ACode) : @Ww call loop (.loop c) Q e H ↔ @loopW loop c Q e H := by simp only [Ww, Ws, loopW]
theorem Ww_exit (Q : LQ) (id : Nat) : @Ww call loop (.exit id) Q e H ↔ Q.run (.exit id) e H := by simp only [Ww, Ws]
theorem Ww_ret (Q : LQ) : @Ww call loop .ret Q e H ↔ Q.run .ret e H := by simp only [Ww, Ws]
theorem Ww_keep (Q : LQ) (l : List Nat) (c : ACode) : @Ww call loop (.keep l c) Q e H ↔ @Ww call loop c Q (e.keep l) H := by simp only [Ww, Ws]
theorem blockW_exit {Q : Exit → Env → Heap → Prop} (id i : Nat) : blockK id Q (.exit i) e H ↔ @BrW (i == id) ⟨Q .normal e H⟩ ⟨Q (.exit i) e H⟩ := by simp [blockK, Br, BrW, Later.run]

def vW [K : L1] (o : Option Value) : Prop := vK K.run o
theorem vW_some (K : L1) (v : Value) : @vW K (some v) ↔ K.run v := by simp only [vW, vK]
def resW (rs : List ARes) (e : Env) (H : Heap) [K : LL] : Prop := resK rs e H K.run
theorem resW_nil (K : LL) : @resW [] e H K ↔ K.run [] := by simp only [resW, resK]
theorem resW_tmp (K : LL) (t : Nat) (r : List ARes) : @resW (.tmp t :: r) e H K ↔ @vW ⟨fun v => @resW r e H ⟨fun l => K.run (v :: l)⟩⟩ (e.get t) := by
  unfold resW; rw [resK_tmp]; simp only [vW, Later.run]
theorem resW_cell (K : LL) (t : Nat) (agg : Option Nat) (r : List ARes) : @resW (.cell t agg :: r) e H K ↔ @vW ⟨fun v => @resW r e H ⟨fun l => K.run (v :: l)⟩⟩ (loadO H agg (e.get t)) := by
  unfold resW; rw [resK_cell]; simp only [vW, Later.run]
def DropW (H0 : Heap) (v : Value) (H : Heap) [K : LV] : Prop := DropK H0 v H K.run
theorem DropW.here {H0 : Heap} {v : Value} {K : Value → Heap → Prop} (h : K v H) : @DropW H0 v H ⟨K⟩ := DropK.here h
theorem DropW.cut {H0 : Heap} {v : Value} {K : Value → Heap → Prop} (m : Nat) (hm : H0.length ≤ m) (hv : bnd m v = true) (ho : ∀ j o, j < m → H[j]? = some o → H0[j]? = some o ∨ abnd m o = true) (h : K v (H.take m)) : @DropW H0 v H ⟨K⟩ := DropK.cut m hm hv ho h
theorem DropW.back {H0 l : Heap} {v : Value} {K : Value → Heap → Prop} (hv : bnd H0.length v = true) (h : K v H0) : @DropW H0 v (H0 ++ l) ⟨K⟩ := DropK.back hv h
/-- nil is handed back as a slice of a new object without cells. -/
theorem DropW.ghost {H0 : Heap} {K : Value → Heap → Prop} (esz : Nat) (ro : Bool) (h : K (.slice (some ⟨H.length, 0, some 1⟩) 0 0) (H ++ [.cells 0 esz ro []])) : @DropW H0 (.slice none 0 0) H ⟨K⟩ := by
  have hd : DropTo H0 H (.slice none 0 0) (H ++ [.cells 0 esz ro []]) (.slice (some ⟨H.length, 0, some 1⟩) 0 0) := fun prot B w ι ι0 v' h0 h1 h2 h3 => by
    obtain ⟨hs, hext⟩ := h2.ghost esz ro
    have := h3.nilS_inv
    subst this
    exact ⟨_, h1.trans hext, hs, .empty (t := ⟨0, esz, ro⟩) (by simp [AObj.tag]) rfl⟩
  exact ⟨_, _, hd, h⟩
theorem retW_normal (H0 : Heap) (rs : List ARes) (K : Value → Heap → Prop) : retK H0 rs K .normal e H ↔ @resW rs e H ⟨fun l => @DropW H0 (tupled l) H ⟨K⟩⟩ := by simp only [retK, resW, DropW, Later.run]
theorem retW_ret (H0 : Heap) (rs : List ARes) (K : Value → Heap → Prop) : retK H0 rs K .ret e H ↔ @resW rs e H ⟨fun l => @DropW H0 (tupled l) H ⟨K⟩⟩ := by simp only [retK, resW, DropW, Later.run]

def RdW (H0 : Heap) (m : Nat) (e : Env) (H : Heap) [I : LI] : Prop := Rd H0 I.run m e H
theorem RdW.keep {H0 : Heap} {I : Nat → Env → Heap → Prop} {m : Nat} (l : List Nat) (m' : Nat) (hm : m' < m) (h : I m' (e.keep l) H) : @RdW H0 m e H ⟨I⟩ := Rd.keep l m' hm h
theorem RdW.same {H0 : Heap} {I : Nat → Env → Heap → Prop} {m : Nat} (m' : Nat) (hm : m' < m) (h : I m' e H) : @RdW H0 m e H ⟨I⟩ := Rd.same m' hm h
theorem RdW.drop {H0 : Heap} {I : Nat → Env → Heap → Prop} {m : Nat} (l : List Nat) (k m' : Nat) (hm : m' < m) (hk : H0.length ≤ k) (he : ∀ i v, (e.keep l).get i = some v → bnd k v = true) (ho : ∀ j o, j < k → H[j]? = some o → H0[j]? = some o ∨ abnd k o = true)
    (h : I m' (e.keep l) (H.take k)) : @RdW H0 m e H ⟨I⟩ := Rd.drop l k m' hm hk he ho h

end

section
variable {P : Program} {n : Nat} {H0 : Heap} {env : Env} {H : Heap}
theorem loopW.of (hn : n ≤ 1000000000) {c : ACode} {Q : LQ} (I : Nat → Env → Heap → Prop) (m : Nat) (h0 : I m env H)
    (round : ∀ m env H, I m env H → @Ww (ACallK P) (loopK P n H0) c ⟨thenK (fun e H => @RdW H0 m e H ⟨I⟩) Q.run⟩ env H) : @loopW (loopK P n H0) c Q env H :=
  loopK.of hn I m h0 fun m env H hI => round m env H hI
theorem ACallK.walkW {f : FuncId} {F : AFn} (hF : compFn P f = some F.strip) {args : List Value} {K : Value → Heap → Prop} (hn : args.length ≤ F.n) (hbig : F.n ≤ 1000000000)
    (h : @Ww (ACallK P) (loopK P F.n H) F.body ⟨retK H F.rs K⟩ (argEnv 0 args) H) : ACallK P f args H K := .walk hF hn hbig h
end
end Go.Am
