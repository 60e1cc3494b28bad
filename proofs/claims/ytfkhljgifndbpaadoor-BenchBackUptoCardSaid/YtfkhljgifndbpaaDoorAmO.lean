/-
  The abstract machine, part O: the operations as functions, and the steps of a walk as rules for simp. For any program.
-/
import Derived.Test.YtfkhljgifndbpaaDoorAmN
namespace Go.Am

/-! ## The environment, one step at a time -/

theorem get_nil (i : Nat) : Env.get [] i = none := by simp [Env.get]
theorem get_hit (k : Nat) (v : Value) (r : Env) : Env.get ((k, v) :: r) k = some v := by simp [Env.get]
theorem get_miss (k i : Nat) (v : Value) (r : Env) (h : i ≠ k) : Env.get ((k, v) :: r) i = Env.get r i := by simp [Env.get, h]
theorem set_nil (k : Nat) (v : Value) : Env.set [] k v = [(k, v)] := by simp [Env.set]
theorem set_hit (k : Nat) (u v : Value) (r : Env) : Env.set ((k, u) :: r) k v = (k, v) :: r := by simp [Env.set]
theorem set_miss (k i : Nat) (u v : Value) (r : Env) (h : i ≠ k) : Env.set ((k, u) :: r) i v = (k, u) :: Env.set r i v := by simp [Env.set, h]
theorem keep_nil (e : Env) : Env.keep e [] = [] := by simp [Env.keep]
theorem keep_hit {e : Env} {i : Nat} {l : List Nat} {v : Value} (h : e.get i = some v) : Env.keep e (i :: l) = (i, v) :: Env.keep e l := by simp [Env.keep, h]
theorem keep_miss {e : Env} {i : Nat} {l : List Nat} (h : e.get i = none) : Env.keep e (i :: l) = Env.keep e l := by simp [Env.keep, h]
theorem ev_tmp (e : Env) (t : Nat) : ev e (.tmp t) = e.get t := by cases e <;> rfl
theorem ev_const (e : Env) (v : Value) : ev e (.const v) = some v := by cases e <;> rfl
theorem putE_some (d : Nat) (v : Value) (e : Env) : putE (some d) v e = e.set d v := by cases e <;> rfl
theorem putE_none (v : Value) (e : Env) : putE none v e = e := by cases e <;> rfl

/-! ## The operations as functions -/

def evs (e : Env) : List AOpd → Option (List Value)
  | [] => some []
  | x :: r => match ev e x, evs e r with
    | some v, some l => some (v :: l)
    | _, _ => none
def evo (e : Env) : Option AOpd → Option (Option Value)
  | none => some none
  | some x => (ev e x).map some

theorem evsK_iff {e : Env} : ∀ {l : List AOpd} {K : List Value → Prop}, evsK e l K ↔ ∃ vs, evs e l = some vs ∧ K vs
  | [], K => by simp [evsK, evs]
  | x :: l, K => by
    unfold evsK evK evs
    cases ev e x with
    | none => simp
    | some v =>
      simp only
      rw [evsK_iff]
      cases evs e l <;> simp
theorem evoK_iff {e : Env} {x : Option AOpd} {K : Option Value → Prop} : evoK e x K ↔ ∃ v, evo e x = some v ∧ K v := by
  cases x with
  | none => simp [evoK, evo]
  | some x => rcases h : ev e x with _ | v <;> simp [evoK, evK, evo, h]

/-- The object at an address: generation, element size, read only, cells. -/
def atV (H : Heap) (a : Addr) : Option (Nat × Nat × Bool × List Value) :=
  match H[a.block]? with
  | some (.cells g esz ro cs) => if a.spot = some (g + 1) then some (g, esz, ro, cs) else none
  | _ => none
theorem atK_iff {H : Heap} {a : Addr} {K : Nat → Nat → Bool → List Value → Prop} : atK H a K ↔ ∃ g esz ro cs, atV H a = some (g, esz, ro, cs) ∧ K g esz ro cs := by
  unfold atK atV
  cases H[a.block]? with
  | none => simp
  | some o =>
    cases o with
    | map es c => simp
    | iter r since seen c0 => simp
    | cells g esz ro cs =>
      simp only
      by_cases h : a.spot = some (g + 1)
      · rw [if_pos h, if_pos h]
        constructor
        · exact fun hk => ⟨g, esz, ro, cs, rfl, hk⟩
        · rintro ⟨g', esz', ro', cs', e, hk⟩; cases e; exact hk
      · rw [if_neg h, if_neg h]; simp

def ldV (cs : List Value) (o : Nat) : Nat → Option (List Value)
  | 0 => some []
  | n + 1 => match cs[o]?, ldV cs (o + 1) n with
    | some v, some l => some (v :: l)
    | _, _ => none
theorem ldK_iff {cs : List Value} : ∀ {n o : Nat} {K : List Value → Prop}, ldK cs o n K ↔ ∃ l, ldV cs o n = some l ∧ K l
  | 0, o, K => by simp [ldK, ldV]
  | n + 1, o, K => by
    unfold ldK ldV
    cases cs[o]? with
    | none => simp
    | some v =>
      simp only
      rw [ldK_iff]
      cases ldV cs (o + 1) n <;> simp
def partV (agg : Option Nat) (cs : List Value) (o : Nat) : Option Value :=
  match agg with
  | some n => (ldV cs o n).map fun l => .agg l.toArray
  | none => cs[o]?
theorem partK_iff {agg : Option Nat} {cs : List Value} {o : Nat} {K : Value → Prop} : partK agg cs o K ↔ ∃ v, partV agg cs o = some v ∧ K v := by
  unfold partK partV
  cases agg with
  | none => cases cs[o]? <;> simp
  | some n => simp only; rw [ldK_iff]; cases ldV cs o n <;> simp
def loadV (H : Heap) (a : Addr) (agg : Option Nat) : Option Value :=
  match atV H a with
  | some (_, _, _, cs) => partV agg cs a.off
  | none => none
theorem loadK_iff {H : Heap} {a : Addr} {agg : Option Nat} {K : Value → Prop} : loadK H a agg K ↔ ∃ v, loadV H a agg = some v ∧ K v := by
  unfold loadK loadV
  rw [atK_iff]
  cases atV H a with
  | none => simp
  | some x =>
    obtain ⟨g, esz, ro, cs⟩ := x
    simp only
    constructor
    · rintro ⟨g', esz', ro', cs', e, h⟩; cases e; exact partK_iff.1 h
    · exact fun h => ⟨g, esz, ro, cs, rfl, partK_iff.2 h⟩

def cellsV : Value → Option (List Value)
  | .agg cs => some cs.toList
  | .tuple _ => none
  | v => some [v]
theorem cellsK_iff {v : Value} {K : List Value → Prop} : cellsK v K ↔ ∃ l, cellsV v = some l ∧ K l := by cases v <;> simp [cellsK, cellsV]
def fillV (e : Env) : List Value → List (Nat × Nat × AOpd) → Option (List Value)
  | cs, [] => some cs
  | cs, (off, size, x) :: r => match ev e x with
    | some v => match cellsV v with
      | some l => if l.length = size ∧ off + size ≤ cs.length then fillV e (wr cs off l) r else none
      | none => none
    | none => none
theorem fillK_iff {e : Env} : ∀ {ps : List (Nat × Nat × AOpd)} {cs : List Value} {K : List Value → Prop}, fillK e cs ps K ↔ ∃ l, fillV e cs ps = some l ∧ K l
  | [], cs, K => by simp [fillK, fillV]
  | (off, size, x) :: r, cs, K => by
    unfold fillK evK fillV
    cases ev e x with
    | none => simp
    | some v =>
      simp only
      rw [cellsK_iff]
      cases cellsV v with
      | none => simp
      | some l =>
        simp only [Option.some.injEq, exists_eq_left']
        by_cases h : l.length = size ∧ off + size ≤ cs.length
        · rw [if_pos h, if_pos h]; exact fillK_iff
        · rw [if_neg h, if_neg h]; simp

def binV (op : BinOp) (k : IntKind) (a : Int) (k' : IntKind) (b : Int) : Option Value :=
  match op with
  | .shl => if b < 0 then none else some (.int k (ishl k a b))
  | .shr => if b < 0 then none else some (.int k (ishr k a b))
  | .add => if k = k' then some (.int k (iadd k a b)) else none
  | .sub => if k = k' then some (.int k (isub k a b)) else none
  | .mul => if k = k' then some (.int k (imul k a b)) else none
  | .quo => if k = k' then (if b = 0 then none else some (.int k (iquo k a b))) else none
  | .rem => if k = k' then (if b = 0 then none else some (.int k (irem a b))) else none
  | .and => if k = k' then some (.int k (iand k a b)) else none
  | .or => if k = k' then some (.int k (ior k a b)) else none
  | .xor => if k = k' then some (.int k (ixor k a b)) else none
  | .andNot => if k = k' then some (.int k (iandn k a b)) else none
  | .eql => if k = k' then some (.bool (a == b)) else none
  | .neq => if k = k' then some (.bool (a != b)) else none
  | .lss => if k = k' then some (.bool (a < b)) else none
  | .leq => if k = k' then some (.bool (a ≤ b)) else none
  | .gtr => if k = k' then some (.bool (b < a)) else none
  | .geq => if k = k' then some (.bool (b ≤ a)) else none
theorem ibinK_of {op : BinOp} {k k' : IntKind} {a b : Int} {v : Value} {K : Value → Prop} (h : binV op k a k' b = some v) (hk : K v) : ibinK op k a k' b K := by
  unfold binV at h
  unfold ibinK
  cases op <;> simp only at h ⊢ <;> (repeat' (split at h)) <;> simp_all

def unV (op : UnOp) (v : Value) : Option Value :=
  match op, v with
  | .neg, .int k n => some (.int k (isub k 0 n))
  | .xor, .int k n => some (.int k (ixor k (if k.signed then -1 else k.max) n))
  | .not, .bool b => some (.bool !b)
  | _, _ => none
theorem unK_of {op : UnOp} {u v : Value} {K : Value → Prop} (h : unV op u = some v) (hk : K v) : unK op u K := by
  unfold unV at h
  unfold unK
  split at h <;> simp at h <;> subst h <;> exact hk

/-- A slice that is of its object's present generation: none is nil. -/
def sliceV (H : Heap) (v : Value) : Option (Option (Addr × Nat × Nat × Nat × Nat × Bool × List Value)) :=
  match v with
  | .slice none 0 0 => some none
  | .slice (some a) n c => match atV H a with
    | some (g, esz, ro, cs) => some (some (a, n, c, g, esz, ro, cs))
    | none => none
  | _ => none
theorem sliceK_of {H : Heap} {v : Value} {Kn : Prop} {K : Addr → Nat → Nat → Nat → Nat → Bool → List Value → Prop} :
    (sliceV H v = some none → Kn → sliceK H v Kn K) ∧ (∀ a n c g esz ro cs, sliceV H v = some (some (a, n, c, g, esz, ro, cs)) → K a n c g esz ro cs → sliceK H v Kn K) := by
  unfold sliceV sliceK
  constructor
  · intro h hk
    split at h
    · exact hk
    · split at h <;> cases h
    · cases h
  · intro a n c g esz ro cs h hk
    split at h
    · cases h
    · split at h
      · rename_i g' esz' ro' cs' hat
        cases h
        exact atK_iff.2 ⟨_, _, _, _, hat, hk⟩
      · cases h
    · cases h

def lowV : Option Value → Option Nat
  | none => some 0
  | some (.int _ i) => if 0 ≤ i then some i.toNat else none
  | some _ => none
def highV (n : Nat) : Option Value → Option Nat
  | none => some n
  | some (.int _ i) => if 0 ≤ i then some i.toNat else none
  | some _ => none
theorem slLow_of {v : Option Value} {n : Nat} {K : Nat → Prop} (h : lowV v = some n) (hk : K n) : slLow v K := by
  unfold lowV at h
  unfold slLow
  split at h
  · cases h; exact hk
  · split at h
    · rename_i hi; cases h; simp [intK, hi, hk]
    · cases h
  · cases h
theorem slHigh_of {v : Option Value} {m n : Nat} {K : Nat → Prop} (h : highV m v = some n) (hk : K n) : slHigh v m K := by
  unfold highV at h
  unfold slHigh
  split at h
  · cases h; exact hk
  · split at h
    · rename_i hi; cases h; simp [intK, hi, hk]
    · cases h
  · cases h

def appendV (H : Heap) (esz bytes : Nat) (v : Value) (new : List Value) (m : Nat) : Option (Value × Heap) :=
  match sliceV H v with
  | some none => if m = 0 then some (v, H) else if m * bytes ≤ 140737488355328 then some (.slice (some ⟨H.length, 0, some 1⟩) m m, H ++ [.cells 0 esz false new]) else none
  | some (some (a, n, c, g, esz', ro, cs)) =>
    if m = 0 then (if n ≤ c then some (v, H) else none)
    else if n + m ≤ c then
      if ro = false ∧ a.off + (n + m) * esz ≤ cs.length then some (.slice (some a) (n + m) c, H.set a.block (.cells g esz' ro (wr cs (a.off + n * esz) new))) else none
    else if esz' = esz ∧ a.off + n * esz ≤ cs.length ∧ (n + m) * bytes ≤ 140737488355328 then
      if ro then some (.slice (some ⟨H.length, 0, some 1⟩) (n + m) (n + m), H ++ [.cells 0 esz false ((cs.drop a.off).take (n * esz) ++ new)])
      else some (.slice (some ⟨a.block, 0, some (g + 2)⟩) (n + m) (n + m), H.set a.block (.cells (g + 1) esz false ((cs.drop a.off).take (n * esz) ++ new)))
    else none
  | none => none
theorem appendK_of {H H' : Heap} {esz bytes m : Nat} {v v' : Value} {new : List Value} {K : Value → Heap → Prop} (h : appendV H esz bytes v new m = some (v', H')) (hk : K v' H') : appendK H esz bytes v new m K := by
  unfold appendV at h
  unfold appendK
  split at h
  · rename_i hs
    refine sliceK_of.1 hs ?_
    by_cases hm : m = 0
    · rw [if_pos hm] at h ⊢; cases h; exact hk
    · rw [if_neg hm] at h ⊢
      split at h
      · rename_i hb; rw [if_pos hb]; cases h; exact hk
      · cases h
  · rename_i a n c g esz' ro cs hs
    refine sliceK_of.2 a n c g esz' ro cs hs ?_
    by_cases hm : m = 0
    · rw [if_pos hm] at h ⊢
      split at h
      · rename_i hb; rw [if_pos hb]; cases h; exact hk
      · cases h
    · rw [if_neg hm] at h ⊢
      by_cases h1 : n + m ≤ c
      · rw [if_pos h1] at h ⊢
        split at h
        · rename_i hb; rw [if_pos hb]; cases h; exact hk
        · cases h
      · rw [if_neg h1] at h ⊢
        split at h
        · rename_i hb; rw [if_pos hb]
          cases ro <;> simp only [Bool.false_eq_true, if_false, if_true] at h ⊢ <;> cases h <;> first | exact hk | exact .inl hk
        · cases h
  · cases h

def mmV (max : Bool) : Value → List Value → Option Value
  | v, [] => some v
  | .int k a, .int _ b :: l => mmV max (.int k (if max then (if b > a then b else a) else (if b < a then b else a))) l
  | _, _ => none
theorem minmaxK_of {max : Bool} {l : List Value} {v u : Value} {K : Value → Prop} (h : mmV max v l = some u) (hk : K u) : minmaxK max v l K := by
  induction l generalizing v with
  | nil =>
    have : v = u := by cases v <;> simpa [mmV] using h
    subst this; exact hk
  | cons w l ih =>
    cases v <;> cases w <;> simp only [mmV] at h <;> first | (cases h; done) | skip
    exact ih h

/-- An operation as a function: the value, and the heap behind. -/
def opV (op : AOp) (e : Env) (H : Heap) : Option (Value × Heap) :=
  match op with
  | .mov x => match ev e x with | some v => some (v, H) | none => none
  | .pick c a b => match ev e c, ev e a, ev e b with
    | some (.bool t), some v, some w => some (if t = true then v else w, H)
    | _, _, _ => none
  | .alloc cells => some (.pointer (some ⟨H.length, 0, some 1⟩), H ++ [.cells 0 0 false cells])
  | .box x => match ev e x with
    | some v => match cellsV v with
      | some l => some (.pointer (some ⟨H.length, 0, some 1⟩), H ++ [.cells 0 0 false l])
      | none => none
    | none => none
  | .build cells parts => match fillV e cells parts with | some cs => some (.agg cs.toArray, H) | none => none
  | .buildSlice esz len cells parts => match fillV e cells parts with | some cs => some (.slice (some ⟨H.length, 0, some 1⟩) len len, H ++ [.cells 0 esz false cs]) | none => none
  | .load agg x => match ev e x with
    | some (.pointer (some a)) => match loadV H a agg with | some v => some (v, H) | none => none
    | _ => none
  | .store n a x => match ev e a, ev e x with
    | some (.pointer (some a)), some v => match cellsV v, atV H a with
      | some l, some (g, esz, ro, cs) => if l.length = n ∧ ro = false ∧ a.off + n ≤ cs.length then some (.tuple #[], H.set a.block (.cells g esz ro (wr cs a.off l))) else none
      | _, _ => none
    | _, _ => none
  | .nilCheck x => match ev e x with
    | some (.pointer (some a)) => match atV H a with | some _ => some (.pointer (some a), H) | none => none
    | _ => none
  | .ibin op x y => match ev e x, ev e y with
    | some (.int k a), some (.int k' b) => match binV op k a k' b with | some v => some (v, H) | none => none
    | _, _ => none
  | .eqB neg x y => match ev e x, ev e y with
    | some (.bool a), some (.bool b) => some (.bool (if neg then !(a == b) else (a == b)), H)
    | _, _ => none
  | .eqA neg s x y => match ev e x, ev e y with
    | some (.agg a), some (.agg b) => match sameS s a.toList b.toList with | some t => some (.bool (if neg then !t else t), H) | none => none
    | _, _ => none
  | .eqP neg x y => match ev e x, ev e y with
    | some (.pointer none), some (.pointer none) => some (.bool !neg, H)
    | some (.pointer (some a)), some (.pointer none) => match atV H a with | some _ => some (.bool neg, H) | none => none
    | some (.pointer none), some (.pointer (some a)) => match atV H a with | some _ => some (.bool neg, H) | none => none
    | _, _ => none
  | .eqS neg x y => match ev e x, ev e y with
    | some v, some (.slice none 0 0) => match sliceV H v with
      | some none => some (.bool !neg, H)
      | some (some (_, _, c, _, _, _, _)) => if c = 0 then none else some (.bool neg, H)
      | none => none
    | _, _ => none
  | .cap x => match ev e x with
    | some v => match sliceV H v with
      | some none => some (.int .i64 0, H)
      | some (some (_, _, c, _, _, ro, _)) => if ro = true then some (.int .i64 c, H) else none
      | none => none
    | none => none
  | .un op x => match ev e x with
    | some v => match unV op v with | some u => some (u, H) | none => none
    | none => none
  | .conv k x => match ev e x with
    | some (.int _ n) => some (.int k (iconv k n), H)
    | _ => none
  | .func fn first captured => match evs e first, evs e captured with
    | some a, some b => some (.func fn a.toArray b.toArray, H)
    | _, _ => none
  | .makeSlice esz bytes zero len cap => match ev e len, ev e cap with
    | some (.int _ l), some (.int _ c) => if 0 ≤ l ∧ l ≤ c ∧ c * bytes ≤ 281474976710656 ∧ c < 9223372036854775808 then some (.slice (some ⟨H.length, 0, some 1⟩) l.toNat c.toNat, H ++ [.cells 0 esz false (List.replicate c.toNat zero).flatten]) else none
    | _, _ => none
  | .slice esz x lo hi mx => match ev e x, evo e lo, evo e hi, evo e mx with
    | some v, some lo, some hi, some mx => match sliceV H v with
      | some none => match lowV lo, highV 0 hi, highV 0 mx with
        | some l, some h, some m => if l = 0 ∧ h = 0 ∧ m = 0 then some (v, H) else none
        | _, _, _ => none
      | some (some (a, n, c, _, esz', _, cs)) => match lowV lo, highV n hi, highV c mx with
        | some l, some h, some m => if l ≤ h ∧ h ≤ m ∧ m ≤ c ∧ (esz' = esz ∨ (esz' = 0 ∧ a.off + l * esz ≤ cs.length)) then some (.slice (some ⟨a.block, a.off + l * esz, a.spot⟩) (h - l) (m - l), H) else none
        | _, _, _ => none
      | none => none
    | _, _, _, _ => none
  | .sliceA esz n x lo hi => match ev e x, evo e lo, evo e hi with
    | some (.pointer (some a)), some lo, some hi => match atV H a, lowV lo, highV n hi with
      | some (_, _, _, cs), some l, some h => if l ≤ h ∧ h ≤ n ∧ a.off + n * esz ≤ cs.length then some (.slice (some ⟨a.block, a.off + l * esz, a.spot⟩) (h - l) (n - l), H) else none
      | _, _, _ => none
    | _, _, _ => none
  | .fieldAddr off x => match ev e x with
    | some (.pointer (some a)) => match atV H a with | some _ => some (.pointer (some ⟨a.block, a.off + off, a.spot⟩), H) | none => none
    | _ => none
  | .field off agg x => match ev e x with
    | some (.agg cs) => match partV agg cs.toList off with | some v => some (v, H) | none => none
    | _ => none
  | .indexAddr esz x i => match ev e x, ev e i with
    | some v, some (.int _ i) => match sliceV H v with
      | some (some (a, n, _, _, _, _, _)) => if 0 ≤ i ∧ i < n then some (.pointer (some ⟨a.block, a.off + i.toNat * esz, a.spot⟩), H) else none
      | _ => none
    | _, _ => none
  | .indexArr esz n x i => match ev e x, ev e i with
    | some (.pointer (some a)), some (.int _ i) => match atV H a with
      | some _ => if 0 ≤ i ∧ i < n then some (.pointer (some ⟨a.block, a.off + i.toNat * esz, a.spot⟩), H) else none
      | none => none
    | _, _ => none
  | .index esz n agg x i => match ev e x, ev e i with
    | some (.agg cs), some (.int _ i) => if 0 ≤ i ∧ i < n then (match partV agg cs.toList (i.toNat * esz) with | some v => some (v, H) | none => none) else none
    | _, _ => none
  | .extract i x => match ev e x with
    | some (.tuple vs) => match vs.toList[i]? with | some v => some (v, H) | none => none
    | _ => none
  | .len x => match ev e x with
    | some v => match sliceV H v with
      | some none => some (.int .i64 0, H)
      | some (some (_, n, _, _, _, _, _)) => some (.int .i64 n, H)
      | none => none
    | none => none
  | .append esz bytes x y => match ev e x, ev e y with
    | some v, some w => match sliceV H w with
      | some none => appendV H esz bytes v [] 0
      | some (some (b, m, _, _, _, _, cs)) => if b.off + m * esz ≤ cs.length then appendV H esz bytes v ((cs.drop b.off).take (m * esz)) m else none
      | none => none
    | _, _ => none
  | .clearS esz zero x => match ev e x with
    | some v => match sliceV H v with
      | some none => some (.tuple #[], H)
      | some (some (a, n, _, g, esz', ro, cs)) => if n = 0 then some (.tuple #[], H)
        else if ro = false ∧ a.off + n * esz ≤ cs.length then some (.tuple #[], H.set a.block (.cells g esz' ro (wr cs a.off (List.replicate n zero).flatten))) else none
      | none => none
    | none => none
  | .copy esz x y => match ev e x, ev e y with
    | some v, some w => match sliceV H v, sliceV H w with
      | some none, some _ => some (.int .i64 0, H)
      | some (some _), some none => some (.int .i64 0, H)
      | some (some (a, n, _, g, esz', ro, cs)), some (some (b, m, _, _, _, _, ds)) =>
        if min m n = 0 then some (.int .i64 0, H)
        else if ro = false ∧ a.off + min m n * esz ≤ cs.length ∧ b.off + min m n * esz ≤ ds.length then
          some (.int .i64 (min m n : Nat), H.set a.block (.cells g esz' ro (wr cs a.off ((ds.drop b.off).take (min m n * esz))))) else none
      | _, _ => none
    | _, _ => none
  | .appendZ esz bytes zero x y => match ev e x, ev e y with
    | some (.slice none 0 0), some (.int _ n) => if 0 < n ∧ n * bytes ≤ 281474976710656 ∧ n < 9223372036854775808 then some (.slice (some ⟨H.length, 0, some 1⟩) n.toNat n.toNat, H ++ [.cells 0 esz false (List.replicate n.toNat zero).flatten]) else none
    | _, _ => none
  | .indexStr x i => match ev e x, ev e i with
    | some (.string s), some (.int _ n) => if 0 ≤ n ∧ n < s.size then some (.int .u8 (strAt s n.toNat), H) else none
    | _, _ => none
  | .str op args => match evs e args with
    | some l => match strV op l with | some v => some (v, H) | none => none
    | none => none
  | .carry sub x y c => match ev e x, ev e y, ev e c with
    | some u, some v, some w => match carryV sub u v w with | some r => some (r, H) | none => none
    | _, _, _ => none
  | .minmax max args => match evs e args with
    | some (v :: l) => match mmV max v l with | some u => some (u, H) | none => none
    | _ => none
  | .makeMap => some (.map (some H.length), H ++ [.map [] 0])
  | .lookup zero ok x i => match ev e x, ev e i with
    | some v, some (.int k n) => match mapAt H v with
      | some (_, es, _) => (lookV zero ok es k n).map fun r => (r, H)
      | none => none
    | _, _ => none
  | .mapUpdate m k x => match ev e m, ev e k, ev e x with
    | some v, some (.int k n), some u => match mapAt H v with
      | some (r, es, c) => (putV es c k n u).map fun y => (.tuple #[], H.set r (.map y.1 y.2))
      | none => none
    | _, _, _ => none
  | .mapEntry zero m k => match ev e m, ev e k with
    | some v, some (.int k n) => match mapAt H v with
      | some (r, es, c) => (entryV zero es c k n).map fun y => (y.1, H.set r (.map y.2.1 y.2.2))
      | none => none
    | _, _ => none
  | .entryStore m s x => match ev e m, ev e s, ev e x with
    | some v, some (.int _ b), some u => match mapAt H v with
      | some (r, es, c) => (stampV es b u).map fun y => (.tuple #[], H.set r (.map y c))
      | none => none
    | _, _, _ => none
  | .mapDelete m k => match ev e m, ev e k with
    | some v, some (.int k n) => match mapAt H v with
      | some (r, es, c) => (delV es k n).map fun y => (.tuple #[], H.set r (.map y c))
      | none => none
    | _, _ => none
  | .lenMap x => match ev e x with
    | some v => match mapAt H v with
      | some (_, es, _) => some (.int .i64 es.length, H)
      | none => none
    | none => none
  | .rangeMap x => match ev e x with
    | some v => match mapAt H v with
      | some (r, _, c) => some (.pointer (some ⟨H.length, 0, some 1⟩), H ++ [.iter r c [] c])
      | none => none
    | none => none
  | .nextMap _ => none
  | .entryAt x => match ev e x with
    | some v => match iterAt H v with
      | some (_, _, _, seen, c0, es, clock) => (entryOf seen c0 es clock).map fun y => (.tuple #[y.key, y.val], H)
      | none => none
    | none => none
  | .callF .. | .callV .. | .bad => none

theorem evK_of {e : Env} {x : AOpd} {v : Value} {K : Value → Prop} (h : ev e x = some v) (hk : K v) : evK e x K := by unfold evK; rw [h]; exact hk
theorem evoK_of {e : Env} {x : Option AOpd} {v : Option Value} {K : Option Value → Prop} (h : evo e x = some v) (hk : K v) : evoK e x K := evoK_iff.2 ⟨v, h, hk⟩

theorem opK_of {op : AOp} {e : Env} {H H' : Heap} {v : Value} {K : Value → Heap → Prop} (h : opV op e H = some (v, H')) (hk : K v H') : opK op e H K := by
  cases op with
  | mov x =>
    simp only [opV] at h; split at h
    · rename_i hx; cases h; exact evK_of hx hk
    · cases h
  | pick c a b =>
    simp only [opV] at h; split at h
    · rename_i t u w hc ha hb
      cases h
      refine evK_of hc ?_
      cases t with
      | true => exact evK_of ha (by simpa using hk)
      | false => exact evK_of hb (by simpa using hk)
    · cases h
  | alloc cells => simp only [opV] at h; cases h; exact hk
  | box x =>
    simp only [opV] at h; split at h
    · rename_i hx; split at h
      · rename_i hl; cases h; exact evK_of hx (cellsK_iff.2 ⟨_, hl, hk⟩)
      · cases h
    · cases h
  | build cells parts =>
    simp only [opV] at h; split at h
    · rename_i hx; cases h; exact fillK_iff.2 ⟨_, hx, hk⟩
    · cases h
  | buildSlice esz len cells parts =>
    simp only [opV] at h; split at h
    · rename_i hx; cases h; exact fillK_iff.2 ⟨_, hx, hk⟩
    · cases h
  | load agg x =>
    simp only [opV] at h; split at h
    · rename_i hx; split at h
      · rename_i hl; cases h; exact evK_of hx (loadK_iff.2 ⟨_, hl, hk⟩)
      · cases h
    · cases h
  | store n a x =>
    simp only [opV] at h; split at h
    · rename_i ha hx; split at h
      · rename_i hl hat; split at h
        · rename_i hc; cases h; exact evK_of ha (evK_of hx (cellsK_iff.2 ⟨_, hl, atK_iff.2 ⟨_, _, _, _, hat, by rw [if_pos hc]; exact hk⟩⟩))
        · cases h
      · cases h
    · cases h
  | nilCheck x =>
    simp only [opV] at h; split at h
    · rename_i hx; split at h
      · rename_i y hat; obtain ⟨g, esz, ro, cs⟩ := y; cases h; exact evK_of hx (atK_iff.2 ⟨_, _, _, _, hat, hk⟩)
      · cases h
    · cases h
  | ibin op x y =>
    simp only [opV] at h; split at h
    · rename_i hx hy; split at h
      · rename_i hb; cases h; exact evK_of hx (evK_of hy (by simp only [intK]; exact ibinK_of hb hk))
      · cases h
    · cases h
  | eqB neg x y =>
    simp only [opV] at h; split at h
    · rename_i hx hy; cases h; exact evK_of hx (evK_of hy hk)
    · cases h
  | eqA neg s x y =>
    simp only [opV] at h; split at h
    · rename_i hx hy; split at h
      · rename_i hs; cases h; exact evK_of hx (evK_of hy (by simp only [aggK, sameK, hs]; exact hk))
      · cases h
    · cases h
  | eqP neg x y =>
    simp only [opV] at h; split at h
    · rename_i hx hy; cases h; exact evK_of hx (evK_of hy hk)
    · rename_i hx hy; split at h
      · rename_i y' hat; obtain ⟨g, esz, ro, cs⟩ := y'; cases h; exact evK_of hx (evK_of hy (atK_iff.2 ⟨_, _, _, _, hat, hk⟩))
      · cases h
    · rename_i hx hy; split at h
      · rename_i y' hat; obtain ⟨g, esz, ro, cs⟩ := y'; cases h; exact evK_of hx (evK_of hy (atK_iff.2 ⟨_, _, _, _, hat, hk⟩))
      · cases h
    · cases h
  | eqS neg x y =>
    simp only [opV] at h; split at h
    · rename_i hx hy
      refine evK_of hx (evK_of hy ?_)
      split at h
      · rename_i hs; cases h; exact sliceK_of.1 hs hk
      · rename_i a n c g esz ro cs hs
        split at h
        · cases h
        · rename_i hc; cases h; exact sliceK_of.2 _ _ _ _ _ _ _ hs ⟨hk, fun h => (hc h).elim⟩
      · cases h
    · cases h
  | cap x =>
    simp only [opV] at h; split at h
    · rename_i hx
      refine evK_of hx ?_
      split at h
      · rename_i hs; cases h; exact sliceK_of.1 hs hk
      · rename_i hs; refine sliceK_of.2 _ _ _ _ _ _ _ hs ?_
        split at h
        · rename_i hro; rw [if_pos hro]; cases h; exact hk
        · cases h
      · cases h
    · cases h
  | un op x =>
    simp only [opV] at h; split at h
    · rename_i hx; split at h
      · rename_i hu; cases h; exact evK_of hx (unK_of hu hk)
      · cases h
    · cases h
  | conv k x =>
    simp only [opV] at h; split at h
    · rename_i hx; cases h; exact evK_of hx hk
    · cases h
  | func fn first captured =>
    simp only [opV] at h; split at h
    · rename_i hx hy; cases h; exact evsK_iff.2 ⟨_, hx, evsK_iff.2 ⟨_, hy, hk⟩⟩
    · cases h
  | makeSlice esz bytes zero len cap =>
    simp only [opV] at h; split at h
    · rename_i hx hy; split at h
      · rename_i hc; cases h; exact evK_of hx (evK_of hy (by simp only [intK]; rw [if_pos hc]; exact hk))
      · cases h
    · cases h
  | slice esz x lo hi mx =>
    simp only [opV] at h; split at h
    · rename_i hx hlo hhi hmx
      refine evK_of hx (evoK_of hlo (evoK_of hhi (evoK_of hmx ?_)))
      split at h
      · rename_i hs; split at h
        · rename_i h1 h2 h3; split at h
          · rename_i hc; cases h; exact sliceK_of.1 hs (slLow_of h1 (slHigh_of h2 (slHigh_of h3 (by rw [if_pos hc]; exact hk))))
          · cases h
        · cases h
      · rename_i hs; split at h
        · rename_i h1 h2 h3; split at h
          · rename_i hc; cases h; exact sliceK_of.2 _ _ _ _ _ _ _ hs (slLow_of h1 (slHigh_of h2 (slHigh_of h3 (by rw [if_pos hc]; exact hk))))
          · cases h
        · cases h
      · cases h
    · cases h
  | sliceA esz n x lo hi =>
    simp only [opV] at h; split at h
    · rename_i hx hlo hhi; split at h
      · rename_i hat h1 h2; split at h
        · rename_i hc; cases h; exact evK_of hx (evoK_of hlo (evoK_of hhi (atK_iff.2 ⟨_, _, _, _, hat, slLow_of h1 (slHigh_of h2 (by rw [if_pos hc]; exact hk))⟩)))
        · cases h
      · cases h
    · cases h
  | fieldAddr off x =>
    simp only [opV] at h; split at h
    · rename_i hx; split at h
      · rename_i y hat; obtain ⟨g, esz, ro, cs⟩ := y; cases h; exact evK_of hx (atK_iff.2 ⟨_, _, _, _, hat, hk⟩)
      · cases h
    · cases h
  | field off agg x =>
    simp only [opV] at h; split at h
    · rename_i hx; split at h
      · rename_i hl; cases h; exact evK_of hx (by simp only [aggK]; exact partK_iff.2 ⟨_, hl, hk⟩)
      · cases h
    · cases h
  | indexAddr esz x i =>
    simp only [opV] at h; split at h
    · rename_i hx hi; split at h
      · rename_i hs; split at h
        · rename_i hc; cases h; exact evK_of hx (evK_of hi (sliceK_of.2 _ _ _ _ _ _ _ hs (by rw [if_pos hc]; exact hk)))
        · cases h
      · cases h
    · cases h
  | indexArr esz n x i =>
    simp only [opV] at h; split at h
    · rename_i hx hi; split at h
      · rename_i y hat; obtain ⟨g, esz', ro, cs⟩ := y; split at h
        · rename_i hc; cases h; exact evK_of hx (evK_of hi (atK_iff.2 ⟨_, _, _, _, hat, by rw [if_pos hc]; exact hk⟩))
        · cases h
      · cases h
    · cases h
  | index esz n agg x i =>
    simp only [opV] at h; split at h
    · rename_i hx hi; split at h
      · rename_i hc; split at h
        · rename_i hp; cases h; exact evK_of hx (evK_of hi (by simp only [intK, aggK]; rw [if_pos hc]; exact partK_iff.2 ⟨_, hp, hk⟩))
        · cases h
      · cases h
    · cases h
  | extract i x =>
    simp only [opV] at h; split at h
    · rename_i hx; split at h
      · rename_i hi; cases h; exact evK_of hx (by simp only [hi]; exact hk)
      · cases h
    · cases h
  | len x =>
    simp only [opV] at h; split at h
    · rename_i hx; split at h
      · rename_i hs; cases h; exact evK_of hx (sliceK_of.1 hs hk)
      · rename_i hs; cases h; exact evK_of hx (sliceK_of.2 _ _ _ _ _ _ _ hs hk)
      · cases h
    · cases h
  | append esz bytes x y =>
    simp only [opV] at h; split at h
    · rename_i hx hy; split at h
      · rename_i hs; exact evK_of hx (evK_of hy (sliceK_of.1 hs (appendK_of h hk)))
      · rename_i hs; split at h
        · rename_i hc; exact evK_of hx (evK_of hy (sliceK_of.2 _ _ _ _ _ _ _ hs (by rw [if_pos hc]; exact appendK_of h hk)))
        · cases h
      · cases h
    · cases h
  | clearS esz zero x =>
    simp only [opV] at h; split at h
    · rename_i hx; refine evK_of hx ?_
      split at h
      · rename_i hs; cases h; exact sliceK_of.1 hs hk
      · rename_i hs
        refine sliceK_of.2 _ _ _ _ _ _ _ hs ?_
        split at h
        · rename_i hz; rw [if_pos hz]; cases h; exact hk
        · rename_i hz; rw [if_neg hz]; split at h
          · rename_i hc; rw [if_pos hc]; cases h; exact hk
          · cases h
      · cases h
    · cases h
  | copy esz x y =>
    simp only [opV] at h; split at h
    · rename_i hx hy
      refine evK_of hx (evK_of hy ?_)
      split at h
      · rename_i w hs hs2; cases h
        refine sliceK_of.1 hs ?_
        cases w with
        | none => exact sliceK_of.1 hs2 hk
        | some w => obtain ⟨a, n, c, g, esz', ro, cs⟩ := w; exact sliceK_of.2 _ _ _ _ _ _ _ hs2 hk
      · rename_i w hs hs2; cases h
        obtain ⟨a, n, c, g, esz', ro, cs⟩ := w
        exact sliceK_of.2 _ _ _ _ _ _ _ hs (sliceK_of.1 hs2 hk)
      · rename_i hs hs2
        refine sliceK_of.2 _ _ _ _ _ _ _ hs (sliceK_of.2 _ _ _ _ _ _ _ hs2 ?_)
        split at h
        · rename_i hz; rw [if_pos hz]; cases h; exact hk
        · rename_i hz; rw [if_neg hz]; split at h
          · rename_i hc; rw [if_pos hc]; cases h; exact hk
          · cases h
      · cases h
    · cases h
  | appendZ esz bytes zero x y =>
    simp only [opV] at h; split at h
    · rename_i hx hy; split at h
      · rename_i hc; cases h; exact evK_of hx (evK_of hy (by simp only [intK]; rw [if_pos hc]; exact hk))
      · cases h
    · cases h
  | indexStr x i =>
    simp only [opV] at h; split at h
    · rename_i hx hy; split at h
      · rename_i hc; cases h; exact evK_of hx (evK_of hy (by simp only [intK]; rw [if_pos hc]; exact hk))
      · cases h
    · cases h
  | str op args =>
    simp only [opV] at h; split at h
    · rename_i hx; split at h
      · rename_i hv; cases h; exact evsK_iff.2 ⟨_, hx, by simp only [hv]; exact hk⟩
      · cases h
    · cases h
  | carry sub x y c =>
    simp only [opV] at h; split at h
    · rename_i hx hy hz; split at h
      · rename_i r hr; cases h; exact evK_of hx (evK_of hy (evK_of hz (by simp only [hr]; exact hk)))
      · cases h
    · cases h
  | minmax max args =>
    simp only [opV] at h; split at h
    · rename_i hx; split at h
      · rename_i hm; cases h; exact evsK_iff.2 ⟨_, hx, minmaxK_of hm hk⟩
      · cases h
    · cases h
  | makeMap => simp only [opV, Option.some.injEq, Prod.mk.injEq] at h; obtain ⟨rfl, rfl⟩ := h; exact hk
  | lookup zero ok x i =>
    simp only [opV] at h; split at h
    · rename_i hx hi; split at h
      · rename_i hm; cases hl : lookV zero ok _ _ _ with
        | none => rw [hl] at h; cases h
        | some r => rw [hl] at h; cases h; exact evK_of hx (evK_of hi (by simp only [intK, hm, hl]; exact hk))
      · cases h
    · cases h
  | mapUpdate m k x =>
    simp only [opV] at h; split at h
    · rename_i hx hi hy; split at h
      · rename_i hm; cases hl : putV _ _ _ _ _ with
        | none => rw [hl] at h; cases h
        | some r => rw [hl] at h; cases h; exact evK_of hx (evK_of hi (evK_of hy (by simp only [intK, hm, hl]; exact hk)))
      · cases h
    · cases h
  | mapEntry zero m k =>
    simp only [opV] at h; split at h
    · rename_i hx hi; split at h
      · rename_i hm; cases hl : entryV zero _ _ _ _ with
        | none => rw [hl] at h; cases h
        | some r => rw [hl] at h; cases h; exact evK_of hx (evK_of hi (by simp only [intK, hm, hl]; exact hk))
      · cases h
    · cases h
  | entryStore m s x =>
    simp only [opV] at h; split at h
    · rename_i hx hi hy; split at h
      · rename_i hm; cases hl : stampV _ _ _ with
        | none => rw [hl] at h; cases h
        | some r => rw [hl] at h; cases h; exact evK_of hx (evK_of hi (evK_of hy (by simp only [intK, hm, hl]; exact hk)))
      · cases h
    · cases h
  | mapDelete m k =>
    simp only [opV] at h; split at h
    · rename_i hx hi; split at h
      · rename_i hm; cases hl : delV _ _ _ with
        | none => rw [hl] at h; cases h
        | some r => rw [hl] at h; cases h; exact evK_of hx (evK_of hi (by simp only [intK, hm, hl]; exact hk))
      · cases h
    · cases h
  | lenMap x =>
    simp only [opV] at h; split at h
    · rename_i hx; split at h
      · rename_i hm; cases h; exact evK_of hx (by simp only [hm]; exact hk)
      · cases h
    · cases h
  | rangeMap x =>
    simp only [opV] at h; split at h
    · rename_i hx; split at h
      · rename_i hm; cases h; exact evK_of hx (by simp only [hm]; exact hk)
      · cases h
    · cases h
  | nextMap x => simp [opV] at h
  | entryAt x =>
    simp only [opV] at h; split at h
    · rename_i hx; split at h
      · rename_i hm; cases hl : entryOf _ _ _ _ with
        | none => rw [hl] at h; cases h
        | some r => rw [hl] at h; cases h; exact evK_of hx (by simp only [hm, hl]; exact hk)
      · cases h
    · cases h
  | callF f args => simp [opV] at h
  | callV x args => simp [opV] at h
  | bad => simp [opV] at h

end Go.Am
