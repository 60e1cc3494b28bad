/-
  The abstract machine, part D: the operations, as predicates on what follows; how the model's operations are compiled to them. For any program.
-/
import Derived.Test.YtfkhljgifndbpaaDoorAmC
import Derived.Still
namespace Go.Am

inductive AOpd where
  | tmp (t : Nat)
  | const (v : Value)
  | bad

/-- Operations on strings (and the test whether an interface is nil). -/
inductive SOp where
  | add
  | cmp (neg : Bool)
  | len
  | isNil (neg : Bool)

abbrev str (l : List UInt8) : Value := .string ⟨l.toArray⟩

inductive AOp where
  | mov (x : AOpd)
  | pick (c a b : AOpd)
  | alloc (cells : List Value)
  | box (x : AOpd)
  | build (cells : List Value) (parts : List (Nat × Nat × AOpd))
  | buildSlice (esz len : Nat) (cells : List Value) (parts : List (Nat × Nat × AOpd))
  | load (agg : Option Nat) (x : AOpd)
  | store (n : Nat) (a x : AOpd)
  | nilCheck (x : AOpd)
  | ibin (op : BinOp) (x y : AOpd)
  | eqB (neg : Bool) (x y : AOpd)
  | eqA (neg : Bool) (shape : List Bool) (x y : AOpd)
  | eqP (neg : Bool) (x y : AOpd)
  | eqS (neg : Bool) (x y : AOpd)
  | cap (x : AOpd)
  | un (op : UnOp) (x : AOpd)
  | conv (k : IntKind) (x : AOpd)
  | func (fn : Fn) (first captured : List AOpd)
  | makeSlice (esz bytes : Nat) (zero : List Value) (len cap : AOpd)
  | slice (esz : Nat) (x : AOpd) (lo hi mx : Option AOpd)
  | sliceA (esz n : Nat) (x : AOpd) (lo hi : Option AOpd)
  | fieldAddr (off : Nat) (x : AOpd)
  | field (off : Nat) (agg : Option Nat) (x : AOpd)
  | indexAddr (esz : Nat) (x i : AOpd)
  | indexArr (esz n : Nat) (x i : AOpd)
  | index (esz n : Nat) (agg : Option Nat) (x i : AOpd)
  | extract (i : Nat) (x : AOpd)
  | len (x : AOpd)
  | append (esz bytes : Nat) (x y : AOpd)
  | appendZ (esz bytes : Nat) (zero : List Value) (x y : AOpd)
  | indexStr (x i : AOpd)
  | str (op : SOp) (args : List AOpd)
  | carry (sub : Bool) (x y c : AOpd)
  | makeMap
  | lookup (zero : Value) (ok : Bool) (x i : AOpd)
  | mapUpdate (m k x : AOpd)
  | mapEntry (zero : Value) (m k : AOpd)
  | entryStore (m s x : AOpd)
  | mapDelete (m k : AOpd)
  | lenMap (x : AOpd)
  | rangeMap (x : AOpd)
  | nextMap (x : AOpd)
  | entryAt (x : AOpd)
  | copy (esz : Nat) (x y : AOpd)
  | clearS (esz : Nat) (zero : List Value) (x : AOpd)
  | minmax (max : Bool) (args : List AOpd)
  | callF (f : Nat) (args : List AOpd)
  | callV (x : AOpd) (args : List AOpd)
  | bad

structure AInstr where
  dst : Option Nat
  guard : Option (Nat × Bool)
  op : AOp

def ev (e : Env) : AOpd → Option Value
  | .tmp t => e.get t
  | .const v => some v
  | .bad => none

/-- With the values of operands. -/
def evK (e : Env) (x : AOpd) (K : Value → Prop) : Prop := match ev e x with | some v => K v | none => False
def evsK (e : Env) : List AOpd → (List Value → Prop) → Prop
  | [], K => K []
  | x :: r, K => evK e x fun v => evsK e r fun l => K (v :: l)
def evoK (e : Env) : Option AOpd → (Option Value → Prop) → Prop
  | none, K => K none
  | some x, K => evK e x fun v => K (some v)

def intK : Value → (IntKind → Int → Prop) → Prop
  | .int k n, K => K k n
  | _, _ => False
def boolK : Value → (Bool → Prop) → Prop
  | .bool b, K => K b
  | _, _ => False
def ptrK : Value → (Addr → Prop) → Prop
  | .pointer (some a), K => K a
  | _, _ => False
def aggK : Value → (List Value → Prop) → Prop
  | .agg cs, K => K cs.toList
  | _, _ => False
/-- The cells of a value that fits into memory. -/
def cellsK : Value → (List Value → Prop) → Prop
  | .agg cs, K => K cs.toList
  | .tuple _, _ => False
  | v, K => K [v]

/-- Cells written from o on. -/
def wr : List Value → Nat → List Value → List Value
  | cs, _, [] => cs
  | cs, o, v :: l => wr (cs.set o v) (o + 1) l

/-- Parts written into a row, each of the size that it must have. -/
def fillK (e : Env) : List Value → List (Nat × Nat × AOpd) → (List Value → Prop) → Prop
  | cs, [], K => K cs
  | cs, (off, size, x) :: r, K => evK e x fun v => cellsK v fun l => if l.length = size ∧ off + size ≤ cs.length then fillK e (wr cs off l) r K else False

def iadd (k : IntKind) (a b : Int) : Int := k.wrap (a + b)
def isub (k : IntKind) (a b : Int) : Int := k.wrap (a - b)
def imul (k : IntKind) (a b : Int) : Int := k.wrap (a * b)
def iquo (k : IntKind) (a b : Int) : Int := k.wrap (a.tdiv b)
def irem (a b : Int) : Int := a.tmod b
def iand (k : IntKind) (a b : Int) : Int := k.wrap (BitVec.ofInt k.bits a &&& BitVec.ofInt k.bits b).toNat
def ior (k : IntKind) (a b : Int) : Int := k.wrap (BitVec.ofInt k.bits a ||| BitVec.ofInt k.bits b).toNat
def ixor (k : IntKind) (a b : Int) : Int := k.wrap (BitVec.ofInt k.bits a ^^^ BitVec.ofInt k.bits b).toNat
def iandn (k : IntKind) (a b : Int) : Int := k.wrap (BitVec.ofInt k.bits a &&& ~~~ (BitVec.ofInt k.bits b)).toNat
def ishl (k : IntKind) (a b : Int) : Int := k.wrap (a * 2 ^ (min b.toNat k.bits))
def ishr (k : IntKind) (a b : Int) : Int := a.fdiv (2 ^ (min b.toNat k.bits))
def iconv (k : IntKind) (a : Int) : Int := k.wrap a

def ibinK (op : BinOp) (k : IntKind) (a : Int) (k' : IntKind) (b : Int) (K : Value → Prop) : Prop :=
  match op with
  | .shl => if b < 0 then False else K (.int k (ishl k a b))
  | .shr => if b < 0 then False else K (.int k (ishr k a b))
  | _ => if k = k' then match op with
    | .add => K (.int k (iadd k a b))
    | .sub => K (.int k (isub k a b))
    | .mul => K (.int k (imul k a b))
    | .quo => if b = 0 then False else K (.int k (iquo k a b))
    | .rem => if b = 0 then False else K (.int k (irem a b))
    | .and => K (.int k (iand k a b))
    | .or => K (.int k (ior k a b))
    | .xor => K (.int k (ixor k a b))
    | .andNot => K (.int k (iandn k a b))
    | .eql => K (.bool (a == b))
    | .neq => K (.bool (a != b))
    | .lss => K (.bool (a < b))
    | .leq => K (.bool (a ≤ b))
    | .gtr => K (.bool (b < a))
    | .geq => K (.bool (b ≤ a))
    | _ => False
    else False

def borrow (a b : Int) : Int := if a < b then 1 else 0
/-- A sum, or a difference, of 64 bits with what is carried. -/
def carryV (sub : Bool) : Value → Value → Value → Option Value
  | .int .u64 a, .int .u64 b, .int .u64 c => if 0 ≤ a ∧ 0 ≤ b ∧ b ≤ 18446744073709551615 ∧ 0 ≤ c ∧ c ≤ 1 then
      some (.tuple #[.int .u64 (if sub then (a - b - c) % 18446744073709551616 else (a + b + c) % 18446744073709551616), .int .u64 (if sub then borrow a (b + c) else (a + b + c) / 18446744073709551616)]) else none
  | _, _, _ => none
def unK (op : UnOp) (v : Value) (K : Value → Prop) : Prop :=
  match op, v with
  | .neg, .int k n => K (.int k (isub k 0 n))
  | .xor, .int k n => K (.int k (ixor k (if k.signed then -1 else k.max) n))
  | .not, .bool b => K (.bool !b)
  | _, _ => False

/-- Are two rows of plain cells (bools where the shape says so, else integers) the same? -/
def sameS : List Bool → List Value → List Value → Option Bool
  | [], [], [] => some true
  | false :: s, .int k a :: l, .int k' b :: l' => if k = k' then (sameS s l l').map fun t => (a == b) && t else none
  | true :: s, .bool a :: l, .bool b :: l' => (sameS s l l').map fun t => (a == b) && t
  | _, _, _ => none
def sameK (s : List Bool) (l l' : List Value) (K : Bool → Prop) : Prop := match sameS s l l' with
  | some t => K t
  | none => False

/-- A slice's address, length and least capacity; its object is of its present generation. nil has no address. -/
def sliceK (H : Heap) (v : Value) (Knil : Prop) (K : Addr → Nat → Nat → Nat → Nat → Bool → List Value → Prop) : Prop :=
  match v with
  | .slice none 0 0 => Knil
  | .slice (some a) n c => atK H a fun g esz ro cs => K a n c g esz ro cs
  | _ => False

/-- The cells of a slice. -/
def readK (H : Heap) (v : Value) (esz : Nat) (K : List Value → Prop) : Prop :=
  sliceK H v (K []) fun a n _ _ _ _ cs => if a.off + n * esz ≤ cs.length then K ((cs.drop a.off).take (n * esz)) else False

def slLow (v : Option Value) (K : Nat → Prop) : Prop := match v with
  | none => K 0
  | some v => intK v fun _ i => if 0 ≤ i then K i.toNat else False
def slHigh (v : Option Value) (n : Nat) (K : Nat → Prop) : Prop := match v with
  | none => K n
  | some v => intK v fun _ i => if 0 ≤ i then K i.toNat else False

def appendK (H : Heap) (esz bytes : Nat) (v : Value) (new : List Value) (m : Nat) (K : Value → Heap → Prop) : Prop :=
  sliceK H v (if m = 0 then K v H else if m * bytes ≤ 140737488355328 then K (.slice (some ⟨H.length, 0, some 1⟩) m m) (H ++ [.cells 0 esz false new]) else False)
    fun a n c g esz' ro cs =>
      if m = 0 then (if n ≤ c then K v H else False)
      else if n + m ≤ c then
        if ro = false ∧ a.off + (n + m) * esz ≤ cs.length then K (.slice (some a) (n + m) c) (H.set a.block (.cells g esz' ro (wr cs (a.off + n * esz) new))) else False
      else if esz' = esz ∧ a.off + n * esz ≤ cs.length ∧ (n + m) * bytes ≤ 140737488355328 then
        if ro then K (.slice (some ⟨H.length, 0, some 1⟩) (n + m) (n + m)) (H ++ [.cells 0 esz false ((cs.drop a.off).take (n * esz) ++ new)])
        else K (.slice (some ⟨a.block, 0, some (g + 2)⟩) (n + m) (n + m)) (H.set a.block (.cells (g + 1) esz false ((cs.drop a.off).take (n * esz) ++ new))) ∨
          (K (.slice (some a) (n + m) (n + m)) (H.set a.block (.cells g esz false (cs.take (a.off + n * esz) ++ new))) ∧
           K (.slice (some ⟨H.length, 0, some 1⟩) (n + m) (n + m)) (H ++ [.cells 0 esz false ((cs.drop a.off).take (n * esz) ++ new)]))
      else False

def minmaxK (max : Bool) : Value → List Value → (Value → Prop) → Prop
  | v, [], K => K v
  | v, w :: l, K => intK v fun k a => intK w fun _ b => minmaxK max (.int k (if max then (if b > a then b else a) else (if b < a then b else a))) l K

/-- A string's byte. -/
def strAt (s : ByteArray) (n : Nat) : Int := ((s.data.toList.getD n 0).toNat : Int)

def strV : SOp → List Value → Option Value
  | .add, [.string a, .string b] => if a.size + b.size ≤ 9223372036854775807 then some (.string (a ++ b)) else none
  | .cmp neg, [.string a, .string b] => some (.bool (if neg then !(a.data.toList == b.data.toList) else (a.data.toList == b.data.toList)))
  | .len, [.string a] => some (.int .i64 a.size)
  | .isNil neg, [.nilIface] => some (.bool !neg)
  | .isNil neg, [.iface _ _] => some (.bool neg)
  | _, _ => none

/-- An entry of a map, by a key that is a whole number; none: a key is of another kind. -/
def mfind (k : IntKind) (n : Int) : List MapEntry → Nat → Option (Option (Nat × Value))
  | [], _ => some none
  | e :: es, i => match e.key with
    | .int k' b => if k = k' then (if n = b then some (some (i, e.val)) else mfind k n es (i + 1)) else none
    | _ => none
/-- A map's object, its entries, its clock. -/
def mapAt (H : Heap) : Value → Option (Nat × List MapEntry × Nat)
  | .map (some r) => match H[r]? with
    | some (.map es c) => some (r, es, c)
    | _ => none
  | _ => none
/-- Who goes over a map: its object, the map's, since when, those seen, the last look's clock, the map's entries and clock. -/
def iterAt (H : Heap) : Value → Option (Nat × Nat × Nat × List Nat × Nat × List MapEntry × Nat)
  | .pointer (some ⟨k, 0, some 1⟩) => match H[k]? with
    | some (.iter r since seen c0) => (match H[r]? with
      | some (.map es c) => some (k, r, since, seen, c0, es, c)
      | _ => none)
    | _ => none
  | _ => none
/-- The entries not seen yet. -/
def leftL (es : List MapEntry) (seen : List Nat) : List MapEntry := es.filter fun e => !seen.contains e.born
def entryOf (seen : List Nat) (c0 : Nat) (es : List MapEntry) (clock : Nat) : Option MapEntry :=
  if clock = c0 then (match seen.getLast? with
    | some s => (match es.find? (fun e => e.born == s) with
      | some e => if flat e.key = true then some e else none
      | none => none)
    | none => none) else none
def okV (ok : Bool) (v : Value) (b : Bool) : Value := if ok then .tuple #[v, .bool b] else v
def lookV (zero : Value) (ok : Bool) (es : List MapEntry) (k : IntKind) (n : Int) : Option Value :=
  match mfind k n es 0 with
  | some (some (_, u)) => some (okV ok u true)
  | some none => some (okV ok zero false)
  | none => none
/-- The entries with the i-th one's value turned. -/
def setVal (es : List MapEntry) (i : Nat) (v : Value) : List MapEntry := es.modify i fun e => { e with val := v }
def putV (es : List MapEntry) (c : Nat) (k : IntKind) (n : Int) (v : Value) : Option (List MapEntry × Nat) :=
  match mfind k n es 0 with
  | some (some (i, _)) => some (setVal es i v, c)
  | some none => some (es ++ [⟨.int k n, v, c⟩], c + 1)
  | none => none
def bornAt (es : List MapEntry) (i : Nat) : Int := ((((es[i]?).map (·.born)).getD 0 : Nat) : Int)
def entryV (zero : Value) (es : List MapEntry) (c : Nat) (k : IntKind) (n : Int) : Option (Value × List MapEntry × Nat) :=
  match mfind k n es 0 with
  | some (some (i, u)) => some (.tuple #[u, .int .i64 (bornAt es i)], es, c)
  | some none => some (.tuple #[zero, .int .i64 c], es ++ [⟨.int k n, zero, c⟩], c + 1)
  | none => none
def stampV (es : List MapEntry) (b : Int) (v : Value) : Option (List MapEntry) := (es.findIdx? fun e => (e.born : Int) == b).map fun i => setVal es i v
def delV (es : List MapEntry) (k : IntKind) (n : Int) : Option (List MapEntry) :=
  match mfind k n es 0 with
  | some (some (i, _)) => some (es.eraseIdx i)
  | some none => some es
  | none => none

def opK (op : AOp) (e : Env) (H : Heap) (K : Value → Heap → Prop) : Prop :=
  match op with
  | .mov x => evK e x fun v => K v H
  | .pick c a b => evK e c fun t => boolK t fun t => if t = true then evK e a fun v => K v H else evK e b fun v => K v H
  | .alloc cells => K (.pointer (some ⟨H.length, 0, some 1⟩)) (H ++ [.cells 0 0 false cells])
  | .box x => evK e x fun v => cellsK v fun l => K (.pointer (some ⟨H.length, 0, some 1⟩)) (H ++ [.cells 0 0 false l])
  | .build cells parts => fillK e cells parts fun cs => K (.agg cs.toArray) H
  | .buildSlice esz len cells parts => fillK e cells parts fun cs => K (.slice (some ⟨H.length, 0, some 1⟩) len len) (H ++ [.cells 0 esz false cs])
  | .load agg x => evK e x fun v => ptrK v fun a => loadK H a agg fun v => K v H
  | .store n a x => evK e a fun p => evK e x fun v => ptrK p fun a => cellsK v fun l => atK H a fun g esz ro cs =>
      if l.length = n ∧ ro = false ∧ a.off + n ≤ cs.length then K (.tuple #[]) (H.set a.block (.cells g esz ro (wr cs a.off l))) else False
  | .nilCheck x => evK e x fun v => ptrK v fun a => atK H a fun _ _ _ _ => K v H
  | .ibin op x y => evK e x fun v => evK e y fun w => intK v fun k a => intK w fun k' b => ibinK op k a k' b fun v => K v H
  | .eqB neg x y => evK e x fun v => evK e y fun w => boolK v fun a => boolK w fun b => K (.bool (if neg then !(a == b) else (a == b))) H
  | .eqA neg s x y => evK e x fun v => evK e y fun w => aggK v fun a => aggK w fun b => sameK s a b fun t => K (.bool (if neg then !t else t)) H
  | .eqP neg x y => evK e x fun v => evK e y fun w => match v, w with
      | .pointer none, .pointer none => K (.bool !neg) H
      | .pointer (some a), .pointer none => atK H a fun _ _ _ _ => K (.bool neg) H
      | .pointer none, .pointer (some a) => atK H a fun _ _ _ _ => K (.bool neg) H
      | _, _ => False
  | .eqS neg x y => evK e x fun v => evK e y fun w => match w with
      | .slice none 0 0 => sliceK H v (K (.bool !neg) H) fun _ _ c _ _ _ _ => K (.bool neg) H ∧ (c = 0 → K (.bool !neg) H)
      | _ => False
  | .cap x => evK e x fun v => sliceK H v (K (.int .i64 0) H) fun _ _ c _ _ ro _ => if ro = true then K (.int .i64 c) H else False
  | .un op x => evK e x fun v => unK op v fun v => K v H
  | .conv k x => evK e x fun v => intK v fun _ n => K (.int k (iconv k n)) H
  | .func fn first captured => evsK e first fun a => evsK e captured fun b => K (.func fn a.toArray b.toArray) H
  | .makeSlice esz bytes zero len cap => evK e len fun v => evK e cap fun w => intK v fun _ l => intK w fun _ c =>
      if 0 ≤ l ∧ l ≤ c ∧ c * bytes ≤ 281474976710656 ∧ c < 9223372036854775808 then K (.slice (some ⟨H.length, 0, some 1⟩) l.toNat c.toNat) (H ++ [.cells 0 esz false (List.replicate c.toNat zero).flatten]) else False
  | .slice esz x lo hi mx => evK e x fun v => evoK e lo fun lo => evoK e hi fun hi => evoK e mx fun mx =>
      sliceK H v (slLow lo fun l => slHigh hi 0 fun h => slHigh mx 0 fun m => if l = 0 ∧ h = 0 ∧ m = 0 then K v H else False)
        fun a n c _ esz' _ cs => slLow lo fun l => slHigh hi n fun h => slHigh mx c fun m => if l ≤ h ∧ h ≤ m ∧ m ≤ c ∧ (esz' = esz ∨ (esz' = 0 ∧ a.off + l * esz ≤ cs.length)) then
          K (.slice (some ⟨a.block, a.off + l * esz, a.spot⟩) (h - l) (m - l)) H else False
  | .sliceA esz n x lo hi => evK e x fun v => evoK e lo fun lo => evoK e hi fun hi => ptrK v fun a => atK H a fun _ _ _ cs =>
      slLow lo fun l => slHigh hi n fun h => if l ≤ h ∧ h ≤ n ∧ a.off + n * esz ≤ cs.length then K (.slice (some ⟨a.block, a.off + l * esz, a.spot⟩) (h - l) (n - l)) H else False
  | .fieldAddr off x => evK e x fun v => ptrK v fun a => atK H a fun _ _ _ _ => K (.pointer (some ⟨a.block, a.off + off, a.spot⟩)) H
  | .field off agg x => evK e x fun v => aggK v fun cs => partK agg cs off fun v => K v H
  | .indexAddr esz x i => evK e x fun v => evK e i fun w => intK w fun _ i => sliceK H v False fun a n _ _ _ _ _ =>
      if 0 ≤ i ∧ i < n then K (.pointer (some ⟨a.block, a.off + i.toNat * esz, a.spot⟩)) H else False
  | .indexArr esz n x i => evK e x fun v => evK e i fun w => intK w fun _ i => ptrK v fun a => atK H a fun _ _ _ _ =>
      if 0 ≤ i ∧ i < n then K (.pointer (some ⟨a.block, a.off + i.toNat * esz, a.spot⟩)) H else False
  | .index esz n agg x i => evK e x fun v => evK e i fun w => intK w fun _ i => aggK v fun cs => if 0 ≤ i ∧ i < n then partK agg cs (i.toNat * esz) (fun v => K v H) else False
  | .extract i x => evK e x fun v => match v with
      | .tuple vs => (match vs.toList[i]? with
        | some v => K v H
        | none => False)
      | _ => False
  | .len x => evK e x fun v => sliceK H v (K (.int .i64 0) H) fun _ n _ _ _ _ _ => K (.int .i64 n) H
  | .append esz bytes x y => evK e x fun v => evK e y fun w => sliceK H w (appendK H esz bytes v [] 0 K) fun b m _ _ _ _ cs =>
      if b.off + m * esz ≤ cs.length then appendK H esz bytes v ((cs.drop b.off).take (m * esz)) m K else False
  | .copy esz x y => evK e x fun v => evK e y fun w => sliceK H v (sliceK H w (K (.int .i64 0) H) fun _ _ _ _ _ _ _ => K (.int .i64 0) H) fun a n _ g esz' ro cs => sliceK H w (K (.int .i64 0) H) fun b m _ _ _ _ ds =>
      if min m n = 0 then K (.int .i64 0) H
      else if ro = false ∧ a.off + min m n * esz ≤ cs.length ∧ b.off + min m n * esz ≤ ds.length then
        K (.int .i64 (min m n : Nat)) (H.set a.block (.cells g esz' ro (wr cs a.off ((ds.drop b.off).take (min m n * esz))))) else False
  | .clearS esz zero x => evK e x fun v => sliceK H v (K (.tuple #[]) H) fun a n _ g esz' ro cs =>
      if n = 0 then K (.tuple #[]) H
      else if ro = false ∧ a.off + n * esz ≤ cs.length then K (.tuple #[]) (H.set a.block (.cells g esz' ro (wr cs a.off (List.replicate n zero).flatten))) else False
  | .appendZ esz bytes zero x y => evK e x fun v => evK e y fun w => intK w fun _ n => match v with
      | .slice none 0 0 => if 0 < n ∧ n * bytes ≤ 281474976710656 ∧ n < 9223372036854775808 then K (.slice (some ⟨H.length, 0, some 1⟩) n.toNat n.toNat) (H ++ [.cells 0 esz false (List.replicate n.toNat zero).flatten]) else False
      | _ => False
  | .indexStr x i => evK e x fun v => evK e i fun w => intK w fun _ n => match v with
      | .string s => if 0 ≤ n ∧ n < s.size then K (.int .u8 (strAt s n.toNat)) H else False
      | _ => False
  | .str op args => evsK e args fun l => match strV op l with
      | some r => K r H
      | none => False
  | .carry sub x y c => evK e x fun u => evK e y fun v => evK e c fun w => match carryV sub u v w with
      | some r => K r H
      | none => False
  | .minmax max args => evsK e args fun l => match l with
      | [] => False
      | v :: l => minmaxK max v l fun v => K v H
  | .makeMap => K (.map (some H.length)) (H ++ [.map [] 0])
  | .lookup zero ok x i => evK e x fun v => evK e i fun w => intK w fun k n => match mapAt H v with
      | some (_, es, _) => (match lookV zero ok es k n with
        | some r => K r H
        | none => False)
      | none => False
  | .mapUpdate m k x => evK e m fun v => evK e k fun w => evK e x fun u => intK w fun k n => match mapAt H v with
      | some (r, es, c) => (match putV es c k n u with
        | some (es', c') => K (.tuple #[]) (H.set r (.map es' c'))
        | none => False)
      | none => False
  | .mapEntry zero m k => evK e m fun v => evK e k fun w => intK w fun k n => match mapAt H v with
      | some (r, es, c) => (match entryV zero es c k n with
        | some (y, es', c') => K y (H.set r (.map es' c'))
        | none => False)
      | none => False
  | .entryStore m s x => evK e m fun v => evK e s fun w => evK e x fun u => intK w fun _ b => match mapAt H v with
      | some (r, es, c) => (match stampV es b u with
        | some es' => K (.tuple #[]) (H.set r (.map es' c))
        | none => False)
      | none => False
  | .mapDelete m k => evK e m fun v => evK e k fun w => intK w fun k n => match mapAt H v with
      | some (r, es, c) => (match delV es k n with
        | some es' => K (.tuple #[]) (H.set r (.map es' c))
        | none => False)
      | none => False
  | .lenMap x => evK e x fun v => match mapAt H v with
      | some (_, es, _) => K (.int .i64 es.length) H
      | none => False
  | .rangeMap x => evK e x fun v => match mapAt H v with
      | some (r, _, c) => K (.pointer (some ⟨H.length, 0, some 1⟩)) (H ++ [.iter r c [] c])
      | none => False
  | .nextMap x => evK e x fun v => match iterAt H v with
      | some (k, r, since, seen, c0, es, clock) =>
        if since ≤ c0 ∧ (es.all fun x => decide (x.born < since) && flat x.key) = true then
          ((leftL es seen).isEmpty = true → K (.tuple #[.bool false]) H) ∧ ∀ x ∈ leftL es seen, K (.tuple #[.bool true, x.key, x.val]) (H.set k (.iter r since (seen ++ [x.born]) clock))
        else False
      | none => False
  | .entryAt x => evK e x fun v => match iterAt H v with
      | some (_, _, _, seen, c0, es, clock) => (match entryOf seen c0 es clock with
        | some y => K (.tuple #[y.key, y.val]) H
        | none => False)
      | none => False
  | .callF .. | .callV .. | .bad => False

/-- One operation. call: what is known of calls. -/
def instrK (call : FuncId → List Value → Heap → (Value → Heap → Prop) → Prop) (op : AOp) (e : Env) (H : Heap) (K : Value → Heap → Prop) : Prop :=
  match op with
  | .callF f args => evsK e args fun l => call f l H K
  | .callV x args => evK e x fun v => evsK e args fun l => (match v with
    | .func (.func f) first captured => call f (first.toList ++ l ++ captured.toList) H K
    | _ => False)
  | op => opK op e H K

def putE (dst : Option Nat) (v : Value) (e : Env) : Env := match dst with
  | some d => e.set d v
  | none => e

/-- A row of operations, one behind the other. -/
def opsK (call : FuncId → List Value → Heap → (Value → Heap → Prop) → Prop) : List AInstr → Env → Heap → (Env → Heap → Prop) → Prop
  | [], e, H, K => K e H
  | ⟨dst, none, op⟩ :: r, e, H, K => instrK call op e H fun v H => opsK call r (putE dst v e) H K
  | ⟨dst, some (t, want), op⟩ :: r, e, H, K => match e.get t with
    | some (.bool b) => if b = want then instrK call op e H fun v H => opsK call r (putE dst v e) H K else opsK call r (putE dst (.tuple #[]) e) H K
    | some (.tuple _) => opsK call r (putE dst (.tuple #[]) e) H K
    | _ => False

/-! ## Compiled -/

def plain (v : Value) : Bool := match v with
  | .agg cs => cs.toList.all flat
  | .tuple cs => cs.toList.all flat
  | v => flat v

def opd : Operand → AOpd
  | .tmp t => .tmp t
  | .const v => if plain v then .const v else .bad
  | .func f => .const (.func (.func f) #[] #[])
  | .global _ => .bad

/-- Is it the constant nil of an interface's type? -/
def isNilC : Operand → Bool
  | .const .nilIface => true
  | _ => false

/-- Of how many cells, if it is a struct or an array. -/
def aggOf (P : Program) (t : TypeId) : Option (Option Nat) :=
  match P.underlying t, P.info? t with
  | some (.struct _), some i => some (some i.size)
  | some (.array _ _), some i => some (some i.size)
  | some _, some _ => some none
  | _, _ => none

def szOf (P : Program) (t : TypeId) : Option Nat := (P.info? t).map (·.size)

/-- The cells of a type's zero value, all of them referring to nothing. -/
def zeroOf (P : Program) (t : TypeId) : Option (List Value) :=
  match (P.info? t).bind (·.zero) with
  | some z => if z.cells.toList.all flat then some z.cells.toList else none
  | none => none

/-- One field more: it lies where the one ahead of it ends. -/
def fstep (P : Program) (ok : TypeId → Bool) (o : Option Nat) (f : Field) : Option Nat :=
  match o, szOf P f.type with
  | some o, some s => if f.offset = o ∧ f.name ≠ "_" ∧ ok f.type = true then some (o + s) else none
  | _, _ => none

/-- Of a type's cells: which ones are bools. -/
def shapeOf (P : Program) : Nat → TypeId → List Bool
  | 0, _ => []
  | d + 1, t => match P.underlying t with
    | some .bool => [true]
    | some (.struct fs) => (fs.toList.map fun f => shapeOf P d f.type).flatten
    | some (.array n e) => (List.replicate n (shapeOf P d e)).flatten
    | _ => [false]

/-- Is it compared cell by cell? (integers and bools, arrays and structs of these) -/
def plainType (P : Program) : Nat → TypeId → Bool
  | 0, _ => false
  | d + 1, t => decide (P.cellsOf t = (shapeOf P (d + 1) t).length) && match P.underlying t, P.info? t with
    | some .bool, some i => i.size == 1
    | some (.int _), some i => i.size == 1
    | some (.struct fs), some i => !P.stoodInHeld t && decide (fs.toList.foldl (fstep P (plainType P d)) (some 0) = some i.size)
    | some (.array n e), some i => plainType P d e && decide ((szOf P e).map (n * ·) = some i.size)
    | _, _ => false

/-- Where the parts of a struct or an array lie. -/
def placesOf (P : Program) (t : TypeId) : Option (Nat → Option (Nat × Nat)) :=
  match P.underlying t with
  | some (.struct fs) => (fs.toList.mapM (fun f => (P.info? f.type).map fun i => (f.offset, i.size))).map fun ps i => ps[i]?
  | some (.array _ e) => (P.info? e).map fun ie i => some (i * ie.size, ie.size)
  | _ => none

def partsOf (pl : Nat → Option (Nat × Nat)) : List (Nat × Operand) → Option (List (Nat × Nat × AOpd))
  | [] => some []
  | (i, x) :: r => match pl i, partsOf pl r with
    | some (o, s), some l => some ((o, s, opd x) :: l)
    | _, _ => none

def oopt (x : Option Operand) : Option AOpd := x.map opd

/-- Is it a sum or a difference of 64 bits, for which the model stands in? -/
def carryOf (P : Program) (f : FuncId) : Option Bool :=
  match P.funcs[f]? with
  | some fn =>
    if fn.body.isNone && (Extern.findNext fn).isNone then
      if fn.name == "math/bits.Add64" then some false else if fn.name == "math/bits.Sub64" then some true else none
    else none
  | none => none

/-- The zero value of a type, if it is one cell that refers to nothing. -/
def zero1Of (P : Program) (t : TypeId) : Option Value :=
  match (P.info? t).bind (·.zero) with
  | some v => if flat v then some v else none
  | none => none
/-- The type of a map's elements, if its keys are whole numbers. -/
def intMap (P : Program) (t : TypeId) : Option TypeId :=
  match P.underlying t with
  | some (.map k e) => match P.underlying k with
    | some (.int _) => some e
    | _ => none
  | _ => none
def compCall (P : Program) (c : Call) : AOp :=
  match c.callee with
  | .builtin b => match b, c.args.toList, c.argTypes.toList with
    | .len, [x], [t] => (match P.underlying t with
      | some (.slice _) => .len (opd x)
      | some (.map _ _) => .lenMap (opd x)
      | some .string => .str .len [opd x]
      | _ => .bad)
    | .delete, [x, y], [t, _] => (match intMap P t with
      | some _ => .mapDelete (opd x) (opd y)
      | none => .bad)
    | .append, [x, y], [t, u] => (match P.underlying t, P.underlying u with
      | some (.slice e), some (.slice _) => (match P.info? e, zeroOf P e with
        | some i, some z => if t = u ∧ i.size = z.length ∧ 0 < i.size ∧ 0 < i.bytes then .append i.size i.bytes (opd x) (opd y) else .bad
        | _, _ => .bad)
      | some (.slice e), some (.int _) => (match P.info? e, zeroOf P e with
        | some i, some z => if i.size = z.length ∧ 0 < i.size ∧ 0 < i.bytes then .appendZ i.size i.bytes z (opd x) (opd y) else .bad
        | _, _ => .bad)
      | _, _ => .bad)
    | .copy, [x, y], [t, u] => (match P.underlying t, P.underlying u with
      | some (.slice e), some (.slice _) => (match szOf P e with
        | some s => .copy s (opd x) (opd y)
        | none => .bad)
      | _, _ => .bad)
    | .clear, [x], [t] => (match P.underlying t with
      | some (.slice e) => (match P.info? e, zeroOf P e with
        | some i, some z => if i.size = z.length ∧ 0 < i.size then .clearS i.size z (opd x) else .bad
        | _, _ => .bad)
      | _ => .bad)
    | .cap, [x], [t] => (match P.underlying t with
      | some (.slice _) => .cap (opd x)
      | _ => .bad)
    | .max, l, _ => .minmax true (l.map opd)
    | .min, l, _ => .minmax false (l.map opd)
    | _, _, _ => .bad
  | .value (.func f) => match carryOf P f, c.args.toList with
    | some s, [x, y, z] => .carry s (opd x) (opd y) (opd z)
    | _, _ => .callF f (c.args.toList.map opd)
  | .value x => .callV (opd x) (c.args.toList.map opd)
  | .invoke .. => .bad

def compOp (P : Program) (o : Oper) : AOp :=
  match o.op with
  | .move x | .assign x => .mov (opd x)
  | .pick c a b => .pick (opd c) (opd a) (opd b)
  | .alloc t => (match zeroOf P t with | some z => .alloc z | none => .bad)
  | .box _ x => .box (opd x)
  | .build t parts => (match zeroOf P t, placesOf P t with
    | some z, some pl => (match partsOf pl parts.toList with
      | some ps => .build z ps
      | none => .bad)
    | _, _ => .bad)
  | .buildSlice t len parts => (match P.underlying t with
    | some (.slice e) => (match szOf P e, zeroOf P e with
      | some s, some z => if len * s ≤ 16777216 ∧ z.length = s ∧ 0 < s then (match partsOf (fun i => some (i * s, s)) parts.toList with
        | some ps => .buildSlice s len (List.replicate len z).flatten ps
        | none => .bad) else .bad
      | _, _ => .bad)
    | _ => .bad)
  | .load t x => (match aggOf P t with | some agg => .load agg (opd x) | none => .bad)
  | .store t a x => (match szOf P t with | some s => .store s (opd a) (opd x) | none => .bad)
  | .nilCheck x => .nilCheck (opd x)
  | .binOp op xt x y _ => (match P.underlying xt, op with
    | some (.int _), _ => .ibin op (opd x) (opd y)
    | some .bool, .eql => .eqB false (opd x) (opd y)
    | some .bool, .neq => .eqB true (opd x) (opd y)
    | some (.struct _), .eql | some (.array _ _), .eql => if plainType P 20 xt && !P.eqGuardType P.depth xt then .eqA false (shapeOf P 20 xt) (opd x) (opd y) else .bad
    | some (.struct _), .neq | some (.array _ _), .neq => if plainType P 20 xt && !P.eqGuardType P.depth xt then .eqA true (shapeOf P 20 xt) (opd x) (opd y) else .bad
    | some (.pointer _), .eql => .eqP false (opd x) (opd y)
    | some (.pointer _), .neq => .eqP true (opd x) (opd y)
    | some (.slice _), .eql => .eqS false (opd x) (opd y)
    | some (.slice _), .neq => .eqS true (opd x) (opd y)
    | some .string, .add => .str .add [opd x, opd y]
    | some .string, .eql => .str (.cmp false) [opd x, opd y]
    | some .string, .neq => .str (.cmp true) [opd x, opd y]
    | some (.interface _), .eql => if isNilC y then .str (.isNil false) [opd x] else .bad
    | some (.interface _), .neq => if isNilC y then .str (.isNil true) [opd x] else .bad
    | _, _ => .bad)
  | .unOp op _ x => .un op (opd x)
  | .convert u t x => (match P.underlying t, P.underlying u with | some (.int k), some _ => .conv k (opd x) | _, _ => .bad)
  | .makeFunc fn first captured => .func fn (first.toList.map opd) (captured.toList.map opd)
  | .makeSlice t l c => (match P.underlying t with
    | some (.slice e) => (match P.info? e, zeroOf P e with
      | some i, some z => if z.length = i.size ∧ 0 < i.size then .makeSlice i.size i.bytes z (opd l) (opd c) else .bad
      | _, _ => .bad)
    | _ => .bad)
  | .slice t x lo hi mx => (match P.underlying t, mx with
    | some (.slice e), _ => (match szOf P e with | some s => if mx.isSome && hi.isNone then .bad else .slice s (opd x) (oopt lo) (oopt hi) (oopt mx) | none => .bad)
    | some (.array n e), none => (match szOf P e with | some s => .sliceA s n (opd x) (oopt lo) (oopt hi) | none => .bad)
    | _, _ => .bad)
  | .fieldAddr s x f => (match P.underlying s with
    | some (.struct fs) => (match fs[f]? with
      | some f => (match szOf P f.type with | some s => if s = 0 then .bad else .fieldAddr f.offset (opd x) | none => .bad)
      | none => .bad)
    | _ => .bad)
  | .field t x f => (match P.underlying t with
    | some (.struct fs) => (match fs[f]? with
      | some f => (match aggOf P f.type with | some agg => .field f.offset agg (opd x) | none => .bad)
      | none => .bad)
    | _ => .bad)
  | .indexAddr t x i => (match P.underlying t with
    | some (.slice e) => (match szOf P e with | some s => .indexAddr s (opd x) (opd i) | none => .bad)
    | some (.array n e) => (match szOf P e with | some s => .indexArr s n (opd x) (opd i) | none => .bad)
    | _ => .bad)
  | .index t x i => (match P.underlying t with
    | some .string => .indexStr (opd x) (opd i)
    | some (.array n e) => (match szOf P e, aggOf P e with | some s, some agg => .index s n agg (opd x) (opd i) | _, _ => .bad)
    | _ => .bad)
  | .extract x i => .extract i (opd x)
  | .makeMap _ none => .makeMap
  | .lookup t x i ok => (match intMap P t with
    | some e => (match zero1Of P e with | some z => .lookup z ok (opd x) (opd i) | none => .bad)
    | none => .bad)
  | .mapUpdate t m k x => (match intMap P t with | some _ => .mapUpdate (opd m) (opd k) (opd x) | none => .bad)
  | .mapEntry t m k => (match intMap P t with
    | some e => (match zero1Of P e with | some z => .mapEntry z (opd m) (opd k) | none => .bad)
    | none => .bad)
  | .entryStore t m s x => (match intMap P t with | some _ => .entryStore (opd m) (opd s) (opd x) | none => .bad)
  | .range t x => (match P.underlying t with | some (.map _ _) => .rangeMap (opd x) | _ => .bad)
  | .next x false => .nextMap (opd x)
  | .entry x => .entryAt (opd x)
  | .call c => compCall P c
  | _ => .bad

def compInstr (P : Program) (n : Nat) (ops : Array Oper) (o : Oper) : AInstr :=
  match o.dst with
  | some d => if d < n then ⟨some d, o.guard.map fun g => (((ops[g.1]?).bind (·.dst)).getD 1000000000, g.2), compOp P o⟩ else ⟨none, none, .bad⟩
  | none => ⟨none, o.guard.map fun g => (((ops[g.1]?).bind (·.dst)).getD 1000000000, g.2), compOp P o⟩

inductive ACode where
  | skip
  | ops (l : List AInstr)
  | fork (l : List AInstr)
  | draw (l : List AInstr) (span : List (Nat × Nat × Bool))
  | alt (l : List (List AInstr × List (Nat × Nat × Bool)))
  | seq (a b : ACode)
  | cond (c : AOpd) (a b : ACode)
  | block (id : Nat) (c : ACode)
  | loop (c : ACode)
  | exit (id : Nat)
  | ret
  | keep (l : List Nat) (c : ACode)
  | bad

def ACode.strip : ACode → ACode
  | .seq a b => .seq a.strip b.strip
  | .cond c a b => .cond c a.strip b.strip
  | .block id c => .block id c.strip
  | .loop c => .loop c.strip
  | .keep _ c => c.strip
  | .fork l => .ops l
  | c => c

structure AFn where
  n : Nat
  rs : List ARes
  body : ACode

def AFn.strip (F : AFn) : AFn := { F with body := F.body.strip }

/-- The slots that an operation reads. -/
def opdUse : AOpd → List Nat
  | .tmp t => [t]
  | _ => []
def opUse : AOp → List Nat
  | .mov x | .box x | .load _ x | .nilCheck x | .un _ x | .conv _ x | .fieldAddr _ x | .field _ _ x | .extract _ x | .len x | .cap x | .clearS _ _ x => opdUse x
  | .pick c a b => opdUse c ++ opdUse a ++ opdUse b
  | .alloc _ | .bad => []
  | .build _ p | .buildSlice _ _ _ p => p.flatMap fun x => opdUse x.2.2
  | .store _ a x | .ibin _ a x | .eqB _ a x | .eqA _ _ a x | .eqP _ a x | .eqS _ a x | .makeSlice _ _ _ a x | .indexAddr _ a x | .indexArr _ _ a x | .index _ _ _ a x | .append _ _ a x | .appendZ _ _ _ a x | .indexStr a x | .copy _ a x => opdUse a ++ opdUse x
  | .func _ f c => (f ++ c).flatMap opdUse
  | .slice _ x lo hi mx => opdUse x ++ (lo.toList ++ hi.toList ++ mx.toList).flatMap opdUse
  | .sliceA _ _ x lo hi => opdUse x ++ (lo.toList ++ hi.toList).flatMap opdUse
  | .minmax _ l | .str _ l => l.flatMap opdUse
  | .carry _ x y z | .mapUpdate x y z | .entryStore x y z => opdUse x ++ opdUse y ++ opdUse z
  | .makeMap => []
  | .lenMap x | .rangeMap x | .nextMap x | .entryAt x => opdUse x
  | .lookup _ _ x y | .mapEntry _ x y | .mapDelete x y => opdUse x ++ opdUse y
  | .callF _ l => l.flatMap opdUse
  | .callV x l => opdUse x ++ l.flatMap opdUse
def instrUse (i : AInstr) : List Nat := opUse i.op ++ (i.guard.map (·.1)).toList

/-- Operations that may turn the heap. -/
def loudOp : AOp → Bool
  | .alloc _ | .box _ | .buildSlice .. | .store .. | .makeSlice .. | .append .. | .appendZ .. | .copy .. | .clearS .. | .callF .. | .callV .. | .bad | .makeMap | .rangeMap .. | .nextMap .. | .mapUpdate .. | .mapEntry .. | .entryStore .. | .mapDelete .. => true
  | _ => false

def waitRow (acc : List Nat) : List Edge → Nat → Nat
  | [], s => s
  | e :: r, s => waitRow acc r (if Region.binds .any e then s ||| 2 ^ e.on ||| acc.getD e.on 0 else s)
def waitsFrom : List Oper → List Nat → List Nat
  | [], acc => acc
  | o :: r, acc => waitsFrom r (acc ++ [waitRow acc o.after.toList 0])
/-- Which operations each one waits for, as bits. -/
def waits (ops : Array Oper) : List Nat := waitsFrom ops.toList []

/-- How many below m. -/
def cnt (p : Nat → Bool) : Nat → Nat
  | 0 => 0
  | m + 1 => cnt p m + if p m then 1 else 0

/-- Of a region that draws its order: the operations that may turn the heap come one behind the other in whatever order; what shares a slot is ordered. -/
def drawOk (ops : Array Oper) (l : List AInstr) (bef : List Nat) : Bool :=
  (ops.toList.zipIdx.all fun (o, i) => o.after.toList.all fun e => !Region.binds .any e || decide (e.on < i)) &&
  Region.noSelect ops &&
  (l.zipIdx.all fun (x, i) => l.zipIdx.all fun (y, j) =>
    !decide (i < j) || (bef.getD j 0).testBit i ||
      (!(loudOp x.op && loudOp y.op) && (match x.dst with | some t => !(instrUse y).contains t && y.dst != some t | none => true) && (match y.dst with | some t => !(instrUse x).contains t | none => true)))

def loudAt (l : List AInstr) (k : Nat) : Bool := ((l[k]?).map fun x => loudOp x.op).getD false
/-- May it turn the heap, and do all behind it wait for it? -/
def cutAt (l : List AInstr) (bef : List Nat) (k : Nat) : Bool := loudAt l k && (List.range l.length).all fun j => !decide (k < j) || (bef.getD j 0).testBit k
def spanAt (l : List AInstr) (bef : List Nat) (k : Nat) : Nat × Nat × Bool :=
  (cnt (fun i => loudAt l i && (bef.getD k 0).testBit i) l.length, if cutAt l bef k then 0 else cnt (fun j => loudAt l j && !(bef.getD j 0).testBit k) l.length + (if loudAt l k then 1 else 0), loudAt l k)
def spanOf (l : List AInstr) (bef : List Nat) : List (Nat × Nat × Bool) := (List.range l.length).map (spanAt l bef)

/-- The orders in which these may come. -/
def exts (bef : List Nat) : Nat → List Nat → List (List Nat)
  | 0, _ => [[]]
  | m + 1, rem => if rem.isEmpty then [[]] else (rem.filter fun k => rem.all fun j => j == k || !(bef.getD k 0).testBit j).flatMap fun k => (exts bef m (rem.filter (· != k))).map (k :: ·)
/-- All operations in one order that keeps to such an order; what does not turn the heap comes as early as it can. -/
def topo (bef : List Nat) (lt : Nat → Bool) (n : Nat) : Nat → List Nat → List Nat → List Nat
  | 0, acc, _ => acc
  | f + 1, acc, o => match (match (List.range n).find? fun k => !acc.contains k && ((List.range n).all fun j => !(bef.getD k 0).testBit j || acc.contains j) && !lt k with
      | some k => some k
      | none => (List.range n).find? fun k => !acc.contains k && ((List.range n).all fun j => !(bef.getD k 0).testBit j || acc.contains j) && (!lt k || o.head? == some k)) with
    | some k => topo bef lt n f (acc ++ [k]) (if lt k then o.tail else o)
    | none => acc
def permOper (tau : List Nat) (lt : Nat → Bool) (k : Nat) (o : Oper) : Oper :=
  { o with
    after := (((o.after.toList.filter (Region.binds .any)).map fun e => (⟨tau.idxOf e.on, .data⟩ : Edge)) ++ (if lt k then ((tau.takeWhile (· != k)).filter lt).map (fun i => (⟨tau.idxOf i, .data⟩ : Edge)) else [])).toArray
    guard := o.guard.map fun g => (tau.idxOf g.1, g.2) }
def permOps (ops : Array Oper) (tau : List Nat) (lt : Nat → Bool) : Array Oper := (tau.map fun k => permOper tau lt k (ops.getD k default)).toArray
def permOk (n : Nat) (tau : List Nat) : Bool := tau.length == n && tau.all (· < n) && (List.range n).all (fun k => tau.contains k) && (List.range n).all fun j => tau.idxOf (tau.getD j 0) == j
def altOk (P : Program) (n : Nat) (ops : Array Oper) (lt : Nat → Bool) (tau : List Nat) : Bool :=
  permOk ops.size tau && drawOk (permOps ops tau lt) ((permOps ops tau lt).toList.map (compInstr P n (permOps ops tau lt))) (waits (permOps ops tau lt))
def altOf (P : Program) (n : Nat) (ops : Array Oper) (lt : Nat → Bool) (tau : List Nat) : List AInstr × List (Nat × Nat × Bool) :=
  ((permOps ops tau lt).toList.map (compInstr P n (permOps ops tau lt)), spanOf ((permOps ops tau lt).toList.map (compInstr P n (permOps ops tau lt))) (waits (permOps ops tau lt)))
def downOk (ops : Array Oper) : Bool := ops.toList.zipIdx.all fun (o, i) => o.after.toList.all fun e => !Region.binds .any e || decide (e.on < i)
def loudsOf (P : Program) (n : Nat) (ops : Array Oper) : Nat → Bool := loudAt (ops.toList.map (compInstr P n ops))
def rowsOf (P : Program) (n : Nat) (ops : Array Oper) : List (List Nat) := exts (waits ops) ((List.range ops.size).filter (loudsOf P n ops)).length ((List.range ops.size).filter (loudsOf P n ops))
def tausOf (P : Program) (n : Nat) (ops : Array Oper) : List (List Nat) := (rowsOf P n ops).map (topo (waits ops) (loudsOf P n ops) ops.size ops.size [])
def altsOk (P : Program) (n : Nat) (ops : Array Oper) : Bool :=
  decide (((List.range ops.size).filter (loudsOf P n ops)).length ≤ 6) && downOk ops && (tausOf P n ops).all (altOk P n ops (loudsOf P n ops)) &&
    (rowsOf P n ops).all fun r => (tausOf P n ops).any fun tau => tau.filter (loudsOf P n ops) == r

def isCall : AOp → Bool
  | .callF .. | .callV .. => true
  | _ => false
/-- Do all behind a call wait for it? -/
def callsCut (l : List AInstr) (bef : List Nat) : Bool := l.zipIdx.all fun (x, k) => !isCall x.op || cutAt l bef k
def compDraw (P : Program) (n : Nat) (ops : Array Oper) : ACode :=
  if P.follows .mixedOrders && drawOk ops (ops.toList.map (compInstr P n ops)) (waits ops) && callsCut (ops.toList.map (compInstr P n ops)) (waits ops) then
    .draw (ops.toList.map (compInstr P n ops)) (spanOf (ops.toList.map (compInstr P n ops)) (waits ops))
  else if P.follows .mixedOrders && altsOk P n ops then .alt ((tausOf P n ops).map (altOf P n ops (loudsOf P n ops)))
  else if P.follows .mixedOrders && drawOk ops (ops.toList.map (compInstr P n ops)) (waits ops) then
    .draw (ops.toList.map (compInstr P n ops)) (spanOf (ops.toList.map (compInstr P n ops)) (waits ops))
  else .bad

def compC (P : Program) (n : Nat) : Code → ACode
  | .skip => .skip
  | .region _ ops false => .ops (ops.toList.map (compInstr P n ops))
  | .region _ ops true => compDraw P n ops
  | .seq a b => .seq (compC P n a) (compC P n b)
  | .cond c a b => .cond (opd c) (compC P n a) (compC P n b)
  | .block id c => .block id (compC P n c)
  | .loop c => .loop (compC P n c)
  | .exit id => .exit id
  | .label _ => .skip
  | .ret => .ret
  | _ => .bad

def compRes (P : Program) : ResultVar → ARes
  | .tmp t => .tmp t
  | .cell t ty => match aggOf P ty with
    | some agg => .cell t agg
    | none => .tmp 1000000000

def compFn (P : Program) (f : FuncId) : Option AFn :=
  match P.funcs[f]? with
  | some fn => match fn.body with
    | some c => if fn.name == "runtime.NumGoroutine" then none else some ⟨fn.ntmps, fn.results.toList.map (compRes P), compC P fn.ntmps c⟩
    | none => none
  | none => none

end Go.Am
