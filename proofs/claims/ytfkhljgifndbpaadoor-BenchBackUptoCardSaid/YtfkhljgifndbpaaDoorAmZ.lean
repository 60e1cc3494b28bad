/-
  The abstract machine, part Z: what a loop, and a function, leave behind: garbage goes. For any program.
-/
import Derived.Test.YtfkhljgifndbpaaDoorAmY
namespace Go.Am

def bndE (m : Nat) (e : Env) : Bool := e.all fun p => bnd m p.2
theorem bndE_get {m : Nat} : ∀ {e : Env}, bndE m e = true → ∀ i v, e.get i = some v → bnd m v = true
  | [], _, i, v, h => by simp [Env.get] at h
  | (k, u) :: r, hb, i, v, h => by
    simp only [bndE, List.all_cons, Bool.and_eq_true] at hb
    unfold Env.get at h
    split at h
    · cases h; exact hb.1
    · exact bndE_get (e := r) hb.2 i v h
theorem bndE_nil (m : Nat) : bndE m [] = true := rfl
theorem bndE_cons (m k : Nat) (v : Value) (r : Env) : bndE m ((k, v) :: r) = (bnd m v && bndE m r) := rfl
theorem bnd_int (m : Nat) (k : IntKind) (n : Int) : bnd m (.int k n) = true := rfl
theorem bnd_bool (m : Nat) (b : Bool) : bnd m (.bool b) = true := rfl
theorem bnd_str (m : Nat) (s : ByteArray) : bnd m (.string s) = true := rfl
theorem bnd_nil (m : Nat) : bnd m (.slice none 0 0) = true := rfl
theorem bnd_nilp (m : Nat) : bnd m (.pointer none) = true := rfl
theorem bnd_slice (m k o n c : Nat) (s : Option Nat) : bnd m (.slice (some ⟨k, o, s⟩) n c) = decide (k < m) := rfl
theorem bnd_ptr (m k o : Nat) (s : Option Nat) : bnd m (.pointer (some ⟨k, o, s⟩)) = decide (k < m) := rfl
theorem bnd_fn (m : Nat) (f : FuncId) : bnd m (.func (.func f) #[] #[]) = true := rfl
theorem abnd_ints (m g esz : Nat) (ro : Bool) (k : IntKind) (l : List Int) : abnd m (.cells g esz ro (l.map fun x => .int k x)) = true := by
  simp only [abnd, List.all_map, List.all_eq_true, Function.comp]
  intro x _; rfl
theorem abnd_bools (m g esz : Nat) (ro : Bool) (l : List Bool) : abnd m (.cells g esz ro (l.map fun x => .bool x)) = true := by
  simp only [abnd, List.all_map, List.all_eq_true, Function.comp]
  intro x _; rfl
theorem abnd_nil (m g esz : Nat) (ro : Bool) : abnd m (.cells g esz ro []) = true := rfl
theorem abnd_flat {m g esz : Nat} {ro : Bool} {cs : List Value} (h : ∀ v ∈ cs, flat v = true) : abnd m (.cells g esz ro cs) = true := by
  simp only [abnd, List.all_eq_true]
  intro v hv
  have := h v hv
  cases v with
  | slice a n c => cases a with
    | none => exact this
    | some a => simp [flat] at this
  | pointer a => cases a with
    | none => exact this
    | some a => simp [flat] at this
  | map a => cases a with
    | none => exact this
    | some a => simp [flat] at this
  | _ => first | exact this | simp [flat] at this

theorem old_or {H0 os g : Heap} {m j : Nat} {o : AObj} (hm : m = H0.length + os.length) (hos : ∀ o ∈ os, abnd m o = true) (hj : j < m) (h : (H0 ++ (os ++ g))[j]? = some o) : H0[j]? = some o ∨ abnd m o = true := by
  by_cases h1 : j < H0.length
  · rw [List.getElem?_append_left h1] at h; exact .inl h
  · rw [List.getElem?_append_right (by omega), List.getElem?_append_left (by omega)] at h
    exact .inr (hos o (List.mem_of_getElem? h))
theorem take_os {H0 os g : Heap} : (H0 ++ (os ++ g)).take (H0.length + os.length) = H0 ++ os := by
  rw [← List.append_assoc, List.take_left' (by simp)]

/-- A round's end: these slots are kept; of what is new, these objects. -/
theorem RdW.cut {H0 : Heap} {I : Nat → Env → Heap → Prop} {m : Nat} {e : Env} (l : List Nat) (m' : Nat) (hm : m' < m) (os g : Heap) (hos : ∀ o ∈ os, abnd (H0.length + os.length) o = true) (he : bndE (H0.length + os.length) (e.keep l) = true)
    (h : I m' (e.keep l) (H0 ++ os)) : @RdW H0 m e (H0 ++ (os ++ g)) ⟨I⟩ :=
  RdW.drop l (H0.length + os.length) m' hm (by omega) (bndE_get he) (fun j o hj ho => old_or rfl hos hj ho) (by rw [take_os]; exact h)
/-- .. nothing of what is new. -/
theorem RdW.cut0 {H0 : Heap} {I : Nat → Env → Heap → Prop} {m : Nat} {e : Env} {g : Heap} (l : List Nat) (m' : Nat) (hm : m' < m) (he : bndE H0.length (e.keep l) = true) (h : I m' (e.keep l) H0) : @RdW H0 m e (H0 ++ g) ⟨I⟩ :=
  RdW.cut l m' hm [] g (by simp) (by simpa using he) (by simpa using h)
/-- .. the first object of what is new. -/
theorem RdW.cut1 {H0 : Heap} {I : Nat → Env → Heap → Prop} {m : Nat} {e : Env} {o : AObj} {g : Heap} (l : List Nat) (m' : Nat) (hm : m' < m) (ho : abnd (H0.length + 1) o = true) (he : bndE (H0.length + 1) (e.keep l) = true) (h : I m' (e.keep l) (H0 ++ [o])) :
    @RdW H0 m e (H0 ++ o :: g) ⟨I⟩ :=
  RdW.cut l m' hm [o] g (by simpa using ho) he h
/-- .. the first two objects of what is new. -/
theorem RdW.cut2 {H0 : Heap} {I : Nat → Env → Heap → Prop} {m : Nat} {e : Env} {o o' : AObj} {g : Heap} (l : List Nat) (m' : Nat) (hm : m' < m) (ho : abnd (H0.length + 2) o = true) (ho' : abnd (H0.length + 2) o' = true) (he : bndE (H0.length + 2) (e.keep l) = true)
    (h : I m' (e.keep l) (H0 ++ [o, o'])) : @RdW H0 m e (H0 ++ o :: o' :: g) ⟨I⟩ :=
  RdW.cut l m' hm [o, o'] g (by simpa using ⟨ho, ho'⟩) he h
/-- .. the first three objects of what is new. -/
theorem RdW.cut3 {H0 : Heap} {I : Nat → Env → Heap → Prop} {m : Nat} {e : Env} {o o' o'' : AObj} {g : Heap} (l : List Nat) (m' : Nat) (hm : m' < m) (ho : abnd (H0.length + 3) o = true) (ho' : abnd (H0.length + 3) o' = true) (ho'' : abnd (H0.length + 3) o'' = true) (he : bndE (H0.length + 3) (e.keep l) = true)
    (h : I m' (e.keep l) (H0 ++ [o, o', o''])) : @RdW H0 m e (H0 ++ o :: o' :: o'' :: g) ⟨I⟩ :=
  RdW.cut l m' hm [o, o', o''] g (by simpa using ⟨ho, ho', ho''⟩) he h
/-- A function's end: of what is new, these objects are kept. -/
theorem DropW.keep {H0 : Heap} {v : Value} {K : Value → Heap → Prop} (os g : Heap) (hv : bnd (H0.length + os.length) v = true) (hos : ∀ o ∈ os, abnd (H0.length + os.length) o = true) (h : K v (H0 ++ os)) : @DropW H0 v (H0 ++ (os ++ g)) ⟨K⟩ :=
  .cut (H0.length + os.length) (by omega) hv (fun j o hj ho => old_or rfl hos hj ho) (by rw [take_os]; exact h)
theorem DropW.keep1 {H0 : Heap} {v : Value} {K : Value → Heap → Prop} {o : AObj} {g : Heap} (hv : bnd (H0.length + 1) v = true) (ho : abnd (H0.length + 1) o = true) (h : K v (H0 ++ [o])) : @DropW H0 v (H0 ++ o :: g) ⟨K⟩ :=
  .keep [o] g hv (by simpa using ho) h
/-- All that is new goes. -/
theorem DropW.gone {H0 H : Heap} {v : Value} {K : Value → Heap → Prop} (hH : ∃ g, H = H0 ++ g) (hv : bnd H0.length v = true) (h : K v H0) : @DropW H0 v H ⟨K⟩ := by
  obtain ⟨g, rfl⟩ := hH
  exact .back hv h

section
variable {P : Program} {n : Nat} {H0 : Heap} {env : Env} {H : Heap}
/-- Ahead of a loop a nil slice is taken for a slice of a new object without cells. -/
theorem loopW.ghost {c : ACode} {Q : LQ} (i esz : Nat) (hi : env.get i = some (.slice none 0 0)) (h : @loopW (loopK P n H0) c Q (env.set i (.slice (some ⟨H.length, 0, some 1⟩) 0 0)) (H ++ [.cells 0 esz false []])) : @loopW (loopK P n H0) c Q env H :=
  AW.weaken (Weak.ghost i esz false hi) h
/-- Ahead of a loop these slots are kept. -/
theorem loopW.keep {c : ACode} {Q : LQ} (l : List Nat) (h : @loopW (loopK P n H0) c Q (env.keep l) H) : @loopW (loopK P n H0) c Q env H :=
  AW.weaken (Weak.forget fun i v hv => Env.get_keep env l i v hv) h
end
end Go.Am
