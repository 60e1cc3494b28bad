import Derived.Test.YtfkhljgifndbpaaDoorLayB
import Derived.Test.YtfkhljgifndbpaaDoorCon
import Derived.Test.YtfkhljgifndbpaaDoorPlain2
import Derived.WalkKit
import Derived.BigCall
/- bench.Print over real memories: what it calls. -/
set_option linter.unusedVariables false
set_option linter.unusedSimpArgs false
namespace Go.Proofs.YtfkhljgifndbpaaDoor
open Go Go.Am Go.RowKit Go.Proofs

/-- The builder stands in w' as in w, if all of w's blocks do. -/
theorem bld_below {T e : TypeId} {B b : Nat} {bs : List Value} {w w' : World} (h : Lib.IsBuilderF T e B b bs w) (hb : Below w.heap.size w w') : Lib.IsBuilderF T e B b bs w' := by
  have key : ∀ p, Lib.BuilderAtF T e B b p bs w → Lib.BuilderAtF T e B b p bs w' := fun p h => by
    have hlt := h.lt
    obtain ⟨hB, v, hk, ⟨ho1, ho2⟩, hne⟩ := h
    refine ⟨hB, v, (hb.block b hlt).trans hk, ⟨ho1, ?_⟩, hne⟩
    rcases ho2 with h0 | ⟨g, cap, cur, fz, h1, h2, h3, h4⟩
    · exact .inl h0
    · exact .inr ⟨g, cap, cur, fz, h1, h2, (hb.block g (Array.getElem?_eq_some_iff.1 h3).1).trans h3, h4⟩
  exact h.elim (fun x => .inl (key _ x)) (fun x => .inr (key _ x))

/-- What stands while Print writes: the old memory, its copy of an argument at ob, the builder at b. -/
structure Fx (w : World) (b ob : Nat) (cs : Array Value) (T : TypeId) (acc : Bs) (w' : World) : Prop where
  bel : Below w.heap.size w w'
  box : w'.heap[ob]? = some (.cells cs T (0, 0))
  bld : Lib.IsBuilderF 60 5 b b (Lib.byteCells acc) w'
  lt : b < w'.heap.size
  wb : w.heap.size ≤ b
theorem Fx.step {w : World} {b ob : Nat} {cs : Array Value} {T : TypeId} {acc : Bs} {w1 w2 : World} (h : Fx w b ob cs T acc w1) (hb : Below w1.heap.size w1 w2) : Fx w b ob cs T acc w2 :=
  ⟨h.bel.trans (hb.mono h.bel.size), (hb.block ob (Array.getElem?_eq_some_iff.1 h.box).1).trans h.box, bld_below h.bld hb, Nat.lt_of_lt_of_le h.lt hb.size, h.wb⟩
theorem glob_below {w w' : World} (hw : Glob w) (hb : Below w.heap.size w w') : Glob w' := fun x hx => by
  obtain ⟨c, t, fr, h1, h2⟩ := hw x hx
  exact ⟨c, t, fr, (hb.block _ (Array.getElem?_eq_some_iff.1 h1).1).trans h1, h2⟩
theorem Itoa_b (n : Int) (h0 : -9223372036854775808 ≤ n) (h1 : n ≤ 9223372036854775807) (w : World) (hw : Glob w) :
    Calls Tryd.prog 13 #[.int .i64 n] w fun e w' => e = .returned (str (Lib.itoa n)) ∧ Below w.heap.size w w' := by
  obtain ⟨t, fr, hp⟩ := hw.pow
  have hg : Tryd.prog.globalNamed "internal/strconv.uint64pow10" = some 1 := by kernel_rfl
  refine (Any.strconv_Itoa Tryd.laysM171 n h0 h1 w ?_).mono ?_
  · unfold Lib.TabIs World.var?
    rw [hg]
    simp only [Option.bind_some, hp]
  · rintro e w' ⟨rfl, k, os, rfl⟩
    exact ⟨rfl, ⟨rfl, rfl, rfl, by rw [Go.Sort.size_grow]; exact Nat.le_add_right _ _, fun j hj => Go.Sort.heap_grow_old (w.drewN k) os hj⟩⟩
theorem Itoa_x {w : World} {b ob : Nat} {cs : Array Value} {T : TypeId} {acc : Bs} {w1 : World} (hw : Glob w) (h : Fx w b ob cs T acc w1) (n : Int) (h0 : 0 ≤ n) (h1 : n ≤ 1099511627776) :
    Calls Tryd.prog 13 #[.int .i64 n] w1 fun e w' => e = .returned (str (Lib.itoa n)) ∧ Fx w b ob cs T acc w' ∧ Below w1.heap.size w1 w' :=
  (Itoa_b n (by omega) (by omega) w1 (glob_below hw h.bel)).mono fun e w' ⟨h1, h2⟩ => ⟨h1, h.step h2, h2⟩
theorem Write_x {w : World} {b ob : Nat} {cs : Array Value} {T : TypeId} {acc : Bs} {w1 : World} (h : Fx w b ob cs T acc w1) (s : ByteArray) (hob : ob ≠ b) (hT : T ≠ 5) (hl : acc.length + s.size ≤ 140737488355328) :
    Calls Tryd.prog 18 #[.pointer (some ⟨b, 0, none⟩), .string s] w1 fun e w' => e = .returned (.tuple #[.int .i64 s.size, .nilIface]) ∧ Fx w b ob cs T (acc ++ s.data.toList) w' := by
  refine (Any.Builder_WriteString_k Tryd.lays166 Tryd.Builder_Extra_166 b b _ s w1 h.bld (by rw [Lib.byteCells_length]; exact hl) (Nat.le_of_lt h.lt)).mono ?_
  rintro e w' ⟨rfl, h1, h2, h3⟩
  refine ⟨rfl, h.bel.trans (h2.mono h.wb), h3 ob _ h.box (fun e => hob (Option.some.inj e)) (fun c fz e => hT (by cases e; rfl)), ?_, Nat.lt_of_lt_of_le h.lt h2.size, h.wb⟩
  rw [Lib.strCells_eq, ← Lib.byteCells_append] at h1
  exact .inr h1
theorem String_x {w : World} {b ob : Nat} {cs : Array Value} {T : TypeId} {acc : Bs} {w1 : World} (h : Fx w b ob cs T acc w1) :
    Calls Tryd.prog 20 #[.pointer (some ⟨b, 0, none⟩)] w1 fun e w' => e = .returned (str acc) ∧ Below w.heap.size w w' := by
  refine (Any.Builder_String_any_k Tryd.lays169 Tryd.Builder_Extra_169 b b acc w1 h.bld (Nat.le_of_lt h.lt)).mono ?_
  rintro e w' ⟨rfl, _, h2, _⟩
  exact ⟨rfl, h.bel.trans (h2.mono h.wb)⟩
set_option maxRecDepth 100000 in
theorem small_b (n : Int) (w : World) : Calls Tryd.prog 17 #[.int .i64 n] w fun e w' => e = .returned (.bool (decide (0 ≤ n ∧ n ≤ 1099511627776))) ∧ w' = w := by
  by_cases h0 : 0 ≤ n
  · by_cases h1 : n ≤ 1099511627776
    · go_enter Tryd.func17, Tryd.ntmps17
      go_wp2
      go_ret
      exact ⟨by simp [h0, h1], rfl⟩
    · go_enter Tryd.func17, Tryd.ntmps17
      go_wp2
      go_ret
      exact ⟨by simp [h0, h1], rfl⟩
  · go_enter Tryd.func17, Tryd.ntmps17
    go_wp2
    go_ret
    exact ⟨by simp; omega, rfl⟩
theorem small_y (n : Int) (h : 0 ≤ n ∧ n ≤ 1099511627776) (w : World) : Calls Tryd.prog 17 #[.int .i64 n] w fun e w' => e = .returned (.bool true) ∧ w' = w := by
  have := small_b n w
  rw [decide_eq_true h] at this
  exact this
set_option maxRecDepth 100000 in
theorem words_b (w : World) : Calls Tryd.prog 19 #[] w fun e w' => e = .returned (.slice (some ⟨w.heap.size, 0, none⟩) 3 3) ∧ w' = w.alloc (.cells #[str inB, str tickB, str pollB] 9) := by
  go_enter Tryd.func19, Tryd.ntmps19
  go_wp2
  go_ret
  exact ⟨rfl, rfl⟩
end Go.Proofs.YtfkhljgifndbpaaDoor
