/-
  What the closings of this seat share: what the listed package variables hold. Printed by a program of this claim's writer.
-/
import Derived.Test.YtfkhljgifndbpaaDoorBase
import Derived.Test.YtfkhljgifndbpaaDoorCards
import Derived.Test.YtfkhljgifndbpaaDoorTie
import Derived.Deep.DeepHandedRow
import Derived.Lib.LaidTab
import Derived.Stop.LaidErr
import Derived.Shelf.Vars
import Derived.LaidSub
import Derived.WalkKit
import Derived.ProofKit
namespace Go.Proofs.YtfkhljgifndbpaaDoor
open Go Go.Am Go.RowKit

theorem gMax : Tryd.prog.globalNamed "internal/bytealg.MaxLen" = some 0 := by kernel_rfl
theorem gPow : Tryd.prog.globalNamed "internal/strconv.uint64pow10" = some 1 := by kernel_rfl
theorem gSyn : Tryd.prog.globalNamed "strconv.ErrSyntax" = some 2 := by kernel_rfl
theorem gRng : Tryd.prog.globalNamed "strconv.ErrRange" = some 3 := by kernel_rfl
theorem tPow : (Tryd.prog.globals[1]?).map (·.type) = some 116 := by kernel_rfl
theorem tSyn : (Tryd.prog.globals[2]?).map (·.type) = some 62 := by kernel_rfl
theorem tRng : (Tryd.prog.globals[3]?).map (·.type) = some 62 := by kernel_rfl
theorem esStar : "*" ++ "errors.errorString" = "*errors.errorString" := by decide
set_option maxRecDepth 100000 in
theorem esRow (u : TypeId) (h : Tryd.prog.typeName? 3 u = some "*errors.errorString") : u = 142 :=
  typeName_ptr_named (nm := "errors.errorString") (by rw [esStar]; kernel_rfl) (by kernel_rfl) (by decide) u (by rw [esStar]; exact h)
theorem heap_of_var {W : World} {name : String} {g : Nat} {c : Array Value} (hg : Tryd.prog.globalNamed name = some g) (h : W.var? Tryd.prog name = some c) : ∃ t fr, W.heap[g]? = some (.cells c t fr) := by
  unfold World.var? at h
  rw [hg] at h
  simp only [Option.bind_some] at h
  split at h
  · rename_i cs t fr e; cases h; exact ⟨t, fr, e⟩
  · cases h
theorem err_var {W : World} {n : String} {text : List UInt8} {g : Nat} (hg : Tryd.prog.globalNamed n = some g) (ht : (Tryd.prog.globals[g]?).map (·.type) = some 62) (h : laidMet Tryd.prog [(n, .iface "*errors.errorString" (.ptr (.agg [.lit (.string text)])))] W) : ∃ c t fr, W.heap[g]? = some (.cells c t fr) ∧ ∃ a b, c = #[.iface a b] := by
  obtain ⟨a, s, hv, _⟩ := laid_sentinel h hg ht Tryd.underlying62 esRow Tryd.underlying142 Tryd.underlying144 rfl rfl Tryd.underlying9 (by kernel_rfl) (by kernel_rfl)
  obtain ⟨t, fr, hh⟩ := heap_of_var hg hv
  exact ⟨_, t, fr, hh, _, _, rfl⟩
/-- What the listed variables hold is what the walks know. -/
theorem gl_of {W : World} {l : List (String × DataW Unit)} (hL : laidMetH Tryd.prog l W)
    (h1 : (l.filter fun x => x.1 == "internal/strconv.uint64pow10") = [("internal/strconv.uint64pow10", Rows.laid_internal_strconv_uint64pow10)])
    (h2 : (l.filter fun x => x.1 == "strconv.ErrSyntax") = [("strconv.ErrSyntax", Rows.laid_strconv_ErrSyntax)])
    (h3 : (l.filter fun x => x.1 == "strconv.ErrRange") = [("strconv.ErrRange", Rows.laid_strconv_ErrRange)]) (hsh : W.ShapedOpen Tryd.prog) : GL (old W) W := by
  have k1 := hL.filter fun x => x.1 == "internal/strconv.uint64pow10"
  have k2 := hL.filter fun x => x.1 == "strconv.ErrSyntax"
  have k3 := hL.filter fun x => x.1 == "strconv.ErrRange"
  rw [h1] at k1
  have k1 : laidMet Tryd.prog [("internal/strconv.uint64pow10", Rows.laid_internal_strconv_uint64pow10)] W := (laidMetH_iff.1 k1).1
  rw [h2] at k2
  have k2 : laidMet Tryd.prog [("strconv.ErrSyntax", Rows.laid_strconv_ErrSyntax)] W := (laidMetH_iff.1 k2).1
  rw [h3] at k3
  have k3 : laidMet Tryd.prog [("strconv.ErrRange", Rows.laid_strconv_ErrRange)] W := (laidMetH_iff.1 k3).1
  have lt : ∀ {b : Nat} {o : Obj}, W.heap[b]? = some o → old W b := fun h => (Array.getElem?_eq_some_iff.1 h).1
  have kp : Lib.TabIs Tryd.prog W "internal/strconv.uint64pow10" .u64 Lib.pow10Tab := Lib.tabIs_of_head (zs := Lib.pow10Tab) (rest := []) gPow tPow Tryd.underlying116 Tryd.underlying105 (by kernel_rfl) (by kernel_rfl) k1
  obtain ⟨t1, fr1, e1⟩ := heap_of_var gPow kp
  obtain ⟨c2, t2, fr2, e2, f2⟩ := err_var gSyn tSyn k2
  obtain ⟨c3, t3, fr3, e3, f3⟩ := err_var gRng tRng k3
  have h0 : ((begin Tryd.prog (fun _ _ => 0) default).world.heap[0]?).bind Obj.row? = some (#[.int .i64 0], 3) := by kernel_rfl
  obtain ⟨m, hm⟩ := cell_of_shapedOpen_int hsh (by decide) h0 rfl (by kernel_rfl) (by kernel_rfl) Tryd.underlying3
  obtain ⟨c0, e0, s0, _⟩ := hsh.1 _ _ _ (by decide) h0
  have f0 : c0 = #[.int .i64 m] := by
    have hm' : c0[0]? = some (.int .i64 m) := by
      simp only [World.cell?, e0] at hm
      simpa using hm
    apply Array.ext_getElem?
    intro i
    match i with
    | 0 => exact hm'
    | i + 1 => rw [Array.getElem?_eq_none (by rw [s0]; simp), Array.getElem?_eq_none (by simp)]
  intro x hx
  simp only [GLs, List.mem_cons, List.not_mem_nil, or_false] at hx
  rcases hx with rfl | rfl | rfl | rfl
  · exact ⟨lt e0, _, _, _, e0, m, f0⟩
  · exact ⟨lt e1, _, _, _, e1, rfl⟩
  · exact ⟨lt e2, _, _, _, e2, f2⟩
  · exact ⟨lt e3, _, _, _, e3, f3⟩

/-- A memory that holds what is listed. -/
noncomputable def laidWorld (os : Os) : World :=
  let N := (World.settled Tryd.prog os).heap.size
  let w0 := World.holding Tryd.prog os ⟨#[.cells #[.string ⟨#[105, 110, 118, 97, 108, 105, 100, 32, 115, 121, 110, 116, 97, 120]⟩] 144, .cells #[.string ⟨#[118, 97, 108, 117, 101, 32, 111, 117, 116, 32, 111, 102, 32, 114, 97, 110, 103, 101]⟩] 144], #[], []⟩
  let put (h : Array Obj) (g : Nat) (cs : Array Value) : Array Obj := h.modify g fun
    | .cells _ t frozen => .cells cs t frozen
    | o => o
  let h0 := w0.heap
  let h1 := put h0 4 #[.int .u8 0, .int .u8 1, .int .u8 28, .int .u8 2, .int .u8 29, .int .u8 14, .int .u8 24, .int .u8 3, .int .u8 30, .int .u8 22, .int .u8 20, .int .u8 15, .int .u8 25, .int .u8 17, .int .u8 4, .int .u8 8, .int .u8 31, .int .u8 27, .int .u8 13, .int .u8 23, .int .u8 21, .int .u8 19, .int .u8 16, .int .u8 7, .int .u8 26, .int .u8 12, .int .u8 18, .int .u8 6, .int .u8 11, .int .u8 5, .int .u8 10, .int .u8 9]
  let h2 := put h1 5 #[.int .u8 0, .int .u8 1, .int .u8 56, .int .u8 2, .int .u8 57, .int .u8 49, .int .u8 28, .int .u8 3, .int .u8 61, .int .u8 58, .int .u8 42, .int .u8 50, .int .u8 38, .int .u8 29, .int .u8 17, .int .u8 4, .int .u8 62, .int .u8 47, .int .u8 59, .int .u8 36, .int .u8 45, .int .u8 43, .int .u8 51, .int .u8 22, .int .u8 53, .int .u8 39, .int .u8 33, .int .u8 30, .int .u8 24, .int .u8 18, .int .u8 12, .int .u8 5, .int .u8 63, .int .u8 55, .int .u8 48, .int .u8 27, .int .u8 60, .int .u8 41, .int .u8 37, .int .u8 16, .int .u8 46, .int .u8 35, .int .u8 44, .int .u8 21, .int .u8 52, .int .u8 32, .int .u8 23, .int .u8 11, .int .u8 54, .int .u8 26, .int .u8 40, .int .u8 15, .int .u8 34, .int .u8 20, .int .u8 31, .int .u8 10, .int .u8 25, .int .u8 14, .int .u8 19, .int .u8 9, .int .u8 13, .int .u8 8, .int .u8 7, .int .u8 6]
  let h3 := put h2 1 #[.int .u64 1, .int .u64 10, .int .u64 100, .int .u64 1000, .int .u64 10000, .int .u64 100000, .int .u64 1000000, .int .u64 10000000, .int .u64 100000000, .int .u64 1000000000, .int .u64 10000000000, .int .u64 100000000000, .int .u64 1000000000000, .int .u64 10000000000000, .int .u64 100000000000000, .int .u64 1000000000000000, .int .u64 10000000000000000, .int .u64 100000000000000000, .int .u64 1000000000000000000, .int .u64 10000000000000000000]
  let h4 := put h3 7 #[.int .u8 128, .int .u8 191, .int .u8 160, .int .u8 191, .int .u8 128, .int .u8 159, .int .u8 144, .int .u8 191, .int .u8 128, .int .u8 143, .int .u8 0, .int .u8 0, .int .u8 0, .int .u8 0, .int .u8 0, .int .u8 0, .int .u8 0, .int .u8 0, .int .u8 0, .int .u8 0, .int .u8 0, .int .u8 0, .int .u8 0, .int .u8 0, .int .u8 0, .int .u8 0, .int .u8 0, .int .u8 0, .int .u8 0, .int .u8 0, .int .u8 0, .int .u8 0]
  let h5 := put h4 3 #[.iface 142 (.pointer (some ⟨N + 1, 0, none⟩))]
  let h6 := put h5 2 #[.iface 142 (.pointer (some ⟨N, 0, none⟩))]
  let h7 := put h6 6 (List.map (fun n : Nat => Value.int .u8 (n : Int)) Pinned.utf8FirstZ).toArray
  { w0 with heap := h7 }
end Go.Proofs.YtfkhljgifndbpaaDoor

