import Derived.Test.YtabcjhpgamhpoaaProg
import Derived.Shelf.SlIterI.Collect
import Derived.LoopNIn
import Derived.LoopIn
import Derived.RangeFuncBound
/- slices.AppendSeq at nil of slices.Values: the code, walked. -/
set_option linter.unusedVariables false
set_option linter.unusedSimpArgs false
namespace Go.Proofs.Ytabcjhpgamhpoaa
open Go Go.Proofs Go.RowKit Go.Maps Go.Sort Go.Shelf

def renA : Ren := ⟨fun k => if k = 11 then 33 else k, fun t => if t = 24 then 22 else if t = 26 then 3 else if t = 28 then 41 else if t = 33 then 50 else t, fun g => g⟩
theorem laysA : SlLaysZI.n11 Try.prog renA where
  mixed := by kernel_rfl
  f11 := ⟨Try.f33.name, by kernel_rfl, Try.func33.trans (congrArg some (by kernel_rfl))⟩
  t0 := Try.underlying0
  a0 := Try.isAgg0
  z0 := Try.sizeOf0
  v0 := Try.zeroValue0
  t24 := Try.underlying22
  a24 := Try.isAgg22
  z24 := Try.sizeOf22
  v24 := Try.zeroValue22
  t26 := Try.underlying3
  a26 := Try.isAgg3
  z26 := Try.sizeOf3
  v26 := Try.zeroValue3
  t28 := Try.underlying41
  a28 := Try.isAgg41
  z28 := Try.sizeOf41
  v28 := Try.zeroValue41
  i26 := by kernel_rfl

def vI : Value → Int
  | .int _ n => n
  | _ => 0
/-- What has come when k rounds are over. -/
def upto (f : Nat → Int) (k : Nat) : List Int := (List.range k).map f
theorem upto_succ (f : Nat → Int) (k : Nat) : upto f (k + 1) = upto f k ++ [f k] := by simp [upto, List.range_succ]
theorem upto_length (f : Nat → Int) (k : Nat) : (upto f k).length = k := by simp [upto]

attribute [local go_sem] Oper.semAt_some

set_option maxRecDepth 100000 in
set_option maxHeartbeats 2000000 in
/-- slices.Values' closure, whatever the loop's body keeps, so it keeps the slice's cells. -/
theorem values_in (n : Nat) (hn : 1 ≤ n) (l Bs Bo b off len cap : Nat) (sa : Option Addr) (hsa : 0 < len → sa = some ⟨b, off, none⟩) (f : Nat → Int) (hreach : len ≤ 1000000000000) (J : List Int → World → Prop)
    (hY : ∀ pre x W, J pre W → pre.length < len → YieldAt Fence.wide (n - 1) Try.prog l #[.int .i64 x] W fun e W' => e = .returned (.bool true) ∧ J (pre ++ [x]) W')
    (W : World) (hJc : ∀ pre W', J pre W' → ∀ j, j < len → W'.cell? ⟨b, off + j, none⟩ = some (.int .i64 (f j))) (hBs : W.cell? ⟨Bs, Bo, none⟩ = some (.slice sa len cap)) (h0 : J [] W) :
    CallsIn Fence.wide n Try.prog 24 #[.func (.yield l) #[] #[], .pointer (some ⟨Bs, Bo, none⟩)] W fun e W' => (∃ v, e = .returned v) ∧ J (upto f len) W' := by
  have t0 := Try.underlying0; have a0 := Try.isAgg0; have z0 := Try.sizeOf0; have v0 := Try.zeroValue0
  have t3 := Try.underlying3; have a3 := Try.isAgg3; have z3 := Try.sizeOf3; have v3 := Try.zeroValue3
  have t4 := Try.underlying4; have a4 := Try.isAgg4; have z4 := Try.sizeOf4; have v4 := Try.zeroValue4
  have t22 := Try.underlying22; have a22 := Try.isAgg22; have z22 := Try.sizeOf22; have v22 := Try.zeroValue22
  have u0 := run_underlying Try.underlying0; have u3 := run_underlying Try.underlying3; have u4 := run_underlying Try.underlying4; have u22 := run_underlying Try.underlying22
  have mixed : Try.prog.follows .mixedOrders = true := by kernel_rfl
  refine callsIn_of_wp Try.func24 rfl trivial ?_ rfl
  simp only [Try.ntmps24, List.size_toArray, List.length_cons, List.length_nil, Nat.reduceAdd, Nat.reduceSub, Array.replicate_succ, Array.replicate_zero, List.push_toArray, List.append_toArray, List.nil_append, List.cons_append]
  gi_wp2
  gi_loopw [7] (fun i wr => ∃ k : Nat, k ≤ len ∧ i = .int .i64 k ∧ J (upto f k) wr) (fun i _ => len - (vI i).toNat)
  case atStart => exact ⟨0, Nat.zero_le _, rfl, h0⟩
  case round =>
    obtain ⟨k, hk, rfl, hJs⟩ := hrel
    have hcx : k < len → wr.cell? ⟨b, off + k, none⟩ = some (.int .i64 (f k)) := hJc _ _ hJs k
    by_cases hlt : k < len
    · obtain ⟨fn, tmps, assign, body, hy, hR⟩ := hY _ (f k) wr hJs (by rw [upto_length]; exact hlt)
      have hcx' := hcx hlt
      obtain rfl := hsa (by omega)
      gi_wp2
      refine hR.mono ?_
      rintro e W3 ⟨rfl, hJ3⟩
      gi_wp2
      go_roundw
      case rel => exact ⟨k + 1, by omega, by simp, by rw [upto_succ]; exact hJ3⟩
      case measure => simp [vI]; omega
    · obtain rfl : k = len := by omega
      gi_wp2
      go_end0
      exact ⟨⟨_, rfl⟩, hJs⟩

set_option maxRecDepth 100000 in
set_option maxHeartbeats 2000000 in
/-- .. of which AppendSeq makes a new row. -/
theorem appendSeq_at (w : World) (vb vo b off len cap : Nat) (sa : Option Addr) (hsa : 0 < len → sa = some ⟨b, off, none⟩) (f : Nat → Int) (hreach : len ≤ 2097152) (hvb : vb < w.heap.size) (hb : 0 < len → b < w.heap.size) (hBs : w.cell? ⟨vb, vo, none⟩ = some (.slice sa len cap))
    (hc : ∀ j, j < len → w.cell? ⟨b, off + j, none⟩ = some (.int .i64 (f j))) :
    CallsIn Fence.wide 3 Try.prog 33 #[.slice none 0 0, .func (.func 24) #[] #[.pointer (some ⟨vb, vo, none⟩)]] w fun e w' =>
      ∃ v, e = .returned v ∧ w'.ownsRow w.heap.size 3 1 v len ((upto f len).map encZ) ∧ Below w.heap.size w w' := by
  have eg := enters_of Try.func24 (by kernel_rfl) rfl
  have hFg : Fence.wide.fn 24 := trivial
  have h1 : (1 : Nat) ≤ 3 := by omega
  obtain ⟨lb, hlb⟩ : ∃ lb : Array Value, lb = #[.pointer (some ⟨vb, vo, none⟩)] := ⟨_, rfl⟩
  rw [← hlb]
  have hlb' : ∀ l : Nat, (#[.func (.yield l) #[] #[], .pointer (some ⟨vb, vo, none⟩)] : Array Value) = #[.func (.yield l) #[] #[]] ++ lb := fun l => by rw [hlb]; rfl
  have t0 := Try.underlying0; have a0 := Try.isAgg0; have z0 := Try.sizeOf0; have v0 := Try.zeroValue0
  have t3 := Try.underlying3; have a3 := Try.isAgg3; have z3 := Try.sizeOf3; have v3 := Try.zeroValue3
  have t22 := Try.underlying22; have a22 := Try.isAgg22; have z22 := Try.sizeOf22; have v22 := Try.zeroValue22
  have t41 := Try.underlying41; have a41 := Try.isAgg41; have z41 := Try.sizeOf41; have v41 := Try.zeroValue41
  have u0 := run_underlying Try.underlying0; have u3 := run_underlying Try.underlying3; have u22 := run_underlying Try.underlying22; have u41 := run_underlying Try.underlying41
  have mixed : Try.prog.follows .mixedOrders = true := by kernel_rfl
  have hne : (22 : TypeId) ≠ 3 := by decide
  refine callsIn_of_wp_marks Try.func33 rfl trivial ?_ rfl
  simp only [Try.ntmps33, List.size_toArray, List.length_cons, List.length_nil, Nat.reduceAdd, Nat.reduceSub, Array.replicate_succ, Array.replicate_zero, List.push_toArray, List.append_toArray, List.nil_append, List.cons_append]
  gi_wp2
  refine wpIn_rangeFunc ?_
  intro fn hfn
  rw [show Fence.wide.round = none from rfl]
  obtain ⟨W0, hW0⟩ : ∃ W0, w.alloc (.cells #[.slice none 0 0] 22) = W0 := ⟨_, rfl⟩
  have hs0 : W0.heap.size = w.heap.size + 1 := by rw [← hW0]; simp
  have hv0 : W0.heap[w.heap.size]? = some (.cells #[.slice none 0 0] 22 (0, 0)) := by rw [← hW0]; exact World.alloc_heap_new w _
  have hb0 : Below w.heap.size w W0 := by rw [← hW0]; exact (Below.refl _ w).alloc (Nat.le_refl _) _
  rw [hW0]
  obtain ⟨W1, hW1⟩ : ∃ W1, (W0.alloc (.deferred (some []))).alloc (.loop (AnyZI.apRec renA fn (.func (.func 24) #[] lb) w.heap.size W0.heap.size .ready none)) = W1 := ⟨_, rfl⟩
  have hold : ∀ k, k < W0.heap.size → W1.heap[k]? = W0.heap[k]? := fun k hk => by
    rw [← hW1]; exact (Below.heap_alloc _ _ k (by simp; omega)).trans (Below.heap_alloc _ _ k hk)
  have hb1 : Below w.heap.size w W1 := by rw [← hW1]; exact (hb0.alloc hb0.size _).alloc (by have := hb0.size; simp; omega) _
  have hs1 : W1.heap.size = W0.heap.size + 2 := by rw [← hW1]; simp
  have hM : AnyZI.ApAt renA w fn (.func (.func 24) #[] lb) w.heap.size (W0.heap.size + 1) W0.heap.size [] W1 :=
    ⟨⟨_, (hold w.heap.size (by omega)).trans hv0, ⟨rfl, .inl ⟨rfl, rfl⟩⟩, by simp⟩,
     by rw [← hW1]; have := World.alloc_heap_new (W0.alloc (.deferred (some []))) (.loop (AnyZI.apRec renA fn (.func (.func 24) #[] lb) w.heap.size W0.heap.size .ready none)); rwa [World.size_alloc] at this,
     by rw [← hW1]; exact (Below.heap_alloc _ _ _ (by simp)).trans (World.alloc_heap_new W0 _), hb1⟩
  refine ⟨W0.heap.size + 1, [{ target := .collected W0.heap.size, args := #[] }], W1, { target := .fn (.func 24) lb, args := #[.func (.yield (W0.heap.size + 1)) #[] #[]] }, W1, 24,
    #[.func (.yield (W0.heap.size + 1)) #[] #[]] ++ lb, W1, ?_, ?_, ?_, ?_, fun _ => by omega, ?_⟩
  · rw [← hW1]; exact run_enterLoop_outer _ _ _ _ _
  · simp [resolve, go_sem]
  · intro f' hf'; exact trivial
  · simp [invoke, go_sem, eg]
  · have hval := values_in (3 - 1) (by omega) (W0.heap.size + 1) vb vo b off len cap sa hsa f (by omega) (AnyZI.ApAt renA w fn (.func (.func 24) #[] lb) w.heap.size (W0.heap.size + 1) W0.heap.size)
      (fun pre x W hJ hl => YieldAt.mono (AnyZI.apYield laysA Fence.wide (3 - 1 - 1) w fn hfn _ w.heap.size (W0.heap.size + 1) W0.heap.size (by omega) (by omega) (by omega) (Nat.le_refl _) (by omega) len (by unfold maxLen; omega) (by omega) pre x W hJ hl) fun e W' h => ⟨h.1, h.2.1⟩)
      W1 (fun pre W' hJ j hj => (hJ.below.cell (p := ⟨b, off + j, none⟩) (hb (by omega))).trans (hc j hj)) ((hb1.cell (p := ⟨vb, vo, none⟩) hvb).trans hBs) hM
    rw [hlb'] at hval
    refine hval.mono ?_
    rintro e W2 ⟨⟨v0, rfl⟩, h2⟩
    obtain ⟨v, hv, hrow, hnil⟩ := h2.box
    have hend := run_endLoop (P := Try.prog) h2.L (by simp [AnyZI.apRec])
    obtain ⟨W3, hW3⟩ : ∃ W3, W2.putObj (W0.heap.size + 1) (.loop { AnyZI.apRec renA fn (.func (.func 24) #[] lb) w.heap.size W0.heap.size .ready none with state := .exhausted }) = W3 := ⟨_, rfl⟩
    rw [hW3] at hend
    have hg3 : W2.grownBy W3 (some (W0.heap.size + 1)) := by rw [← hW3]; exact grownBy_putObj_a _ _ _
    have hv3 : W3.heap[w.heap.size]? = some (.cells #[v] 22 (0, 0)) := by rw [← hW3]; exact (World.putObj_heap_other (by omega)).trans hv
    have hK3 : W3.heap[W0.heap.size]? = some (.deferred (some [])) := by rw [← hW3]; exact (World.putObj_heap_other (by omega)).trans h2.K
    have hrow3 := hrow.kept hg3 (ownsRow_ne_a hrow h2.L (fun cur e => by first | cases e | exact hne (Obj.cells.inj e).2.1))
    have hb3 : Below w.heap.size w W3 := h2.below.grown hg3 h2.below.size (fun k e => by cases e; omega)
    obtain ⟨hc3, hf3⟩ := cell_of_box_a hv3
    clear hW3
    refine ⟨none, W3, hend, ?_⟩
    gi_wp2
    rw [← hs0]
    refine ⟨by simp, .inl ⟨_, _, rfl, run_takeDeferred hK3, ?_⟩⟩
    have hrow4 : W3.ownsRow w.heap.size 3 1 v len ((upto f len).map encZ) := by rw [upto_length] at hrow3; exact hrow3
    exact ⟨_, results_tmp rfl _ _ _, v, rfl, hrow4.kept (grownBy_putObj_a _ _ _) (ownsRow_ne_a hrow4 hK3 (fun cur e => by first | cases e | exact hne (Obj.cells.inj e).2.1)), hb3.grown (grownBy_putObj_a _ _ _) hb3.size (fun k e => by cases e; omega)⟩
end Go.Proofs.Ytabcjhpgamhpoaa
