import Derived.Test.YtmbcgelfnbnicaaDoorLift
import Derived.Test.YtmbcgelfnbnicaaDoorLay
import Derived.Test.YtmbcgelfnbnicaaDoorLib
import Derived.Test.YtmbcgelfnbnicaaDoorFns
import Derived.Test.YtmbcgelfnbnicaaDoorPlain
-- STRINGS
set_option linter.unusedSimpArgs false
set_option linter.unusedVariables false
set_option maxHeartbeats 2000000
set_option maxRecDepth 20000
namespace Go.Proofs.YtmbcgelfnbnicaaDoor
open Go Go.Am
attribute [local irreducible] opsW Ww loopW callW drawW outW outDW gW cW BrW bothW vW resW DropW RdW dcallW altW forkW splitW Later.run
open Go.RowKit Go.Sort

/-! ## Strings in a walk -/

theorem strV_add (a b : Bs) (h : a.length + b.length ≤ 9223372036854775807) : strV .add [str a, str b] = some (str (a ++ b)) := by
  have e1 : (⟨a.toArray⟩ : ByteArray).size = a.length := by simp [ByteArray.size]
  have e2 : (⟨b.toArray⟩ : ByteArray).size = b.length := by simp [ByteArray.size]
  show (if (⟨a.toArray⟩ : ByteArray).size + (⟨b.toArray⟩ : ByteArray).size ≤ 9223372036854775807 then some (Value.string (⟨a.toArray⟩ ++ ⟨b.toArray⟩)) else none) = _
  rw [e1, e2, if_pos h]
  congr 2
theorem strV_eq (a b : Bs) : strV (.cmp false) [str a, str b] = some (.bool (decide (a = b))) := by
  show some (Value.bool (a == b)) = _
  rw [Bool.beq_eq_decide_eq]
theorem strV_neq (a b : Bs) : strV (.cmp true) [str a, str b] = some (.bool (!decide (a = b))) := by
  show some (Value.bool (!(a == b))) = _
  rw [Bool.beq_eq_decide_eq]
theorem strV_len (a : Bs) : strV .len [str a] = some (.int .i64 a.length) := by
  show some (Value.int .i64 (⟨a.toArray⟩ : ByteArray).size) = _
  have e1 : (⟨a.toArray⟩ : ByteArray).size = a.length := by simp [ByteArray.size]
  rw [e1]
theorem strV_nil0 : strV (.isNil false) [.nilIface] = some (.bool true) := rfl
theorem strV_nil1 (t : TypeId) (v : Value) : strV (.isNil false) [.iface t v] = some (.bool false) := rfl
attribute [go_sem] strV_add strV_eq strV_neq strV_len strV_nil0 strV_nil1

/-! ## The library's functions -/

theorem Itoa_spec (n : Int) (h0 : -9223372036854775808 ≤ n) (h1 : n ≤ 9223372036854775807) (H : Heap) : ACallK Tryd.prog 36 [.int .i64 n] H (fun v H' => v = str (Lib.itoa n) ∧ H' = H) := by
  refine lifted ⟨_, Tryd.func36, by kernel_rfl, by kernel_rfl⟩ rfl rfl (fun w hw => ?_) H
  obtain ⟨t, fr, hp⟩ := hw.pow
  have hg : Tryd.prog.globalNamed "internal/strconv.uint64pow10" = some 1 := by kernel_rfl
  refine (Any.strconv_Itoa Tryd.laysM171 n h0 h1 w ?_).mono ?_
  · unfold Lib.TabIs World.var?
    rw [hg]
    simp only [Option.bind_some, hp]
  · rintro e w' ⟨rfl, k, os, rfl⟩
    exact ⟨rfl, ⟨rfl, rfl, rfl, by rw [Go.Sort.size_grow]; exact Nat.le_add_right _ _, fun j hj => Go.Sort.heap_grow_old (w.drewN k) os hj⟩⟩
theorem Cut_spec (c : UInt8) (s : Bs) (hs : s.length < 4294967281) (H : Heap) : ACallK Tryd.prog 50 [str s, str [c]] H (fun v H' => v = .tuple #[str (cutAt c s).1, str (cutAt c s).2.1, .bool (cutAt c s).2.2] ∧ H' = H) := by
  refine lifted ⟨_, Tryd.func50, by kernel_rfl, by kernel_rfl⟩ rfl rfl (fun w hw => ?_) H
  obtain ⟨m, hm⟩ := hw.max
  have h := Any.strings_Cut Tryd.lays145 ⟨s.toArray⟩ ⟨#[c]⟩ m w (by simpa [ByteArray.size] using hs) hm
  refine h.mono ?_
  rintro e w' ⟨rfl, n, rfl⟩
  refine ⟨?_, ⟨rfl, rfl, rfl, Nat.le_refl _, fun _ _ => rfl⟩⟩
  rw [← cut_eq]
theorem Split_spec (c : UInt8) (s : Bs) (hs : s.length < 4294967281) (H : Heap) :
    ACallK Tryd.prog 58 [str s, str [c]] H (fun v H' => v = slv H.length 0 0 (words c s).length (words c s).length ∧ H' = H ++ [.cells 0 1 false ((words c s).map str)]) := by
  have hsp : (Lib.splitB ⟨#[c]⟩ 0 (Lib.countB ⟨s.toArray⟩ ⟨#[c]⟩) ⟨s.toArray⟩).map (·.data.toList) = words c s := by
    rw [Lib.splitB_data]
    exact split_eq c _ s (Nat.le_refl _)
  have hln := Lib.splitB_all (⟨#[c]⟩ : ByteArray) (Nat.le_refl 1) 0 _ ⟨s.toArray⟩ rfl
  have hlen : Lib.countB ⟨s.toArray⟩ ⟨#[c]⟩ + 1 = (words c s).length := by rw [← hsp, List.length_map]; exact hln.symm
  refine liftedRow ⟨_, Tryd.func58, by kernel_rfl, by kernel_rfl⟩ rfl ?_ (by simp) (fun w hw => ?_) H
  · rw [List.all_eq_true]
    intro x hx
    obtain ⟨y, _, rfl⟩ := List.mem_map.1 hx
    rfl
  · obtain ⟨m, hm⟩ := hw.max
    refine (Any.strings_Split Tryd.lays146 (by kernel_rfl) ⟨s.toArray⟩ ⟨#[c]⟩ m w (by simpa [ByteArray.size] using hs) hm (Nat.le_refl 1)).mono ?_
    rintro e w' ⟨rfl, rfl⟩
    rw [hlen]
    refine ⟨rfl, 9, ?_⟩
    congr 2
    rw [← hsp, List.map_map]
    rfl
theorem Atoi_ok (s : Bs) (hs : s.length ≤ 281474976710656) (n : Int) (h : Lib.atoiAll s = .ok n) (H : Heap) : ACallK Tryd.prog 65 [str s] H (fun v H' => v = .tuple #[.int .i64 n, .nilIface] ∧ H' = H) := by
  have hsz : (⟨s.toArray⟩ : ByteArray).size = s.length := by simp [ByteArray.size]
  refine lifted ⟨_, Tryd.func65, by kernel_rfl, by kernel_rfl⟩ rfl rfl (fun w hw => ?_) H
  refine (Any.strconv_Atoi_ok Tryd.laysC172 ⟨s.toArray⟩ (by omega) n h w).mono ?_
  rintro e w' ⟨rfl, h2⟩
  refine ⟨rfl, ?_⟩
  rcases h2 with rfl | ⟨t, rfl⟩
  · exact Below.refl _ _
  · exact ⟨rfl, rfl, rfl, by rw [Lib.bytesWorld_size]; omega, fun j hj => Lib.bytesWorld_at_old w _ _ j hj⟩
theorem Atoi_err (s : Bs) (hs : s.length ≤ 281474976710656) (h : ∀ n, Lib.atoiAll s ≠ .ok n) (H : Heap) : ∃ n t, ACallK Tryd.prog 65 [str s] H (fun v H' => v = .tuple #[.int .i64 n, .iface t (.pointer (some ⟨H.length, 0, some 1⟩))] ∧ H' = H ++ [.cells 1 0 false []]) := by
  have hsz : (⟨s.toArray⟩ : ByteArray).size = s.length := by simp [ByteArray.size]
  rcases ha : Lib.atoiAll s with n | _ | _
  · exact absurd ha (h n)
  · refine ⟨0, Tryd.laysC172_ren.t 168, liftedErr ⟨_, Tryd.func65, by kernel_rfl, by kernel_rfl⟩ rfl (fun w hw => ?_) H⟩
    obtain ⟨t, p, hv⟩ := hw.synt
    refine (Any.strconv_Atoi_syntax Tryd.laysC172 ⟨s.toArray⟩ (by omega) ha _ w hv (.inr ⟨_, _, rfl⟩)).mono ?_
    rintro e w' ⟨N, rfl, _, _, hb⟩
    exact ⟨N, rfl, hb⟩
  · refine ⟨Lib.atoiSat s, Tryd.laysC172_ren.t 168, liftedErr ⟨_, Tryd.func65, by kernel_rfl, by kernel_rfl⟩ rfl (fun w hw => ?_) H⟩
    obtain ⟨t, p, hv⟩ := hw.rang
    refine (Any.strconv_Atoi_range Tryd.laysC172 ⟨s.toArray⟩ (by omega) ha _ w hv (.inr ⟨_, _, rfl⟩)).mono ?_
    rintro e w' ⟨N, rfl, _, _, hb⟩
    exact ⟨N, rfl, hb⟩

end Go.Proofs.YtmbcgelfnbnicaaDoor
