import Derived.Test.YtfkhljgifndbpaaDoorPrS
import Derived.Test.YtfkhljgifndbpaaDoorPrB
import Derived.Test.YtfkhljgifndbpaaDoorSteps2
/- bench.Print told of abstract heaps. -/
set_option linter.unusedVariables false
set_option linter.unusedSimpArgs false
namespace Go.Proofs.YtfkhljgifndbpaaDoor
open Go Go.Am Go.RowKit Go.Proofs

theorem Print_real (s : Scr) (a : Option Addr) (c : Nat) (w : World) (hw : Glob w) (hO : OpsW w a s.ops) (hl : s.ops.length ≤ 2097152) :
    Calls Tryd.prog 9 #[.agg #[.int .i64 s.num, .int .i64 s.den, .int .i64 s.burst, .slice a s.ops.length c]] w (PrEnd s w) := by
  by_cases h : sml s.num ∧ sml s.den ∧ sml s.burst
  · exact pr1 s.num s.den s.burst a s.ops c w hw h.1 h.2.1 h.2.2 hO hl
  · refine (Print_bad s.num s.den s.burst a s.ops.length c w h).mono ?_
    rintro e w' ⟨rfl, hb⟩
    exact ⟨.inr ⟨fun hs => h ⟨hs.1, hs.2.1, hs.2.2.1⟩, rfl⟩, hb⟩
/-- What is to be printed: nil, or a row. -/
def SlAt (H : Heap) (v : Value) (os : List (Int × Int)) : Prop :=
  (os = [] ∧ v = .slice none 0 0) ∨ ∃ k o g c, v = slv k o g os.length c ∧ Tbl (Int × Int) oe 2 (0, 0) H k o g os
theorem OpsAt.sl {b : Nat} {H : Heap} {v : Value} {os : List (Int × Int)} (h : OpsAt b H v os) : SlAt H v os := by
  rcases h with h | ⟨ko, g, _, h1, h2⟩
  · exact .inl h
  · exact .inr ⟨ko, 0, g, _, h1, Tbl.new (enc := oe) (s := 2) (d := (0, 0)) (fun _ => rfl) _ _ _ false _ h2⟩
theorem slice_real {prot : Nat → Prop} {B w : World} {ι : Inj} {H : Heap} (hs : HSim prot B w ι H) {v v' : Value} {os : List (Int × Int)} (h : SlAt H v os) (hv : VRel (tags H) ι v v') : ∃ a c, v' = .slice a os.length c ∧ OpsW w a os := by
  rcases h with ⟨rfl, rfl⟩ | ⟨k, o, g, c, rfl, ht⟩
  · exact ⟨none, 0, hv.nilS_inv, fun i hi => by simp at hi⟩
  · obtain ⟨ro, cs, hk, hl, hcs⟩ := ht.at'
    have htag : (tags H)[k]? = some ⟨g, 2, ro⟩ := by simp [tags, hk, AObj.tag]
    generalize hn : os.length = n at *
    cases hv with
    | flat h => simp [Am.flat] at h
    | @slice _ _ _ _ _ c' L t ht' hg hL hc hr =>
      refine ⟨_, c', rfl, fun i hi => ?_⟩
      rcases hs.obj k _ hk with ⟨h1, h2⟩ | ⟨L2, rc, t2, fr, h1, h2, h3, h4, h5, h6, h7⟩
      · rw [h1] at hL; cases hL
      · rw [h1] at hL
        cases hL
        have cell : ∀ j z, (oe (os.getD i (0, 0)))[j]? = some (.int .i64 z) → j < 2 → w.cell? ⟨L.blk, L.off + o + i * 2 + j, none⟩ = some (.int .i64 z) := fun j z hj hj2 => by
          have e := hcs i (by omega) j hj2
          rw [hj] at e
          obtain ⟨_, u, hu, hru⟩ := h5 _ _ e
          have := hru.plain_inv rfl
          subst this
          rw [Lib.cell_of_heap h2, ← hu]
          congr 1; omega
        exact ⟨L.blk, L.off + o, (Array.getElem?_eq_some_iff.1 h2).1, rfl, cell 0 _ rfl (by omega), cell 1 _ rfl (by omega)⟩
    | empty ht' hg => exact ⟨_, 0, rfl, fun i hi => by omega⟩
    | staleS ht' hg h1 =>
      rw [htag] at ht'
      cases ht'
      exact absurd hg (Nat.lt_irrefl _)
theorem agg4 {T : List Tag} {ι : Inj} {x y z : Int} {v u : Value} (h : VRel T ι (.agg #[.int .i64 x, .int .i64 y, .int .i64 z, v]) u) : ∃ v', u = .agg #[.int .i64 x, .int .i64 y, .int .i64 z, v'] ∧ VRel T ι v v' := by
  cases h with
  | flat h => simp [Am.flat] at h
  | @agg _ b hs h1 h =>
    have hb : b.size = 4 := by simpa using hs.symm
    obtain ⟨l⟩ := b
    match l, hb with
    | [b0, b1, b2, b3], _ =>
      have e0 := (h 0 _ _ rfl rfl).plain_inv rfl
      have e1 := (h 1 _ _ rfl rfl).plain_inv rfl
      have e2 := (h 2 _ _ rfl rfl).plain_inv rfl
      subst e0; subst e1; subst e2
      exact ⟨b3, rfl, h 3 _ _ rfl rfl⟩
def PrintR (s : Scr) (v : Value) : Prop := (okS s ∧ v = .tuple #[str (printP s), .int .i64 0]) ∨ (¬ okS s ∧ v = .tuple #[.string ⟨#[]⟩, .int .i64 2])
theorem Print_spec (s : Scr) (v : Value) (H : Heap) (hS : SlAt H v s.ops) (hl : s.ops.length ≤ 2097152) :
    ACallK Tryd.prog 9 [.agg #[.int .i64 s.num, .int .i64 s.den, .int .i64 s.burst, v]] H (fun r H' => PrintR s r ∧ H' = H) := by
  refine ⟨⟨_, Tryd.func9, by kernel_rfl, by kernel_rfl⟩, fun prot B ι w args' hs hv => ?_⟩
  obtain ⟨args'⟩ := args'
  obtain ⟨u, r, rfl, hu, hr⟩ := hv.uncons
  obtain rfl := hr.unnil
  obtain ⟨v', rfl, hv'⟩ := agg4 hu
  obtain ⟨a, c, rfl, hw⟩ := slice_real hs hS hv'
  refine (Print_real s a c w (globW hs) hw hl).mono ?_
  rintro e w' ⟨he, hb⟩
  have hs' := hs.later hb.os hb.tape hb.output hb.size hb.block
  rcases he with ⟨h1, rfl⟩ | ⟨h1, rfl⟩
  · exact ⟨_, _, ι, H, rfl, hs', .refl _ _, VRel.plain rfl, .inl ⟨h1, rfl⟩, rfl⟩
  · exact ⟨_, _, ι, H, rfl, hs', .refl _ _, VRel.plain rfl, .inr ⟨h1, rfl⟩, rfl⟩
end Go.Proofs.YtfkhljgifndbpaaDoor
