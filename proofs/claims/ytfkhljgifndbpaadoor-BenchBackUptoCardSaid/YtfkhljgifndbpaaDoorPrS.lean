import Derived.Test.YtfkhljgifndbpaaDoorPrR
import Derived.Deep.RegionHeld3
import Derived.Deep.RegionWith
/- bench.Print over real memories: the walk. -/
set_option linter.unusedVariables false
set_option linter.unusedSimpArgs false
namespace Go.Proofs.YtfkhljgifndbpaaDoor
open Go Go.Am Go.RowKit Go.Proofs
set_option maxHeartbeats 4000000
set_option maxRecDepth 1000000

theorem Fx.drew {w : World} {b ob : Nat} {cs : Array Value} {T : TypeId} {acc : Bs} {w1 : World} (h : Fx w b ob cs T acc w1) : Fx w b ob cs T acc w1.drew := h.step ⟨rfl, rfl, rfl, Nat.le_refl _, fun _ _ => rfl⟩
theorem Fx.s4 {w : World} {b ob : Nat} {x y z v : Value} {T : TypeId} {acc : Bs} {w1 : World} (h : Fx w b ob #[x, y, z, v] T acc w1) :
    w1.cell? ⟨ob, 0, none⟩ = some x ∧ w1.cell? ⟨ob, 1, none⟩ = some y ∧ w1.cell? ⟨ob, 2, none⟩ = some z ∧ w1.cell? ⟨ob, 3, none⟩ = some v := by
  have e := Lib.cell_of_heap h.box
  exact ⟨(e 0).trans rfl, (e 1).trans rfl, (e 2).trans rfl, (e 3).trans rfl⟩
theorem Fx.start (w : World) (cs : Array Value) (T : TypeId) (hT : T ≠ 5) : Fx w (w.heap.size + 1) w.heap.size cs T [] ((w.alloc (.cells cs T)).alloc (.cells #[.pointer none, .slice none 0 0] 60)) := by
  have e : (w.alloc (.cells cs T)).heap.size = w.heap.size + 1 := by simp
  have h := Lib.IsBuilderF.of (Lib.fresh_isBuilder 60 5 (w.alloc (.cells cs T)))
  rw [e] at h
  refine ⟨((Below.refl _ w).alloc (Nat.le_refl _) _).alloc (by omega) _, ?_, h, by simp, by omega⟩
  rw [Lib.alloc_old _ _ _ (by omega)]
  exact heap_alloc_new w _
theorem Fx.rebox {w : World} {b ob : Nat} {cs cs' : Array Value} {T T' : TypeId} {acc : Bs} {w1 : World} (h : Fx w b ob cs T acc w1) : Fx w b w1.heap.size cs' T' acc (w1.alloc (.cells cs' T')) :=
  ⟨h.bel.alloc h.bel.size _, heap_alloc_new w1 _, h.bld.alloc _, by have := h.lt; simp; omega, h.wb⟩
theorem Fx.s2 {w : World} {b ob : Nat} {x y : Value} {T : TypeId} {acc : Bs} {w1 : World} (h : Fx w b ob #[x, y] T acc w1) :
    w1.cell? ⟨ob, 0, none⟩ = some x ∧ w1.cell? ⟨ob, 1, none⟩ = some y := by
  have e := Lib.cell_of_heap h.box
  exact ⟨(e 0).trans rfl, (e 1).trans rfl⟩
/-- What Print is to write lies in w at a. -/
def OpsW (w : World) (a : Option Addr) (ops : List (Int × Int)) : Prop := ∀ i, i < ops.length → ∃ bb off, bb < w.heap.size ∧ a = some ⟨bb, off, none⟩ ∧ w.cell? ⟨bb, off + i * 2, none⟩ = some (.int .i64 (ops.getD i (0, 0)).1) ∧ w.cell? ⟨bb, off + i * 2 + 1, none⟩ = some (.int .i64 (ops.getD i (0, 0)).2)
def linesB (l : List (Int × Int)) : Bs := l.flatMap fun o => lineB o ++ [10]
def PrEnd (s : Scr) (w : World) (e : Ending) (w' : World) : Prop := ((okS s ∧ e = .returned (.tuple #[str (printP s), .int .i64 0])) ∨ (¬ okS s ∧ e = .returned (.tuple #[.string ⟨#[]⟩, .int .i64 2]))) ∧ Below w.heap.size w w'
theorem getD_mem' {ops : List (Int × Int)} {k : Nat} (h : k < ops.length) : ops.getD k (0, 0) ∈ ops := by
  rw [List.getD_eq_getElem?_getD, List.getElem?_eq_getElem h]; exact List.getElem_mem h
theorem not_okS {s : Scr} {k : Nat} {o : Int × Int} (hk : k < s.ops.length) (ho : o = s.ops.getD k (0, 0)) (h : ¬ okO o) : ¬ okS s := fun hs => h (ho ▸ hs.2.2.2 _ (getD_mem' hk))
theorem print_all (num den burst : Int) (ops : List (Int × Int)) : (headB ⟨num, den, burst, []⟩ ++ [10]) ++ linesB ops = printP ⟨num, den, burst, ops⟩ := by
  unfold printP linesB; simp [headB]
theorem linesB_len : ∀ {l : List (Int × Int)}, (∀ o ∈ l, okO o) → (linesB l).length ≤ 19 * l.length
  | [], _ => by simp [linesB]
  | o :: l, h => by
    have ih := linesB_len (l := l) fun x hx => h x (List.mem_cons_of_mem _ hx)
    have h1 := h o List.mem_cons_self
    have h2 := itoa_len h1.2.2.1 h1.2.2.2
    have h3 : (kindB o.1).length ≤ 4 := by
      unfold kindB; split
      · decide
      · split <;> decide
    have h4 : (lineB o).length ≤ 18 := by
      unfold lineB
      simp only [List.length_append, List.length_cons]
      omega
    unfold linesB at ih ⊢
    simp only [List.flatMap_cons, List.length_append, List.length_cons, List.length_nil]
    omega
theorem linesB_snoc (ops : List (Int × Int)) (k : Nat) (hk : k < ops.length) (o : Int × Int) (ho : o = ops.getD k (0, 0)) : linesB (ops.take (k + 1)) = linesB (ops.take k) ++ (lineB o ++ [10]) := by
  rw [take_snoc (0, 0) ops k hk, ← ho]
  unfold linesB
  rw [List.flatMap_append]
  simp
theorem words_x {w : World} {b ob : Nat} {cs : Array Value} {T : TypeId} {acc : Bs} {w1 : World} (h : Fx w b ob cs T acc w1) (V : ByteArray) (i : Nat) (hi : i < 3) (hV : V.data.toList = [inB, tickB, pollB].getD i []) :
    Calls Tryd.prog 19 #[] w1 fun e w' => ∃ N, e = .returned (.slice (some ⟨N, 0, none⟩) 3 3) ∧ N < w'.heap.size ∧ Fx w b ob cs T acc w' ∧ w'.cell? ⟨N, i, none⟩ = some (.string V) := by
  refine (words_b w1).mono ?_
  rintro e w' ⟨rfl, rfl⟩
  refine ⟨_, rfl, by simp, h.step ((Below.refl _ w1).alloc (Nat.le_refl _) _), ?_⟩
  rw [Lib.cell_of_heap (heap_alloc_new w1 _)]
  have e : V = ⟨([inB, tickB, pollB].getD i []).toArray⟩ := by rw [← hV, Array.toArray_toList]
  rw [e]
  match i, hi with
  | 0, _ => rfl
  | 1, _ => rfl
  | 2, _ => rfl
theorem add_run (x y z : ByteArray) (hz : z = x ++ y) (h : x.size + y.size ≤ 9223372036854775807) : ∀ w, (Op.stringOp .add x y).run Tryd.prog w = .ok (.string z) w := fun w => by rw [hz]; exact run_string_add_sum w x y h
theorem Itoa_n (n : Int) (h0 : 0 ≤ n) (h1 : n ≤ mx) : ∃ N : ByteArray, N.size ≤ 13 ∧ N.data.toList = Lib.itoa n ∧ ∀ (w : World) (b ob : Nat) (cs : Array Value) (T : TypeId) (acc : Bs) (w1 : World), Glob w → Fx w b ob cs T acc w1 →
    Calls Tryd.prog 13 #[.int .i64 n] w1 fun e w' => e = .returned (.string N) ∧ Fx w b ob cs T acc w' ∧ Below w1.heap.size w1 w' :=
  ⟨⟨(Lib.itoa n).toArray⟩, by have := itoa_len h0 h1; simpa [ByteArray.size] using this, by simp, fun w b ob cs T acc w1 hw h => Itoa_x hw h n h0 h1⟩
theorem pr1 (num den burst : Int) (a : Option Addr) (ops : List (Int × Int)) (c : Nat) (w : World) (hw : Glob w) (h1 : sml num) (h2 : sml den) (h3 : sml burst) (hops : OpsW w a ops) (hol : ops.length ≤ 2097152) :
    Calls Tryd.prog 9 #[.agg #[.int .i64 num, .int .i64 den, .int .i64 burst, .slice a ops.length c]] w (PrEnd ⟨num, den, burst, ops⟩ w) := by
  have HS : Hid (sml num ∧ sml den ∧ sml burst) := ⟨h1, h2, h3⟩
  obtain ⟨l1, u1⟩ := h1
  obtain ⟨l2, u2⟩ := h2
  obtain ⟨l3, u3⟩ := h3
  unfold mx at u1 u2 u3
  go_enter Tryd.func9, Tryd.ntmps9
  go_wp2_with (go_at_call 17; refine (small_y _ ⟨by assumption, by assumption⟩ _).mono ?_; rintro e w' ⟨rfl, rfl⟩)
  have hF := Fx.start w #[.int .i64 num, .int .i64 den, .int .i64 burst, .slice a ops.length c] 32 (by decide)
  obtain ⟨W, hW⟩ : ∃ W, W = ((w.alloc (.cells #[.int .i64 num, .int .i64 den, .int .i64 burst, .slice a ops.length c] 32)).alloc (.cells #[.pointer none, .slice none 0 0] 60)) := ⟨_, rfl⟩
  rw [← hW] at hF ⊢
  clear hW
  obtain ⟨N1, z1, e1, c1⟩ := Itoa_n num l1 u1
  obtain ⟨N2, z2, e2, c2⟩ := Itoa_n den l2 u2
  obtain ⟨N3, z3, e3, c3⟩ := Itoa_n burst l3 u3
  obtain ⟨B1, hB1⟩ : ∃ B1 : ByteArray, B1 = ⟨#[114, 97, 116, 101, 32]⟩ ++ N1 := ⟨_, rfl⟩
  obtain ⟨B2, hB2⟩ : ∃ B2 : ByteArray, B2 = B1 ++ ⟨#[32]⟩ := ⟨_, rfl⟩
  obtain ⟨B3, hB3⟩ : ∃ B3 : ByteArray, B3 = B2 ++ N2 := ⟨_, rfl⟩
  obtain ⟨B4, hB4⟩ : ∃ B4 : ByteArray, B4 = B3 ++ ⟨#[32]⟩ := ⟨_, rfl⟩
  obtain ⟨B5, hB5⟩ : ∃ B5 : ByteArray, B5 = B4 ++ N3 := ⟨_, rfl⟩
  obtain ⟨B6, hB6⟩ : ∃ B6 : ByteArray, B6 = B5 ++ ⟨#[10]⟩ := ⟨_, rfl⟩
  have q5 : (⟨#[114, 97, 116, 101, 32]⟩ : ByteArray).size = 5 := rfl
  have q1 : (⟨#[32]⟩ : ByteArray).size = 1 := rfl
  have q0 : (⟨#[10]⟩ : ByteArray).size = 1 := rfl
  have y1 : B1.size = 5 + N1.size := by rw [hB1, ByteArray.size_append, q5]
  have y2 : B2.size = B1.size + 1 := by rw [hB2, ByteArray.size_append, q1]
  have y3 : B3.size = B2.size + N2.size := by rw [hB3, ByteArray.size_append]
  have y4 : B4.size = B3.size + 1 := by rw [hB4, ByteArray.size_append, q1]
  have y5 : B5.size = B4.size + N3.size := by rw [hB5, ByteArray.size_append]
  have y6 : B6.size = B5.size + 1 := by rw [hB6, ByteArray.size_append, q0]
  have a1 := add_run _ _ _ hB1 (by omega)
  have a2 := add_run _ _ _ hB2 (by omega)
  have a3 := add_run _ _ _ hB3 (by omega)
  have a4 := add_run _ _ _ hB4 (by omega)
  have a5 := add_run _ _ _ hB5 (by omega)
  have a6 := add_run _ _ _ hB6 (by omega)
  have hL : ([] : Bs).length + B6.size ≤ 140737488355328 := by simp only [List.length_nil]; omega
  have HH : Hid (([] : Bs) ++ B6.data.toList = headB ⟨num, den, burst, []⟩ ++ [10]) := by
    show ([] : Bs) ++ B6.data.toList = headB ⟨num, den, burst, []⟩ ++ [10]
    rw [hB6, hB5, hB4, hB3, hB2, hB1]
    simp [headB, rateB, e1, e2, e3]
  have hPl : B6.size ≤ 60 := by omega
  clear hB1 hB2 hB3 hB4 hB5 hB6 e1 e2 e3 z1 z2 z3 q5 q1 q0 y1 y2 y3 y4 y5 y6
  go_region_held3 (fun w' => w'.cell? ⟨w.heap.size, 0, none⟩ = some (.int .i64 num) ∧ w'.cell? ⟨w.heap.size, 1, none⟩ = some (.int .i64 den) ∧ w'.cell? ⟨w.heap.size, 2, none⟩ = some (.int .i64 burst) ∧ w'.cell? ⟨w.heap.size, 3, none⟩ = some (.slice a ops.length c)) (first | exact Fx.s4 (by assumption) | exact Fx.s4 (Fx.drew (by assumption))) (first | (go_at_call 13; (first | refine (c1 _ _ _ _ _ _ _ hw (by first | assumption | exact Fx.drew (by assumption))).mono ?_ | refine (c2 _ _ _ _ _ _ _ hw (by first | assumption | exact Fx.drew (by assumption))).mono ?_ | refine (c3 _ _ _ _ _ _ _ hw (by first | assumption | exact Fx.drew (by assumption))).mono ?_); rintro e w' ⟨rfl, hF', hB'⟩) | (go_at_call 18; refine (Write_x (by assumption) B6 (by omega) (by decide) hL).mono ?_; rintro e w' ⟨rfl, hF'⟩))
  have hP2 : (headB ⟨num, den, burst, []⟩ ++ [10]).length ≤ 60 := by
    rw [← HH.out, List.nil_append]; exact hPl
  rw [HH.out] at hF'
  have k3 := (Fx.s4 hF').2.2.2
  clear a1 a2 a3 a4 a5 a6 c1 c2 c3 hL HH hF hPl
  obtain ⟨P0, hP0⟩ : ∃ P0, P0 = headB ⟨num, den, burst, []⟩ ++ [10] := ⟨_, rfl⟩
  rw [← hP0] at hF' hP2
  have HP : Hid (P0 = headB ⟨num, den, burst, []⟩ ++ [10]) := hP0
  clear hP0
  have HO : Hid (OpsW w a ops) := hops
  clear hops
  go_wp2
  go_loopw [42] (fun i wr => ∃ (k ob : Nat) (cs : Array Value) (T : TypeId), k ≤ ops.length ∧ i = .int .i64 k ∧ Fx w (w.heap.size + 1) ob cs T (P0 ++ linesB (ops.take k)) wr ∧ Hid (∀ j, j < k → okO (ops.getD j (0, 0)))) (fun i _ => ops.length - (intOf i).toNat)
  case atStart => exact ⟨0, _, _, _, by omega, rfl, by simpa [linesB] using hF', fun j hj => by omega⟩
  case round =>
    clear hF' k3
    obtain ⟨k, ob, cs, T, hk, rfl, hFk, hokk⟩ := hrel
    by_cases hlt : k < ops.length
    · obtain ⟨bb, off, hbb, rfl, x1, x2⟩ := HO.out k hlt
      have x1 := (hFk.bel.cell (p := ⟨bb, off + k * 2, none⟩) hbb).trans x1
      have x2 := (hFk.bel.cell (p := ⟨bb, off + k * 2 + 1, none⟩) hbb).trans x2
      obtain ⟨o, ho⟩ : ∃ o, o = ops.getD k (0, 0) := ⟨_, rfl⟩
      rw [← ho] at x1 x2
      have HG : Hid (Fx w (w.heap.size + 1) wr.heap.size #[.int .i64 o.1, .int .i64 o.2] 53 (P0 ++ linesB (ops.take k)) (wr.alloc (.cells #[.int .i64 o.1, .int .i64 o.2] 53))) := Fx.rebox hFk
      have HH : Hid (o = ops.getD k (0, 0)) := ho
      obtain ⟨kd, nn⟩ := o
      simp only at x1 x2
      have hblt := hFk.lt
      clear hFk ho
      have hki : (k : Int) < ops.length := by omega
      by_cases hd1 : kd < 1
      · go_wp2
        go_ret2
        exact ⟨.inr ⟨not_okS hlt HH.out (fun h => by have := h.1; simp only at this; omega), rfl⟩, HG.out.bel⟩
      · by_cases hd3 : 3 < kd
        · go_wp2
          go_ret2
          exact ⟨.inr ⟨not_okS hlt HH.out (fun h => by have := h.2.1; simp only at this; omega), rfl⟩, HG.out.bel⟩
        · by_cases hn : 0 ≤ nn ∧ nn ≤ 1099511627776
          · obtain ⟨n0, n1⟩ := hn
            go_wp2_with (go_at_call 17; refine (small_y _ ⟨by assumption, by assumption⟩ _).mono ?_; rintro e w' ⟨rfl, rfl⟩)
            obtain ⟨W1, hW1⟩ : ∃ W1, W1 = wr.alloc (.cells #[.int .i64 kd, .int .i64 nn] 53) := ⟨_, rfl⟩
            rw [← hW1] at HG ⊢
            have hF := HG.out
            clear hW1 HG x1 x2
            have hbox : wr.heap.size ≠ w.heap.size + 1 := by omega
            obtain ⟨OB, hOB⟩ : ∃ OB, OB = wr.heap.size := ⟨_, rfl⟩
            rw [← hOB] at hF hbox ⊢
            clear hOB
            obtain ⟨N1, z1, e1, c1⟩ := Itoa_n nn n0 n1
            obtain ⟨V, hV0⟩ : ∃ V : ByteArray, V = ⟨(kindB kd).toArray⟩ := ⟨_, rfl⟩
            have zV : V.size ≤ 4 := by
              rw [hV0]
              show (kindB kd).toArray.size ≤ 4
              unfold kindB; split
              · decide
              · split <;> decide
            have hV : V.data.toList = kindB kd := by rw [hV0]
            clear hV0
            obtain ⟨C1, hC1⟩ : ∃ C1 : ByteArray, C1 = V ++ ⟨#[32]⟩ := ⟨_, rfl⟩
            obtain ⟨C2, hC2⟩ : ∃ C2 : ByteArray, C2 = C1 ++ N1 := ⟨_, rfl⟩
            obtain ⟨C3, hC3⟩ : ∃ C3 : ByteArray, C3 = C2 ++ ⟨#[10]⟩ := ⟨_, rfl⟩
            have q1 : (⟨#[32]⟩ : ByteArray).size = 1 := rfl
            have q0 : (⟨#[10]⟩ : ByteArray).size = 1 := rfl
            have y1 : C1.size = V.size + 1 := by rw [hC1, ByteArray.size_append, q1]
            have y2 : C2.size = C1.size + N1.size := by rw [hC2, ByteArray.size_append]
            have y3 : C3.size = C2.size + 1 := by rw [hC3, ByteArray.size_append, q0]
            have a1 := add_run _ _ _ hC1 (by omega)
            have a2 := add_run _ _ _ hC2 (by omega)
            have a3 := add_run _ _ _ hC3 (by omega)
            have hlk : (linesB (ops.take k)).length ≤ 19 * k := by
              have := linesB_len (l := ops.take k) (fun o ho => by
                obtain ⟨j, hj, e⟩ := List.getElem_of_mem ho
                rw [List.length_take] at hj
                rw [List.getElem_take] at e
                have := hokk.out j (by omega)
                rw [List.getD_eq_getElem?_getD, List.getElem?_eq_getElem (by omega)] at this
                rw [← e]; exact this)
              rw [List.length_take] at this
              omega
            have hL : (P0 ++ linesB (ops.take k)).length + C3.size ≤ 140737488355328 := by rw [List.length_append]; omega
            have HE : Hid ((P0 ++ linesB (ops.take k)) ++ C3.data.toList = P0 ++ linesB (ops.take (k + 1))) := by
              show (P0 ++ linesB (ops.take k)) ++ C3.data.toList = P0 ++ linesB (ops.take (k + 1))
              rw [linesB_snoc ops k hlt _ HH.out, hC3, hC2, hC1]
              simp [lineB, hV, e1]
            have HK : Hid (∀ j, j < k + 1 → okO (ops.getD j (0, 0))) := fun j hj => by
              by_cases e : j = k
              · rw [e, ← HH.out]; exact ⟨by omega, by omega, n0, n1⟩
              · exact hokk.out j (by omega)
            obtain ⟨acc, hacc⟩ : ∃ acc, acc = P0 ++ linesB (ops.take k) := ⟨_, rfl⟩
            rw [← hacc] at hF hL HE
            clear hC1 hC2 hC3 e1 z1 zV q1 q0 y1 y2 y3 hlk hacc
            obtain ⟨i, hi⟩ : ∃ i : Nat, kd = (i : Int) + 1 := ⟨(kd - 1).toNat, by omega⟩
            subst hi
            have hi3 : i < 3 := by omega
            have hiI : (i : Int) < 3 := by omega
            have hwr : IntKind.i64.wrap (i : Int) = i := by rw [IntKind.wrap_i64]; omega
            have hV : V.data.toList = [inB, tickB, pollB].getD i [] := by
              rw [hV]
              match i, hi3 with
              | 0, _ => rfl
              | 1, _ => rfl
              | 2, _ => rfl
            clear hd1 hd3
            obtain ⟨b0, b1⟩ := Fx.s2 hF
            go_region_with (first | (go_at_call 19; refine (words_x (by first | assumption | exact Fx.drew (by assumption)) V i hi3 (by assumption)).mono ?_; rintro e w' ⟨N, rfl, hN, hF', hc'⟩; obtain ⟨b0', b1'⟩ := Fx.s2 hF') | (go_at_call 13; refine (c1 _ _ _ _ _ _ _ hw (by first | assumption | exact Fx.drew (by assumption))).mono ?_; rintro e w' ⟨rfl, hF', hB'⟩; have hc' := (hB'.cell (p := ⟨N, i, none⟩) hN).trans hc'; obtain ⟨b0', b1'⟩ := Fx.s2 hF') | (go_at_call 18; refine (Write_x (by assumption) C3 (by omega) (by decide) hL).mono ?_; rintro e w' ⟨rfl, hF'⟩))
            all_goals rw [HE.out] at hF'
            all_goals go_wp2
            all_goals (go_roundw; case rel => exact ⟨k + 1, _, _, _, by omega, rfl, hF', HK⟩)
            all_goals (simp [intOf]; omega)
          · have sn := fun w => small_b nn w
            rw [decide_eq_false hn] at sn
            go_wp2_with (go_at_call 17; refine (sn _).mono ?_; rintro e w' ⟨rfl, rfl⟩)
            go_ret2
            exact ⟨.inr ⟨not_okS hlt HH.out (fun h => hn h.2.2), rfl⟩, HG.out.bel⟩
    · obtain rfl : k = ops.length := by omega
      rw [List.take_length, HP.out, print_all] at hFk
      have hok : okS ⟨num, den, burst, ops⟩ := ⟨HS.out.1, HS.out.2.1, HS.out.2.2, fun o ho => by
        obtain ⟨j, hj, e⟩ := List.getElem_of_mem ho
        have := hokk.out j hj
        rw [List.getD_eq_getElem?_getD, List.getElem?_eq_getElem hj] at this
        rw [← e]; exact this⟩
      go_wp2_with (go_at_call 20; refine (String_x hFk).mono ?_; rintro e w' ⟨rfl, hb⟩)
      go_wp2
      go_ret2
      exact ⟨.inl ⟨hok, rfl⟩, hb⟩
end Go.Proofs.YtfkhljgifndbpaaDoor
