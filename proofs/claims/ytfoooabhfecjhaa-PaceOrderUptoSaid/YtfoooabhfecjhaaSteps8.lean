import Derived.Test.YtfoooabhfecjhaaAlive
import Derived.Test.YtfoooabhfecjhaaPlain4
set_option linter.unusedSimpArgs false
set_option linter.unusedVariables false
set_option maxHeartbeats 2000000
set_option maxRecDepth 20000
namespace Go.Proofs.Ytfoooabhfecjhaa
open Go Go.Am
attribute [local irreducible] opsW Ww loopW callW drawW outW outDW gW cW BrW bothW vW resW DropW RdW dcallW altW Later.run

/-- The answers in cells. -/
def Rows' (J : Heap) (cs : List Value) (l : List (Int × List Int)) : Prop := cs.length = l.length * 2 ∧ ∀ i, i < l.length → ∃ v, cs[i * 2]? = some (.int .i64 (l.getD i (0, [])).1) ∧ cs[i * 2 + 1]? = some v ∧ IsI J v (l.getD i (0, [])).2
theorem Rows'.app {J : Heap} {cs : List Value} {l : List (Int × List Int)} (h : Rows' J cs l) (x : Heap) : Rows' (J ++ x) cs l := ⟨h.1, fun i hi => by
  obtain ⟨v, h1, h2, h3⟩ := h.2 i hi
  exact ⟨v, h1, h2, h3.app x⟩⟩
def badT (e : Int) : Value := .tuple #[.slice none 0 0, .agg #[.slice none 0 0, .int .i64 0, .int .i64 0, .int .i64 0, .int .i64 0, .int .i64 0, .int .i64 0, .int .i64 0, .int .i64 0, .int .i64 0], .int .i64 e]
theorem Play_w (n d b : Int) (l : List O) (k o g c : Nat) (H : Heap) (hO : Ops H k o g l) (hl : l.length ≤ 1049600) :
    ACallK Try.prog 9 [.int .i64 n, .int .i64 d, .int .i64 b, slv k o g l.length c] H (fun v H' => ∃ X, H' = H ++ X ∧ (¬ wrongP n d b = 0 → v = badT (wrongP n d b)) ∧ (wrongP n d b = 0 → ∃ (w' : Value) (kq g' : Nat) (cs : List Value), v = .tuple #[slv kq 0 g' l.length l.length, (runP (p0 n d b) l).val w', .int .i64 0] ∧ IsI H' w' (runP (p0 n d b) l).l ∧ H'[kq]? = some (.cells g' 2 false cs) ∧ Rows' H' cs (ansP (p0 n d b) l))) := by
  by_cases hw : wrongP n d b = 0
  · refine (Play_u n d b l k o g c H hO hl hw).mono ?_
    rintro v H' ⟨X, w', so, rfl, rfl, hX, q, g', av, rfl, hq, hA⟩
    refine ⟨X, rfl, fun h => absurd hw h, fun _ => ⟨w', _, g', _, rfl, hX.is, by rw [List.getElem?_append_right (by omega), Nat.add_sub_cancel_left, hq], ?_, fun i hi => ?_⟩⟩
    · rw [flat'_length (enc := aenc) (s := 2) (fun _ => rfl), hA.1]
    · obtain ⟨v, h1, h2, h3⟩ := hA.at' i hi rfl
      exact ⟨v, h1, h2, h3.is⟩
  · refine (Play_bad n d b l k o g c H hw).mono ?_
    rintro v H' ⟨rfl, rfl⟩
    exact ⟨[], by simp, fun _ => rfl, fun h => absurd h hw⟩
theorem O.of {B : Nat} {H : Heap} (cs : List Value) (h : RowOk B H [.int .i64, .int .i64] cs) : ∃ s : O, cs = s.cells ∧ (-9223372036854775808 ≤ s.k ∧ s.k ≤ 9223372036854775807 ∧ -9223372036854775808 ≤ s.n ∧ s.n ≤ 9223372036854775807) := by
  obtain ⟨_, _, rfl, c0, h⟩ := h.cons_inv
  obtain ⟨_, _, rfl, c1, h⟩ := h.cons_inv
  obtain rfl := h.nil_inv
  obtain ⟨n0, rfl, h0⟩ := c0.int_inv
  obtain ⟨n1, rfl, h1⟩ := c1.int_inv
  exact ⟨⟨n0, n1⟩, rfl, h0.1, h0.2, h1.1, h1.2⟩
theorem ops_of {B : Nat} {H : Heap} {v : Value} (h : ArgOk B H (false, [.slice [.int .i64, .int .i64]]) v) : ∃ k c, ∃ l : List O, v = slv k 0 0 l.length c ∧ l.length ≤ B ∧ l.length ≤ c ∧ Ops H k 0 0 l := by
  obtain ⟨k, c, l, h1, h2, h3, h4, _⟩ := rows_of (α := O) (enc := O.cells) (ok := fun s => (-9223372036854775808 ≤ s.k ∧ s.k ≤ 9223372036854775807 ∧ -9223372036854775808 ≤ s.n ∧ s.n ≤ 9223372036854775807)) 2 (fun _ => rfl) o0 rfl (fun cs h => O.of cs h) h
  exact ⟨k, c, l, h1, h2, h3, h4⟩
theorem int_of {B : Nat} {H : Heap} {v : Value} (h : ArgOk B H (false, [.int .i64]) v) : ∃ n : Int, v = .int .i64 n ∧ -9223372036854775808 ≤ n ∧ n ≤ 9223372036854775807 := by
  obtain ⟨n, rfl, h1⟩ := h.cell.int_inv
  exact ⟨n, rfl, h1.1, h1.2⟩
theorem wrong_num {n d b : Int} (hw : wrongP n d b = 0) : 0 ≤ n ∧ n ≤ 1048576 ∧ 1 ≤ d ∧ d ≤ 1048576 ∧ 1500 ≤ b ∧ b ≤ 1048576 := by
  have hr := wrong_right hw
  unfold Bk.right may at hr
  simp only at hr
  refine ⟨hr.1, hr.2.1, hr.2.2.1, hr.2.2.2.1, ?_, hr.2.2.2.2.2.1⟩
  unfold wrongP at hw
  split at hw
  · split at hw
    · cases hw
    · omega
  · cases hw
theorem start_ok {n d b : Int} (hw : wrongP n d b = 0) : Ok (p0 n d b) 0 := p0_ok (full_right (wrong_right hw))
theorem ops_new {J : Heap} {k g : Nat} {m : List O} (h : J[k]? = some (.cells g 2 false (flat' O.cells m))) : Ops J k 0 g m := Tbl.new (enc := O.cells) (s := 2) (d := o0) (fun _ => rfl) J k g false m h
/-- The sum of what is sent, so far. -/
theorem take_sum {l : List Int} (h : ∀ x ∈ l, 1 ≤ x ∧ x ≤ 1500) (i : Nat) (hi : i < l.length) : (l.take (i + 1)).sum = (l.take i).sum + l.getD i 0 ∧ 0 ≤ (l.take i).sum ∧ (l.take i).sum ≤ 1500 * l.length ∧ 1 ≤ l.getD i 0 ∧ l.getD i 0 ≤ 1500 := by
  have h1 := sum_bound (l.take i) (fun x hx => h x (List.mem_of_mem_take hx))
  have h2 : (l.take i).length ≤ l.length := by simp; omega
  have h3 : l.getD i 0 ∈ l := by
    rw [List.getD_eq_getElem?_getD, List.getElem?_eq_getElem hi]
    exact List.getElem_mem hi
  have h4 := h _ h3
  refine ⟨by rw [take_snoc 0 l i hi, sum_app]; simp, h1.1, by omega, h4⟩
end Go.Proofs.Ytfoooabhfecjhaa
