import Derived.Test.YtjdmpkaiijcchaaSteps7
import Derived.Test.YtjdmpkaiijcchaaSl
set_option linter.unusedSimpArgs false
set_option linter.unusedVariables false
set_option maxHeartbeats 2000000
set_option maxRecDepth 20000
namespace Go.Proofs.Ytjdmpkaiijcchaa
open Go Go.Am
attribute [local irreducible] opsW Ww loopW callW drawW outW outDW gW cW BrW bothW vW resW DropW RdW dcallW altW forkW splitW Later.run

abbrev IsH (A : Nat → Prop) (H : Heap) (w : Value) (l : List Op) : Prop := IsT Op.cells 4 o0 A H w l
theorem HP.app {B r P : Nat} {J : Heap} {s : List It} {n : Nat} (h : HP B r P J s n) (X : Heap) : HP B r P (J ++ X) s n := by
  obtain ⟨L, m, c, h1, h2, h3⟩ := h
  exact ⟨L, m, c, h1.app X, h2, h3⟩
theorem HP.set {B r P : Nat} {J : Heap} {s : List It} {n : Nat} (h : HP B r P J s n) {j : Nat} (y : AObj) (h1 : j ≠ B) (h2 : j ≠ r) (h3 : j < P) : HP B r P (J.set j y) s n := by
  obtain ⟨L, m, c, h4, h5, h6⟩ := h
  exact ⟨L, m, c, h4.set y h1 h2 h3, h5, h6⟩
/-- What Play has at work. -/
structure PI (h : Nat) (H J : Heap) (s : List It) (n : Nat) (errs pop left : List Int) (ge gp gl : Nat) : Prop where
  hp : HP (h + 1) h (h + 5) J s n
  e : J[h + 2]? = some (.cells ge 1 false (ints errs))
  p : J[h + 3]? = some (.cells gp 1 false (ints pop))
  l : J[h + 4]? = some (.cells gl 1 false (ints left))
  old : ∀ j, j < h → J[j]? = H[j]?
  len : h + 5 ≤ J.length
theorem PI.app {h : Nat} {H J : Heap} {s : List It} {n : Nat} {errs pop left : List Int} {ge gp gl : Nat} (i : PI h H J s n errs pop left ge gp gl) (X : Heap) : PI h H (J ++ X) s n errs pop left ge gp gl :=
  ⟨i.hp.app X, get_old i.e X, get_old i.p X, get_old i.l X, fun j hj => (List.getElem?_append_left (by have := i.len; omega)).trans (i.old j hj), by have := i.len; simp; omega⟩
theorem PI.setE {h : Nat} {H J : Heap} {s : List It} {n : Nat} {errs pop left : List Int} {ge gp gl : Nat} (i : PI h H J s n errs pop left ge gp gl) (g : Nat) (l' : List Int) : PI h H (J.set (h + 2) (.cells g 1 false (ints l'))) s n l' pop left g gp gl :=
  ⟨i.hp.set _ (by omega) (by omega) (by omega), get_set_hit i.e, (get_set_miss (by omega)).trans i.p, (get_set_miss (by omega)).trans i.l, fun j hj => (get_set_miss (by omega)).trans (i.old j hj), by simpa using i.len⟩
theorem PI.setP {h : Nat} {H J : Heap} {s : List It} {n : Nat} {errs pop left : List Int} {ge gp gl : Nat} (i : PI h H J s n errs pop left ge gp gl) (g : Nat) (l' : List Int) : PI h H (J.set (h + 3) (.cells g 1 false (ints l'))) s n errs l' left ge g gl :=
  ⟨i.hp.set _ (by omega) (by omega) (by omega), (get_set_miss (by omega)).trans i.e, get_set_hit i.p, (get_set_miss (by omega)).trans i.l, fun j hj => (get_set_miss (by omega)).trans (i.old j hj), by simpa using i.len⟩
theorem PI.setL {h : Nat} {H J : Heap} {s : List It} {n : Nat} {errs pop left : List Int} {ge gp gl : Nat} (i : PI h H J s n errs pop left ge gp gl) (g : Nat) (l' : List Int) : PI h H (J.set (h + 4) (.cells g 1 false (ints l'))) s n errs pop l' ge gp g :=
  ⟨i.hp.set _ (by omega) (by omega) (by omega), (get_set_miss (by omega)).trans i.e, (get_set_miss (by omega)).trans i.p, get_set_hit i.l, fun j hj => (get_set_miss (by omega)).trans (i.old j hj), by simpa using i.len⟩
theorem PI.go {h : Nat} {H J J' : Heap} {s s' : List It} {n n' : Nat} {errs pop left : List Int} {ge gp gl : Nat} (i : PI h H J s n errs pop left ge gp gl) (hp : HP (h + 1) h (h + 5) J' s' n') (hf : Fr (h + 1) h (h + 5) J J') : PI h H J' s' n' errs pop left ge gp gl := by
  have hl := i.len
  have hj : ∀ j, j < h + 5 → j ≠ h + 1 → j ≠ h → J'[j]? = J[j]? := fun j h1 h2 h3 => hf.2 j (by omega) (fun h => by omega) h2 h3
  exact ⟨hp, (hj _ (by omega) (by omega) (by omega)).trans i.e, (hj _ (by omega) (by omega) (by omega)).trans i.p, (hj _ (by omega) (by omega) (by omega)).trans i.l, fun j h1 => (hj j (by omega) (by omega) (by omega)).trans (i.old j h1), by have := hf.1; omega⟩
/-- A row of items comes out as it stands. -/
theorem do_out (h : Nat) (H J : Heap) (x : It) (t : List It) (n : Nat) (errs pop left : List Int) (ge gp gl : Nat) (i : PI h H J (x :: t) n errs pop left ge gp gl) (hn : n ≤ 10000000000) :
    ACallK Try.prog 22 [.pointer (some ⟨h + 1, 0, some 1⟩), .int .i64 0] J (fun v J' => v = .agg (It.cells x).toArray ∧ ∃ n', n = n' + 1 ∧ PI h H J' t n' errs pop left ge gp gl) := by
  obtain ⟨L, m, c, hS, hM, hA⟩ := i.hp
  obtain ⟨hn0, hx⟩ := hA.head
  obtain ⟨q, g, hPq, hQ⟩ := hS.full hn0
  obtain ⟨n', rfl⟩ : ∃ n', n = n' + 1 := ⟨n - 1, by omega⟩
  have hT := take_spec (h + 1) h q J L n' g m c hQ hM (fun i hi => hA.ok i hi) (by omega) 0 (by omega) hA.hp
  have hx' : L.getD 0 i0 = x := hx
  rw [hx'] at hT
  have hl := i.len
  refine ACallK.mono hT ?_
  rintro v J' ⟨rfl, L', m', g1, g2, g3, g4, g5, g6, g7, g8⟩
  refine ⟨rfl, n', rfl, i.go ⟨L', m', c, .inl ⟨q, g, hPq, g1⟩, g2, hA.take (x := x) hA.srt.2 (tail_mem hA.srt) g5 g4 fun i j hi hj e => g2.one hi hj e⟩ ⟨g7, fun j h1 hN h2 h3 => g8 j h1 h2 (fun e => by subst e; exact hN hPq _ _ hQ.hq) h3⟩⟩
end Go.Proofs.Ytjdmpkaiijcchaa
