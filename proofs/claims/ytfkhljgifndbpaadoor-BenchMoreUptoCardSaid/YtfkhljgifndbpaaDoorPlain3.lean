import Derived.Test.YtfkhljgifndbpaaDoorPlain2
import Derived.Test.YtfkhljgifndbpaaDoorPcPlain
/- What is told: plain. -/
namespace Go.Proofs.YtfkhljgifndbpaaDoor
open Go.Lib

def opO (o : Int × Int) : Pc.O := ⟨o.1, o.2⟩
def errB : Bs := [101, 114, 114, 111, 114, 32]
def sentB : Bs := [115, 101, 110, 116]
def okB : Bs := [111, 107]
def leftW : Bs := [108, 101, 102, 116]
def numsB (l : List Int) : Bs := l.flatMap fun n => 32 :: itoa n
def ansB (k : Int) (a : Int × List Int) : Bs := if a.1 ≠ 0 then errB ++ itoa a.1 else if k = 3 then sentB ++ numsB a.2 else okB
def leftN (p : Pc.P) : List Int := [(p.l.length : Int), p.dr, p.se, p.b.lv, p.b.at']
def leftB (p : Pc.P) : Bs := leftW ++ numsB (leftN p)
def tellA (os : List (Int × Int)) (al : List (Int × List Int)) : List Bs := List.zipWith (fun o a => ansB o.1 a) os al
def playS (s : Scr) : Pc.P := Pc.p0 s.num s.den s.burst
def tellS (s : Scr) : List Bs := tellA s.ops (Pc.ansP (playS s) (s.ops.map opO)) ++ [leftB (Pc.runP (playS s) (s.ops.map opO))]

theorem doP_ans {p : Pc.P} {i : Nat} (h : Pc.Ok p i) (o : Pc.O) : 0 ≤ (Pc.doP p o).2.1 ∧ (Pc.doP p o).2.1 ≤ 5 ∧ (∀ x ∈ (Pc.doP p o).2.2, 1 ≤ x ∧ x ≤ 1500) ∧ (Pc.doP p o).2.2.length ≤ 100 := by
  unfold Pc.doP
  split
  · split
    · split
      · simp
      · split <;> simp
    · simp
  · split
    · split <;> simp
    · split
      · split
        · have ha := Pc.pollL_app p.b.den p.l p.b.lv o.n
          refine ⟨Int.le_refl _, by show (0 : Int) ≤ 5; omega, fun x hx => h.q.2.2.2.2.2.2.2.1 x (by show x ∈ p.l; rw [← ha]; exact List.mem_append_left _ hx), ?_⟩
          have hl : (p.l.length : Int) ≤ 100 := h.q.2.2.2.2.2.2.1
          have : (Pc.pollL p.b.den p.l p.b.lv o.n).1.length + (Pc.pollL p.b.den p.l p.b.lv o.n).2.1.length = p.l.length := by rw [← List.length_append, ha]
          show (Pc.pollL p.b.den p.l p.b.lv o.n).1.length ≤ 100
          omega
        · simp
      · simp
theorem ansP_bound : ∀ {p : Pc.P} {i : Nat}, Pc.Ok p i → ∀ (l : List Pc.O), ∀ a ∈ Pc.ansP p l, 0 ≤ a.1 ∧ a.1 ≤ 5 ∧ (∀ x ∈ a.2, 1 ≤ x ∧ x ≤ 1500) ∧ a.2.length ≤ 100
  | p, i, h, [], a, ha => by cases ha
  | p, i, h, o :: l, a, ha => by
    rcases List.mem_cons.1 ha with e | ha
    · rw [e]; exact doP_ans h o
    · exact ansP_bound (Pc.doP_ok h o) l a ha
theorem numsB_len {l : List Int} (h : ∀ x ∈ l, 0 ≤ x ∧ x ≤ 9223372036854775807) : (numsB l).length ≤ 22 * l.length := by
  induction l with
  | nil => simp [numsB]
  | cons x l ih =>
    have h1 := ih fun y hy => h y (List.mem_cons_of_mem _ hy)
    have h2 := itoa_length_le x (by have := (h x List.mem_cons_self).1; omega) (h x List.mem_cons_self).2
    unfold numsB at h1 ⊢
    simp only [List.flatMap_cons, List.length_append, List.length_cons]
    omega
theorem numsB_snoc (l : List Int) (x : Int) : numsB (l ++ [x]) = numsB l ++ (32 :: itoa x) := by simp [numsB]
/-- More lines behind it. -/
theorem tell_more {s s' : Scr} (h1 : s'.num = s.num) (h2 : s'.den = s.den) (h3 : s'.burst = s.burst) {os : List (Int × Int)} (h4 : s'.ops = s.ops ++ os) : (tellS s).length = s.ops.length + 1 ∧ (tellS s).length ≤ (tellS s').length ∧ (tellS s').take s.ops.length = (tellS s).take s.ops.length := by
  have hp : playS s' = playS s := by unfold playS; rw [h1, h2, h3]
  have e : Pc.ansP (playS s') (s'.ops.map opO) = Pc.ansP (playS s) (s.ops.map opO) ++ Pc.ansP (Pc.runP (playS s) (s.ops.map opO)) (os.map opO) := by rw [hp, h4, List.map_append, Pc.ansP_app]
  have hl : (Pc.ansP (playS s) (s.ops.map opO)).length = s.ops.length := by rw [Pc.ansP_length, List.length_map]
  have hl2 : (Pc.ansP (Pc.runP (playS s) (s.ops.map opO)) (os.map opO)).length = os.length := by rw [Pc.ansP_length, List.length_map]
  have ha : tellA s'.ops (Pc.ansP (playS s') (s'.ops.map opO)) = tellA s.ops (Pc.ansP (playS s) (s.ops.map opO)) ++ tellA os (Pc.ansP (Pc.runP (playS s) (s.ops.map opO)) (os.map opO)) := by
    rw [e, h4]
    unfold tellA
    exact List.zipWith_append hl.symm
  have hal : (tellA s.ops (Pc.ansP (playS s) (s.ops.map opO))).length = s.ops.length := by unfold tellA; rw [List.length_zipWith, hl]; omega
  refine ⟨?_, ?_, ?_⟩
  · unfold tellS; rw [List.length_append, hal]; rfl
  · unfold tellS
    rw [ha]
    simp only [List.length_append, List.length_cons, List.length_nil]
    omega
  · unfold tellS
    rw [ha, List.append_assoc, List.take_append_of_le_length (by omega), List.take_append_of_le_length (by omega)]
end Go.Proofs.YtfkhljgifndbpaaDoor
