import Derived.Test.YtfkhljgifndbpaaDoorPlain
/- Scripts as texts: plain. -/
namespace Go.Proofs.YtfkhljgifndbpaaDoor
open Go.Lib

structure Scr where
  num : Int
  den : Int
  burst : Int
  ops : List (Int × Int)

def rateB : Bs := [114, 97, 116, 101]
def inB : Bs := [105, 110]
def tickB : Bs := [116, 105, 99, 107]
def pollB : Bs := [112, 111, 108, 108]
def headW : List Bs → Option (Int × Int × Int)
  | [w0, w1, w2, w3] => if w0 = rateB then (match numP w1, numP w2, numP w3 with
    | some a, some b, some c => some (a, b, c)
    | _, _, _ => none) else none
  | _ => none
def headP (l : Bs) : Option (Int × Int × Int) := headW (words 32 l)
def kindP (w : Bs) : Option Int := if w = inB then some 1 else if w = tickB then some 2 else if w = pollB then some 3 else none
def kindB (k : Int) : Bs := if k = 1 then inB else if k = 2 then tickB else pollB
def lineP (l : Bs) : Option (Int × Int) := match kindP (cutAt 32 l).1, numP (cutAt 32 l).2.1 with
  | some k, some n => some (k, n)
  | _, _ => none
def linesP : List Bs → Option (List (Int × Int))
  | [] => some []
  | l :: ls => match lineP l, linesP ls with
    | some o, some os => some (o :: os)
    | _, _ => none
def parseL : List Bs → Option Scr
  | [] => none
  | h :: ls => match headP h, linesP ls with
    | some (a, b, c), some os => some ⟨a, b, c, os⟩
    | _, _ => none
def parseP (t : Bs) : Option Scr := if (segs t).2 = [] then parseL (segs t).1 else none
def headB (s : Scr) : Bs := rateB ++ 32 :: (itoa s.num ++ 32 :: (itoa s.den ++ 32 :: itoa s.burst))
def lineB (o : Int × Int) : Bs := kindB o.1 ++ 32 :: itoa o.2
def printP (s : Scr) : Bs := headB s ++ 10 :: s.ops.flatMap fun o => lineB o ++ [10]
def sml (n : Int) : Prop := 0 ≤ n ∧ n ≤ mx
instance (n : Int) : Decidable (sml n) := inferInstanceAs (Decidable (_ ∧ _))
def okO (o : Int × Int) : Prop := 1 ≤ o.1 ∧ o.1 ≤ 3 ∧ sml o.2
instance (o : Int × Int) : Decidable (okO o) := inferInstanceAs (Decidable (_ ∧ _))
def okS (s : Scr) : Prop := sml s.num ∧ sml s.den ∧ sml s.burst ∧ ∀ o ∈ s.ops, okO o

theorem kindP_B {k : Int} (h1 : 1 ≤ k) (h3 : k ≤ 3) : kindP (kindB k) = some k := by
  have : k = 1 ∨ k = 2 ∨ k = 3 := by omega
  rcases this with rfl | rfl | rfl <;> decide
theorem kindP_some {w : Bs} {k : Int} (h : kindP w = some k) : 1 ≤ k ∧ k ≤ 3 ∧ kindB k = w := by
  unfold kindP at h
  split at h
  · rename_i e; cases h; rw [e]; decide
  · split at h
    · rename_i e; cases h; rw [e]; decide
    · split at h
      · rename_i e; cases h; rw [e]; decide
      · cases h
theorem kindB_no {k : Int} {c : UInt8} (hc : c.toNat < 97) : c ∉ kindB k := by
  unfold kindB inB tickB pollB
  have : ∀ b : UInt8, 97 ≤ b.toNat → c ≠ b := fun b hb e => by rw [e] at hc; omega
  split
  · simp only [List.mem_cons, List.not_mem_nil, or_false, not_or]
    exact ⟨this _ (by decide), this _ (by decide)⟩
  · split
    · simp only [List.mem_cons, List.not_mem_nil, or_false, not_or]
      exact ⟨this _ (by decide), this _ (by decide), this _ (by decide), this _ (by decide)⟩
    · simp only [List.mem_cons, List.not_mem_nil, or_false, not_or]
      exact ⟨this _ (by decide), this _ (by decide), this _ (by decide), this _ (by decide)⟩
theorem lineP_B {o : Int × Int} (h : okO o) : lineP (lineB o) = some o := by
  unfold lineP lineB
  rw [cutAt_app 32 (kindB o.1) (itoa o.2) (kindB_no (by decide))]
  simp only [kindP_B h.1 h.2.1, numP_itoa h.2.2.1 h.2.2.2]
theorem lineP_some {l : Bs} {o : Int × Int} (h : lineP l = some o) : okO o ∧ lineB o = l := by
  unfold lineP at h
  split at h
  · rename_i k n hk hn
    cases h
    obtain ⟨k1, k2, k3⟩ := kindP_some hk
    obtain ⟨n1, n2, n3⟩ := numP_some hn
    refine ⟨⟨k1, k2, n1, n2⟩, ?_⟩
    have hf : (cutAt 32 l).2.2 = true := by
      rcases cut_cases 32 l with ⟨_, e, _⟩ | ⟨i, _, e, _⟩
      · rw [e] at n3
        exact absurd n3 (by rw [itoa_nn n1]; exact decDigits_ne _)
      · rw [e]
    have := cutAt_found (c := 32) (t := l) (l := (cutAt 32 l).1) (r := (cutAt 32 l).2.1) (by rw [← hf])
    unfold lineB
    simp only
    rw [k3, n3]; exact this.symm
  · cases h
theorem headP_B {s : Scr} (h1 : sml s.num) (h2 : sml s.den) (h3 : sml s.burst) : headP (headB s) = some (s.num, s.den, s.burst) := by
  unfold headP headB
  rw [words_app 32 rateB _ (by decide), words_app 32 _ _ (itoa_no h1.1 (by decide)), words_app 32 _ _ (itoa_no h2.1 (by decide)), words_one 32 _ (itoa_no h3.1 (by decide))]
  show (if rateB = rateB then (match numP (itoa s.num), numP (itoa s.den), numP (itoa s.burst) with
    | some a, some b, some c => some (a, b, c)
    | _, _, _ => none) else none) = _
  rw [if_pos rfl, numP_itoa h1.1 h1.2, numP_itoa h2.1 h2.2, numP_itoa h3.1 h3.2]
theorem headP_some {l : Bs} {a b c : Int} (h : headP l = some (a, b, c)) : sml a ∧ sml b ∧ sml c ∧ headB ⟨a, b, c, []⟩ = l := by
  unfold headP at h
  have hg := glue_words 32 l
  generalize words 32 l = w at *
  unfold headW at h
  split at h
  · rename_i w0 w1 w2 w3
    split at h
    · rename_i e
      split at h
      · rename_i a' b' c' ha hb hc
        cases h
        obtain ⟨x1, x2, x3⟩ := numP_some ha
        obtain ⟨y1, y2, y3⟩ := numP_some hb
        obtain ⟨z1, z2, z3⟩ := numP_some hc
        refine ⟨⟨x1, x2⟩, ⟨y1, y2⟩, ⟨z1, z2⟩, ?_⟩
        rw [← hg]
        unfold headB
        simp only
        rw [x3, y3, z3, ← e]; rfl
      · cases h
    · cases h
  · cases h
theorem linesP_B : ∀ {os : List (Int × Int)}, (∀ o ∈ os, okO o) → linesP (os.map lineB) = some os
  | [], _ => rfl
  | o :: os, h => by
    simp only [List.map_cons, linesP, lineP_B (h o List.mem_cons_self), linesP_B fun x hx => h x (List.mem_cons_of_mem _ hx)]
theorem linesP_some : ∀ {ls : List Bs} {os : List (Int × Int)}, linesP ls = some os → (∀ o ∈ os, okO o) ∧ os.map lineB = ls ∧ os.length = ls.length
  | [], os, h => by cases h; exact ⟨fun o ho => (by cases ho), rfl, rfl⟩
  | l :: ls, os, h => by
    unfold linesP at h
    split at h
    · rename_i o os' h1 h2
      cases h
      obtain ⟨a1, a2⟩ := lineP_some h1
      obtain ⟨b1, b2, b3⟩ := linesP_some h2
      refine ⟨fun x hx => ?_, by rw [List.map_cons, a2, b2], by simp [b3]⟩
      rcases List.mem_cons.1 hx with e | hx
      · rw [e]; exact a1
      · exact b1 x hx
    · cases h
theorem linesP_app : ∀ {l m : List Bs} {a b : List (Int × Int)}, linesP l = some a → linesP m = some b → linesP (l ++ m) = some (a ++ b)
  | [], m, a, b, h1, h2 => by cases h1; exact h2
  | x :: l, m, a, b, h1, h2 => by
    unfold linesP at h1
    split at h1
    · rename_i o os e1 e2
      cases h1
      show linesP (x :: (l ++ m)) = _
      unfold linesP
      rw [e1, linesP_app e2 h2]; rfl
    · cases h1
theorem lineB_no {o : Int × Int} (h : okO o) : 10 ∉ lineB o := by
  unfold lineB
  rw [List.mem_append, List.mem_cons]
  rintro (h1 | h1 | h1)
  · exact kindB_no (by decide) h1
  · exact absurd h1 (by decide)
  · exact itoa_no h.2.2.1 (by decide) h1
theorem headB_no {s : Scr} (h1 : sml s.num) (h2 : sml s.den) (h3 : sml s.burst) : 10 ∉ headB s := by
  unfold headB
  rw [List.mem_append, List.mem_cons, List.mem_append, List.mem_cons, List.mem_append, List.mem_cons]
  rintro (h | h | h | h | h | h | h)
  · exact absurd h (by decide)
  · exact absurd h (by decide)
  · exact itoa_no h1.1 (by decide) h
  · exact absurd h (by decide)
  · exact itoa_no h2.1 (by decide) h
  · exact absurd h (by decide)
  · exact itoa_no h3.1 (by decide) h
theorem print_lines (s : Scr) : printP s = (headB s :: s.ops.map lineB).flatMap (· ++ [10]) := by
  unfold printP
  simp [List.flatMap_map]
theorem segs_print {s : Scr} (h : okS s) : segs (printP s) = (headB s :: s.ops.map lineB, []) := by
  rw [print_lines]
  refine segs_lines _ fun l hl => ?_
  rcases List.mem_cons.1 hl with e | hl
  · rw [e]; exact headB_no h.1 h.2.1 h.2.2.1
  · obtain ⟨o, ho, rfl⟩ := List.mem_map.1 hl
    exact lineB_no (h.2.2.2 o ho)
/-- What was written is read. -/
theorem back1 {s : Scr} (h : okS s) : parseP (printP s) = some s := by
  unfold parseP
  rw [segs_print h, if_pos rfl]
  simp only [parseL, headP_B h.1 h.2.1 h.2.2.1, linesP_B h.2.2.2]
/-- What is read is written as it was. -/
theorem back2 {t : Bs} {s : Scr} (h : parseP t = some s) : okS s ∧ printP s = t := by
  unfold parseP at h
  split at h
  · rename_i h2
    have hj := segs_join t
    rw [h2, List.append_nil] at hj
    generalize (segs t).1 = L at *
    unfold parseL at h
    split at h
    · cases h
    · rename_i hd ls
      split at h
      · rename_i a b c os e1 e2
        cases h
        obtain ⟨a1, a2, a3, a4⟩ := headP_some e1
        obtain ⟨b1, b2, _⟩ := linesP_some e2
        refine ⟨⟨a1, a2, a3, b1⟩, ?_⟩
        rw [print_lines, ← hj]
        simp only
        rw [b2]
        have : headB ⟨a, b, c, os⟩ = headB ⟨a, b, c, []⟩ := rfl
        rw [this, a4]
      · cases h
  · cases h
/-- More lines behind it: the first ones are as they were. -/
theorem parse_more {t m : Bs} {s s' : Scr} (h : parseP t = some s) (h' : parseP (t ++ m) = some s') : s'.num = s.num ∧ s'.den = s.den ∧ s'.burst = s.burst ∧ (∃ os, s'.ops = s.ops ++ os) ∧ (s.ops.length : Int) = (t.count 10 : Int) - 1 := by
  unfold parseP at h h'
  split at h
  · rename_i h2
    split at h'
    · rename_i h3
      rw [segs_app t m h2] at h'
      rw [segs_count]
      generalize (segs t).1 = L at *
      generalize (segs m).1 = M at *
      cases L with
      | nil => cases h
      | cons hd ls =>
        unfold parseL at h
        have h' : (match headP hd, linesP (ls ++ M) with | some (a, b, c), some os => some (Scr.mk a b c os) | _, _ => none) = some s' := h'
        simp only at h
        split at h
        · rename_i a b c os e1 e2
          cases h
          rw [e1] at h'
          cases e3 : linesP (ls ++ M) with
          | none => rw [e3] at h'; cases h'
          | some os' =>
            rw [e3] at h'
            cases h'
            obtain ⟨_, b2, b3⟩ := linesP_some e2
            refine ⟨rfl, rfl, rfl, ?_, by simp [b3]⟩
            have : ∃ x, linesP M = some x := by
              clear h2 h3 e1 e2 b2 b3 h'
              induction ls generalizing os' with
              | nil => exact ⟨_, e3⟩
              | cons l ls ih =>
                have e3 : (match lineP l, linesP (ls ++ M) with | some o, some os => some (o :: os) | _, _ => none) = some os' := e3
                split at e3
                · rename_i o os e4 e5; exact ih _ e5
                · cases e3
            obtain ⟨x, hx⟩ := this
            rw [linesP_app e2 hx] at e3
            cases e3
            exact ⟨x, rfl⟩
        · cases h
    · cases h'
  · cases h
end Go.Proofs.YtfkhljgifndbpaaDoor
