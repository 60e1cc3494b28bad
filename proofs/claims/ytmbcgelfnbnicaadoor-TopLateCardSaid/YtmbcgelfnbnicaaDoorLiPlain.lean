import Derived.Test.YtmbcgelfnbnicaaDoorBase
import Derived.Test.YtmbcgelfnbnicaaDoorLib
set_option linter.unusedVariables false
namespace Go.Proofs.YtmbcgelfnbnicaaDoor.Li
/- the plain law of queues -/

structure S where
  at' : Int
  by' : Int
  deriving DecidableEq
def s0 : S := ⟨0, 0⟩
def S.bad (s : S) : Prop := s.at' < 0 ∨ 1048576 < s.at' ∨ s.by' < 0 ∨ 1048576 < s.by'
instance (s : S) : Decidable s.bad := by unfold S.bad; infer_instance

def wrongGo : Bool → Int → List S → Int
  | _, _, [] => 0
  | first, p, s :: r => if s.bad then 2 else if first = false ∧ s.at' < p then 1 else wrongGo false s.at' r
def wrongL (l : List S) : Int := if 400 < l.length then 2 else wrongGo true 0 l

/-- how long each one waits; free: when the server is free -/
def waitsGo : Int → List S → List Int
  | _, [] => []
  | free, s :: r => (max free s.at' - s.at') :: waitsGo (max free s.at' + s.by') r
def waits (l : List S) : List Int := waitsGo 0 l

/- what is known of shots that are right -/

theorem wrongGo_ok : ∀ {l : List S} {p : Int}, wrongGo false p l = 0 → (∀ s ∈ l, ¬ s.bad ∧ p ≤ s.at') ∧ l.Pairwise (fun a b => a.at' ≤ b.at')
  | [], p, _ => ⟨by simp, .nil⟩
  | s :: r, p, h => by
    unfold wrongGo at h
    by_cases hb : s.bad
    · rw [if_pos hb] at h; omega
    · rw [if_neg hb] at h
      by_cases hc : s.at' < p
      · rw [if_pos ⟨rfl, hc⟩] at h; omega
      · rw [if_neg (by simp [hc])] at h
        obtain ⟨h1, h2⟩ := wrongGo_ok h
        refine ⟨fun t ht => ?_, .cons (fun t ht => (h1 t ht).2) h2⟩
        rcases List.mem_cons.1 ht with rfl | ht
        · exact ⟨hb, by omega⟩
        · have := h1 t ht; exact ⟨this.1, by omega⟩

structure Fine (l : List S) : Prop where
  len : l.length ≤ 400
  all : ∀ s ∈ l, ¬ s.bad
  row : l.Pairwise (fun a b => a.at' ≤ b.at')
theorem fine {l : List S} (h : wrongL l = 0) : Fine l := by
  unfold wrongL at h
  by_cases h4 : 400 < l.length
  · rw [if_pos h4] at h; omega
  · rw [if_neg h4] at h
    cases l with
    | nil => exact ⟨by simp, by simp, .nil⟩
    | cons s r =>
      unfold wrongGo at h
      by_cases hb : s.bad
      · rw [if_pos hb] at h; omega
      · rw [if_neg hb, if_neg (by simp)] at h
        obtain ⟨h1, h2⟩ := wrongGo_ok h
        refine ⟨by omega, fun t ht => ?_, .cons (fun t ht => (h1 t ht).2) h2⟩
        rcases List.mem_cons.1 ht with rfl | ht
        · exact hb
        · exact (h1 t ht).1
theorem wrongGo_of : ∀ {l : List S} {f : Bool} {p : Int}, (∀ s ∈ l, ¬ s.bad) → (f = false → ∀ s ∈ l, p ≤ s.at') → l.Pairwise (fun a b => a.at' ≤ b.at') → wrongGo f p l = 0
  | [], f, p, _, _, _ => rfl
  | s :: r, f, p, h1, h2, h3 => by
    unfold wrongGo
    rw [if_neg (h1 s (by simp)), if_neg (fun h => by have := h2 h.1 s (by simp); omega)]
    cases h3 with
    | cons h4 h5 => exact wrongGo_of (fun t ht => h1 t (by simp [ht])) (fun _ => h4) h5
theorem Fine.wrong {l : List S} (h : Fine l) : wrongL l = 0 := by
  unfold wrongL
  rw [if_neg (by have := h.len; omega)]
  exact wrongGo_of h.all (fun h => by cases h) h.row
theorem Fine.take {l : List S} (h : Fine l) (n : Nat) : Fine (l.take n) :=
  ⟨by have := h.len; simp; omega, fun s hs => h.all s (List.mem_of_mem_take hs), h.row.sublist (List.take_sublist _ _)⟩
theorem Fine.get {l : List S} (h : Fine l) {i : Nat} (hi : i < l.length) : 0 ≤ (l.getD i s0).at' ∧ (l.getD i s0).at' ≤ 1048576 ∧ 0 ≤ (l.getD i s0).by' ∧ (l.getD i s0).by' ≤ 1048576 := by
  have : l.getD i s0 = l[i] := by simp [List.getD_eq_getElem?_getD, hi]
  rw [this]
  have := h.all l[i] (List.getElem_mem hi)
  unfold S.bad at this
  omega
theorem Fine.le {l : List S} (h : Fine l) {i j : Nat} (hij : i ≤ j) (hj : j < l.length) : (l.getD i s0).at' ≤ (l.getD j s0).at' := by
  have e1 : l.getD i s0 = l[i] := by simp [List.getD_eq_getElem?_getD, show i < l.length by omega]
  have e2 : l.getD j s0 = l[j] := by simp [List.getD_eq_getElem?_getD, hj]
  rw [e1, e2]
  by_cases h' : i = j
  · subst h'; exact Int.le_refl _
  · exact List.pairwise_iff_getElem.1 h.row i j (by omega) hj (by omega)

theorem waitsGo_length : ∀ (f : Int) (l : List S), (waitsGo f l).length = l.length
  | _, [] => rfl
  | f, s :: r => by simp [waitsGo, waitsGo_length]
theorem waits_length (l : List S) : (waits l).length = l.length := waitsGo_length 0 l
theorem take_of_drop {l : List Int} {i : Nat} {x : Int} {r : List Int} (h : l.drop i = x :: r) : l.take (i + 1) = l.take i ++ [x] ∧ l.drop (i + 1) = r := by
  have hi : i < l.length := by
    by_cases hi : i < l.length
    · exact hi
    · rw [List.drop_eq_nil_of_le (by omega)] at h; cases h
  rw [List.drop_eq_getElem_cons hi] at h
  simp only [List.cons.injEq] at h
  refine ⟨?_, h.2⟩
  rw [List.take_add_one, List.getElem?_eq_getElem hi, h.1]; rfl
theorem waitsGo_range : ∀ {l : List S} {f : Int} {B : Int}, (∀ s ∈ l, ¬ s.bad) → 0 ≤ f → 1048576 ≤ B → f ≤ B → ∀ w ∈ waitsGo f l, 0 ≤ w ∧ w ≤ B + (l.length : Int) * 1048576
  | [], f, B, _, _, _, _, w, hw => by simp [waitsGo] at hw
  | s :: r, f, B, h, h0, hB, hf, w, hw => by
    have hb := h s (by simp)
    unfold S.bad at hb
    unfold waitsGo at hw
    rcases List.mem_cons.1 hw with rfl | hw
    · simp only [List.length_cons]; omega
    · have := waitsGo_range (l := r) (f := max f s.at' + s.by') (B := B + 1048576) (fun t ht => h t (by simp [ht])) (by omega) (by omega) (by omega) w hw
      simp only [List.length_cons]
      omega
theorem waits_range {l : List S} (h : Fine l) {i : Nat} (hi : i < l.length) : 0 ≤ (waits l).getD i 0 ∧ (waits l).getD i 0 ≤ 421527552 := by
  have hi' : i < (waits l).length := by rw [waits_length]; exact hi
  have : (waits l).getD i 0 = (waits l)[i] := by simp [List.getD_eq_getElem?_getD, hi']
  rw [this]
  have := waitsGo_range (f := 0) (B := 1048576) h.all (by omega) (by omega) (by omega) _ (List.getElem_mem hi')
  have := h.len
  omega

end Go.Proofs.YtmbcgelfnbnicaaDoor.Li
