/- Things in their order: what came of each flow goes in its order, and an out is right when things wait. Plain. -/
set_option linter.unusedVariables false
namespace Go.Proofs.YtmbcgelfnbnicaaDoor

structure Op where
  k : Int
  f : Int
  b : Int
def o0 : Op := ⟨0, 0, 0⟩
structure S where
  f : Int
  n : Int
  deriving DecidableEq
def s0 : S := ⟨0, 0⟩
/-- A queue put in another one's place. -/
def updQ (q : Nat → List Int) (k : Nat) (l : List Int) : Nat → List Int := fun j => if j = k then l else q j
inductive Disc (n : Nat) : List Op → List Int → List S → (Nat → List Int) → Nat → Prop where
  | start : Disc n [] [] [] (fun _ => []) 0
  | bad {ops errs sent q w} (o : Op) (e : Int) : Disc n ops errs sent q w → e ≠ 0 → (o.k = 2 → ∀ k, k < n → q k = []) → Disc n (ops ++ [o]) (errs ++ [e]) sent q w
  | enter {ops errs sent q w} (o : Op) (k : Nat) : Disc n ops errs sent q w → o.k = 1 → k < n → o.f = k → Disc n (ops ++ [o]) (errs ++ [0]) sent (updQ q k (q k ++ [o.b])) (w + 1)
  | leave {ops errs sent q w} (o : Op) (k : Nat) (x : Int) (r : List Int) : Disc n ops errs sent q w → o.k = 2 → k < n → q k = x :: r → Disc n (ops ++ [o]) (errs ++ [0]) (sent ++ [⟨k, x⟩]) (updQ q k r) (w - 1)
theorem Disc.cong {n : Nat} {ops : List Op} {errs : List Int} {sent : List S} {q q' : Nat → List Int} {w : Nat} (h : Disc n ops errs sent q w) (hq : ∀ k, q k = q' k) : Disc n ops errs sent q' w := by
  have : q = q' := funext hq
  rwa [this] at h
def tot (q : Nat → List Int) : Nat → Nat
  | 0 => 0
  | n + 1 => tot q n + (q n).length
theorem tot_updQ (q : Nat → List Int) (k : Nat) (l : List Int) : ∀ n, tot (updQ q k l) n + (if k < n then (q k).length else 0) = tot q n + (if k < n then l.length else 0)
  | 0 => rfl
  | n + 1 => by
    have ih := tot_updQ q k l n
    simp only [tot]
    by_cases e : n = k
    · subst e
      have h2 : updQ q n l n = l := by simp [updQ]
      rw [h2]
      rw [if_neg (Nat.lt_irrefl _), if_neg (Nat.lt_irrefl _)] at ih
      rw [if_pos (by omega), if_pos (by omega)]
      omega
    · have h2 : updQ q k l n = q n := by simp [updQ, e]
      rw [h2]
      by_cases h : k < n
      · rw [if_pos h, if_pos h] at ih
        rw [if_pos (by omega), if_pos (by omega)]
        omega
      · rw [if_neg h, if_neg h] at ih
        rw [if_neg (by omega), if_neg (by omega)]
        omega
theorem tot_zero {q : Nat → List Int} : ∀ {n : Nat}, (∀ k, k < n → q k = []) → tot q n = 0
  | 0, _ => rfl
  | n + 1, h => by
    simp only [tot]
    rw [tot_zero (fun k hk => h k (by omega)), h n (by omega)]; rfl
theorem tot_ge {q : Nat → List Int} {k : Nat} : ∀ {n : Nat}, k < n → (q k).length ≤ tot q n
  | n + 1, h => by
    simp only [tot]
    by_cases e : k = n
    · subst e; omega
    · have := tot_ge (q := q) (k := k) (n := n) (by omega); omega
/-- What came of a flow with the first i things. -/
def came (ops : List Op) (errs : List Int) (k : Nat) : Nat → List Int
  | 0 => []
  | i + 1 => came ops errs k i ++ (if errs.getD i 1 = 0 ∧ (ops.getD i o0).k = 1 ∧ (ops.getD i o0).f = k then [(ops.getD i o0).b] else [])
/-- What of a flow the first i sent are. -/
def gone (sent : List S) (k : Nat) : Nat → List Int
  | 0 => []
  | i + 1 => gone sent k i ++ (if (sent.getD i s0).f = k then [(sent.getD i s0).n] else [])
/-- How many wait behind the first i things. -/
def waits (ops : List Op) (errs : List Int) : Nat → Int
  | 0 => 0
  | i + 1 => waits ops errs i + (if errs.getD i 1 = 0 then (if (ops.getD i o0).k = 1 then 1 else -1) else 0)
theorem getD_app1 {α : Type} (d : α) (l r : List α) (i : Nat) (h : i < l.length) : (l ++ r).getD i d = l.getD i d := by
  simp only [List.getD_eq_getElem?_getD]; rw [List.getElem?_append_left h]
theorem getD_snocE {α : Type} (d x : α) (l : List α) : (l ++ [x]).getD l.length d = x := by simp
theorem came_app (ops : List Op) (errs : List Int) (o : Op) (e : Int) (k : Nat) : ∀ i, i ≤ ops.length → i ≤ errs.length → came (ops ++ [o]) (errs ++ [e]) k i = came ops errs k i
  | 0, _, _ => rfl
  | i + 1, h, h2 => by
    simp only [came]
    rw [came_app ops errs o e k i (by omega) (by omega), getD_app1 _ _ _ _ (by omega), getD_app1 _ _ _ _ (by omega)]
theorem waits_app (ops : List Op) (errs : List Int) (o : Op) (e : Int) : ∀ i, i ≤ ops.length → i ≤ errs.length → waits (ops ++ [o]) (errs ++ [e]) i = waits ops errs i
  | 0, _, _ => rfl
  | i + 1, h, h2 => by
    simp only [waits]
    rw [waits_app ops errs o e i (by omega) (by omega), getD_app1 _ _ _ _ (by omega), getD_app1 _ _ _ _ (by omega)]
theorem gone_app (sent : List S) (s : S) (k : Nat) : ∀ i, i ≤ sent.length → gone (sent ++ [s]) k i = gone sent k i
  | 0, _ => rfl
  | i + 1, h => by
    simp only [gone]
    rw [gone_app sent s k i (by omega), getD_app1 _ _ _ _ (by omega)]
/-- What the laws look at. -/
structure Kept (n : Nat) (ops : List Op) (errs : List Int) (sent : List S) (q : Nat → List Int) (w : Nat) : Prop where
  len : errs.length = ops.length
  tot : w = tot q n
  wt : waits ops errs ops.length = w
  ok : ∀ i, i < ops.length → errs.getD i 1 = 0 → ((ops.getD i o0).k = 1 ∧ 0 ≤ (ops.getD i o0).f ∧ (ops.getD i o0).f < n) ∨ (ops.getD i o0).k = 2
  out : ∀ i, i < ops.length → 0 ≤ waits ops errs i ∧ waits ops errs i ≤ i ∧ ((ops.getD i o0).k = 2 → (errs.getD i 1 = 0 ↔ 0 < waits ops errs i))
  fine : ∀ j, j < sent.length → 0 ≤ (sent.getD j s0).f ∧ (sent.getD j s0).f < n
  all : ∀ k, k < n → came ops errs k ops.length = gone sent k sent.length ++ q k
  wle : w ≤ ops.length
theorem Disc.kept {n : Nat} {ops : List Op} {errs : List Int} {sent : List S} {q : Nat → List Int} {w : Nat} (h : Disc n ops errs sent q w) : Kept n ops errs sent q w := by
  induction h with
  | start => exact ⟨rfl, (tot_zero fun _ _ => rfl).symm, rfl, fun i h => by simp at h, fun i h => by simp at h, fun i h => by simp at h, fun _ _ => rfl, Nat.le_refl _⟩
  | @bad ops errs sent q w o e _ he ho ih =>
    have hl := ih.len
    have e1 : (errs ++ [e]).getD ops.length 1 = e := by rw [← hl]; exact getD_snocE _ _ _
    have e2 : (ops ++ [o]).getD ops.length o0 = o := getD_snocE _ _ _
    have ew := waits_app ops errs o e
    have ec := fun k => came_app ops errs o e k
    refine ⟨by simp [hl], ih.tot, ?_, fun i hi => ?_, fun i hi => ?_, ih.fine, fun k hk => ?_, by have := ih.wle; simp; omega⟩
    · rw [List.length_append, List.length_singleton, waits, ew _ (by omega) (by omega), e1, if_neg he, ih.wt]; omega
    · rw [List.length_append, List.length_singleton] at hi
      by_cases e' : i = ops.length
      · subst e'; rw [e1]; exact fun h => (he h).elim
      · rw [getD_app1 _ _ _ _ (by omega), getD_app1 _ _ _ _ (by omega)]; exact ih.ok i (by omega)
    · rw [List.length_append, List.length_singleton] at hi
      rw [ew _ (by omega) (by omega)]
      by_cases e' : i = ops.length
      · subst e'
        rw [e1, e2, ih.wt]
        refine ⟨by omega, by have := ih.wle; omega, fun h2 => ?_⟩
        have := tot_zero (ho h2)
        have := ih.tot
        exact ⟨fun h => (he h).elim, fun h => by omega⟩
      · rw [getD_app1 _ _ _ _ (by omega), getD_app1 _ _ _ _ (by omega)]; exact ih.out i (by omega)
    · rw [List.length_append, List.length_singleton, came, ec _ _ (by omega) (by omega), e1, if_neg (fun h => he h.1), List.append_nil]
      exact ih.all k hk
  | @enter ops errs sent q w o k _ h1 hk hf ih =>
    have hl := ih.len
    have e1 : (errs ++ [0]).getD ops.length 1 = 0 := by rw [← hl]; exact getD_snocE _ _ _
    have e2 : (ops ++ [o]).getD ops.length o0 = o := getD_snocE _ _ _
    have ew := waits_app ops errs o 0
    have ec := fun k => came_app ops errs o 0 k
    refine ⟨by simp [hl], ?_, ?_, fun i hi => ?_, fun i hi => ?_, ih.fine, fun j hj => ?_, by have := ih.wle; simp; omega⟩
    · have := tot_updQ q k (q k ++ [o.b]) n
      rw [if_pos hk, if_pos hk, List.length_append, List.length_singleton] at this
      have := ih.tot
      omega
    · rw [List.length_append, List.length_singleton, waits, ew _ (by omega) (by omega), e1, e2, if_pos rfl, if_pos h1, ih.wt]; omega
    · rw [List.length_append, List.length_singleton] at hi
      by_cases e' : i = ops.length
      · subst e'; rw [e1, e2]; exact fun _ => .inl ⟨h1, by omega, by omega⟩
      · rw [getD_app1 _ _ _ _ (by omega), getD_app1 _ _ _ _ (by omega)]; exact ih.ok i (by omega)
    · rw [List.length_append, List.length_singleton] at hi
      rw [ew _ (by omega) (by omega)]
      by_cases e' : i = ops.length
      · subst e'
        rw [e1, e2, ih.wt]
        exact ⟨by omega, by have := ih.wle; omega, fun h2 => by omega⟩
      · rw [getD_app1 _ _ _ _ (by omega), getD_app1 _ _ _ _ (by omega)]; exact ih.out i (by omega)
    · rw [List.length_append, List.length_singleton, came, ec _ _ (by omega) (by omega), e1, e2, ih.all j hj]
      unfold updQ
      by_cases e : j = k
      · subst e; rw [if_pos ⟨rfl, h1, hf⟩, if_pos rfl, List.append_assoc]
      · rw [if_neg (fun h => e (by have := h.2.2; omega)), if_neg e, List.append_nil]
  | @leave ops errs sent q w o k x r _ h1 hk hf ih =>
    have hl := ih.len
    have e1 : (errs ++ [0]).getD ops.length 1 = 0 := by rw [← hl]; exact getD_snocE _ _ _
    have e2 : (ops ++ [o]).getD ops.length o0 = o := getD_snocE _ _ _
    have ew := waits_app ops errs o 0
    have ec := fun k => came_app ops errs o 0 k
    have hw := tot_ge (q := q) hk
    rw [hf, List.length_cons] at hw
    have ht := ih.tot
    refine ⟨by simp [hl], ?_, ?_, fun i hi => ?_, fun i hi => ?_, fun j hj => ?_, fun j hj => ?_, by have := ih.wle; simp; omega⟩
    · have := tot_updQ q k r n
      rw [if_pos hk, if_pos hk, hf, List.length_cons] at this
      omega
    · rw [List.length_append, List.length_singleton, waits, ew _ (by omega) (by omega), e1, e2, if_pos rfl, if_neg (by omega), ih.wt]; omega
    · rw [List.length_append, List.length_singleton] at hi
      by_cases e' : i = ops.length
      · subst e'; rw [e2]; exact fun _ => .inr h1
      · rw [getD_app1 _ _ _ _ (by omega), getD_app1 _ _ _ _ (by omega)]; exact ih.ok i (by omega)
    · rw [List.length_append, List.length_singleton] at hi
      rw [ew _ (by omega) (by omega)]
      by_cases e' : i = ops.length
      · subst e'
        rw [e1, e2, ih.wt]
        exact ⟨by omega, by have := ih.wle; omega, fun _ => ⟨fun _ => by omega, fun _ => rfl⟩⟩
      · rw [getD_app1 _ _ _ _ (by omega), getD_app1 _ _ _ _ (by omega)]; exact ih.out i (by omega)
    · rw [List.length_append, List.length_singleton] at hj
      by_cases e' : j = sent.length
      · subst e'; rw [getD_snocE]; exact ⟨by simp only; omega, by simp only; omega⟩
      · rw [getD_app1 _ _ _ _ (by omega)]; exact ih.fine j (by omega)
    · rw [List.length_append, List.length_singleton, came, ec _ _ (by omega) (by omega), e1, e2, if_neg (by omega), List.append_nil, ih.all j hj, List.length_append, List.length_singleton, gone, gone_app _ _ _ _ (Nat.le_refl _), getD_snocE]
      unfold updQ
      by_cases e : j = k
      · subst e; rw [if_pos rfl, if_pos rfl, hf, List.append_assoc]; rfl
      · rw [if_neg (fun h => e (by simp only at h; omega)), if_neg e, List.append_nil]
theorem came_len (ops : List Op) (errs : List Int) (k : Nat) : ∀ i, (came ops errs k i).length ≤ min i errs.length
  | 0 => by simp [came]
  | i + 1 => by
    have ih := came_len ops errs k i
    simp only [came, List.length_append]
    split
    · rename_i h
      have : i < errs.length := by
        refine Classical.byContradiction fun hn => ?_
        have h1 := h.1
        rw [List.getD_eq_getElem?_getD, List.getElem?_eq_none (by omega)] at h1
        exact absurd h1 (by decide)
      simp only [List.length_singleton]; omega
    · simp only [List.length_nil]; omega
theorem gone_pre (sent : List S) (k : Nat) (i : Nat) : ∀ j, i ≤ j → ∃ r, gone sent k j = gone sent k i ++ r
  | 0, h => by obtain rfl : i = 0 := by omega
               exact ⟨[], by simp⟩
  | j + 1, h => by
    by_cases e : i = j + 1
    · exact ⟨[], by rw [e]; simp⟩
    · obtain ⟨r, hr⟩ := gone_pre sent k i j (by omega)
      exact ⟨r ++ _, by rw [gone, hr, List.append_assoc]⟩
/-- What of a flow is still to be sent behind the first j sent. -/
def rest (ops : List Op) (errs : List Int) (sent : List S) (j k : Nat) : List Int := (came ops errs k ops.length).drop (gone sent k j).length
theorem rest_len (ops : List Op) (errs : List Int) (sent : List S) (j k : Nat) : (rest ops errs sent j k).length ≤ errs.length := by
  have := came_len ops errs k ops.length
  unfold rest; rw [List.length_drop]; omega
theorem rest_zero (ops : List Op) (errs : List Int) (sent : List S) (k : Nat) : rest ops errs sent 0 k = came ops errs k ops.length := rfl
theorem Kept.rest_end {n : Nat} {ops : List Op} {errs : List Int} {sent : List S} {q : Nat → List Int} {w : Nat} (h : Kept n ops errs sent q w) {k : Nat} (hk : k < n) : rest ops errs sent sent.length k = q k := by
  unfold rest; rw [h.all k hk, List.drop_left]
theorem Kept.rest_step {n : Nat} {ops : List Op} {errs : List Int} {sent : List S} {q : Nat → List Int} {w : Nat} (h : Kept n ops errs sent q w) {j k : Nat} (hk : k < n) (hj : j < sent.length) :
    if (sent.getD j s0).f = k then rest ops errs sent j k = (sent.getD j s0).n :: rest ops errs sent (j + 1) k else rest ops errs sent (j + 1) k = rest ops errs sent j k := by
  split
  · rename_i hf
    obtain ⟨r, hr⟩ := gone_pre sent k (j + 1) sent.length (by omega)
    have hc := h.all k hk
    have h1 : gone sent k (j + 1) = gone sent k j ++ [(sent.getD j s0).n] := by rw [gone, if_pos hf]
    have h2 : came ops errs k ops.length = gone sent k j ++ ((sent.getD j s0).n :: (r ++ q k)) := by rw [hc, hr, h1]; simp
    have h3 : came ops errs k ops.length = gone sent k (j + 1) ++ (r ++ q k) := by rw [hc, hr]; simp
    have h4 : rest ops errs sent j k = (sent.getD j s0).n :: (r ++ q k) := by unfold rest; rw [h2, List.drop_left]
    have h5 : rest ops errs sent (j + 1) k = r ++ q k := by unfold rest; rw [h3, List.drop_left]
    rw [h4, h5]
  · rename_i hf
    unfold rest; rw [gone, if_neg hf, List.append_nil]
end Go.Proofs.YtmbcgelfnbnicaaDoor
