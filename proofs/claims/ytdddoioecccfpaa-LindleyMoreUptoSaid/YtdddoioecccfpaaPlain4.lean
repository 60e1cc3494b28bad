import Derived.Test.YtdddoioecccfpaaPlain3
/- Little's law, and more bytes -/
set_option linter.unusedVariables false
namespace Go.Proofs.Ytdddoioecccfpaa

/-- How long one has been there by t. -/
def gone (t a d : Int) : Int := min (max (t - a) 0) d
/-- How long all are there yet, from t on. -/
def rest (t : Int) : List S → List Int → Int
  | s :: r, w :: v => (w + s.by' - gone t s.at' (w + s.by')) + rest t r v
  | _, _ => 0
def long : List S → List Int → Int
  | s :: r, w :: v => (w + s.by') + long r v
  | _, _ => 0
def fin : List S → List Int → Int
  | s :: r, w :: v => max (s.at' + w + s.by') (fin r v)
  | _, _ => 0

theorem rest_zero : ∀ (l : List S) (v : List Int), (∀ s ∈ l, 0 ≤ s.at' ∧ 0 ≤ s.by') → (∀ w ∈ v, 0 ≤ w) → rest 0 l v = long l v
  | [], v, _, _ => by cases v <;> rfl
  | s :: r, [], _, _ => rfl
  | s :: r, w :: v, h, hv => by
    have h1 := h s (by simp)
    have h2 := hv w (by simp)
    have ih := rest_zero r v (fun t ht => h t (by simp [ht])) (fun t ht => hv t (by simp [ht]))
    simp only [rest, long, gone, ih]
    omega
theorem rest_step (t : Int) : ∀ (l : List S) (v : List Int), (∀ s ∈ l, 0 ≤ s.at' ∧ 0 ≤ s.by') → (∀ w ∈ v, 0 ≤ w) → rest (t + 1) l v = rest t l v - thereGo t l v
  | [], v, _, _ => by cases v <;> rfl
  | s :: r, [], _, _ => rfl
  | s :: r, w :: v, h, hv => by
    have h1 := h s (by simp)
    have h2 := hv w (by simp)
    have ih := rest_step t r v (fun t ht => h t (by simp [ht])) (fun t ht => hv t (by simp [ht]))
    simp only [rest, thereGo, gone, ih]
    split <;> omega
theorem rest_end (t : Int) : ∀ (l : List S) (v : List Int), fin l v ≤ t → (∀ s ∈ l, 0 ≤ s.at' ∧ 0 ≤ s.by') → (∀ w ∈ v, 0 ≤ w) → rest t l v = 0
  | [], v, _, _, _ => by cases v <;> rfl
  | s :: r, [], _, _, _ => rfl
  | s :: r, w :: v, hf, h, hv => by
    have h1 := h s (by simp)
    have h2 := hv w (by simp)
    simp only [fin] at hf
    have ih := rest_end t r v (by omega) (fun t ht => h t (by simp [ht])) (fun t ht => hv t (by simp [ht]))
    simp only [rest, gone, ih]
    omega
theorem there_most (t : Int) : ∀ (l : List S) (v : List Int), 0 ≤ thereGo t l v ∧ thereGo t l v ≤ l.length
  | [], v => by cases v <;> simp [thereGo]
  | s :: r, [] => by simp [thereGo]; omega
  | s :: r, w :: v => by
    have ih := there_most t r v
    simp only [thereGo, List.length_cons]
    split <;> omega

theorem waitsGo_mono : ∀ (l : List S) (f f' : Int), f ≤ f' → ∀ i, i < l.length → (waitsGo f l).getD i 0 ≤ (waitsGo f' l).getD i 0
  | [], _, _, _, i, hi => by simp at hi
  | s :: r, f, f', h, i, hi => by
    cases i with
    | zero => simp only [waitsGo, List.getD_cons_zero]; omega
    | succ i => simp only [waitsGo, List.getD_cons_succ]; exact waitsGo_mono r _ _ (by omega) i (by simpa using hi)
/-- The k-th one has so many more bytes. -/
theorem waitsGo_more (more : Int) (hm : 0 ≤ more) : ∀ (l : List S) (k : Nat) (f : Int) (i : Nat), k < l.length → i < l.length →
    (waitsGo f l).getD i 0 ≤ (waitsGo f (l.set k ⟨(l.getD k s0).at', (l.getD k s0).by' + more⟩)).getD i 0 ∧ (i ≤ k → (waitsGo f (l.set k ⟨(l.getD k s0).at', (l.getD k s0).by' + more⟩)).getD i 0 = (waitsGo f l).getD i 0)
  | [], _, _, i, _, hi => by simp at hi
  | s :: r, 0, f, i, _, hi => by
    simp only [List.set_cons_zero, List.getD_cons_zero]
    cases i with
    | zero => simp only [waitsGo, List.getD_cons_zero]; exact ⟨Int.le_refl _, fun _ => trivial⟩
    | succ i =>
      simp only [waitsGo, List.getD_cons_succ]
      exact ⟨waitsGo_mono r _ _ (by omega) i (by simpa using hi), fun h => by omega⟩
  | s :: r, k + 1, f, i, hk, hi => by
    simp only [List.set_cons_succ, List.getD_cons_succ]
    cases i with
    | zero => simp only [waitsGo, List.getD_cons_zero]; exact ⟨Int.le_refl _, fun _ => trivial⟩
    | succ i =>
      simp only [waitsGo, List.getD_cons_succ]
      have := waitsGo_more more hm r k (max f s.at' + s.by') i (by simpa using hk) (by simpa using hi)
      exact ⟨this.1, fun h => this.2 (by omega)⟩
/-- The last one comes so much later. -/
theorem waitsGo_late (more : Int) (hm : 0 ≤ more) : ∀ (l : List S) (f : Int), 0 < l.length →
    (waitsGo f (l.set (l.length - 1) ⟨(l.getD (l.length - 1) s0).at' + more, (l.getD (l.length - 1) s0).by'⟩)).getD (l.length - 1) 0 ≤ (waitsGo f l).getD (l.length - 1) 0 ∧
    (waitsGo f l).getD (l.length - 1) 0 - (waitsGo f (l.set (l.length - 1) ⟨(l.getD (l.length - 1) s0).at' + more, (l.getD (l.length - 1) s0).by'⟩)).getD (l.length - 1) 0 ≤ more
  | [], _, h => by simp at h
  | [s], f, _ => by simp only [List.length_singleton, Nat.sub_self, List.set_cons_zero, List.getD_cons_zero, waitsGo]; omega
  | s :: t :: r, f, _ => by
    have := waitsGo_late more hm (t :: r) (max f s.at' + s.by') (by simp)
    simp only [List.length_cons, Nat.add_sub_cancel] at this ⊢
    simp only [List.set_cons_succ, List.getD_cons_succ] at this ⊢
    simp only [waitsGo, List.getD_cons_succ] at this ⊢
    exact this
end Go.Proofs.Ytdddoioecccfpaa
