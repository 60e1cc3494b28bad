import Derived.Test.YtddoegbgnmdfhaaPlain
/- two that both wait are served alike -/
set_option linter.unusedVariables false
namespace Go.Proofs.Ytddoegbgnmdfhaa

theorem w_div {w : Int} (h : 1 ≤ w ∧ w ≤ 12) : w * (27720 / w) = 27720 := by
  rcases (by omega : w = 1 ∨ w = 2 ∨ w = 3 ∨ w = 4 ∨ w = 5 ∨ w = 6 ∨ w = 7 ∨ w = 8 ∨ w = 9 ∨ w = 10 ∨ w = 11 ∨ w = 12) with rfl | rfl | rfl | rfl | rfl | rfl | rfl | rfl | rfl | rfl | rfl | rfl <;> rfl
/-- Tags that follow one another. -/
def Chain (c : Int) : Int → List Int → List Int → Int → Prop
  | s, [], [], l => l = s
  | s, x :: b, y :: t, l => y = s + x * c ∧ Chain c y b t l
  | _, _, _, _ => False
theorem Chain.ge {c : Int} (hc : 0 ≤ c) : ∀ {s : Int} {b t : List Int} {l : Int}, Chain c s b t l → (∀ x ∈ b, 1 ≤ x ∧ x ≤ 1500) → s ≤ l
  | s, [], [], l, h, _ => by unfold Chain at h; omega
  | s, x :: b, y :: t, l, h, hb => by
    have h2 := Chain.ge hc h.2 (fun z hz => hb z (by simp [hz]))
    have hx := hb x (by simp)
    have := Int.mul_nonneg (show 0 ≤ x by omega) hc
    have := h.1
    omega
  | s, [], y :: t, l, h, _ => h.elim
  | s, x :: b, [], l, h, _ => h.elim
theorem Chain.snoc {c x : Int} : ∀ {s : Int} {b t : List Int} {l : Int}, Chain c s b t l → Chain c s (b ++ [x]) (t ++ [l + x * c]) (l + x * c)
  | s, [], [], l, h => by unfold Chain at h; subst h; exact ⟨rfl, rfl⟩
  | s, x' :: b, y :: t, l, h => ⟨h.1, Chain.snoc h.2⟩
  | s, [], y :: t, l, h => h.elim
  | s, x :: b, [], l, h => h.elim
/-- Where the first packet's tag begins. -/
def HF (c : Int) (f : Fq) : Int := if f.t = [] then f.l else headQ f.t - headQ f.b * c
theorem HF_nil {c : Int} {f : Fq} (h : f.t = []) : HF c f = f.l := if_pos h
theorem HF_cons {c : Int} {f : Fq} (h : f.t ≠ []) : HF c f = headQ f.t - headQ f.b * c := if_neg h
theorem Chain.HF {c s : Int} {b t : List Int} {l : Int} (h : Chain c s b t l) : HF c ⟨b, t, l⟩ = s := by
  match b, t, h with
  | [], [], h => exact (HF_nil rfl).trans h
  | x :: b, y :: t, h =>
    rw [HF_cons (by simp)]
    have := h.1
    simp only [headQ]; omega
def cW (ws : List Int) (k : Nat) : Int := 27720 / ws.getD k 0
structure Fk (ws : List Int) (nd : Nd) (k : Nat) : Prop where
  ch : Chain (cW ws k) (HF (cW ws k) (nd.fl.getD k f0)) (nd.fl.getD k f0).b (nd.fl.getD k f0).t (nd.fl.getD k f0).l
  le : HF (cW ws k) (nd.fl.getD k f0) ≤ nd.t
  ge : (nd.fl.getD k f0).t ≠ [] → nd.t ≤ headQ (nd.fl.getD k f0).t
def Fs (ws : List Int) (nd : Nd) : Prop := ∀ k, k < ws.length → Fk ws nd k
theorem cW_nonneg {ws : List Int} (hw : okW ws) {k : Nat} (hk : k < ws.length) : 0 ≤ cW ws k := (tag_bound (x := 0) (hw.2 k hk) (by omega)).1.1
theorem inN_getD {ws : List Int} {nd : Nd} {k : Nat} {x : Int} (hk : k < nd.fl.length) (j : Nat) : (inN ws nd k x).fl.getD j f0 = if k = j then inF (ws.getD k 0) nd.t x (nd.fl.getD k f0) else nd.fl.getD j f0 := by
  simp only [inN]
  rw [getD_setF]
  by_cases e : k = j
  · rw [if_pos ⟨e, hk⟩, if_pos e]
  · rw [if_neg (fun h => e h.1), if_neg e]
theorem outN_getD {nd : Nd} {k : Nat} (hk : k < nd.fl.length) (j : Nat) : (outN nd k).fl.getD j f0 = if k = j then outF (nd.fl.getD k f0) else nd.fl.getD j f0 := by
  simp only [outN]
  rw [getD_setF]
  by_cases e : k = j
  · rw [if_pos ⟨e, hk⟩, if_pos e]
  · rw [if_neg (fun h => e h.1), if_neg e]
theorem Chain.head {c s : Int} {b t : List Int} {l : Int} (h : Chain c s b t l) (hq : t ≠ []) : ∃ x b' y t', b = x :: b' ∧ t = y :: t' ∧ y = s + x * c ∧ Chain c y b' t' l := by
  match b, t, h with
  | [], [], h => exact (hq rfl).elim
  | x :: b, y :: t, h => exact ⟨x, b, y, t, rfl, rfl, h.1, h.2⟩
/-- What comes does to a flow. -/
theorem Fk.inF' {ws : List Int} {M : Int} {nd : Nd} {k : Nat} {x : Int} (hw : okW ws) (hok : OkN M nd) (h : Fk ws nd k) (hk : k < ws.length) (hx : 1 ≤ x ∧ x ≤ 1500) :
    ∃ s, Chain (cW ws k) s (inF (ws.getD k 0) nd.t x (nd.fl.getD k f0)).b (inF (ws.getD k 0) nd.t x (nd.fl.getD k f0)).t (inF (ws.getD k 0) nd.t x (nd.fl.getD k f0)).l ∧ s ≤ nd.t ∧ nd.t ≤ headQ (inF (ws.getD k 0) nd.t x (nd.fl.getD k f0)).t ∧ ((nd.fl.getD k f0).t ≠ [] → s = HF (cW ws k) (nd.fl.getD k f0)) := by
  obtain ⟨h1, h2, h3⟩ := h
  have hc := cW_nonneg hw hk
  have hbx := (hok.f k).2.2.1
  have hxc := Int.mul_nonneg (show 0 ≤ x by omega) hc
  have ht : tagN (ws.getD k 0) nd.t x (nd.fl.getD k f0) = max (nd.fl.getD k f0).l nd.t + x * cW ws k := rfl
  unfold inF
  rw [ht]
  generalize nd.fl.getD k f0 = f at *
  by_cases hq : f.t = []
  · have hlt : f.l ≤ nd.t := by rw [HF_nil hq] at h2; exact h2
    have hb : f.b = [] := by
      rw [hq] at h1
      cases hb : f.b with
      | nil => rfl
      | cons y b => rw [hb] at h1; exact h1.elim
    rw [hq, hb, Int.max_eq_right hlt]
    exact ⟨nd.t, ⟨rfl, rfl⟩, Int.le_refl _, by simp only [List.nil_append, headQ]; omega, fun h => (h rfl).elim⟩
  · have h3 := h3 hq
    obtain ⟨x', b', y, t', e1, e2, e3, e4⟩ := h1.head hq
    have := Chain.ge hc e4 (fun z hz => hbx z (by rw [e1]; simp [hz]))
    have hyl : nd.t ≤ y := by rw [e2] at h3; exact h3
    rw [Int.max_eq_left (by omega)]
    refine ⟨_, h1.snoc, h2, ?_, fun _ => rfl⟩
    rw [e2]; exact hyl
theorem Fs.inn {ws : List Int} {M : Int} {nd : Nd} {k : Nat} {x : Int} (hw : okW ws) (hl : nd.fl.length = ws.length) (hok : OkN M nd) (h : Fs ws nd) (hk : k < ws.length) (hx : 1 ≤ x ∧ x ≤ 1500) : Fs ws (inN ws nd k x) := fun j hj => by
  have hg := inN_getD (ws := ws) (nd := nd) (x := x) (k := k) (by omega) j
  by_cases e : k = j
  · subst e
    rw [if_pos rfl] at hg
    obtain ⟨s, h1, h2, h3, _⟩ := (h k hk).inF' hw hok hk hx
    have hH : HF (cW ws k) (inF (ws.getD k 0) nd.t x (nd.fl.getD k f0)) = s := h1.HF
    refine ⟨?_, ?_, fun _ => ?_⟩
    · rw [hg, hH]; exact h1
    · rw [hg, hH]; exact h2
    · rw [hg]; exact h3
  · rw [if_neg e] at hg
    have := h j hj
    refine ⟨?_, ?_, fun hq => ?_⟩
    · rw [hg]; exact this.ch
    · rw [hg]; exact this.le
    · rw [hg] at hq ⊢; exact this.ge hq
theorem HF_in {ws : List Int} {M : Int} {nd : Nd} {k : Nat} {x : Int} (hw : okW ws) (hl : nd.fl.length = ws.length) (hok : OkN M nd) (h : Fs ws nd) (hk : k < ws.length) (hx : 1 ≤ x ∧ x ≤ 1500) (j : Nat) (hq : (nd.fl.getD j f0).t ≠ []) :
    HF (cW ws j) ((inN ws nd k x).fl.getD j f0) = HF (cW ws j) (nd.fl.getD j f0) := by
  have hg := inN_getD (ws := ws) (nd := nd) (x := x) (k := k) (by omega) j
  by_cases e : k = j
  · subst e
    rw [if_pos rfl] at hg
    obtain ⟨s, h1, h2, h3, h4⟩ := (h k hk).inF' hw hok hk hx
    have hH : HF (cW ws k) (inF (ws.getD k 0) nd.t x (nd.fl.getD k f0)) = s := h1.HF
    rw [hg, hH, h4 hq]
  · rw [hg, if_neg e]
theorem out_chain {ws : List Int} {nd : Nd} {k : Nat} (h : Fk ws nd k) (hq : (nd.fl.getD k f0).t ≠ []) : Chain (cW ws k) (headQ (nd.fl.getD k f0).t) (outF (nd.fl.getD k f0)).b (outF (nd.fl.getD k f0)).t (outF (nd.fl.getD k f0)).l ∧ headQ (nd.fl.getD k f0).t = HF (cW ws k) (nd.fl.getD k f0) + headQ (nd.fl.getD k f0).b * cW ws k := by
  obtain ⟨x', b', y, t', e1, e2, e3, e4⟩ := h.ch.head hq
  unfold outF
  rw [e1, e2]
  exact ⟨e4, e3⟩
theorem Fs.out {ws : List Int} {M : Int} {nd : Nd} {k : Nat} (hw : okW ws) (hl : nd.fl.length = ws.length) (hok : OkN M nd) (h : Fs ws nd) (hk : k < ws.length) (hp : Pk nd ws.length k) : Fs ws (outN nd k) := fun j hj => by
  have hg := outN_getD (nd := nd) (k := k) (by omega) j
  have ht : (outN nd k).t = headQ (nd.fl.getD k f0).t := rfl
  have hkk := (h k hk).ge hp.q
  by_cases e : k = j
  · subst e
    rw [if_pos rfl] at hg
    obtain ⟨h1, _⟩ := out_chain (h k hk) hp.q
    have hH : HF (cW ws k) (outF (nd.fl.getD k f0)) = headQ (nd.fl.getD k f0).t := h1.HF
    refine ⟨?_, ?_, fun hq => ?_⟩
    · rw [hg, hH]; exact h1
    · rw [hg, hH, ht]; exact Int.le_refl _
    · rw [hg] at hq ⊢
      rw [ht]
      obtain ⟨x', b', y, t', e1, e2, e3, e4⟩ := h1.head hq
      have hb := (hok.f k).2.2.1 x' (List.mem_of_mem_tail (show x' ∈ (nd.fl.getD k f0).b.tail by rw [show (nd.fl.getD k f0).b.tail = x' :: b' from e1]; simp))
      have := Int.mul_nonneg (show 0 ≤ x' by omega) (cW_nonneg hw hk)
      rw [e2]; simp only [headQ] at *; omega
  · rw [if_neg e] at hg
    have hj' := h j hj
    refine ⟨?_, ?_, fun hq => ?_⟩
    · rw [hg]; exact hj'.ch
    · rw [hg, ht]; have := hj'.le; omega
    · rw [hg] at hq ⊢; rw [ht]; exact hp.m j hj hq
theorem HF_out {ws : List Int} {nd : Nd} {k : Nat} (hl : nd.fl.length = ws.length) (h : Fs ws nd) (hk : k < ws.length) (hp : Pk nd ws.length k) (j : Nat) :
    HF (cW ws j) ((outN nd k).fl.getD j f0) = HF (cW ws j) (nd.fl.getD j f0) + if k = j then headQ (nd.fl.getD k f0).b * cW ws k else 0 := by
  have hg := outN_getD (nd := nd) (k := k) (by omega) j
  by_cases e : k = j
  · subst e
    rw [if_pos rfl] at hg
    obtain ⟨h1, h2⟩ := out_chain (h k hk) hp.q
    have hH : HF (cW ws k) (outF (nd.fl.getD k f0)) = headQ (nd.fl.getD k f0).t := h1.HF
    rw [hg, hH, if_pos rfl, h2]
  · rw [hg, if_neg e, if_neg e, Int.add_zero]
theorem run_fs {ws : List Int} (hw : okW ws) (l : List Op) : ∀ n, n ≤ l.length → Fs ws (runR ws (l.take n)).nd
  | 0, _ => fun k _ => by
    simp only [List.take_zero, runR, List.foldl_nil]
    refine ⟨?_, ?_, fun h => ?_⟩
    · rw [start_f0]; exact (HF_nil rfl).symm
    · rw [start_f0]; exact Int.le_of_eq (HF_nil rfl)
    · rw [start_f0] at h; exact (h rfl).elim
  | n + 1, hn => by
    have ih := run_fs hw l n (by omega)
    have hok := run_okN hw l n (by omega)
    have hl := (run_lens ws (l.take n)).2.2
    rw [run_snoc_at ws l n (by omega)]
    rcases step_cases (ws := ws) (l.getD n o0) hl with ⟨e, _, h, _⟩ | ⟨_, k, hk, _, h1, h2, h⟩ | ⟨_, k, hk, _, hp, h⟩
    · rw [h]; exact ih
    · rw [h]; exact ih.inn hw hl hok hk ⟨h1, h2⟩
    · rw [h]; exact ih.out hw hl hok hk hp

def pP (ws : List Int) (nd : Nd) (a b : Nat) : Int := ws.getD a 0 * ws.getD b 0 * (HF (cW ws a) (nd.fl.getD a f0) - HF (cW ws b) (nd.fl.getD b f0))
structure Gf (ws : List Int) (nd : Nd) (a b : Nat) (d low high : Int) : Prop where
  lo : 27720 * d - pP ws nd a b - 41580000 * ws.getD b 0 ≤ 27720 * low
  hi : 27720 * high ≤ 27720 * d - pP ws nd a b + 41580000 * ws.getD a 0
theorem pP_bound {ws : List Int} {M : Int} {nd : Nd} {a b : Nat} (hw : okW ws) (hok : OkN M nd) (h : Fs ws nd) (ha : a < ws.length) (hb : b < ws.length) (hqa : (nd.fl.getD a f0).t ≠ []) (hqb : (nd.fl.getD b f0).t ≠ []) :
    -(41580000 * ws.getD b 0) ≤ pP ws nd a b ∧ pP ws nd a b ≤ 41580000 * ws.getD a 0 := by
  have key : ∀ j, j < ws.length → (nd.fl.getD j f0).t ≠ [] → nd.t - 1500 * cW ws j ≤ HF (cW ws j) (nd.fl.getD j f0) ∧ HF (cW ws j) (nd.fl.getD j f0) ≤ nd.t := fun j hj hq => by
    have h1 := (h j hj).le
    have h2 := (h j hj).ge hq
    have h3 := (out_chain (h j hj) hq).2
    have h4 := headQ_bound (hok.f j).2.2.1
    have h5 := Int.mul_le_mul_of_nonneg_right h4.2 (cW_nonneg hw hj)
    omega
  have ka := key a ha hqa
  have kb := key b hb hqb
  have hwa := hw.2 a ha
  have hwb := hw.2 b hb
  have da : ws.getD a 0 * cW ws a = 27720 := w_div hwa
  have db : ws.getD b 0 * cW ws b = 27720 := w_div hwb
  have hab : 0 ≤ ws.getD a 0 * ws.getD b 0 := Int.mul_nonneg (by omega) (by omega)
  unfold pP
  generalize HF (cW ws a) (nd.fl.getD a f0) = Ha at *
  generalize HF (cW ws b) (nd.fl.getD b f0) = Hb at *
  generalize cW ws a = ca at *
  generalize cW ws b = cb at *
  generalize ws.getD a 0 = wa at *
  generalize ws.getD b 0 = wb at *
  have h1 := Int.mul_le_mul_of_nonneg_left (show -(1500 * ca) ≤ Ha - Hb by omega) hab
  have h2 := Int.mul_le_mul_of_nonneg_left (show Ha - Hb ≤ 1500 * cb by omega) hab
  have e1 : wa * wb * -(1500 * ca) = -(1500 * (wa * ca) * wb) := by rw [Int.mul_neg]; congr 1; ac_rfl
  have e2 : wa * wb * (1500 * cb) = 1500 * (wb * cb) * wa := by ac_rfl
  rw [e1, da] at h1
  rw [e2, db] at h2
  omega
theorem Gf.start {ws : List Int} {M : Int} {nd : Nd} {a b : Nat} (hw : okW ws) (hok : OkN M nd) (h : Fs ws nd) (ha : a < ws.length) (hb : b < ws.length) (hqa : (nd.fl.getD a f0).t ≠ []) (hqb : (nd.fl.getD b f0).t ≠ []) (d : Int) : Gf ws nd a b d d d := by
  have := pP_bound hw hok h ha hb hqa hqb
  exact ⟨by omega, by omega⟩
theorem Gf.ext {ws : List Int} {M : Int} {nd : Nd} {a b : Nat} {d low high : Int} (hw : okW ws) (hok : OkN M nd) (h : Fs ws nd) (ha : a < ws.length) (hb : b < ws.length) (hqa : (nd.fl.getD a f0).t ≠ []) (hqb : (nd.fl.getD b f0).t ≠ []) (hg : Gf ws nd a b d low high) : Gf ws nd a b d (min low d) (max high d) := by
  have := pP_bound hw hok h ha hb hqa hqb
  have h1 := hg.lo
  have h2 := hg.hi
  exact ⟨by omega, by omega⟩
theorem Gf.fin {ws : List Int} {nd : Nd} {a b : Nat} {d low high : Int} (hg : Gf ws nd a b d low high) : high - low ≤ 1500 * (ws.getD a 0 + ws.getD b 0) := by
  have h1 := hg.lo
  have h2 := hg.hi
  omega
theorem Gf.inn {ws : List Int} {M : Int} {nd : Nd} {a b k : Nat} {x d low high : Int} (hw : okW ws) (hl : nd.fl.length = ws.length) (hok : OkN M nd) (h : Fs ws nd) (hk : k < ws.length) (hx : 1 ≤ x ∧ x ≤ 1500) (hqa : (nd.fl.getD a f0).t ≠ []) (hqb : (nd.fl.getD b f0).t ≠ []) (hg : Gf ws nd a b d low high) : Gf ws (inN ws nd k x) a b d low high := by
  have e : pP ws (inN ws nd k x) a b = pP ws nd a b := by
    unfold pP; rw [HF_in hw hl hok h hk hx a hqa, HF_in hw hl hok h hk hx b hqb]
  exact ⟨by rw [e]; exact hg.lo, by rw [e]; exact hg.hi⟩
theorem Gf.out {ws : List Int} {nd : Nd} {a b k : Nat} {d low high : Int} (hw : okW ws) (hl : nd.fl.length = ws.length) (h : Fs ws nd) (hab : a ≠ b) (ha : a < ws.length) (hb : b < ws.length) (hk : k < ws.length) (hp : Pk nd ws.length k) (hg : Gf ws nd a b d low high) :
    Gf ws (outN nd k) a b (d + (if k = a then headQ (nd.fl.getD k f0).b * ws.getD b 0 else 0) - (if k = b then headQ (nd.fl.getD k f0).b * ws.getD a 0 else 0)) low high := by
  have da : ws.getD a 0 * cW ws a = 27720 := w_div (hw.2 a ha)
  have db : ws.getD b 0 * cW ws b = 27720 := w_div (hw.2 b hb)
  have e : pP ws (outN nd k) a b = pP ws nd a b + 27720 * (if k = a then headQ (nd.fl.getD k f0).b * ws.getD b 0 else 0) - 27720 * (if k = b then headQ (nd.fl.getD k f0).b * ws.getD a 0 else 0) := by
    unfold pP
    rw [HF_out hl h hk hp a, HF_out hl h hk hp b]
    by_cases e1 : k = a
    · have e2 : k ≠ b := by omega
      rw [if_pos e1, if_neg e2, if_pos e1, if_neg e2, e1]
      generalize HF (cW ws a) (nd.fl.getD a f0) = Ha at *
      generalize HF (cW ws b) (nd.fl.getD b f0) = Hb at *
      generalize cW ws a = ca at *
      generalize ws.getD a 0 = wa at *
      generalize ws.getD b 0 = wb at *
      generalize headQ (nd.fl.getD a f0).b = x at *
      rw [show Ha + x * ca - (Hb + 0) = (Ha - Hb) + x * ca by omega, Int.mul_add, ← da, show wa * wb * (x * ca) = wa * ca * (x * wb) by ac_rfl]
      omega
    · by_cases e2 : k = b
      · rw [if_neg e1, if_pos e2, if_neg e1, if_pos e2, e2]
        generalize HF (cW ws a) (nd.fl.getD a f0) = Ha at *
        generalize HF (cW ws b) (nd.fl.getD b f0) = Hb at *
        generalize cW ws b = cb at *
        generalize ws.getD a 0 = wa at *
        generalize ws.getD b 0 = wb at *
        generalize headQ (nd.fl.getD b f0).b = x at *
        rw [show Ha + 0 - (Hb + x * cb) = (Ha - Hb) - x * cb by omega, Int.mul_sub, ← db, show wa * wb * (x * cb) = wb * cb * (x * wa) by ac_rfl]
        omega
      · rw [if_neg e1, if_neg e2, if_neg e1, if_neg e2, Int.add_zero, Int.add_zero]; omega
  have h1 := hg.lo
  have h2 := hg.hi
  exact ⟨by rw [e]; omega, by rw [e]; omega⟩
theorem step_pre (ws : List Int) (r : Rn) (o : Op) (hl : r.nd.fl.length = ws.length) : ∃ e s, (stepR ws r o).errs = r.errs ++ e ∧ (stepR ws r o).sent = r.sent ++ s := by
  rcases step_cases (ws := ws) o hl with ⟨e, _, h, _⟩ | ⟨_, k, hk, _, h1, h2, h⟩ | ⟨_, k, hk, _, hp, h⟩
  · rw [h]; exact ⟨[e], [], rfl, by simp⟩
  · rw [h]; exact ⟨[0], [], rfl, by simp⟩
  · rw [h]; exact ⟨[0], _, rfl, rfl⟩
theorem run_pre (ws : List Int) (l : List Op) (i : Nat) : ∀ j, i + j ≤ l.length → ∃ e s, (runR ws (l.take (i + j))).errs = (runR ws (l.take i)).errs ++ e ∧ (runR ws (l.take (i + j))).sent = (runR ws (l.take i)).sent ++ s
  | 0, _ => ⟨[], [], by simp, by simp⟩
  | j + 1, h => by
    obtain ⟨e, s, h1, h2⟩ := run_pre ws l i j (by omega)
    obtain ⟨e', s', h3, h4⟩ := step_pre ws (runR ws (l.take (i + j))) (l.getD (i + j) o0) (run_lens ws _).2.2
    rw [← Nat.add_assoc, run_snoc_at ws l (i + j) (by omega), h3, h4, h1, h2]
    exact ⟨e ++ e', s ++ s', by simp, by simp⟩
/-- What the law meets in its i-th round. -/
theorem run_at {ws : List Int} (hw : okW ws) (l : List Op) (i : Nat) (hi : i < l.length) :
    (∃ e, e ≠ 0 ∧ (runR ws l).errs.getD i 0 = e ∧ (runR ws (l.take (i + 1))).nd = (runR ws (l.take i)).nd ∧ (runR ws (l.take (i + 1))).sent = (runR ws (l.take i)).sent) ∨
    (∃ k : Nat, (l.getD i o0).k = 1 ∧ k < ws.length ∧ (l.getD i o0).f = k ∧ 1 ≤ (l.getD i o0).b ∧ (l.getD i o0).b ≤ 1500 ∧ (runR ws l).errs.getD i 0 = 0 ∧ (runR ws (l.take (i + 1))).nd = inN ws (runR ws (l.take i)).nd k (l.getD i o0).b ∧ (runR ws (l.take (i + 1))).sent = (runR ws (l.take i)).sent) ∨
    (∃ k : Nat, (l.getD i o0).k = 2 ∧ k < ws.length ∧ Pk (runR ws (l.take i)).nd ws.length k ∧ (runR ws l).errs.getD i 0 = 0 ∧ (runR ws (l.take (i + 1))).nd = outN (runR ws (l.take i)).nd k ∧ (runR ws (l.take (i + 1))).sent = (runR ws (l.take i)).sent ++ [⟨k, headQ ((runR ws (l.take i)).nd.fl.getD k f0).b⟩] ∧
      (runR ws (l.take i)).sent.length < (runR ws l).sent.length ∧ (runR ws l).sent.getD (runR ws (l.take i)).sent.length s0 = ⟨k, headQ ((runR ws (l.take i)).nd.fl.getD k f0).b⟩) := by
  have hok := run_okN hw l i (by omega)
  have hl := run_lens ws (l.take i)
  have hli : (runR ws (l.take i)).errs.length = i := by rw [hl.1, List.length_take]; omega
  obtain ⟨e1, s1, hp1, hp2⟩ := run_pre ws l (i + 1) (l.length - (i + 1)) (by omega)
  rw [show i + 1 + (l.length - (i + 1)) = l.length by omega, List.take_length] at hp1 hp2
  rw [hp1, hp2]
  have hs := run_snoc_at ws l i hi
  rw [hs]
  have hge : ∀ e, ((runR ws (l.take i)).errs ++ [e] ++ e1).getD i 0 = e := fun e => by
    rw [List.getD_eq_getElem?_getD, List.getElem?_append_left (by simp; omega), List.getElem?_append_right (by omega), hli]; simp
  have hgs : ∀ s, ((runR ws (l.take i)).sent ++ [s] ++ s1).getD (runR ws (l.take i)).sent.length s0 = s := fun s => by
    rw [List.getD_eq_getElem?_getD, List.getElem?_append_left (by simp), List.getElem?_append_right (by omega), Nat.sub_self]; rfl
  rcases step_cases (ws := ws) (l.getD i o0) hl.2.2 with ⟨e, he, h, _⟩ | ⟨ho, k, hk, hf, h1, h2, h⟩ | ⟨ho, k, hk, _, hp, h⟩
  · rw [h]; exact .inl ⟨e, he, hge e, rfl, rfl⟩
  · rw [h]; exact .inr (.inl ⟨k, ho, hk, hf, h1, h2, hge 0, rfl, rfl⟩)
  · rw [h]; exact .inr (.inr ⟨k, ho, hk, hp, hge 0, rfl, rfl, by simp, hgs _⟩)
end Go.Proofs.Ytddoegbgnmdfhaa
