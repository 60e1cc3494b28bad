import Derived.Test.YtmbcgelfnbnicaaDoorGpSteps
import Derived.Test.YtmbcgelfnbnicaaDoorWqPlain
/- the plain law: packets follow what flows -/
set_option linter.unusedVariables false
namespace Go.Proofs.YtmbcgelfnbnicaaDoor
open Gp Wq

/-! ## When two are done side by side -/

theorem term_tie {n v m w n' v' : Int} (hv : 0 ≤ v) (hv' : 0 ≤ v') (e : n * v' = n' * v) : term n v m w * v' = term n' v' m w * v := by
  have mm : ∀ (a b c : Int), 0 ≤ c → min a b * c = min (a * c) (b * c) := fun a b c hc => by
    by_cases h : a ≤ b
    · rw [Int.min_eq_left h, Int.min_eq_left (Int.mul_le_mul_of_nonneg_right h hc)]
    · rw [Int.min_eq_right (by omega), Int.min_eq_right (Int.mul_le_mul_of_nonneg_right (by omega) hc)]
  unfold term
  rw [mm _ _ _ hv', mm _ _ _ hv]
  congr 1
  · rw [Int.mul_assoc, Int.mul_assoc, Int.mul_comm v v']
  · rw [Int.mul_right_comm, e, Int.mul_right_comm]
theorem endR_tie {n v n' v' : Int} {bs ws : List Int} (hv : 0 ≤ v) (hv' : 0 ≤ v') (e : n * v' = n' * v) : ∀ i, endR n v bs ws i * v' = endR n' v' bs ws i * v
  | 0 => by simp [endR]
  | i + 1 => by
    simp only [endR, Int.add_mul]
    rw [endR_tie hv hv' e i, term_tie hv hv' e]
/-- Who is done first: by bytes through weights. -/
theorem cfO_lt {bs ws : List Int} (h : okB bs ws) {i k : Nat} (hi : i < bs.length) (hk : k < bs.length) (hl : bs.getD i 0 * ws.getD k 0 < bs.getD k 0 * ws.getD i 0) : cfO bs ws i k < 0 := by
  have := fun he => ratio h hk hi he
  unfold cfO
  simp only [Int.toNat_natCast]
  by_cases hn : endK bs ws k * ws.getD i 0 ≤ endK bs ws i * ws.getD k 0
  · have := this hn; omega
  · omega
theorem cfO_tie {bs ws : List Int} (h : okB bs ws) {i k : Nat} (hi : i < bs.length) (hk : k < bs.length) (hl : bs.getD i 0 * ws.getD k 0 = bs.getD k 0 * ws.getD i 0) : cfO bs ws i k = 0 := by
  have := endR_tie (bs := bs) (ws := ws) (h.w0 i) (h.w0 k) hl bs.length
  unfold cfO
  simp only [Int.toNat_natCast]
  show endR _ _ bs ws bs.length * _ - endR _ _ bs ws bs.length * _ = 0
  omega
/-- The key: bytes times what of 27720 the weight is. -/
def key (bs ws : List Int) (k : Nat) : Int := bs.getD k 0 * (27720 / ws.getD k 0)
theorem w_div {w : Int} (h : 1 ≤ w ∧ w ≤ 12) : 27720 / w * w = 27720 := by
  have : w = 1 ∨ w = 2 ∨ w = 3 ∨ w = 4 ∨ w = 5 ∨ w = 6 ∨ w = 7 ∨ w = 8 ∨ w = 9 ∨ w = 10 ∨ w = 11 ∨ w = 12 := by omega
  rcases this with rfl | rfl | rfl | rfl | rfl | rfl | rfl | rfl | rfl | rfl | rfl | rfl <;> rfl
theorem key_mul {bs ws : List Int} {i k : Nat} (hi : 1 ≤ ws.getD i 0 ∧ ws.getD i 0 ≤ 12) : key bs ws i * (ws.getD i 0 * ws.getD k 0) = bs.getD i 0 * ws.getD k 0 * 27720 := by
  unfold key
  have := w_div hi
  calc bs.getD i 0 * (27720 / ws.getD i 0) * (ws.getD i 0 * ws.getD k 0) = bs.getD i 0 * ws.getD k 0 * (27720 / ws.getD i 0 * ws.getD i 0) := by
        rw [Int.mul_assoc, Int.mul_assoc, ← Int.mul_assoc (27720 / ws.getD i 0), Int.mul_comm (27720 / ws.getD i 0 * ws.getD i 0)]
    _ = _ := by rw [this]
theorem key_lt {bs ws : List Int} {i k : Nat} (hi : 1 ≤ ws.getD i 0 ∧ ws.getD i 0 ≤ 12) (hk : 1 ≤ ws.getD k 0 ∧ ws.getD k 0 ≤ 12) : key bs ws i < key bs ws k ↔ bs.getD i 0 * ws.getD k 0 < bs.getD k 0 * ws.getD i 0 := by
  have e1 := key_mul (bs := bs) (k := k) hi
  have e2 := key_mul (bs := bs) (k := i) hk
  rw [Int.mul_comm (ws.getD k 0) (ws.getD i 0)] at e2
  have hp : 0 < ws.getD i 0 * ws.getD k 0 := Int.mul_pos (by omega) (by omega)
  rw [← Int.mul_lt_mul_right hp, e1, e2]
  omega
theorem key_eq {bs ws : List Int} {i k : Nat} (hi : 1 ≤ ws.getD i 0 ∧ ws.getD i 0 ≤ 12) (hk : 1 ≤ ws.getD k 0 ∧ ws.getD k 0 ≤ 12) (e : key bs ws i = key bs ws k) : bs.getD i 0 * ws.getD k 0 = bs.getD k 0 * ws.getD i 0 := by
  have h1 := key_lt (bs := bs) hi hk
  have h2 := key_lt (bs := bs) hk hi
  omega
structure Fl (bs ws o : List Int) : Prop where
  ok : okB bs ws
  w : ∀ k, k < ws.length → 1 ≤ ws.getD k 0 ∧ ws.getD k 0 ≤ 12
  b : ∀ k, k < bs.length → 1 ≤ bs.getD k 0 ∧ bs.getD k 0 ≤ 1500
  sort : Sorts (ltO bs ws) (rng bs.length) o
  tied : Tied (cfO bs ws) o
variable {bs ws o : List Int}
theorem Fl.len (h : Fl bs ws o) : o.length = bs.length := by rw [h.sort.1.length_eq, rng_len]
theorem Fl.mem (h : Fl bs ws o) {s : Nat} (hs : s < bs.length) : ∃ k : Nat, k < bs.length ∧ o.getD s 0 = k := by
  have : o.getD s 0 ∈ o := by rw [List.getD_eq_getElem?_getD, List.getElem?_eq_getElem (by rw [h.len]; exact hs)]; exact List.getElem_mem _
  have := rng_mem (h.sort.1.mem_iff.1 this)
  unfold DO at this
  exact ⟨(o.getD s 0).toNat, by omega, by omega⟩
/-- The order, by keys; of like keys, by place. -/
theorem Fl.order (h : Fl bs ws o) {p q : Nat} (hpq : p < q) (hq : q < bs.length) {i k : Nat} (hi : o.getD p 0 = i) (hk : o.getD q 0 = k) (hib : i < bs.length) (hkb : k < bs.length) : key bs ws i < key bs ws k ∨ (key bs ws i = key bs ws k ∧ i < k) := by
  have hwi := h.w i (by rw [← h.ok.1]; exact hib)
  have hwk := h.w k (by rw [← h.ok.1]; exact hkb)
  have hs := h.sort.2 p q hpq (by rw [h.len]; exact hq)
  rw [hi, hk] at hs
  unfold ltO at hs
  have hs : ¬ cfO bs ws k i < 0 := by simpa using hs
  by_cases h1 : key bs ws k < key bs ws i
  · exact absurd (cfO_lt h.ok hkb hib ((key_lt hwk hwi).1 h1)) hs
  · by_cases h2 : key bs ws i < key bs ws k
    · exact .inl h2
    · have e : key bs ws i = key bs ws k := by omega
      have ht := h.tied p q hpq (by rw [h.len]; exact hq)
      rw [hi, hk] at ht
      have := ht (cfO_tie h.ok hib hkb (key_eq hwi hwk e))
      exact .inr ⟨e, by omega⟩

/-! ## What the row does -/

/-- Of the first i flows the one that is done first, and of these the first. -/
theorem bestN_first (fl : List Fq) (t : Int) : ∀ (i k : Nat), bestN fl t i = k → ∀ j, j < i → (fl.getD j f0).q ≠ [] → (fl.getD j f0).b ≤ t → (fl.getD k f0).u < (fl.getD j f0).u ∨ ((fl.getD k f0).u = (fl.getD j f0).u ∧ k ≤ j)
  | 0, k, _, j, hj, _, _ => by omega
  | i + 1, k, hk, j, hj, hq, hb => by
    unfold bestN at hk
    split at hk
    · rename_i hc
      obtain rfl : i = k := by omega
      by_cases e : j = i
      · subst e; exact .inr ⟨rfl, Nat.le_refl _⟩
      · rcases bestN_cases fl t i with ⟨h1, h2⟩ | ⟨k', h1, h2, h3, h4⟩
        · rcases h2 j (by omega) with h | h
          · exact absurd h hq
          · omega
        · have := bestN_first fl t i k' h4 j (by omega) hq hb
          rw [h4] at hc
          simp only [Int.toNat_natCast] at hc
          rcases hc.2 with h | h <;> omega
    · rename_i hc
      by_cases e : j = i
      · subst e
        have : ¬ (bestN fl t j < 0 ∨ (fl.getD j f0).u < (fl.getD (bestN fl t j).toNat f0).u) := fun h => hc ⟨⟨hq, hb⟩, h⟩
        rw [hk] at this
        simp only [Int.toNat_natCast] at this
        rcases bestN_cases fl t j with ⟨h1, _⟩ | ⟨k', h1, h2, h3, h4⟩
        · omega
        · have : k' = k := by omega
          omega
      · exact bestN_first fl t i k hk j (by omega) hq hb
def uK (bs ws : List Int) (k : Nat) : Int := key bs ws k * ws.sum
def flW (bs ws : List Int) (k : Nat) : Fq := ⟨[bs.getD k 0], 0, uK bs ws k⟩
def flD (bs ws : List Int) (k : Nat) : Fq := ⟨[], 0, uK bs ws k⟩
/-- Some have come. -/
def flI (bs ws : List Int) (i : Nat) : List Fq := (List.range ws.length).map fun k : Nat => if k < i then flW bs ws k else f0
/-- Some have gone. -/
def flO (bs ws o : List Int) (i : Nat) : List Fq := (List.range ws.length).map fun k : Nat => if (k : Int) ∈ o.take i then flD bs ws k else flW bs ws k
theorem mapR_get {f : Nat → Fq} {n k : Nat} (h : k < n) : ((List.range n).map f).getD k f0 = f k := by simp [h]
theorem mapR_set {f g : Nat → Fq} {n k : Nat} {x : Fq} (hx : k < n → g k = x) (hg : ∀ j, j < n → j ≠ k → g j = f j) : ((List.range n).map f).set k x = (List.range n).map g := by
  apply List.ext_getElem
  · simp
  · intro j h1 h2
    simp at h1 h2
    rw [List.getElem_set]
    by_cases e : k = j
    · subst e; rw [if_pos rfl]; simp [hx h1]
    · rw [if_neg e]; simp [hg j h1 (fun x => e x.symm)]
def opsI (bs : List Int) (i : Nat) : List Op := (List.range i).map fun k : Nat => ⟨1, (k : Int), bs.getD k 0⟩
def opsIO (bs : List Int) (i : Nat) : List Op := opsI bs bs.length ++ List.replicate i ⟨2, 0, 0⟩
theorem opsI_len (bs : List Int) (i : Nat) : (opsI bs i).length = i := by simp [opsI]
theorem opsIO_len (bs : List Int) (i : Nat) : (opsIO bs i).length = bs.length + i := by simp [opsIO, opsI]
theorem opsI_succ (bs : List Int) (i : Nat) : opsI bs (i + 1) = opsI bs i ++ [⟨1, (i : Int), bs.getD i 0⟩] := by simp [opsI, List.range_succ]
theorem opsIO_succ (bs : List Int) (i : Nat) : opsIO bs (i + 1) = opsIO bs i ++ [⟨2, 0, 0⟩] := by
  unfold opsIO; rw [List.replicate_succ', List.append_assoc]
theorem Fl.ins (h : Fl bs ws o) : ∀ i, i ≤ bs.length → (runR ws ws.sum (opsI bs i)).sent = [] ∧ (runR ws ws.sum (opsI bs i)).nd = ⟨flI bs ws i, 0⟩
  | 0, _ => by
    refine ⟨rfl, ?_⟩
    show (⟨List.replicate ws.length f0, 0⟩ : Nd) = _
    congr 1
    unfold flI
    simp only [Nat.not_lt_zero, if_false]
    rw [List.map_const', List.length_range]
  | i + 1, hi => by
    obtain ⟨h1, h2⟩ := h.ins i (by omega)
    have hl := h.ok.1
    have hb := h.b i (by omega)
    rw [opsI_succ, runR_snoc, step_in rfl (by simp only; omega) (by simp only; omega)]
    refine ⟨h1, ?_⟩
    simp only [Int.toNat_natCast, h2]
    unfold inN
    simp only
    have e0 : (flI bs ws i).getD i f0 = f0 := by
      unfold flI; rw [mapR_get (by omega), if_neg (by omega)]
    rw [e0]
    congr 1
    unfold flI
    refine mapR_set (fun _ => ?_) fun j hj hne => ?_
    · rw [if_pos (by omega), if_pos (show f0.q = [] from rfl)]
      unfold headF flW uK key f0 headQ
      simp
    · by_cases hj2 : j < i
      · rw [if_pos hj2, if_pos (by omega)]
      · rw [if_neg hj2, if_neg (by omega)]
theorem Fl.outs (h : Fl bs ws o) : ∀ i, i ≤ bs.length → (runR ws ws.sum (opsIO bs i)).sent.map S.f = o.take i ∧ (runR ws ws.sum (opsIO bs i)).nd.fl = flO bs ws o i ∧ 0 ≤ (runR ws ws.sum (opsIO bs i)).nd.t
  | 0, _ => by
    obtain ⟨h1, h2⟩ := h.ins bs.length (Nat.le_refl _)
    have e : opsIO bs 0 = opsI bs bs.length := by simp [opsIO]
    rw [e, h1, h2]
    refine ⟨rfl, ?_, Int.le_refl _⟩
    unfold flI flO
    refine List.map_congr_left fun k hk => ?_
    have := List.mem_range.1 hk
    rw [if_pos (by rw [h.ok.1]; exact this), if_neg (by simp)]
  | i + 1, hi => by
    obtain ⟨h1, h2, h3⟩ := h.outs i (by omega)
    have hl := h.ok.1
    obtain ⟨k, hkb, hk⟩ := h.mem (s := i) (by omega)
    have hol := h.len
    have hnod : o.Nodup := h.sort.1.nodup_iff.2 (by
      unfold rng
      rw [List.nodup_iff_pairwise_ne, List.pairwise_map]
      exact (List.pairwise_lt_range (n := bs.length)).imp (fun {a b} e => by omega))
    have hget : ∀ j, j < bs.length → o.getD j 0 = o[j]?.getD 0 := fun j _ => by rw [List.getD_eq_getElem?_getD]
    -- not yet gone
    have hkn : ¬ (k : Int) ∈ o.take i := fun hm => by
      obtain ⟨p, hp, hpe⟩ := List.getElem_of_mem hm
      have hp' : p < i := by simp at hp; omega
      rw [List.getElem_take] at hpe
      have : o[p]'(by omega) = o[i]'(by omega) := by
        rw [hpe, ← hk, List.getD_eq_getElem?_getD, List.getElem?_eq_getElem (by omega : i < o.length)]; rfl
      have := (List.getElem_inj hnod).1 this
      omega
    have htk : o.take (i + 1) = o.take i ++ [(k : Int)] := by
      rw [List.take_add_one, List.getElem?_eq_getElem (by omega : i < o.length)]
      have : o[i]'(by omega) = (k : Int) := by rw [← hk, List.getD_eq_getElem?_getD, List.getElem?_eq_getElem (by omega : i < o.length)]; rfl
      rw [this]; rfl
    rw [opsIO_succ, runR_snoc]
    generalize runR ws ws.sum (opsIO bs i) = r at *
    obtain ⟨re, rs, ⟨fl, t⟩⟩ := r
    simp only at h1 h2 h3
    subst h2
    have hfg : ∀ j, j < ws.length → (flO bs ws o i).getD j f0 = if (j : Int) ∈ o.take i then flD bs ws j else flW bs ws j := fun j hj => by unfold flO; rw [mapR_get hj]
    have hfb : ∀ j, ((flO bs ws o i).getD j f0).b = 0 := fun j => by
      by_cases hj : j < ws.length
      · rw [hfg j hj]; split <;> rfl
      · rw [List.getD_eq_getElem?_getD, List.getElem?_eq_none (by unfold flO; simp; omega)]; rfl
    have hfl : (flO bs ws o i).length = ws.length := by unfold flO; simp
    have hfk : (flO bs ws o i).getD k f0 = flW bs ws k := by rw [hfg k (by omega), if_neg hkn]
    have hleast := leastN_le (flO bs ws o i) ws.length (fun j => by rw [hfb]; exact Int.le_refl _) k (by omega) (by rw [hfk]; simp [flW])
    rw [hfb] at hleast
    have hl0 : leastN (flO bs ws o i) ws.length = 0 := by omega
    have hT : pickT ⟨flO bs ws o i, t⟩ = t := by
      unfold pickT; simp only [hfl, hl0]; rw [if_neg (by omega)]; omega
    have hbest : bestN (flO bs ws o i) t ws.length = k := by
      rcases bestN_cases (flO bs ws o i) t ws.length with ⟨b1, b2⟩ | ⟨m, b1, b2, b3, b4⟩
      · rcases b2 k (by omega) with b | b
        · rw [hfk] at b; simp [flW] at b
        · rw [hfb] at b; omega
      · have hf := bestN_first (flO bs ws o i) t ws.length m b4 k (by omega) (by rw [hfk]; simp [flW]) (by rw [hfb]; exact h3)
        rw [b4]
        by_cases hmk : m = k
        · rw [hmk]
        · exfalso
          rw [hfk, hfg m b1] at hf
          rw [hfg m b1] at b2
          by_cases hm : (m : Int) ∈ o.take i
          · rw [if_pos hm] at b2; exact b2 rfl
          · rw [if_neg hm] at hf
            -- m comes later
            have hmo : (m : Int) ∈ o := h.sort.1.mem_iff.2 (by unfold rng; exact List.mem_map.2 ⟨m, List.mem_range.2 (by omega), rfl⟩)
            obtain ⟨q, hq, hqe⟩ := List.getElem_of_mem hmo
            have hqi : i < q := by
              apply Classical.byContradiction
              intro hn
              by_cases e : q = i
              · subst e
                have : o.getD q 0 = (m : Int) := by rw [List.getD_eq_getElem?_getD, List.getElem?_eq_getElem hq, hqe]; rfl
                omega
              · refine hm ?_
                rw [← hqe]
                exact List.mem_iff_getElem.2 ⟨q, by simp; omega, by rw [List.getElem_take]⟩
            have hqg : o.getD q 0 = (m : Int) := by rw [List.getD_eq_getElem?_getD, List.getElem?_eq_getElem hq, hqe]; rfl
            have ho := h.order hqi (by omega) hk hqg hkb (by omega)
            have hS : 0 < ws.sum := by
              have : ∀ (l : List Int), (∀ x ∈ l, 1 ≤ x) → l ≠ [] → 0 < l.sum := fun l => by
                induction l with
                | nil => intro _ h; exact absurd rfl h
                | cons a l ih =>
                  intro hx _
                  have ha := hx a (by simp)
                  by_cases hl : l = []
                  · subst hl; simp; omega
                  · have := ih (fun y hy => hx y (by simp [hy])) hl
                    simp; omega
              refine this ws (fun x hx => ?_) (fun e => by rw [e] at b1; simp at b1)
              obtain ⟨p, hp, hpe⟩ := List.getElem_of_mem hx
              have := h.w p hp
              rw [List.getD_eq_getElem?_getD, List.getElem?_eq_getElem hp] at this
              simp only [Option.getD_some, hpe] at this
              exact this.1
            unfold flW uK at hf
            simp only at hf
            rcases hf with hf | ⟨hf, hle⟩
            · rw [Int.mul_lt_mul_right hS] at hf
              omega
            · have : key bs ws m = key bs ws k := Int.eq_of_mul_eq_mul_right (by omega) hf
              omega
    have hP : pickK ⟨flO bs ws o i, t⟩ = k := by
      unfold pickK; simp only [hfl, hl0]; rw [if_neg (by omega), hT]; exact hbest
    rw [step_out rfl (by rw [hP]; omega)]
    simp only [hP, Int.toNat_natCast]
    refine ⟨?_, ?_, ?_⟩
    · rw [htk, ← h1]; simp
    · unfold outN
      simp only [hfk]
      rw [show tailF ws ws.sum k (flW bs ws k) = flD bs ws k by unfold tailF flW flD; simp]
      unfold flO
      refine mapR_set (fun _ => ?_) fun j hj hne => ?_
      · rw [htk, if_pos (by simp)]
      · rw [htk]
        by_cases hm : (j : Int) ∈ o.take i
        · rw [if_pos (by simp [hm]), if_pos hm]
        · rw [if_neg hm, if_neg (by simp [hm]; omega)]
    · unfold outN
      simp only [hT, hfk]
      have := h.b k hkb
      unfold flW headQ
      simp only
      omega
theorem Fl.sent (h : Fl bs ws o) : (runR ws ws.sum (opsIO bs bs.length)).sent.map S.f = o := by
  rw [(h.outs bs.length (Nat.le_refl _)).1, ← h.len, List.take_length]
end Go.Proofs.YtmbcgelfnbnicaaDoor
