import Derived.Test.YtcocblbfgjjlbaaGreatDoorBase
import Derived.Test.YtcocblbfgjjlbaaGreatDoorLib
set_option linter.unusedVariables false
namespace Go.Proofs.YtcocblbfgjjlbaaGreatDoor.Hm
/- Heads of packets as bytes: the plain law. -/

def foldZ (n : Int) : Int := if n = 0 then 0 else (n - 1) % 65535 + 1
def sumP : List Int → Int
  | [] => 0
  | [a] => a * 256
  | a :: b :: r => a * 256 + b + sumP r
theorem foldZ_low {n : Int} (h0 : 0 ≤ n) (h1 : n ≤ 65535) : foldZ n = n := by unfold foldZ; split <;> omega
theorem foldZ_step {n : Int} (h : 65535 < n) : foldZ (n / 65536 + n % 65536) = foldZ n := by unfold foldZ; split <;> split <;> omega
theorem foldZ_range (n : Int) : 0 ≤ foldZ n ∧ foldZ n ≤ 65535 := by unfold foldZ; split <;> omega
theorem foldZ_full {n : Int} (h : 0 < n) : foldZ n = 65535 ↔ n % 65535 = 0 := by unfold foldZ; split <;> omega
def byteL (b : List Int) : Prop := ∀ x ∈ b, 0 ≤ x ∧ x ≤ 255
theorem byteL.getD {b : List Int} (h : byteL b) (i : Nat) : 0 ≤ b.getD i 0 ∧ b.getD i 0 ≤ 255 := by
  rw [List.getD_eq_getElem?_getD]
  by_cases hi : i < b.length
  · rw [List.getElem?_eq_getElem hi]; exact h _ (List.getElem_mem hi)
  · rw [List.getElem?_eq_none (by omega)]; simp
theorem sumP_range : ∀ (b : List Int), byteL b → 0 ≤ sumP b ∧ sumP b ≤ 65535 * b.length
  | [], _ => by simp [sumP]
  | [a], h => by have := h a (by simp); simp [sumP]; omega
  | a :: b :: r, h => by
    have h1 := h a (by simp)
    have h2 := h b (by simp)
    have h3 := sumP_range r (fun x hx => h x (by simp [hx]))
    simp only [sumP, List.length_cons]; omega
theorem sumP_drop (b : List Int) (i : Nat) (h : i < b.length) : sumP (b.drop i) = b.getD i 0 * 256 + (if i + 1 < b.length then b.getD (i + 1) 0 else 0) + sumP (b.drop (i + 2)) := by
  rw [List.drop_eq_getElem_cons h]
  by_cases h2 : i + 1 < b.length
  · rw [List.drop_eq_getElem_cons h2, if_pos h2]
    simp [sumP, h, h2]
  · rw [if_neg h2, List.drop_eq_nil_of_le (by omega), List.drop_eq_nil_of_le (by omega)]
    simp [sumP, h]
theorem byteL.take {b : List Int} (h : byteL b) (n : Nat) : byteL (b.take n) := fun x hx => h x (List.mem_of_mem_take hx)

/-- A head. -/
structure Hd where
  s0 : Int
  s1 : Int
  s2 : Int
  s3 : Int
  d0 : Int
  d1 : Int
  d2 : Int
  d3 : Int
  proto : Int
  sp : Int
  dp : Int
  len : Int
  mark : Int
  deriving DecidableEq
def Hd.zero : Hd := ⟨0, 0, 0, 0, 0, 0, 0, 0, 0, 0, 0, 0, 0⟩
def Hd.ok (h : Hd) : Prop := (0 ≤ h.s0 ∧ h.s0 ≤ 255) ∧ (0 ≤ h.s1 ∧ h.s1 ≤ 255) ∧ (0 ≤ h.s2 ∧ h.s2 ≤ 255) ∧ (0 ≤ h.s3 ∧ h.s3 ≤ 255) ∧ (0 ≤ h.d0 ∧ h.d0 ≤ 255) ∧ (0 ≤ h.d1 ∧ h.d1 ≤ 255) ∧ (0 ≤ h.d2 ∧ h.d2 ≤ 255) ∧ (0 ≤ h.d3 ∧ h.d3 ≤ 255)
/-- Has it ports? -/
def ported (p : Int) : Prop := p = 6 ∨ p = 17
instance (p : Int) : Decidable (ported p) := by unfold ported; infer_instance
def wrongR (h : Hd) : Prop := h.proto < 0 ∨ 255 < h.proto ∨ h.mark < 0 ∨ 63 < h.mark ∨ ¬ (0 ≤ h.sp ∧ h.sp ≤ 65535) ∨ ¬ (0 ≤ h.dp ∧ h.dp ≤ 65535)
def wrongF (h : Hd) : Prop := ¬ ported h.proto ∧ (0 < h.sp ∨ 0 < h.dp)
def wrongL (h : Hd) : Prop := 65535 < h.len ∨ (ported h.proto ∧ h.len < 24) ∨ h.len < 20
instance (h : Hd) : Decidable (wrongR h) := by unfold wrongR; infer_instance
instance (h : Hd) : Decidable (wrongF h) := by unfold wrongF; infer_instance
instance (h : Hd) : Decidable (wrongL h) := by unfold wrongL; infer_instance
def wrongN (h : Hd) : Int := if wrongR h then 2 else if wrongF h then 1 else if wrongL h then 2 else 0
theorem wrongN_zero {h : Hd} (h1 : ¬ wrongR h) (h2 : ¬ wrongF h) (h3 : ¬ wrongL h) : wrongN h = 0 := by unfold wrongN; rw [if_neg h1, if_neg h2, if_neg h3]
structure Hd.Fine (h : Hd) : Prop where
  ok : h.ok
  proto : 0 ≤ h.proto ∧ h.proto ≤ 255
  mark : 0 ≤ h.mark ∧ h.mark ≤ 63
  sp : 0 ≤ h.sp ∧ h.sp ≤ 65535
  dp : 0 ≤ h.dp ∧ h.dp ≤ 65535
  no : ¬ ported h.proto → h.sp = 0 ∧ h.dp = 0
  len : 20 ≤ h.len ∧ h.len ≤ 65535
  len2 : ported h.proto → 24 ≤ h.len
theorem Hd.fine {h : Hd} (ho : h.ok) (hw : wrongN h = 0) : h.Fine := by
  unfold wrongN at hw
  split at hw
  · omega
  · rename_i h1
    split at hw
    · omega
    · rename_i h2
      split at hw
      · omega
      · rename_i h3
        unfold wrongR at h1
        unfold wrongF at h2
        unfold wrongL at h3
        by_cases hp : ported h.proto
        · exact ⟨ho, by omega, by omega, by omega, by omega, fun h => absurd hp h, by omega, fun _ => by
            refine Classical.byContradiction fun hn => h3 (.inr (.inl ⟨hp, by omega⟩))⟩
        · refine ⟨ho, by omega, by omega, by omega, by omega, fun _ => ?_, by omega, fun h => absurd h hp⟩
          have : ¬ (0 < h.sp ∨ 0 < h.dp) := fun h => h2 ⟨hp, h⟩
          omega
/-- The first twenty bytes, with that check. -/
def hd20 (h : Hd) (c : Int) : List Int := [69, h.mark * 4, h.len / 256, h.len % 256, 0, 0, 0, 0, 64, h.proto, c / 256, c % 256, h.s0, h.s1, h.s2, h.s3, h.d0, h.d1, h.d2, h.d3]
def chk (h : Hd) : Int := 65535 - foldZ (sumP (hd20 h 0))
def tailB (h : Hd) : List Int := if ported h.proto then [h.sp / 256, h.sp % 256, h.dp / 256, h.dp % 256] ++ List.replicate (h.len.toNat - 24) 0 else List.replicate (h.len.toNat - 20) 0
def bytesH (h : Hd) : List Int := hd20 h (chk h) ++ tailB h
theorem hd20_len (h : Hd) (c : Int) : (hd20 h c).length = 20 := rfl
theorem bytesH_len {h : Hd} (hf : h.Fine) : (bytesH h).length = h.len.toNat := by
  have h1 := hf.len
  unfold bytesH tailB
  split
  · rename_i hp
    have := hf.len2 hp
    simp [hd20]; omega
  · simp [hd20]; omega
theorem hd20_sum (h : Hd) (c : Int) : sumP (hd20 h c) = sumP (hd20 h 0) + c := by
  simp only [hd20, sumP]
  omega
theorem hd20_byte {h : Hd} (hf : h.Fine) {c : Int} (hc : 0 ≤ c ∧ c ≤ 65535) : byteL (hd20 h c) := by
  obtain ⟨⟨a0, a1, a2, a3, a4, a5, a6, a7⟩, hp, hm, _, _, _, hl, _⟩ := hf
  intro x hx
  simp only [hd20, List.mem_cons, List.not_mem_nil, or_false] at hx
  rcases hx with rfl | rfl | rfl | rfl | rfl | rfl | rfl | rfl | rfl | rfl | rfl | rfl | rfl | rfl | rfl | rfl | rfl | rfl | rfl | rfl <;> first | omega | assumption
theorem chk_range (h : Hd) : 0 ≤ chk h ∧ chk h ≤ 65535 := by have := foldZ_range (sumP (hd20 h 0)); unfold chk; omega
theorem sum_pos {h : Hd} (hf : h.Fine) : 0 < sumP (hd20 h 0) := by
  obtain ⟨⟨a0, a1, a2, a3, a4, a5, a6, a7⟩, hp, hm, _, _, _, hl, _⟩ := hf
  simp only [hd20, sumP]
  omega
theorem chk_sum {h : Hd} (hf : h.Fine) : sumP (hd20 h (chk h)) % 65535 = 0 := by
  rw [hd20_sum]
  have hp := sum_pos hf
  unfold chk foldZ
  rw [if_neg (by omega)]
  omega
theorem bytesH_byte {h : Hd} (hf : h.Fine) : byteL (bytesH h) := by
  have h1 := hd20_byte hf (chk_range h)
  have hsp := hf.sp
  have hdp := hf.dp
  intro x hx
  unfold bytesH tailB at hx
  rcases List.mem_append.1 hx with hx | hx
  · exact h1 x hx
  · split at hx
    · rcases List.mem_append.1 hx with hx | hx
      · simp only [List.mem_cons, List.not_mem_nil, or_false] at hx
        rcases hx with rfl | rfl | rfl | rfl <;> omega
      · rw [List.eq_of_mem_replicate hx]; omega
    · rw [List.eq_of_mem_replicate hx]; omega

/-! What is read. -/
def two (b : List Int) (k : Nat) : Int := b.getD k 0 * 256 + b.getD (k + 1) 0
def hdN (b : List Int) : Nat := 4 * (b.getD 0 0 % 16).toNat
def rawH (b : List Int) : Hd := ⟨b.getD 12 0, b.getD 13 0, b.getD 14 0, b.getD 15 0, b.getD 16 0, b.getD 17 0, b.getD 18 0, b.getD 19 0, b.getD 9 0, 0, 0, two b 2, b.getD 1 0 / 4⟩
def portsR (b : List Int) : Prop := ported (b.getD 9 0) ∧ two b 6 % 8192 = 0
instance (b : List Int) : Decidable (portsR b) := by unfold portsR; infer_instance
def readE (b : List Int) : Int :=
  if b.length < 20 then 8
  else if b.getD 0 0 / 16 ≠ 4 ∨ b.getD 0 0 % 16 < 5 then 1
  else if b.length < hdN b ∨ (b.length : Int) < two b 2 then 8
  else if two b 2 < hdN b then 1
  else if foldZ (sumP (b.take (hdN b))) ≠ 65535 then 7
  else if portsR b ∧ two b 2 < hdN b + 4 then 8
  else 0
def readH (b : List Int) : Hd := if readE b ≠ 0 then Hd.zero else if portsR b then { rawH b with sp := two b (hdN b), dp := two b (hdN b + 2) } else rawH b
structure Rd0 (b : List Int) : Prop where
  l : 20 ≤ b.length
  f : b.getD 0 0 / 16 = 4 ∧ 5 ≤ b.getD 0 0 % 16
  n : hdN b ≤ b.length ∧ two b 2 ≤ b.length
  m : hdN b ≤ two b 2
  s : foldZ (sumP (b.take (hdN b))) = 65535
  p : portsR b → (hdN b : Int) + 4 ≤ two b 2
theorem readE_zero {b : List Int} : readE b = 0 ↔ Rd0 b := by
  unfold readE
  constructor
  · intro h
    split at h
    · omega
    split at h
    · omega
    split at h
    · omega
    split at h
    · omega
    split at h
    · omega
    split at h
    · omega
    rename_i h1 h2 h3 h4 h5 h6
    exact ⟨by omega, by omega, by omega, by omega, Classical.byContradiction h5, fun hp => by
      have : ¬ two b 2 < hdN b + 4 := fun h => h6 ⟨hp, h⟩
      omega⟩
  · intro h
    obtain ⟨a1, a2, a3, a4, a5, a6⟩ := h
    rw [if_neg (by omega), if_neg (by omega), if_neg (by omega), if_neg (by omega), if_neg (by simpa using a5), if_neg (fun h => by have := a6 h.1; omega)]
theorem getD_app {a b : List Int} {k : Nat} (h : k < a.length) : (a ++ b).getD k 0 = a.getD k 0 := by
  simp [List.getD_eq_getElem?_getD, List.getElem?_append_left h]
theorem getD_app2 {a b : List Int} {k : Nat} : (a ++ b).getD (a.length + k) 0 = b.getD k 0 := by
  simp only [List.getD_eq_getElem?_getD]
  rw [List.getElem?_append_right (by omega), Nat.add_sub_cancel_left]
/-- Only the bytes up to the head's length are looked at. -/
theorem read_more {h : Hd} (hf : h.Fine) (more : List Int) : readE (bytesH h ++ more) = 0 ∧ readH (bytesH h ++ more) = h := by
  have hl := bytesH_len hf
  have h1 := hf.len
  have g : ∀ k, k < 20 → (bytesH h ++ more).getD k 0 = (hd20 h (chk h)).getD k 0 := fun k hk => by
    unfold bytesH
    rw [List.append_assoc, getD_app (by rw [hd20_len]; exact hk)]
  have hn : hdN (bytesH h ++ more) = 20 := by unfold hdN; rw [g 0 (by omega)]; rfl
  have ht2 : two (bytesH h ++ more) 2 = h.len := by
    unfold two; rw [g 2 (by omega), g 3 (by omega)]
    simp only [hd20, List.getD_cons_succ, List.getD_cons_zero]; omega
  have ht6 : two (bytesH h ++ more) 6 = 0 := by unfold two; rw [g 6 (by omega), g 7 (by omega)]; rfl
  have h9 : (bytesH h ++ more).getD 9 0 = h.proto := g 9 (by omega)
  have hpr : portsR (bytesH h ++ more) ↔ ported h.proto := by unfold portsR; rw [h9, ht6]; simp
  have htk : (bytesH h ++ more).take 20 = hd20 h (chk h) := by
    unfold bytesH
    rw [List.append_assoc, List.take_append_of_le_length (by rw [hd20_len]; exact Nat.le_refl _), List.take_of_length_le (by rw [hd20_len]; exact Nat.le_refl _)]
  have hE : readE (bytesH h ++ more) = 0 := readE_zero.2 ⟨by simp; omega, by rw [g 0 (by omega)]; exact ⟨rfl, show (5 : Int) ≤ 69 % 16 by decide⟩, by rw [hn, ht2]; simp; omega, by rw [hn, ht2]; omega, by
    rw [hn, htk]
    refine (foldZ_full ?_).2 (chk_sum hf)
    rw [hd20_sum]
    have := sum_pos hf
    have := chk_range h
    omega, fun hp => by rw [hn, ht2]; have := hf.len2 (hpr.1 hp); omega⟩
  refine ⟨hE, ?_⟩
  unfold readH
  rw [if_neg (by simpa using hE), hn]
  have hmk : (bytesH h ++ more).getD 1 0 / 4 = h.mark := by
    rw [g 1 (by omega)]
    show h.mark * 4 / 4 = h.mark
    omega
  have hraw : rawH (bytesH h ++ more) = { h with sp := 0, dp := 0 } := by
    unfold rawH
    rw [g 12 (by omega), g 13 (by omega), g 14 (by omega), g 15 (by omega), g 16 (by omega), g 17 (by omega), g 18 (by omega), g 19 (by omega), h9, ht2, hmk]; rfl
  rw [hraw]
  by_cases hp : ported h.proto
  · rw [if_pos (hpr.2 hp)]
    have e : bytesH h ++ more = hd20 h (chk h) ++ ([h.sp / 256, h.sp % 256, h.dp / 256, h.dp % 256] ++ (List.replicate (h.len.toNat - 24) 0 ++ more)) := by
      unfold bytesH tailB; rw [if_pos hp]; simp
    have g2 : ∀ k, (bytesH h ++ more).getD (20 + k) 0 = ([h.sp / 256, h.sp % 256, h.dp / 256, h.dp % 256] ++ (List.replicate (h.len.toNat - 24) 0 ++ more)).getD k 0 := fun k => by
      rw [e]; exact getD_app2 (a := hd20 h (chk h))
    have a0 : (bytesH h ++ more).getD 20 0 = h.sp / 256 := g2 0
    have a1 : (bytesH h ++ more).getD 21 0 = h.sp % 256 := g2 1
    have a2 : (bytesH h ++ more).getD 22 0 = h.dp / 256 := g2 2
    have a3 : (bytesH h ++ more).getD 23 0 = h.dp % 256 := g2 3
    have t20 : two (bytesH h ++ more) 20 = h.sp := by unfold two; rw [a0, a1]; omega
    have t22 : two (bytesH h ++ more) 22 = h.dp := by unfold two; rw [a2, a3]; omega
    rw [t20, t22]
  · rw [if_neg (fun h => hp (hpr.1 h))]
    obtain ⟨e1, e2⟩ := hf.no hp
    rw [← e1]
    conv => lhs; rw [show h.sp = h.dp by omega]
    cases h; simp_all
/-- What ends early. -/
theorem read_short {h : Hd} (hf : h.Fine) {n : Nat} (hn : (n : Int) < h.len) : readE ((bytesH h).take n) = 8 := by
  have hl := bytesH_len hf
  have h1 := hf.len
  have hlen : ((bytesH h).take n).length = n := by simp; omega
  unfold readE
  by_cases h20 : n < 20
  · rw [if_pos (by rw [hlen]; exact h20)]
  · have g : ∀ k, k < 20 → ((bytesH h).take n).getD k 0 = (hd20 h (chk h)).getD k 0 := fun k hk => by
      have : ((bytesH h).take n).getD k 0 = (bytesH h).getD k 0 := by
        simp only [List.getD_eq_getElem?_getD]
        rw [List.getElem?_take_of_lt (by omega)]
      rw [this]
      unfold bytesH
      rw [getD_app (by rw [hd20_len]; exact hk)]
    have ht2 : two ((bytesH h).take n) 2 = h.len := by
      unfold two; rw [g 2 (by omega), g 3 (by omega)]
      simp only [hd20, List.getD_cons_succ, List.getD_cons_zero]; omega
    rw [if_neg (by rw [hlen]; exact h20), g 0 (by omega), if_neg (by simp [hd20]), if_pos (.inr (by rw [hlen, ht2]; exact hn))]
/-- What is read can be written, if it is not the part of a packet. -/
theorem read_fine {b : List Int} (hb : byteL b) (h : readE b = 0) : (readH b).ok ∧ (wrongN (readH b) ≠ 0 → (readH b).len < 24) := by
  have hr := readE_zero.1 h
  have g := hb.getD
  have hn : 20 ≤ hdN b ∧ hdN b ≤ 60 := by unfold hdN; have := hr.f; omega
  have tw : ∀ k, 0 ≤ two b k ∧ two b k ≤ 65535 := fun k => by have := g k; have := g (k + 1); unfold two; omega
  have ho : (rawH b).ok := ⟨g 12, g 13, g 14, g 15, g 16, g 17, g 18, g 19⟩
  have hm := g 1
  have hp := g 9
  have hl := hr.m
  have t2 := tw 2
  unfold readH
  rw [if_neg (by simpa using h)]
  by_cases hpo : portsR b
  · rw [if_pos hpo]
    refine ⟨ho, fun hw => ?_⟩
    have a := tw (hdN b)
    have c := tw (hdN b + 2)
    have := hr.p hpo
    simp only [rawH]
    refine Classical.byContradiction fun hlt => hw (wrongN_zero ?_ ?_ ?_)
    · unfold wrongR; simp only [rawH]; omega
    · unfold wrongF; simp only [rawH]; exact fun h => h.1 hpo.1
    · unfold wrongL; simp only [rawH]; omega
  · rw [if_neg hpo]
    refine ⟨ho, fun hw => ?_⟩
    simp only [rawH]
    refine Classical.byContradiction fun hlt => hw (wrongN_zero ?_ ?_ ?_)
    · unfold wrongR; simp only [rawH]; omega
    · unfold wrongF; simp only [rawH]; omega
    · unfold wrongL; simp only [rawH]; omega
/-- One byte turned is seen. -/
theorem read_spoilt {h : Hd} (hf : h.Fine) {k : Nat} (hk : 1 ≤ k ∧ k < 20) {y : Int} (hy : 0 ≤ y ∧ y ≤ 255) (hne : y ≠ (bytesH h).getD k 0) : readE ((bytesH h).set k y) ≠ 0 := by
  intro h0
  have hr := readE_zero.1 h0
  have hl := bytesH_len hf
  have h1 := hf.len
  have e0 : ((bytesH h).set k y).getD 0 0 = 69 := by
    simp only [List.getD_eq_getElem?_getD]
    rw [List.getElem?_set_ne (by omega)]; rfl
  have hn : hdN ((bytesH h).set k y) = 20 := by unfold hdN; rw [e0]; rfl
  have hs := hr.s
  rw [hn] at hs
  have htk : ((bytesH h).set k y).take 20 = (hd20 h (chk h)).set k y := by
    unfold bytesH
    rw [List.set_append_left _ _ (by rw [hd20_len]; omega), List.take_append_of_le_length (by rw [List.length_set, hd20_len]; exact Nat.le_refl _), List.take_of_length_le (by rw [List.length_set, hd20_len]; exact Nat.le_refl _)]
  rw [htk] at hs
  have hx : (bytesH h).getD k 0 = (hd20 h (chk h)).getD k 0 := by unfold bytesH; rw [getD_app (by rw [hd20_len]; omega)]
  rw [hx] at hne
  have hbx := (hd20_byte hf (chk_range h)).getD k
  have hc := chk_sum hf
  -- the sum turns by so much
  have key : ∀ (l : List Int) (k : Nat) (y : Int), k < l.length → sumP (l.set k y) = sumP l + (y - l.getD k 0) * (if k % 2 = 0 then 256 else 1) := by
    intro l
    induction l using sumP.induct with
    | case1 => intro k y hk; simp at hk
    | case2 a =>
      intro k y hk
      obtain rfl : k = 0 := by simp at hk; omega
      simp [sumP]; omega
    | case3 a b r ih =>
      intro k y hk
      rcases k with _ | _ | k
      · simp [sumP]; omega
      · simp [sumP]; omega
      · have := ih k y (by simpa using hk)
        have e : (k + 1 + 1) % 2 = k % 2 := by omega
        simp only [List.set_cons_succ, sumP, List.getD_cons_succ, this, e]
        omega
  have hsm := key (hd20 h (chk h)) k y (by rw [hd20_len]; omega)
  have hby : byteL ((hd20 h (chk h)).set k y) := fun x hx => by
    rcases List.mem_or_eq_of_mem_set hx with hx | rfl
    · exact hd20_byte hf (chk_range h) x hx
    · exact hy
  have hpos : 0 < sumP ((hd20 h (chk h)).set k y) := by
    have h69 : ((hd20 h (chk h)).set k y).getD 0 0 = 69 := by
      simp only [List.getD_eq_getElem?_getD]
      rw [List.getElem?_set_ne (by omega)]; rfl
    have hd := sumP_drop ((hd20 h (chk h)).set k y) 0 (by rw [List.length_set, hd20_len]; omega)
    rw [List.drop_zero, h69] at hd
    have r1 := hby.getD (0 + 1)
    have r2 := sumP_range (((hd20 h (chk h)).set k y).drop (0 + 2)) (fun x hx => hby x (List.mem_of_mem_drop hx))
    split at hd <;> omega
  have := (foldZ_full hpos).1 hs
  generalize (hd20 h (chk h)).getD k 0 = x at *
  split at hsm <;> omega

end Go.Proofs.YtcocblbfgjjlbaaGreatDoor.Hm
