import Derived.Test.YtfkhljgifndbpaaDoorCon
import Derived.Test.YtfkhljgifndbpaaDoorTab
set_option linter.unusedSimpArgs false
set_option linter.unusedVariables false
set_option maxHeartbeats 2000000
set_option maxRecDepth 20000
namespace Go.Proofs.YtfkhljgifndbpaaDoor
open Go Go.Am
attribute [local irreducible] opsW Ww loopW callW drawW outW outDW gW cW BrW bothW vW resW DropW RdW dcallW altW forkW splitW Later.run

/-- Digits by a count of steps: for the kernel. -/
def digF : Nat → Nat → Bs
  | 0, _ => []
  | n + 1, u => if u < 10 then [UInt8.ofNat (48 + u)] else digF n (u / 10) ++ [UInt8.ofNat (48 + u % 10)]
theorem digF_eq : ∀ (n u : Nat), u < 10 ^ (n + 1) → digF (n + 1) u = Lib.decDigits u
  | 0, u, h => by
    have h : u < 10 := by simpa using h
    rw [Lib.decDigits, dif_pos h]
    unfold digF; rw [if_pos h]
  | n + 1, u, h => by
    rw [Lib.decDigits]
    show (if u < 10 then [UInt8.ofNat (48 + u)] else digF (n + 1) (u / 10) ++ [UInt8.ofNat (48 + u % 10)]) = _
    by_cases hu : u < 10
    · rw [if_pos hu, dif_pos hu]
    · rw [if_neg hu, dif_neg hu, digF_eq n (u / 10) (by rw [Nat.pow_succ] at h; omega)]
/-- The library's functions, reckoned by their contracts. -/
def pr : CallX := fun f l H =>
  if f = 13 then (match l with
    | [.int .i64 n] => if 0 ≤ n ∧ n < 1000000000000000000 then some (str (digF 19 n.toNat), H) else none
    | _ => none)
  else if f = 46 then (match l with
    | [.string s] => if s.size ≤ 1000000 then (match Lib.atoiAll s.data.toList with
      | .ok n => some (.tuple #[.int .i64 n, .nilIface], H)
      | _ => none) else none
    | _ => none)
  else if f = 23 then (match l with
    | [.string s, .string p] => (match p.data.toList with
      | [c] => if s.size ≤ 1000000 then some (.tuple #[str (cutAt c s.data.toList).1, str (cutAt c s.data.toList).2.1, .bool (cutAt c s.data.toList).2.2], H) else none
      | _ => none)
    | _ => none)
  else if f = 31 then (match l with
    | [.string s, .string p] => (match p.data.toList with
      | [c] => if s.size ≤ 1000000 then some (slv H.length 0 0 (words c s.data.toList).length (words c s.data.toList).length, H ++ [.cells 0 1 false ((words c s.data.toList).map str)]) else none
      | _ => none)
    | _ => none)
  else none
theorem str_of (s : ByteArray) : Value.string s = str s.data.toList := by
  show Value.string s = Value.string ⟨s.data.toList.toArray⟩
  rw [Array.toArray_toList]
theorem len_of (s : ByteArray) : s.data.toList.length = s.size := rfl
theorem str_one {p : ByteArray} {c : UInt8} (h : p.data.toList = [c]) : Value.string p = str [c] := by rw [str_of, h]
theorem pr_ok : CallOk Tryd.prog pr := by
  intro f l H v H' h K hK
  unfold pr at h
  split at h
  · rename_i e; subst e
    split at h
    · rename_i n
      split at h
      · rename_i hb
        cases h
        refine (Itoa_spec n (by omega) (by omega) H).mono ?_
        rintro v H' ⟨rfl, rfl⟩
        have : digF 19 n.toNat = Lib.itoa n := by rw [itoa_nn hb.1]; exact digF_eq 18 _ (by omega)
        rw [← this]; exact hK
      · cases h
    · cases h
  · split at h
    · rename_i e; subst e
      split at h
      · rename_i s
        split at h
        · rename_i hb
          split at h
          · rename_i n hn
            cases h
            rw [str_of]
            refine (Atoi_ok _ (by rw [len_of]; omega) n hn H).mono ?_
            rintro v H' ⟨rfl, rfl⟩
            exact hK
          · cases h
        · cases h
      · cases h
    · split at h
      · rename_i e; subst e
        split at h
        · rename_i s p
          split at h
          · rename_i c hc
            split at h
            · rename_i hb
              cases h
              rw [str_of s, str_one hc]
              refine (Cut_spec c _ (by rw [len_of]; omega) H).mono ?_
              rintro v H' ⟨rfl, rfl⟩
              exact hK
            · cases h
          · cases h
        · cases h
      · split at h
        · rename_i e; subst e
          split at h
          · rename_i s p
            split at h
            · rename_i c hc
              split at h
              · rename_i hb
                cases h
                rw [str_of s, str_one hc]
                refine (Split_spec c _ (by rw [len_of]; omega) H).mono ?_
                rintro v H' ⟨rfl, rfl⟩
                exact hK
              · cases h
            · cases h
          · cases h
        · cases h
end Go.Proofs.YtfkhljgifndbpaaDoor
