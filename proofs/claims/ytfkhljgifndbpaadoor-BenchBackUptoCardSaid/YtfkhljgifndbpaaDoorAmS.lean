/-
  The abstract machine, part S: Go's whole numbers in range. For any program.
-/
import Derived.Test.YtfkhljgifndbpaaDoorAmR
namespace Go.Am

theorem wrap_i8 (n : Int) (h : -128 ≤ n ∧ n ≤ 127) : IntKind.i8.wrap n = n := by
  unfold IntKind.wrap; simp only [IntKind.bits, IntKind.signed]; simp; omega
theorem iadd_i8 (a b : Int) (h : -128 ≤ a + b ∧ a + b ≤ 127) : iadd .i8 a b = a + b := wrap_i8 _ h
theorem isub_i8 (a b : Int) (h : -128 ≤ a - b ∧ a - b ≤ 127) : isub .i8 a b = a - b := wrap_i8 _ h
theorem imul_i8 (a b : Int) (h : -128 ≤ a * b ∧ a * b ≤ 127) : imul .i8 a b = a * b := wrap_i8 _ h
theorem iconv_i8 (a : Int) (h : -128 ≤ a ∧ a ≤ 127) : iconv .i8 a = a := wrap_i8 _ h
theorem iquo_i8 (a b : Int) (h : 0 ≤ a ∧ a ≤ 127 ∧ 1 ≤ b) : iquo .i8 a b = a / b := by
  unfold iquo
  rw [Int.tdiv_eq_ediv_of_nonneg h.1]
  exact wrap_i8 _ ⟨by have := Int.ediv_nonneg h.1 (show 0 ≤ b by omega); omega, by have := Int.ediv_le_self b h.1; omega⟩
theorem ishr_i8 (a b : Int) (h : 0 ≤ b ∧ b ≤ 8) : ishr .i8 a b = a / 2 ^ b.toNat := by
  unfold ishr
  rw [show min b.toNat IntKind.i8.bits = b.toNat by simp only [IntKind.bits]; omega, Int.fdiv_eq_ediv_of_nonneg _ (Int.le_of_lt (Int.pow_pos (by decide)))]
theorem ishl_i8 (a b : Int) (h : 0 ≤ b ∧ b ≤ 8) : ishl .i8 a b = imul .i8 a (2 ^ b.toNat) := by
  unfold ishl imul
  rw [show min b.toNat IntKind.i8.bits = b.toNat by simp only [IntKind.bits]; omega]
theorem wrap_i16 (n : Int) (h : -32768 ≤ n ∧ n ≤ 32767) : IntKind.i16.wrap n = n := by
  unfold IntKind.wrap; simp only [IntKind.bits, IntKind.signed]; simp; omega
theorem iadd_i16 (a b : Int) (h : -32768 ≤ a + b ∧ a + b ≤ 32767) : iadd .i16 a b = a + b := wrap_i16 _ h
theorem isub_i16 (a b : Int) (h : -32768 ≤ a - b ∧ a - b ≤ 32767) : isub .i16 a b = a - b := wrap_i16 _ h
theorem imul_i16 (a b : Int) (h : -32768 ≤ a * b ∧ a * b ≤ 32767) : imul .i16 a b = a * b := wrap_i16 _ h
theorem iconv_i16 (a : Int) (h : -32768 ≤ a ∧ a ≤ 32767) : iconv .i16 a = a := wrap_i16 _ h
theorem iquo_i16 (a b : Int) (h : 0 ≤ a ∧ a ≤ 32767 ∧ 1 ≤ b) : iquo .i16 a b = a / b := by
  unfold iquo
  rw [Int.tdiv_eq_ediv_of_nonneg h.1]
  exact wrap_i16 _ ⟨by have := Int.ediv_nonneg h.1 (show 0 ≤ b by omega); omega, by have := Int.ediv_le_self b h.1; omega⟩
theorem ishr_i16 (a b : Int) (h : 0 ≤ b ∧ b ≤ 16) : ishr .i16 a b = a / 2 ^ b.toNat := by
  unfold ishr
  rw [show min b.toNat IntKind.i16.bits = b.toNat by simp only [IntKind.bits]; omega, Int.fdiv_eq_ediv_of_nonneg _ (Int.le_of_lt (Int.pow_pos (by decide)))]
theorem ishl_i16 (a b : Int) (h : 0 ≤ b ∧ b ≤ 16) : ishl .i16 a b = imul .i16 a (2 ^ b.toNat) := by
  unfold ishl imul
  rw [show min b.toNat IntKind.i16.bits = b.toNat by simp only [IntKind.bits]; omega]
theorem wrap_i32 (n : Int) (h : -2147483648 ≤ n ∧ n ≤ 2147483647) : IntKind.i32.wrap n = n := by
  unfold IntKind.wrap; simp only [IntKind.bits, IntKind.signed]; simp; omega
theorem iadd_i32 (a b : Int) (h : -2147483648 ≤ a + b ∧ a + b ≤ 2147483647) : iadd .i32 a b = a + b := wrap_i32 _ h
theorem isub_i32 (a b : Int) (h : -2147483648 ≤ a - b ∧ a - b ≤ 2147483647) : isub .i32 a b = a - b := wrap_i32 _ h
theorem imul_i32 (a b : Int) (h : -2147483648 ≤ a * b ∧ a * b ≤ 2147483647) : imul .i32 a b = a * b := wrap_i32 _ h
theorem iconv_i32 (a : Int) (h : -2147483648 ≤ a ∧ a ≤ 2147483647) : iconv .i32 a = a := wrap_i32 _ h
theorem iquo_i32 (a b : Int) (h : 0 ≤ a ∧ a ≤ 2147483647 ∧ 1 ≤ b) : iquo .i32 a b = a / b := by
  unfold iquo
  rw [Int.tdiv_eq_ediv_of_nonneg h.1]
  exact wrap_i32 _ ⟨by have := Int.ediv_nonneg h.1 (show 0 ≤ b by omega); omega, by have := Int.ediv_le_self b h.1; omega⟩
theorem ishr_i32 (a b : Int) (h : 0 ≤ b ∧ b ≤ 32) : ishr .i32 a b = a / 2 ^ b.toNat := by
  unfold ishr
  rw [show min b.toNat IntKind.i32.bits = b.toNat by simp only [IntKind.bits]; omega, Int.fdiv_eq_ediv_of_nonneg _ (Int.le_of_lt (Int.pow_pos (by decide)))]
theorem ishl_i32 (a b : Int) (h : 0 ≤ b ∧ b ≤ 32) : ishl .i32 a b = imul .i32 a (2 ^ b.toNat) := by
  unfold ishl imul
  rw [show min b.toNat IntKind.i32.bits = b.toNat by simp only [IntKind.bits]; omega]
theorem wrap_i64 (n : Int) (h : -9223372036854775808 ≤ n ∧ n ≤ 9223372036854775807) : IntKind.i64.wrap n = n := by
  unfold IntKind.wrap; simp only [IntKind.bits, IntKind.signed]; simp; omega
theorem iadd_i64 (a b : Int) (h : -9223372036854775808 ≤ a + b ∧ a + b ≤ 9223372036854775807) : iadd .i64 a b = a + b := wrap_i64 _ h
theorem isub_i64 (a b : Int) (h : -9223372036854775808 ≤ a - b ∧ a - b ≤ 9223372036854775807) : isub .i64 a b = a - b := wrap_i64 _ h
theorem imul_i64 (a b : Int) (h : -9223372036854775808 ≤ a * b ∧ a * b ≤ 9223372036854775807) : imul .i64 a b = a * b := wrap_i64 _ h
theorem iconv_i64 (a : Int) (h : -9223372036854775808 ≤ a ∧ a ≤ 9223372036854775807) : iconv .i64 a = a := wrap_i64 _ h
theorem iquo_i64 (a b : Int) (h : 0 ≤ a ∧ a ≤ 9223372036854775807 ∧ 1 ≤ b) : iquo .i64 a b = a / b := by
  unfold iquo
  rw [Int.tdiv_eq_ediv_of_nonneg h.1]
  exact wrap_i64 _ ⟨by have := Int.ediv_nonneg h.1 (show 0 ≤ b by omega); omega, by have := Int.ediv_le_self b h.1; omega⟩
theorem ishr_i64 (a b : Int) (h : 0 ≤ b ∧ b ≤ 64) : ishr .i64 a b = a / 2 ^ b.toNat := by
  unfold ishr
  rw [show min b.toNat IntKind.i64.bits = b.toNat by simp only [IntKind.bits]; omega, Int.fdiv_eq_ediv_of_nonneg _ (Int.le_of_lt (Int.pow_pos (by decide)))]
theorem ishl_i64 (a b : Int) (h : 0 ≤ b ∧ b ≤ 64) : ishl .i64 a b = imul .i64 a (2 ^ b.toNat) := by
  unfold ishl imul
  rw [show min b.toNat IntKind.i64.bits = b.toNat by simp only [IntKind.bits]; omega]
theorem wrap_u8 (n : Int) (h : 0 ≤ n ∧ n ≤ 255) : IntKind.u8.wrap n = n := by
  unfold IntKind.wrap; simp only [IntKind.bits, IntKind.signed]; simp; omega
theorem iadd_u8 (a b : Int) (h : 0 ≤ a + b ∧ a + b ≤ 255) : iadd .u8 a b = a + b := wrap_u8 _ h
theorem isub_u8 (a b : Int) (h : 0 ≤ a - b ∧ a - b ≤ 255) : isub .u8 a b = a - b := wrap_u8 _ h
theorem imul_u8 (a b : Int) (h : 0 ≤ a * b ∧ a * b ≤ 255) : imul .u8 a b = a * b := wrap_u8 _ h
theorem iconv_u8 (a : Int) (h : 0 ≤ a ∧ a ≤ 255) : iconv .u8 a = a := wrap_u8 _ h
theorem iquo_u8 (a b : Int) (h : 0 ≤ a ∧ a ≤ 255 ∧ 1 ≤ b) : iquo .u8 a b = a / b := by
  unfold iquo
  rw [Int.tdiv_eq_ediv_of_nonneg h.1]
  exact wrap_u8 _ ⟨by have := Int.ediv_nonneg h.1 (show 0 ≤ b by omega); omega, by have := Int.ediv_le_self b h.1; omega⟩
theorem ishr_u8 (a b : Int) (h : 0 ≤ b ∧ b ≤ 8) : ishr .u8 a b = a / 2 ^ b.toNat := by
  unfold ishr
  rw [show min b.toNat IntKind.u8.bits = b.toNat by simp only [IntKind.bits]; omega, Int.fdiv_eq_ediv_of_nonneg _ (Int.le_of_lt (Int.pow_pos (by decide)))]
theorem ishl_u8 (a b : Int) (h : 0 ≤ b ∧ b ≤ 8) : ishl .u8 a b = imul .u8 a (2 ^ b.toNat) := by
  unfold ishl imul
  rw [show min b.toNat IntKind.u8.bits = b.toNat by simp only [IntKind.bits]; omega]
theorem wrap_u16 (n : Int) (h : 0 ≤ n ∧ n ≤ 65535) : IntKind.u16.wrap n = n := by
  unfold IntKind.wrap; simp only [IntKind.bits, IntKind.signed]; simp; omega
theorem iadd_u16 (a b : Int) (h : 0 ≤ a + b ∧ a + b ≤ 65535) : iadd .u16 a b = a + b := wrap_u16 _ h
theorem isub_u16 (a b : Int) (h : 0 ≤ a - b ∧ a - b ≤ 65535) : isub .u16 a b = a - b := wrap_u16 _ h
theorem imul_u16 (a b : Int) (h : 0 ≤ a * b ∧ a * b ≤ 65535) : imul .u16 a b = a * b := wrap_u16 _ h
theorem iconv_u16 (a : Int) (h : 0 ≤ a ∧ a ≤ 65535) : iconv .u16 a = a := wrap_u16 _ h
theorem iquo_u16 (a b : Int) (h : 0 ≤ a ∧ a ≤ 65535 ∧ 1 ≤ b) : iquo .u16 a b = a / b := by
  unfold iquo
  rw [Int.tdiv_eq_ediv_of_nonneg h.1]
  exact wrap_u16 _ ⟨by have := Int.ediv_nonneg h.1 (show 0 ≤ b by omega); omega, by have := Int.ediv_le_self b h.1; omega⟩
theorem ishr_u16 (a b : Int) (h : 0 ≤ b ∧ b ≤ 16) : ishr .u16 a b = a / 2 ^ b.toNat := by
  unfold ishr
  rw [show min b.toNat IntKind.u16.bits = b.toNat by simp only [IntKind.bits]; omega, Int.fdiv_eq_ediv_of_nonneg _ (Int.le_of_lt (Int.pow_pos (by decide)))]
theorem ishl_u16 (a b : Int) (h : 0 ≤ b ∧ b ≤ 16) : ishl .u16 a b = imul .u16 a (2 ^ b.toNat) := by
  unfold ishl imul
  rw [show min b.toNat IntKind.u16.bits = b.toNat by simp only [IntKind.bits]; omega]
theorem wrap_u32 (n : Int) (h : 0 ≤ n ∧ n ≤ 4294967295) : IntKind.u32.wrap n = n := by
  unfold IntKind.wrap; simp only [IntKind.bits, IntKind.signed]; simp; omega
theorem iadd_u32 (a b : Int) (h : 0 ≤ a + b ∧ a + b ≤ 4294967295) : iadd .u32 a b = a + b := wrap_u32 _ h
theorem isub_u32 (a b : Int) (h : 0 ≤ a - b ∧ a - b ≤ 4294967295) : isub .u32 a b = a - b := wrap_u32 _ h
theorem imul_u32 (a b : Int) (h : 0 ≤ a * b ∧ a * b ≤ 4294967295) : imul .u32 a b = a * b := wrap_u32 _ h
theorem iconv_u32 (a : Int) (h : 0 ≤ a ∧ a ≤ 4294967295) : iconv .u32 a = a := wrap_u32 _ h
theorem iquo_u32 (a b : Int) (h : 0 ≤ a ∧ a ≤ 4294967295 ∧ 1 ≤ b) : iquo .u32 a b = a / b := by
  unfold iquo
  rw [Int.tdiv_eq_ediv_of_nonneg h.1]
  exact wrap_u32 _ ⟨by have := Int.ediv_nonneg h.1 (show 0 ≤ b by omega); omega, by have := Int.ediv_le_self b h.1; omega⟩
theorem ishr_u32 (a b : Int) (h : 0 ≤ b ∧ b ≤ 32) : ishr .u32 a b = a / 2 ^ b.toNat := by
  unfold ishr
  rw [show min b.toNat IntKind.u32.bits = b.toNat by simp only [IntKind.bits]; omega, Int.fdiv_eq_ediv_of_nonneg _ (Int.le_of_lt (Int.pow_pos (by decide)))]
theorem ishl_u32 (a b : Int) (h : 0 ≤ b ∧ b ≤ 32) : ishl .u32 a b = imul .u32 a (2 ^ b.toNat) := by
  unfold ishl imul
  rw [show min b.toNat IntKind.u32.bits = b.toNat by simp only [IntKind.bits]; omega]
theorem wrap_u64 (n : Int) (h : 0 ≤ n ∧ n ≤ 18446744073709551615) : IntKind.u64.wrap n = n := by
  unfold IntKind.wrap; simp only [IntKind.bits, IntKind.signed]; simp; omega
theorem iadd_u64 (a b : Int) (h : 0 ≤ a + b ∧ a + b ≤ 18446744073709551615) : iadd .u64 a b = a + b := wrap_u64 _ h
theorem isub_u64 (a b : Int) (h : 0 ≤ a - b ∧ a - b ≤ 18446744073709551615) : isub .u64 a b = a - b := wrap_u64 _ h
theorem imul_u64 (a b : Int) (h : 0 ≤ a * b ∧ a * b ≤ 18446744073709551615) : imul .u64 a b = a * b := wrap_u64 _ h
theorem iconv_u64 (a : Int) (h : 0 ≤ a ∧ a ≤ 18446744073709551615) : iconv .u64 a = a := wrap_u64 _ h
theorem iquo_u64 (a b : Int) (h : 0 ≤ a ∧ a ≤ 18446744073709551615 ∧ 1 ≤ b) : iquo .u64 a b = a / b := by
  unfold iquo
  rw [Int.tdiv_eq_ediv_of_nonneg h.1]
  exact wrap_u64 _ ⟨by have := Int.ediv_nonneg h.1 (show 0 ≤ b by omega); omega, by have := Int.ediv_le_self b h.1; omega⟩
theorem ishr_u64 (a b : Int) (h : 0 ≤ b ∧ b ≤ 64) : ishr .u64 a b = a / 2 ^ b.toNat := by
  unfold ishr
  rw [show min b.toNat IntKind.u64.bits = b.toNat by simp only [IntKind.bits]; omega, Int.fdiv_eq_ediv_of_nonneg _ (Int.le_of_lt (Int.pow_pos (by decide)))]
theorem ishl_u64 (a b : Int) (h : 0 ≤ b ∧ b ≤ 64) : ishl .u64 a b = imul .u64 a (2 ^ b.toNat) := by
  unfold ishl imul
  rw [show min b.toNat IntKind.u64.bits = b.toNat by simp only [IntKind.bits]; omega]
theorem iand_mask {k : IntKind} {b : Nat} (hb : k.bits = b) (a : Int) (j : Nat) (h0 : 0 ≤ a) (h1 : a < 2 ^ b) (hj : j ≤ b) : iand k a (2 ^ j - 1) = k.wrap (a % 2 ^ j) := by
  unfold iand
  congr 1
  rw [hb]
  obtain ⟨n, rfl⟩ := Int.eq_ofNat_of_zero_le h0
  have e1 : ((2 : Int) ^ j - 1) = ((2 ^ j - 1 : Nat) : Int) := by
    have := Nat.one_le_two_pow (n := j)
    rw [Int.ofNat_sub this]; simp
  rw [e1]
  have hn : n < 2 ^ b := by exact_mod_cast h1
  have hm : 2 ^ j - 1 < 2 ^ b := by
    have := Nat.pow_le_pow_right (n := 2) (by omega) hj
    have := Nat.one_le_two_pow (n := j)
    omega
  simp only [BitVec.toNat_and, BitVec.ofInt_natCast, BitVec.toNat_ofNat]
  rw [Nat.mod_eq_of_lt hn, Nat.mod_eq_of_lt hm, Nat.and_two_pow_sub_one_eq_mod]
  simp
theorem irem_pos (a b : Int) (h : 0 ≤ a) : irem a b = a % b := Int.tmod_eq_emod_of_nonneg h

theorem carryV_add (a b c : Int) (h : 0 ≤ a ∧ 0 ≤ b ∧ b ≤ 18446744073709551615 ∧ 0 ≤ c ∧ c ≤ 1) : carryV false (.int .u64 a) (.int .u64 b) (.int .u64 c) = some (.tuple #[.int .u64 ((a + b + c) % 18446744073709551616), .int .u64 ((a + b + c) / 18446744073709551616)]) := by
  simp only [carryV]; rw [if_pos h]; rfl
theorem carryV_sub (a b c : Int) (h : 0 ≤ a ∧ 0 ≤ b ∧ b ≤ 18446744073709551615 ∧ 0 ≤ c ∧ c ≤ 1) : carryV true (.int .u64 a) (.int .u64 b) (.int .u64 c) = some (.tuple #[.int .u64 ((a - b - c) % 18446744073709551616), .int .u64 (borrow a (b + c))]) := by
  simp only [carryV]; rw [if_pos h]; rfl
attribute [go_sem] carryV_add carryV_sub iadd_i8 isub_i8 imul_i8 iconv_i8 iquo_i8 ishr_i8 ishl_i8 iadd_i16 isub_i16 imul_i16 iconv_i16 iquo_i16 ishr_i16 ishl_i16 iadd_i32 isub_i32 imul_i32 iconv_i32 iquo_i32 ishr_i32 ishl_i32 iadd_i64 isub_i64 imul_i64 iconv_i64 iquo_i64 ishr_i64 ishl_i64 iadd_u8 isub_u8 imul_u8 iconv_u8 iquo_u8 ishr_u8 ishl_u8 iadd_u16 isub_u16 imul_u16 iconv_u16 iquo_u16 ishr_u16 ishl_u16 iadd_u32 isub_u32 imul_u32 iconv_u32 iquo_u32 ishr_u32 ishl_u32 iadd_u64 isub_u64 imul_u64 iconv_u64 iquo_u64 ishr_u64 ishl_u64 irem_pos

end Go.Am
