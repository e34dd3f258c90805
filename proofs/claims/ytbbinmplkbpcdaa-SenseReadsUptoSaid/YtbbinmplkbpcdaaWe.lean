import Derived.Test.YtbbinmplkbpcdaaWd
import Derived.Test.YtbbinmplkbpcdaaWMore
/-! Bytes in words: shifts and sums of bits as numbers; strings as lists of numbers. -/
set_option linter.unusedVariables false
namespace Go.Proofs.Ytbbinmplkbpcdaa.Wd
open Go.RowKit Go.Proofs.YtbbinmplkbpcdaaW.PrintWords Go.Proofs.YtbbinmplkbpcdaaW.PrintLast Go.Proofs.YtbbinmplkbpcdaaW.PrintMore
theorem w64 {n : Int} (h0 : -9223372036854775808 ≤ n) (h1 : n < 9223372036854775808) : wrap64 n = n := by
  unfold wrap64
  omega
theorem w64i {n : Int} (h0 : -9223372036854775808 ≤ n) (h1 : n < 9223372036854775808) : IntKind.i64.wrap n = n := by
  rw [IntKind.wrap_i64]
  omega
theorem or_add (a b i : Nat) (h : a < 2 ^ i) : a ||| b * 2 ^ i = a + b * 2 ^ i := by
  rw [Nat.or_comm, ← Nat.shiftLeft_eq, ← Nat.shiftLeft_add_eq_or_of_lt h, Nat.add_comm]
theorem bits_or64 (a b : Nat) (ha : a < 9223372036854775808) (hb : b < 9223372036854775808) (h : a ||| b < 9223372036854775808) : Go.bits .or .i64 (a : Int) (b : Int) = ((a ||| b : Nat) : Int) := by
  have h1 : Go.bits .or .i64 (a : Int) (b : Int) = IntKind.i64.wrap (((BitVec.ofInt 64 a ||| BitVec.ofInt 64 b).toNat : Nat) : Int) := rfl
  rw [h1, BitVec.toNat_or, BitVec.ofInt_natCast, BitVec.ofInt_natCast, BitVec.toNat_ofNat, BitVec.toNat_ofNat, Nat.mod_eq_of_lt (by omega), Nat.mod_eq_of_lt (by omega)]
  exact w64i (by omega) (by omega)
theorem shl_pow (x : Int) (j : Nat) (hj : j ≤ 3) (h0 : 0 ≤ x) (h1 : x < 4294967296) : shl .i64 x ((8 * j : Nat) : Int) = x * pow_ j := by
  unfold shl
  rw [Int.toNat_natCast, Nat.min_eq_left (by show 8 * j ≤ 64; omega)]
  have e : (2 : Int) ^ (8 * j) = pow_ j := by
    rcases (by omega : j = 0 ∨ j = 1 ∨ j = 2 ∨ j = 3) with rfl | rfl | rfl | rfl <;> decide
  rw [e]
  have hp : pow_ j ≤ 16777216 ∧ 0 < pow_ j := by
    rcases (by omega : j = 0 ∨ j = 1 ∨ j = 2 ∨ j = 3) with rfl | rfl | rfl | rfl <;> decide
  have h2 : x * pow_ j ≤ 4294967296 * 16777216 := Int.mul_le_mul (Int.le_of_lt h1) hp.1 (Int.le_of_lt hp.2) (by decide)
  have h3 : 0 ≤ x * pow_ j := Int.mul_nonneg h0 (Int.le_of_lt hp.2)
  exact w64i (by omega) (by omega)
/-- A byte that is laid above the others. -/
theorem or_byte (acc b : Int) (j : Nat) (hj : j ≤ 3) (h0 : 0 ≤ acc) (h1 : acc < pow_ j) (hb0 : 0 ≤ b) (hb1 : b < 256) : Go.bits .or .i64 acc (shl .i64 (wrap64 b) ((8 * j : Nat) : Int)) = acc + b * pow_ j := by
  rw [w64 (by omega) (by omega), shl_pow b j hj hb0 (by omega)]
  obtain ⟨a, rfl⟩ := Int.eq_ofNat_of_zero_le h0
  obtain ⟨b, rfl⟩ := Int.eq_ofNat_of_zero_le hb0
  have e : pow_ j = ((2 ^ (8 * j) : Nat) : Int) := by
    rcases (by omega : j = 0 ∨ j = 1 ∨ j = 2 ∨ j = 3) with rfl | rfl | rfl | rfl <;> decide
  have hp : 2 ^ (8 * j) ≤ 16777216 ∧ 0 < 2 ^ (8 * j) := by
    rcases (by omega : j = 0 ∨ j = 1 ∨ j = 2 ∨ j = 3) with rfl | rfl | rfl | rfl <;> decide
  rw [e] at h1 ⊢
  have h1' : a < 2 ^ (8 * j) := by exact_mod_cast h1
  have hb : b * 2 ^ (8 * j) ≤ 255 * 16777216 := Nat.mul_le_mul (by omega) hp.1
  have ho := or_add a b (8 * j) h1'
  have hm : ((b : Int) * ((2 ^ (8 * j) : Nat) : Int)) = ((b * 2 ^ (8 * j) : Nat) : Int) := (Int.natCast_mul _ _).symm
  rw [hm, bits_or64 a (b * 2 ^ (8 * j)) (by omega) (by omega) (by omega), ho, Int.natCast_add]
theorem bytes_of (s : ByteArray) : Bytes (bytesOf s) := by
  intro b hb
  unfold bytesOf at hb
  obtain ⟨c, _, rfl⟩ := List.mem_map.1 hb
  have := c.toNat_lt
  omega
theorem of_strOfNums (l : List Int) (h : Bytes l) : bytesOf (strOfNums l) = l := by
  have e : bytesOf (strOfNums l) = (l.map fun n => UInt8.ofNat n.toNat).map fun b => (b.toNat : Int) := rfl
  rw [e, List.map_map]
  have : ∀ x ∈ l, ((fun b : UInt8 => (b.toNat : Int)) ∘ fun n : Int => UInt8.ofNat n.toNat) x = x := by
    intro x hx
    obtain ⟨h0, h1⟩ := h x hx
    show ((UInt8.ofNat x.toNat).toNat : Int) = x
    rw [UInt8.toNat_ofNat']
    omega
  rw [List.map_congr_left this]
  simp
theorem bytesOf_inj {a b : ByteArray} (h : bytesOf a = bytesOf b) : a = b := by
  have hd : a.data.toList = b.data.toList := by
    refine List.map_inj_right (f := fun c : UInt8 => (c.toNat : Int)) ?_ |>.1 h
    intro x y hxy
    apply UInt8.toNat_inj.1
    exact_mod_cast hxy
  obtain ⟨⟨la⟩⟩ := a
  obtain ⟨⟨lb⟩⟩ := b
  simp only at hd
  rw [hd]
theorem bytesOf_append (a b : ByteArray) : bytesOf (a ++ b) = bytesOf a ++ bytesOf b := by
  simp [bytesOf]
theorem bytesOf_extract (s : ByteArray) (i j : Nat) : bytesOf (s.extract i j) = ((bytesOf s).drop i).take (j - i) := by
  unfold bytesOf
  rw [ByteArray.data_extract, Array.toList_extract, List.extract_eq_take_drop, ← List.map_drop, ← List.map_take]
theorem bytesOf_tail (s : ByteArray) (i : Nat) : bytesOf (s.extract i s.size) = (bytesOf s).drop i := by
  rw [bytesOf_extract, List.take_of_length_le (by rw [List.length_drop, bytesOf_length]; omega)]
end Go.Proofs.Ytbbinmplkbpcdaa.Wd
