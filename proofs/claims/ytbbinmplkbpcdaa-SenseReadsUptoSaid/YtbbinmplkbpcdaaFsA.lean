import Derived.Test.YtbbinmplkbpcdaaPs1
/-! Plain laws of bytes and of the check of 16 bits, for the statements of layer 4 and those above it. -/
namespace Go.Proofs.Ytbbinmplkbpcdaa.Fs
open Go.RowKit Go.Proofs.Ytbbinmplkbpcdaa.Ps Go.Proofs.YtbbinmplkbpcdaaW.PrintWords Go.Proofs.YtbbinmplkbpcdaaW.PrintLast Go.Proofs.YtbbinmplkbpcdaaW.PrintMore

/-! ### bytes as lists -/
/-- The bytes of a string. -/
def ls (s : ByteArray) : List UInt8 := s.data.toList
theorem ls_len (s : ByteArray) : (ls s).length = s.size := data_length s
theorem ls_inj {a b : ByteArray} (h : ls a = ls b) : a = b := by
  obtain ⟨⟨a⟩⟩ := a
  obtain ⟨⟨b⟩⟩ := b
  simp only [ls] at h
  subst h
  rfl
theorem ls_append (a b : ByteArray) : ls (a ++ b) = ls a ++ ls b := by simp [ls]
theorem ls_extract (s : ByteArray) (i j : Nat) : ls (s.extract i j) = ((ls s).drop i).take (j - i) := by
  simp [ls, ByteArray.data_extract, List.extract_eq_take_drop]
theorem ls_tail (s : ByteArray) (i : Nat) : ls (s.extract i s.size) = (ls s).drop i := by
  rw [ls_extract, List.take_of_length_le (by rw [List.length_drop, ls_len]; omega)]
theorem ls_head (s : ByteArray) (j : Nat) : ls (s.extract 0 j) = (ls s).take j := by
  rw [ls_extract]; simp
theorem ls_str (xs : List Int) : ls (strOfNums xs) = xs.map fun n => UInt8.ofNat n.toNat := rfl
theorem ls_toList (s : ByteArray) : s.toList = ls s := ByteArray.toList_eq s
theorem bt_eq (s : ByteArray) (i : Nat) (h : i < (ls s).length) : bt s (i : Int) = (((ls s)[i]).toNat : Int) := by
  have h' : i < s.size := by rw [← ls_len]; exact h
  simp only [bt, Int.toNat_natCast, h', dif_pos]
  rfl

/-! ### the check of 16 bits -/
/-- One bit of the check. -/
def bitstep (c : Nat) : Nat := if c % 2 = 1 then c / 2 ^^^ 33800 else c / 2
/-- Four bits. -/
def four (c : Nat) : Nat := bitstep (bitstep (bitstep (bitstep c)))
/-- A byte. -/
def add (c b : Nat) : Nat := four (four (c ^^^ b))
/-- All bytes. -/
def sum (l : List UInt8) : Nat := l.foldl (fun c b => add c b.toNat) 65535

theorem bitstep_lt {c : Nat} (h : c < 65536) : bitstep c < 65536 := by
  unfold bitstep
  split
  · exact Nat.xor_lt_two_pow (n := 16) (by omega) (by decide)
  · omega
theorem four_lt {c : Nat} (h : c < 65536) : four c < 65536 := bitstep_lt (bitstep_lt (bitstep_lt (bitstep_lt h)))
theorem add_lt {c b : Nat} (h : c < 65536) (hb : b < 256) : add c b < 65536 := four_lt (four_lt (Nat.xor_lt_two_pow (n := 16) h (by omega)))
theorem foldl_lt (l : List UInt8) : ∀ c, c < 65536 → l.foldl (fun c b => add c b.toNat) c < 65536 := by
  induction l with
  | nil => exact fun c h => h
  | cons b l ih => exact fun c h => ih _ (add_lt h b.toNat_lt)
theorem sum_lt (l : List UInt8) : sum l < 65536 := foldl_lt l _ (by decide)

theorem bit_x (x : Nat) (b : Nat) (hb : b < 2) : bitstep (2 * x + b) = x ^^^ (if b = 1 then 33800 else 0) := by
  unfold bitstep
  rcases Nat.lt_or_ge b 1 with h | h
  · obtain rfl : b = 0 := by omega
    rw [if_neg (by omega), if_neg (by omega)]
    simp
  · obtain rfl : b = 1 := by omega
    rw [if_pos (by omega), if_pos rfl]
    congr 1
    omega
theorem xor_mod_two (a b : Nat) : (a ^^^ b) % 2 = (a % 2 + b % 2) % 2 := by
  have h := Nat.xor_mod_two_pow (a := a) (b := b) (n := 1)
  simp only [Nat.pow_one] at h
  rw [h]
  have h1 : a % 2 = 0 ∨ a % 2 = 1 := by omega
  have h2 : b % 2 = 0 ∨ b % 2 = 1 := by omega
  rcases h1 with h1 | h1 <;> rcases h2 with h2 | h2 <;> rw [h1, h2] <;> rfl
theorem bitstep_xor (a b : Nat) : bitstep (a ^^^ b) = bitstep a ^^^ bitstep b := by
  unfold bitstep
  rw [xor_mod_two, Nat.xor_div_two]
  have h1 : a % 2 = 0 ∨ a % 2 = 1 := by omega
  have h2 : b % 2 = 0 ∨ b % 2 = 1 := by omega
  rcases h1 with h1 | h1 <;> rcases h2 with h2 | h2 <;> simp only [h1, h2, Nat.reduceAdd, Nat.reduceMod, Nat.zero_add, Nat.add_zero, if_true, if_false, Nat.zero_ne_one]
  · rw [Nat.xor_assoc]
  · rw [Nat.xor_assoc, Nat.xor_comm (b / 2), ← Nat.xor_assoc]
  · rw [Nat.xor_assoc (a / 2) 33800, ← Nat.xor_assoc 33800, Nat.xor_comm 33800 (b / 2), Nat.xor_assoc (b / 2), Nat.xor_self, Nat.xor_zero]
/-- The check is linear. -/
theorem four_xor (a b : Nat) : four (a ^^^ b) = four a ^^^ four b := by simp only [four, bitstep_xor]
theorem four_parts (q r : Nat) (hr : r < 16) : four (16 * q + r) = (((q ^^^ (if r / 8 = 1 then 33800 else 0)) ^^^ bitstep (if r / 4 % 2 = 1 then 33800 else 0)) ^^^ bitstep (bitstep (if r / 2 % 2 = 1 then 33800 else 0))) ^^^ bitstep (bitstep (bitstep (if r % 2 = 1 then 33800 else 0))) := by
  have h3 : r / 8 < 2 := by omega
  have h2 : r / 4 % 2 < 2 := by omega
  have h1 : r / 2 % 2 < 2 := by omega
  have h0 : r % 2 < 2 := by omega
  have e0 : 16 * q + r = 2 * (8 * q + r / 2) + r % 2 := by omega
  have e1 : 8 * q + r / 2 = 2 * (4 * q + r / 4) + r / 2 % 2 := by omega
  have e2 : 4 * q + r / 4 = 2 * (2 * q + r / 8) + r / 4 % 2 := by omega
  unfold four
  rw [e0, bit_x _ _ h0]
  simp only [bitstep_xor]
  rw [e1, bit_x _ _ h1]
  simp only [bitstep_xor]
  rw [e2, bit_x _ _ h2]
  simp only [bitstep_xor]
  rw [bit_x _ _ h3]
theorem four_split (q r : Nat) (hr : r < 16) : four (16 * q + r) = q ^^^ four r := by
  have L := four_parts q r hr
  have R := four_parts 0 r hr
  rw [Nat.mul_zero, Nat.zero_add] at R
  rw [L, R]
  simp only [Nat.zero_xor, Nat.xor_assoc]

/-! ### the program's words on it -/
theorem wrap_u16 (n : Int) : IntKind.u16.wrap n = n % 65536 := by simp [IntKind.wrap, IntKind.bits, IntKind.signed]
theorem bits_xor16 (a b : Nat) (ha : a < 65536) (hb : b < 65536) : Go.bits .xor .u16 (a : Int) (b : Int) = ((a ^^^ b : Nat) : Int) := by
  have h : Go.bits .xor .u16 (a : Int) (b : Int) = IntKind.u16.wrap (((BitVec.ofInt 16 a ^^^ BitVec.ofInt 16 b).toNat : Nat) : Int) := rfl
  rw [h, wrap_u16, BitVec.toNat_xor, BitVec.ofInt_natCast, BitVec.ofInt_natCast, BitVec.toNat_ofNat, BitVec.toNat_ofNat, Nat.mod_eq_of_lt ha, Nat.mod_eq_of_lt hb]
  have : a ^^^ b < 65536 := Nat.xor_lt_two_pow (n := 16) ha hb
  omega
theorem bits_and15 (a : Nat) (ha : a < 65536) : Go.bits .and .u16 (a : Int) 15 = ((a % 16 : Nat) : Int) := by
  have h : Go.bits .and .u16 (a : Int) 15 = IntKind.u16.wrap (((BitVec.ofInt 16 a &&& BitVec.ofInt 16 15).toNat : Nat) : Int) := rfl
  have h2 : (BitVec.ofInt 16 15).toNat = 2 ^ 4 - 1 := by decide
  rw [h, wrap_u16, BitVec.toNat_and, BitVec.ofInt_natCast, BitVec.toNat_ofNat, Nat.mod_eq_of_lt ha, h2, Nat.and_two_pow_sub_one_eq_mod]
  omega
theorem tab_eq : ∀ r, r < 16 → crc_half.tab.getD r 0 = ((four r : Nat) : Int) := by decide
theorem half_eq (c : Nat) (hc : c < 65536) : crc_half.f (c : Int) = some ((four c : Nat) : Int) := by
  unfold crc_half.f
  rw [bits_and15 c hc, Int.toNat_natCast, tab_eq _ (by omega)]
  have e : (c : Int) / 16 = ((c / 16 : Nat) : Int) := by omega
  rw [e, bits_xor16 _ _ (by omega) (four_lt (by omega))]
  congr 2
  rw [← four_split (c / 16) (c % 16) (by omega)]
  congr 1
  omega
theorem crcAdd_eq (c b : Nat) (hc : c < 65536) (hb : b < 256) : crc_Add.f (c : Int) (b : Int) = some ((add c b : Nat) : Int) := by
  have hx : c ^^^ b < 65536 := Nat.xor_lt_two_pow (n := 16) hc (by omega)
  unfold crc_Add.f
  rw [wrap_u16, show (b : Int) % 65536 = b by omega, bits_xor16 _ _ hc (by omega), half_eq _ hx]
  simp only [Option.bind_some]
  rw [half_eq _ (four_lt hx)]
  rfl
end Go.Proofs.Ytbbinmplkbpcdaa.Fs
