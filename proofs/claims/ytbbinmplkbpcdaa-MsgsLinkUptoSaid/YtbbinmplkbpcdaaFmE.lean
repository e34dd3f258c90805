import Derived.Test.YtbbinmplkbpcdaaFmD
/-! The reference's Read computes the relation of reading. -/
namespace Go.Proofs.Ytbbinmplkbpcdaa.Fm
open Go.RowKit Go.Proofs.Ytbbinmplkbpcdaa.Pm Go.Proofs.YtbbinmplkbpcdaaW.PrintWords Go.Proofs.YtbbinmplkbpcdaaW.PrintLast Go.Proofs.YtbbinmplkbpcdaaW.PrintMore

theorem wrap_nat (n : Nat) (h : n < 9223372036854775808) : wrap64 (n : Int) = (n : Int) := by
  unfold wrap64
  omega
theorem wrap_plus (i c : Nat) (h : i + c < 9223372036854775808) : wrap64 ((i : Int) + (c : Int)) = ((i + c : Nat) : Int) := by
  rw [← Int.natCast_add, wrap_nat _ h]
theorem wr1 {i : Nat} (h : i + 1 < 9223372036854775808) : wrap64 ((i : Int) + 1) = ((i + 1 : Nat) : Int) := wrap_plus i 1 h
theorem wr2 {i : Nat} (h : i + 2 < 9223372036854775808) : wrap64 ((i : Int) + 2) = ((i + 2 : Nat) : Int) := wrap_plus i 2 h
theorem wr3 {i : Nat} (h : i + 3 < 9223372036854775808) : wrap64 ((i : Int) + 3) = ((i + 3 : Nat) : Int) := wrap_plus i 3 h
theorem wr4 {i : Nat} (h : i + 4 < 9223372036854775808) : wrap64 ((i : Int) + 4) = ((i + 4 : Nat) : Int) := wrap_plus i 4 h
theorem wr5 {i : Nat} (h : i + 5 < 9223372036854775808) : wrap64 ((i : Int) + 5) = ((i + 5 : Nat) : Int) := wrap_plus i 5 h
theorem wr6 {i : Nat} (h : i + 6 < 9223372036854775808) : wrap64 ((i : Int) + 6) = ((i + 6 : Nat) : Int) := wrap_plus i 6 h
theorem wrn {i : Nat} (h : i < 9223372036854775808) : wrap64 (i : Int) = (i : Int) := wrap_nat i h
theorem wrp {i c : Nat} (h : i + c < 9223372036854775808) : wrap64 ((i : Int) + (c : Int)) = ((i + c : Nat) : Int) := wrap_plus i c h
theorem u8_eq {b : UInt8} {n : Nat} (hn : n < 256) : ((b.toNat : Int) = (n : Int)) ↔ b = UInt8.ofNat n := by
  constructor
  · intro h
    apply UInt8.toNat_inj.1
    rw [UInt8.toNat_ofNat']
    omega
  · rintro rfl
    rw [UInt8.toNat_ofNat']
    omega
/-- The byte at i, told of what stands from i on. -/
theorem bt_drop (s : ByteArray) (i j : Nat) (h : i + j < s.size) : bt s ((i + j : Nat) : Int) = ((((ls s).drop i).getD j 0).toNat : Int) := by
  have hl : i + j < (ls s).length := by rw [ls_len]; exact h
  rw [bt_eq s _ hl, List.getD_eq_getElem?_getD, List.getElem?_drop, List.getElem?_eq_getElem hl]
  rfl
theorem drop_one (s : ByteArray) (i : Nat) {b : UInt8} {t : List UInt8} (h : (ls s).drop i = b :: t) : i < s.size ∧ bt s (i : Int) = (b.toNat : Int) ∧ (ls s).drop (i + 1) = t := by
  have hl : i < (ls s).length := by
    rcases Nat.lt_or_ge i (ls s).length with h1 | h1
    · exact h1
    · rw [List.drop_of_length_le h1] at h
      cases h
  rw [List.drop_eq_getElem_cons hl] at h
  injection h with h1 h2
  refine ⟨by rw [ls_len] at hl; exact hl, ?_, h2⟩
  rw [bt_eq s i hl, h1]
theorem getD_zero (t : List UInt8) : (t.getD 0 0).toNat = size_ t := by
  match t with
  | [] => rfl
  | b :: t => rfl
theorem take_three (t : List UInt8) (h : 3 ≤ t.length) (n : Nat) : t.take (3 + n) = [t.getD 0 0, t.getD 1 0, t.getD 2 0] ++ (t.drop 3).take n := by
  match t, h with
  | a :: b :: c :: t, _ => simp [Nat.add_comm 3 n]
theorem two_bytes {t : List UInt8} {i : Nat} (h : i + 2 ≤ t.length) (c : Nat) (hc : c < 65536) : (t.drop i).take 2 = two c ↔ ((t.getD i 0).toNat : Int) = ((c % 256 : Nat) : Int) ∧ ((t.getD (i + 1) 0).toNat : Int) = ((c / 256 : Nat) : Int) := by
  rw [u8_eq (by omega), u8_eq (by omega), u8_mod]
  rw [List.drop_eq_getElem_cons (by omega), List.drop_eq_getElem_cons (by omega)]
  rw [List.getD_eq_getElem?_getD, List.getElem?_eq_getElem (by omega), List.getD_eq_getElem?_getD, List.getElem?_eq_getElem (by omega)]
  simp only [two, List.take_succ_cons, List.take_zero, Option.getD_some, List.cons.injEq, and_true]

end Go.Proofs.Ytbbinmplkbpcdaa.Fm
