import Derived.Test.YtbbinmplkbpcdaaFmA
/-! What the functions of the check and of a frame's writing compute, told of lists of bytes. -/
namespace Go.Proofs.Ytbbinmplkbpcdaa.Fm
open Go.RowKit Go.Proofs.Ytbbinmplkbpcdaa.Pm Go.Proofs.YtbbinmplkbpcdaaW.PrintWords Go.Proofs.YtbbinmplkbpcdaaW.PrintLast Go.Proofs.YtbbinmplkbpcdaaW.PrintMore

theorem wrap_up (i : Nat) (h : i < 9223372036854775807) : wrap64 ((i : Int) + 1) = ((i + 1 : Nat) : Int) := by
  unfold wrap64
  omega
theorem drop_cons {l : List UInt8} {i : Nat} (h : i < l.length) : l.drop i = l[i] :: l.drop (i + 1) := List.drop_eq_getElem_cons h

/-! ### crc.Sum -/
theorem crcSum_loop (s : ByteArray) (hs : s.size < 9223372036854775807) (d : Nat) : ∀ (i c : Nat), i + d = s.size → c < 65536 →
    Ev (fun k => crc_Sum.l0 k s (c : Int) (s.size : Int) (i : Int)) ((((ls s).drop i).foldl (fun c b => add c b.toNat) c : Nat) : Int) := by
  induction d with
  | zero =>
    intro i c hi hc
    refine Ev.step (f := fun _ => some (c : Int)) (fun k => ?_) ?_
    · simp only [crc_Sum.l0]
      rw [if_neg (by omega)]
    · rw [List.drop_of_length_le (by rw [ls_len]; omega)]
      exact Ev.now _
  | succ d ih =>
    intro i c hi hc
    have hl : i < (ls s).length := by rw [ls_len]; omega
    have h := ih (i + 1) (add c ((ls s)[i]).toNat) (by omega) (add_lt hc ((ls s)[i]).toNat_lt)
    rw [drop_cons hl, List.foldl_cons]
    refine Ev.step (fun k => ?_) h
    simp only [crc_Sum.l0]
    rw [if_pos (by omega), if_pos (by omega), if_pos (by omega), bt_eq s i hl, crcAdd_eq _ _ hc ((ls s)[i]).toNat_lt]
    simp only [Option.bind_some]
    rw [wrap_up i (by omega)]
theorem crcSum_eq (s : ByteArray) (hs : s.size < 9223372036854775807) : Ev (fun k => crc_Sum.f k s) ((sum (ls s) : Nat) : Int) := by
  have h := crcSum_loop s hs s.size 0 65535 (by omega) (by decide)
  exact h

end Go.Proofs.Ytbbinmplkbpcdaa.Fm
