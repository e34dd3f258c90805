import Derived.Test.YtbbinmplkbpcdaaFsA
/-! What the functions of the check and of a frame's writing compute, told of lists of bytes. -/
namespace Go.Proofs.Ytbbinmplkbpcdaa.Fs
open Go.RowKit Go.Proofs.Ytbbinmplkbpcdaa.Ps Go.Proofs.YtbbinmplkbpcdaaW.PrintWords Go.Proofs.YtbbinmplkbpcdaaW.PrintLast Go.Proofs.YtbbinmplkbpcdaaW.PrintMore

theorem wrap_up (i : Nat) (h : i < 9223372036854775807) : wrap64 ((i : Int) + 1) = ((i + 1 : Nat) : Int) := by
  unfold wrap64
  omega
theorem drop_cons {l : List UInt8} {i : Nat} (h : i < l.length) : l.drop i = l[i] :: l.drop (i + 1) := List.drop_eq_getElem_cons h

/-! ### crc.Sum -/
theorem crcSum_loop (s : ByteArray) (hs : s.size < 9223372036854775807) (d : Nat) : ∀ (i c : Nat), i + d = s.size → c < 65536 →
    Ev (fun k => crc_Sum.l0 k s (c : Int) (s.size : Int) (i : Int)) ((((ls s).drop i).foldl (fun c b => add c b.toNat) c : Nat) : Int) := by
  induction d with
  | zero =>
    intro i c hi hc
    refine Ev.step (f := fun _ => some (c : Int)) (fun k => ?_) ?_
    · simp only [crc_Sum.l0]
      rw [if_neg (by omega)]
    · rw [List.drop_of_length_le (by rw [ls_len]; omega)]
      exact Ev.now _
  | succ d ih =>
    intro i c hi hc
    have hl : i < (ls s).length := by rw [ls_len]; omega
    have h := ih (i + 1) (add c ((ls s)[i]).toNat) (by omega) (add_lt hc ((ls s)[i]).toNat_lt)
    rw [drop_cons hl, List.foldl_cons]
    refine Ev.step (fun k => ?_) h
    simp only [crc_Sum.l0]
    rw [if_pos (by omega), if_pos (by omega), if_pos (by omega), bt_eq s i hl, crcAdd_eq _ _ hc ((ls s)[i]).toNat_lt]
    simp only [Option.bind_some]
    rw [wrap_up i (by omega)]
theorem crcSum_eq (s : ByteArray) (hs : s.size < 9223372036854775807) : Ev (fun k => crc_Sum.f k s) ((sum (ls s) : Nat) : Int) := by
  have h := crcSum_loop s hs s.size 0 65535 (by omega) (by decide)
  exact h

/-! ### the reference's Add and Sum -/
theorem refAdd_step (c i : Nat) (hc : c < 65536) (hi : i < 8) {r : Int} (h : Ev (fun k => windhoverref03_Add.l0 k ((bitstep c : Nat) : Int) ((i + 1 : Nat) : Int)) r) :
    Ev (fun k => windhoverref03_Add.l0 k (c : Int) (i : Int)) r := by
  refine Ev.step (fun k => ?_) h
  simp only [windhoverref03_Add.l0]
  rw [if_pos (by omega), wrap_up i (by omega)]
  have e1 : Int.tmod (c : Int) 2 = ((c % 2 : Nat) : Int) := by rw [Int.tmod_eq_emod_of_nonneg (by omega)]; omega
  have e2 : IntKind.u16.wrap (Int.tdiv (c : Int) 2) = ((c / 2 : Nat) : Int) := by rw [wrap_u16, Int.tdiv_eq_ediv_of_nonneg (by omega)]; omega
  rw [e1, e2]
  unfold bitstep
  by_cases h2 : c % 2 = 1
  · rw [if_pos (by omega), if_pos h2]
    have := bits_xor16 (c / 2) 33800 (by omega) (by decide)
    rw [show ((33800 : Nat) : Int) = 33800 from rfl] at this
    rw [this]
  · rw [if_neg (by omega), if_neg h2]
def steps : Nat → Nat → Nat
  | 0, c => c
  | d + 1, c => steps d (bitstep c)
theorem refAdd_loop (d : Nat) : ∀ (i c : Nat), i + d = 8 → c < 65536 → Ev (fun k => windhoverref03_Add.l0 k (c : Int) (i : Int)) ((steps d c : Nat) : Int) := by
  induction d with
  | zero =>
    intro i c hi _
    refine Ev.step (fun k => ?_) (Ev.now _)
    simp only [windhoverref03_Add.l0]
    rw [if_neg (by omega)]
    rfl
  | succ d ih => exact fun i c hi hc => refAdd_step c i hc (by omega) (ih (i + 1) (bitstep c) (by omega) (bitstep_lt hc))
theorem steps_eight (x : Nat) : steps 8 x = four (four x) := by simp only [steps, four]
theorem refAdd_eq (c b : Nat) (hc : c < 65536) (hb : b < 256) : Ev (fun k => windhoverref03_Add.f k (c : Int) (b : Int)) ((add c b : Nat) : Int) := by
  have hx : c ^^^ b < 65536 := Nat.xor_lt_two_pow (n := 16) hc (by omega)
  have e : ∀ k, windhoverref03_Add.f k (c : Int) (b : Int) = windhoverref03_Add.l0 k ((c ^^^ b : Nat) : Int) ((0 : Nat) : Int) := by
    intro k
    unfold windhoverref03_Add.f
    rw [wrap_u16, show (b : Int) % 65536 = b by omega, bits_xor16 _ _ hc (by omega)]
    rfl
  refine Ev.congr e ?_
  unfold add
  rw [← steps_eight]
  exact refAdd_loop 8 0 _ rfl hx
theorem refSum_loop (s : ByteArray) (hs : s.size < 9223372036854775807) (d : Nat) : ∀ (i c : Nat), i + d = s.size → c < 65536 →
    Ev (fun k => windhoverref03_Sum.l0 k s (c : Int) (i : Int)) ((((ls s).drop i).foldl (fun c b => add c b.toNat) c : Nat) : Int) := by
  induction d with
  | zero =>
    intro i c hi hc
    refine Ev.step (f := fun _ => some (c : Int)) (fun k => ?_) ?_
    · simp only [windhoverref03_Sum.l0]
      rw [if_neg (by omega)]
    · rw [List.drop_of_length_le (by rw [ls_len]; omega)]
      exact Ev.now _
  | succ d ih =>
    intro i c hi hc
    have hl : i < (ls s).length := by rw [ls_len]; omega
    have h := ih (i + 1) (add c ((ls s)[i]).toNat) (by omega) (add_lt hc ((ls s)[i]).toNat_lt)
    rw [drop_cons hl, List.foldl_cons]
    refine Ev.step (fun k => ?_) (Ev.bind (f := fun k t => windhoverref03_Sum.l0 k s t ((i + 1 : Nat) : Int)) (refAdd_eq c ((ls s)[i]).toNat hc ((ls s)[i]).toNat_lt) h)
    simp only [windhoverref03_Sum.l0]
    rw [if_pos (by omega), if_pos (by omega), bt_eq s i hl, wrap_up i (by omega)]
theorem refSum_eq (s : ByteArray) (hs : s.size < 9223372036854775807) : Ev (fun k => windhoverref03_Sum.f k s) ((sum (ls s) : Nat) : Int) := by
  have h := refSum_loop s hs s.size 0 65535 (by omega) (by decide)
  exact h
end Go.Proofs.Ytbbinmplkbpcdaa.Fs
