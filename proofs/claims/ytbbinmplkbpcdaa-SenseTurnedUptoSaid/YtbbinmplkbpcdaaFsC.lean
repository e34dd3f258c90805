import Derived.Test.YtbbinmplkbpcdaaFsB
/-! The check tells one turned byte (as in the frame laws' text). -/
set_option linter.unusedVariables false
namespace Go.Proofs.Ytbbinmplkbpcdaa.Fs
open Go.RowKit Go.Proofs.Ytbbinmplkbpcdaa.Ps Go.Proofs.YtbbinmplkbpcdaaW.PrintWords Go.Proofs.YtbbinmplkbpcdaaW.PrintLast Go.Proofs.YtbbinmplkbpcdaaW.PrintMore
theorem size_ofNat {n : Nat} (h : n < 256) : (UInt8.ofNat n).toNat = n := by
  rw [UInt8.toNat_ofNat']
  omega
/-! ### the check tells one turned byte -/
theorem xor_zero_eq {a b : Nat} (h : a ^^^ b = 0) : a = b := by
  have h2 : (a ^^^ b) ^^^ b = 0 ^^^ b := by rw [h]
  rw [Nat.xor_assoc, Nat.xor_self, Nat.xor_zero, Nat.zero_xor] at h2
  exact h2
theorem bitstep_zero {x : Nat} (hx : x < 65536) (h : bitstep x = 0) : x = 0 := by
  unfold bitstep at h
  split at h
  · have := xor_zero_eq h
    omega
  · omega
theorem four_zero {x : Nat} (hx : x < 65536) (h : four x = 0) : x = 0 :=
  bitstep_zero hx (bitstep_zero (bitstep_lt hx) (bitstep_zero (bitstep_lt (bitstep_lt hx)) (bitstep_zero (bitstep_lt (bitstep_lt (bitstep_lt hx))) h)))
theorem four_inj {a b : Nat} (ha : a < 65536) (hb : b < 65536) (h : four a = four b) : a = b := by
  refine xor_zero_eq (four_zero (Nat.xor_lt_two_pow (n := 16) ha hb) ?_)
  rw [four_xor, h, Nat.xor_self]
theorem xor_right_inj {a b c : Nat} (h : a ^^^ c = b ^^^ c) : a = b := by
  have h2 : (a ^^^ c) ^^^ c = (b ^^^ c) ^^^ c := by rw [h]
  simpa only [Nat.xor_assoc, Nat.xor_self, Nat.xor_zero] using h2
theorem add_state {c c' b : Nat} (hc : c < 65536) (hc' : c' < 65536) (hb : b < 256) (h : add c b = add c' b) : c = c' := by
  have h1 : c ^^^ b < 65536 := Nat.xor_lt_two_pow (n := 16) hc (by omega)
  have h2 : c' ^^^ b < 65536 := Nat.xor_lt_two_pow (n := 16) hc' (by omega)
  exact xor_right_inj (four_inj h1 h2 (four_inj (four_lt h1) (four_lt h2) h))
theorem add_byte {c b b' : Nat} (hc : c < 65536) (hb : b < 256) (hb' : b' < 256) (h : add c b = add c b') : b = b' := by
  have h1 : c ^^^ b < 65536 := Nat.xor_lt_two_pow (n := 16) hc (by omega)
  have h2 : c ^^^ b' < 65536 := Nat.xor_lt_two_pow (n := 16) hc (by omega)
  have h3 := four_inj h1 h2 (four_inj (four_lt h1) (four_lt h2) h)
  rw [Nat.xor_comm c b, Nat.xor_comm c b'] at h3
  exact xor_right_inj h3
theorem fold_state (l : List UInt8) : ∀ {c c' : Nat}, c < 65536 → c' < 65536 → l.foldl (fun c b => add c b.toNat) c = l.foldl (fun c b => add c b.toNat) c' → c = c' := by
  induction l with
  | nil => exact fun _ _ h => h
  | cons b l ih => exact fun hc hc' h => add_state hc hc' b.toNat_lt (ih (add_lt hc b.toNat_lt) (add_lt hc' b.toNat_lt) h)
theorem fold_byte (l : List UInt8) : ∀ {c : Nat} (j : Nat) (b : UInt8) (hj : j < l.length), c < 65536 → l.foldl (fun c b => add c b.toNat) c = (l.set j b).foldl (fun c b => add c b.toNat) c → l[j] = b := by
  induction l with
  | nil => intro c j b hj; exact absurd hj (by simp)
  | cons x l ih =>
    intro c j b hj hc h
    cases j with
    | zero =>
      have h1 := fold_state l (add_lt hc x.toNat_lt) (add_lt hc b.toNat_lt) h
      exact UInt8.toNat_inj.1 (add_byte hc x.toNat_lt b.toNat_lt h1)
    | succ j => exact ih j b (by simpa using hj) (add_lt hc x.toNat_lt) h
theorem sum_byte {l : List UInt8} {j : Nat} {b : UInt8} (hj : j < l.length) (h : sum l = sum (l.set j b)) : l[j] = b := fold_byte l j b hj (by decide) h
theorem bits_xor8 (a b : Nat) (ha : a < 256) (hb : b < 256) : Go.bits .xor .u8 (a : Int) (b : Int) = ((a ^^^ b : Nat) : Int) := by
  have h : Go.bits .xor .u8 (a : Int) (b : Int) = IntKind.u8.wrap (((BitVec.ofInt 8 a ^^^ BitVec.ofInt 8 b).toNat : Nat) : Int) := rfl
  have hw : ∀ n : Int, IntKind.u8.wrap n = n % 256 := fun n => by simp [IntKind.wrap, IntKind.bits, IntKind.signed]
  rw [h, hw, BitVec.toNat_xor, BitVec.ofInt_natCast, BitVec.ofInt_natCast, BitVec.toNat_ofNat, BitVec.toNat_ofNat, Nat.mod_eq_of_lt ha, Nat.mod_eq_of_lt hb]
  have : a ^^^ b < 256 := Nat.xor_lt_two_pow (n := 8) ha hb
  omega
theorem xor_ne (x : UInt8) (t : Nat) (h0 : t ≠ 0) (h1 : t < 256) : x ≠ UInt8.ofNat (x.toNat ^^^ t) := by
  intro e
  have hx := x.toNat_lt
  have hlt : x.toNat ^^^ t < 256 := Nat.xor_lt_two_pow (n := 8) hx h1
  have e2 : x.toNat = x.toNat ^^^ t := by
    have := congrArg UInt8.toNat e
    rw [size_ofNat hlt] at this
    exact this
  apply h0
  have e3 : 0 ^^^ x.toNat = t ^^^ x.toNat := by rw [Nat.zero_xor, Nat.xor_comm]; exact e2
  exact (xor_right_inj e3).symm
end Go.Proofs.Ytbbinmplkbpcdaa.Fs
