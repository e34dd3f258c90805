import Derived.Test.YtbbinmplkbpcdaaPs
import Derived.Test.YtbbinmplkbpcdaaFsB
import Derived.Test.YtbbinmplkbpcdaaWe
import Derived.BigQuiet
/-! Lists that are lent: they are as they were, the room behind them too. -/
set_option linter.unusedVariables false
set_option linter.constructorNameAsVariable false
namespace Go.Proofs.Ytbbinmplkbpcdaa.Ps
open Go.RowKit Go.Proofs.Ytbbinmplkbpcdaa.Wd Go.Proofs.YtbbinmplkbpcdaaW.PrintWords Go.Proofs.YtbbinmplkbpcdaaW.PrintLast Go.Proofs.YtbbinmplkbpcdaaW.PrintMore
theorem sameInts_loop (l : List Int) (hl : l.length < 4611686018427387904) (d : Nat) : ∀ i : Nat, i + d = l.length → Ev (fun k => windhoverref00_SameInts.l0 k l l (i : Int)) true := by
  induction d with
  | zero =>
    intro i hi
    refine Ev.step (fun k => ?_) (Ev.now _)
    rw [windhoverref00_SameInts.l0, if_neg (by omega)]
  | succ d ih =>
    intro i hi
    refine Ev.step (fun k => ?_) (ih (i + 1) (by omega))
    have e1 : wrap64 ((i : Int) + 1) = ((i + 1 : Nat) : Int) := by rw [w64 (by omega) (by omega)]; rfl
    rw [windhoverref00_SameInts.l0, if_pos (by clear e1; omega), if_pos (by clear e1; omega), if_pos (by clear e1; omega), if_pos rfl, e1]
theorem sameInts_eq (l : List Int) (hl : l.length < 4611686018427387904) : Ev (fun k => windhoverref00_SameInts.f k l l) true := by
  refine Ev.congr (fun k => ?_) (sameInts_loop l hl l.length 0 (by omega))
  unfold windhoverref00_SameInts.f
  rw [if_pos rfl]
  rfl
theorem sameInts_self {A0 A1 : Option Addr} {c0 c1 : Nat} {l : List Int} {w : World} (hl : l.length < 4611686018427387904) (hr0 : Kd.C (Kd.int .i64) w A0 l.length l) (hc0 : l.length ≤ c0) (hr1 : Kd.C (Kd.int .i64) w A1 l.length l) (hc1 : l.length ≤ c1) :
    Calls Try.prog 55 #[.slice A0 l.length c0, .slice A1 l.length c1] w fun e w' => e = .returned (.bool true) ∧ Drawn0 w w' := by
  obtain ⟨K, hK⟩ := sameInts_eq l hl
  exact windhoverref00_SameInts.calls K A0 c0 l A1 c1 l true w hr0 hc0 hr1 hc1 (hK K (Nat.le_refl _))
/-- xs[:j], j above the length and within the capacity. -/
theorem cut_beyond (A : Option Addr) (n c : Nat) (j : Int) (h0 : 0 ≤ j) (hc : j ≤ c) :
    ∀ W : World, (Instr.slice 36 (.slice A n c) none (some (.int .i64 j)) none).run Try.prog W = .ok (.slice A j.toNat c) W := by
  intro W
  obtain ⟨i, hi, _⟩ := Option.map_eq_some_iff.1 info3
  have hel : Try.prog.elem 36 = 3 := by simp [Program.elem, Try.underlying36]
  have hu : Try.prog.underlying 36 = some (.slice (Try.prog.elem 36)) := by rw [hel]; exact Try.underlying36
  have ha : (A.map fun x => x.add 0) = A := by cases A <;> simp [Addr.add]
  rw [run_slice_h W 36 A n c hu .i64 j h0 hc, hel]
  simp [sizeOf, typeInfo, hi, sliced, Result.andThen, ha]
set_option maxRecDepth 100000 in
set_option maxHeartbeats 2000000 in
theorem kept_full (A0 A1 : Option Addr) (c0 c1 : Nat) (l : List Int) (w : World) (hl : l.length ≤ 1099511627776) (hr0 : Kd.C (Kd.int .i64) w A0 (l.length + 4) (l ++ [-7770777, -7770777, -7770777, -7770777])) (hc0 : l.length + 4 ≤ c0) (hr1 : Kd.C (Kd.int .i64) w A1 l.length l) (hc1 : l.length ≤ c1) :
    Calls Try.prog 61 #[.slice A0 l.length c0, .slice A1 l.length c1] w fun e w' => e = .returned (.bool true) ∧ Drawn0 w w' := by
  have hu36 := Try.underlying36
  have HR1 := Aside0.mk hr1
  have HC0 := Aside0.mk hc0
  have HC1 := Aside0.mk hc1
  have HL := Aside0.mk hl
  have hlen : (l ++ [-7770777, -7770777, -7770777, -7770777]).length = l.length + 4 := by simp
  have hr0' : Kd.C (Kd.int .i64) w A0 (l ++ [-7770777, -7770777, -7770777, -7770777]).length (l ++ [-7770777, -7770777, -7770777, -7770777]) := by rw [hlen]; exact hr0
  have htk := Kd.C_take (m := l.length) hr0' (by rw [hlen]; omega)
  rw [List.take_left] at htk
  have HR0 := Aside0.mk htk
  have HRF := Aside0.mk hr0
  have HRN : Aside0 (∀ x : Int, l.length ≤ x → x < (l.length : Int) + 4 → rd (l ++ [-7770777, -7770777, -7770777, -7770777]) x = -7770777) := ⟨by
    intro x h0 h1
    unfold rd
    rw [List.getD_eq_getElem?_getD, List.getElem?_append_right (by omega)]
    rcases (by omega : x.toNat - l.length = 0 ∨ x.toNat - l.length = 1 ∨ x.toNat - l.length = 2 ∨ x.toNat - l.length = 3) with h | h | h | h <;> rw [h] <;> rfl⟩
  obtain ⟨m, hm⟩ : ∃ m : Int, (l.length : Int) + 4 = m := ⟨_, rfl⟩
  have hcut := cut_beyond A0 l.length c0 m (by omega) (by have := HC0.out; omega)
  have hw4 : wrap64 ((l.length : Int) + 4) = m := by rw [← hm]; unfold wrap64; omega
  have hmn : m.toNat = l.length + 4 := by clear hw4; omega
  have HM := Aside0.mk hm
  obtain ⟨M, hM⟩ : ∃ M : Nat, m.toNat = M := ⟨_, rfl⟩
  rw [hM] at hcut hmn
  have HMN := Aside0.mk hmn
  clear hM
  clear hr0 hr1 hc0 hc1 hr0' htk hlen hl hmn hm
  go_enter Try.func61, Try.ntmps61
  go_wp2_with fail
  refine (sameInts_self (by have := HL.out; clear hw4; omega) HR0.out (by have := HC0.out; clear hw4; omega) HR1.out HC1.out).mono ?_
  rintro e w1 ⟨rfl, nd, rfl⟩
  go_wp2_with fail
  have HRFd := Aside0.mk (Kd.C_drewN HRF.out nd)
  go_loopg [6] 4 (fun kq v6 w' => ∃ (x : Int), v6 = .int .i64 x ∧ Aside0 ((l.length : Int) ≤ x ∧ (kq : Int) + x = l.length + 4) ∧ Aside0 (w' = w.drewN nd))
  case atStart => exact ⟨_, rfl, ⟨Int.le_refl _, by rw [Int.add_comm]; rfl⟩, ⟨rfl⟩⟩
  case round =>
    obtain ⟨x, rfl, HX, HWD⟩ := hrel
    have hwd := HWD.out
    subst hwd
    clear HWD
    cases gk with
    | zero =>
      have c1 : decide (x < (M : Int)) = false := decide_eq_false (by rw [HMN.out]; have := HX.out; clear hw4; omega)
      go_wp2_with fail
      go_ret
      exact ⟨rfl, nd, rfl⟩
    | succ k1 =>
      have c1 : decide (x < (M : Int)) = true := decide_eq_true (by rw [HMN.out]; have := HX.out; clear hw4; omega)
      have c2 : x < ((l.length + 4 : Nat) : Int) := by have := HX.out; clear hw4; omega
      have p2 : 0 ≤ x := by have := HX.out; clear hw4; omega
      obtain ⟨ad, e2, hx0⟩ := Kd.at_int HRFd.out x p2 c2
      rw [HRN.out x HX.out.1 (by have := HX.out; clear hw4; omega)] at hx0
      cases e2
      have b1 : (0 ≤ x) = True := eq_true p2
      have b2 : (x < (M : Int)) = True := eq_true (of_decide_eq_true c1)
      have E1 : Aside0 (wrap64 (x + 1) = x + 1) := ⟨by have := HX.out; have := HL.out; clear hw4; unfold wrap64; omega⟩
      clear c2 p2
      go_wp2_with fail
      go_roundg k1
      case measure => clear hw4; omega
      case rel => exact ⟨_, congrArg (Value.int .i64) E1.out, ⟨by have := HX.out; clear hw4; omega⟩, ⟨rfl⟩⟩
end Go.Proofs.Ytbbinmplkbpcdaa.Ps
