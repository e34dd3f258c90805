import Derived.Test.YtbbinmplkbpcdaaSnh
import Derived.Test.YtbbinmplkbpcdaaOpn
/-! SenseWrites. -/
set_option linter.unusedVariables false
set_option linter.constructorNameAsVariable false
namespace Go.Proofs.Ytbbinmplkbpcdaa.Ps
open Go.RowKit Go.Proofs.Ytbbinmplkbpcdaa.Wd Go.Proofs.YtbbinmplkbpcdaaW.PrintWords Go.Proofs.YtbbinmplkbpcdaaW.PrintLast Go.Proofs.YtbbinmplkbpcdaaW.PrintMore
open Go.Proofs.Ytbbinmplkbpcdaa.Fs (ls ls_len ls_inj ls_tail ls_extract)
/-- A list that is lent: it reads as the list, and as the list with its marks. -/
theorem lent (A0 : Option Addr) (c0 : Nat) (l : List Int) (w : World) (hr : Kd.C (Kd.int .i64) w A0 l.length l) (hc : l.length ≤ c0) (hl : l.length ≤ 1099511627776) :
    Calls Try.prog 58 #[.slice A0 l.length c0] w fun e w' => ∃ (A : Option Addr) (c : Nat), e = .returned (.slice A l.length c) ∧ l.length + 4 ≤ c ∧ Kd.C (Kd.int .i64) w' A l.length l ∧ Kd.C (Kd.int .i64) w' A (l.length + 4) (l ++ [-7770777, -7770777, -7770777, -7770777]) ∧ Below w.heap.size w w' := by
  refine (windhoverkeep_Lent.full A0 c0 l w hr hc hl).mono ?_
  rintro e w' ⟨A, c, rfl, h1, h2, h3⟩
  have h4 := (Kd.R_reads' h2).2.2
  have hlen : (l ++ [-7770777, -7770777, -7770777, -7770777]).length = l.length + 4 := by simp
  have h5 := Kd.C_take (m := l.length) h4 (by rw [hlen]; omega)
  rw [List.take_left] at h5
  exact ⟨A, c, rfl, h1, h5, by rw [hlen] at h4; exact h4, h3⟩
theorem write_calls (s : Int) (A : Option Addr) (c : Nat) (l : List Int) (w : World) (hr : Kd.C (Kd.int .i64) w A l.length l) (hc : l.length ≤ c) :
    Calls Try.prog 59 #[.int .u8 s, .slice A l.length c] w fun e w' => e = .returned (.tuple #[.string (wrR s l).1, .int .i64 (wrR s l).2]) ∧ Below w.heap.size w w' := by
  obtain ⟨K, hK⟩ := write_eq s l
  exact sense_Write.calls K s A c l _ _ w hr hc (hK K (Nat.le_refl _))
set_option maxRecDepth 100000 in
set_option maxHeartbeats 2000000 in
theorem writes_walk (s : Int) (A : Option Addr) (c : Nat) (l : List Int) (w : World) (hr : Kd.C (Kd.int .i64) w A l.length l) (hc : l.length ≤ c) (hl : l.length ≤ 1099511627776) :
    Calls Try.prog 17 #[.int .u8 s, .slice A l.length c] w fun e w' => e = .returned (.bool true) ∧ Below w.heap.size w w' := by
  have HR := Aside0.mk hr
  have HC := Aside0.mk hc
  have HL := Aside0.mk hl
  clear hr hc hl
  go_enter Try.func17, Try.ntmps17
  go_wp2_with fail
  refine (lent A c l _ HR.out HC.out HL.out).mono ?_
  rintro e w1 ⟨A1, c1, rfl, hc1, h1, h2, hb1⟩
  have HB1 := Aside0.mk hb1
  have HR1 := Aside0.mk (Kd.C_below HR.out hb1)
  have HA := Aside0.mk h1
  have HM := Aside0.mk h2
  have HC1 := Aside0.mk hc1
  clear hb1 HR h1 h2 hc1
  go_wp2_with fail
  refine (write_calls s A1 c1 l _ HA.out (by have := HC1.out; omega)).mono ?_
  rintro e w2 ⟨rfl, hb2⟩
  have HB2 := Aside0.mk (below_step HB1.out hb2)
  have HR2 := Aside0.mk (Kd.C_below HR1.out hb2)
  have HM2 := Aside0.mk (Kd.C_below HM.out hb2)
  clear hb2 HR1 HM HB1 HA
  go_wp2_with fail
  obtain ⟨K, hK⟩ := refWrite_eq s l
  have HK := Aside0.mk (hK K (Nat.le_refl _))
  clear hK
  obtain ⟨r1, h1⟩ : ∃ r1, (wrR s l).1 = r1 := ⟨_, rfl⟩
  obtain ⟨r2, h2⟩ : ∃ r2, (wrR s l).2 = r2 := ⟨_, rfl⟩
  have HK2 : Aside0 (windhoverref11_Write.f K s l = some (r1, r2)) := ⟨by rw [← h1, ← h2]; exact HK.out⟩
  rw [h1, h2]
  clear HK h1 h2
  refine (windhoverref11_Write.calls K s A c l r1 r2 _ HR2.out HC.out HK2.out).mono ?_
  rintro e w3 ⟨rfl, hb3⟩
  have HB3 := Aside0.mk (below_step HB2.out hb3)
  have HR3 := Aside0.mk (Kd.C_below HR2.out hb3)
  have HM3 := Aside0.mk (Kd.C_below HM2.out hb3)
  clear hb3 HR2 HM2 HB2
  go_wp2_with fail
  refine (awake _).mono ?_
  rintro e w4 ⟨rfl, hb4⟩
  have HB4 := Aside0.mk (below_step HB3.out hb4)
  have HR4 := Aside0.mk (Kd.C_below HR3.out hb4)
  have HM4 := Aside0.mk (Kd.C_below HM3.out hb4)
  clear hb4 HR3 HM3 HB3
  go_wp2_with fail
  refine (kept_full A1 A c1 c l _ HL.out HM4.out HC1.out HR4.out HC.out).mono ?_
  rintro e w5 ⟨rfl, nd, rfl⟩
  go_wp2
  go_ret
  exact ⟨rfl, pw_below_drewN HB4.out nd⟩
/-- The walk of SenseWrites. -/
theorem writes_law (s : Int) (A : Option Addr) (c : Nat) (l : List Int) (w : World) {b : Nat} (ws : (Lit.int .u8 s).wf = true) (hr : Kd.C (Kd.int .i64) w A l.length l) (hc : l.length ≤ c) (g : ∀ x ∈ l, (Lit.int .i64 x).wf = true) (m : OpPs.all_ (fun _ => 1) l + 1 ≤ b) (hb : 1 + b ≤ 1048576) :
    Calls Try.prog 17 #[.int .u8 s, .slice A l.length c] w fun e w' => e = .returned (.bool true) ∧ Below w.heap.size w w' := by
  rw [OpPs.all_ones] at m
  exact writes_walk s A c l w hr hc (by omega)
end Go.Proofs.Ytbbinmplkbpcdaa.Ps
