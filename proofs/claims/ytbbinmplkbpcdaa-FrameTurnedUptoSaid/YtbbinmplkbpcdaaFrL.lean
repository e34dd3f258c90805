import Derived.Test.YtbbinmplkbpcdaaPr5
import Derived.BigQuiet
import Derived.Lib.ConvBytes
/-! FrameTurned: the walk. -/
set_option linter.unusedVariables false
set_option linter.unusedSectionVars false
set_option linter.constructorNameAsVariable false
namespace Go.Proofs.Ytbbinmplkbpcdaa.Fr
open Go.RowKit Go.Proofs.Ytbbinmplkbpcdaa.Pr Go.Proofs.YtbbinmplkbpcdaaW.PrintWords Go.Proofs.YtbbinmplkbpcdaaW.PrintLast Go.Proofs.YtbbinmplkbpcdaaW.PrintMore

set_option maxRecDepth 100000 in
set_option maxHeartbeats 2000000 in
theorem turned_fail {k : Nat} {a0 a1 : Int} {p : ByteArray} (at_ turn : Int) {s : ByteArray} {e : Int} (hE : frame_Encode.f k a0 a1 p = some (s, e)) (hc : e ≠ 0 ∨ at_ < 2 ∨ at_ = 3 ∨ at_ ≥ s.size ∨ turn = 0) (w : World) :
    Calls Try.prog 13 #[.agg #[.int .i64 a0, .int .i64 a1, .string p], .int .i64 at_, .int .u8 turn] w fun e w' => e = .returned (.bool true) ∧ Below w.heap.size w w' := by
  have hu45 := Try.underlying45
  go_enter Try.func13, Try.ntmps13
  go_wp2_with fail
  refine (frame_Encode.calls k a0 a1 p _ _ _ hE).mono ?_
  rintro e1 w1 ⟨rfl, hb1⟩
  have HB := Aside0.mk (((Below.refl _ _).alloc (Nat.le_refl _) _).trans (hb1.mono (by simp)))
  clear hb1 hE
  by_cases h1 : e = 0
  · have c1 : (e != 0) = false := bne_eq_false_iff_eq.mpr h1
    by_cases h2 : at_ < 2
    · have c2 : decide (at_ < 2) = true := decide_eq_true h2
      clear hc
      go_wp2_with fail
      refine (windhoverlaw04_awake.calls true _ rfl).mono ?_
      rintro e w2 ⟨rfl, hb2⟩
      go_wp2
      go_ret
      exact ⟨rfl, HB.out.trans (hb2.mono HB.out.size)⟩
    · have c2 : decide (at_ < 2) = false := decide_eq_false h2
      by_cases h3 : at_ = 3
      · have c3 : (at_ == 3) = true := beq_iff_eq.mpr h3
        clear hc
        go_wp2_with fail
        refine (windhoverlaw04_awake.calls true _ rfl).mono ?_
        rintro e w2 ⟨rfl, hb2⟩
        go_wp2
        go_ret
        exact ⟨rfl, HB.out.trans (hb2.mono HB.out.size)⟩
      · have c3 : (at_ == 3) = false := beq_eq_false_iff_ne.mpr h3
        by_cases h4 : at_ ≥ (s.size : Int)
        · have c4 : decide (at_ ≥ (s.size : Int)) = true := decide_eq_true h4
          clear hc
          go_wp2_with fail
          refine (windhoverlaw04_awake.calls true _ rfl).mono ?_
          rintro e w2 ⟨rfl, hb2⟩
          go_wp2
          go_ret
          exact ⟨rfl, HB.out.trans (hb2.mono HB.out.size)⟩
        · have c4 : decide (at_ ≥ (s.size : Int)) = false := decide_eq_false h4
          by_cases h5 : turn = 0
          · have c5 : (turn == 0) = true := beq_iff_eq.mpr h5
            clear hc
            go_wp2_with fail
            refine (windhoverlaw04_awake.calls true _ rfl).mono ?_
            rintro e w2 ⟨rfl, hb2⟩
            go_wp2
            go_ret
            exact ⟨rfl, HB.out.trans (hb2.mono HB.out.size)⟩
          · have c5 : (turn == 0) = false := beq_eq_false_iff_ne.mpr h5
            rcases hc with h | h | h | h | h
            · exact absurd h1 h
            · exact absurd h h2
            · exact absurd h h3
            · exact absurd h h4
            · exact absurd h h5
  · have c1 : (e != 0) = true := bne_iff_ne.mpr h1
    clear hc
    go_wp2_with fail
    refine (windhoverlaw04_awake.calls true _ rfl).mono ?_
    rintro e w2 ⟨rfl, hb2⟩
    go_wp2
    go_ret
    exact ⟨rfl, HB.out.trans (hb2.mono HB.out.size)⟩
end Go.Proofs.Ytbbinmplkbpcdaa.Fr
