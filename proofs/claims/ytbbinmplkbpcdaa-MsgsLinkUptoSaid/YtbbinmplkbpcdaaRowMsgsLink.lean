/- Whatever messages one end of the link writes as frames one behind the other, the other end hears the same messages, in two pieces; conditions: what comes in is of bulk at most 2^20. -/
import Derived.Test.YtbbinmplkbpcdaaRows
import Derived.Test.YtbbinmplkbpcdaaHd
import Derived.Test.YtbbinmplkbpcdaaOpm
import Derived.Test.YtbbinmplkbpcdaaFmJ
import Derived.WalkKit
import Derived.ProofKit
import Derived.OpenShut
import Derived.ShutString
import Derived.ChangeOld
import Derived.Below
import Derived.Carry
import Derived.JoinedCond
import Derived.Lib.SmallJoins
set_option linter.unusedVariables false
namespace Go.Proofs.Ytbbinmplkbpcdaa.msgsLink
open Go.ChangeShapes Go.WideShapes Go.ChangeAt Go.RowKit Go.Proofs.YtbbinmplkbpcdaaW.PrintWords
open Go.ChangeMaps (open_string shut_string)
theorem own : ownKnob Try.prog.godebug = none := by kernel_rfl
theorem laidOut : laidOutB Try.prog = true := by kernel_rfl

set_option maxRecDepth 100000 in
theorem contract (H : Type) (enc : TypeId × Value → H) (W : World) (base : Nat) (args : Array Value) (ds gs : List (DataW H)) (before : List MemPlace)
    (hval : ∀ (j : Nat) t v, Try.f22.params[j]? = some t → args[j]? = some v → Value.okWide Try.prog W .any base t v)
    (hW : DataW.Whole enc Try.prog Try.f22.params.toList Rows.msgsLinkSpec.vars false W args.toList ds gs before) (hk0 : Rows.uptoSmall H (ds ++ gs) = true) :
    Calls Try.prog 22 args W fun e W' => ∃ v, e = .returned v ∧ Rows.msgsLinkSpec.post enc Try.prog Try.f22 false true false false W args v W' := by
  have hW' := hW
  obtain ⟨p, q, hA0, hV, rfl, hfz, hnd⟩ := hW
  have hA : DataW.TrodAll enc Try.prog W 0 (fun _ => true) true Try.f22.params.toList args.toList ds p := hA0
  rw [Try.params22] at hA hval
  obtain ⟨v0, vs0, d0, ds0, p0, q0, hargs, rfl, rfl, h0, r0⟩ := trodAll_cons hA
  obtain ⟨v1, vs1, d1, ds1, p1, q1, rfl, rfl, rfl, h1, r1⟩ := trodAll_cons r0
  obtain ⟨rfl, rfl, rfl⟩ := trodAll_nil r1
  obtain rfl : args = #[v0, v1] := by cases args; simp_all
  obtain ⟨rfl, rfl⟩ := trodVars_none hV
  have hb := OpPm.bulk_two (show Rows.uptoSmall H [d0, d1] = true from hk0)
  have k0 := h0
  have lt0 : ∀ x ∈ p0, x.block < W.heap.size := by obtain ⟨m, hm⟩ := k0; exact DataW.trod_lt m _ _ _ hm
  obtain ⟨A0, c0, l0, rfl, hc0, hr0, g0, m0⟩ := OpPm.arg_slice Try.underlying43 (by kernel_rfl) OpPm.opens_message (hval 0 43 v0 rfl rfl) h0
  obtain ⟨a1, rfl, rfl, rfl, w1⟩ := open_int Try.underlying3 (hval 1 3 v1 rfl rfl) h1
  have e1 : Rows.uptoBulk (DataW.lit (H := H) (.int .i64 a1)) = 1 := by simp [Rows.uptoBulk]
  rw [e1] at hb
  clear hA0
  simp only [List.append_nil] at hW'
  refine (Fm.link_walk A0 c0 l0 a1 W hr0 hc0 g0 m0 w1 (by first | exact hb | omega)).mono fun e W' ⟨he, bel⟩ => ?_
  subst he
  exact ⟨_, rfl, _, _, _, [], _, [], hW', trodAll_mk1 (shut_bool Try.underlying4 _), (trodAll_cons_mk (Below.trod laidOut (by kernel_rfl) (of_decide_eq_true (by kernel_rfl)) k0 bel lt0) (trodAll_cons_mk (shut_int Try.underlying3 w1) trodAll_mk0)), rfl, bel.frame _, fun h => by cases h⟩

set_option maxRecDepth 100000 in
theorem lifted (os : Os) (started : os.Started) (H : Type) (enc : TypeId × Value → H) (F : Stop.Interp) :
    ReturnsInHanded {} Try.checked os 22 .any ((Rows.OpenSpec.upto Rows.msgsLinkSpec).pre6 enc Try.prog Try.f22 Rows.msgsLinkUptoRow.domain false) (((Rows.OpenSpec.upto Rows.msgsLinkSpec).at F).post enc Try.prog Try.f22 false true false false) := by
  refine returnsInHanded_of_cond (C := Try.checked) (s := Rows.OpenSpec.upto Rows.msgsLinkSpec) (k := Rows.uptoSmall) rfl own started (by kernel_rfl) Try.func22
    (OpenSpec.witness (enc := enc) (C := Try.checked) (s := Rows.OpenSpec.upto Rows.msgsLinkSpec) (k := Rows.uptoSmall) rfl false ⟨#[], #[.slice none 0 0, .int .i64 0], []⟩ 8 (by kernel_rfl) (by kernel_rfl) (by kernel_rfl)
      (x := ([.nil, .lit (.int .i64 0)], [], [])) (by kernel_rfl) rfl (by kernel_rfl)) ?_
  intro W base args ds gs before hval hW _ hk _
  exact contract H enc W base args ds gs before hval hW hk

set_option maxRecDepth 100000 in
theorem closed : joinedFacts Try.checked.prog 22 Try.f22 (Rows.OpenSpec.upto Rows.msgsLinkSpec).bare Rows.msgsLinkUptoRow = true := by
  simp only [joinedFacts, Bool.and_eq_true]
  repeat' apply And.intro
  all_goals (first | with_reducible exact Hd.enters' | (rw [Hd.lifts']; rfl) | (rw [Hd.makes']; rfl) | (as_aux_lemma => kernel_rfl))

theorem proved : Rows.MsgsLinkUptoSaid :=
  OpenClaim.holds_of_cond 22 Try.f22 rfl rfl rfl rfl rfl rfl rfl ⟨rfl, rfl, rfl, rfl, rfl⟩ rfl rfl rfl rfl rfl (by as_aux_lemma => kernel_rfl) Try.func22 closed
    (of_decide_eq_true (by kernel_rfl)) (by unfold Func.isWrapper; first | (rw [if_pos (by decide +kernel)]; kernel_rfl) | (rw [if_neg (by decide +kernel)]; exact ⟨rfl, rfl⟩))
    (fun os started H enc _ F => lifted os started H enc F)
end Go.Proofs.Ytbbinmplkbpcdaa.msgsLink

