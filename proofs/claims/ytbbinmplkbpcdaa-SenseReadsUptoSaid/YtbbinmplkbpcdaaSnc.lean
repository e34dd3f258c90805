import Derived.Test.YtbbinmplkbpcdaaSnb
import Derived.Test.YtbbinmplkbpcdaaFsB
import Derived.Defers
import Derived.Recover
set_option linter.unusedVariables false
set_option linter.constructorNameAsVariable false
namespace Go.Proofs.Ytbbinmplkbpcdaa.Ps
open Go.RowKit Go.Proofs.Ytbbinmplkbpcdaa.Wd Go.Proofs.YtbbinmplkbpcdaaW.PrintWords Go.Proofs.YtbbinmplkbpcdaaW.PrintLast Go.Proofs.YtbbinmplkbpcdaaW.PrintMore
set_option maxRecDepth 100000 in
theorem catch_panicking (a b c : Nat) (v : Value) (x : Int) (t : Bool) (u : TypeId) (pv : Value) (older : List PanicEntry) (w : World) (ha : w.heap[a]? = some (.cells #[v] 36 (0, 0))) (hb : w.heap[b]? = some (.cells #[.int .i64 x] 3 (0, 0))) (hc : w.heap[c]? = some (.cells #[.bool t] 4 (0, 0))) :
    CallsD Try.prog 108 #[.pointer (some ⟨a, 0, none⟩), .pointer (some ⟨b, 0, none⟩), .pointer (some ⟨c, 0, none⟩)] (.panicking ({ v := .iface u pv, recovered := false } :: older)) w fun e u' w' =>
      e = .returned (.tuple #[]) ∧ u' = .panicking ({ v := .iface u pv, recovered := true } :: older) ∧ w' = ((w.setCell ⟨a, 0, none⟩ (.slice none 0 0)).setCell ⟨b, 0, none⟩ (.int .i64 0)).setCell ⟨c, 0, none⟩ (.bool false) := by
  have hb' := blk_far hb (p := ⟨a, 0, none⟩) (blk_ne ha hb (by decide)).symm (.slice none 0 0)
  have hc' := blk_far (blk_far hc (p := ⟨a, 0, none⟩) (blk_ne ha hc (by decide)).symm (.slice none 0 0)) (p := ⟨b, 0, none⟩) (blk_ne hb hc (by decide)).symm (.int .i64 0)
  have ha0 : w.cell? ⟨a, 0, none⟩ = some v := (blk_cell ha 0).trans rfl
  have hb0 : (w.setCell ⟨a, 0, none⟩ (.slice none 0 0)).cell? ⟨b, 0, none⟩ = some (.int .i64 x) := (blk_cell hb' 0).trans rfl
  have hc0 : ((w.setCell ⟨a, 0, none⟩ (.slice none 0 0)).setCell ⟨b, 0, none⟩ (.int .i64 0)).cell? ⟨c, 0, none⟩ = some (.bool t) := (blk_cell hc' 0).trans rfl
  have fa := blk_frozen ha 0
  have fb := blk_frozen hb' 0
  have fc := blk_frozen hc' 0
  clear ha hb hc hb' hc'
  refine callsD_of_wpS Try.func108 rfl fun c₀ cs hu => ?_
  apply wpS_seq
  apply wpS_region
  simp [wpOpsS, go_sem, recoverD, hu, Try.ntmps108, Exit.thenS]
  refine wpS_cond (t := true) (by simp [Act.eval, Array.replicate]) ?_
  simp only [if_true]
  apply wpS_region
  simp [wpOpsS, go_sem, ha0, hb0, hc0, fa, fb, fc, bodyPostS, results, Try.results108]
set_option maxRecDepth 100000 in
theorem catch_idle (a b c : Nat) (w : World) :
    CallsD Try.prog 108 #[.pointer (some ⟨a, 0, none⟩), .pointer (some ⟨b, 0, none⟩), .pointer (some ⟨c, 0, none⟩)] .returning w fun e u' w' => e = .returned (.tuple #[]) ∧ u' = .returning ∧ w' = w := by
  refine callsD_of_wpS Try.func108 rfl fun c₀ cs hu => ?_
  apply wpS_seq
  apply wpS_region
  simp [wpOpsS, go_sem, recoverD, hu, Try.ntmps108, Exit.thenS]
  refine wpS_cond (t := false) (by simp [Act.eval, Array.replicate]) ?_
  simp only [Bool.false_eq_true, if_false]
  refine wpS_of_wp (wp_skip ?_)
  cases c₀
  simp_all [bodyPostS, results, Try.results108]
end Go.Proofs.Ytbbinmplkbpcdaa.Ps
