import Derived.Test.YtbbinmplkbpcdaaPs1
import Derived.WalkLawsBesides
import Derived.BigQuiet
set_option linter.unusedVariables false
set_option linter.constructorNameAsVariable false
namespace Go.Proofs.Ytbbinmplkbpcdaa.Ps
open Go.RowKit Go.Proofs.YtbbinmplkbpcdaaW.PrintWords Go.Proofs.YtbbinmplkbpcdaaW.PrintLast Go.Proofs.YtbbinmplkbpcdaaW.PrintMore
/-- A source of bytes. -/
def Src (w : World) (g : Nat) (d : ByteArray) (at_ : Int) : Prop := w.heap[g]? = some (.cells #[.string d, .int .i64 at_] 142 (0, 0))
/-- All but block g is kept. -/
def Kp (w w' : World) (g : Nat) : Prop := KeepBut w w' g none ∧ ∀ w0 : World, Below w0.heap.size w0 w → w0.heap.size ≤ g → Below w0.heap.size w0 w'
theorem Kp.refl (w : World) (g : Nat) : Kp w w g := ⟨KeepBut.refl _ _ _, fun _ h _ => h⟩
theorem Kp.set_ {w w' : World} {g : Nat} (h : Kp w w' g) (j : Nat) (u : Value) : Kp w (w'.setCell ⟨g, j, none⟩ u) g := ⟨h.1.set_ j u, fun w0 hb hg => below_set (h.2 w0 hb hg) hg⟩
theorem Kp.drewN {w w' : World} {g : Nat} (h : Kp w w' g) (n : Nat) : Kp w (w'.drewN n) g := ⟨keep_drewN h.1 n, fun w0 hb hg => pw_below_drewN (h.2 w0 hb hg) n⟩
theorem Kp.trans {w w1 w2 : World} {g : Nat} (h : Kp w w1 g) (k : Kp w1 w2 g) : Kp w w2 g := ⟨h.1.trans k.1 (.inl rfl), fun w0 hb hg => k.2 w0 (h.2 w0 hb hg) hg⟩
/-- The panic where bytes end. -/
def early_ : List PanicEntry := [{ v := .iface 151 (.agg #[]), recovered := false }]
set_option maxRecDepth 100000 in
set_option maxHeartbeats 1000000 in
theorem next_early (g : Nat) (d : ByteArray) (i : Int) (w : World) (h : Src w g d i) (hc : decide (i ≥ (d.size : Int)) = true) :
    Calls Try.prog 109 #[.pointer (some ⟨g, 0, none⟩)] w fun e w' => e = .panicked early_ ∧ ∃ n, w' = w.drewN n := by
  have h0 : w.cell? ⟨g, 0, none⟩ = some (.string d) := (blk_cell h 0).trans rfl
  have h1 : w.cell? ⟨g, 1, none⟩ = some (.int .i64 i) := (blk_cell h 1).trans rfl
  clear h
  go_enter Try.func109, Try.ntmps109
  go_wp2_with fail
  go_quiet (fail)
  go_wp2
  exact ⟨rfl, rfl, _, rfl⟩
set_option maxRecDepth 100000 in
set_option maxHeartbeats 1000000 in
theorem next_ok (g : Nat) (d : ByteArray) (i : Nat) (w : World) (h : Src w g d i) (hi : i < d.size) (hd : d.size < 9223372036854775807) :
    Calls Try.prog 109 #[.pointer (some ⟨g, 0, none⟩)] w fun e w' => e = .returned (.int .u8 (bt d (i : Int))) ∧ Src w' g d ((i + 1 : Nat) : Int) ∧ Kp w w' g := by
  have h0 : w.cell? ⟨g, 0, none⟩ = some (.string d) := (blk_cell h 0).trans rfl
  have h1 : w.cell? ⟨g, 1, none⟩ = some (.int .i64 (i : Int)) := (blk_cell h 1).trans rfl
  have f1 := blk_frozen h 1
  have HS := Aside0.mk h
  clear h
  obtain ⟨j, hj⟩ : ∃ j : Int, (i : Int) = j := ⟨_, rfl⟩
  have e1 : wrap64 (j + 1) = j + 1 := by unfold wrap64; omega
  have e2 : IntKind.i64.wrap j = j := by rw [IntKind.wrap_i64]; clear e1; omega
  have e3 : ((i + 1 : Nat) : Int) = j + 1 := by clear e1 e2; omega
  have c1 : decide (j ≥ (d.size : Int)) = false := decide_eq_false (by clear e1 e2; omega)
  have b1 : (0 ≤ j) = True := eq_true (by clear e1 e2; omega)
  have b2 : (j < (d.size : Int)) = True := eq_true (by clear e1 e2; omega)
  rw [hj] at h1 ⊢
  rw [e3]
  have HJ := Aside0.mk hj
  clear hj e3 hi
  go_enter Try.func109, Try.ntmps109
  go_wp2_with fail
  go_quiet (fail)
  go_wp2_with fail
  have HS2 : Src ((w.drewN nq).setCell ⟨g, 1, none⟩ (.int .i64 (j + 1))) g d (j + 1) := by
    have h := HS.out
    rw [HJ.out] at h
    exact blk_put (cs := #[.string d, .int .i64 j]) (blk_drewN h nq) 1 (.int .i64 (j + 1)) rfl
  have HK : Kp w ((w.drewN nq).setCell ⟨g, 1, none⟩ (.int .i64 (j + 1))) g := ((Kp.refl w g).drewN nq).set_ 1 _
  generalize (w.drewN nq).setCell ⟨g, 1, none⟩ (.int .i64 (j + 1)) = w2 at HS2 HK ⊢
  clear h0 h1 f1 HS
  have h0 : w2.cell? ⟨g, 0, none⟩ = some (.string d) := (blk_cell HS2 0).trans rfl
  have h1 : w2.cell? ⟨g, 1, none⟩ = some (.int .i64 (j + 1)) := (blk_cell HS2 1).trans rfl
  have HS2 := Aside0.mk HS2
  have HK := Aside0.mk HK
  rw [e1]
  have hbt : ∀ hh : j.toNat < d.size, ((d[j.toNat]'hh).toNat : Int) = bt d j := fun hh => bt_at d j hh
  go_quiet (fail)
  go_wp2
  go_ret
  exact ⟨rfl, HS2.out, HK.out.drewN _⟩
end Go.Proofs.Ytbbinmplkbpcdaa.Ps
