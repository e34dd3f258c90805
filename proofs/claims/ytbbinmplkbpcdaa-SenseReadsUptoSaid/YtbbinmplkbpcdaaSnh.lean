import Derived.Test.YtbbinmplkbpcdaaSng
/-! The chapter's examples (awake). -/
set_option linter.unusedVariables false
set_option linter.constructorNameAsVariable false
namespace Go.Proofs.Ytbbinmplkbpcdaa.Ps
open Go.RowKit Go.Proofs.Ytbbinmplkbpcdaa.Wd Go.Proofs.YtbbinmplkbpcdaaW.PrintWords Go.Proofs.YtbbinmplkbpcdaaW.PrintLast Go.Proofs.YtbbinmplkbpcdaaW.PrintMore
open Go.Proofs.Ytbbinmplkbpcdaa.Fs (ls ls_len ls_inj ls_tail ls_extract)
theorem lit_row {W : World} {base g : Nat} {xs : List Int} {cs : Array Value} (hg : W.heap[g]? = some (.cells cs 3 (0, 0))) (hb : base ≤ g) (hcs : cs.toList = xs.map (Value.int .i64)) (hm : xs.length ≤ 1000) :
    Kd.R (Kd.int .i64) 3 W base (fun _ => True) (.slice (some ⟨g, 0, none⟩) xs.length xs.length) xs := by
  have hs : cs.size = xs.length := by rw [← Array.length_toList, hcs, List.length_map]
  refine Kd.R_of_own ⟨by simp [encs], .inr ⟨g, xs.length, cs, rfl, hb, hg, Nat.le_refl _, by simp only [maxLen]; omega, by omega, ?_⟩⟩ (fun _ _ => trivial)
  rw [List.take_of_length_le (by rw [Array.length_toList]; omega), hcs]
  rfl
theorem aw_1 : sense_Write.f 60 5 [3, -2] = some (⟨#[165, 5, 3, 254, 255, 255, 255, 25, 238]⟩, 0) := by kernel_rfl
theorem aw_2 : sense_Write.f 60 6 [1] = some (⟨#[]⟩, 6) := by kernel_rfl
theorem aw_3 : sense_Read.f 5 ⟨#[0, 165, 165, 5, 3, 254, 255, 255, 255, 25, 238, 165, 5]⟩ = some ([3, -2], true, 2) := by kernel_rfl
theorem aw_4 : sense_Read.f 2 ⟨#[165, 5, 3, 254, 255, 255, 255, 25, 238]⟩ = some ([], false, 1) := by kernel_rfl
theorem aw_5 : windhoverref00_SameInts.f 60 [3, -2] [3, -2] = some true := by kernel_rfl
set_option maxRecDepth 100000 in
set_option maxHeartbeats 2000000 in
theorem awake (w : World) :
    Calls Try.prog 56 #[] w fun e w' => e = .returned (.bool true) ∧ Below w.heap.size w w' := by
  have hc1 : (⟨#[0, 165]⟩ : ByteArray) ++ ⟨#[165, 5, 3, 254, 255, 255, 255, 25, 238]⟩ = ⟨#[0, 165, 165, 5, 3, 254, 255, 255, 255, 25, 238]⟩ := by kernel_rfl
  have hc2 : (⟨#[0, 165, 165, 5, 3, 254, 255, 255, 255, 25, 238]⟩ : ByteArray) ++ ⟨#[165, 5]⟩ = ⟨#[0, 165, 165, 5, 3, 254, 255, 255, 255, 25, 238, 165, 5]⟩ := by kernel_rfl
  go_enter Try.func56, Try.ntmps56
  go_wp2_with fail
  have hl1 : Kd.C (Kd.int .i64) (w.alloc (.cells #[.int .i64 3, .int .i64 (-2)] 3)) (some ⟨w.heap.size, 0, none⟩) 2 [3, -2] :=
    (Kd.R_reads' (lit_row (xs := [3, -2]) (heap_alloc_new w _) (Nat.le_refl w.heap.size) rfl (by decide))).2.2
  refine (sense_Write.calls 60 5 _ _ _ _ _ _ hl1 (Nat.le_refl _) aw_1).mono ?_
  rintro e w1 ⟨rfl, hb1⟩
  have HB1 := Aside0.mk (below_step (below_alloc (Below.refl _ _) _) hb1)
  clear hb1 hl1
  go_wp2_with fail
  refine (sense_Read.calls 5 _ _ _ _ _ aw_3).mono ?_
  rintro e w2 ⟨v2, rfl, hr2, hb2⟩
  have HB2 := Aside0.mk (below_step HB1.out hb2)
  obtain ⟨A2, c2, rfl, hc2', hC2⟩ := Kd.R_reads hr2
  have HC2 := Aside0.mk hC2
  have HCL := Aside0.mk hc2'
  clear hb2 hr2 hC2 HB1 hc2'
  go_wp2_with fail
  refine (sense_Read.calls 2 _ _ _ _ _ aw_4).mono ?_
  rintro e w3 ⟨v3, rfl, hr3, hb3⟩
  have HB3 := Aside0.mk (below_step HB2.out hb3)
  have HC3 := Aside0.mk (Kd.C_below HC2.out hb3)
  clear hb3 hr3 HB2 HC2
  go_wp2_with fail
  have hl2 : Kd.C (Kd.int .i64) (w3.alloc (.cells #[.int .i64 1] 3)) (some ⟨w3.heap.size, 0, none⟩) 1 [1] :=
    (Kd.R_reads' (lit_row (xs := [1]) (heap_alloc_new w3 _) (Nat.le_refl w3.heap.size) rfl (by decide))).2.2
  refine (sense_Write.calls 60 6 _ _ _ _ _ _ hl2 (Nat.le_refl _) aw_2).mono ?_
  rintro e w4 ⟨rfl, hb4⟩
  have HB4 := Aside0.mk (below_step (below_alloc HB3.out _) hb4)
  have HC4 := Aside0.mk (Kd.C_below (Kd.C_alloc HC3.out (.cells #[.int .i64 1] 3)) hb4)
  clear hb4 hl2 HB3 HC3
  go_wp2_with fail
  have hl3 : Kd.C (Kd.int .i64) (w4.alloc (.cells #[.int .i64 3, .int .i64 (-2)] 3)) (some ⟨w4.heap.size, 0, none⟩) 2 [3, -2] :=
    (Kd.R_reads' (lit_row (xs := [3, -2]) (heap_alloc_new w4 _) (Nat.le_refl w4.heap.size) rfl (by decide))).2.2
  refine (windhoverref00_SameInts.calls 60 _ _ _ _ _ _ _ _ (Kd.C_alloc HC4.out (.cells #[.int .i64 3, .int .i64 (-2)] 3)) HCL.out hl3 (Nat.le_refl _) aw_5).mono ?_
  rintro e w5 ⟨rfl, nd, rfl⟩
  have HB5 := Aside0.mk (pw_below_drewN (below_alloc HB4.out (.cells #[.int .i64 3, .int .i64 (-2)] 3)) nd)
  clear hl3 HC4 HB4
  go_wp2
  go_ret
  exact ⟨rfl, HB5.out⟩
end Go.Proofs.Ytbbinmplkbpcdaa.Ps
