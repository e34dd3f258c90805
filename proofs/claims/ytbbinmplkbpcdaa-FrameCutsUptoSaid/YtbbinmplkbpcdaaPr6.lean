-- PRINTED by print.py (a twelfth state) out of the translation. Not trusted: Lean checks it.
import Derived.Test.YtbbinmplkbpcdaaPr0
import Derived.Test.YtbbinmplkbpcdaaPr2
namespace Go.Proofs.Ytbbinmplkbpcdaa.Pr
open Go.RowKit Go.Proofs.YtbbinmplkbpcdaaW.PrintWords Go.Proofs.YtbbinmplkbpcdaaW.PrintLast Go.Proofs.YtbbinmplkbpcdaaW.PrintMore
attribute [local go_sem] max2_int min2_int max_two min_two max_three min_three max_four min_four   -- for this text's walks alone
set_option linter.unusedVariables false
set_option linter.unusedSimpArgs false

/-! ### windhoverref04_Read: function 47 -/
mutual
def windhoverref04_Read.l0 : Nat → ByteArray → List (S45) → Int → Int → Option ((List (S45)) × Int × Int)
  | 0, _, _, _, _ => none
  | k + 1, x0, x5, x6, x7 => if x7 < (x0.size : Int) then (if 0 ≤ x7 then (if (bt x0 x7) = 253 then (if (wrap64 (x7 + 1)) < (x0.size : Int) then (if 0 ≤ (wrap64 (x7 + 1)) then (windhoverref04_Read.j1 k x0 x5 x6 x7 (decide ((bt x0 (wrap64 (x7 + 1))) > 64))) else (none)) else (windhoverref04_Read.j1 k x0 x5 x6 x7 false)) else (windhoverref04_Read.l0 k x0 x5 x6 (wrap64 (x7 + 1)))) else (none)) else (some (x5, x6, 0))
def windhoverref04_Read.j1 : Nat → ByteArray → List (S45) → Int → Int → Bool → Option ((List (S45)) × Int × Int)
  | 0, _, _, _, _, _ => none
  | k + 1, x0, x5, x6, x7, x32 => if x32 = true then (windhoverref04_Read.l0 k x0 x5 (wrap64 (x6 + 1)) (wrap64 (x7 + 1))) else (if (wrap64 (x7 + 1)) = (x0.size : Int) then (windhoverref04_Read.j2 k x0 x5 x6 x7 true) else (if 0 ≤ (wrap64 (x7 + 1)) then (if (wrap64 (x7 + 1)) < (x0.size : Int) then (windhoverref04_Read.j2 k x0 x5 x6 x7 (decide ((wrap64 ((wrap64 (x7 + 6)) + (wrap64 (bt x0 (wrap64 (x7 + 1)))))) > (x0.size : Int)))) else (none)) else (none)))
def windhoverref04_Read.j2 : Nat → ByteArray → List (S45) → Int → Int → Bool → Option ((List (S45)) × Int × Int)
  | 0, _, _, _, _, _ => none
  | k + 1, x0, x5, x6, x7, x54 => if x54 = true then (some (x5, x6, wrap64 ((x0.size : Int) - x7))) else (if 0 ≤ (wrap64 (x7 + 1)) then (if (wrap64 (x7 + 1)) < (x0.size : Int) then (if 0 ≤ (wrap64 (x7 + 4)) then (if (wrap64 (x7 + 4)) ≤ (wrap64 ((wrap64 (x7 + 4)) + (wrap64 (bt x0 (wrap64 (x7 + 1)))))) then (if (wrap64 ((wrap64 (x7 + 4)) + (wrap64 (bt x0 (wrap64 (x7 + 1)))))) ≤ (x0.size : Int) then (if 0 ≤ (wrap64 (x7 + 2)) then (if (wrap64 (x7 + 2)) < (x0.size : Int) then (if 0 ≤ (wrap64 (x7 + 3)) then (if (wrap64 (x7 + 3)) < (x0.size : Int) then ((windhoverref04_check.f k (bt x0 (wrap64 (x7 + 1))) (bt x0 (wrap64 (x7 + 2))) (bt x0 (wrap64 (x7 + 3))) (x0.extract ((wrap64 (x7 + 4)) : Int).toNat ((wrap64 ((wrap64 (x7 + 4)) + (wrap64 (bt x0 (wrap64 (x7 + 1)))))) : Int).toNat)).bind fun t167 => (if 0 ≤ (wrap64 ((wrap64 (x7 + 4)) + (wrap64 (bt x0 (wrap64 (x7 + 1)))))) then (if (wrap64 ((wrap64 (x7 + 4)) + (wrap64 (bt x0 (wrap64 (x7 + 1)))))) < (x0.size : Int) then (if (bt x0 (wrap64 ((wrap64 (x7 + 4)) + (wrap64 (bt x0 (wrap64 (x7 + 1))))))) = ((Int.tmod t167 256) % 256) then (if 0 ≤ (wrap64 ((wrap64 (x7 + 5)) + (wrap64 (bt x0 (wrap64 (x7 + 1)))))) then (if (wrap64 ((wrap64 (x7 + 5)) + (wrap64 (bt x0 (wrap64 (x7 + 1)))))) < (x0.size : Int) then (if (bt x0 (wrap64 ((wrap64 (x7 + 5)) + (wrap64 (bt x0 (wrap64 (x7 + 1))))))) = ((IntKind.u16.wrap (Int.tdiv t167 256)) % 256) then (if x5.length < 4398046511104 then (windhoverref04_Read.l0 k x0 (x5 ++ [(⟨wrap64 (bt x0 (wrap64 (x7 + 2))), wrap64 (bt x0 (wrap64 (x7 + 3))), x0.extract ((wrap64 (x7 + 4)) : Int).toNat ((wrap64 ((wrap64 (x7 + 4)) + (wrap64 (bt x0 (wrap64 (x7 + 1)))))) : Int).toNat⟩ : S45)]) x6 (wrap64 ((wrap64 (x7 + 6)) + (wrap64 (bt x0 (wrap64 (x7 + 1))))))) else (none)) else (windhoverref04_Read.l0 k x0 x5 (wrap64 (x6 + 1)) (wrap64 (x7 + 1)))) else (none)) else (none)) else (windhoverref04_Read.l0 k x0 x5 (wrap64 (x6 + 1)) (wrap64 (x7 + 1)))) else (none)) else (none))) else (none)) else (none)) else (none)) else (none)) else (none)) else (none)) else (none)) else (none)) else (none))
end
def windhoverref04_Read.f (k : Nat) (a0 : ByteArray) : Option ((List (S45)) × Int × Int) := windhoverref04_Read.l0 k a0 ([] : List (S45)) 0 0
theorem windhoverref04_Read.mono_l : ∀ k, (∀ y0 y1 y2 y3, LeO (windhoverref04_Read.l0 k y0 y1 y2 y3) (windhoverref04_Read.l0 (k + 1) y0 y1 y2 y3)) ∧ (∀ y0 y1 y2 y3 y4, LeO (windhoverref04_Read.j1 k y0 y1 y2 y3 y4) (windhoverref04_Read.j1 (k + 1) y0 y1 y2 y3 y4)) ∧ (∀ y0 y1 y2 y3 y4, LeO (windhoverref04_Read.j2 k y0 y1 y2 y3 y4) (windhoverref04_Read.j2 (k + 1) y0 y1 y2 y3 y4))
  | 0 => ⟨fun _ _ _ _ r h => by simp [windhoverref04_Read.l0] at h, fun _ _ _ _ _ r h => by simp [windhoverref04_Read.j1] at h, fun _ _ _ _ _ r h => by simp [windhoverref04_Read.j2] at h⟩
  | k + 1 => by
    obtain ⟨ih0, ih1, ih2⟩ := windhoverref04_Read.mono_l k
    refine ⟨?_, ?_, ?_⟩
    · intro y0 y1 y2 y3
      unfold windhoverref04_Read.l0
      repeat' first
      | (with_reducible exact ih0 _ _ _ _)
      | (with_reducible exact ih1 _ _ _ _ _)
      | (with_reducible exact ih2 _ _ _ _ _)
      | (with_reducible exact windhoverref04_check.mono _ _ _ _ _)
      | (with_reducible exact LeO.refl _)
      | (with_reducible exact LeO.none _)
      | (with_reducible refine LeO.ite ?_ ?_)
      | (with_reducible refine LeO.bind ?_ (fun _ => ?_))
      | exact ih0 _ _ _ _
      | exact ih1 _ _ _ _ _
      | exact ih2 _ _ _ _ _
      | exact windhoverref04_check.mono _ _ _ _ _
      | exact LeO.none _
      | refine LeO.ite ?_ ?_
      | refine LeO.bind ?_ (fun _ => ?_)
    · intro y0 y1 y2 y3 y4
      unfold windhoverref04_Read.j1
      repeat' first
      | (with_reducible exact ih0 _ _ _ _)
      | (with_reducible exact ih1 _ _ _ _ _)
      | (with_reducible exact ih2 _ _ _ _ _)
      | (with_reducible exact windhoverref04_check.mono _ _ _ _ _)
      | (with_reducible exact LeO.refl _)
      | (with_reducible exact LeO.none _)
      | (with_reducible refine LeO.ite ?_ ?_)
      | (with_reducible refine LeO.bind ?_ (fun _ => ?_))
      | exact ih0 _ _ _ _
      | exact ih1 _ _ _ _ _
      | exact ih2 _ _ _ _ _
      | exact windhoverref04_check.mono _ _ _ _ _
      | exact LeO.none _
      | refine LeO.ite ?_ ?_
      | refine LeO.bind ?_ (fun _ => ?_)
    · intro y0 y1 y2 y3 y4
      unfold windhoverref04_Read.j2
      repeat' first
      | (with_reducible exact ih0 _ _ _ _)
      | (with_reducible exact ih1 _ _ _ _ _)
      | (with_reducible exact ih2 _ _ _ _ _)
      | (with_reducible exact windhoverref04_check.mono _ _ _ _ _)
      | (with_reducible exact LeO.refl _)
      | (with_reducible exact LeO.none _)
      | (with_reducible refine LeO.ite ?_ ?_)
      | (with_reducible refine LeO.bind ?_ (fun _ => ?_))
      | exact ih0 _ _ _ _
      | exact ih1 _ _ _ _ _
      | exact ih2 _ _ _ _ _
      | exact windhoverref04_check.mono _ _ _ _ _
      | exact LeO.none _
      | refine LeO.ite ?_ ?_
      | refine LeO.bind ?_ (fun _ => ?_)
theorem windhoverref04_Read.mono : ∀ a0 k, LeO (windhoverref04_Read.f k a0) (windhoverref04_Read.f (k + 1) a0) := by
  intro a0 k
  obtain ⟨ih0, ih1, ih2⟩ := windhoverref04_Read.mono_l k
  unfold windhoverref04_Read.f
  repeat' first
      | (with_reducible exact ih0 _ _ _ _)
      | (with_reducible exact ih1 _ _ _ _ _)
      | (with_reducible exact ih2 _ _ _ _ _)
      | (with_reducible exact windhoverref04_check.mono _ _ _ _ _)
      | (with_reducible exact LeO.refl _)
      | (with_reducible exact LeO.none _)
      | (with_reducible refine LeO.ite ?_ ?_)
      | (with_reducible refine LeO.bind ?_ (fun _ => ?_))
      | exact ih0 _ _ _ _
      | exact ih1 _ _ _ _ _
      | exact ih2 _ _ _ _ _
      | exact windhoverref04_check.mono _ _ _ _ _
      | exact LeO.none _
      | refine LeO.ite ?_ ?_
      | refine LeO.bind ?_ (fun _ => ?_)
def windhoverref04_Read.T14 : Bool × List (List Nat × List Nat) := (true, [([], []), ([], []), ([1], [1]), ([0, 2], [0, 2]), ([], []), ([], []), ([5], [5]), ([4, 6], [4, 6]), ([], []), ([], []), ([9], [9]), ([8, 10], [8, 10]), ([], []), ([3, 7, 11, 12], [3, 7, 11, 12]), ([13, 13, 0, 1, 2, 3, 4, 5, 6, 7, 8, 9, 10, 11, 12, 13], [13])])
def windhoverref04_Read.B14 : List Nat := [0, 0, 2, 7, 0, 0, 32, 112, 0, 0, 512, 1792, 0, 8191, 16383]
theorem windhoverref04_Read.tab14 : rtab .any (opsOf Try.f47 14) = windhoverref04_Read.T14 := by kernel_rfl
theorem windhoverref04_Read.bits14 : waitsOk windhoverref04_Read.T14.2 windhoverref04_Read.B14 = true := by kernel_rfl
def windhoverref04_Read.T18 : Bool × List (List Nat × List Nat) := (true, [([], []), ([], []), ([], []), ([2], [2]), ([1, 3], [1, 3]), ([4], [4]), ([], []), ([], []), ([7], [7]), ([6, 8], [6, 8]), ([9], [9]), ([], []), ([5, 10, 11], [5, 10, 11]), ([12], [12]), ([0, 13], [0, 13]), ([14, 14, 0, 1, 2, 3, 4, 5, 6, 7, 8, 9, 10, 11, 12, 13, 14], [0, 14])])
def windhoverref04_Read.B18 : List Nat := [0, 0, 0, 4, 14, 30, 0, 0, 128, 448, 960, 0, 4094, 8190, 16383, 32767]
theorem windhoverref04_Read.tab18 : rtab .any (opsOf Try.f47 18) = windhoverref04_Read.T18 := by kernel_rfl
theorem windhoverref04_Read.bits18 : waitsOk windhoverref04_Read.T18.2 windhoverref04_Read.B18 = true := by kernel_rfl
set_option maxHeartbeats 8000000 in
set_option maxRecDepth 100000 in
theorem windhoverref04_Read.calls (k : Nat) (a0 : ByteArray) (r1 : List (S45)) (r2 : Int) (r3 : Int) (w : World) (h : windhoverref04_Read.f k a0 = some (r1, r2, r3)) :
    Calls Try.prog 47 #[.string a0] w fun e w' => ∃ v0_ : Value, e = .returned (.tuple #[v0_, .int .i64 r2, .int .i64 r3]) ∧ Kd.R k45 45 w' w.heap.size (fun _ => True) v0_ r1 ∧ Below w.heap.size w w' := by
  have hu45 := Try.underlying45
  have HB := Aside0.mk (Below.refl w.heap.size w)
  have H : (windhoverref04_Read.l0 k a0 ([] : List (S45)) 0 0) = some (r1, r2, r3) := h
  clear h
  have H' := Aside0.mk H
  clear H
  go_enter Try.func47, Try.ntmps47
  go_wp2
  go_loopg [5, 6, 7] k (fun kq v5 v6 v7 w' => ∃ (x5_1 : List (S45)) (x6_1 : Int) (x7_1 : Int), v6 = .int .i64 x6_1 ∧ v7 = .int .i64 x7_1 ∧ Aside0 (windhoverref04_Read.l0 kq a0 x5_1 x6_1 x7_1 = some (r1, r2, r3)) ∧ Aside0 (kq ≤ k) ∧ Aside0 (Kd.R k45 45 w' w.heap.size (fun _ => True) v5 x5_1) ∧ Aside0 (Below w.heap.size w w'))
  case atStart => exact ⟨(([] : List (S45))), (0), (0), (by first | rfl | (simp; done) | (simp [*]; done)), (by first | rfl | (simp; done) | (simp [*]; done)), H', ⟨Nat.le_refl _⟩, ⟨by first | exact Kd.R_nil _ _ _ _ _ | exact Kd.N_nil _ _ _ _ _ | exact Kd.V_nil _ _ _ _ _ | exact Kd.Q_nil _ _ _ _ _ | exact Kd.S_nil _ _ _ _ _⟩, ⟨by repeat (first | (with_reducible first | exact HB.out | apply below_alloc | apply pw_below_drewN | apply below_drew1) | exact HB.out)⟩⟩
  case round =>
    clear H'
    obtain ⟨x5_1, x6_1, x7_1, rfl, rfl, HA, HK1, HO_5, HB⟩ := hrel
    cases gk with
    | zero => exact absurd HA.out (by simp [windhoverref04_Read.l0])
    | succ k1 =>
      have H := HA.out
      clear HA
      simp only [windhoverref04_Read.l0] at H
      by_cases c2 : x7_1 < (a0.size : Int)
      · rw [if_pos c2] at H
        have c2b0 : decide (x7_1 < (a0.size : Int)) = true := decide_eq_true c2
        clear c2
        by_cases c3 : 0 ≤ x7_1
        · rw [if_pos c3] at H
          have c3b0 : decide (0 ≤ x7_1) = true := decide_eq_true c3
          clear c3
          by_cases c5 : (bt a0 x7_1) = 253
          · rw [if_pos c5] at H
            have c5b0 : ((bt a0 x7_1) == 253) = true := beq_iff_eq.mpr c5
            have c5b1 : ((bt a0 x7_1) != 253) = false := bne_eq_false_iff_eq.mpr c5
            clear c5
            have HC6 := Aside0.mk H
            clear H
            have p4 : 0 ≤ (x7_1 : Int) := of_decide_eq_true (by first | (with_reducible assumption) | assumption)
            have q4 : x7_1 < (a0.size : Int) := of_decide_eq_true (by first | (with_reducible assumption) | assumption)
            have hx4 := bt_at a0 x7_1
            replace p4 := eq_true p4
            replace q4 := eq_true q4
            go_upto_region 7 with (fail)
            go_cut [32] (fun v32 wc => ∃ (kq : Nat) (x32_5 : Bool), v32 = .bool x32_5 ∧ Aside0 (windhoverref04_Read.j1 kq a0 x5_1 x6_1 x7_1 x32_5 = some (r1, r2, r3)) ∧ Aside0 (kq ≤ k1) ∧ Aside0 (Kd.R k45 45 wc w.heap.size (fun _ => True) u5 x5_1) ∧ Aside0 (Below w.heap.size w wc))
            case first =>
              have H := HC6.out
              clear HC6
              by_cases c7 : (wrap64 (x7_1 + 1)) < (a0.size : Int)
              · rw [if_pos c7] at H
                have c7b0 : decide ((wrap64 (x7_1 + 1)) < (a0.size : Int)) = true := decide_eq_true c7
                clear c7
                (first | rw [c7b0] | (simp only [i64_w, i32_w]; rw [c7b0]) | skip)
                obtain ⟨ji8, hji8⟩ : ∃ j_ : Int, (wrap64 (x7_1 + 1)) = j_ := ⟨_, rfl⟩
                replace H : (if 0 ≤ (ji8) then (windhoverref04_Read.j1 k1 a0 x5_1 x6_1 x7_1 (decide ((bt a0 (ji8)) > 64))) else (none)) = some (r1, r2, r3) := by first | (rw [hji8] at H; exact H) | (simp only [hji8] at H ⊢; exact H)
                (try rw [hji8] at c7b0)
                have hji8w : (IntKind.i64.wrap (x7_1 + 1)) = ji8 := (i64_w _).trans hji8
                by_cases c9 : 0 ≤ (ji8)
                · rw [if_pos c9] at H
                  have c9b0 : decide (0 ≤ (ji8)) = true := decide_eq_true c9
                  clear c9
                  have H' := Aside0.mk H
                  clear H
                  have p10 : 0 ≤ ((ji8) : Int) := of_decide_eq_true (by first | (with_reducible assumption) | assumption)
                  have q10 : (ji8) < (a0.size : Int) := of_decide_eq_true (by first | (with_reducible assumption) | assumption)
                  have hx10 := bt_at a0 (ji8)
                  replace p10 := eq_true p10
                  replace q10 := eq_true q10
                  go_wp2
                  go_meet
                  case rel => exact ⟨_, (decide ((bt a0 (ji8)) > 64)), (by first | rfl | (simp; done) | (simp only [← hji8] <;> (first | rfl | simp)) | (simp [*]; done)), H', ⟨by have := HK1.out; first | omega | exact Nat.le_refl _⟩, ⟨by (with_reducible repeat (first | apply Kd.R_alloc | apply Kd.R_drewN | apply Kd.R_drew)); exact HO_5.out⟩, ⟨by repeat (first | (with_reducible first | exact HB.out | apply below_alloc | apply pw_below_drewN | apply below_drew1) | exact HB.out)⟩⟩
                · rw [if_neg c9] at H
                  exact absurd H (by simp)
              · rw [if_neg c7] at H
                have c7b0 : decide ((wrap64 (x7_1 + 1)) < (a0.size : Int)) = false := decide_eq_false c7
                clear c7
                (first | rw [c7b0] | (simp only [i64_w, i32_w]; rw [c7b0]) | skip)
                have H' := Aside0.mk H
                clear H
                go_wp2
                go_meet
                case rel => exact ⟨_, (false), (by first | rfl | (simp; done) | (simp [*]; done)), H', ⟨by have := HK1.out; first | omega | exact Nat.le_refl _⟩, ⟨by (with_reducible repeat (first | apply Kd.R_alloc | apply Kd.R_drewN | apply Kd.R_drew)); exact HO_5.out⟩, ⟨by repeat (first | (with_reducible first | exact HB.out | apply below_alloc | apply pw_below_drewN | apply below_drew1) | exact HB.out)⟩⟩
            case rest =>
              clear HC6
              try clear p1
              try clear q1
              try clear hx1
              try clear c2
              try clear c2b0
              try clear p2
              try clear c3
              try clear c3b0
              try clear c4
              try clear p4
              try clear q4
              try clear hx4
              try clear c5
              try clear c5b0
              try clear c5b1
              try clear p6
              try clear c7
              try clear c7b0
              try clear c9
              try clear c9b0
              try clear p10
              try clear q10
              try clear hx10
              try clear p10
              try clear p4
              try clear q10
              try clear q4
              obtain ⟨kq, x32_5, rfl, HA, HJ5, HO_5, HB⟩ := hcut
              cases kq with
              | zero => exact absurd HA.out (by simp [windhoverref04_Read.j1])
              | succ kj5 =>
                have H := HA.out
                clear HA
                simp only [windhoverref04_Read.j1] at H
                by_cases c11 : x32_5 = true
                · subst c11
                  have H1 : (windhoverref04_Read.l0 kj5 a0 x5_1 (wrap64 (x6_1 + 1)) (wrap64 (x7_1 + 1))) = some (r1, r2, r3) := by rw [if_pos rfl] at H; exact H
                  clear H
                  have H := H1
                  clear H1
                  have H' := Aside0.mk H
                  clear H
                  go_wp2
                  go_roundg kj5
                  case measure => have := HK1.out; have := HJ5.out; omega
                  case rel => exact ⟨(x5_1), (wrap64 (x6_1 + 1)), (wrap64 (x7_1 + 1)), (by first | rfl | (simp; done) | (simp [*]; done)), (by first | rfl | (simp; done) | (simp [*]; done)), H', ⟨by have := HK1.out; have := HJ5.out; omega⟩, ⟨by (with_reducible repeat (first | apply Kd.R_alloc | apply Kd.R_drewN | apply Kd.R_drew)); exact HO_5.out⟩, ⟨by repeat (first | (with_reducible first | exact HB.out | apply below_alloc | apply pw_below_drewN | apply below_drew1) | exact HB.out)⟩⟩
                · replace c11 := Bool.eq_false_iff.mpr c11
                  subst c11
                  have H1 : (if (wrap64 (x7_1 + 1)) = (a0.size : Int) then (windhoverref04_Read.j2 kj5 a0 x5_1 x6_1 x7_1 true) else (if 0 ≤ (wrap64 (x7_1 + 1)) then (if (wrap64 (x7_1 + 1)) < (a0.size : Int) then (windhoverref04_Read.j2 kj5 a0 x5_1 x6_1 x7_1 (decide ((wrap64 ((wrap64 (x7_1 + 6)) + (wrap64 (bt a0 (wrap64 (x7_1 + 1)))))) > (a0.size : Int)))) else (none)) else (none))) = some (r1, r2, r3) := by rw [if_neg (show ¬ (false = true) by decide)] at H; exact H
                  clear H
                  have H := H1
                  clear H1
                  have HC12 := Aside0.mk H
                  clear H
                  go_upto_region 10 with (fail)
                  go_cut [54] (fun v54 wc => ∃ (kq : Nat) (x54_11 : Bool), v54 = .bool x54_11 ∧ Aside0 (windhoverref04_Read.j2 kq a0 x5_1 x6_1 x7_1 x54_11 = some (r1, r2, r3)) ∧ Aside0 (kq ≤ kj5) ∧ Aside0 (Kd.R k45 45 wc w.heap.size (fun _ => True) u5 x5_1) ∧ Aside0 (Below w.heap.size w wc))
                  case first =>
                    have H := HC12.out
                    clear HC12
                    by_cases c13 : (wrap64 (x7_1 + 1)) = (a0.size : Int)
                    · rw [if_pos c13] at H
                      have c13b0 : ((wrap64 (x7_1 + 1)) == (a0.size : Int)) = true := beq_iff_eq.mpr c13
                      have c13b1 : ((wrap64 (x7_1 + 1)) != (a0.size : Int)) = false := bne_eq_false_iff_eq.mpr c13
                      clear c13
                      (first | rw [c13b0] | (simp only [i64_w, i32_w]; rw [c13b0]) | skip)
                      have H' := Aside0.mk H
                      clear H
                      go_wp2
                      go_meet
                      case rel => exact ⟨_, (true), (by first | rfl | (simp; done) | (simp [*]; done)), H', ⟨by have := HK1.out; have := HJ5.out; first | omega | exact Nat.le_refl _⟩, ⟨by (with_reducible repeat (first | apply Kd.R_alloc | apply Kd.R_drewN | apply Kd.R_drew)); exact HO_5.out⟩, ⟨by repeat (first | (with_reducible first | exact HB.out | apply below_alloc | apply pw_below_drewN | apply below_drew1) | exact HB.out)⟩⟩
                    · rw [if_neg c13] at H
                      have c13b0 : ((wrap64 (x7_1 + 1)) == (a0.size : Int)) = false := beq_eq_false_iff_ne.mpr c13
                      have c13b1 : ((wrap64 (x7_1 + 1)) != (a0.size : Int)) = true := bne_iff_ne.mpr c13
                      (first | rw [c13b0] | (simp only [i64_w, i32_w]; rw [c13b0]) | skip)
                      obtain ⟨ji14, hji14⟩ : ∃ j_ : Int, (wrap64 (x7_1 + 1)) = j_ := ⟨_, rfl⟩
                      replace H : (if 0 ≤ (ji14) then (if (ji14) < (a0.size : Int) then (windhoverref04_Read.j2 kj5 a0 x5_1 x6_1 x7_1 (decide ((wrap64 ((wrap64 (x7_1 + 6)) + (wrap64 (bt a0 (ji14))))) > (a0.size : Int)))) else (none)) else (none)) = some (r1, r2, r3) := by first | (rw [hji14] at H; exact H) | (simp only [hji14] at H ⊢; exact H)
                      (try rw [hji14] at c13b0)
                      (try rw [hji14] at c13b1)
                      have hji14w : (IntKind.i64.wrap (x7_1 + 1)) = ji14 := (i64_w _).trans hji14
                      (try rw [hji14] at hji8)
                      (try rw [hji14] at hji8w)
                      by_cases c15 : 0 ≤ (ji14)
                      · rw [if_pos c15] at H
                        have c15b0 : decide (0 ≤ (ji14)) = true := decide_eq_true c15
                        clear c15
                        by_cases c16 : (ji14) < (a0.size : Int)
                        · rw [if_pos c16] at H
                          have c16b0 : decide ((ji14) < (a0.size : Int)) = true := decide_eq_true c16
                          clear c16
                          have H' := Aside0.mk H
                          clear H
                          have p17 : 0 ≤ ((ji14) : Int) := of_decide_eq_true (by first | (with_reducible assumption) | assumption)
                          have q17 : (ji14) < (a0.size : Int) := of_decide_eq_true (by first | (with_reducible assumption) | assumption)
                          have hx17 := bt_at a0 (ji14)
                          replace p17 := eq_true p17
                          replace q17 := eq_true q17
                          go_wp2
                          go_meet
                          case rel => exact ⟨_, (decide ((wrap64 ((wrap64 (x7_1 + 6)) + (wrap64 (bt a0 (ji14))))) > (a0.size : Int))), (by first | rfl | (simp; done) | (simp only [← hji14] <;> (first | rfl | simp)) | (simp [*]; done)), H', ⟨by have := HK1.out; have := HJ5.out; first | omega | exact Nat.le_refl _⟩, ⟨by (with_reducible repeat (first | apply Kd.R_alloc | apply Kd.R_drewN | apply Kd.R_drew)); exact HO_5.out⟩, ⟨by repeat (first | (with_reducible first | exact HB.out | apply below_alloc | apply pw_below_drewN | apply below_drew1) | exact HB.out)⟩⟩
                        · rw [if_neg c16] at H
                          exact absurd H (by simp)
                      · rw [if_neg c15] at H
                        exact absurd H (by simp)
                  case rest =>
                    clear HC12
                    try clear c1
                    try clear p1
                    try clear q1
                    try clear hx1
                    try clear c2
                    try clear c2b0
                    try clear p2
                    try clear c3
                    try clear c3b0
                    try clear c4
                    try clear p4
                    try clear q4
                    try clear hx4
                    try clear c5
                    try clear c5b0
                    try clear c5b1
                    try clear p6
                    try clear c7
                    try clear c7b0
                    try clear c9
                    try clear c9b0
                    try clear p10
                    try clear q10
                    try clear hx10
                    try clear c11
                    try clear c13
                    try clear c13b0
                    try clear c13b1
                    try clear c15
                    try clear c15b0
                    try clear c16
                    try clear c16b0
                    try clear p17
                    try clear q17
                    try clear hx17
                    try clear p1
                    try clear p10
                    try clear p17
                    try clear p2
                    try clear p4
                    try clear p6
                    try clear q1
                    try clear q10
                    try clear q17
                    try clear q4
                    obtain ⟨kq, x54_11, rfl, HA, HJ11, HO_5, HB⟩ := hcut
                    cases kq with
                    | zero => exact absurd HA.out (by simp [windhoverref04_Read.j2])
                    | succ kj11 =>
                      have H := HA.out
                      clear HA
                      simp only [windhoverref04_Read.j2] at H
                      by_cases c18 : x54_11 = true
                      · subst c18
                        have H1 : (some (x5_1, x6_1, wrap64 ((a0.size : Int) - x7_1))) = some (r1, r2, r3) := by rw [if_pos rfl] at H; exact H
                        clear H
                        have H := H1
                        clear H1
                        simp only [Option.some.injEq, Prod.mk.injEq] at H
                        obtain ⟨rfl, rfl, rfl⟩ := H
                        go_wp2
                        go_ret3
                        exact ⟨_, by first | rfl | (simp [errW_none, errW_some] <;> rfl) | (simp [*, errW_none, errW_some] <;> rfl), by (with_reducible repeat (first | apply Kd.R_alloc | apply Kd.R_drewN | apply Kd.R_drew)); exact HO_5.out, by repeat (first | (with_reducible first | exact HB.out | apply below_alloc | apply pw_below_drewN | apply below_drew1) | exact HB.out)⟩
                      · replace c18 := Bool.eq_false_iff.mpr c18
                        subst c18
                        have H1 : (if 0 ≤ (wrap64 (x7_1 + 1)) then (if (wrap64 (x7_1 + 1)) < (a0.size : Int) then (if 0 ≤ (wrap64 (x7_1 + 4)) then (if (wrap64 (x7_1 + 4)) ≤ (wrap64 ((wrap64 (x7_1 + 4)) + (wrap64 (bt a0 (wrap64 (x7_1 + 1)))))) then (if (wrap64 ((wrap64 (x7_1 + 4)) + (wrap64 (bt a0 (wrap64 (x7_1 + 1)))))) ≤ (a0.size : Int) then (if 0 ≤ (wrap64 (x7_1 + 2)) then (if (wrap64 (x7_1 + 2)) < (a0.size : Int) then (if 0 ≤ (wrap64 (x7_1 + 3)) then (if (wrap64 (x7_1 + 3)) < (a0.size : Int) then ((windhoverref04_check.f kj11 (bt a0 (wrap64 (x7_1 + 1))) (bt a0 (wrap64 (x7_1 + 2))) (bt a0 (wrap64 (x7_1 + 3))) (a0.extract ((wrap64 (x7_1 + 4)) : Int).toNat ((wrap64 ((wrap64 (x7_1 + 4)) + (wrap64 (bt a0 (wrap64 (x7_1 + 1)))))) : Int).toNat)).bind fun t167 => (if 0 ≤ (wrap64 ((wrap64 (x7_1 + 4)) + (wrap64 (bt a0 (wrap64 (x7_1 + 1)))))) then (if (wrap64 ((wrap64 (x7_1 + 4)) + (wrap64 (bt a0 (wrap64 (x7_1 + 1)))))) < (a0.size : Int) then (if (bt a0 (wrap64 ((wrap64 (x7_1 + 4)) + (wrap64 (bt a0 (wrap64 (x7_1 + 1))))))) = ((Int.tmod t167 256) % 256) then (if 0 ≤ (wrap64 ((wrap64 (x7_1 + 5)) + (wrap64 (bt a0 (wrap64 (x7_1 + 1)))))) then (if (wrap64 ((wrap64 (x7_1 + 5)) + (wrap64 (bt a0 (wrap64 (x7_1 + 1)))))) < (a0.size : Int) then (if (bt a0 (wrap64 ((wrap64 (x7_1 + 5)) + (wrap64 (bt a0 (wrap64 (x7_1 + 1))))))) = ((IntKind.u16.wrap (Int.tdiv t167 256)) % 256) then (if x5_1.length < 4398046511104 then (windhoverref04_Read.l0 kj11 a0 (x5_1 ++ [(⟨wrap64 (bt a0 (wrap64 (x7_1 + 2))), wrap64 (bt a0 (wrap64 (x7_1 + 3))), a0.extract ((wrap64 (x7_1 + 4)) : Int).toNat ((wrap64 ((wrap64 (x7_1 + 4)) + (wrap64 (bt a0 (wrap64 (x7_1 + 1)))))) : Int).toNat⟩ : S45)]) x6_1 (wrap64 ((wrap64 (x7_1 + 6)) + (wrap64 (bt a0 (wrap64 (x7_1 + 1))))))) else (none)) else (windhoverref04_Read.l0 kj11 a0 x5_1 (wrap64 (x6_1 + 1)) (wrap64 (x7_1 + 1)))) else (none)) else (none)) else (windhoverref04_Read.l0 kj11 a0 x5_1 (wrap64 (x6_1 + 1)) (wrap64 (x7_1 + 1)))) else (none)) else (none))) else (none)) else (none)) else (none)) else (none)) else (none)) else (none)) else (none)) else (none)) else (none)) = some (r1, r2, r3) := by rw [if_neg (show ¬ (false = true) by decide)] at H; exact H
                        clear H
                        have H := H1
                        clear H1
                        obtain ⟨ji19, hji19⟩ : ∃ j_ : Int, (wrap64 (x7_1 + 1)) = j_ := ⟨_, rfl⟩
                        replace H : (if 0 ≤ (ji19) then (if (ji19) < (a0.size : Int) then (if 0 ≤ (wrap64 (x7_1 + 4)) then (if (wrap64 (x7_1 + 4)) ≤ (wrap64 ((wrap64 (x7_1 + 4)) + (wrap64 (bt a0 (ji19))))) then (if (wrap64 ((wrap64 (x7_1 + 4)) + (wrap64 (bt a0 (ji19))))) ≤ (a0.size : Int) then (if 0 ≤ (wrap64 (x7_1 + 2)) then (if (wrap64 (x7_1 + 2)) < (a0.size : Int) then (if 0 ≤ (wrap64 (x7_1 + 3)) then (if (wrap64 (x7_1 + 3)) < (a0.size : Int) then ((windhoverref04_check.f kj11 (bt a0 (ji19)) (bt a0 (wrap64 (x7_1 + 2))) (bt a0 (wrap64 (x7_1 + 3))) (a0.extract ((wrap64 (x7_1 + 4)) : Int).toNat ((wrap64 ((wrap64 (x7_1 + 4)) + (wrap64 (bt a0 (ji19))))) : Int).toNat)).bind fun t167 => (if 0 ≤ (wrap64 ((wrap64 (x7_1 + 4)) + (wrap64 (bt a0 (ji19))))) then (if (wrap64 ((wrap64 (x7_1 + 4)) + (wrap64 (bt a0 (ji19))))) < (a0.size : Int) then (if (bt a0 (wrap64 ((wrap64 (x7_1 + 4)) + (wrap64 (bt a0 (ji19)))))) = ((Int.tmod t167 256) % 256) then (if 0 ≤ (wrap64 ((wrap64 (x7_1 + 5)) + (wrap64 (bt a0 (ji19))))) then (if (wrap64 ((wrap64 (x7_1 + 5)) + (wrap64 (bt a0 (ji19))))) < (a0.size : Int) then (if (bt a0 (wrap64 ((wrap64 (x7_1 + 5)) + (wrap64 (bt a0 (ji19)))))) = ((IntKind.u16.wrap (Int.tdiv t167 256)) % 256) then (if x5_1.length < 4398046511104 then (windhoverref04_Read.l0 kj11 a0 (x5_1 ++ [(⟨wrap64 (bt a0 (wrap64 (x7_1 + 2))), wrap64 (bt a0 (wrap64 (x7_1 + 3))), a0.extract ((wrap64 (x7_1 + 4)) : Int).toNat ((wrap64 ((wrap64 (x7_1 + 4)) + (wrap64 (bt a0 (ji19))))) : Int).toNat⟩ : S45)]) x6_1 (wrap64 ((wrap64 (x7_1 + 6)) + (wrap64 (bt a0 (ji19)))))) else (none)) else (windhoverref04_Read.l0 kj11 a0 x5_1 (wrap64 (x6_1 + 1)) ji19)) else (none)) else (none)) else (windhoverref04_Read.l0 kj11 a0 x5_1 (wrap64 (x6_1 + 1)) ji19)) else (none)) else (none))) else (none)) else (none)) else (none)) else (none)) else (none)) else (none)) else (none)) else (none)) else (none)) = some (r1, r2, r3) := by first | (rw [hji19] at H; exact H) | (simp only [hji19] at H ⊢; exact H)
                        have hji19w : (IntKind.i64.wrap (x7_1 + 1)) = ji19 := (i64_w _).trans hji19
                        (try rw [hji19] at hji8)
                        (try rw [hji19] at hji8w)
                        (try rw [hji19] at hji14)
                        (try rw [hji19] at hji14w)
                        by_cases c20 : 0 ≤ (ji19)
                        · rw [if_pos c20] at H
                          have c20b0 : decide (0 ≤ (ji19)) = true := decide_eq_true c20
                          clear c20
                          by_cases c21 : (ji19) < (a0.size : Int)
                          · rw [if_pos c21] at H
                            have c21b0 : decide ((ji19) < (a0.size : Int)) = true := decide_eq_true c21
                            clear c21
                            obtain ⟨ji23, hji23⟩ : ∃ j_ : Int, (wrap64 (x7_1 + 4)) = j_ := ⟨_, rfl⟩
                            replace H : (if 0 ≤ (ji23) then (if (ji23) ≤ (wrap64 ((ji23) + (wrap64 (bt a0 (ji19))))) then (if (wrap64 ((ji23) + (wrap64 (bt a0 (ji19))))) ≤ (a0.size : Int) then (if 0 ≤ (wrap64 (x7_1 + 2)) then (if (wrap64 (x7_1 + 2)) < (a0.size : Int) then (if 0 ≤ (wrap64 (x7_1 + 3)) then (if (wrap64 (x7_1 + 3)) < (a0.size : Int) then ((windhoverref04_check.f kj11 (bt a0 (ji19)) (bt a0 (wrap64 (x7_1 + 2))) (bt a0 (wrap64 (x7_1 + 3))) (a0.extract ((ji23) : Int).toNat ((wrap64 ((ji23) + (wrap64 (bt a0 (ji19))))) : Int).toNat)).bind fun t167 => (if 0 ≤ (wrap64 ((ji23) + (wrap64 (bt a0 (ji19))))) then (if (wrap64 ((ji23) + (wrap64 (bt a0 (ji19))))) < (a0.size : Int) then (if (bt a0 (wrap64 ((ji23) + (wrap64 (bt a0 (ji19)))))) = ((Int.tmod t167 256) % 256) then (if 0 ≤ (wrap64 ((wrap64 (x7_1 + 5)) + (wrap64 (bt a0 (ji19))))) then (if (wrap64 ((wrap64 (x7_1 + 5)) + (wrap64 (bt a0 (ji19))))) < (a0.size : Int) then (if (bt a0 (wrap64 ((wrap64 (x7_1 + 5)) + (wrap64 (bt a0 (ji19)))))) = ((IntKind.u16.wrap (Int.tdiv t167 256)) % 256) then (if x5_1.length < 4398046511104 then (windhoverref04_Read.l0 kj11 a0 (x5_1 ++ [(⟨wrap64 (bt a0 (wrap64 (x7_1 + 2))), wrap64 (bt a0 (wrap64 (x7_1 + 3))), a0.extract ((ji23) : Int).toNat ((wrap64 ((ji23) + (wrap64 (bt a0 (ji19))))) : Int).toNat⟩ : S45)]) x6_1 (wrap64 ((wrap64 (x7_1 + 6)) + (wrap64 (bt a0 (ji19)))))) else (none)) else (windhoverref04_Read.l0 kj11 a0 x5_1 (wrap64 (x6_1 + 1)) ji19)) else (none)) else (none)) else (windhoverref04_Read.l0 kj11 a0 x5_1 (wrap64 (x6_1 + 1)) ji19)) else (none)) else (none))) else (none)) else (none)) else (none)) else (none)) else (none)) else (none)) else (none)) = some (r1, r2, r3) := by first | (rw [hji23] at H; exact H) | (simp only [hji23] at H ⊢; exact H)
                            have hji23w : (IntKind.i64.wrap (x7_1 + 4)) = ji23 := (i64_w _).trans hji23
                            (try rw [hji23] at hji8)
                            (try rw [hji23] at hji8w)
                            (try rw [hji23] at hji14)
                            (try rw [hji23] at hji14w)
                            (try rw [hji23] at hji19)
                            (try rw [hji23] at hji19w)
                            by_cases c24 : 0 ≤ (ji23)
                            · rw [if_pos c24] at H
                              have c24b0 := eq_true c24
                              have c24b1 : decide (0 ≤ (ji23)) = true := decide_eq_true c24
                              clear c24
                              by_cases c25 : (ji23) ≤ (wrap64 ((ji23) + (wrap64 (bt a0 (ji19)))))
                              · rw [if_pos c25] at H
                                have c25b0 := eq_true c25
                                have c25b1 : decide ((ji23) ≤ (wrap64 ((ji23) + (wrap64 (bt a0 (ji19)))))) = true := decide_eq_true c25
                                by_cases c26 : (wrap64 ((ji23) + (wrap64 (bt a0 (ji19))))) ≤ (a0.size : Int)
                                · rw [if_pos c26] at H
                                  have c26b0 := eq_true c26
                                  have c26b1 : decide ((wrap64 ((ji23) + (wrap64 (bt a0 (ji19))))) ≤ (a0.size : Int)) = true := decide_eq_true c26
                                  obtain ⟨ji28, hji28⟩ : ∃ j_ : Int, (wrap64 (x7_1 + 2)) = j_ := ⟨_, rfl⟩
                                  replace H : (if 0 ≤ (ji28) then (if (ji28) < (a0.size : Int) then (if 0 ≤ (wrap64 (x7_1 + 3)) then (if (wrap64 (x7_1 + 3)) < (a0.size : Int) then ((windhoverref04_check.f kj11 (bt a0 (ji19)) (bt a0 (ji28)) (bt a0 (wrap64 (x7_1 + 3))) (a0.extract ((ji23) : Int).toNat ((wrap64 ((ji23) + (wrap64 (bt a0 (ji19))))) : Int).toNat)).bind fun t167 => (if 0 ≤ (wrap64 ((ji23) + (wrap64 (bt a0 (ji19))))) then (if (wrap64 ((ji23) + (wrap64 (bt a0 (ji19))))) < (a0.size : Int) then (if (bt a0 (wrap64 ((ji23) + (wrap64 (bt a0 (ji19)))))) = ((Int.tmod t167 256) % 256) then (if 0 ≤ (wrap64 ((wrap64 (x7_1 + 5)) + (wrap64 (bt a0 (ji19))))) then (if (wrap64 ((wrap64 (x7_1 + 5)) + (wrap64 (bt a0 (ji19))))) < (a0.size : Int) then (if (bt a0 (wrap64 ((wrap64 (x7_1 + 5)) + (wrap64 (bt a0 (ji19)))))) = ((IntKind.u16.wrap (Int.tdiv t167 256)) % 256) then (if x5_1.length < 4398046511104 then (windhoverref04_Read.l0 kj11 a0 (x5_1 ++ [(⟨wrap64 (bt a0 (ji28)), wrap64 (bt a0 (wrap64 (x7_1 + 3))), a0.extract ((ji23) : Int).toNat ((wrap64 ((ji23) + (wrap64 (bt a0 (ji19))))) : Int).toNat⟩ : S45)]) x6_1 (wrap64 ((wrap64 (x7_1 + 6)) + (wrap64 (bt a0 (ji19)))))) else (none)) else (windhoverref04_Read.l0 kj11 a0 x5_1 (wrap64 (x6_1 + 1)) ji19)) else (none)) else (none)) else (windhoverref04_Read.l0 kj11 a0 x5_1 (wrap64 (x6_1 + 1)) ji19)) else (none)) else (none))) else (none)) else (none)) else (none)) else (none)) = some (r1, r2, r3) := by first | (rw [hji28] at H; exact H) | (simp only [hji28] at H ⊢; exact H)
                                  have hji28w : (IntKind.i64.wrap (x7_1 + 2)) = ji28 := (i64_w _).trans hji28
                                  (try rw [hji28] at hji8)
                                  (try rw [hji28] at hji8w)
                                  (try rw [hji28] at hji14)
                                  (try rw [hji28] at hji14w)
                                  (try rw [hji28] at hji19)
                                  (try rw [hji28] at hji19w)
                                  (try rw [hji28] at hji23)
                                  (try rw [hji28] at hji23w)
                                  by_cases c29 : 0 ≤ (ji28)
                                  · rw [if_pos c29] at H
                                    have c29b0 : decide (0 ≤ (ji28)) = true := decide_eq_true c29
                                    clear c29
                                    by_cases c30 : (ji28) < (a0.size : Int)
                                    · rw [if_pos c30] at H
                                      have c30b0 : decide ((ji28) < (a0.size : Int)) = true := decide_eq_true c30
                                      clear c30
                                      obtain ⟨ji32, hji32⟩ : ∃ j_ : Int, (wrap64 (x7_1 + 3)) = j_ := ⟨_, rfl⟩
                                      replace H : (if 0 ≤ (ji32) then (if (ji32) < (a0.size : Int) then ((windhoverref04_check.f kj11 (bt a0 (ji19)) (bt a0 (ji28)) (bt a0 (ji32)) (a0.extract ((ji23) : Int).toNat ((wrap64 ((ji23) + (wrap64 (bt a0 (ji19))))) : Int).toNat)).bind fun t167 => (if 0 ≤ (wrap64 ((ji23) + (wrap64 (bt a0 (ji19))))) then (if (wrap64 ((ji23) + (wrap64 (bt a0 (ji19))))) < (a0.size : Int) then (if (bt a0 (wrap64 ((ji23) + (wrap64 (bt a0 (ji19)))))) = ((Int.tmod t167 256) % 256) then (if 0 ≤ (wrap64 ((wrap64 (x7_1 + 5)) + (wrap64 (bt a0 (ji19))))) then (if (wrap64 ((wrap64 (x7_1 + 5)) + (wrap64 (bt a0 (ji19))))) < (a0.size : Int) then (if (bt a0 (wrap64 ((wrap64 (x7_1 + 5)) + (wrap64 (bt a0 (ji19)))))) = ((IntKind.u16.wrap (Int.tdiv t167 256)) % 256) then (if x5_1.length < 4398046511104 then (windhoverref04_Read.l0 kj11 a0 (x5_1 ++ [(⟨wrap64 (bt a0 (ji28)), wrap64 (bt a0 (ji32)), a0.extract ((ji23) : Int).toNat ((wrap64 ((ji23) + (wrap64 (bt a0 (ji19))))) : Int).toNat⟩ : S45)]) x6_1 (wrap64 ((wrap64 (x7_1 + 6)) + (wrap64 (bt a0 (ji19)))))) else (none)) else (windhoverref04_Read.l0 kj11 a0 x5_1 (wrap64 (x6_1 + 1)) ji19)) else (none)) else (none)) else (windhoverref04_Read.l0 kj11 a0 x5_1 (wrap64 (x6_1 + 1)) ji19)) else (none)) else (none))) else (none)) else (none)) = some (r1, r2, r3) := by first | (rw [hji32] at H; exact H) | (simp only [hji32] at H ⊢; exact H)
                                      have hji32w : (IntKind.i64.wrap (x7_1 + 3)) = ji32 := (i64_w _).trans hji32
                                      (try rw [hji32] at hji8)
                                      (try rw [hji32] at hji8w)
                                      (try rw [hji32] at hji14)
                                      (try rw [hji32] at hji14w)
                                      (try rw [hji32] at hji19)
                                      (try rw [hji32] at hji19w)
                                      (try rw [hji32] at hji23)
                                      (try rw [hji32] at hji23w)
                                      (try rw [hji32] at hji28)
                                      (try rw [hji32] at hji28w)
                                      by_cases c33 : 0 ≤ (ji32)
                                      · rw [if_pos c33] at H
                                        have c33b0 : decide (0 ≤ (ji32)) = true := decide_eq_true c33
                                        clear c33
                                        by_cases c34 : (ji32) < (a0.size : Int)
                                        · rw [if_pos c34] at H
                                          have c34b0 : decide ((ji32) < (a0.size : Int)) = true := decide_eq_true c34
                                          clear c34
                                          replace H := Option.bind_eq_some_iff.mp H
                                          obtain ⟨t167, A360, H⟩ := H
                                          replace H : (if 0 ≤ (wrap64 ((ji23) + (wrap64 (bt a0 (ji19))))) then (if (wrap64 ((ji23) + (wrap64 (bt a0 (ji19))))) < (a0.size : Int) then (if (bt a0 (wrap64 ((ji23) + (wrap64 (bt a0 (ji19)))))) = ((Int.tmod t167 256) % 256) then (if 0 ≤ (wrap64 ((wrap64 (x7_1 + 5)) + (wrap64 (bt a0 (ji19))))) then (if (wrap64 ((wrap64 (x7_1 + 5)) + (wrap64 (bt a0 (ji19))))) < (a0.size : Int) then (if (bt a0 (wrap64 ((wrap64 (x7_1 + 5)) + (wrap64 (bt a0 (ji19)))))) = ((IntKind.u16.wrap (Int.tdiv t167 256)) % 256) then (if x5_1.length < 4398046511104 then (windhoverref04_Read.l0 kj11 a0 (x5_1 ++ [(⟨wrap64 (bt a0 (ji28)), wrap64 (bt a0 (ji32)), a0.extract ((ji23) : Int).toNat ((wrap64 ((ji23) + (wrap64 (bt a0 (ji19))))) : Int).toNat⟩ : S45)]) x6_1 (wrap64 ((wrap64 (x7_1 + 6)) + (wrap64 (bt a0 (ji19)))))) else (none)) else (windhoverref04_Read.l0 kj11 a0 x5_1 (wrap64 (x6_1 + 1)) ji19)) else (none)) else (none)) else (windhoverref04_Read.l0 kj11 a0 x5_1 (wrap64 (x6_1 + 1)) ji19)) else (none)) else (none)) = some (r1, r2, r3) := H
                                          have A36 := Aside0.mk A360
                                          clear A360
                                          obtain ⟨ji37, hji37⟩ : ∃ j_ : Int, (wrap64 ((ji23) + (wrap64 (bt a0 (ji19))))) = j_ := ⟨_, rfl⟩
                                          replace H : (if 0 ≤ (ji37) then (if (ji37) < (a0.size : Int) then (if (bt a0 (ji37)) = ((Int.tmod t167 256) % 256) then (if 0 ≤ (wrap64 ((wrap64 (x7_1 + 5)) + (wrap64 (bt a0 (ji19))))) then (if (wrap64 ((wrap64 (x7_1 + 5)) + (wrap64 (bt a0 (ji19))))) < (a0.size : Int) then (if (bt a0 (wrap64 ((wrap64 (x7_1 + 5)) + (wrap64 (bt a0 (ji19)))))) = ((IntKind.u16.wrap (Int.tdiv t167 256)) % 256) then (if x5_1.length < 4398046511104 then (windhoverref04_Read.l0 kj11 a0 (x5_1 ++ [(⟨wrap64 (bt a0 (ji28)), wrap64 (bt a0 (ji32)), a0.extract ((ji23) : Int).toNat ((ji37) : Int).toNat⟩ : S45)]) x6_1 (wrap64 ((wrap64 (x7_1 + 6)) + (wrap64 (bt a0 (ji19)))))) else (none)) else (windhoverref04_Read.l0 kj11 a0 x5_1 (wrap64 (x6_1 + 1)) ji19)) else (none)) else (none)) else (windhoverref04_Read.l0 kj11 a0 x5_1 (wrap64 (x6_1 + 1)) ji19)) else (none)) else (none)) = some (r1, r2, r3) := by first | (rw [hji37] at H; exact H) | (simp only [hji37] at H ⊢; exact H)
                                          (try rw [hji37] at c25b0)
                                          (try rw [hji37] at c25b1)
                                          (try rw [hji37] at c25)
                                          (try rw [hji37] at c26b0)
                                          (try rw [hji37] at c26b1)
                                          (try rw [hji37] at c26)
                                          (try rw [hji37] at A36)
                                          have hji37w : (IntKind.i64.wrap ((ji23) + (wrap64 (bt a0 (ji19))))) = ji37 := (i64_w _).trans hji37
                                          (try rw [hji37] at hji8)
                                          (try rw [hji37] at hji8w)
                                          (try rw [hji37] at hji14)
                                          (try rw [hji37] at hji14w)
                                          (try rw [hji37] at hji19)
                                          (try rw [hji37] at hji19w)
                                          (try rw [hji37] at hji23)
                                          (try rw [hji37] at hji23w)
                                          (try rw [hji37] at hji28)
                                          (try rw [hji37] at hji28w)
                                          (try rw [hji37] at hji32)
                                          (try rw [hji37] at hji32w)
                                          by_cases c38 : 0 ≤ (ji37)
                                          · rw [if_pos c38] at H
                                            have c38b0 : decide (0 ≤ (ji37)) = true := decide_eq_true c38
                                            clear c38
                                            by_cases c39 : (ji37) < (a0.size : Int)
                                            · rw [if_pos c39] at H
                                              have c39b0 : decide ((ji37) < (a0.size : Int)) = true := decide_eq_true c39
                                              clear c39
                                              by_cases c41 : (bt a0 (ji37)) = ((Int.tmod t167 256) % 256)
                                              · rw [if_pos c41] at H
                                                have c41b0 : ((bt a0 (ji37)) == ((Int.tmod t167 256) % 256)) = true := beq_iff_eq.mpr c41
                                                have c41b1 : ((bt a0 (ji37)) != ((Int.tmod t167 256) % 256)) = false := bne_eq_false_iff_eq.mpr c41
                                                clear c41
                                                obtain ⟨ji42, hji42⟩ : ∃ j_ : Int, (wrap64 ((wrap64 (x7_1 + 5)) + (wrap64 (bt a0 (ji19))))) = j_ := ⟨_, rfl⟩
                                                replace H : (if 0 ≤ (ji42) then (if (ji42) < (a0.size : Int) then (if (bt a0 (ji42)) = ((IntKind.u16.wrap (Int.tdiv t167 256)) % 256) then (if x5_1.length < 4398046511104 then (windhoverref04_Read.l0 kj11 a0 (x5_1 ++ [(⟨wrap64 (bt a0 (ji28)), wrap64 (bt a0 (ji32)), a0.extract ((ji23) : Int).toNat ((ji37) : Int).toNat⟩ : S45)]) x6_1 (wrap64 ((wrap64 (x7_1 + 6)) + (wrap64 (bt a0 (ji19)))))) else (none)) else (windhoverref04_Read.l0 kj11 a0 x5_1 (wrap64 (x6_1 + 1)) ji19)) else (none)) else (none)) = some (r1, r2, r3) := by first | (rw [hji42] at H; exact H) | (simp only [hji42] at H ⊢; exact H)
                                                (try rw [hji42] at A36)
                                                have hji42w : (IntKind.i64.wrap ((wrap64 (x7_1 + 5)) + (wrap64 (bt a0 (ji19))))) = ji42 := (i64_w _).trans hji42
                                                (try rw [hji42] at hji8)
                                                (try rw [hji42] at hji8w)
                                                (try rw [hji42] at hji14)
                                                (try rw [hji42] at hji14w)
                                                (try rw [hji42] at hji19)
                                                (try rw [hji42] at hji19w)
                                                (try rw [hji42] at hji23)
                                                (try rw [hji42] at hji23w)
                                                (try rw [hji42] at hji28)
                                                (try rw [hji42] at hji28w)
                                                (try rw [hji42] at hji32)
                                                (try rw [hji42] at hji32w)
                                                (try rw [hji42] at hji37)
                                                (try rw [hji42] at hji37w)
                                                by_cases c43 : 0 ≤ (ji42)
                                                · rw [if_pos c43] at H
                                                  have c43b0 : decide (0 ≤ (ji42)) = true := decide_eq_true c43
                                                  clear c43
                                                  by_cases c44 : (ji42) < (a0.size : Int)
                                                  · rw [if_pos c44] at H
                                                    have c44b0 : decide ((ji42) < (a0.size : Int)) = true := decide_eq_true c44
                                                    clear c44
                                                    by_cases c46 : (bt a0 (ji42)) = ((IntKind.u16.wrap (Int.tdiv t167 256)) % 256)
                                                    · rw [if_pos c46] at H
                                                      have c46b0 : ((bt a0 (ji42)) == ((IntKind.u16.wrap (Int.tdiv t167 256)) % 256)) = true := beq_iff_eq.mpr c46
                                                      have c46b1 : ((bt a0 (ji42)) != ((IntKind.u16.wrap (Int.tdiv t167 256)) % 256)) = false := bne_eq_false_iff_eq.mpr c46
                                                      clear c46
                                                      by_cases c49 : x5_1.length < 4398046511104
                                                      · rw [if_pos c49] at H
                                                        have LMc49 := Aside0.mk c49
                                                        clear c49
                                                        obtain ⟨y168, hy168⟩ : ∃ y_ : List (S45), y_ = (x5_1 ++ [(⟨wrap64 (bt a0 (ji28)), wrap64 (bt a0 (ji32)), a0.extract ((ji23) : Int).toNat ((ji37) : Int).toNat⟩ : S45)]) := ⟨_, rfl⟩
                                                        replace H : (windhoverref04_Read.l0 kj11 a0 y168 x6_1 (wrap64 ((wrap64 (x7_1 + 6)) + (wrap64 (bt a0 (ji19)))))) = some (r1, r2, r3) := by first | (rw [hy168]; with_reducible exact H) | (have H2_ := (Option.bind_some _ _).symm.trans H; rw [hy168]; with_reducible exact H2_) | (have H2_ := (Option.bind_some _ _).symm.trans H; with_reducible exact H2_) | with_reducible exact H | (rw [hy168]; exact H) | exact H
                                                        have Ny168 := Aside0.mk hy168
                                                        clear hy168
                                                        have H' := Aside0.mk H
                                                        clear H
                                                        have p22 : 0 ≤ ((ji19) : Int) := of_decide_eq_true (by first | (with_reducible assumption) | assumption)
                                                        have q22 : (ji19) < (a0.size : Int) := of_decide_eq_true (by first | (with_reducible assumption) | assumption)
                                                        have hx22 := bt_at a0 (ji19)
                                                        replace p22 := eq_true p22
                                                        replace q22 := eq_true q22
                                                        try go_wp2
                                                        have n0_ := Aside0.mk (Kd.R_drew HO_5.out)
                                                        have n1_ := Aside0.mk (below_drew1 HB.out)
                                                        clear HO_5
                                                        clear HB
                                                        have HO_5 := n0_
                                                        have HB := n1_
                                                        clear n0_ n1_
                                                        have p27 : 0 ≤ ((ji19) : Int) := of_decide_eq_true (by first | (with_reducible assumption) | assumption)
                                                        have q27 : (ji19) < (a0.size : Int) := of_decide_eq_true (by first | (with_reducible assumption) | assumption)
                                                        have hx27 := bt_at a0 (ji19)
                                                        replace p27 := eq_true p27
                                                        replace q27 := eq_true q27
                                                        have p31 : 0 ≤ ((ji28) : Int) := of_decide_eq_true (by first | (with_reducible assumption) | assumption)
                                                        have q31 : (ji28) < (a0.size : Int) := of_decide_eq_true (by first | (with_reducible assumption) | assumption)
                                                        have hx31 := bt_at a0 (ji28)
                                                        replace p31 := eq_true p31
                                                        replace q31 := eq_true q31
                                                        have p35 : 0 ≤ ((ji32) : Int) := of_decide_eq_true (by first | (with_reducible assumption) | assumption)
                                                        have q35 : (ji32) < (a0.size : Int) := of_decide_eq_true (by first | (with_reducible assumption) | assumption)
                                                        have hx35 := bt_at a0 (ji32)
                                                        replace p35 := eq_true p35
                                                        replace q35 := eq_true q35
                                                        refine start_ (n := 15) (S := fun w' => True) (ds := []) #[false, false, false, false, false, false, false, false, false, false, false, false, false, false, false] (by kernel_rfl) rfl rfl trivial (fun hHeld => ?_); refine with_tabW windhoverref04_Read.tab14 windhoverref04_Read.bits14 (fun HT_ HW_ => ?_)
                                                        generalize wc.drew = w50 at HO_5 HB hHeld ⊢
                                                        refine pure_ (i := 0) (N := some 74) (v := ?_) (a' := ?_) #[true, false, false, false, false, false, false, false, false, false, false, false, false, false, false] rfl rfl (any_of HT_.out (by kernel_rfl)) (fun _ _ _ h => h) (Or.inl ⟨by rfl, ?_⟩) ?_ ?_
                                                        rotate_left
                                                        · intro w'
                                                          go_simp
                                                          with_reducible rfl
                                                        rotate_left
                                                        · simp only [Act.put, List.setIfInBounds_toArray, List.set_cons_zero, List.set_cons_succ, i64_w, i32_w]
                                                          rfl
                                                        refine pure_ (i := 1) (N := some 75) (v := ?_) (a' := ?_) #[true, true, false, false, false, false, false, false, false, false, false, false, false, false, false] rfl rfl (any_of HT_.out (by kernel_rfl)) (fun _ _ _ h => h) (Or.inl ⟨by rfl, ?_⟩) ?_ ?_
                                                        rotate_left
                                                        · intro w'
                                                          go_simp
                                                          with_reducible rfl
                                                        rotate_left
                                                        · simp only [Act.put, List.setIfInBounds_toArray, List.set_cons_zero, List.set_cons_succ, i64_w, i32_w]
                                                          rfl
                                                        refine pure_ (i := 2) (N := some 76) (v := ?_) (a' := ?_) #[true, true, true, false, false, false, false, false, false, false, false, false, false, false, false] rfl rfl (any_of HT_.out (by kernel_rfl)) (fun _ _ _ h => h) (Or.inl ⟨by rfl, ?_⟩) ?_ ?_
                                                        rotate_left
                                                        · intro w'
                                                          go_simp
                                                          with_reducible rfl
                                                        rotate_left
                                                        · simp only [Act.put, List.setIfInBounds_toArray, List.set_cons_zero, List.set_cons_succ, i64_w, i32_w]
                                                          rfl
                                                        refine pure_ (i := 4) (N := some 78) (v := ?_) (a' := ?_) #[true, true, true, false, true, false, false, false, false, false, false, false, false, false, false] rfl rfl (any_of HT_.out (by kernel_rfl)) (fun _ _ _ h => h) (Or.inl ⟨by rfl, ?_⟩) ?_ ?_
                                                        rotate_left
                                                        · intro w'
                                                          go_simp
                                                          with_reducible rfl
                                                        rotate_left
                                                        · simp only [Act.put, List.setIfInBounds_toArray, List.set_cons_zero, List.set_cons_succ, i64_w, i32_w]
                                                          rfl
                                                        refine pure_ (i := 5) (N := some 79) (v := ?_) (a' := ?_) #[true, true, true, false, true, true, false, false, false, false, false, false, false, false, false] rfl rfl (any_of HT_.out (by kernel_rfl)) (fun _ _ _ h => h) (Or.inl ⟨by rfl, ?_⟩) ?_ ?_
                                                        rotate_left
                                                        · intro w'
                                                          go_simp
                                                          with_reducible rfl
                                                        rotate_left
                                                        · simp only [Act.put, List.setIfInBounds_toArray, List.set_cons_zero, List.set_cons_succ, i64_w, i32_w]
                                                          rfl
                                                        refine pure_ (i := 6) (N := some 80) (v := ?_) (a' := ?_) #[true, true, true, false, true, true, true, false, false, false, false, false, false, false, false] rfl rfl (any_of HT_.out (by kernel_rfl)) (fun _ _ _ h => h) (Or.inl ⟨by rfl, ?_⟩) ?_ ?_
                                                        rotate_left
                                                        · intro w'
                                                          go_simp
                                                          with_reducible rfl
                                                        rotate_left
                                                        · simp only [Act.put, List.setIfInBounds_toArray, List.set_cons_zero, List.set_cons_succ, i64_w, i32_w]
                                                          rfl
                                                        refine pure_ (i := 8) (N := some 82) (v := ?_) (a' := ?_) #[true, true, true, false, true, true, true, false, true, false, false, false, false, false, false] rfl rfl (any_of HT_.out (by kernel_rfl)) (fun _ _ _ h => h) (Or.inl ⟨by rfl, ?_⟩) ?_ ?_
                                                        rotate_left
                                                        · intro w'
                                                          go_simp
                                                          with_reducible rfl
                                                        rotate_left
                                                        · simp only [Act.put, List.setIfInBounds_toArray, List.set_cons_zero, List.set_cons_succ, i64_w, i32_w]
                                                          rfl
                                                        refine pure_ (i := 9) (N := some 83) (v := ?_) (a' := ?_) #[true, true, true, false, true, true, true, false, true, true, false, false, false, false, false] rfl rfl (any_of HT_.out (by kernel_rfl)) (fun _ _ _ h => h) (Or.inl ⟨by rfl, ?_⟩) ?_ ?_
                                                        rotate_left
                                                        · intro w'
                                                          go_simp
                                                          with_reducible rfl
                                                        rotate_left
                                                        · simp only [Act.put, List.setIfInBounds_toArray, List.set_cons_zero, List.set_cons_succ, i64_w, i32_w]
                                                          rfl
                                                        refine pure_ (i := 10) (N := some 84) (v := ?_) (a' := ?_) #[true, true, true, false, true, true, true, false, true, true, true, false, false, false, false] rfl rfl (any_of HT_.out (by kernel_rfl)) (fun _ _ _ h => h) (Or.inl ⟨by rfl, ?_⟩) ?_ ?_
                                                        rotate_left
                                                        · intro w'
                                                          go_simp
                                                          with_reducible rfl
                                                        rotate_left
                                                        · simp only [Act.put, List.setIfInBounds_toArray, List.set_cons_zero, List.set_cons_succ, i64_w, i32_w]
                                                          rfl
                                                        refine pure_ (i := 12) (N := some 86) (v := ?_) (a' := ?_) #[true, true, true, false, true, true, true, false, true, true, true, false, true, false, false] rfl rfl (any_of HT_.out (by kernel_rfl)) (fun _ _ _ h => h) (Or.inl ⟨by rfl, ?_⟩) ?_ ?_
                                                        rotate_left
                                                        · intro w'
                                                          go_simp
                                                          with_reducible rfl
                                                        rotate_left
                                                        · simp only [Act.put, List.setIfInBounds_toArray, List.set_cons_zero, List.set_cons_succ, i64_w, i32_w]
                                                          rfl
                                                        refine take_ (i := 3) (N := some 77) (v := ?_) (a' := ?_) #[true, true, true, true, true, true, true, false, true, true, true, false, true, false, false] rfl rfl (take_ofW HT_.out HW_.out (by kernel_rfl)) (fun _ _ _ h => h) (Or.inl ⟨by rfl, ?_⟩) hHeld ?_ ?_
                                                        rotate_left
                                                        · intro w' _
                                                          go_simp
                                                          with_reducible rfl
                                                        rotate_left
                                                        · simp only [Act.put, List.setIfInBounds_toArray, List.set_cons_zero, List.set_cons_succ, i64_w, i32_w]
                                                          rfl
                                                        refine take_ (i := 7) (N := some 81) (v := ?_) (a' := ?_) #[true, true, true, true, true, true, true, true, true, true, true, false, true, false, false] rfl rfl (take_ofW HT_.out HW_.out (by kernel_rfl)) (fun _ _ _ h => h) (Or.inl ⟨by rfl, ?_⟩) hHeld ?_ ?_
                                                        rotate_left
                                                        · intro w' _
                                                          go_simp
                                                          with_reducible rfl
                                                        rotate_left
                                                        · simp only [Act.put, List.setIfInBounds_toArray, List.set_cons_zero, List.set_cons_succ, i64_w, i32_w]
                                                          rfl
                                                        refine take_ (i := 11) (N := some 85) (v := ?_) (a' := ?_) #[true, true, true, true, true, true, true, true, true, true, true, true, true, false, false] rfl rfl (take_ofW HT_.out HW_.out (by kernel_rfl)) (fun _ _ _ h => h) (Or.inl ⟨by rfl, ?_⟩) hHeld ?_ ?_
                                                        rotate_left
                                                        · intro w' _
                                                          go_simp
                                                          with_reducible rfl
                                                        rotate_left
                                                        · simp only [Act.put, List.setIfInBounds_toArray, List.set_cons_zero, List.set_cons_succ, i64_w, i32_w]
                                                          rfl
                                                        refine one_ (i := 13) (N := some 87) #[true, true, true, true, true, true, true, true, true, true, true, true, true, true, false] rfl rfl (one_of HT_.out (by kernel_rfl)) (by decide) (fun K hK => ?_)
                                                        refine goes_ Try.func82 (by kernel_rfl) rfl #[.int .u8 (bt a0 (ji19)), .int .u8 (bt a0 (ji28)), .int .u8 (bt a0 (ji32)), .string (a0.extract ((ji23) : Int).toNat ((ji37) : Int).toNat)] (by rfl) rfl rfl (by (try simp only [List.map_toArray, List.map_cons, List.map_nil]); first | done | (simp only [hji19, hji23, hji28, hji32, hji37]; rfl) | rfl | (simp only [List.length_drop, List.length_take]; rfl)) ?_
                                                        with_reducible refine (windhoverref04_check.calls kj11 (bt a0 (ji19)) (bt a0 (ji28)) (bt a0 (ji32)) (a0.extract ((ji23) : Int).toNat ((ji37) : Int).toNat) t167 _ A36.out).mono ?_
                                                        rintro e w51 ⟨rfl, hb⟩
                                                        refine ⟨_, rfl, ?_⟩
                                                        have n0_ := Aside0.mk (Kd.R_below (by (with_reducible repeat (first | apply Kd.R_alloc | apply Kd.R_drewN | apply Kd.R_drew)); exact HO_5.out) hb)
                                                        have n1_ := Aside0.mk (below_step (by repeat (first | (with_reducible first | exact HB.out | apply below_alloc | apply pw_below_drewN | apply below_drew1) | exact HB.out)) hb)
                                                        clear HO_5
                                                        clear HB
                                                        have HO_5 := n0_
                                                        have HB := n1_
                                                        clear n0_ n1_
                                                        (try clear hb)
                                                        (try clear hb2)
                                                        (try clear hk)
                                                        (try clear hi)
                                                        refine hK.out _ _ trivial (fun hHeld => ?_)
                                                        clear hK K
                                                        refine norm_ (a' := ?_) ?_ ?_
                                                        rotate_left
                                                        · show Act.put _ (some 87) _ = _
                                                          simp only [Act.put, List.setIfInBounds_toArray, List.set_cons_zero, List.set_cons_succ, i64_w, i32_w]
                                                          rfl
                                                        refine pure_ (i := 14) (N := some 10) (v := ?_) (a' := ?_) #[true, true, true, true, true, true, true, true, true, true, true, true, true, true, true] rfl rfl (any_of HT_.out (by kernel_rfl)) (fun _ _ _ h => h) (Or.inl ⟨by rfl, ?_⟩) ?_ ?_
                                                        rotate_left
                                                        · intro w'
                                                          go_simp
                                                          with_reducible rfl
                                                        rotate_left
                                                        · simp only [Act.put, List.setIfInBounds_toArray, List.set_cons_zero, List.set_cons_succ, i64_w, i32_w]
                                                          rfl
                                                        refine done_ (done_of HT_.out (by kernel_rfl)) ?_
                                                        have p40 : 0 ≤ ((ji37) : Int) := of_decide_eq_true (by first | (with_reducible assumption) | assumption)
                                                        have q40 : (ji37) < (a0.size : Int) := of_decide_eq_true (by first | (with_reducible assumption) | assumption)
                                                        have hx40 := bt_at a0 (ji37)
                                                        replace p40 := eq_true p40
                                                        replace q40 := eq_true q40
                                                        have p45 : 0 ≤ ((ji42) : Int) := of_decide_eq_true (by first | (with_reducible assumption) | assumption)
                                                        have q45 : (ji42) < (a0.size : Int) := of_decide_eq_true (by first | (with_reducible assumption) | assumption)
                                                        have hx45 := bt_at a0 (ji42)
                                                        replace p45 := eq_true p45
                                                        replace q45 := eq_true q45
                                                        try go_wp2
                                                        have n0_ := Aside0.mk (Kd.R_drew HO_5.out)
                                                        have n1_ := Aside0.mk (below_drew1 HB.out)
                                                        clear HO_5
                                                        clear HB
                                                        have HO_5 := n0_
                                                        have HB := n1_
                                                        clear n0_ n1_
                                                        have p47 : 0 ≤ ((ji28) : Int) := of_decide_eq_true (by first | (with_reducible assumption) | assumption)
                                                        have q47 : (ji28) < (a0.size : Int) := of_decide_eq_true (by first | (with_reducible assumption) | assumption)
                                                        have hx47 := bt_at a0 (ji28)
                                                        replace p47 := eq_true p47
                                                        replace q47 := eq_true q47
                                                        have p48 : 0 ≤ ((ji32) : Int) := of_decide_eq_true (by first | (with_reducible assumption) | assumption)
                                                        have q48 : (ji32) < (a0.size : Int) := of_decide_eq_true (by first | (with_reducible assumption) | assumption)
                                                        have hx48 := bt_at a0 (ji32)
                                                        replace p48 := eq_true p48
                                                        replace q48 := eq_true q48
                                                        refine start_ (n := 16) (S := fun w' => True) (ds := []) #[false, false, false, false, false, false, false, false, false, false, false, false, false, false, false, false] (by kernel_rfl) rfl rfl trivial (fun hHeld => ?_); refine with_tabW windhoverref04_Read.tab18 windhoverref04_Read.bits18 (fun HT_ HW_ => ?_)
                                                        generalize w51.drew = w52 at HO_5 HB hHeld ⊢
                                                        refine pure_ (i := 0) (N := some 114) (v := ?_) (a' := ?_) #[true, false, false, false, false, false, false, false, false, false, false, false, false, false, false, false] rfl rfl (any_of HT_.out (by kernel_rfl)) (fun _ _ _ h => h) (Or.inl ⟨by rfl, ?_⟩) ?_ ?_
                                                        rotate_left
                                                        · intro w'
                                                          go_simp
                                                          with_reducible rfl
                                                        rotate_left
                                                        · simp only [Act.put, List.setIfInBounds_toArray, List.set_cons_zero, List.set_cons_succ, i64_w, i32_w]
                                                          rfl
                                                        refine pure_ (i := 1) (N := some 115) (v := ?_) (a' := ?_) #[true, true, false, false, false, false, false, false, false, false, false, false, false, false, false, false] rfl rfl (any_of HT_.out (by kernel_rfl)) (fun _ _ _ h => h) (Or.inl ⟨by rfl, ?_⟩) ?_ ?_
                                                        rotate_left
                                                        · intro w'
                                                          go_simp
                                                          with_reducible rfl
                                                        rotate_left
                                                        · simp only [Act.put, List.setIfInBounds_toArray, List.set_cons_zero, List.set_cons_succ, i64_w, i32_w]
                                                          rfl
                                                        refine pure_ (i := 2) (N := some 116) (v := ?_) (a' := ?_) #[true, true, true, false, false, false, false, false, false, false, false, false, false, false, false, false] rfl rfl (any_of HT_.out (by kernel_rfl)) (fun _ _ _ h => h) (Or.inl ⟨by rfl, ?_⟩) ?_ ?_
                                                        rotate_left
                                                        · intro w'
                                                          go_simp
                                                          with_reducible rfl
                                                        rotate_left
                                                        · simp only [Act.put, List.setIfInBounds_toArray, List.set_cons_zero, List.set_cons_succ, i64_w, i32_w]
                                                          rfl
                                                        refine pure_ (i := 3) (N := some 117) (v := ?_) (a' := ?_) #[true, true, true, true, false, false, false, false, false, false, false, false, false, false, false, false] rfl rfl (any_of HT_.out (by kernel_rfl)) (fun _ _ _ h => h) (Or.inl ⟨by rfl, ?_⟩) ?_ ?_
                                                        rotate_left
                                                        · intro w'
                                                          go_simp
                                                          with_reducible rfl
                                                        rotate_left
                                                        · simp only [Act.put, List.setIfInBounds_toArray, List.set_cons_zero, List.set_cons_succ, i64_w, i32_w]
                                                          rfl
                                                        refine pure_ (i := 6) (N := some 120) (v := ?_) (a' := ?_) #[true, true, true, true, false, false, true, false, false, false, false, false, false, false, false, false] rfl rfl (any_of HT_.out (by kernel_rfl)) (fun _ _ _ h => h) (Or.inl ⟨by rfl, ?_⟩) ?_ ?_
                                                        rotate_left
                                                        · intro w'
                                                          go_simp
                                                          with_reducible rfl
                                                        rotate_left
                                                        · simp only [Act.put, List.setIfInBounds_toArray, List.set_cons_zero, List.set_cons_succ, i64_w, i32_w]
                                                          rfl
                                                        refine pure_ (i := 7) (N := some 121) (v := ?_) (a' := ?_) #[true, true, true, true, false, false, true, true, false, false, false, false, false, false, false, false] rfl rfl (any_of HT_.out (by kernel_rfl)) (fun _ _ _ h => h) (Or.inl ⟨by rfl, ?_⟩) ?_ ?_
                                                        rotate_left
                                                        · intro w'
                                                          go_simp
                                                          with_reducible rfl
                                                        rotate_left
                                                        · simp only [Act.put, List.setIfInBounds_toArray, List.set_cons_zero, List.set_cons_succ, i64_w, i32_w]
                                                          rfl
                                                        refine pure_ (i := 8) (N := some 122) (v := ?_) (a' := ?_) #[true, true, true, true, false, false, true, true, true, false, false, false, false, false, false, false] rfl rfl (any_of HT_.out (by kernel_rfl)) (fun _ _ _ h => h) (Or.inl ⟨by rfl, ?_⟩) ?_ ?_
                                                        rotate_left
                                                        · intro w'
                                                          go_simp
                                                          with_reducible rfl
                                                        rotate_left
                                                        · simp only [Act.put, List.setIfInBounds_toArray, List.set_cons_zero, List.set_cons_succ, i64_w, i32_w]
                                                          rfl
                                                        refine pure_ (i := 11) (N := some 125) (v := ?_) (a' := ?_) #[true, true, true, true, false, false, true, true, true, false, false, true, false, false, false, false] rfl rfl (any_of HT_.out (by kernel_rfl)) (fun _ _ _ h => h) (Or.inl ⟨by rfl, ?_⟩) ?_ ?_
                                                        rotate_left
                                                        · intro w'
                                                          go_simp
                                                          with_reducible rfl
                                                        rotate_left
                                                        · simp only [Act.put, List.setIfInBounds_toArray, List.set_cons_zero, List.set_cons_succ, i64_w, i32_w]
                                                          rfl
                                                        refine take_ (i := 4) (N := some 118) (v := ?_) (a' := ?_) #[true, true, true, true, true, false, true, true, true, false, false, true, false, false, false, false] rfl rfl (take_ofW HT_.out HW_.out (by kernel_rfl)) (fun _ _ _ h => h) (Or.inl ⟨by rfl, ?_⟩) hHeld ?_ ?_
                                                        rotate_left
                                                        · intro w' _
                                                          go_simp
                                                          with_reducible rfl
                                                        rotate_left
                                                        · simp only [Act.put, List.setIfInBounds_toArray, List.set_cons_zero, List.set_cons_succ, i64_w, i32_w]
                                                          rfl
                                                        refine pure_ (i := 5) (N := some 119) (v := ?_) (a' := ?_) #[true, true, true, true, true, true, true, true, true, false, false, true, false, false, false, false] rfl rfl (any_of HT_.out (by kernel_rfl)) (fun _ _ _ h => h) (Or.inl ⟨by rfl, ?_⟩) ?_ ?_
                                                        rotate_left
                                                        · intro w'
                                                          go_simp
                                                          with_reducible rfl
                                                        rotate_left
                                                        · simp only [Act.put, List.setIfInBounds_toArray, List.set_cons_zero, List.set_cons_succ, i64_w, i32_w]
                                                          rfl
                                                        refine take_ (i := 9) (N := some 123) (v := ?_) (a' := ?_) #[true, true, true, true, true, true, true, true, true, true, false, true, false, false, false, false] rfl rfl (take_ofW HT_.out HW_.out (by kernel_rfl)) (fun _ _ _ h => h) (Or.inl ⟨by rfl, ?_⟩) hHeld ?_ ?_
                                                        rotate_left
                                                        · intro w' _
                                                          go_simp
                                                          with_reducible rfl
                                                        rotate_left
                                                        · simp only [Act.put, List.setIfInBounds_toArray, List.set_cons_zero, List.set_cons_succ, i64_w, i32_w]
                                                          rfl
                                                        refine pure_ (i := 10) (N := some 124) (v := ?_) (a' := ?_) #[true, true, true, true, true, true, true, true, true, true, true, true, false, false, false, false] rfl rfl (any_of HT_.out (by kernel_rfl)) (fun _ _ _ h => h) (Or.inl ⟨by rfl, ?_⟩) ?_ ?_
                                                        rotate_left
                                                        · intro w'
                                                          go_simp
                                                          with_reducible rfl
                                                        rotate_left
                                                        · simp only [Act.put, List.setIfInBounds_toArray, List.set_cons_zero, List.set_cons_succ, i64_w, i32_w]
                                                          rfl
                                                        refine pure_ (i := 12) (N := some 126) (v := ?_) (a' := ?_) #[true, true, true, true, true, true, true, true, true, true, true, true, true, false, false, false] rfl rfl (any_of HT_.out (by kernel_rfl)) (fun _ _ _ h => h) (Or.inl ⟨by rfl, ?_⟩) ?_ ?_
                                                        rotate_left
                                                        · intro w'
                                                          go_simp
                                                          with_reducible rfl
                                                        rotate_left
                                                        · simp only [Act.put, List.setIfInBounds_toArray, List.set_cons_zero, List.set_cons_succ, i64_w, i32_w]
                                                          rfl
                                                        refine one_ (i := 13) (N := some 127) #[true, true, true, true, true, true, true, true, true, true, true, true, true, true, false, false] rfl rfl (one_of HT_.out (by kernel_rfl)) (by decide) (fun K hK => ?_)
                                                        refine value_ (w1 := ?_) (v := ?_) (by rfl) rfl ?_ ?_
                                                        rotate_left 2
                                                        · go_simp
                                                          constructor
                                                          · rfl
                                                          · rfl
                                                        refine hK.out _ _ trivial (fun hHeld => ?_)
                                                        clear hK K
                                                        refine norm_ (a' := ?_) ?_ ?_
                                                        rotate_left
                                                        · show Act.put _ (some 127) _ = _
                                                          simp only [Act.put, List.setIfInBounds_toArray, List.set_cons_zero, List.set_cons_succ, i64_w, i32_w]
                                                          rfl
                                                        refine one_ (i := 14) (N := some 128) #[true, true, true, true, true, true, true, true, true, true, true, true, true, true, true, false] rfl rfl (one_of HT_.out (by kernel_rfl)) (by decide) (fun K hK => ?_)
                                                        refine Kd.R_append_step k45 (w0 := w) w.heap.size (by rfl) (.tmp 114) (.tmp 127) 71 45 (.agg #[(.int .i64 0), (.int .i64 0), (.string ⟨#[]⟩)]) 32 rfl Try.underlying71 info45 rfl (by decide) (by omega) u5 x5_1 (⟨wrap64 (bt a0 (ji28)), wrap64 (bt a0 (ji32)), a0.extract ((ji23) : Int).toNat ((ji37) : Int).toNat⟩ : S45) [.int .i64 (wrap64 (bt a0 (ji28))), .int .i64 (wrap64 (bt a0 (ji32))), .string (a0.extract ((ji23) : Int).toNat ((ji37) : Int).toNat)] (fun _ => True) (fun _ => False) rfl rfl ?aP (fun _ hk => hk.elim) ?aF ?aO ?aB ?aS ?aL ?_
                                                        (case aP => exact k45_mkM _ _ _ (⟨wrap64 (bt a0 (ji28)), wrap64 (bt a0 (ji32)), a0.extract ((ji23) : Int).toNat ((ji37) : Int).toNat⟩ : S45))
                                                        (case aB => exact (by repeat (first | (with_reducible first | exact HB.out | apply below_alloc | apply pw_below_drewN | apply below_drew1) | exact HB.out)))
                                                        (case aF => exact (fun _ _ => trivial))
                                                        (case aO => exact (by (with_reducible repeat (first | apply Kd.R_alloc | apply Kd.R_drewN | apply Kd.R_drew)); exact HO_5.out))
                                                        (case aS => exact (below_size (by repeat (first | (with_reducible first | exact HB.out | apply below_alloc | apply pw_below_drewN | apply below_drew1) | exact HB.out))))
                                                        (case aL => have := LMc49.out; omega)
                                                        intro v169 w53 ho hb hg hat
                                                        rw [← Ny168.out] at ho
                                                        have n0_ := Aside0.mk (hb)
                                                        have n1_ := Aside0.mk (ho)
                                                        clear HB
                                                        clear HO_5
                                                        have HB := n0_
                                                        have HO170 := n1_
                                                        clear n0_ n1_
                                                        clear ho hb hg hat
                                                        refine hK.out _ _ trivial (fun hHeld => ?_)
                                                        clear hK K
                                                        refine norm_ (a' := ?_) ?_ ?_
                                                        rotate_left
                                                        · show Act.put _ (some 128) _ = _
                                                          simp only [Act.put, List.setIfInBounds_toArray, List.set_cons_zero, List.set_cons_succ, i64_w, i32_w]
                                                          rfl
                                                        refine pure_ (i := 15) (N := some 5) (v := ?_) (a' := ?_) #[true, true, true, true, true, true, true, true, true, true, true, true, true, true, true, true] rfl rfl (any_of HT_.out (by kernel_rfl)) (fun _ _ _ h => h) (Or.inl ⟨by rfl, ?_⟩) ?_ ?_
                                                        rotate_left
                                                        · intro w'
                                                          go_simp
                                                          with_reducible rfl
                                                        rotate_left
                                                        · simp only [Act.put, List.setIfInBounds_toArray, List.set_cons_zero, List.set_cons_succ, i64_w, i32_w]
                                                          rfl
                                                        refine done_ (done_of HT_.out (by kernel_rfl)) ?_
                                                        try go_wp2
                                                        go_roundg kj11
                                                        case measure => have := HK1.out; have := HJ5.out; have := HJ11.out; omega
                                                        case rel => exact ⟨(y168), (x6_1), (wrap64 ((wrap64 (x7_1 + 6)) + (wrap64 (bt a0 (ji19))))), (by first | rfl | (simp; done) | (simp [*]; done)), (by first | rfl | (simp; done) | (simp only [← hji19] <;> (first | rfl | simp)) | (simp [*]; done)), H', ⟨by have := HK1.out; have := HJ5.out; have := HJ11.out; omega⟩, ⟨by (with_reducible repeat (first | apply Kd.R_alloc | apply Kd.R_drewN | apply Kd.R_drew)); exact HO170.out⟩, ⟨by repeat (first | (with_reducible first | exact HB.out | apply below_alloc | apply pw_below_drewN | apply below_drew1) | exact HB.out)⟩⟩
                                                      · rw [if_neg c49] at H
                                                        exact absurd H (by simp)
                                                    · rw [if_neg c46] at H
                                                      have c46b0 : ((bt a0 (ji42)) == ((IntKind.u16.wrap (Int.tdiv t167 256)) % 256)) = false := beq_eq_false_iff_ne.mpr c46
                                                      have c46b1 : ((bt a0 (ji42)) != ((IntKind.u16.wrap (Int.tdiv t167 256)) % 256)) = true := bne_iff_ne.mpr c46
                                                      have H' := Aside0.mk H
                                                      clear H
                                                      have p22 : 0 ≤ ((ji19) : Int) := of_decide_eq_true (by first | (with_reducible assumption) | assumption)
                                                      have q22 : (ji19) < (a0.size : Int) := of_decide_eq_true (by first | (with_reducible assumption) | assumption)
                                                      have hx22 := bt_at a0 (ji19)
                                                      replace p22 := eq_true p22
                                                      replace q22 := eq_true q22
                                                      try go_wp2
                                                      have n0_ := Aside0.mk (Kd.R_drew HO_5.out)
                                                      have n1_ := Aside0.mk (below_drew1 HB.out)
                                                      clear HO_5
                                                      clear HB
                                                      have HO_5 := n0_
                                                      have HB := n1_
                                                      clear n0_ n1_
                                                      have p27 : 0 ≤ ((ji19) : Int) := of_decide_eq_true (by first | (with_reducible assumption) | assumption)
                                                      have q27 : (ji19) < (a0.size : Int) := of_decide_eq_true (by first | (with_reducible assumption) | assumption)
                                                      have hx27 := bt_at a0 (ji19)
                                                      replace p27 := eq_true p27
                                                      replace q27 := eq_true q27
                                                      have p31 : 0 ≤ ((ji28) : Int) := of_decide_eq_true (by first | (with_reducible assumption) | assumption)
                                                      have q31 : (ji28) < (a0.size : Int) := of_decide_eq_true (by first | (with_reducible assumption) | assumption)
                                                      have hx31 := bt_at a0 (ji28)
                                                      replace p31 := eq_true p31
                                                      replace q31 := eq_true q31
                                                      have p35 : 0 ≤ ((ji32) : Int) := of_decide_eq_true (by first | (with_reducible assumption) | assumption)
                                                      have q35 : (ji32) < (a0.size : Int) := of_decide_eq_true (by first | (with_reducible assumption) | assumption)
                                                      have hx35 := bt_at a0 (ji32)
                                                      replace p35 := eq_true p35
                                                      replace q35 := eq_true q35
                                                      refine start_ (n := 15) (S := fun w' => True) (ds := []) #[false, false, false, false, false, false, false, false, false, false, false, false, false, false, false] (by kernel_rfl) rfl rfl trivial (fun hHeld => ?_); refine with_tabW windhoverref04_Read.tab14 windhoverref04_Read.bits14 (fun HT_ HW_ => ?_)
                                                      generalize wc.drew = w54 at HO_5 HB hHeld ⊢
                                                      refine pure_ (i := 0) (N := some 74) (v := ?_) (a' := ?_) #[true, false, false, false, false, false, false, false, false, false, false, false, false, false, false] rfl rfl (any_of HT_.out (by kernel_rfl)) (fun _ _ _ h => h) (Or.inl ⟨by rfl, ?_⟩) ?_ ?_
                                                      rotate_left
                                                      · intro w'
                                                        go_simp
                                                        with_reducible rfl
                                                      rotate_left
                                                      · simp only [Act.put, List.setIfInBounds_toArray, List.set_cons_zero, List.set_cons_succ, i64_w, i32_w]
                                                        rfl
                                                      refine pure_ (i := 1) (N := some 75) (v := ?_) (a' := ?_) #[true, true, false, false, false, false, false, false, false, false, false, false, false, false, false] rfl rfl (any_of HT_.out (by kernel_rfl)) (fun _ _ _ h => h) (Or.inl ⟨by rfl, ?_⟩) ?_ ?_
                                                      rotate_left
                                                      · intro w'
                                                        go_simp
                                                        with_reducible rfl
                                                      rotate_left
                                                      · simp only [Act.put, List.setIfInBounds_toArray, List.set_cons_zero, List.set_cons_succ, i64_w, i32_w]
                                                        rfl
                                                      refine pure_ (i := 2) (N := some 76) (v := ?_) (a' := ?_) #[true, true, true, false, false, false, false, false, false, false, false, false, false, false, false] rfl rfl (any_of HT_.out (by kernel_rfl)) (fun _ _ _ h => h) (Or.inl ⟨by rfl, ?_⟩) ?_ ?_
                                                      rotate_left
                                                      · intro w'
                                                        go_simp
                                                        with_reducible rfl
                                                      rotate_left
                                                      · simp only [Act.put, List.setIfInBounds_toArray, List.set_cons_zero, List.set_cons_succ, i64_w, i32_w]
                                                        rfl
                                                      refine pure_ (i := 4) (N := some 78) (v := ?_) (a' := ?_) #[true, true, true, false, true, false, false, false, false, false, false, false, false, false, false] rfl rfl (any_of HT_.out (by kernel_rfl)) (fun _ _ _ h => h) (Or.inl ⟨by rfl, ?_⟩) ?_ ?_
                                                      rotate_left
                                                      · intro w'
                                                        go_simp
                                                        with_reducible rfl
                                                      rotate_left
                                                      · simp only [Act.put, List.setIfInBounds_toArray, List.set_cons_zero, List.set_cons_succ, i64_w, i32_w]
                                                        rfl
                                                      refine pure_ (i := 5) (N := some 79) (v := ?_) (a' := ?_) #[true, true, true, false, true, true, false, false, false, false, false, false, false, false, false] rfl rfl (any_of HT_.out (by kernel_rfl)) (fun _ _ _ h => h) (Or.inl ⟨by rfl, ?_⟩) ?_ ?_
                                                      rotate_left
                                                      · intro w'
                                                        go_simp
                                                        with_reducible rfl
                                                      rotate_left
                                                      · simp only [Act.put, List.setIfInBounds_toArray, List.set_cons_zero, List.set_cons_succ, i64_w, i32_w]
                                                        rfl
                                                      refine pure_ (i := 6) (N := some 80) (v := ?_) (a' := ?_) #[true, true, true, false, true, true, true, false, false, false, false, false, false, false, false] rfl rfl (any_of HT_.out (by kernel_rfl)) (fun _ _ _ h => h) (Or.inl ⟨by rfl, ?_⟩) ?_ ?_
                                                      rotate_left
                                                      · intro w'
                                                        go_simp
                                                        with_reducible rfl
                                                      rotate_left
                                                      · simp only [Act.put, List.setIfInBounds_toArray, List.set_cons_zero, List.set_cons_succ, i64_w, i32_w]
                                                        rfl
                                                      refine pure_ (i := 8) (N := some 82) (v := ?_) (a' := ?_) #[true, true, true, false, true, true, true, false, true, false, false, false, false, false, false] rfl rfl (any_of HT_.out (by kernel_rfl)) (fun _ _ _ h => h) (Or.inl ⟨by rfl, ?_⟩) ?_ ?_
                                                      rotate_left
                                                      · intro w'
                                                        go_simp
                                                        with_reducible rfl
                                                      rotate_left
                                                      · simp only [Act.put, List.setIfInBounds_toArray, List.set_cons_zero, List.set_cons_succ, i64_w, i32_w]
                                                        rfl
                                                      refine pure_ (i := 9) (N := some 83) (v := ?_) (a' := ?_) #[true, true, true, false, true, true, true, false, true, true, false, false, false, false, false] rfl rfl (any_of HT_.out (by kernel_rfl)) (fun _ _ _ h => h) (Or.inl ⟨by rfl, ?_⟩) ?_ ?_
                                                      rotate_left
                                                      · intro w'
                                                        go_simp
                                                        with_reducible rfl
                                                      rotate_left
                                                      · simp only [Act.put, List.setIfInBounds_toArray, List.set_cons_zero, List.set_cons_succ, i64_w, i32_w]
                                                        rfl
                                                      refine pure_ (i := 10) (N := some 84) (v := ?_) (a' := ?_) #[true, true, true, false, true, true, true, false, true, true, true, false, false, false, false] rfl rfl (any_of HT_.out (by kernel_rfl)) (fun _ _ _ h => h) (Or.inl ⟨by rfl, ?_⟩) ?_ ?_
                                                      rotate_left
                                                      · intro w'
                                                        go_simp
                                                        with_reducible rfl
                                                      rotate_left
                                                      · simp only [Act.put, List.setIfInBounds_toArray, List.set_cons_zero, List.set_cons_succ, i64_w, i32_w]
                                                        rfl
                                                      refine pure_ (i := 12) (N := some 86) (v := ?_) (a' := ?_) #[true, true, true, false, true, true, true, false, true, true, true, false, true, false, false] rfl rfl (any_of HT_.out (by kernel_rfl)) (fun _ _ _ h => h) (Or.inl ⟨by rfl, ?_⟩) ?_ ?_
                                                      rotate_left
                                                      · intro w'
                                                        go_simp
                                                        with_reducible rfl
                                                      rotate_left
                                                      · simp only [Act.put, List.setIfInBounds_toArray, List.set_cons_zero, List.set_cons_succ, i64_w, i32_w]
                                                        rfl
                                                      refine take_ (i := 3) (N := some 77) (v := ?_) (a' := ?_) #[true, true, true, true, true, true, true, false, true, true, true, false, true, false, false] rfl rfl (take_ofW HT_.out HW_.out (by kernel_rfl)) (fun _ _ _ h => h) (Or.inl ⟨by rfl, ?_⟩) hHeld ?_ ?_
                                                      rotate_left
                                                      · intro w' _
                                                        go_simp
                                                        with_reducible rfl
                                                      rotate_left
                                                      · simp only [Act.put, List.setIfInBounds_toArray, List.set_cons_zero, List.set_cons_succ, i64_w, i32_w]
                                                        rfl
                                                      refine take_ (i := 7) (N := some 81) (v := ?_) (a' := ?_) #[true, true, true, true, true, true, true, true, true, true, true, false, true, false, false] rfl rfl (take_ofW HT_.out HW_.out (by kernel_rfl)) (fun _ _ _ h => h) (Or.inl ⟨by rfl, ?_⟩) hHeld ?_ ?_
                                                      rotate_left
                                                      · intro w' _
                                                        go_simp
                                                        with_reducible rfl
                                                      rotate_left
                                                      · simp only [Act.put, List.setIfInBounds_toArray, List.set_cons_zero, List.set_cons_succ, i64_w, i32_w]
                                                        rfl
                                                      refine take_ (i := 11) (N := some 85) (v := ?_) (a' := ?_) #[true, true, true, true, true, true, true, true, true, true, true, true, true, false, false] rfl rfl (take_ofW HT_.out HW_.out (by kernel_rfl)) (fun _ _ _ h => h) (Or.inl ⟨by rfl, ?_⟩) hHeld ?_ ?_
                                                      rotate_left
                                                      · intro w' _
                                                        go_simp
                                                        with_reducible rfl
                                                      rotate_left
                                                      · simp only [Act.put, List.setIfInBounds_toArray, List.set_cons_zero, List.set_cons_succ, i64_w, i32_w]
                                                        rfl
                                                      refine one_ (i := 13) (N := some 87) #[true, true, true, true, true, true, true, true, true, true, true, true, true, true, false] rfl rfl (one_of HT_.out (by kernel_rfl)) (by decide) (fun K hK => ?_)
                                                      refine goes_ Try.func82 (by kernel_rfl) rfl #[.int .u8 (bt a0 (ji19)), .int .u8 (bt a0 (ji28)), .int .u8 (bt a0 (ji32)), .string (a0.extract ((ji23) : Int).toNat ((ji37) : Int).toNat)] (by rfl) rfl rfl (by (try simp only [List.map_toArray, List.map_cons, List.map_nil]); first | done | (simp only [hji19, hji23, hji28, hji32, hji37]; rfl) | rfl | (simp only [List.length_drop, List.length_take]; rfl)) ?_
                                                      with_reducible refine (windhoverref04_check.calls kj11 (bt a0 (ji19)) (bt a0 (ji28)) (bt a0 (ji32)) (a0.extract ((ji23) : Int).toNat ((ji37) : Int).toNat) t167 _ A36.out).mono ?_
                                                      rintro e w55 ⟨rfl, hb⟩
                                                      refine ⟨_, rfl, ?_⟩
                                                      have n0_ := Aside0.mk (Kd.R_below (by (with_reducible repeat (first | apply Kd.R_alloc | apply Kd.R_drewN | apply Kd.R_drew)); exact HO_5.out) hb)
                                                      have n1_ := Aside0.mk (below_step (by repeat (first | (with_reducible first | exact HB.out | apply below_alloc | apply pw_below_drewN | apply below_drew1) | exact HB.out)) hb)
                                                      clear HO_5
                                                      clear HB
                                                      have HO_5 := n0_
                                                      have HB := n1_
                                                      clear n0_ n1_
                                                      (try clear hb)
                                                      (try clear hb2)
                                                      (try clear hk)
                                                      (try clear hi)
                                                      refine hK.out _ _ trivial (fun hHeld => ?_)
                                                      clear hK K
                                                      refine norm_ (a' := ?_) ?_ ?_
                                                      rotate_left
                                                      · show Act.put _ (some 87) _ = _
                                                        simp only [Act.put, List.setIfInBounds_toArray, List.set_cons_zero, List.set_cons_succ, i64_w, i32_w]
                                                        rfl
                                                      refine pure_ (i := 14) (N := some 10) (v := ?_) (a' := ?_) #[true, true, true, true, true, true, true, true, true, true, true, true, true, true, true] rfl rfl (any_of HT_.out (by kernel_rfl)) (fun _ _ _ h => h) (Or.inl ⟨by rfl, ?_⟩) ?_ ?_
                                                      rotate_left
                                                      · intro w'
                                                        go_simp
                                                        with_reducible rfl
                                                      rotate_left
                                                      · simp only [Act.put, List.setIfInBounds_toArray, List.set_cons_zero, List.set_cons_succ, i64_w, i32_w]
                                                        rfl
                                                      refine done_ (done_of HT_.out (by kernel_rfl)) ?_
                                                      have p40 : 0 ≤ ((ji37) : Int) := of_decide_eq_true (by first | (with_reducible assumption) | assumption)
                                                      have q40 : (ji37) < (a0.size : Int) := of_decide_eq_true (by first | (with_reducible assumption) | assumption)
                                                      have hx40 := bt_at a0 (ji37)
                                                      replace p40 := eq_true p40
                                                      replace q40 := eq_true q40
                                                      have p45 : 0 ≤ ((ji42) : Int) := of_decide_eq_true (by first | (with_reducible assumption) | assumption)
                                                      have q45 : (ji42) < (a0.size : Int) := of_decide_eq_true (by first | (with_reducible assumption) | assumption)
                                                      have hx45 := bt_at a0 (ji42)
                                                      replace p45 := eq_true p45
                                                      replace q45 := eq_true q45
                                                      try go_wp2
                                                      go_roundg kj11
                                                      case measure => have := HK1.out; have := HJ5.out; have := HJ11.out; omega
                                                      case rel => exact ⟨(x5_1), (wrap64 (x6_1 + 1)), (ji19), (by first | rfl | (simp; done) | (simp [*]; done)), (by first | rfl | (simp; done) | (simp only [← hji19] <;> (first | rfl | simp)) | (simp [*]; done)), H', ⟨by have := HK1.out; have := HJ5.out; have := HJ11.out; omega⟩, ⟨by (with_reducible repeat (first | apply Kd.R_alloc | apply Kd.R_drewN | apply Kd.R_drew)); exact HO_5.out⟩, ⟨by repeat (first | (with_reducible first | exact HB.out | apply below_alloc | apply pw_below_drewN | apply below_drew1) | exact HB.out)⟩⟩
                                                  · rw [if_neg c44] at H
                                                    exact absurd H (by simp)
                                                · rw [if_neg c43] at H
                                                  exact absurd H (by simp)
                                              · rw [if_neg c41] at H
                                                have c41b0 : ((bt a0 (ji37)) == ((Int.tmod t167 256) % 256)) = false := beq_eq_false_iff_ne.mpr c41
                                                have c41b1 : ((bt a0 (ji37)) != ((Int.tmod t167 256) % 256)) = true := bne_iff_ne.mpr c41
                                                have H' := Aside0.mk H
                                                clear H
                                                have p22 : 0 ≤ ((ji19) : Int) := of_decide_eq_true (by first | (with_reducible assumption) | assumption)
                                                have q22 : (ji19) < (a0.size : Int) := of_decide_eq_true (by first | (with_reducible assumption) | assumption)
                                                have hx22 := bt_at a0 (ji19)
                                                replace p22 := eq_true p22
                                                replace q22 := eq_true q22
                                                try go_wp2
                                                have n0_ := Aside0.mk (Kd.R_drew HO_5.out)
                                                have n1_ := Aside0.mk (below_drew1 HB.out)
                                                clear HO_5
                                                clear HB
                                                have HO_5 := n0_
                                                have HB := n1_
                                                clear n0_ n1_
                                                have p27 : 0 ≤ ((ji19) : Int) := of_decide_eq_true (by first | (with_reducible assumption) | assumption)
                                                have q27 : (ji19) < (a0.size : Int) := of_decide_eq_true (by first | (with_reducible assumption) | assumption)
                                                have hx27 := bt_at a0 (ji19)
                                                replace p27 := eq_true p27
                                                replace q27 := eq_true q27
                                                have p31 : 0 ≤ ((ji28) : Int) := of_decide_eq_true (by first | (with_reducible assumption) | assumption)
                                                have q31 : (ji28) < (a0.size : Int) := of_decide_eq_true (by first | (with_reducible assumption) | assumption)
                                                have hx31 := bt_at a0 (ji28)
                                                replace p31 := eq_true p31
                                                replace q31 := eq_true q31
                                                have p35 : 0 ≤ ((ji32) : Int) := of_decide_eq_true (by first | (with_reducible assumption) | assumption)
                                                have q35 : (ji32) < (a0.size : Int) := of_decide_eq_true (by first | (with_reducible assumption) | assumption)
                                                have hx35 := bt_at a0 (ji32)
                                                replace p35 := eq_true p35
                                                replace q35 := eq_true q35
                                                refine start_ (n := 15) (S := fun w' => True) (ds := []) #[false, false, false, false, false, false, false, false, false, false, false, false, false, false, false] (by kernel_rfl) rfl rfl trivial (fun hHeld => ?_); refine with_tabW windhoverref04_Read.tab14 windhoverref04_Read.bits14 (fun HT_ HW_ => ?_)
                                                generalize wc.drew = w56 at HO_5 HB hHeld ⊢
                                                refine pure_ (i := 0) (N := some 74) (v := ?_) (a' := ?_) #[true, false, false, false, false, false, false, false, false, false, false, false, false, false, false] rfl rfl (any_of HT_.out (by kernel_rfl)) (fun _ _ _ h => h) (Or.inl ⟨by rfl, ?_⟩) ?_ ?_
                                                rotate_left
                                                · intro w'
                                                  go_simp
                                                  with_reducible rfl
                                                rotate_left
                                                · simp only [Act.put, List.setIfInBounds_toArray, List.set_cons_zero, List.set_cons_succ, i64_w, i32_w]
                                                  rfl
                                                refine pure_ (i := 1) (N := some 75) (v := ?_) (a' := ?_) #[true, true, false, false, false, false, false, false, false, false, false, false, false, false, false] rfl rfl (any_of HT_.out (by kernel_rfl)) (fun _ _ _ h => h) (Or.inl ⟨by rfl, ?_⟩) ?_ ?_
                                                rotate_left
                                                · intro w'
                                                  go_simp
                                                  with_reducible rfl
                                                rotate_left
                                                · simp only [Act.put, List.setIfInBounds_toArray, List.set_cons_zero, List.set_cons_succ, i64_w, i32_w]
                                                  rfl
                                                refine pure_ (i := 2) (N := some 76) (v := ?_) (a' := ?_) #[true, true, true, false, false, false, false, false, false, false, false, false, false, false, false] rfl rfl (any_of HT_.out (by kernel_rfl)) (fun _ _ _ h => h) (Or.inl ⟨by rfl, ?_⟩) ?_ ?_
                                                rotate_left
                                                · intro w'
                                                  go_simp
                                                  with_reducible rfl
                                                rotate_left
                                                · simp only [Act.put, List.setIfInBounds_toArray, List.set_cons_zero, List.set_cons_succ, i64_w, i32_w]
                                                  rfl
                                                refine pure_ (i := 4) (N := some 78) (v := ?_) (a' := ?_) #[true, true, true, false, true, false, false, false, false, false, false, false, false, false, false] rfl rfl (any_of HT_.out (by kernel_rfl)) (fun _ _ _ h => h) (Or.inl ⟨by rfl, ?_⟩) ?_ ?_
                                                rotate_left
                                                · intro w'
                                                  go_simp
                                                  with_reducible rfl
                                                rotate_left
                                                · simp only [Act.put, List.setIfInBounds_toArray, List.set_cons_zero, List.set_cons_succ, i64_w, i32_w]
                                                  rfl
                                                refine pure_ (i := 5) (N := some 79) (v := ?_) (a' := ?_) #[true, true, true, false, true, true, false, false, false, false, false, false, false, false, false] rfl rfl (any_of HT_.out (by kernel_rfl)) (fun _ _ _ h => h) (Or.inl ⟨by rfl, ?_⟩) ?_ ?_
                                                rotate_left
                                                · intro w'
                                                  go_simp
                                                  with_reducible rfl
                                                rotate_left
                                                · simp only [Act.put, List.setIfInBounds_toArray, List.set_cons_zero, List.set_cons_succ, i64_w, i32_w]
                                                  rfl
                                                refine pure_ (i := 6) (N := some 80) (v := ?_) (a' := ?_) #[true, true, true, false, true, true, true, false, false, false, false, false, false, false, false] rfl rfl (any_of HT_.out (by kernel_rfl)) (fun _ _ _ h => h) (Or.inl ⟨by rfl, ?_⟩) ?_ ?_
                                                rotate_left
                                                · intro w'
                                                  go_simp
                                                  with_reducible rfl
                                                rotate_left
                                                · simp only [Act.put, List.setIfInBounds_toArray, List.set_cons_zero, List.set_cons_succ, i64_w, i32_w]
                                                  rfl
                                                refine pure_ (i := 8) (N := some 82) (v := ?_) (a' := ?_) #[true, true, true, false, true, true, true, false, true, false, false, false, false, false, false] rfl rfl (any_of HT_.out (by kernel_rfl)) (fun _ _ _ h => h) (Or.inl ⟨by rfl, ?_⟩) ?_ ?_
                                                rotate_left
                                                · intro w'
                                                  go_simp
                                                  with_reducible rfl
                                                rotate_left
                                                · simp only [Act.put, List.setIfInBounds_toArray, List.set_cons_zero, List.set_cons_succ, i64_w, i32_w]
                                                  rfl
                                                refine pure_ (i := 9) (N := some 83) (v := ?_) (a' := ?_) #[true, true, true, false, true, true, true, false, true, true, false, false, false, false, false] rfl rfl (any_of HT_.out (by kernel_rfl)) (fun _ _ _ h => h) (Or.inl ⟨by rfl, ?_⟩) ?_ ?_
                                                rotate_left
                                                · intro w'
                                                  go_simp
                                                  with_reducible rfl
                                                rotate_left
                                                · simp only [Act.put, List.setIfInBounds_toArray, List.set_cons_zero, List.set_cons_succ, i64_w, i32_w]
                                                  rfl
                                                refine pure_ (i := 10) (N := some 84) (v := ?_) (a' := ?_) #[true, true, true, false, true, true, true, false, true, true, true, false, false, false, false] rfl rfl (any_of HT_.out (by kernel_rfl)) (fun _ _ _ h => h) (Or.inl ⟨by rfl, ?_⟩) ?_ ?_
                                                rotate_left
                                                · intro w'
                                                  go_simp
                                                  with_reducible rfl
                                                rotate_left
                                                · simp only [Act.put, List.setIfInBounds_toArray, List.set_cons_zero, List.set_cons_succ, i64_w, i32_w]
                                                  rfl
                                                refine pure_ (i := 12) (N := some 86) (v := ?_) (a' := ?_) #[true, true, true, false, true, true, true, false, true, true, true, false, true, false, false] rfl rfl (any_of HT_.out (by kernel_rfl)) (fun _ _ _ h => h) (Or.inl ⟨by rfl, ?_⟩) ?_ ?_
                                                rotate_left
                                                · intro w'
                                                  go_simp
                                                  with_reducible rfl
                                                rotate_left
                                                · simp only [Act.put, List.setIfInBounds_toArray, List.set_cons_zero, List.set_cons_succ, i64_w, i32_w]
                                                  rfl
                                                refine take_ (i := 3) (N := some 77) (v := ?_) (a' := ?_) #[true, true, true, true, true, true, true, false, true, true, true, false, true, false, false] rfl rfl (take_ofW HT_.out HW_.out (by kernel_rfl)) (fun _ _ _ h => h) (Or.inl ⟨by rfl, ?_⟩) hHeld ?_ ?_
                                                rotate_left
                                                · intro w' _
                                                  go_simp
                                                  with_reducible rfl
                                                rotate_left
                                                · simp only [Act.put, List.setIfInBounds_toArray, List.set_cons_zero, List.set_cons_succ, i64_w, i32_w]
                                                  rfl
                                                refine take_ (i := 7) (N := some 81) (v := ?_) (a' := ?_) #[true, true, true, true, true, true, true, true, true, true, true, false, true, false, false] rfl rfl (take_ofW HT_.out HW_.out (by kernel_rfl)) (fun _ _ _ h => h) (Or.inl ⟨by rfl, ?_⟩) hHeld ?_ ?_
                                                rotate_left
                                                · intro w' _
                                                  go_simp
                                                  with_reducible rfl
                                                rotate_left
                                                · simp only [Act.put, List.setIfInBounds_toArray, List.set_cons_zero, List.set_cons_succ, i64_w, i32_w]
                                                  rfl
                                                refine take_ (i := 11) (N := some 85) (v := ?_) (a' := ?_) #[true, true, true, true, true, true, true, true, true, true, true, true, true, false, false] rfl rfl (take_ofW HT_.out HW_.out (by kernel_rfl)) (fun _ _ _ h => h) (Or.inl ⟨by rfl, ?_⟩) hHeld ?_ ?_
                                                rotate_left
                                                · intro w' _
                                                  go_simp
                                                  with_reducible rfl
                                                rotate_left
                                                · simp only [Act.put, List.setIfInBounds_toArray, List.set_cons_zero, List.set_cons_succ, i64_w, i32_w]
                                                  rfl
                                                refine one_ (i := 13) (N := some 87) #[true, true, true, true, true, true, true, true, true, true, true, true, true, true, false] rfl rfl (one_of HT_.out (by kernel_rfl)) (by decide) (fun K hK => ?_)
                                                refine goes_ Try.func82 (by kernel_rfl) rfl #[.int .u8 (bt a0 (ji19)), .int .u8 (bt a0 (ji28)), .int .u8 (bt a0 (ji32)), .string (a0.extract ((ji23) : Int).toNat ((ji37) : Int).toNat)] (by rfl) rfl rfl (by (try simp only [List.map_toArray, List.map_cons, List.map_nil]); first | done | (simp only [hji19, hji23, hji28, hji32, hji37]; rfl) | rfl | (simp only [List.length_drop, List.length_take]; rfl)) ?_
                                                with_reducible refine (windhoverref04_check.calls kj11 (bt a0 (ji19)) (bt a0 (ji28)) (bt a0 (ji32)) (a0.extract ((ji23) : Int).toNat ((ji37) : Int).toNat) t167 _ A36.out).mono ?_
                                                rintro e w57 ⟨rfl, hb⟩
                                                refine ⟨_, rfl, ?_⟩
                                                have n0_ := Aside0.mk (Kd.R_below (by (with_reducible repeat (first | apply Kd.R_alloc | apply Kd.R_drewN | apply Kd.R_drew)); exact HO_5.out) hb)
                                                have n1_ := Aside0.mk (below_step (by repeat (first | (with_reducible first | exact HB.out | apply below_alloc | apply pw_below_drewN | apply below_drew1) | exact HB.out)) hb)
                                                clear HO_5
                                                clear HB
                                                have HO_5 := n0_
                                                have HB := n1_
                                                clear n0_ n1_
                                                (try clear hb)
                                                (try clear hb2)
                                                (try clear hk)
                                                (try clear hi)
                                                refine hK.out _ _ trivial (fun hHeld => ?_)
                                                clear hK K
                                                refine norm_ (a' := ?_) ?_ ?_
                                                rotate_left
                                                · show Act.put _ (some 87) _ = _
                                                  simp only [Act.put, List.setIfInBounds_toArray, List.set_cons_zero, List.set_cons_succ, i64_w, i32_w]
                                                  rfl
                                                refine pure_ (i := 14) (N := some 10) (v := ?_) (a' := ?_) #[true, true, true, true, true, true, true, true, true, true, true, true, true, true, true] rfl rfl (any_of HT_.out (by kernel_rfl)) (fun _ _ _ h => h) (Or.inl ⟨by rfl, ?_⟩) ?_ ?_
                                                rotate_left
                                                · intro w'
                                                  go_simp
                                                  with_reducible rfl
                                                rotate_left
                                                · simp only [Act.put, List.setIfInBounds_toArray, List.set_cons_zero, List.set_cons_succ, i64_w, i32_w]
                                                  rfl
                                                refine done_ (done_of HT_.out (by kernel_rfl)) ?_
                                                have p40 : 0 ≤ ((ji37) : Int) := of_decide_eq_true (by first | (with_reducible assumption) | assumption)
                                                have q40 : (ji37) < (a0.size : Int) := of_decide_eq_true (by first | (with_reducible assumption) | assumption)
                                                have hx40 := bt_at a0 (ji37)
                                                replace p40 := eq_true p40
                                                replace q40 := eq_true q40
                                                try go_wp2
                                                go_roundg kj11
                                                case measure => have := HK1.out; have := HJ5.out; have := HJ11.out; omega
                                                case rel => exact ⟨(x5_1), (wrap64 (x6_1 + 1)), (ji19), (by first | rfl | (simp; done) | (simp [*]; done)), (by first | rfl | (simp; done) | (simp only [← hji19] <;> (first | rfl | simp)) | (simp [*]; done)), H', ⟨by have := HK1.out; have := HJ5.out; have := HJ11.out; omega⟩, ⟨by (with_reducible repeat (first | apply Kd.R_alloc | apply Kd.R_drewN | apply Kd.R_drew)); exact HO_5.out⟩, ⟨by repeat (first | (with_reducible first | exact HB.out | apply below_alloc | apply pw_below_drewN | apply below_drew1) | exact HB.out)⟩⟩
                                            · rw [if_neg c39] at H
                                              exact absurd H (by simp)
                                          · rw [if_neg c38] at H
                                            exact absurd H (by simp)
                                        · rw [if_neg c34] at H
                                          exact absurd H (by simp)
                                      · rw [if_neg c33] at H
                                        exact absurd H (by simp)
                                    · rw [if_neg c30] at H
                                      exact absurd H (by simp)
                                  · rw [if_neg c29] at H
                                    exact absurd H (by simp)
                                · rw [if_neg c26] at H
                                  exact absurd H (by simp)
                              · rw [if_neg c25] at H
                                exact absurd H (by simp)
                            · rw [if_neg c24] at H
                              exact absurd H (by simp)
                          · rw [if_neg c21] at H
                            exact absurd H (by simp)
                        · rw [if_neg c20] at H
                          exact absurd H (by simp)
          · rw [if_neg c5] at H
            have c5b0 : ((bt a0 x7_1) == 253) = false := beq_eq_false_iff_ne.mpr c5
            have c5b1 : ((bt a0 x7_1) != 253) = true := bne_iff_ne.mpr c5
            have H' := Aside0.mk H
            clear H
            have p4 : 0 ≤ (x7_1 : Int) := of_decide_eq_true (by first | (with_reducible assumption) | assumption)
            have q4 : x7_1 < (a0.size : Int) := of_decide_eq_true (by first | (with_reducible assumption) | assumption)
            have hx4 := bt_at a0 x7_1
            replace p4 := eq_true p4
            replace q4 := eq_true q4
            go_wp2
            go_roundg k1
            case measure => have := HK1.out; omega
            case rel => exact ⟨(x5_1), (x6_1), (wrap64 (x7_1 + 1)), (by first | rfl | (simp; done) | (simp [*]; done)), (by first | rfl | (simp; done) | (simp [*]; done)), H', ⟨by have := HK1.out; omega⟩, ⟨by (with_reducible repeat (first | apply Kd.R_alloc | apply Kd.R_drewN | apply Kd.R_drew)); exact HO_5.out⟩, ⟨by repeat (first | (with_reducible first | exact HB.out | apply below_alloc | apply pw_below_drewN | apply below_drew1) | exact HB.out)⟩⟩
        · rw [if_neg c3] at H
          exact absurd H (by simp)
      · rw [if_neg c2] at H
        have c2b0 : decide (x7_1 < (a0.size : Int)) = false := decide_eq_false c2
        clear c2
        simp only [Option.some.injEq, Prod.mk.injEq] at H
        obtain ⟨rfl, rfl, rfl⟩ := H
        go_wp2
        go_ret3
        exact ⟨_, by first | rfl | (simp [errW_none, errW_some] <;> rfl) | (simp [*, errW_none, errW_some] <;> rfl), by (with_reducible repeat (first | apply Kd.R_alloc | apply Kd.R_drewN | apply Kd.R_drew)); exact HO_5.out, by repeat (first | (with_reducible first | exact HB.out | apply below_alloc | apply pw_below_drewN | apply below_drew1) | exact HB.out)⟩

end Go.Proofs.Ytbbinmplkbpcdaa.Pr
