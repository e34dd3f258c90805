-- PRINTED by print.py (a twelfth state) out of the translation. Not trusted: Lean checks it.
import Derived.Test.YtbbinmplkbpcdaaPs0
import Derived.Test.YtbbinmplkbpcdaaPs1
namespace Go.Proofs.Ytbbinmplkbpcdaa.Ps
open Go.RowKit Go.Proofs.YtbbinmplkbpcdaaW.PrintWords Go.Proofs.YtbbinmplkbpcdaaW.PrintLast Go.Proofs.YtbbinmplkbpcdaaW.PrintMore
attribute [local go_sem] max2_int min2_int max_two min_two max_three min_three max_four min_four   -- for this text's walks alone
set_option linter.unusedVariables false
set_option linter.unusedSimpArgs false

/-! ### windhoverref11_Read: function 54 -/
mutual
def windhoverref11_Read.l0 : Nat → Int → ByteArray → List Int → Int → Int → Option (List Int × Bool × Int)
  | 0, _, _, _, _, _ => none
  | k + 1, x0, x1, x7, x8, x9 => if x9 < (x7.length : Int) then (if 0 ≤ x9 then ((windhoverref11_bytes.f (rd x7 x9)).bind fun t155 => (windhoverref11_Read.l0 k x0 x1 x7 (wrap64 (x8 + t155)) (wrap64 (x9 + 1)))) else (none)) else (windhoverref11_Read.l1 k x0 x1 x7 x8 ([] : List Int) false 0 0)
def windhoverref11_Read.l1 : Nat → Int → ByteArray → List Int → Int → List Int → Bool → Int → Int → Option (List Int × Bool × Int)
  | 0, _, _, _, _, _, _, _, _ => none
  | k + 1, x0, x1, x7, x8, x10, x11, x12, x13 => if x13 < (x1.size : Int) then (if 0 ≤ x13 then (if (bt x1 x13) = 165 then (if (wrap64 (x13 + x8)) ≤ (x1.size : Int) then (if 0 ≤ (wrap64 (x13 + 1)) then (if (wrap64 (x13 + 1)) < (x1.size : Int) then (windhoverref11_Read.j2 k x0 x1 x7 x8 x10 x11 x12 x13 ((bt x1 (wrap64 (x13 + 1))) == x0)) else (none)) else (none)) else (windhoverref11_Read.j2 k x0 x1 x7 x8 x10 x11 x12 x13 false)) else (windhoverref11_Read.l1 k x0 x1 x7 x8 x10 x11 x12 (wrap64 (x13 + 1)))) else (none)) else (some (x10, x11, x12))
def windhoverref11_Read.j2 : Nat → Int → ByteArray → List Int → Int → List Int → Bool → Int → Int → Bool → Option (List Int × Bool × Int)
  | 0, _, _, _, _, _, _, _, _, _ => none
  | k + 1, x0, x1, x7, x8, x10, x11, x12, x13, x14 => if x14 = true then (if 0 ≤ (wrap64 (x13 + 1)) then (if (wrap64 (x13 + 1)) ≤ (wrap64 ((wrap64 (x13 + x8)) - 2)) then (if (wrap64 ((wrap64 (x13 + x8)) - 2)) ≤ (x1.size : Int) then ((windhoverref03_Sum.f k (x1.extract ((wrap64 (x13 + 1)) : Int).toNat ((wrap64 ((wrap64 (x13 + x8)) - 2)) : Int).toNat)).bind fun t156 => (if 0 ≤ (wrap64 ((wrap64 (x13 + x8)) - 2)) then (if (wrap64 ((wrap64 (x13 + x8)) - 2)) < (x1.size : Int) then (if (bt x1 (wrap64 ((wrap64 (x13 + x8)) - 2))) = ((Int.tmod t156 256) % 256) then (if 0 ≤ (wrap64 ((wrap64 (x13 + x8)) - 1)) then (if (wrap64 ((wrap64 (x13 + x8)) - 1)) < (x1.size : Int) then (if ((bt x1 (wrap64 ((wrap64 (x13 + x8)) - 1))) = ((IntKind.u16.wrap (Int.tdiv t156 256)) % 256)) then (if 0 ≤ (wrap64 (x13 + 2)) then (if (wrap64 (x13 + 2)) ≤ (x1.size : Int) then ((windhoverref11_fields.f k x7 (x1.extract ((wrap64 (x13 + 2)) : Int).toNat x1.size)).bind fun t157 => (windhoverref11_Read.l1 k x0 x1 x7 x8 t157 true x12 (wrap64 (x13 + x8)))) else (none)) else (none)) else (windhoverref11_Read.l1 k x0 x1 x7 x8 x10 x11 (wrap64 (x12 + 1)) (wrap64 (x13 + 1)))) else (none)) else (none)) else (windhoverref11_Read.l1 k x0 x1 x7 x8 x10 x11 (wrap64 (x12 + 1)) (wrap64 (x13 + 1)))) else (none)) else (none))) else (none)) else (none)) else (none)) else (windhoverref11_Read.l1 k x0 x1 x7 x8 x10 x11 (wrap64 (x12 + 1)) (wrap64 (x13 + 1)))
end
def windhoverref11_Read.f (k : Nat) (a0 : Int) (a1 : ByteArray) : Option (List Int × Bool × Int) := (windhoverref11_widths.f a0).bind fun t151 => (if (t151.length : Int) = 0 then (some (([] : List Int), false, 0)) else (windhoverref11_Read.l0 k a0 a1 t151 4 0))
theorem windhoverref11_Read.mono_l : ∀ k, (∀ y0 y1 y2 y3 y4, LeO (windhoverref11_Read.l0 k y0 y1 y2 y3 y4) (windhoverref11_Read.l0 (k + 1) y0 y1 y2 y3 y4)) ∧ (∀ y0 y1 y2 y3 y4 y5 y6 y7, LeO (windhoverref11_Read.l1 k y0 y1 y2 y3 y4 y5 y6 y7) (windhoverref11_Read.l1 (k + 1) y0 y1 y2 y3 y4 y5 y6 y7)) ∧ (∀ y0 y1 y2 y3 y4 y5 y6 y7 y8, LeO (windhoverref11_Read.j2 k y0 y1 y2 y3 y4 y5 y6 y7 y8) (windhoverref11_Read.j2 (k + 1) y0 y1 y2 y3 y4 y5 y6 y7 y8))
  | 0 => ⟨fun _ _ _ _ _ r h => by simp [windhoverref11_Read.l0] at h, fun _ _ _ _ _ _ _ _ r h => by simp [windhoverref11_Read.l1] at h, fun _ _ _ _ _ _ _ _ _ r h => by simp [windhoverref11_Read.j2] at h⟩
  | k + 1 => by
    obtain ⟨ih0, ih1, ih2⟩ := windhoverref11_Read.mono_l k
    refine ⟨?_, ?_, ?_⟩
    · intro y0 y1 y2 y3 y4
      unfold windhoverref11_Read.l0
      repeat' first
      | (with_reducible exact ih0 _ _ _ _ _)
      | (with_reducible exact ih1 _ _ _ _ _ _ _ _)
      | (with_reducible exact ih2 _ _ _ _ _ _ _ _ _)
      | (with_reducible exact windhoverref03_Sum.mono _ _)
      | (with_reducible exact windhoverref11_fields.mono _ _ _)
      | (with_reducible exact LeO.refl _)
      | (with_reducible exact LeO.none _)
      | (with_reducible refine LeO.ite ?_ ?_)
      | (with_reducible refine LeO.bind ?_ (fun _ => ?_))
      | exact ih0 _ _ _ _ _
      | exact ih1 _ _ _ _ _ _ _ _
      | exact ih2 _ _ _ _ _ _ _ _ _
      | exact windhoverref03_Sum.mono _ _
      | exact windhoverref11_fields.mono _ _ _
      | exact LeO.none _
      | refine LeO.ite ?_ ?_
      | refine LeO.bind ?_ (fun _ => ?_)
    · intro y0 y1 y2 y3 y4 y5 y6 y7
      unfold windhoverref11_Read.l1
      repeat' first
      | (with_reducible exact ih0 _ _ _ _ _)
      | (with_reducible exact ih1 _ _ _ _ _ _ _ _)
      | (with_reducible exact ih2 _ _ _ _ _ _ _ _ _)
      | (with_reducible exact windhoverref03_Sum.mono _ _)
      | (with_reducible exact windhoverref11_fields.mono _ _ _)
      | (with_reducible exact LeO.refl _)
      | (with_reducible exact LeO.none _)
      | (with_reducible refine LeO.ite ?_ ?_)
      | (with_reducible refine LeO.bind ?_ (fun _ => ?_))
      | exact ih0 _ _ _ _ _
      | exact ih1 _ _ _ _ _ _ _ _
      | exact ih2 _ _ _ _ _ _ _ _ _
      | exact windhoverref03_Sum.mono _ _
      | exact windhoverref11_fields.mono _ _ _
      | exact LeO.none _
      | refine LeO.ite ?_ ?_
      | refine LeO.bind ?_ (fun _ => ?_)
    · intro y0 y1 y2 y3 y4 y5 y6 y7 y8
      unfold windhoverref11_Read.j2
      repeat' first
      | (with_reducible exact ih0 _ _ _ _ _)
      | (with_reducible exact ih1 _ _ _ _ _ _ _ _)
      | (with_reducible exact ih2 _ _ _ _ _ _ _ _ _)
      | (with_reducible exact windhoverref03_Sum.mono _ _)
      | (with_reducible exact windhoverref11_fields.mono _ _ _)
      | (with_reducible exact LeO.refl _)
      | (with_reducible exact LeO.none _)
      | (with_reducible refine LeO.ite ?_ ?_)
      | (with_reducible refine LeO.bind ?_ (fun _ => ?_))
      | exact ih0 _ _ _ _ _
      | exact ih1 _ _ _ _ _ _ _ _
      | exact ih2 _ _ _ _ _ _ _ _ _
      | exact windhoverref03_Sum.mono _ _
      | exact windhoverref11_fields.mono _ _ _
      | exact LeO.none _
      | refine LeO.ite ?_ ?_
      | refine LeO.bind ?_ (fun _ => ?_)
theorem windhoverref11_Read.mono : ∀ a0 a1 k, LeO (windhoverref11_Read.f k a0 a1) (windhoverref11_Read.f (k + 1) a0 a1) := by
  intro a0 a1 k
  obtain ⟨ih0, ih1, ih2⟩ := windhoverref11_Read.mono_l k
  unfold windhoverref11_Read.f
  repeat' first
      | (with_reducible exact ih0 _ _ _ _ _)
      | (with_reducible exact ih1 _ _ _ _ _ _ _ _)
      | (with_reducible exact ih2 _ _ _ _ _ _ _ _ _)
      | (with_reducible exact windhoverref03_Sum.mono _ _)
      | (with_reducible exact windhoverref11_fields.mono _ _ _)
      | (with_reducible exact LeO.refl _)
      | (with_reducible exact LeO.none _)
      | (with_reducible refine LeO.ite ?_ ?_)
      | (with_reducible refine LeO.bind ?_ (fun _ => ?_))
      | exact ih0 _ _ _ _ _
      | exact ih1 _ _ _ _ _ _ _ _
      | exact ih2 _ _ _ _ _ _ _ _ _
      | exact windhoverref03_Sum.mono _ _
      | exact windhoverref11_fields.mono _ _ _
      | exact LeO.none _
      | refine LeO.ite ?_ ?_
      | refine LeO.bind ?_ (fun _ => ?_)
set_option maxHeartbeats 8000000 in
set_option maxRecDepth 100000 in
theorem windhoverref11_Read.calls (k : Nat) (a0 : Int) (a1 : ByteArray) (r1 : List Int) (r2 : Bool) (r3 : Int) (w : World) (h : windhoverref11_Read.f k a0 a1 = some (r1, r2, r3)) :
    Calls Try.prog 54 #[.int .u8 a0, .string a1] w fun e w' => ∃ v0_ : Value, e = .returned (.tuple #[v0_, .bool r2, .int .i64 r3]) ∧ Kd.R (Kd.int .i64) 3 w' w.heap.size (fun _ => True) v0_ r1 ∧ Below w.heap.size w w' := by
  have HB := Aside0.mk (Below.refl w.heap.size w)
  have H : ((windhoverref11_widths.f a0).bind fun t151 => (if (t151.length : Int) = 0 then (some (([] : List Int), false, 0)) else (windhoverref11_Read.l0 k a0 a1 t151 4 0))) = some (r1, r2, r3) := h
  clear h
  replace H := Option.bind_eq_some_iff.mp H
  obtain ⟨t151, A30, H⟩ := H
  replace H : (if (t151.length : Int) = 0 then (some (([] : List Int), false, 0)) else (windhoverref11_Read.l0 k a0 a1 t151 4 0)) = some (r1, r2, r3) := H
  have A3 := Aside0.mk A30
  clear A30
  by_cases c4 : (t151.length : Int) = 0
  · rw [if_pos c4] at H
    have c4b0 : ((t151.length : Int) == 0) = true := beq_iff_eq.mpr c4
    have c4b1 : ((t151.length : Int) != 0) = false := bne_eq_false_iff_eq.mpr c4
    clear c4
    simp only [Option.some.injEq, Prod.mk.injEq] at H
    obtain ⟨rfl, rfl, rfl⟩ := H
    go_enter Try.func54, Try.ntmps54
    go_wp2_with (first | ((with_reducible refine gate_callee (f := 91) rfl ?_); refine goesL_ (some 17) rfl rfl Try.func91 (by kernel_rfl) rfl #[.int .u8 a0] rfl (by (try simp only [List.map_toArray, List.map_cons, List.map_nil]); first | done | rfl | (simp only [List.length_drop, List.length_take]; rfl)) ?_; (with_reducible refine (windhoverref11_widths.calls a0 t151 _ A3.out).mono ?_); rintro e w5 ⟨v152, rfl, ho0, hb⟩; refine ⟨_, rfl, ?_⟩; have n0_ := Aside0.mk (Kd.R_lower ho0 (below_size (by repeat (first | (with_reducible first | exact HB.out | apply below_alloc | apply pw_below_drewN | apply below_drew1) | exact HB.out)))); have n1_ := Aside0.mk (below_step (by repeat (first | (with_reducible first | exact HB.out | apply below_alloc | apply pw_below_drewN | apply below_drew1) | exact HB.out)) hb); clear HB; have HO153 := n0_; have HB := n1_; clear n0_ n1_; (try clear hb); (try clear hb2); (try clear hk); (try clear hi); (try clear ho0); obtain ⟨Ao6, co6, eo6⟩ := Kd.R_slice HO153.out; subst eo6))
    go_ret3
    exact ⟨_, by first | rfl | (simp [errW_none, errW_some] <;> rfl) | (simp [*, errW_none, errW_some] <;> rfl), by first | exact Kd.R_nil _ _ _ _ _ | exact Kd.N_nil _ _ _ _ _ | exact Kd.V_nil _ _ _ _ _ | exact Kd.Q_nil _ _ _ _ _ | exact Kd.S_nil _ _ _ _ _, by repeat (first | (with_reducible first | exact HB.out | apply below_alloc | apply pw_below_drewN | apply below_drew1) | exact HB.out)⟩
  · rw [if_neg c4] at H
    have c4b0 : ((t151.length : Int) == 0) = false := beq_eq_false_iff_ne.mpr c4
    have c4b1 : ((t151.length : Int) != 0) = true := bne_iff_ne.mpr c4
    have c4b2 : ¬ (t151 = []) := fun h_ => c4 (by rw [h_]; rfl)
    have H' := Aside0.mk H
    clear H
    go_enter Try.func54, Try.ntmps54
    go_wp2_with (first | ((with_reducible refine gate_callee (f := 91) rfl ?_); refine goesL_ (some 17) rfl rfl Try.func91 (by kernel_rfl) rfl #[.int .u8 a0] rfl (by (try simp only [List.map_toArray, List.map_cons, List.map_nil]); first | done | rfl | (simp only [List.length_drop, List.length_take]; rfl)) ?_; (with_reducible refine (windhoverref11_widths.calls a0 t151 _ A3.out).mono ?_); rintro e w7 ⟨v152, rfl, ho0, hb⟩; refine ⟨_, rfl, ?_⟩; have n0_ := Aside0.mk (Kd.R_lower ho0 (below_size (by repeat (first | (with_reducible first | exact HB.out | apply below_alloc | apply pw_below_drewN | apply below_drew1) | exact HB.out)))); have n1_ := Aside0.mk (below_step (by repeat (first | (with_reducible first | exact HB.out | apply below_alloc | apply pw_below_drewN | apply below_drew1) | exact HB.out)) hb); clear HB; have HO153 := n0_; have HB := n1_; clear n0_ n1_; (try clear hb); (try clear hb2); (try clear hk); (try clear hi); (try clear ho0); obtain ⟨Ao8, co8, eo8⟩ := Kd.R_slice HO153.out; subst eo8))
    go_loopg [8, 9] k (fun kq v8 v9 w' => ∃ (x8_1 : Int) (x9_1 : Int), v8 = .int .i64 x8_1 ∧ v9 = .int .i64 x9_1 ∧ Aside0 (windhoverref11_Read.l0 kq a0 a1 t151 x8_1 x9_1 = some (r1, r2, r3)) ∧ Aside0 (kq ≤ k) ∧ Aside0 (Kd.R (Kd.int .i64) 3 w' w.heap.size (fun _ => True) (.slice Ao8 t151.length co8) t151) ∧ Aside0 (Below w.heap.size w w'))
    case atStart => exact ⟨(4), (0), (by first | rfl | (simp; done) | (simp [*]; done)), (by first | rfl | (simp; done) | (simp [*]; done)), H', ⟨Nat.le_refl _⟩, ⟨by (with_reducible repeat (first | apply Kd.R_alloc | apply Kd.R_drewN | apply Kd.R_drew)); exact HO153.out⟩, ⟨by repeat (first | (with_reducible first | exact HB.out | apply below_alloc | apply pw_below_drewN | apply below_drew1) | exact HB.out)⟩⟩
    case round =>
      clear H'
      try clear p2
      try clear c4
      try clear c4b0
      try clear c4b1
      try clear c4b2
      try clear c5
      obtain ⟨x8_1, x9_1, rfl, rfl, HA, HK1, HO_7, HB⟩ := hrel
      cases gk with
      | zero => exact absurd HA.out (by simp [windhoverref11_Read.l0])
      | succ k1 =>
        have H := HA.out
        clear HA
        simp only [windhoverref11_Read.l0] at H
        by_cases c9 : x9_1 < (t151.length : Int)
        · rw [if_pos c9] at H
          have c9b0 : decide (x9_1 < (t151.length : Int)) = true := decide_eq_true c9
          clear c9
          by_cases c10 : 0 ≤ x9_1
          · rw [if_pos c10] at H
            have c10b0 : decide (0 ≤ x9_1) = true := decide_eq_true c10
            clear c10
            replace H := Option.bind_eq_some_iff.mp H
            obtain ⟨t155, A110, H⟩ := H
            replace H : (windhoverref11_Read.l0 k1 a0 a1 t151 (wrap64 (x8_1 + t155)) (wrap64 (x9_1 + 1))) = some (r1, r2, r3) := H
            have A11 := Aside0.mk A110
            clear A110
            have H' := Aside0.mk H
            clear H
            have p154 : 0 ≤ (x9_1 : Int) := of_decide_eq_true (by first | (with_reducible assumption) | assumption)
            have q154 : x9_1 < (t151.length : Int) := of_decide_eq_true (by first | (with_reducible assumption) | assumption)
            obtain ⟨ad154, e154, hx154_0⟩ := Kd.at_int (Kd.R_reads' HO_7.out).2.2 x9_1 p154 q154
            cases e154
            replace p154 := eq_true p154
            replace q154 := eq_true q154
            go_wp2_with (first | ((with_reducible refine gate_callee (f := 92) rfl ?_); refine goesL_ (some 32) rfl rfl Try.func92 (by kernel_rfl) rfl #[.int .i64 (rd t151 x9_1)] rfl (by (try simp only [List.map_toArray, List.map_cons, List.map_nil]); first | done | rfl | (simp only [List.length_drop, List.length_take]; rfl)) ?_; (with_reducible refine (windhoverref11_bytes.calls (rd t151 x9_1) t155 _ A11.out).mono ?_); rintro e w' ⟨rfl, ⟨nd, rfl⟩⟩; refine ⟨_, rfl, ?_⟩))
            go_roundg k1
            case measure => have := HK1.out; omega
            case rel => exact ⟨(wrap64 (x8_1 + t155)), (wrap64 (x9_1 + 1)), (by first | rfl | (simp; done) | (simp [*]; done)), (by first | rfl | (simp; done) | (simp [*]; done)), H', ⟨by have := HK1.out; omega⟩, ⟨by (with_reducible repeat (first | apply Kd.R_alloc | apply Kd.R_drewN | apply Kd.R_drew)); exact HO_7.out⟩, ⟨by repeat (first | (with_reducible first | exact HB.out | apply below_alloc | apply pw_below_drewN | apply below_drew1) | exact HB.out)⟩⟩
          · rw [if_neg c10] at H
            exact absurd H (by simp)
        · rw [if_neg c9] at H
          have c9b0 : decide (x9_1 < (t151.length : Int)) = false := decide_eq_false c9
          clear c9
          have H' := Aside0.mk H
          clear H
          go_wp2
          go_loopg [10, 11, 12, 13] k1 (fun kq v10 v11 v12 v13 w' => ∃ (x10_2 : List Int) (x11_2 : Bool) (x12_2 : Int) (x13_2 : Int), v11 = .bool x11_2 ∧ v12 = .int .i64 x12_2 ∧ v13 = .int .i64 x13_2 ∧ Aside0 (windhoverref11_Read.l1 kq a0 a1 t151 x8_1 x10_2 x11_2 x12_2 x13_2 = some (r1, r2, r3)) ∧ Aside0 (kq ≤ k1) ∧ Aside0 (Kd.R (Kd.int .i64) 3 w' w.heap.size (fun k_ => some k_ ≠ (v10 : Value).ownBlock) (.slice Ao8 t151.length co8) t151) ∧ Aside0 (Kd.R (Kd.int .i64) 3 w' w.heap.size (fun k_ => some k_ ≠ ((.slice Ao8 t151.length co8) : Value).ownBlock) v10 x10_2) ∧ Aside0 (Below w.heap.size w w'))
          case atStart => exact ⟨(([] : List Int)), (false), (0), (0), (by first | rfl | (simp; done) | (simp [*]; done)), (by first | rfl | (simp; done) | (simp [*]; done)), (by first | rfl | (simp; done) | (simp [*]; done)), H', ⟨Nat.le_refl _⟩, ⟨by (with_reducible repeat (first | apply Kd.R_alloc | apply Kd.R_drewN | apply Kd.R_drew)); exact Kd.R_mono HO_7.out (fun _ hk => (by simp [Value.ownBlock]))⟩, ⟨by first | exact Kd.R_nil _ _ _ _ _ | exact Kd.N_nil _ _ _ _ _ | exact Kd.V_nil _ _ _ _ _ | exact Kd.Q_nil _ _ _ _ _ | exact Kd.S_nil _ _ _ _ _⟩, ⟨by repeat (first | (with_reducible first | exact HB.out | apply below_alloc | apply pw_below_drewN | apply below_drew1) | exact HB.out)⟩⟩
          case round =>
            clear H'
            try clear c1
            try clear p1
            try clear q1
            try clear hx1
            try clear p2
            try clear c4
            try clear c4b0
            try clear c4b1
            try clear c4b2
            try clear c5
            try clear p6
            try clear c9
            try clear c9b0
            try clear c10
            try clear c10b0
            try clear hx154_0
            try clear p154
            try clear p2
            try clear q154
            obtain ⟨x10_2, x11_2, x12_2, x13_2, rfl, rfl, rfl, HA, HK2, HO_7, HO_10, HB⟩ := hrel
            cases gk with
            | zero => exact absurd HA.out (by simp [windhoverref11_Read.l1])
            | succ k2 =>
              have H := HA.out
              clear HA
              simp only [windhoverref11_Read.l1] at H
              by_cases c12 : x13_2 < (a1.size : Int)
              · rw [if_pos c12] at H
                have c12b0 : decide (x13_2 < (a1.size : Int)) = true := decide_eq_true c12
                clear c12
                by_cases c13 : 0 ≤ x13_2
                · rw [if_pos c13] at H
                  have c13b0 : decide (0 ≤ x13_2) = true := decide_eq_true c13
                  clear c13
                  by_cases c15 : (bt a1 x13_2) = 165
                  · rw [if_pos c15] at H
                    have c15b0 : ((bt a1 x13_2) == 165) = true := beq_iff_eq.mpr c15
                    have c15b1 : ((bt a1 x13_2) != 165) = false := bne_eq_false_iff_eq.mpr c15
                    clear c15
                    have HC16 := Aside0.mk H
                    clear H
                    have p14 : 0 ≤ (x13_2 : Int) := of_decide_eq_true (by first | (with_reducible assumption) | assumption)
                    have q14 : x13_2 < (a1.size : Int) := of_decide_eq_true (by first | (with_reducible assumption) | assumption)
                    have hx14 := bt_at a1 x13_2
                    replace p14 := eq_true p14
                    replace q14 := eq_true q14
                    go_upto_region 16 with (fail)
                    go_cut [14] (fun v14 wc => ∃ (kq : Nat) (x14_15 : Bool), v14 = .bool x14_15 ∧ Aside0 (windhoverref11_Read.j2 kq a0 a1 t151 x8_1 x10_2 x11_2 x12_2 x13_2 x14_15 = some (r1, r2, r3)) ∧ Aside0 (kq ≤ k2) ∧ Aside0 (Kd.R (Kd.int .i64) 3 wc w.heap.size (fun k_ => some k_ ≠ (u10 : Value).ownBlock) (.slice Ao8 t151.length co8) t151) ∧ Aside0 (Kd.R (Kd.int .i64) 3 wc w.heap.size (fun k_ => some k_ ≠ ((.slice Ao8 t151.length co8) : Value).ownBlock) u10 x10_2) ∧ Aside0 (Below w.heap.size w wc))
                    case first =>
                      have H := HC16.out
                      clear HC16
                      by_cases c17 : (wrap64 (x13_2 + x8_1)) ≤ (a1.size : Int)
                      · rw [if_pos c17] at H
                        have c17b0 : decide ((wrap64 (x13_2 + x8_1)) ≤ (a1.size : Int)) = true := decide_eq_true c17
                        clear c17
                        (first | rw [c17b0] | (simp only [i64_w, i32_w]; rw [c17b0]) | skip)
                        obtain ⟨ji18, hji18⟩ : ∃ j_ : Int, (wrap64 (x13_2 + 1)) = j_ := ⟨_, rfl⟩
                        replace H : (if 0 ≤ (ji18) then (if (ji18) < (a1.size : Int) then (windhoverref11_Read.j2 k2 a0 a1 t151 x8_1 x10_2 x11_2 x12_2 x13_2 ((bt a1 (ji18)) == a0)) else (none)) else (none)) = some (r1, r2, r3) := by first | (rw [hji18] at H; exact H) | (simp only [hji18] at H ⊢; exact H)
                        have hji18w : (IntKind.i64.wrap (x13_2 + 1)) = ji18 := (i64_w _).trans hji18
                        by_cases c19 : 0 ≤ (ji18)
                        · rw [if_pos c19] at H
                          have c19b0 : decide (0 ≤ (ji18)) = true := decide_eq_true c19
                          clear c19
                          by_cases c20 : (ji18) < (a1.size : Int)
                          · rw [if_pos c20] at H
                            have c20b0 : decide ((ji18) < (a1.size : Int)) = true := decide_eq_true c20
                            clear c20
                            have H' := Aside0.mk H
                            clear H
                            have p21 : 0 ≤ ((ji18) : Int) := of_decide_eq_true (by first | (with_reducible assumption) | assumption)
                            have q21 : (ji18) < (a1.size : Int) := of_decide_eq_true (by first | (with_reducible assumption) | assumption)
                            have hx21 := bt_at a1 (ji18)
                            replace p21 := eq_true p21
                            replace q21 := eq_true q21
                            go_wp2
                            go_meet
                            case rel => exact ⟨_, (((bt a1 (ji18)) == a0)), (by first | rfl | (simp; done) | (simp only [← hji18] <;> (first | rfl | (simp; done))) | (simpa using hji18y) | (simp [*]; done)), H', ⟨by have := HK1.out; have := HK2.out; first | omega | exact Nat.le_refl _⟩, ⟨by (with_reducible repeat (first | apply Kd.R_alloc | apply Kd.R_drewN | apply Kd.R_drew)); exact HO_7.out⟩, ⟨by (with_reducible repeat (first | apply Kd.R_alloc | apply Kd.R_drewN | apply Kd.R_drew)); exact HO_10.out⟩, ⟨by repeat (first | (with_reducible first | exact HB.out | apply below_alloc | apply pw_below_drewN | apply below_drew1) | exact HB.out)⟩⟩
                          · rw [if_neg c20] at H
                            exact absurd H (by simp)
                        · rw [if_neg c19] at H
                          exact absurd H (by simp)
                      · rw [if_neg c17] at H
                        have c17b0 : decide ((wrap64 (x13_2 + x8_1)) ≤ (a1.size : Int)) = false := decide_eq_false c17
                        clear c17
                        (first | rw [c17b0] | (simp only [i64_w, i32_w]; rw [c17b0]) | skip)
                        have H' := Aside0.mk H
                        clear H
                        go_wp2
                        go_meet
                        case rel => exact ⟨_, (false), (by first | rfl | (simp; done) | (simp [*]; done)), H', ⟨by have := HK1.out; have := HK2.out; first | omega | exact Nat.le_refl _⟩, ⟨by (with_reducible repeat (first | apply Kd.R_alloc | apply Kd.R_drewN | apply Kd.R_drew)); exact HO_7.out⟩, ⟨by (with_reducible repeat (first | apply Kd.R_alloc | apply Kd.R_drewN | apply Kd.R_drew)); exact HO_10.out⟩, ⟨by repeat (first | (with_reducible first | exact HB.out | apply below_alloc | apply pw_below_drewN | apply below_drew1) | exact HB.out)⟩⟩
                    case rest =>
                      clear HC16
                      try clear c1
                      try clear p1
                      try clear q1
                      try clear hx1
                      try clear c2
                      try clear p2
                      try clear q2
                      try clear hx2
                      try clear c4
                      try clear c4b0
                      try clear c4b1
                      try clear c4b2
                      try clear c5
                      try clear p6
                      try clear c9
                      try clear c9b0
                      try clear c10
                      try clear c10b0
                      try clear c12
                      try clear c12b0
                      try clear c13
                      try clear c13b0
                      try clear p14
                      try clear q14
                      try clear hx14
                      try clear c15
                      try clear c15b0
                      try clear c15b1
                      try clear p15
                      try clear q15
                      try clear hx15
                      try clear c17
                      try clear c17b0
                      try clear c19
                      try clear c19b0
                      try clear c20
                      try clear c20b0
                      try clear p21
                      try clear q21
                      try clear hx21
                      try clear hx154_0
                      try clear p1
                      try clear p14
                      try clear p154
                      try clear p2
                      try clear p21
                      try clear p6
                      try clear q1
                      try clear q14
                      try clear q154
                      try clear q21
                      obtain ⟨kq, x14_15, rfl, HA, HJ15, HO_7, HO_10, HB⟩ := hcut
                      cases kq with
                      | zero => exact absurd HA.out (by simp [windhoverref11_Read.j2])
                      | succ kj15 =>
                        have H := HA.out
                        clear HA
                        simp only [windhoverref11_Read.j2] at H
                        by_cases c22 : x14_15 = true
                        · subst c22
                          have H1 : (if 0 ≤ (wrap64 (x13_2 + 1)) then (if (wrap64 (x13_2 + 1)) ≤ (wrap64 ((wrap64 (x13_2 + x8_1)) - 2)) then (if (wrap64 ((wrap64 (x13_2 + x8_1)) - 2)) ≤ (a1.size : Int) then ((windhoverref03_Sum.f kj15 (a1.extract ((wrap64 (x13_2 + 1)) : Int).toNat ((wrap64 ((wrap64 (x13_2 + x8_1)) - 2)) : Int).toNat)).bind fun t156 => (if 0 ≤ (wrap64 ((wrap64 (x13_2 + x8_1)) - 2)) then (if (wrap64 ((wrap64 (x13_2 + x8_1)) - 2)) < (a1.size : Int) then (if (bt a1 (wrap64 ((wrap64 (x13_2 + x8_1)) - 2))) = ((Int.tmod t156 256) % 256) then (if 0 ≤ (wrap64 ((wrap64 (x13_2 + x8_1)) - 1)) then (if (wrap64 ((wrap64 (x13_2 + x8_1)) - 1)) < (a1.size : Int) then (if ((bt a1 (wrap64 ((wrap64 (x13_2 + x8_1)) - 1))) = ((IntKind.u16.wrap (Int.tdiv t156 256)) % 256)) then (if 0 ≤ (wrap64 (x13_2 + 2)) then (if (wrap64 (x13_2 + 2)) ≤ (a1.size : Int) then ((windhoverref11_fields.f kj15 t151 (a1.extract ((wrap64 (x13_2 + 2)) : Int).toNat a1.size)).bind fun t157 => (windhoverref11_Read.l1 kj15 a0 a1 t151 x8_1 t157 true x12_2 (wrap64 (x13_2 + x8_1)))) else (none)) else (none)) else (windhoverref11_Read.l1 kj15 a0 a1 t151 x8_1 x10_2 x11_2 (wrap64 (x12_2 + 1)) (wrap64 (x13_2 + 1)))) else (none)) else (none)) else (windhoverref11_Read.l1 kj15 a0 a1 t151 x8_1 x10_2 x11_2 (wrap64 (x12_2 + 1)) (wrap64 (x13_2 + 1)))) else (none)) else (none))) else (none)) else (none)) else (none)) = some (r1, r2, r3) := by rw [if_pos rfl] at H; exact H
                          clear H
                          have H := H1
                          clear H1
                          obtain ⟨ji23, hji23⟩ : ∃ j_ : Int, (wrap64 (x13_2 + 1)) = j_ := ⟨_, rfl⟩
                          replace H : (if 0 ≤ (ji23) then (if (ji23) ≤ (wrap64 ((wrap64 (x13_2 + x8_1)) - 2)) then (if (wrap64 ((wrap64 (x13_2 + x8_1)) - 2)) ≤ (a1.size : Int) then ((windhoverref03_Sum.f kj15 (a1.extract ((ji23) : Int).toNat ((wrap64 ((wrap64 (x13_2 + x8_1)) - 2)) : Int).toNat)).bind fun t156 => (if 0 ≤ (wrap64 ((wrap64 (x13_2 + x8_1)) - 2)) then (if (wrap64 ((wrap64 (x13_2 + x8_1)) - 2)) < (a1.size : Int) then (if (bt a1 (wrap64 ((wrap64 (x13_2 + x8_1)) - 2))) = ((Int.tmod t156 256) % 256) then (if 0 ≤ (wrap64 ((wrap64 (x13_2 + x8_1)) - 1)) then (if (wrap64 ((wrap64 (x13_2 + x8_1)) - 1)) < (a1.size : Int) then (if ((bt a1 (wrap64 ((wrap64 (x13_2 + x8_1)) - 1))) = ((IntKind.u16.wrap (Int.tdiv t156 256)) % 256)) then (if 0 ≤ (wrap64 (x13_2 + 2)) then (if (wrap64 (x13_2 + 2)) ≤ (a1.size : Int) then ((windhoverref11_fields.f kj15 t151 (a1.extract ((wrap64 (x13_2 + 2)) : Int).toNat a1.size)).bind fun t157 => (windhoverref11_Read.l1 kj15 a0 a1 t151 x8_1 t157 true x12_2 (wrap64 (x13_2 + x8_1)))) else (none)) else (none)) else (windhoverref11_Read.l1 kj15 a0 a1 t151 x8_1 x10_2 x11_2 (wrap64 (x12_2 + 1)) ji23)) else (none)) else (none)) else (windhoverref11_Read.l1 kj15 a0 a1 t151 x8_1 x10_2 x11_2 (wrap64 (x12_2 + 1)) ji23)) else (none)) else (none))) else (none)) else (none)) else (none)) = some (r1, r2, r3) := by first | (rw [hji23] at H; exact H) | (simp only [hji23] at H ⊢; exact H)
                          have hji23w : (IntKind.i64.wrap (x13_2 + 1)) = ji23 := (i64_w _).trans hji23
                          (try rw [hji23] at hji18)
                          (try rw [hji23] at hji18w)
                          by_cases c24 : 0 ≤ (ji23)
                          · rw [if_pos c24] at H
                            have c24b0 := eq_true c24
                            have c24b1 : decide (0 ≤ (ji23)) = true := decide_eq_true c24
                            clear c24
                            by_cases c25 : (ji23) ≤ (wrap64 ((wrap64 (x13_2 + x8_1)) - 2))
                            · rw [if_pos c25] at H
                              have c25b0 := eq_true c25
                              have c25b1 : decide ((ji23) ≤ (wrap64 ((wrap64 (x13_2 + x8_1)) - 2))) = true := decide_eq_true c25
                              by_cases c26 : (wrap64 ((wrap64 (x13_2 + x8_1)) - 2)) ≤ (a1.size : Int)
                              · rw [if_pos c26] at H
                                have c26b0 := eq_true c26
                                have c26b1 : decide ((wrap64 ((wrap64 (x13_2 + x8_1)) - 2)) ≤ (a1.size : Int)) = true := decide_eq_true c26
                                replace H := Option.bind_eq_some_iff.mp H
                                obtain ⟨t156, A270, H⟩ := H
                                replace H : (if 0 ≤ (wrap64 ((wrap64 (x13_2 + x8_1)) - 2)) then (if (wrap64 ((wrap64 (x13_2 + x8_1)) - 2)) < (a1.size : Int) then (if (bt a1 (wrap64 ((wrap64 (x13_2 + x8_1)) - 2))) = ((Int.tmod t156 256) % 256) then (if 0 ≤ (wrap64 ((wrap64 (x13_2 + x8_1)) - 1)) then (if (wrap64 ((wrap64 (x13_2 + x8_1)) - 1)) < (a1.size : Int) then (if ((bt a1 (wrap64 ((wrap64 (x13_2 + x8_1)) - 1))) = ((IntKind.u16.wrap (Int.tdiv t156 256)) % 256)) then (if 0 ≤ (wrap64 (x13_2 + 2)) then (if (wrap64 (x13_2 + 2)) ≤ (a1.size : Int) then ((windhoverref11_fields.f kj15 t151 (a1.extract ((wrap64 (x13_2 + 2)) : Int).toNat a1.size)).bind fun t157 => (windhoverref11_Read.l1 kj15 a0 a1 t151 x8_1 t157 true x12_2 (wrap64 (x13_2 + x8_1)))) else (none)) else (none)) else (windhoverref11_Read.l1 kj15 a0 a1 t151 x8_1 x10_2 x11_2 (wrap64 (x12_2 + 1)) ji23)) else (none)) else (none)) else (windhoverref11_Read.l1 kj15 a0 a1 t151 x8_1 x10_2 x11_2 (wrap64 (x12_2 + 1)) ji23)) else (none)) else (none)) = some (r1, r2, r3) := H
                                have A27 := Aside0.mk A270
                                clear A270
                                obtain ⟨ji28, hji28⟩ : ∃ j_ : Int, (wrap64 ((wrap64 (x13_2 + x8_1)) - 2)) = j_ := ⟨_, rfl⟩
                                replace H : (if 0 ≤ (ji28) then (if (ji28) < (a1.size : Int) then (if (bt a1 (ji28)) = ((Int.tmod t156 256) % 256) then (if 0 ≤ (wrap64 ((wrap64 (x13_2 + x8_1)) - 1)) then (if (wrap64 ((wrap64 (x13_2 + x8_1)) - 1)) < (a1.size : Int) then (if ((bt a1 (wrap64 ((wrap64 (x13_2 + x8_1)) - 1))) = ((IntKind.u16.wrap (Int.tdiv t156 256)) % 256)) then (if 0 ≤ (wrap64 (x13_2 + 2)) then (if (wrap64 (x13_2 + 2)) ≤ (a1.size : Int) then ((windhoverref11_fields.f kj15 t151 (a1.extract ((wrap64 (x13_2 + 2)) : Int).toNat a1.size)).bind fun t157 => (windhoverref11_Read.l1 kj15 a0 a1 t151 x8_1 t157 true x12_2 (wrap64 (x13_2 + x8_1)))) else (none)) else (none)) else (windhoverref11_Read.l1 kj15 a0 a1 t151 x8_1 x10_2 x11_2 (wrap64 (x12_2 + 1)) ji23)) else (none)) else (none)) else (windhoverref11_Read.l1 kj15 a0 a1 t151 x8_1 x10_2 x11_2 (wrap64 (x12_2 + 1)) ji23)) else (none)) else (none)) = some (r1, r2, r3) := by first | (rw [hji28] at H; exact H) | (simp only [hji28] at H ⊢; exact H)
                                (try rw [hji28] at c25b0)
                                (try rw [hji28] at c25b1)
                                (try rw [hji28] at c25)
                                (try rw [hji28] at c26b0)
                                (try rw [hji28] at c26b1)
                                (try rw [hji28] at c26)
                                (try rw [hji28] at A27)
                                have hji28w : (IntKind.i64.wrap ((wrap64 (x13_2 + x8_1)) - 2)) = ji28 := (i64_w _).trans hji28
                                (try rw [hji28] at c25b1)
                                (try rw [hji28] at c26b1)
                                (try rw [hji28] at hji18)
                                (try rw [hji28] at hji18w)
                                (try rw [hji28] at hji23)
                                (try rw [hji28] at hji23w)
                                by_cases c29 : 0 ≤ (ji28)
                                · rw [if_pos c29] at H
                                  have c29b0 : decide (0 ≤ (ji28)) = true := decide_eq_true c29
                                  clear c29
                                  by_cases c30 : (ji28) < (a1.size : Int)
                                  · rw [if_pos c30] at H
                                    have c30b0 : decide ((ji28) < (a1.size : Int)) = true := decide_eq_true c30
                                    clear c30
                                    by_cases c32 : (bt a1 (ji28)) = ((Int.tmod t156 256) % 256)
                                    · rw [if_pos c32] at H
                                      have c32b0 : ((bt a1 (ji28)) == ((Int.tmod t156 256) % 256)) = true := beq_iff_eq.mpr c32
                                      have c32b1 : ((bt a1 (ji28)) != ((Int.tmod t156 256) % 256)) = false := bne_eq_false_iff_eq.mpr c32
                                      clear c32
                                      obtain ⟨ji33, hji33⟩ : ∃ j_ : Int, (wrap64 ((wrap64 (x13_2 + x8_1)) - 1)) = j_ := ⟨_, rfl⟩
                                      replace H : (if 0 ≤ (ji33) then (if (ji33) < (a1.size : Int) then (if ((bt a1 (ji33)) = ((IntKind.u16.wrap (Int.tdiv t156 256)) % 256)) then (if 0 ≤ (wrap64 (x13_2 + 2)) then (if (wrap64 (x13_2 + 2)) ≤ (a1.size : Int) then ((windhoverref11_fields.f kj15 t151 (a1.extract ((wrap64 (x13_2 + 2)) : Int).toNat a1.size)).bind fun t157 => (windhoverref11_Read.l1 kj15 a0 a1 t151 x8_1 t157 true x12_2 (wrap64 (x13_2 + x8_1)))) else (none)) else (none)) else (windhoverref11_Read.l1 kj15 a0 a1 t151 x8_1 x10_2 x11_2 (wrap64 (x12_2 + 1)) ji23)) else (none)) else (none)) = some (r1, r2, r3) := by first | (rw [hji33] at H; exact H) | (simp only [hji33] at H ⊢; exact H)
                                      (try rw [hji33] at A27)
                                      have hji33w : (IntKind.i64.wrap ((wrap64 (x13_2 + x8_1)) - 1)) = ji33 := (i64_w _).trans hji33
                                      (try rw [hji33] at hji18)
                                      (try rw [hji33] at hji18w)
                                      (try rw [hji33] at hji23)
                                      (try rw [hji33] at hji23w)
                                      (try rw [hji33] at hji28)
                                      (try rw [hji33] at hji28w)
                                      by_cases c34 : 0 ≤ (ji33)
                                      · rw [if_pos c34] at H
                                        have c34b0 : decide (0 ≤ (ji33)) = true := decide_eq_true c34
                                        clear c34
                                        by_cases c35 : (ji33) < (a1.size : Int)
                                        · rw [if_pos c35] at H
                                          have c35b0 : decide ((ji33) < (a1.size : Int)) = true := decide_eq_true c35
                                          clear c35
                                          by_cases c37 : ((bt a1 (ji33)) = ((IntKind.u16.wrap (Int.tdiv t156 256)) % 256))
                                          · rw [if_pos c37] at H
                                            have c37b0 : ((bt a1 (ji33)) == ((IntKind.u16.wrap (Int.tdiv t156 256)) % 256)) = true := beq_iff_eq.mpr c37
                                            have c37b1 : ((bt a1 (ji33)) != ((IntKind.u16.wrap (Int.tdiv t156 256)) % 256)) = false := bne_eq_false_iff_eq.mpr c37
                                            clear c37
                                            obtain ⟨ji38, hji38⟩ : ∃ j_ : Int, (wrap64 (x13_2 + 2)) = j_ := ⟨_, rfl⟩
                                            replace H : (if 0 ≤ (ji38) then (if (ji38) ≤ (a1.size : Int) then ((windhoverref11_fields.f kj15 t151 (a1.extract ((ji38) : Int).toNat a1.size)).bind fun t157 => (windhoverref11_Read.l1 kj15 a0 a1 t151 x8_1 t157 true x12_2 (wrap64 (x13_2 + x8_1)))) else (none)) else (none)) = some (r1, r2, r3) := by first | (rw [hji38] at H; exact H) | (simp only [hji38] at H ⊢; exact H)
                                            (try rw [hji38] at A27)
                                            have hji38w : (IntKind.i64.wrap (x13_2 + 2)) = ji38 := (i64_w _).trans hji38
                                            (try rw [hji38] at hji18)
                                            (try rw [hji38] at hji18w)
                                            (try rw [hji38] at hji23)
                                            (try rw [hji38] at hji23w)
                                            (try rw [hji38] at hji28)
                                            (try rw [hji38] at hji28w)
                                            (try rw [hji38] at hji33)
                                            (try rw [hji38] at hji33w)
                                            by_cases c39 : 0 ≤ (ji38)
                                            · rw [if_pos c39] at H
                                              have c39b0 := eq_true c39
                                              have c39b1 : decide (0 ≤ (ji38)) = true := decide_eq_true c39
                                              clear c39
                                              by_cases c40 : (ji38) ≤ (a1.size : Int)
                                              · rw [if_pos c40] at H
                                                have c40b0 := eq_true c40
                                                have c40b1 : decide ((ji38) ≤ (a1.size : Int)) = true := decide_eq_true c40
                                                clear c40
                                                replace H := Option.bind_eq_some_iff.mp H
                                                obtain ⟨t157, A410, H⟩ := H
                                                replace H : (windhoverref11_Read.l1 kj15 a0 a1 t151 x8_1 t157 true x12_2 (wrap64 (x13_2 + x8_1))) = some (r1, r2, r3) := H
                                                have A41 := Aside0.mk A410
                                                clear A410
                                                have H' := Aside0.mk H
                                                clear H
                                                go_wp2_with (first | ((with_reducible refine gate_callee (f := 93) rfl ?_); refine goesL_ (some 67) rfl rfl Try.func93 (by kernel_rfl) rfl #[.string (a1.extract ((ji23) : Int).toNat ((ji28) : Int).toNat)] rfl (by (try simp only [List.map_toArray, List.map_cons, List.map_nil]); first | done | (simp only [hji23, hji28]; rfl) | rfl | (simp only [List.length_drop, List.length_take]; rfl)) ?_; (with_reducible refine (windhoverref03_Sum.calls kj15 (a1.extract ((ji23) : Int).toNat ((ji28) : Int).toNat) t156 _ A27.out).mono ?_); rintro e w' ⟨rfl, ⟨nd, rfl⟩⟩; refine ⟨_, rfl, ?_⟩; have p31 : 0 ≤ ((ji28) : Int) := of_decide_eq_true (by first | (with_reducible assumption) | assumption); have q31 : (ji28) < (a1.size : Int) := of_decide_eq_true (by first | (with_reducible assumption) | assumption); have hx31 := bt_at a1 (ji28); replace p31 := eq_true p31; replace q31 := eq_true q31; have p36 : 0 ≤ ((ji33) : Int) := of_decide_eq_true (by first | (with_reducible assumption) | assumption); have q36 : (ji33) < (a1.size : Int) := of_decide_eq_true (by first | (with_reducible assumption) | assumption); have hx36 := bt_at a1 (ji33); replace p36 := eq_true p36; replace q36 := eq_true q36) | ((with_reducible refine gate_callee (f := 94) rfl ?_); refine goesL_ (some 101) rfl rfl Try.func94 (by kernel_rfl) rfl #[.slice Ao8 t151.length co8, .string (a1.extract ((ji38) : Int).toNat a1.size)] rfl (by (try simp only [List.map_toArray, List.map_cons, List.map_nil]); first | done | (simp only [hji38]; rfl) | rfl | (simp only [List.length_drop, List.length_take]; rfl)) ?_; (with_reducible refine (windhoverref11_fields.calls kj15 _ _ t151 (a1.extract ((ji38) : Int).toNat a1.size) t157 _ ?side1 ?side2 A41.out).mono ?_); (case side1 => repeat (first | exact (Kd.R_reads' HO_7.out).2.2 | (with_reducible refine Kd.C_alloc ?_ _) | (with_reducible refine Kd.C_drewN ?_ _) | (with_reducible refine Kd.C_drew ?_))); (case side2 => exact (Kd.R_reads' HO_7.out).2.1); rintro e w42 ⟨v158, rfl, ho0, hb⟩; refine ⟨_, rfl, ?_⟩; have n0_ := Aside0.mk (Kd.R_elder' (by (with_reducible repeat (first | apply Kd.R_alloc | apply Kd.R_drewN | apply Kd.R_drew)); exact HO_7.out) (Kd.R_base ho0) hb); have n1_ := Aside0.mk (Kd.R_elder' (by (with_reducible repeat (first | apply Kd.R_alloc | apply Kd.R_drewN | apply Kd.R_drew)); exact HO_10.out) (Kd.R_base ho0) hb); have n2_ := Aside0.mk (Kd.R_lower (Kd.R_new' (Kd.R_new' ho0 (Kd.R_lt (by (with_reducible repeat (first | apply Kd.R_alloc | apply Kd.R_drewN | apply Kd.R_drew)); exact HO_7.out))) (Kd.R_lt (by (with_reducible repeat (first | apply Kd.R_alloc | apply Kd.R_drewN | apply Kd.R_drew)); exact HO_10.out))) (below_size (by repeat (first | (with_reducible first | exact HB.out | apply below_alloc | apply pw_below_drewN | apply below_drew1) | exact HB.out)))); have n3_ := Aside0.mk (below_step (by repeat (first | (with_reducible first | exact HB.out | apply below_alloc | apply pw_below_drewN | apply below_drew1) | exact HB.out)) hb); clear HO_7; clear HO_10; clear HB; have HO_7 := n0_; have HO_10 := n1_; have HO159 := n2_; have HB := n3_; clear n0_ n1_ n2_ n3_; (try clear hb); (try clear hb2); (try clear hk); (try clear hi); (try clear ho0)))
                                                go_roundg kj15
                                                case measure => have := HK1.out; have := HK2.out; have := HJ15.out; omega
                                                case rel => exact ⟨(t157), (true), (x12_2), (wrap64 (x13_2 + x8_1)), (by first | rfl | (simp; done) | (simp [*]; done)), (by first | rfl | (simp; done) | (simp [*]; done)), (by first | rfl | (simp; done) | (simp [*]; done)), H', ⟨by have := HK1.out; have := HK2.out; have := HJ15.out; omega⟩, ⟨by (with_reducible repeat (first | apply Kd.R_alloc | apply Kd.R_drewN | apply Kd.R_drew)); exact Kd.R_mono HO_7.out (fun _ hk => hk.2)⟩, ⟨by (with_reducible repeat (first | apply Kd.R_alloc | apply Kd.R_drewN | apply Kd.R_drew)); exact Kd.R_mono HO159.out (fun _ hk => hk.1.2)⟩, ⟨by repeat (first | (with_reducible first | exact HB.out | apply below_alloc | apply pw_below_drewN | apply below_drew1) | exact HB.out)⟩⟩
                                              · rw [if_neg c40] at H
                                                exact absurd H (by simp)
                                            · rw [if_neg c39] at H
                                              exact absurd H (by simp)
                                          · rw [if_neg c37] at H
                                            have c37b0 : ((bt a1 (ji33)) == ((IntKind.u16.wrap (Int.tdiv t156 256)) % 256)) = false := beq_eq_false_iff_ne.mpr c37
                                            have c37b1 : ((bt a1 (ji33)) != ((IntKind.u16.wrap (Int.tdiv t156 256)) % 256)) = true := bne_iff_ne.mpr c37
                                            have H' := Aside0.mk H
                                            clear H
                                            go_wp2_with (first | ((with_reducible refine gate_callee (f := 93) rfl ?_); refine goesL_ (some 67) rfl rfl Try.func93 (by kernel_rfl) rfl #[.string (a1.extract ((ji23) : Int).toNat ((ji28) : Int).toNat)] rfl (by (try simp only [List.map_toArray, List.map_cons, List.map_nil]); first | done | (simp only [hji23, hji28]; rfl) | rfl | (simp only [List.length_drop, List.length_take]; rfl)) ?_; (with_reducible refine (windhoverref03_Sum.calls kj15 (a1.extract ((ji23) : Int).toNat ((ji28) : Int).toNat) t156 _ A27.out).mono ?_); rintro e w' ⟨rfl, ⟨nd, rfl⟩⟩; refine ⟨_, rfl, ?_⟩; have p31 : 0 ≤ ((ji28) : Int) := of_decide_eq_true (by first | (with_reducible assumption) | assumption); have q31 : (ji28) < (a1.size : Int) := of_decide_eq_true (by first | (with_reducible assumption) | assumption); have hx31 := bt_at a1 (ji28); replace p31 := eq_true p31; replace q31 := eq_true q31; have p36 : 0 ≤ ((ji33) : Int) := of_decide_eq_true (by first | (with_reducible assumption) | assumption); have q36 : (ji33) < (a1.size : Int) := of_decide_eq_true (by first | (with_reducible assumption) | assumption); have hx36 := bt_at a1 (ji33); replace p36 := eq_true p36; replace q36 := eq_true q36))
                                            go_roundg kj15
                                            case measure => have := HK1.out; have := HK2.out; have := HJ15.out; omega
                                            case rel => exact ⟨(x10_2), (x11_2), (wrap64 (x12_2 + 1)), (ji23), (by first | rfl | (simp; done) | (simp [*]; done)), (by first | rfl | (simp; done) | (simp [*]; done)), (by first | rfl | (simp; done) | (simp only [← hji23] <;> (first | rfl | (simp; done))) | (simpa using hji23y) | (simp [*]; done)), H', ⟨by have := HK1.out; have := HK2.out; have := HJ15.out; omega⟩, ⟨by (with_reducible repeat (first | apply Kd.R_alloc | apply Kd.R_drewN | apply Kd.R_drew)); exact HO_7.out⟩, ⟨by (with_reducible repeat (first | apply Kd.R_alloc | apply Kd.R_drewN | apply Kd.R_drew)); exact HO_10.out⟩, ⟨by repeat (first | (with_reducible first | exact HB.out | apply below_alloc | apply pw_below_drewN | apply below_drew1) | exact HB.out)⟩⟩
                                        · rw [if_neg c35] at H
                                          exact absurd H (by simp)
                                      · rw [if_neg c34] at H
                                        exact absurd H (by simp)
                                    · rw [if_neg c32] at H
                                      have c32b0 : ((bt a1 (ji28)) == ((Int.tmod t156 256) % 256)) = false := beq_eq_false_iff_ne.mpr c32
                                      have c32b1 : ((bt a1 (ji28)) != ((Int.tmod t156 256) % 256)) = true := bne_iff_ne.mpr c32
                                      have H' := Aside0.mk H
                                      clear H
                                      go_wp2_with (first | ((with_reducible refine gate_callee (f := 93) rfl ?_); refine goesL_ (some 67) rfl rfl Try.func93 (by kernel_rfl) rfl #[.string (a1.extract ((ji23) : Int).toNat ((ji28) : Int).toNat)] rfl (by (try simp only [List.map_toArray, List.map_cons, List.map_nil]); first | done | (simp only [hji23, hji28]; rfl) | rfl | (simp only [List.length_drop, List.length_take]; rfl)) ?_; (with_reducible refine (windhoverref03_Sum.calls kj15 (a1.extract ((ji23) : Int).toNat ((ji28) : Int).toNat) t156 _ A27.out).mono ?_); rintro e w' ⟨rfl, ⟨nd, rfl⟩⟩; refine ⟨_, rfl, ?_⟩; have p31 : 0 ≤ ((ji28) : Int) := of_decide_eq_true (by first | (with_reducible assumption) | assumption); have q31 : (ji28) < (a1.size : Int) := of_decide_eq_true (by first | (with_reducible assumption) | assumption); have hx31 := bt_at a1 (ji28); replace p31 := eq_true p31; replace q31 := eq_true q31))
                                      go_roundg kj15
                                      case measure => have := HK1.out; have := HK2.out; have := HJ15.out; omega
                                      case rel => exact ⟨(x10_2), (x11_2), (wrap64 (x12_2 + 1)), (ji23), (by first | rfl | (simp; done) | (simp [*]; done)), (by first | rfl | (simp; done) | (simp [*]; done)), (by first | rfl | (simp; done) | (simp only [← hji23] <;> (first | rfl | (simp; done))) | (simpa using hji23y) | (simp [*]; done)), H', ⟨by have := HK1.out; have := HK2.out; have := HJ15.out; omega⟩, ⟨by (with_reducible repeat (first | apply Kd.R_alloc | apply Kd.R_drewN | apply Kd.R_drew)); exact HO_7.out⟩, ⟨by (with_reducible repeat (first | apply Kd.R_alloc | apply Kd.R_drewN | apply Kd.R_drew)); exact HO_10.out⟩, ⟨by repeat (first | (with_reducible first | exact HB.out | apply below_alloc | apply pw_below_drewN | apply below_drew1) | exact HB.out)⟩⟩
                                  · rw [if_neg c30] at H
                                    exact absurd H (by simp)
                                · rw [if_neg c29] at H
                                  exact absurd H (by simp)
                              · rw [if_neg c26] at H
                                exact absurd H (by simp)
                            · rw [if_neg c25] at H
                              exact absurd H (by simp)
                          · rw [if_neg c24] at H
                            exact absurd H (by simp)
                        · replace c22 := Bool.eq_false_iff.mpr c22
                          subst c22
                          have H1 : (windhoverref11_Read.l1 kj15 a0 a1 t151 x8_1 x10_2 x11_2 (wrap64 (x12_2 + 1)) (wrap64 (x13_2 + 1))) = some (r1, r2, r3) := by rw [if_neg (show ¬ (false = true) by decide)] at H; exact H
                          clear H
                          have H := H1
                          clear H1
                          have H' := Aside0.mk H
                          clear H
                          go_wp2
                          go_roundg kj15
                          case measure => have := HK1.out; have := HK2.out; have := HJ15.out; omega
                          case rel => exact ⟨(x10_2), (x11_2), (wrap64 (x12_2 + 1)), (wrap64 (x13_2 + 1)), (by first | rfl | (simp; done) | (simp [*]; done)), (by first | rfl | (simp; done) | (simp [*]; done)), (by first | rfl | (simp; done) | (simp [*]; done)), H', ⟨by have := HK1.out; have := HK2.out; have := HJ15.out; omega⟩, ⟨by (with_reducible repeat (first | apply Kd.R_alloc | apply Kd.R_drewN | apply Kd.R_drew)); exact HO_7.out⟩, ⟨by (with_reducible repeat (first | apply Kd.R_alloc | apply Kd.R_drewN | apply Kd.R_drew)); exact HO_10.out⟩, ⟨by repeat (first | (with_reducible first | exact HB.out | apply below_alloc | apply pw_below_drewN | apply below_drew1) | exact HB.out)⟩⟩
                  · rw [if_neg c15] at H
                    have c15b0 : ((bt a1 x13_2) == 165) = false := beq_eq_false_iff_ne.mpr c15
                    have c15b1 : ((bt a1 x13_2) != 165) = true := bne_iff_ne.mpr c15
                    have H' := Aside0.mk H
                    clear H
                    have p14 : 0 ≤ (x13_2 : Int) := of_decide_eq_true (by first | (with_reducible assumption) | assumption)
                    have q14 : x13_2 < (a1.size : Int) := of_decide_eq_true (by first | (with_reducible assumption) | assumption)
                    have hx14 := bt_at a1 x13_2
                    replace p14 := eq_true p14
                    replace q14 := eq_true q14
                    go_wp2
                    go_roundg k2
                    case measure => have := HK1.out; have := HK2.out; omega
                    case rel => exact ⟨(x10_2), (x11_2), (x12_2), (wrap64 (x13_2 + 1)), (by first | rfl | (simp; done) | (simp [*]; done)), (by first | rfl | (simp; done) | (simp [*]; done)), (by first | rfl | (simp; done) | (simp [*]; done)), H', ⟨by have := HK1.out; have := HK2.out; omega⟩, ⟨by (with_reducible repeat (first | apply Kd.R_alloc | apply Kd.R_drewN | apply Kd.R_drew)); exact HO_7.out⟩, ⟨by (with_reducible repeat (first | apply Kd.R_alloc | apply Kd.R_drewN | apply Kd.R_drew)); exact HO_10.out⟩, ⟨by repeat (first | (with_reducible first | exact HB.out | apply below_alloc | apply pw_below_drewN | apply below_drew1) | exact HB.out)⟩⟩
                · rw [if_neg c13] at H
                  exact absurd H (by simp)
              · rw [if_neg c12] at H
                have c12b0 : decide (x13_2 < (a1.size : Int)) = false := decide_eq_false c12
                clear c12
                simp only [Option.some.injEq, Prod.mk.injEq] at H
                obtain ⟨rfl, rfl, rfl⟩ := H
                go_wp2
                go_ret3
                exact ⟨_, by first | rfl | (simp [errW_none, errW_some] <;> rfl) | (simp [*, errW_none, errW_some] <;> rfl), by (with_reducible repeat (first | apply Kd.R_alloc | apply Kd.R_drewN | apply Kd.R_drew)); exact Kd.R_mono HO_10.out (fun _ hk => trivial), by repeat (first | (with_reducible first | exact HB.out | apply below_alloc | apply pw_below_drewN | apply below_drew1) | exact HB.out)⟩

/-! ### windhoverref00_SameInts: function 55 -/
def windhoverref00_SameInts.l0 : Nat → List Int → List Int → Int → Option (Bool)
  | 0, _, _, _ => none
  | k + 1, x0, x1, x5 => if x5 < (x0.length : Int) then (if 0 ≤ x5 then (if x5 < (x1.length : Int) then (if (rd x0 x5) = (rd x1 x5) then (windhoverref00_SameInts.l0 k x0 x1 (wrap64 (x5 + 1))) else (some false)) else (none)) else (none)) else (some true)
def windhoverref00_SameInts.f (k : Nat) (l0 : List Int) (l1 : List Int) : Option (Bool) := if (l0.length : Int) = (l1.length : Int) then (windhoverref00_SameInts.l0 k l0 l1 0) else (some false)
theorem windhoverref00_SameInts.mono_l : ∀ k, (∀ y0 y1 y2, LeO (windhoverref00_SameInts.l0 k y0 y1 y2) (windhoverref00_SameInts.l0 (k + 1) y0 y1 y2))
  | 0 => fun _ _ _ r h => by simp [windhoverref00_SameInts.l0] at h
  | k + 1 => by
    have ih0 := windhoverref00_SameInts.mono_l k
    · intro y0 y1 y2
      unfold windhoverref00_SameInts.l0
      repeat' first
      | (with_reducible exact ih0 _ _ _)
      | (with_reducible exact LeO.refl _)
      | (with_reducible exact LeO.none _)
      | (with_reducible refine LeO.ite ?_ ?_)
      | (with_reducible refine LeO.bind ?_ (fun _ => ?_))
      | exact ih0 _ _ _
      | exact LeO.none _
      | refine LeO.ite ?_ ?_
      | refine LeO.bind ?_ (fun _ => ?_)
theorem windhoverref00_SameInts.mono : ∀ a0 a1 k, LeO (windhoverref00_SameInts.f k a0 a1) (windhoverref00_SameInts.f (k + 1) a0 a1) := by
  intro a0 a1 k
  have ih0 := windhoverref00_SameInts.mono_l k
  unfold windhoverref00_SameInts.f
  repeat' first
      | (with_reducible exact ih0 _ _ _)
      | (with_reducible exact LeO.refl _)
      | (with_reducible exact LeO.none _)
      | (with_reducible refine LeO.ite ?_ ?_)
      | (with_reducible refine LeO.bind ?_ (fun _ => ?_))
      | exact ih0 _ _ _
      | exact LeO.none _
      | refine LeO.ite ?_ ?_
      | refine LeO.bind ?_ (fun _ => ?_)
set_option maxHeartbeats 8000000 in
set_option maxRecDepth 100000 in
theorem windhoverref00_SameInts.calls (k : Nat) (A0 : Option Addr) (c0 : Nat) (l0 : List Int) (A1 : Option Addr) (c1 : Nat) (l1 : List Int) (r : Bool) (w : World) (hr0 : Kd.C (Kd.int .i64) w A0 l0.length l0) (hc0 : l0.length ≤ c0) (hr1 : Kd.C (Kd.int .i64) w A1 l1.length l1) (hc1 : l1.length ≤ c1) (h : windhoverref00_SameInts.f k l0 l1 = some r) :
    Calls Try.prog 55 #[.slice A0 l0.length c0, .slice A1 l1.length c1] w fun e w' => e = .returned (.bool r) ∧ Drawn0 w w' := by
  have HR0 := Aside0.mk hr0
  have HC0 := Aside0.mk hc0
  clear hr0 hc0
  have HR1 := Aside0.mk hr1
  have HC1 := Aside0.mk hc1
  clear hr1 hc1
  have H : (if (l0.length : Int) = (l1.length : Int) then (windhoverref00_SameInts.l0 k l0 l1 0) else (some false)) = some r := h
  clear h
  by_cases c3 : (l0.length : Int) = (l1.length : Int)
  · rw [if_pos c3] at H
    have c3b0 : ((l0.length : Int) == (l1.length : Int)) = true := beq_iff_eq.mpr c3
    have c3b1 : ((l0.length : Int) != (l1.length : Int)) = false := bne_eq_false_iff_eq.mpr c3
    have c3b2 : (l0.length == l1.length) = true := by first | simpa using c3 | (simp at c3 ⊢; omega)
    clear c3
    have H' := Aside0.mk H
    clear H
    go_enter Try.func55, Try.ntmps55
    go_wp2
    repeat (go_quiet (fail); try go_wp2)
    go_loopg [5] k (fun kq v5 w' => ∃ (x5_1 : Int), v5 = .int .i64 x5_1 ∧ Aside0 (windhoverref00_SameInts.l0 kq l0 l1 x5_1 = some r) ∧ Aside0 (kq ≤ k) ∧ Drawn0 w w')
    case atStart => exact ⟨(0), (by first | rfl | (simp; done) | (simp [*]; done)), H', ⟨Nat.le_refl _⟩, by repeat (first | exact Drawn0.refl _ | apply Drawn0.step)⟩
    case round =>
      clear H'
      try clear c1
      try clear p2
      try clear c3
      try clear c3b0
      try clear c3b1
      try clear c3b2
      obtain ⟨x5_1, rfl, HA, HK1, ⟨m1, rfl⟩⟩ := hrel
      cases gk with
      | zero => exact absurd HA.out (by simp [windhoverref00_SameInts.l0])
      | succ k1 =>
        have H := HA.out
        clear HA
        simp only [windhoverref00_SameInts.l0] at H
        by_cases c4 : x5_1 < (l0.length : Int)
        · rw [if_pos c4] at H
          have c4b0 : decide (x5_1 < (l0.length : Int)) = true := decide_eq_true c4
          clear c4
          by_cases c5 : 0 ≤ x5_1
          · rw [if_pos c5] at H
            have c5b0 : decide (0 ≤ x5_1) = true := decide_eq_true c5
            clear c5
            by_cases c6 : x5_1 < (l1.length : Int)
            · rw [if_pos c6] at H
              have c6b0 : decide (x5_1 < (l1.length : Int)) = true := decide_eq_true c6
              clear c6
              by_cases c7 : (rd l0 x5_1) = (rd l1 x5_1)
              · rw [if_pos c7] at H
                have c7b0 : ((rd l0 x5_1) == (rd l1 x5_1)) = true := beq_iff_eq.mpr c7
                have c7b1 : ((rd l0 x5_1) != (rd l1 x5_1)) = false := bne_eq_false_iff_eq.mpr c7
                clear c7
                have H' := Aside0.mk H
                clear H
                have p160 : 0 ≤ (x5_1 : Int) := of_decide_eq_true (by first | (with_reducible assumption) | assumption)
                have q160 : x5_1 < (l0.length : Int) := of_decide_eq_true (by first | (with_reducible assumption) | assumption)
                obtain ⟨ad160, e160, hx160_0⟩ := Kd.at_int HR0.out x5_1 p160 q160
                cases e160
                replace p160 := eq_true p160
                replace q160 := eq_true q160
                have p161 : 0 ≤ (x5_1 : Int) := of_decide_eq_true (by first | (with_reducible assumption) | assumption)
                have q161 : x5_1 < (l1.length : Int) := of_decide_eq_true (by first | (with_reducible assumption) | assumption)
                obtain ⟨ad161, e161, hx161_0⟩ := Kd.at_int HR1.out x5_1 p161 q161
                cases e161
                replace p161 := eq_true p161
                replace q161 := eq_true q161
                go_wp2
                repeat (go_quiet (fail); try go_wp2)
                go_roundg k1
                case measure => have := HK1.out; omega
                case rel => exact ⟨(wrap64 (x5_1 + 1)), (by first | rfl | (simp; done) | (simp [*]; done)), H', ⟨by have := HK1.out; omega⟩, by repeat (first | exact Drawn0.refl _ | apply Drawn0.step)⟩
              · rw [if_neg c7] at H
                have c7b0 : ((rd l0 x5_1) == (rd l1 x5_1)) = false := beq_eq_false_iff_ne.mpr c7
                have c7b1 : ((rd l0 x5_1) != (rd l1 x5_1)) = true := bne_iff_ne.mpr c7
                obtain rfl := Option.some.inj H
                have p160 : 0 ≤ (x5_1 : Int) := of_decide_eq_true (by first | (with_reducible assumption) | assumption)
                have q160 : x5_1 < (l0.length : Int) := of_decide_eq_true (by first | (with_reducible assumption) | assumption)
                obtain ⟨ad160, e160, hx160_0⟩ := Kd.at_int HR0.out x5_1 p160 q160
                cases e160
                replace p160 := eq_true p160
                replace q160 := eq_true q160
                have p161 : 0 ≤ (x5_1 : Int) := of_decide_eq_true (by first | (with_reducible assumption) | assumption)
                have q161 : x5_1 < (l1.length : Int) := of_decide_eq_true (by first | (with_reducible assumption) | assumption)
                obtain ⟨ad161, e161, hx161_0⟩ := Kd.at_int HR1.out x5_1 p161 q161
                cases e161
                replace p161 := eq_true p161
                replace q161 := eq_true q161
                go_wp2
                repeat (go_quiet (fail); try go_wp2)
                go_ret
                exact ⟨by first | rfl | (simp; done) | (simp [*]; done), by repeat (first | exact Drawn0.refl _ | apply Drawn0.step)⟩
            · rw [if_neg c6] at H
              exact absurd H (by simp)
          · rw [if_neg c5] at H
            exact absurd H (by simp)
        · rw [if_neg c4] at H
          have c4b0 : decide (x5_1 < (l0.length : Int)) = false := decide_eq_false c4
          clear c4
          obtain rfl := Option.some.inj H
          go_wp2
          repeat (go_quiet (fail); try go_wp2)
          go_ret
          exact ⟨by first | rfl | (simp; done) | (simp [*]; done), by repeat (first | exact Drawn0.refl _ | apply Drawn0.step)⟩
  · rw [if_neg c3] at H
    have c3b0 : ((l0.length : Int) == (l1.length : Int)) = false := beq_eq_false_iff_ne.mpr c3
    have c3b1 : ((l0.length : Int) != (l1.length : Int)) = true := bne_iff_ne.mpr c3
    have c3b2 : (l0.length == l1.length) = false := by first | simpa using c3 | (simp at c3 ⊢; omega)
    obtain rfl := Option.some.inj H
    go_enter Try.func55, Try.ntmps55
    go_wp2
    repeat (go_quiet (fail); try go_wp2)
    go_ret
    exact ⟨by first | rfl | (simp; done) | (simp [*]; done), by repeat (first | exact Drawn0.refl _ | apply Drawn0.step)⟩

end Go.Proofs.Ytbbinmplkbpcdaa.Ps
