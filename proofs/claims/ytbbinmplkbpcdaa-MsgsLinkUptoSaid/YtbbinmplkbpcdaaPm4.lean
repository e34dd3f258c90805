-- PRINTED by print.py (a twelfth state) out of the translation. Not trusted: Lean checks it.
import Derived.Test.YtbbinmplkbpcdaaPm0
import Derived.Test.YtbbinmplkbpcdaaPm1
namespace Go.Proofs.Ytbbinmplkbpcdaa.Pm
open Go.RowKit Go.Proofs.YtbbinmplkbpcdaaW.PrintWords Go.Proofs.YtbbinmplkbpcdaaW.PrintLast Go.Proofs.YtbbinmplkbpcdaaW.PrintMore
attribute [local go_sem] max2_int min2_int max_two min_two max_three min_three max_four min_four   -- for this text's walks alone
set_option linter.unusedVariables false
set_option linter.unusedSimpArgs false

/-! ### msgs_Decode: function 64 -/
mutual
def msgs_Decode.j0 : Nat → Bool → Int → Int → ByteArray → Option (Int × List Int × Int)
  | 0, _, _, _, _ => none
  | k + 1, x19, x157000, x157001, x157002 => if x19 = true then (some (0, ([] : List Int), 6)) else ((msgs_widths.f ((x157001) % 256)).bind fun t158 => (if (t158.length : Int) = 0 then (some (0, ([] : List Int), 6)) else (msgs_Decode.l0 k x157002 t158 (t158.length : Int) 0 ((x157001) % 256) ([] : List Int))))
def msgs_Decode.l0 : Nat → ByteArray → List Int → Int → Int → Int → List Int → Option (Int × List Int × Int)
  | 0, _, _, _, _, _, _ => none
  | k + 1, x6, x35, x36, x37, x162000, x162001 => if x37 < x36 then (if 0 ≤ x37 then (if x37 < (x35.length : Int) then (if (x6.size : Int) < (wrap64 (Int.tdiv (mx (rd x35 x37) (wrap64 (-(rd x35 x37)))) 8)) then (some (0, ([] : List Int), 3)) else (msgs_Decode.l1 k x6 (rd x35 x37) (mx (rd x35 x37) (wrap64 (-(rd x35 x37)))) 0 x35 x36 x37 (wrap64 (Int.tdiv (mx (rd x35 x37) (wrap64 (-(rd x35 x37)))) 8)) 0 x162000 x162001)) else (none)) else (none)) else (if x6.toList = ([] : List UInt8) then (some (x162000, x162001, 0)) else (some (0, ([] : List Int), 3)))
def msgs_Decode.l1 : Nat → ByteArray → Int → Int → Int → List Int → Int → Int → Int → Int → Int → List Int → Option (Int × List Int × Int)
  | 0, _, _, _, _, _, _, _, _, _, _, _ => none
  | k + 1, x6, x8, x9, x10, x35, x36, x37, x52, x53, x162000, x162001 => if x53 < x52 then (if 0 ≤ x53 then (if x53 < (x6.size : Int) then (if 0 ≤ (wrap64 (8 * x53)) then (msgs_Decode.l1 k x6 x8 x9 (Go.bits .or .i64 x10 (shl .i64 (wrap64 (bt x6 x53)) (wrap64 (8 * x53)))) x35 x36 x37 x52 (wrap64 (x53 + 1)) x162000 x162001) else (none)) else (none)) else (none)) else (if x8 < 0 then (if 0 ≤ (wrap64 (x9 - 1)) then (if x10 ≥ (shl .i64 1 (wrap64 (x9 - 1))) then (if 0 ≤ x9 then (if x162001.length < 17592186044416 then (if 0 ≤ (wrap64 (Int.tdiv x9 8)) then (if (wrap64 (Int.tdiv x9 8)) ≤ (x6.size : Int) then (msgs_Decode.l0 k (x6.extract ((wrap64 (Int.tdiv x9 8)) : Int).toNat x6.size) x35 x36 (wrap64 (x37 + 1)) x162000 (x162001 ++ [wrap64 (x10 - (shl .i64 1 x9))])) else (none)) else (none)) else (none)) else (none)) else (if x162001.length < 17592186044416 then (if 0 ≤ (wrap64 (Int.tdiv x9 8)) then (if (wrap64 (Int.tdiv x9 8)) ≤ (x6.size : Int) then (msgs_Decode.l0 k (x6.extract ((wrap64 (Int.tdiv x9 8)) : Int).toNat x6.size) x35 x36 (wrap64 (x37 + 1)) x162000 (x162001 ++ [x10])) else (none)) else (none)) else (none))) else (none)) else (if x162001.length < 17592186044416 then (if 0 ≤ (wrap64 (Int.tdiv x9 8)) then (if (wrap64 (Int.tdiv x9 8)) ≤ (x6.size : Int) then (msgs_Decode.l0 k (x6.extract ((wrap64 (Int.tdiv x9 8)) : Int).toNat x6.size) x35 x36 (wrap64 (x37 + 1)) x162000 (x162001 ++ [x10])) else (none)) else (none)) else (none)))
end
def msgs_Decode.f (k : Nat) (a0_0 : Int) (a0_1 : Int) (a0_2 : ByteArray) : Option (Int × List Int × Int) := if a0_1 < 0 then (msgs_Decode.j0 k true a0_0 a0_1 a0_2) else (msgs_Decode.j0 k (decide (a0_1 > 11)) a0_0 a0_1 a0_2)
theorem msgs_Decode.mono_l : ∀ k, (∀ y0 y1 y2 y3, LeO (msgs_Decode.j0 k y0 y1 y2 y3) (msgs_Decode.j0 (k + 1) y0 y1 y2 y3)) ∧ (∀ y0 y1 y2 y3 y4 y5, LeO (msgs_Decode.l0 k y0 y1 y2 y3 y4 y5) (msgs_Decode.l0 (k + 1) y0 y1 y2 y3 y4 y5)) ∧ (∀ y0 y1 y2 y3 y4 y5 y6 y7 y8 y9 y10, LeO (msgs_Decode.l1 k y0 y1 y2 y3 y4 y5 y6 y7 y8 y9 y10) (msgs_Decode.l1 (k + 1) y0 y1 y2 y3 y4 y5 y6 y7 y8 y9 y10))
  | 0 => ⟨fun _ _ _ _ r h => by simp [msgs_Decode.j0] at h, fun _ _ _ _ _ _ r h => by simp [msgs_Decode.l0] at h, fun _ _ _ _ _ _ _ _ _ _ _ r h => by simp [msgs_Decode.l1] at h⟩
  | k + 1 => by
    obtain ⟨ih0, ih1, ih2⟩ := msgs_Decode.mono_l k
    refine ⟨?_, ?_, ?_⟩
    · intro y0 y1 y2 y3
      unfold msgs_Decode.j0
      repeat' first
      | (with_reducible exact ih0 _ _ _ _)
      | (with_reducible exact ih1 _ _ _ _ _ _)
      | (with_reducible exact ih2 _ _ _ _ _ _ _ _ _ _ _)
      | (with_reducible exact LeO.refl _)
      | (with_reducible exact LeO.none _)
      | (with_reducible refine LeO.ite ?_ ?_)
      | (with_reducible refine LeO.bind ?_ (fun _ => ?_))
      | exact ih0 _ _ _ _
      | exact ih1 _ _ _ _ _ _
      | exact ih2 _ _ _ _ _ _ _ _ _ _ _
      | exact LeO.none _
      | refine LeO.ite ?_ ?_
      | refine LeO.bind ?_ (fun _ => ?_)
    · intro y0 y1 y2 y3 y4 y5
      unfold msgs_Decode.l0
      repeat' first
      | (with_reducible exact ih0 _ _ _ _)
      | (with_reducible exact ih1 _ _ _ _ _ _)
      | (with_reducible exact ih2 _ _ _ _ _ _ _ _ _ _ _)
      | (with_reducible exact LeO.refl _)
      | (with_reducible exact LeO.none _)
      | (with_reducible refine LeO.ite ?_ ?_)
      | (with_reducible refine LeO.bind ?_ (fun _ => ?_))
      | exact ih0 _ _ _ _
      | exact ih1 _ _ _ _ _ _
      | exact ih2 _ _ _ _ _ _ _ _ _ _ _
      | exact LeO.none _
      | refine LeO.ite ?_ ?_
      | refine LeO.bind ?_ (fun _ => ?_)
    · intro y0 y1 y2 y3 y4 y5 y6 y7 y8 y9 y10
      unfold msgs_Decode.l1
      repeat' first
      | (with_reducible exact ih0 _ _ _ _)
      | (with_reducible exact ih1 _ _ _ _ _ _)
      | (with_reducible exact ih2 _ _ _ _ _ _ _ _ _ _ _)
      | (with_reducible exact LeO.refl _)
      | (with_reducible exact LeO.none _)
      | (with_reducible refine LeO.ite ?_ ?_)
      | (with_reducible refine LeO.bind ?_ (fun _ => ?_))
      | exact ih0 _ _ _ _
      | exact ih1 _ _ _ _ _ _
      | exact ih2 _ _ _ _ _ _ _ _ _ _ _
      | exact LeO.none _
      | refine LeO.ite ?_ ?_
      | refine LeO.bind ?_ (fun _ => ?_)
theorem msgs_Decode.mono : ∀ a0 a1 a2 k, LeO (msgs_Decode.f k a0 a1 a2) (msgs_Decode.f (k + 1) a0 a1 a2) := by
  intro a0 a1 a2 k
  obtain ⟨ih0, ih1, ih2⟩ := msgs_Decode.mono_l k
  unfold msgs_Decode.f
  repeat' first
      | (with_reducible exact ih0 _ _ _ _)
      | (with_reducible exact ih1 _ _ _ _ _ _)
      | (with_reducible exact ih2 _ _ _ _ _ _ _ _ _ _ _)
      | (with_reducible exact LeO.refl _)
      | (with_reducible exact LeO.none _)
      | (with_reducible refine LeO.ite ?_ ?_)
      | (with_reducible refine LeO.bind ?_ (fun _ => ?_))
      | exact ih0 _ _ _ _
      | exact ih1 _ _ _ _ _ _
      | exact ih2 _ _ _ _ _ _ _ _ _ _ _
      | exact LeO.none _
      | refine LeO.ite ?_ ?_
      | refine LeO.bind ?_ (fun _ => ?_)
set_option maxHeartbeats 8000000 in
set_option maxRecDepth 100000 in
theorem msgs_Decode.calls (k : Nat) (a0_0 : Int) (a0_1 : Int) (a0_2 : ByteArray) (r1 : Int) (r2 : List Int) (r3 : Int) (w : World) (h : msgs_Decode.f k a0_0 a0_1 a0_2 = some (r1, r2, r3)) :
    Calls Try.prog 64 #[.agg #[.int .i64 a0_0, .int .i64 a0_1, .string a0_2]] w fun e w' => ∃ v1_ : Value, e = .returned (.tuple #[.agg #[.int .u8 r1, v1_], .int .i64 r3]) ∧ Kd.R (Kd.int .i64) 3 w' w.heap.size (fun _ => True) v1_ r2 ∧ Below w.heap.size w w' := by
  have hu45 := Try.underlying45
  have hu38 := Try.underlying38
  have HB := Aside0.mk (Below.refl w.heap.size w)
  have H : (if a0_1 < 0 then (msgs_Decode.j0 k true a0_0 a0_1 a0_2) else (msgs_Decode.j0 k (decide (a0_1 > 11)) a0_0 a0_1 a0_2)) = some (r1, r2, r3) := h
  clear h
  have HC2 := Aside0.mk H
  clear H
  go_enter Try.func64, Try.ntmps64
  go_upto_region 1 with (first | ((with_reducible refine gate_dst (N := 1) rfl ?_); refine box_event ?hg (N := 1) ?hd (cs := #[.int .i64 a0_0, .int .i64 a0_1, .string a0_2]) (t := 45) ?hr ?_; (case hd => rfl); (case hg => rfl); (case hr => first | (go_simp; done) | (go_simp; rfl)); intro gb156 hg w3 hbox hb; have n0_ := Aside0.mk (below_step (by repeat (first | (with_reducible first | exact HB.out | apply below_alloc | apply pw_below_drewN | apply below_drew1) | exact HB.out)) hb); have n1_ := Aside0.mk (hbox); have n2_ := Aside0.mk ((by rw [hg]; exact (below_size (by repeat (first | (with_reducible first | exact HB.out | apply below_alloc | apply pw_below_drewN | apply below_drew1) | exact HB.out))) : w.heap.size ≤ gb156)); have n3_ := Aside0.mk ((by rw [hg]; exact (below_size (by repeat (first | (with_reducible first | exact HB.out | apply below_alloc | apply pw_below_drewN | apply below_drew1) | exact HB.out))) : w.heap.size ≤ gb156)); clear HB; have HB := n0_; have BK156 := n1_; have GW156 := n2_; have GE156 := n3_; clear n0_ n1_ n2_ n3_; clear hb hbox hg) | ((with_reducible refine gate_dst (N := 2) rfl ?_); refine box_event ?hg (N := 2) ?hd (cs := #[.int .u8 0, .slice none 0 0]) (t := 38) ?hr ?_; (case hd => rfl); (case hg => rfl); (case hr => first | (go_simp; done) | (go_simp; rfl)); intro gb157 hg w4 hbox hb; have n0_ := Aside0.mk (blk_below (g := gb156) (o := .cells #[.int .i64 a0_0, .int .i64 a0_1, .string a0_2] 45 (0, 0)) (by (with_reducible repeat (first | refine blk_drewN ?_ _ | refine blk_drew ?_ | refine blk_alloc ?_ _)); exact BK156.out) hb); have n1_ := Aside0.mk (below_step (by repeat (first | (with_reducible first | exact HB.out | apply below_alloc | apply pw_below_drewN | apply below_drew1 | refine below_set ?_ GE156.out) | exact HB.out)) hb); have n2_ := Aside0.mk (hbox); have n3_ := Aside0.mk ((by rw [hg]; exact (below_size (by repeat (first | (with_reducible first | exact HB.out | apply below_alloc | apply pw_below_drewN | apply below_drew1 | refine below_set ?_ GE156.out) | exact HB.out))) : w.heap.size ≤ gb157)); have n4_ := Aside0.mk ((by rw [hg]; exact (below_size (by repeat (first | (with_reducible first | exact HB.out | apply below_alloc | apply pw_below_drewN | apply below_drew1 | refine below_set ?_ GE156.out) | exact HB.out))) : w.heap.size ≤ gb157)); have n5_ := Aside0.mk ((by rw [hg]; exact Nat.ne_of_lt (blk_lt (g := gb156) (o := .cells #[.int .i64 a0_0, .int .i64 a0_1, .string a0_2] 45 (0, 0)) (by (with_reducible repeat (first | refine blk_drewN ?_ _ | refine blk_drew ?_ | refine blk_alloc ?_ _)); exact BK156.out)) : gb156 ≠ gb157)); have n6_ := Aside0.mk ((by rw [hg]; exact Nat.ne_of_gt (blk_lt (g := gb156) (o := .cells #[.int .i64 a0_0, .int .i64 a0_1, .string a0_2] 45 (0, 0)) (by (with_reducible repeat (first | refine blk_drewN ?_ _ | refine blk_drew ?_ | refine blk_alloc ?_ _)); exact BK156.out)) : gb157 ≠ gb156)); clear BK156; clear HB; have BK156 := n0_; have HB := n1_; have BK157 := n2_; have GW157 := n3_; have GE157 := n4_; have NB156_157 := n5_; have NB157_156 := n6_; clear n0_ n1_ n2_ n3_ n4_ n5_ n6_; clear hb hbox hg))
  (try simp only [Act.put, List.setIfInBounds_toArray, List.set_cons_zero, List.set_cons_succ])
  go_cut [19] (fun v19 wc => ∃ (kq : Nat) (x19_1 : Bool), v19 = .bool x19_1 ∧ Aside0 (msgs_Decode.j0 kq x19_1 a0_0 a0_1 a0_2 = some (r1, r2, r3)) ∧ Aside0 (kq ≤ k) ∧ Aside0 (wc.heap[gb156]? = some (.cells #[.int .i64 a0_0, .int .i64 a0_1, .string a0_2] 45 (0, 0))) ∧ Aside0 (wc.heap[gb157]? = some (.cells #[.int .u8 0, (.slice none 0 0)] 38 (0, 0))) ∧ Aside0 (Below w.heap.size w wc))
  case first =>
    have H := HC2.out
    clear HC2
    by_cases c5 : a0_1 < 0
    · rw [if_pos c5] at H
      have c5b0 : decide (a0_1 < 0) = true := decide_eq_true c5
      clear c5
      (first | rw [c5b0] | (simp only [i64_w, i32_w]; rw [c5b0]) | skip)
      have H' := Aside0.mk H
      clear H
      have hnb6 := NB156_157.out
      have hnc6 := NB157_156.out
      have hcz7_0 : w4.cell? ⟨gb156, 0, none⟩ = some (.int .i64 a0_0) := (blk_cell BK156.out 0).trans rfl
      have hcz7_1 : w4.cell? ⟨gb156, 1, none⟩ = some (.int .i64 a0_1) := (blk_cell BK156.out 1).trans rfl
      have hcz7_2 : w4.cell? ⟨gb156, 2, none⟩ = some (.string a0_2) := (blk_cell BK156.out 2).trans rfl
      have hfz7_0 := blk_frozen BK156.out 0
      have hfz7_1 := blk_frozen BK156.out 1
      have hfz7_2 := blk_frozen BK156.out 2
      go_wp2
      go_meet
      case rel => exact ⟨_, (true), (by first | rfl | (simp; done) | (simp [*]; done)), H', ⟨by first | omega | exact Nat.le_refl _⟩, ⟨by (with_reducible repeat (first | refine blk_drewN ?_ _ | refine blk_drew ?_ | refine blk_alloc ?_ _)); exact BK156.out⟩, ⟨by (with_reducible repeat (first | refine blk_drewN ?_ _ | refine blk_drew ?_ | refine blk_alloc ?_ _)); exact BK157.out⟩, ⟨by repeat (first | (with_reducible first | exact HB.out | apply below_alloc | apply pw_below_drewN | apply below_drew1 | refine below_set ?_ GE156.out | refine below_set ?_ GE157.out) | exact HB.out)⟩⟩
    · rw [if_neg c5] at H
      have c5b0 : decide (a0_1 < 0) = false := decide_eq_false c5
      clear c5
      (first | rw [c5b0] | (simp only [i64_w, i32_w]; rw [c5b0]) | skip)
      have H' := Aside0.mk H
      clear H
      have hnb8 := NB156_157.out
      have hnc8 := NB157_156.out
      have hcz9_0 : w4.cell? ⟨gb156, 0, none⟩ = some (.int .i64 a0_0) := (blk_cell BK156.out 0).trans rfl
      have hcz9_1 : w4.cell? ⟨gb156, 1, none⟩ = some (.int .i64 a0_1) := (blk_cell BK156.out 1).trans rfl
      have hcz9_2 : w4.cell? ⟨gb156, 2, none⟩ = some (.string a0_2) := (blk_cell BK156.out 2).trans rfl
      have hfz9_0 := blk_frozen BK156.out 0
      have hfz9_1 := blk_frozen BK156.out 1
      have hfz9_2 := blk_frozen BK156.out 2
      go_wp2
      go_meet
      case rel => exact ⟨_, (decide (a0_1 > 11)), (by first | rfl | (simp; done) | (simp [*]; done)), H', ⟨by first | omega | exact Nat.le_refl _⟩, ⟨by (with_reducible repeat (first | refine blk_drewN ?_ _ | refine blk_drew ?_ | refine blk_alloc ?_ _)); exact BK156.out⟩, ⟨by (with_reducible repeat (first | refine blk_drewN ?_ _ | refine blk_drew ?_ | refine blk_alloc ?_ _)); exact BK157.out⟩, ⟨by repeat (first | (with_reducible first | exact HB.out | apply below_alloc | apply pw_below_drewN | apply below_drew1 | refine below_set ?_ GE156.out | refine below_set ?_ GE157.out) | exact HB.out)⟩⟩
  case rest =>
    clear HC2
    try clear p2
    try clear c5
    try clear c5b0
    try clear c6
    try clear c8
    try clear hcz7_0
    try clear hcz7_1
    try clear hcz7_2
    try clear hcz9_0
    try clear hcz9_1
    try clear hcz9_2
    try clear hfz7_0
    try clear hfz7_1
    try clear hfz7_2
    try clear hfz9_0
    try clear hfz9_1
    try clear hfz9_2
    obtain ⟨kq, x19_1, rfl, HA, HJ1, BK156, BK157, HB⟩ := hcut
    cases kq with
    | zero => exact absurd HA.out (by simp [msgs_Decode.j0])
    | succ kj1 =>
      have H := HA.out
      clear HA
      simp only [msgs_Decode.j0] at H
      by_cases c10 : x19_1 = true
      · subst c10
        have H1 : (some (0, ([] : List Int), 6)) = some (r1, r2, r3) := by rw [if_pos rfl] at H; exact H
        clear H
        have H := H1
        clear H1
        simp only [Option.some.injEq, Prod.mk.injEq] at H
        obtain ⟨rfl, rfl, rfl⟩ := H
        have hnb11 := NB157_156.out
        have hnc11 := NB156_157.out
        have hcz12_0 : wc.cell? ⟨gb157, 0, none⟩ = some (.int .u8 0) := (blk_cell BK157.out 0).trans rfl
        have hcz12_1 : wc.cell? ⟨gb157, 1, none⟩ = some (.slice none 0 0) := (blk_cell BK157.out 1).trans rfl
        have hfz12_0 := blk_frozen BK157.out 0
        have hfz12_1 := blk_frozen BK157.out 1
        go_wp2
        refine bodyPost_ret (results_ct rfl _ _ gb157 38 #[.int .u8 0, .slice none 0 0] (0, 0) _ rfl (by (with_reducible repeat (first | refine blk_drewN ?_ _ | refine blk_drew ?_ | refine blk_alloc ?_ _)); refine blk_put (cs := #[.int .u8 0, .slice none 0 0]) ?_ 1 _ rfl; (with_reducible repeat (first | refine blk_drewN ?_ _ | refine blk_drew ?_ | refine blk_alloc ?_ _)); refine blk_put (cs := #[.int .u8 0, .slice none 0 0]) ?_ 0 _ rfl; (with_reducible repeat (first | refine blk_drewN ?_ _ | refine blk_drew ?_ | refine blk_alloc ?_ _)); exact BK157.out) Try.underlying38 rfl (by kernel_rfl)) rfl ?_
        exact ⟨_, by first | rfl | (simp [errW_none, errW_some] <;> rfl) | (simp [*, errW_none, errW_some] <;> rfl), by first | exact Kd.R_nil _ _ _ _ _ | exact Kd.N_nil _ _ _ _ _ | exact Kd.V_nil _ _ _ _ _ | exact Kd.Q_nil _ _ _ _ _ | exact Kd.S_nil _ _ _ _ _, by repeat (first | (with_reducible first | exact HB.out | apply below_alloc | apply pw_below_drewN | apply below_drew1 | refine below_set ?_ GE156.out | refine below_set ?_ GE157.out) | exact HB.out)⟩
      · replace c10 := Bool.eq_false_iff.mpr c10
        subst c10
        have H1 : ((msgs_widths.f ((a0_1) % 256)).bind fun t158 => (if (t158.length : Int) = 0 then (some (0, ([] : List Int), 6)) else (msgs_Decode.l0 kj1 a0_2 t158 (t158.length : Int) 0 ((a0_1) % 256) ([] : List Int)))) = some (r1, r2, r3) := by rw [if_neg (show ¬ (false = true) by decide)] at H; exact H
        clear H
        have H := H1
        clear H1
        replace H := Option.bind_eq_some_iff.mp H
        obtain ⟨t158, A130, H⟩ := H
        replace H : (if (t158.length : Int) = 0 then (some (0, ([] : List Int), 6)) else (msgs_Decode.l0 kj1 a0_2 t158 (t158.length : Int) 0 ((a0_1) % 256) ([] : List Int))) = some (r1, r2, r3) := H
        have A13 := Aside0.mk A130
        clear A130
        by_cases c14 : (t158.length : Int) = 0
        · rw [if_pos c14] at H
          have c14b0 : ((t158.length : Int) == 0) = true := beq_iff_eq.mpr c14
          have c14b1 : ((t158.length : Int) != 0) = false := bne_eq_false_iff_eq.mpr c14
          clear c14
          simp only [Option.some.injEq, Prod.mk.injEq] at H
          obtain ⟨rfl, rfl, rfl⟩ := H
          have hnb15 := NB156_157.out
          have hnc15 := NB157_156.out
          have hcz16_0 : wc.cell? ⟨gb156, 0, none⟩ = some (.int .i64 a0_0) := (blk_cell BK156.out 0).trans rfl
          have hcz16_1 : wc.cell? ⟨gb156, 1, none⟩ = some (.int .i64 a0_1) := (blk_cell BK156.out 1).trans rfl
          have hcz16_2 : wc.cell? ⟨gb156, 2, none⟩ = some (.string a0_2) := (blk_cell BK156.out 2).trans rfl
          have hfz16_0 := blk_frozen BK156.out 0
          have hfz16_1 := blk_frozen BK156.out 1
          have hfz16_2 := blk_frozen BK156.out 2
          go_wp2_with (first | ((with_reducible refine gate_callee (f := 72) rfl ?_); refine goesL_ (some 24) rfl rfl Try.func72 (by kernel_rfl) rfl #[.int .u8 ((a0_1) % 256)] rfl (by (try simp only [List.map_toArray, List.map_cons, List.map_nil]); first | done | rfl | (simp only [List.length_drop, List.length_take]; rfl)) ?_; (with_reducible refine (msgs_widths.calls ((a0_1) % 256) t158 _ A13.out).mono ?_); rintro e w17 ⟨v159, rfl, ho0, hb⟩; refine ⟨_, rfl, ?_⟩; have n0_ := Aside0.mk (Kd.R_lower ho0 (below_size (by repeat (first | (with_reducible first | exact HB.out | apply below_alloc | apply pw_below_drewN | apply below_drew1 | refine below_set ?_ GE156.out | refine below_set ?_ GE157.out) | exact HB.out)))); have n1_ := Aside0.mk (blk_below (g := gb156) (o := .cells #[.int .i64 a0_0, .int .i64 a0_1, .string a0_2] 45 (0, 0)) (by (with_reducible repeat (first | refine blk_drewN ?_ _ | refine blk_drew ?_ | refine blk_alloc ?_ _)); exact BK156.out) hb); have n2_ := Aside0.mk (blk_below (g := gb157) (o := .cells #[.int .u8 0, .slice none 0 0] 38 (0, 0)) (by (with_reducible repeat (first | refine blk_drewN ?_ _ | refine blk_drew ?_ | refine blk_alloc ?_ _)); exact BK157.out) hb); have n3_ := Aside0.mk (below_step (by repeat (first | (with_reducible first | exact HB.out | apply below_alloc | apply pw_below_drewN | apply below_drew1 | refine below_set ?_ GE156.out | refine below_set ?_ GE157.out) | exact HB.out)) hb); clear BK156; clear BK157; clear HB; have HO160 := n0_; have BK156 := n1_; have BK157 := n2_; have HB := n3_; clear n0_ n1_ n2_ n3_; (try clear hb); (try clear hb2); (try clear hk); (try clear hi); (try clear ho0); obtain ⟨Ao18, co18, eo18⟩ := Kd.R_slice HO160.out; subst eo18; have hcz19_0 : w17.cell? ⟨gb157, 0, none⟩ = some (.int .u8 0) := (blk_cell BK157.out 0).trans rfl; have hcz19_1 : w17.cell? ⟨gb157, 1, none⟩ = some (.slice none 0 0) := (blk_cell BK157.out 1).trans rfl; have hfz19_0 := blk_frozen BK157.out 0; have hfz19_1 := blk_frozen BK157.out 1))
          refine bodyPost_ret (results_ct rfl _ _ gb157 38 #[.int .u8 0, .slice none 0 0] (0, 0) _ rfl (by (with_reducible repeat (first | refine blk_drewN ?_ _ | refine blk_drew ?_ | refine blk_alloc ?_ _)); refine blk_put (cs := #[.int .u8 0, .slice none 0 0]) ?_ 1 _ rfl; (with_reducible repeat (first | refine blk_drewN ?_ _ | refine blk_drew ?_ | refine blk_alloc ?_ _)); refine blk_put (cs := #[.int .u8 0, .slice none 0 0]) ?_ 0 _ rfl; (with_reducible repeat (first | refine blk_drewN ?_ _ | refine blk_drew ?_ | refine blk_alloc ?_ _)); exact BK157.out) Try.underlying38 rfl (by kernel_rfl)) rfl ?_
          exact ⟨_, by first | rfl | (simp [errW_none, errW_some] <;> rfl) | (simp [*, errW_none, errW_some] <;> rfl), by first | exact Kd.R_nil _ _ _ _ _ | exact Kd.N_nil _ _ _ _ _ | exact Kd.V_nil _ _ _ _ _ | exact Kd.Q_nil _ _ _ _ _ | exact Kd.S_nil _ _ _ _ _, by repeat (first | (with_reducible first | exact HB.out | apply below_alloc | apply pw_below_drewN | apply below_drew1 | refine below_set ?_ GE156.out | refine below_set ?_ GE157.out) | exact HB.out)⟩
        · rw [if_neg c14] at H
          have c14b0 : ((t158.length : Int) == 0) = false := beq_eq_false_iff_ne.mpr c14
          have c14b1 : ((t158.length : Int) != 0) = true := bne_iff_ne.mpr c14
          have c14b2 : ¬ (t158 = []) := fun h_ => c14 (by rw [h_]; rfl)
          have H' := Aside0.mk H
          clear H
          have hnb20 := NB156_157.out
          have hnc20 := NB157_156.out
          have hcz21_0 : wc.cell? ⟨gb156, 0, none⟩ = some (.int .i64 a0_0) := (blk_cell BK156.out 0).trans rfl
          have hcz21_1 : wc.cell? ⟨gb156, 1, none⟩ = some (.int .i64 a0_1) := (blk_cell BK156.out 1).trans rfl
          have hcz21_2 : wc.cell? ⟨gb156, 2, none⟩ = some (.string a0_2) := (blk_cell BK156.out 2).trans rfl
          have hfz21_0 := blk_frozen BK156.out 0
          have hfz21_1 := blk_frozen BK156.out 1
          have hfz21_2 := blk_frozen BK156.out 2
          go_wp2_with (first | ((with_reducible refine gate_callee (f := 72) rfl ?_); refine goesL_ (some 24) rfl rfl Try.func72 (by kernel_rfl) rfl #[.int .u8 ((a0_1) % 256)] rfl (by (try simp only [List.map_toArray, List.map_cons, List.map_nil]); first | done | rfl | (simp only [List.length_drop, List.length_take]; rfl)) ?_; (with_reducible refine (msgs_widths.calls ((a0_1) % 256) t158 _ A13.out).mono ?_); rintro e w22 ⟨v159, rfl, ho0, hb⟩; refine ⟨_, rfl, ?_⟩; have n0_ := Aside0.mk (Kd.R_lower ho0 (below_size (by repeat (first | (with_reducible first | exact HB.out | apply below_alloc | apply pw_below_drewN | apply below_drew1 | refine below_set ?_ GE156.out | refine below_set ?_ GE157.out) | exact HB.out)))); have n1_ := Aside0.mk (blk_below (g := gb156) (o := .cells #[.int .i64 a0_0, .int .i64 a0_1, .string a0_2] 45 (0, 0)) (by (with_reducible repeat (first | refine blk_drewN ?_ _ | refine blk_drew ?_ | refine blk_alloc ?_ _)); exact BK156.out) hb); have n2_ := Aside0.mk (blk_below (g := gb157) (o := .cells #[.int .u8 0, .slice none 0 0] 38 (0, 0)) (by (with_reducible repeat (first | refine blk_drewN ?_ _ | refine blk_drew ?_ | refine blk_alloc ?_ _)); exact BK157.out) hb); have n3_ := Aside0.mk (below_step (by repeat (first | (with_reducible first | exact HB.out | apply below_alloc | apply pw_below_drewN | apply below_drew1 | refine below_set ?_ GE156.out | refine below_set ?_ GE157.out) | exact HB.out)) hb); clear BK156; clear BK157; clear HB; have HO160 := n0_; have BK156 := n1_; have BK157 := n2_; have HB := n3_; clear n0_ n1_ n2_ n3_; (try clear hb); (try clear hb2); (try clear hk); (try clear hi); (try clear ho0); obtain ⟨Ao23, co23, eo23⟩ := Kd.R_slice HO160.out; subst eo23; have hcz24_0 : w22.cell? ⟨gb156, 0, none⟩ = some (.int .i64 a0_0) := (blk_cell BK156.out 0).trans rfl; have hcz24_1 : w22.cell? ⟨gb156, 1, none⟩ = some (.int .i64 a0_1) := (blk_cell BK156.out 1).trans rfl; have hcz24_2 : w22.cell? ⟨gb156, 2, none⟩ = some (.string a0_2) := (blk_cell BK156.out 2).trans rfl; have hfz24_0 := blk_frozen BK156.out 0; have hfz24_1 := blk_frozen BK156.out 1; have hfz24_2 := blk_frozen BK156.out 2) | ((with_reducible refine gate_dst (N := 5) rfl ?_); refine box_event ?hg (N := 5) ?hd (cs := #[.int .u8 0, .slice none 0 0]) (t := 38) ?hr ?_; (case hd => rfl); (case hg => rfl); (case hr => first | (go_simp; done) | (go_simp; rfl)); intro gb161 hg w25 hbox hb; have n0_ := Aside0.mk (Kd.R_below (by (with_reducible repeat (first | apply Kd.R_alloc | apply Kd.R_drewN | apply Kd.R_drew)); exact HO160.out) hb); have n1_ := Aside0.mk (blk_below (g := gb156) (o := .cells #[.int .i64 a0_0, .int .i64 a0_1, .string a0_2] 45 (0, 0)) (by (with_reducible repeat (first | refine blk_drewN ?_ _ | refine blk_drew ?_ | refine blk_alloc ?_ _)); exact BK156.out) hb); have n2_ := Aside0.mk (blk_below (g := gb157) (o := .cells #[.int .u8 0, .slice none 0 0] 38 (0, 0)) (by (with_reducible repeat (first | refine blk_drewN ?_ _ | refine blk_drew ?_ | refine blk_alloc ?_ _)); exact BK157.out) hb); have n3_ := Aside0.mk (below_step (by repeat (first | (with_reducible first | exact HB.out | apply below_alloc | apply pw_below_drewN | apply below_drew1 | refine below_set ?_ GE156.out | refine below_set ?_ GE157.out) | exact HB.out)) hb); have n4_ := Aside0.mk (hbox); have n5_ := Aside0.mk ((by rw [hg]; exact (below_size (by repeat (first | (with_reducible first | exact HB.out | apply below_alloc | apply pw_below_drewN | apply below_drew1 | refine below_set ?_ GE156.out | refine below_set ?_ GE157.out) | exact HB.out))) : w.heap.size ≤ gb161)); have n6_ := Aside0.mk ((by rw [hg]; exact (below_size (by repeat (first | (with_reducible first | exact HB.out | apply below_alloc | apply pw_below_drewN | apply below_drew1 | refine below_set ?_ GE156.out | refine below_set ?_ GE157.out) | exact HB.out))) : w.heap.size ≤ gb161)); have n7_ := Aside0.mk ((by rw [hg]; exact Nat.ne_of_lt (blk_lt (g := gb156) (o := .cells #[.int .i64 a0_0, .int .i64 a0_1, .string a0_2] 45 (0, 0)) (by (with_reducible repeat (first | refine blk_drewN ?_ _ | refine blk_drew ?_ | refine blk_alloc ?_ _)); exact BK156.out)) : gb156 ≠ gb161)); have n8_ := Aside0.mk ((by rw [hg]; exact Nat.ne_of_gt (blk_lt (g := gb156) (o := .cells #[.int .i64 a0_0, .int .i64 a0_1, .string a0_2] 45 (0, 0)) (by (with_reducible repeat (first | refine blk_drewN ?_ _ | refine blk_drew ?_ | refine blk_alloc ?_ _)); exact BK156.out)) : gb161 ≠ gb156)); have n9_ := Aside0.mk ((by rw [hg]; exact Nat.ne_of_lt (blk_lt (g := gb157) (o := .cells #[.int .u8 0, .slice none 0 0] 38 (0, 0)) (by (with_reducible repeat (first | refine blk_drewN ?_ _ | refine blk_drew ?_ | refine blk_alloc ?_ _)); exact BK157.out)) : gb157 ≠ gb161)); have n10_ := Aside0.mk ((by rw [hg]; exact Nat.ne_of_gt (blk_lt (g := gb157) (o := .cells #[.int .u8 0, .slice none 0 0] 38 (0, 0)) (by (with_reducible repeat (first | refine blk_drewN ?_ _ | refine blk_drew ?_ | refine blk_alloc ?_ _)); exact BK157.out)) : gb161 ≠ gb157)); clear HO160; clear BK156; clear BK157; clear HB; have HO160 := n0_; have BK156 := n1_; have BK157 := n2_; have HB := n3_; have BK161 := n4_; have GW161 := n5_; have GE161 := n6_; have NB156_161 := n7_; have NB161_156 := n8_; have NB157_161 := n9_; have NB161_157 := n10_; clear n0_ n1_ n2_ n3_ n4_ n5_ n6_ n7_ n8_ n9_ n10_; clear hb hbox hg; have hnb26 := NB161_156.out; have hnc26 := NB156_161.out; have hnb27 := NB161_157.out; have hnc27 := NB157_161.out; have hcz28_0 : w25.cell? ⟨gb161, 0, none⟩ = some (.int .u8 0) := (blk_cell BK161.out 0).trans rfl; have hcz28_1 : w25.cell? ⟨gb161, 1, none⟩ = some (.slice none 0 0) := (blk_cell BK161.out 1).trans rfl; have hfz28_0 := blk_frozen BK161.out 0; have hfz28_1 := blk_frozen BK161.out 1; have hcz29_0 : w25.cell? ⟨gb156, 0, none⟩ = some (.int .i64 a0_0) := (blk_cell BK156.out 0).trans rfl; have hcz29_1 : w25.cell? ⟨gb156, 1, none⟩ = some (.int .i64 a0_1) := (blk_cell BK156.out 1).trans rfl; have hcz29_2 : w25.cell? ⟨gb156, 2, none⟩ = some (.string a0_2) := (blk_cell BK156.out 2).trans rfl; have hfz29_0 := blk_frozen BK156.out 0; have hfz29_1 := blk_frozen BK156.out 1; have hfz29_2 := blk_frozen BK156.out 2))
          go_loopg [6, 37] kj1 (fun kq v6 v37 w' => ∃ (x6_2 : ByteArray) (x37_2 : Int) (x158000_2 : Int) (x162001_2 : List Int) (u162001 : Value), v6 = .string x6_2 ∧ v37 = .int .i64 x37_2 ∧ Aside0 (msgs_Decode.l0 kq x6_2 t158 (t158.length : Int) x37_2 ((a0_1) % 256) x162001_2 = some (r1, r2, r3)) ∧ Aside0 (kq ≤ kj1) ∧ Aside0 (Kd.R (Kd.int .i64) 3 w' w.heap.size (fun k_ => some k_ ≠ (u162001 : Value).ownBlock) (.slice Ao23 t158.length co23) t158) ∧ Aside0 (Kd.R (Kd.int .i64) 3 w' w.heap.size (fun k_ => some k_ ≠ ((.slice Ao23 t158.length co23) : Value).ownBlock) u162001 x162001_2) ∧ Aside0 (w'.heap[gb156]? = some (.cells #[.int .i64 a0_0, .int .i64 a0_1, .string a0_2] 45 (0, 0))) ∧ Aside0 (w'.heap[gb157]? = some (.cells #[.int .u8 x158000_2, (.slice none 0 0)] 38 (0, 0))) ∧ Aside0 (w'.heap[gb161]? = some (.cells #[.int .u8 ((a0_1) % 256), u162001] 38 (0, 0))) ∧ Aside0 (Below w.heap.size w w'))
          case atStart => exact ⟨(a0_2), (0), (0), (([] : List Int)), (.slice none 0 0), (by first | rfl | (simp; done) | (simp [*]; done)), (by first | rfl | (simp; done) | (simp [*]; done)), H', ⟨Nat.le_refl _⟩, ⟨by (with_reducible repeat (first | apply Kd.R_alloc | apply Kd.R_drewN | apply Kd.R_drew)); exact Kd.R_mono (Kd.R_far (p := ⟨gb161, 1, none⟩) (Kd.R_far (p := ⟨gb161, 0, none⟩) (Kd.R_types HO160.out BK161.out (by decide)) (fun _ hk => hk.2) (.int .u8 ((a0_1) % 256))) (fun _ hk => hk.2) (.slice none 0 0)) (fun _ hk => (by simp [Value.ownBlock]))⟩, ⟨by first | exact Kd.R_nil _ _ _ _ _ | exact Kd.N_nil _ _ _ _ _ | exact Kd.V_nil _ _ _ _ _ | exact Kd.Q_nil _ _ _ _ _ | exact Kd.S_nil _ _ _ _ _⟩, ⟨by (with_reducible repeat (first | refine blk_drewN ?_ _ | refine blk_drew ?_ | refine blk_alloc ?_ _)); refine blk_far ?_ NB156_161.out _; (with_reducible repeat (first | refine blk_drewN ?_ _ | refine blk_drew ?_ | refine blk_alloc ?_ _)); refine blk_far ?_ NB156_161.out _; (with_reducible repeat (first | refine blk_drewN ?_ _ | refine blk_drew ?_ | refine blk_alloc ?_ _)); exact BK156.out⟩, ⟨by (with_reducible repeat (first | refine blk_drewN ?_ _ | refine blk_drew ?_ | refine blk_alloc ?_ _)); refine blk_far ?_ NB157_161.out _; (with_reducible repeat (first | refine blk_drewN ?_ _ | refine blk_drew ?_ | refine blk_alloc ?_ _)); refine blk_far ?_ NB157_161.out _; (with_reducible repeat (first | refine blk_drewN ?_ _ | refine blk_drew ?_ | refine blk_alloc ?_ _)); exact BK157.out⟩, ⟨by (with_reducible repeat (first | refine blk_drewN ?_ _ | refine blk_drew ?_ | refine blk_alloc ?_ _)); refine blk_put (cs := #[.int .u8 ((a0_1) % 256), .slice none 0 0]) ?_ 1 _ rfl; (with_reducible repeat (first | refine blk_drewN ?_ _ | refine blk_drew ?_ | refine blk_alloc ?_ _)); refine blk_put (cs := #[.int .u8 0, .slice none 0 0]) ?_ 0 _ rfl; (with_reducible repeat (first | refine blk_drewN ?_ _ | refine blk_drew ?_ | refine blk_alloc ?_ _)); exact BK161.out⟩, ⟨by repeat (first | (with_reducible first | exact HB.out | apply below_alloc | apply pw_below_drewN | apply below_drew1 | refine below_set ?_ GE156.out | refine below_set ?_ GE157.out | refine below_set ?_ GE161.out) | exact HB.out)⟩⟩
          case round =>
            clear H'
            try clear c1
            try clear c2
            try clear p2
            try clear c5
            try clear c5b0
            try clear c6
            try clear c7
            try clear c8
            try clear c10
            try clear c11
            try clear c14
            try clear c14b0
            try clear c14b1
            try clear c14b2
            try clear c15
            try clear c20
            try clear c26
            try clear c27
            try clear hcz12_0
            try clear hcz12_1
            try clear hcz16_0
            try clear hcz16_1
            try clear hcz16_2
            try clear hcz19_0
            try clear hcz19_1
            try clear hcz21_0
            try clear hcz21_1
            try clear hcz21_2
            try clear hcz24_0
            try clear hcz24_1
            try clear hcz24_2
            try clear hcz28_0
            try clear hcz28_1
            try clear hcz29_0
            try clear hcz29_1
            try clear hcz29_2
            try clear hcz7_0
            try clear hcz7_1
            try clear hcz7_2
            try clear hcz9_0
            try clear hcz9_1
            try clear hcz9_2
            try clear hfz12_0
            try clear hfz12_1
            try clear hfz16_0
            try clear hfz16_1
            try clear hfz16_2
            try clear hfz19_0
            try clear hfz19_1
            try clear hfz21_0
            try clear hfz21_1
            try clear hfz21_2
            try clear hfz24_0
            try clear hfz24_1
            try clear hfz24_2
            try clear hfz28_0
            try clear hfz28_1
            try clear hfz29_0
            try clear hfz29_1
            try clear hfz29_2
            try clear hfz7_0
            try clear hfz7_1
            try clear hfz7_2
            try clear hfz9_0
            try clear hfz9_1
            try clear hfz9_2
            try clear p2
            obtain ⟨x6_2, x37_2, x158000_2, x162001_2, u162001, rfl, rfl, HA, HK2, HO_35, HO_162001, BK156, BK157, BK161, HB⟩ := hrel
            cases gk with
            | zero => exact absurd HA.out (by simp [msgs_Decode.l0])
            | succ k2 =>
              have H := HA.out
              clear HA
              simp only [msgs_Decode.l0] at H
              by_cases c30 : x37_2 < (t158.length : Int)
              · rw [if_pos c30] at H
                have c30b0 : decide (x37_2 < (t158.length : Int)) = true := decide_eq_true c30
                clear c30
                by_cases c31 : 0 ≤ x37_2
                · rw [if_pos c31] at H
                  have c31b0 : decide (0 ≤ x37_2) = true := decide_eq_true c31
                  clear c31
                  by_cases c32 : x37_2 < (t158.length : Int)
                  · rw [if_pos c32] at H
                    have c32b0 : decide (x37_2 < (t158.length : Int)) = true := decide_eq_true c32
                    clear c32
                    obtain ⟨ji33, hji33⟩ : ∃ j_ : Int, (mx (rd t158 x37_2) (wrap64 (-(rd t158 x37_2)))) = j_ := ⟨_, rfl⟩
                    replace H : (if (x6_2.size : Int) < (wrap64 (Int.tdiv (ji33) 8)) then (some (0, ([] : List Int), 3)) else (msgs_Decode.l1 k2 x6_2 (rd t158 x37_2) ji33 0 t158 (t158.length : Int) x37_2 (wrap64 (Int.tdiv (ji33) 8)) 0 ((a0_1) % 256) x162001_2)) = some (r1, r2, r3) := by first | (rw [hji33] at H; exact H) | (simp only [hji33] at H ⊢; exact H)
                    have hji33_ : (if (rd t158 x37_2) < (wrap64 (-(rd t158 x37_2))) then (wrap64 (-(rd t158 x37_2))) else (rd t158 x37_2)) = ji33 := hji33
                    by_cases c34 : (x6_2.size : Int) < (wrap64 (Int.tdiv (ji33) 8))
                    · rw [if_pos c34] at H
                      have c34b0 : decide ((x6_2.size : Int) < (wrap64 (Int.tdiv (ji33) 8))) = true := decide_eq_true c34
                      clear c34
                      simp only [Option.some.injEq, Prod.mk.injEq] at H
                      obtain ⟨rfl, rfl, rfl⟩ := H
                      have p162 : 0 ≤ (x37_2 : Int) := of_decide_eq_true (by first | (with_reducible assumption) | assumption)
                      have q162 : x37_2 < (t158.length : Int) := of_decide_eq_true (by first | (with_reducible assumption) | assumption)
                      obtain ⟨ad162, e162, hx162_0⟩ := Kd.at_int (Kd.R_reads' HO_35.out).2.2 x37_2 p162 q162
                      cases e162
                      replace p162 := eq_true p162
                      replace q162 := eq_true q162
                      have hnb35 := NB157_156.out
                      have hnc35 := NB156_157.out
                      have hnb36 := NB157_161.out
                      have hnc36 := NB161_157.out
                      have hcz37_0 : wr.cell? ⟨gb157, 0, none⟩ = some (.int .u8 x158000_2) := (blk_cell BK157.out 0).trans rfl
                      have hcz37_1 : wr.cell? ⟨gb157, 1, none⟩ = some (.slice none 0 0) := (blk_cell BK157.out 1).trans rfl
                      have hfz37_0 := blk_frozen BK157.out 0
                      have hfz37_1 := blk_frozen BK157.out 1
                      go_wp2
                      refine bodyPost_ret (results_ct rfl _ _ gb157 38 #[.int .u8 0, .slice none 0 0] (0, 0) _ rfl (by (with_reducible repeat (first | refine blk_drewN ?_ _ | refine blk_drew ?_ | refine blk_alloc ?_ _)); refine blk_put (cs := #[.int .u8 0, .slice none 0 0]) ?_ 1 _ rfl; (with_reducible repeat (first | refine blk_drewN ?_ _ | refine blk_drew ?_ | refine blk_alloc ?_ _)); refine blk_put (cs := #[.int .u8 x158000_2, .slice none 0 0]) ?_ 0 _ rfl; (with_reducible repeat (first | refine blk_drewN ?_ _ | refine blk_drew ?_ | refine blk_alloc ?_ _)); exact BK157.out) Try.underlying38 rfl (by kernel_rfl)) rfl ?_
                      exact ⟨_, by first | rfl | (simp [errW_none, errW_some] <;> rfl) | (simp only [← hji33]; first | rfl | (simp [errW_none, errW_some] <;> rfl)) | (simp [*, errW_none, errW_some] <;> rfl), by first | exact Kd.R_nil _ _ _ _ _ | exact Kd.N_nil _ _ _ _ _ | exact Kd.V_nil _ _ _ _ _ | exact Kd.Q_nil _ _ _ _ _ | exact Kd.S_nil _ _ _ _ _, by repeat (first | (with_reducible first | exact HB.out | apply below_alloc | apply pw_below_drewN | apply below_drew1 | refine below_set ?_ GE156.out | refine below_set ?_ GE157.out | refine below_set ?_ GE161.out) | exact HB.out)⟩
                    · rw [if_neg c34] at H
                      have c34b0 : decide ((x6_2.size : Int) < (wrap64 (Int.tdiv (ji33) 8))) = false := decide_eq_false c34
                      clear c34
                      have H' := Aside0.mk H
                      clear H
                      have p162 : 0 ≤ (x37_2 : Int) := of_decide_eq_true (by first | (with_reducible assumption) | assumption)
                      have q162 : x37_2 < (t158.length : Int) := of_decide_eq_true (by first | (with_reducible assumption) | assumption)
                      obtain ⟨ad162, e162, hx162_0⟩ := Kd.at_int (Kd.R_reads' HO_35.out).2.2 x37_2 p162 q162
                      cases e162
                      replace p162 := eq_true p162
                      replace q162 := eq_true q162
                      go_wp2
                      go_loopg [10, 53] k2 (fun kq v10 v53 w' => ∃ (x10_3 : Int) (x53_3 : Int), v10 = .int .i64 x10_3 ∧ v53 = .int .i64 x53_3 ∧ Aside0 (msgs_Decode.l1 kq x6_2 (rd t158 x37_2) ji33 x10_3 t158 (t158.length : Int) x37_2 (wrap64 (Int.tdiv (ji33) 8)) x53_3 ((a0_1) % 256) x162001_2 = some (r1, r2, r3)) ∧ Aside0 (kq ≤ k2) ∧ Aside0 (Kd.R (Kd.int .i64) 3 w' w.heap.size (fun k_ => some k_ ≠ (u162001 : Value).ownBlock) (.slice (some ad162) t158.length co23) t158) ∧ Aside0 (Kd.R (Kd.int .i64) 3 w' w.heap.size (fun k_ => some k_ ≠ ((.slice (some ad162) t158.length co23) : Value).ownBlock) u162001 x162001_2) ∧ Aside0 (w'.heap[gb156]? = some (.cells #[.int .i64 a0_0, .int .i64 a0_1, .string a0_2] 45 (0, 0))) ∧ Aside0 (w'.heap[gb157]? = some (.cells #[.int .u8 x158000_2, (.slice none 0 0)] 38 (0, 0))) ∧ Aside0 (w'.heap[gb161]? = some (.cells #[.int .u8 ((a0_1) % 256), u162001] 38 (0, 0))) ∧ Aside0 (Below w.heap.size w w'))
                      case atStart => exact ⟨(0), (0), (by first | rfl | (simp; done) | (simp [*]; done)), (by first | rfl | (simp; done) | (simp [*]; done)), H', ⟨Nat.le_refl _⟩, ⟨by (with_reducible repeat (first | apply Kd.R_alloc | apply Kd.R_drewN | apply Kd.R_drew)); exact HO_35.out⟩, ⟨by (with_reducible repeat (first | apply Kd.R_alloc | apply Kd.R_drewN | apply Kd.R_drew)); exact HO_162001.out⟩, ⟨by (with_reducible repeat (first | refine blk_drewN ?_ _ | refine blk_drew ?_ | refine blk_alloc ?_ _)); exact BK156.out⟩, ⟨by (with_reducible repeat (first | refine blk_drewN ?_ _ | refine blk_drew ?_ | refine blk_alloc ?_ _)); exact BK157.out⟩, ⟨by (with_reducible repeat (first | refine blk_drewN ?_ _ | refine blk_drew ?_ | refine blk_alloc ?_ _)); exact BK161.out⟩, ⟨by repeat (first | (with_reducible first | exact HB.out | apply below_alloc | apply pw_below_drewN | apply below_drew1 | refine below_set ?_ GE156.out | refine below_set ?_ GE157.out | refine below_set ?_ GE161.out) | exact HB.out)⟩⟩
                      case round =>
                        clear H'
                        try clear c1
                        try clear p1
                        try clear q1
                        try clear hx1
                        try clear c2
                        try clear p2
                        try clear c3
                        try clear c5
                        try clear c5b0
                        try clear c6
                        try clear p6
                        try clear c7
                        try clear c8
                        try clear c10
                        try clear c11
                        try clear c14
                        try clear c14b0
                        try clear c14b1
                        try clear c14b2
                        try clear c15
                        try clear p16
                        try clear q16
                        try clear hx16
                        try clear c20
                        try clear c26
                        try clear c27
                        try clear c30
                        try clear c30b0
                        try clear c31
                        try clear c31b0
                        try clear c32
                        try clear c32b0
                        try clear c34
                        try clear c34b0
                        try clear c35
                        try clear c36
                        try clear hcz12_0
                        try clear hcz12_1
                        try clear hcz16_0
                        try clear hcz16_1
                        try clear hcz16_2
                        try clear hcz19_0
                        try clear hcz19_1
                        try clear hcz21_0
                        try clear hcz21_1
                        try clear hcz21_2
                        try clear hcz24_0
                        try clear hcz24_1
                        try clear hcz24_2
                        try clear hcz28_0
                        try clear hcz28_1
                        try clear hcz29_0
                        try clear hcz29_1
                        try clear hcz29_2
                        try clear hcz37_0
                        try clear hcz37_1
                        try clear hcz7_0
                        try clear hcz7_1
                        try clear hcz7_2
                        try clear hcz9_0
                        try clear hcz9_1
                        try clear hcz9_2
                        try clear hfz12_0
                        try clear hfz12_1
                        try clear hfz16_0
                        try clear hfz16_1
                        try clear hfz16_2
                        try clear hfz19_0
                        try clear hfz19_1
                        try clear hfz21_0
                        try clear hfz21_1
                        try clear hfz21_2
                        try clear hfz24_0
                        try clear hfz24_1
                        try clear hfz24_2
                        try clear hfz28_0
                        try clear hfz28_1
                        try clear hfz29_0
                        try clear hfz29_1
                        try clear hfz29_2
                        try clear hfz37_0
                        try clear hfz37_1
                        try clear hfz7_0
                        try clear hfz7_1
                        try clear hfz7_2
                        try clear hfz9_0
                        try clear hfz9_1
                        try clear hfz9_2
                        try clear hx162_0
                        try clear p162
                        try clear p2
                        try clear q162
                        obtain ⟨x10_3, x53_3, rfl, rfl, HA, HK3, HO_35, HO_162001, BK156, BK157, BK161, HB⟩ := hrel
                        cases gk with
                        | zero => exact absurd HA.out (by simp [msgs_Decode.l1])
                        | succ k3 =>
                          have H := HA.out
                          clear HA
                          simp only [msgs_Decode.l1] at H
                          by_cases c38 : x53_3 < (wrap64 (Int.tdiv (ji33) 8))
                          · rw [if_pos c38] at H
                            have c38b0 : decide (x53_3 < (wrap64 (Int.tdiv (ji33) 8))) = true := decide_eq_true c38
                            clear c38
                            by_cases c39 : 0 ≤ x53_3
                            · rw [if_pos c39] at H
                              have c39b0 : decide (0 ≤ x53_3) = true := decide_eq_true c39
                              clear c39
                              by_cases c40 : x53_3 < (x6_2.size : Int)
                              · rw [if_pos c40] at H
                                have c40b0 : decide (x53_3 < (x6_2.size : Int)) = true := decide_eq_true c40
                                clear c40
                                obtain ⟨ji42, hji42⟩ : ∃ j_ : Int, (wrap64 (8 * x53_3)) = j_ := ⟨_, rfl⟩
                                replace H : (if 0 ≤ (ji42) then (msgs_Decode.l1 k3 x6_2 (rd t158 x37_2) ji33 (Go.bits .or .i64 x10_3 (shl .i64 (wrap64 (bt x6_2 x53_3)) (ji42))) t158 (t158.length : Int) x37_2 (wrap64 (Int.tdiv (ji33) 8)) (wrap64 (x53_3 + 1)) ((a0_1) % 256) x162001_2) else (none)) = some (r1, r2, r3) := by first | (rw [hji42] at H; exact H) | (simp only [hji42] at H ⊢; exact H)
                                have hji42w : (IntKind.i64.wrap (8 * x53_3)) = ji42 := (i64_w _).trans hji42
                                by_cases c43 : 0 ≤ (ji42)
                                · rw [if_pos c43] at H
                                  have c43b0 := eq_true c43
                                  have c43b1 : decide (0 ≤ (ji42)) = true := decide_eq_true c43
                                  clear c43
                                  obtain ⟨ji44, hji44⟩ : ∃ j_ : Int, (shl .i64 (wrap64 (bt x6_2 x53_3)) (ji42)) = j_ := ⟨_, rfl⟩
                                  replace H : (msgs_Decode.l1 k3 x6_2 (rd t158 x37_2) ji33 (Go.bits .or .i64 x10_3 (ji44)) t158 (t158.length : Int) x37_2 (wrap64 (Int.tdiv (ji33) 8)) (wrap64 (x53_3 + 1)) ((a0_1) % 256) x162001_2) = some (r1, r2, r3) := by first | (rw [hji44] at H; exact H) | (simp only [hji44] at H ⊢; exact H)
                                  have hji44_ : (IntKind.i64.wrap ((wrap64 (bt x6_2 x53_3)) * 2 ^ min (ji42).toNat 64)) = ji44 := hji44
                                  have hji44z : (ji42) ≤ 64 → (IntKind.i64.wrap ((wrap64 (bt x6_2 x53_3)) * 2 ^ (ji42).toNat)) = ji44 := shl_small hji44
                                  have hji44y : (wrap64 ((wrap64 (bt x6_2 x53_3)) * 2 ^ min (ji42).toNat 64)) = ji44 := (i64_w _).symm.trans hji44_
                                  have hji44x : (ji42) ≤ 64 → (wrap64 ((wrap64 (bt x6_2 x53_3)) * 2 ^ (ji42).toNat)) = ji44 := fun h_ => (i64_w _).symm.trans (hji44z h_)
                                  have H' := Aside0.mk H
                                  clear H
                                  have p41 : 0 ≤ (x53_3 : Int) := of_decide_eq_true (by first | (with_reducible assumption) | assumption)
                                  have q41 : x53_3 < (x6_2.size : Int) := of_decide_eq_true (by first | (with_reducible assumption) | assumption)
                                  have hx41 := bt_at x6_2 x53_3
                                  replace p41 := eq_true p41
                                  replace q41 := eq_true q41
                                  go_wp2
                                  go_roundg k3
                                  case measure => have := HJ1.out; have := HK2.out; have := HK3.out; omega
                                  case rel => exact ⟨(Go.bits .or .i64 x10_3 (ji44)), (wrap64 (x53_3 + 1)), (by first | rfl | (simp; done) | (simp only [← hji44] <;> (first | rfl | (simp; done))) | (simpa using hji44y) | (simp [*]; done)), (by first | rfl | (simp; done) | (simp [*]; done)), H', ⟨by have := HJ1.out; have := HK2.out; have := HK3.out; omega⟩, ⟨by (with_reducible repeat (first | apply Kd.R_alloc | apply Kd.R_drewN | apply Kd.R_drew)); exact HO_35.out⟩, ⟨by (with_reducible repeat (first | apply Kd.R_alloc | apply Kd.R_drewN | apply Kd.R_drew)); exact HO_162001.out⟩, ⟨by (with_reducible repeat (first | refine blk_drewN ?_ _ | refine blk_drew ?_ | refine blk_alloc ?_ _)); exact BK156.out⟩, ⟨by (with_reducible repeat (first | refine blk_drewN ?_ _ | refine blk_drew ?_ | refine blk_alloc ?_ _)); exact BK157.out⟩, ⟨by (with_reducible repeat (first | refine blk_drewN ?_ _ | refine blk_drew ?_ | refine blk_alloc ?_ _)); exact BK161.out⟩, ⟨by repeat (first | (with_reducible first | exact HB.out | apply below_alloc | apply pw_below_drewN | apply below_drew1 | refine below_set ?_ GE156.out | refine below_set ?_ GE157.out | refine below_set ?_ GE161.out) | exact HB.out)⟩⟩
                                · rw [if_neg c43] at H
                                  exact absurd H (by simp)
                              · rw [if_neg c40] at H
                                exact absurd H (by simp)
                            · rw [if_neg c39] at H
                              exact absurd H (by simp)
                          · rw [if_neg c38] at H
                            have c38b0 : decide (x53_3 < (wrap64 (Int.tdiv (ji33) 8))) = false := decide_eq_false c38
                            clear c38
                            by_cases c45 : (rd t158 x37_2) < 0
                            · rw [if_pos c45] at H
                              have c45b0 : decide ((rd t158 x37_2) < 0) = true := decide_eq_true c45
                              clear c45
                              obtain ⟨ji46, hji46⟩ : ∃ j_ : Int, (wrap64 (ji33 - 1)) = j_ := ⟨_, rfl⟩
                              replace H : (if 0 ≤ (ji46) then (if x10_3 ≥ (shl .i64 1 (ji46)) then (if 0 ≤ ji33 then (if x162001_2.length < 17592186044416 then (if 0 ≤ (wrap64 (Int.tdiv ji33 8)) then (if (wrap64 (Int.tdiv ji33 8)) ≤ (x6_2.size : Int) then (msgs_Decode.l0 k3 (x6_2.extract ((wrap64 (Int.tdiv ji33 8)) : Int).toNat x6_2.size) t158 (t158.length : Int) (wrap64 (x37_2 + 1)) ((a0_1) % 256) (x162001_2 ++ [wrap64 (x10_3 - (shl .i64 1 ji33))])) else (none)) else (none)) else (none)) else (none)) else (if x162001_2.length < 17592186044416 then (if 0 ≤ (wrap64 (Int.tdiv ji33 8)) then (if (wrap64 (Int.tdiv ji33 8)) ≤ (x6_2.size : Int) then (msgs_Decode.l0 k3 (x6_2.extract ((wrap64 (Int.tdiv ji33 8)) : Int).toNat x6_2.size) t158 (t158.length : Int) (wrap64 (x37_2 + 1)) ((a0_1) % 256) (x162001_2 ++ [x10_3])) else (none)) else (none)) else (none))) else (none)) = some (r1, r2, r3) := by first | (rw [hji46] at H; exact H) | (simp only [hji46] at H ⊢; exact H)
                              have hji46w : (IntKind.i64.wrap (ji33 - 1)) = ji46 := (i64_w _).trans hji46
                              by_cases c47 : 0 ≤ (ji46)
                              · rw [if_pos c47] at H
                                have c47b0 := eq_true c47
                                have c47b1 : decide (0 ≤ (ji46)) = true := decide_eq_true c47
                                clear c47
                                obtain ⟨ji48, hji48⟩ : ∃ j_ : Int, (shl .i64 1 (ji46)) = j_ := ⟨_, rfl⟩
                                replace H : (if x10_3 ≥ (ji48) then (if 0 ≤ ji33 then (if x162001_2.length < 17592186044416 then (if 0 ≤ (wrap64 (Int.tdiv ji33 8)) then (if (wrap64 (Int.tdiv ji33 8)) ≤ (x6_2.size : Int) then (msgs_Decode.l0 k3 (x6_2.extract ((wrap64 (Int.tdiv ji33 8)) : Int).toNat x6_2.size) t158 (t158.length : Int) (wrap64 (x37_2 + 1)) ((a0_1) % 256) (x162001_2 ++ [wrap64 (x10_3 - (shl .i64 1 ji33))])) else (none)) else (none)) else (none)) else (none)) else (if x162001_2.length < 17592186044416 then (if 0 ≤ (wrap64 (Int.tdiv ji33 8)) then (if (wrap64 (Int.tdiv ji33 8)) ≤ (x6_2.size : Int) then (msgs_Decode.l0 k3 (x6_2.extract ((wrap64 (Int.tdiv ji33 8)) : Int).toNat x6_2.size) t158 (t158.length : Int) (wrap64 (x37_2 + 1)) ((a0_1) % 256) (x162001_2 ++ [x10_3])) else (none)) else (none)) else (none))) = some (r1, r2, r3) := by first | (rw [hji48] at H; exact H) | (simp only [hji48] at H ⊢; exact H)
                                have hji48_ : (IntKind.i64.wrap (1 * 2 ^ min (ji46).toNat 64)) = ji48 := hji48
                                have hji48z : (ji46) ≤ 64 → (IntKind.i64.wrap (1 * 2 ^ (ji46).toNat)) = ji48 := shl_small hji48
                                have hji48u : (IntKind.i64.wrap (2 ^ min (ji46).toNat 64)) = ji48 := by have h_ := hji48_; rw [Int.one_mul] at h_; exact h_
                                have hji48v : (ji46) ≤ 64 → (IntKind.i64.wrap (2 ^ (ji46).toNat)) = ji48 := fun hle_ => by have h_ := hji48z hle_; rw [Int.one_mul] at h_; exact h_
                                have hji48y : (wrap64 (1 * 2 ^ min (ji46).toNat 64)) = ji48 := (i64_w _).symm.trans hji48_
                                have hji48x : (ji46) ≤ 64 → (wrap64 (1 * 2 ^ (ji46).toNat)) = ji48 := fun h_ => (i64_w _).symm.trans (hji48z h_)
                                by_cases c49 : x10_3 ≥ (ji48)
                                · rw [if_pos c49] at H
                                  have c49b0 : decide ((ji48) ≤ x10_3) = true := decide_eq_true c49
                                  clear c49
                                  by_cases c50 : 0 ≤ ji33
                                  · rw [if_pos c50] at H
                                    have c50b0 := eq_true c50
                                    have c50b1 : decide (0 ≤ ji33) = true := decide_eq_true c50
                                    clear c50
                                    obtain ⟨ji51, hji51⟩ : ∃ j_ : Int, (shl .i64 1 ji33) = j_ := ⟨_, rfl⟩
                                    replace H : (if x162001_2.length < 17592186044416 then (if 0 ≤ (wrap64 (Int.tdiv ji33 8)) then (if (wrap64 (Int.tdiv ji33 8)) ≤ (x6_2.size : Int) then (msgs_Decode.l0 k3 (x6_2.extract ((wrap64 (Int.tdiv ji33 8)) : Int).toNat x6_2.size) t158 (t158.length : Int) (wrap64 (x37_2 + 1)) ((a0_1) % 256) (x162001_2 ++ [wrap64 (x10_3 - (ji51))])) else (none)) else (none)) else (none)) = some (r1, r2, r3) := by first | (rw [hji51] at H; exact H) | (simp only [hji51] at H ⊢; exact H)
                                    have hji51_ : (IntKind.i64.wrap (1 * 2 ^ min ji33.toNat 64)) = ji51 := hji51
                                    have hji51z : ji33 ≤ 64 → (IntKind.i64.wrap (1 * 2 ^ ji33.toNat)) = ji51 := shl_small hji51
                                    have hji51u : (IntKind.i64.wrap (2 ^ min ji33.toNat 64)) = ji51 := by have h_ := hji51_; rw [Int.one_mul] at h_; exact h_
                                    have hji51v : ji33 ≤ 64 → (IntKind.i64.wrap (2 ^ ji33.toNat)) = ji51 := fun hle_ => by have h_ := hji51z hle_; rw [Int.one_mul] at h_; exact h_
                                    have hji51y : (wrap64 (1 * 2 ^ min ji33.toNat 64)) = ji51 := (i64_w _).symm.trans hji51_
                                    have hji51x : ji33 ≤ 64 → (wrap64 (1 * 2 ^ ji33.toNat)) = ji51 := fun h_ => (i64_w _).symm.trans (hji51z h_)
                                    by_cases c52 : x162001_2.length < 17592186044416
                                    · rw [if_pos c52] at H
                                      have LMc52 := Aside0.mk c52
                                      clear c52
                                      obtain ⟨y163, hy163⟩ : ∃ y_ : List Int, y_ = (x162001_2 ++ [wrap64 (x10_3 - (ji51))]) := ⟨_, rfl⟩
                                      replace H : (if 0 ≤ (wrap64 (Int.tdiv ji33 8)) then (if (wrap64 (Int.tdiv ji33 8)) ≤ (x6_2.size : Int) then (msgs_Decode.l0 k3 (x6_2.extract ((wrap64 (Int.tdiv ji33 8)) : Int).toNat x6_2.size) t158 (t158.length : Int) (wrap64 (x37_2 + 1)) ((a0_1) % 256) y163) else (none)) else (none)) = some (r1, r2, r3) := by first | (rw [hy163]; with_reducible exact H) | (have H2_ := (Option.bind_some _ _).symm.trans H; rw [hy163]; with_reducible exact H2_) | (have H2_ := (Option.bind_some _ _).symm.trans H; with_reducible exact H2_) | with_reducible exact H | (rw [hy163]; exact H) | exact H
                                      have Ny163 := Aside0.mk hy163
                                      clear hy163
                                      obtain ⟨ji53, hji53⟩ : ∃ j_ : Int, (wrap64 (Int.tdiv ji33 8)) = j_ := ⟨_, rfl⟩
                                      replace H : (if 0 ≤ (ji53) then (if (ji53) ≤ (x6_2.size : Int) then (msgs_Decode.l0 k3 (x6_2.extract ((ji53) : Int).toNat x6_2.size) t158 (t158.length : Int) (wrap64 (x37_2 + 1)) ((a0_1) % 256) y163) else (none)) else (none)) = some (r1, r2, r3) := by first | (rw [hji53] at H; exact H) | (simp only [hji53] at H ⊢; exact H)
                                      have hji53w : (IntKind.i64.wrap (Int.tdiv ji33 8)) = ji53 := (i64_w _).trans hji53
                                      (try rw [hji53] at c34b0)
                                      (try rw [hji53] at c34b0)
                                      (try rw [hji53] at c38b0)
                                      (try rw [hji53] at c38b0)
                                      (try rw [hji53] at hji46)
                                      (try rw [hji53] at hji46w)
                                      by_cases c54 : 0 ≤ (ji53)
                                      · rw [if_pos c54] at H
                                        have c54b0 := eq_true c54
                                        have c54b1 : decide (0 ≤ (ji53)) = true := decide_eq_true c54
                                        clear c54
                                        by_cases c55 : (ji53) ≤ (x6_2.size : Int)
                                        · rw [if_pos c55] at H
                                          have c55b0 := eq_true c55
                                          have c55b1 : decide ((ji53) ≤ (x6_2.size : Int)) = true := decide_eq_true c55
                                          clear c55
                                          have H' := Aside0.mk H
                                          clear H
                                          have hnb56 := NB161_156.out
                                          have hnc56 := NB156_161.out
                                          have hnb57 := NB161_157.out
                                          have hnc57 := NB157_161.out
                                          have hcz58_0 : wr.cell? ⟨gb161, 0, none⟩ = some (.int .u8 ((a0_1) % 256)) := (blk_cell BK161.out 0).trans rfl
                                          have hcz58_1 : wr.cell? ⟨gb161, 1, none⟩ = some (u162001) := (blk_cell BK161.out 1).trans rfl
                                          have hfz58_0 := blk_frozen BK161.out 0
                                          have hfz58_1 := blk_frozen BK161.out 1
                                          go_wp2_with (first | ((with_reducible refine gate_builtin (b := .append) (xs := #[.tmp 80, .tmp 82]) rfl ?_); at_builtin; refine Kd.R_append (Kd.int .i64) (w0 := w) w.heap.size rfl (.tmp 80) (.tmp 82) 36 3 (.int .i64 0) 8 rfl Try.underlying36 info3 rfl (by decide) (by omega) u162001 x162001_2 (wrap64 (x10_3 - (ji51))) [.int .i64 (wrap64 (x10_3 - (ji51)))] (fun k_ => some k_ ≠ (.slice (some ad162) t158.length co23 : Value).ownBlock) (fun _ => False) rfl rfl ?aP (fun _ hk => hk.elim) ?aF ?aO ?aB ?aS ?aL ?_; (case aP => exact rfl); (case aB => exact (by repeat (first | (with_reducible first | exact HB.out | apply below_alloc | apply pw_below_drewN | apply below_drew1 | refine below_set ?_ GE156.out | refine below_set ?_ GE157.out | refine below_set ?_ GE161.out) | exact HB.out))); (case aF => exact (fun k_ hk => Kd.fresh' (Kd.R_lt (by (with_reducible repeat (first | apply Kd.R_alloc | apply Kd.R_drewN | apply Kd.R_drew)); exact HO_35.out)) k_ hk)); (case aO => exact (by (with_reducible repeat (first | apply Kd.R_alloc | apply Kd.R_drewN | apply Kd.R_drew)); exact HO_162001.out)); (case aS => exact (below_size (by repeat (first | (with_reducible first | exact HB.out | apply below_alloc | apply pw_below_drewN | apply below_drew1 | refine below_set ?_ GE156.out | refine below_set ?_ GE157.out | refine below_set ?_ GE161.out) | exact HB.out)))); (case aL => have := LMc52.out; omega); intro v164 w59 ho hb hg hat; rw [← Ny163.out] at ho; have n0_ := Aside0.mk (Kd.R_after (ok := (fun _ => True)) (by (with_reducible repeat (first | apply Kd.R_alloc | apply Kd.R_drewN | apply Kd.R_drew)); exact Kd.R_mono HO_35.out (fun _ hk => ⟨trivial, hk⟩)) hg hat); have n1_ := Aside0.mk (blk_grown (g := gb156) (o := .cells #[.int .i64 a0_0, .int .i64 a0_1, .string a0_2] 45 (0, 0)) (by (with_reducible repeat (first | refine blk_drewN ?_ _ | refine blk_drew ?_ | refine blk_alloc ?_ _)); exact BK156.out) hg (Kd.R_ne HO_162001.out BK156.out (by decide))); have n2_ := Aside0.mk (blk_grown (g := gb157) (o := .cells #[.int .u8 x158000_2, .slice none 0 0] 38 (0, 0)) (by (with_reducible repeat (first | refine blk_drewN ?_ _ | refine blk_drew ?_ | refine blk_alloc ?_ _)); exact BK157.out) hg (Kd.R_ne HO_162001.out BK157.out (by decide))); have n3_ := Aside0.mk (blk_grown (g := gb161) (o := .cells #[.int .u8 ((a0_1) % 256), u162001] 38 (0, 0)) (by (with_reducible repeat (first | refine blk_drewN ?_ _ | refine blk_drew ?_ | refine blk_alloc ?_ _)); exact BK161.out) hg (Kd.R_ne HO_162001.out BK161.out (by decide))); have n4_ := Aside0.mk (hb); have n5_ := Aside0.mk (ho); clear HO_35; clear BK156; clear BK157; clear BK161; clear HB; clear HO_162001; have HO_35 := n0_; have BK156 := n1_; have BK157 := n2_; have BK161 := n3_; have HB := n4_; have HO165 := n5_; clear n0_ n1_ n2_ n3_ n4_ n5_; clear ho hb hg hat; obtain ⟨Ao60, co60, eo60⟩ := Kd.R_slice HO165.out; subst eo60; have hcz61_0 : w59.cell? ⟨gb161, 0, none⟩ = some (.int .u8 ((a0_1) % 256)) := (blk_cell BK161.out 0).trans rfl; have hcz61_1 : w59.cell? ⟨gb161, 1, none⟩ = some (u162001) := (blk_cell BK161.out 1).trans rfl; have hfz61_0 := blk_frozen BK161.out 0; have hfz61_1 := blk_frozen BK161.out 1))
                                          go_roundg k3
                                          case measure => have := HJ1.out; have := HK2.out; have := HK3.out; omega
                                          case rel => exact ⟨(x6_2.extract ((ji53) : Int).toNat x6_2.size), (wrap64 (x37_2 + 1)), (x158000_2), (y163), (.slice Ao60 y163.length co60), (by first | rfl | (simp; done) | (simp only [← hji53] <;> (first | rfl | (simp; done))) | (simpa using hji53y) | (simp [*]; done)), (by first | rfl | (simp; done) | (simp [*]; done)), H', ⟨by have := HJ1.out; have := HK2.out; have := HK3.out; omega⟩, ⟨by (with_reducible repeat (first | apply Kd.R_alloc | apply Kd.R_drewN | apply Kd.R_drew)); exact Kd.R_mono (Kd.R_far (p := ⟨gb161, 1, none⟩) (Kd.R_types HO_35.out BK161.out (by decide)) (fun _ hk => hk.2) (.slice Ao60 y163.length co60)) (fun _ hk => hk.1.2)⟩, ⟨by (with_reducible repeat (first | apply Kd.R_alloc | apply Kd.R_drewN | apply Kd.R_drew)); exact Kd.R_mono (Kd.R_far (p := ⟨gb161, 1, none⟩) (Kd.R_types HO165.out BK161.out (by decide)) (fun _ hk => hk.2) (.slice Ao60 y163.length co60)) (fun _ hk => hk.1)⟩, ⟨by (with_reducible repeat (first | refine blk_drewN ?_ _ | refine blk_drew ?_ | refine blk_alloc ?_ _)); refine blk_far ?_ NB156_161.out _; (with_reducible repeat (first | refine blk_drewN ?_ _ | refine blk_drew ?_ | refine blk_alloc ?_ _)); exact BK156.out⟩, ⟨by (with_reducible repeat (first | refine blk_drewN ?_ _ | refine blk_drew ?_ | refine blk_alloc ?_ _)); refine blk_far ?_ NB157_161.out _; (with_reducible repeat (first | refine blk_drewN ?_ _ | refine blk_drew ?_ | refine blk_alloc ?_ _)); exact BK157.out⟩, ⟨by (with_reducible repeat (first | refine blk_drewN ?_ _ | refine blk_drew ?_ | refine blk_alloc ?_ _)); refine blk_put (cs := #[.int .u8 ((a0_1) % 256), u162001]) ?_ 1 _ rfl; (with_reducible repeat (first | refine blk_drewN ?_ _ | refine blk_drew ?_ | refine blk_alloc ?_ _)); exact BK161.out⟩, ⟨by repeat (first | (with_reducible first | exact HB.out | apply below_alloc | apply pw_below_drewN | apply below_drew1 | refine below_set ?_ GE156.out | refine below_set ?_ GE157.out | refine below_set ?_ GE161.out) | exact HB.out)⟩⟩
                                        · rw [if_neg c55] at H
                                          exact absurd H (by simp)
                                      · rw [if_neg c54] at H
                                        exact absurd H (by simp)
                                    · rw [if_neg c52] at H
                                      exact absurd H (by simp)
                                  · rw [if_neg c50] at H
                                    exact absurd H (by simp)
                                · rw [if_neg c49] at H
                                  have c49b0 : decide ((ji48) ≤ x10_3) = false := decide_eq_false c49
                                  clear c49
                                  by_cases c62 : x162001_2.length < 17592186044416
                                  · rw [if_pos c62] at H
                                    have LMc62 := Aside0.mk c62
                                    clear c62
                                    obtain ⟨y166, hy166⟩ : ∃ y_ : List Int, y_ = (x162001_2 ++ [x10_3]) := ⟨_, rfl⟩
                                    replace H : (if 0 ≤ (wrap64 (Int.tdiv ji33 8)) then (if (wrap64 (Int.tdiv ji33 8)) ≤ (x6_2.size : Int) then (msgs_Decode.l0 k3 (x6_2.extract ((wrap64 (Int.tdiv ji33 8)) : Int).toNat x6_2.size) t158 (t158.length : Int) (wrap64 (x37_2 + 1)) ((a0_1) % 256) y166) else (none)) else (none)) = some (r1, r2, r3) := by first | (rw [hy166]; with_reducible exact H) | (have H2_ := (Option.bind_some _ _).symm.trans H; rw [hy166]; with_reducible exact H2_) | (have H2_ := (Option.bind_some _ _).symm.trans H; with_reducible exact H2_) | with_reducible exact H | (rw [hy166]; exact H) | exact H
                                    have Ny166 := Aside0.mk hy166
                                    clear hy166
                                    obtain ⟨ji63, hji63⟩ : ∃ j_ : Int, (wrap64 (Int.tdiv ji33 8)) = j_ := ⟨_, rfl⟩
                                    replace H : (if 0 ≤ (ji63) then (if (ji63) ≤ (x6_2.size : Int) then (msgs_Decode.l0 k3 (x6_2.extract ((ji63) : Int).toNat x6_2.size) t158 (t158.length : Int) (wrap64 (x37_2 + 1)) ((a0_1) % 256) y166) else (none)) else (none)) = some (r1, r2, r3) := by first | (rw [hji63] at H; exact H) | (simp only [hji63] at H ⊢; exact H)
                                    have hji63w : (IntKind.i64.wrap (Int.tdiv ji33 8)) = ji63 := (i64_w _).trans hji63
                                    (try rw [hji63] at c34b0)
                                    (try rw [hji63] at c34b0)
                                    (try rw [hji63] at c38b0)
                                    (try rw [hji63] at c38b0)
                                    (try rw [hji63] at hji46)
                                    (try rw [hji63] at hji46w)
                                    by_cases c64 : 0 ≤ (ji63)
                                    · rw [if_pos c64] at H
                                      have c64b0 := eq_true c64
                                      have c64b1 : decide (0 ≤ (ji63)) = true := decide_eq_true c64
                                      clear c64
                                      by_cases c65 : (ji63) ≤ (x6_2.size : Int)
                                      · rw [if_pos c65] at H
                                        have c65b0 := eq_true c65
                                        have c65b1 : decide ((ji63) ≤ (x6_2.size : Int)) = true := decide_eq_true c65
                                        clear c65
                                        have H' := Aside0.mk H
                                        clear H
                                        have hnb66 := NB161_156.out
                                        have hnc66 := NB156_161.out
                                        have hnb67 := NB161_157.out
                                        have hnc67 := NB157_161.out
                                        have hcz68_0 : wr.cell? ⟨gb161, 0, none⟩ = some (.int .u8 ((a0_1) % 256)) := (blk_cell BK161.out 0).trans rfl
                                        have hcz68_1 : wr.cell? ⟨gb161, 1, none⟩ = some (u162001) := (blk_cell BK161.out 1).trans rfl
                                        have hfz68_0 := blk_frozen BK161.out 0
                                        have hfz68_1 := blk_frozen BK161.out 1
                                        go_wp2_with (first | ((with_reducible refine gate_builtin (b := .append) (xs := #[.tmp 80, .tmp 82]) rfl ?_); at_builtin; refine Kd.R_append (Kd.int .i64) (w0 := w) w.heap.size rfl (.tmp 80) (.tmp 82) 36 3 (.int .i64 0) 8 rfl Try.underlying36 info3 rfl (by decide) (by omega) u162001 x162001_2 x10_3 [.int .i64 x10_3] (fun k_ => some k_ ≠ (.slice (some ad162) t158.length co23 : Value).ownBlock) (fun _ => False) rfl rfl ?aP (fun _ hk => hk.elim) ?aF ?aO ?aB ?aS ?aL ?_; (case aP => exact rfl); (case aB => exact (by repeat (first | (with_reducible first | exact HB.out | apply below_alloc | apply pw_below_drewN | apply below_drew1 | refine below_set ?_ GE156.out | refine below_set ?_ GE157.out | refine below_set ?_ GE161.out) | exact HB.out))); (case aF => exact (fun k_ hk => Kd.fresh' (Kd.R_lt (by (with_reducible repeat (first | apply Kd.R_alloc | apply Kd.R_drewN | apply Kd.R_drew)); exact HO_35.out)) k_ hk)); (case aO => exact (by (with_reducible repeat (first | apply Kd.R_alloc | apply Kd.R_drewN | apply Kd.R_drew)); exact HO_162001.out)); (case aS => exact (below_size (by repeat (first | (with_reducible first | exact HB.out | apply below_alloc | apply pw_below_drewN | apply below_drew1 | refine below_set ?_ GE156.out | refine below_set ?_ GE157.out | refine below_set ?_ GE161.out) | exact HB.out)))); (case aL => have := LMc62.out; omega); intro v167 w69 ho hb hg hat; rw [← Ny166.out] at ho; have n0_ := Aside0.mk (Kd.R_after (ok := (fun _ => True)) (by (with_reducible repeat (first | apply Kd.R_alloc | apply Kd.R_drewN | apply Kd.R_drew)); exact Kd.R_mono HO_35.out (fun _ hk => ⟨trivial, hk⟩)) hg hat); have n1_ := Aside0.mk (blk_grown (g := gb156) (o := .cells #[.int .i64 a0_0, .int .i64 a0_1, .string a0_2] 45 (0, 0)) (by (with_reducible repeat (first | refine blk_drewN ?_ _ | refine blk_drew ?_ | refine blk_alloc ?_ _)); exact BK156.out) hg (Kd.R_ne HO_162001.out BK156.out (by decide))); have n2_ := Aside0.mk (blk_grown (g := gb157) (o := .cells #[.int .u8 x158000_2, .slice none 0 0] 38 (0, 0)) (by (with_reducible repeat (first | refine blk_drewN ?_ _ | refine blk_drew ?_ | refine blk_alloc ?_ _)); exact BK157.out) hg (Kd.R_ne HO_162001.out BK157.out (by decide))); have n3_ := Aside0.mk (blk_grown (g := gb161) (o := .cells #[.int .u8 ((a0_1) % 256), u162001] 38 (0, 0)) (by (with_reducible repeat (first | refine blk_drewN ?_ _ | refine blk_drew ?_ | refine blk_alloc ?_ _)); exact BK161.out) hg (Kd.R_ne HO_162001.out BK161.out (by decide))); have n4_ := Aside0.mk (hb); have n5_ := Aside0.mk (ho); clear HO_35; clear BK156; clear BK157; clear BK161; clear HB; clear HO_162001; have HO_35 := n0_; have BK156 := n1_; have BK157 := n2_; have BK161 := n3_; have HB := n4_; have HO168 := n5_; clear n0_ n1_ n2_ n3_ n4_ n5_; clear ho hb hg hat; obtain ⟨Ao70, co70, eo70⟩ := Kd.R_slice HO168.out; subst eo70; have hcz71_0 : w69.cell? ⟨gb161, 0, none⟩ = some (.int .u8 ((a0_1) % 256)) := (blk_cell BK161.out 0).trans rfl; have hcz71_1 : w69.cell? ⟨gb161, 1, none⟩ = some (u162001) := (blk_cell BK161.out 1).trans rfl; have hfz71_0 := blk_frozen BK161.out 0; have hfz71_1 := blk_frozen BK161.out 1))
                                        go_roundg k3
                                        case measure => have := HJ1.out; have := HK2.out; have := HK3.out; omega
                                        case rel => exact ⟨(x6_2.extract ((ji63) : Int).toNat x6_2.size), (wrap64 (x37_2 + 1)), (x158000_2), (y166), (.slice Ao70 y166.length co70), (by first | rfl | (simp; done) | (simp only [← hji63] <;> (first | rfl | (simp; done))) | (simpa using hji63y) | (simp [*]; done)), (by first | rfl | (simp; done) | (simp [*]; done)), H', ⟨by have := HJ1.out; have := HK2.out; have := HK3.out; omega⟩, ⟨by (with_reducible repeat (first | apply Kd.R_alloc | apply Kd.R_drewN | apply Kd.R_drew)); exact Kd.R_mono (Kd.R_far (p := ⟨gb161, 1, none⟩) (Kd.R_types HO_35.out BK161.out (by decide)) (fun _ hk => hk.2) (.slice Ao70 y166.length co70)) (fun _ hk => hk.1.2)⟩, ⟨by (with_reducible repeat (first | apply Kd.R_alloc | apply Kd.R_drewN | apply Kd.R_drew)); exact Kd.R_mono (Kd.R_far (p := ⟨gb161, 1, none⟩) (Kd.R_types HO168.out BK161.out (by decide)) (fun _ hk => hk.2) (.slice Ao70 y166.length co70)) (fun _ hk => hk.1)⟩, ⟨by (with_reducible repeat (first | refine blk_drewN ?_ _ | refine blk_drew ?_ | refine blk_alloc ?_ _)); refine blk_far ?_ NB156_161.out _; (with_reducible repeat (first | refine blk_drewN ?_ _ | refine blk_drew ?_ | refine blk_alloc ?_ _)); exact BK156.out⟩, ⟨by (with_reducible repeat (first | refine blk_drewN ?_ _ | refine blk_drew ?_ | refine blk_alloc ?_ _)); refine blk_far ?_ NB157_161.out _; (with_reducible repeat (first | refine blk_drewN ?_ _ | refine blk_drew ?_ | refine blk_alloc ?_ _)); exact BK157.out⟩, ⟨by (with_reducible repeat (first | refine blk_drewN ?_ _ | refine blk_drew ?_ | refine blk_alloc ?_ _)); refine blk_put (cs := #[.int .u8 ((a0_1) % 256), u162001]) ?_ 1 _ rfl; (with_reducible repeat (first | refine blk_drewN ?_ _ | refine blk_drew ?_ | refine blk_alloc ?_ _)); exact BK161.out⟩, ⟨by repeat (first | (with_reducible first | exact HB.out | apply below_alloc | apply pw_below_drewN | apply below_drew1 | refine below_set ?_ GE156.out | refine below_set ?_ GE157.out | refine below_set ?_ GE161.out) | exact HB.out)⟩⟩
                                      · rw [if_neg c65] at H
                                        exact absurd H (by simp)
                                    · rw [if_neg c64] at H
                                      exact absurd H (by simp)
                                  · rw [if_neg c62] at H
                                    exact absurd H (by simp)
                              · rw [if_neg c47] at H
                                exact absurd H (by simp)
                            · rw [if_neg c45] at H
                              have c45b0 : decide ((rd t158 x37_2) < 0) = false := decide_eq_false c45
                              clear c45
                              by_cases c72 : x162001_2.length < 17592186044416
                              · rw [if_pos c72] at H
                                have LMc72 := Aside0.mk c72
                                clear c72
                                obtain ⟨y169, hy169⟩ : ∃ y_ : List Int, y_ = (x162001_2 ++ [x10_3]) := ⟨_, rfl⟩
                                replace H : (if 0 ≤ (wrap64 (Int.tdiv ji33 8)) then (if (wrap64 (Int.tdiv ji33 8)) ≤ (x6_2.size : Int) then (msgs_Decode.l0 k3 (x6_2.extract ((wrap64 (Int.tdiv ji33 8)) : Int).toNat x6_2.size) t158 (t158.length : Int) (wrap64 (x37_2 + 1)) ((a0_1) % 256) y169) else (none)) else (none)) = some (r1, r2, r3) := by first | (rw [hy169]; with_reducible exact H) | (have H2_ := (Option.bind_some _ _).symm.trans H; rw [hy169]; with_reducible exact H2_) | (have H2_ := (Option.bind_some _ _).symm.trans H; with_reducible exact H2_) | with_reducible exact H | (rw [hy169]; exact H) | exact H
                                have Ny169 := Aside0.mk hy169
                                clear hy169
                                obtain ⟨ji73, hji73⟩ : ∃ j_ : Int, (wrap64 (Int.tdiv ji33 8)) = j_ := ⟨_, rfl⟩
                                replace H : (if 0 ≤ (ji73) then (if (ji73) ≤ (x6_2.size : Int) then (msgs_Decode.l0 k3 (x6_2.extract ((ji73) : Int).toNat x6_2.size) t158 (t158.length : Int) (wrap64 (x37_2 + 1)) ((a0_1) % 256) y169) else (none)) else (none)) = some (r1, r2, r3) := by first | (rw [hji73] at H; exact H) | (simp only [hji73] at H ⊢; exact H)
                                have hji73w : (IntKind.i64.wrap (Int.tdiv ji33 8)) = ji73 := (i64_w _).trans hji73
                                (try rw [hji73] at c34b0)
                                (try rw [hji73] at c34b0)
                                (try rw [hji73] at c38b0)
                                (try rw [hji73] at c38b0)
                                (try rw [hji73] at hji46)
                                (try rw [hji73] at hji46w)
                                by_cases c74 : 0 ≤ (ji73)
                                · rw [if_pos c74] at H
                                  have c74b0 := eq_true c74
                                  have c74b1 : decide (0 ≤ (ji73)) = true := decide_eq_true c74
                                  clear c74
                                  by_cases c75 : (ji73) ≤ (x6_2.size : Int)
                                  · rw [if_pos c75] at H
                                    have c75b0 := eq_true c75
                                    have c75b1 : decide ((ji73) ≤ (x6_2.size : Int)) = true := decide_eq_true c75
                                    clear c75
                                    have H' := Aside0.mk H
                                    clear H
                                    have hnb76 := NB161_156.out
                                    have hnc76 := NB156_161.out
                                    have hnb77 := NB161_157.out
                                    have hnc77 := NB157_161.out
                                    have hcz78_0 : wr.cell? ⟨gb161, 0, none⟩ = some (.int .u8 ((a0_1) % 256)) := (blk_cell BK161.out 0).trans rfl
                                    have hcz78_1 : wr.cell? ⟨gb161, 1, none⟩ = some (u162001) := (blk_cell BK161.out 1).trans rfl
                                    have hfz78_0 := blk_frozen BK161.out 0
                                    have hfz78_1 := blk_frozen BK161.out 1
                                    go_wp2_with (first | ((with_reducible refine gate_builtin (b := .append) (xs := #[.tmp 80, .tmp 82]) rfl ?_); at_builtin; refine Kd.R_append (Kd.int .i64) (w0 := w) w.heap.size rfl (.tmp 80) (.tmp 82) 36 3 (.int .i64 0) 8 rfl Try.underlying36 info3 rfl (by decide) (by omega) u162001 x162001_2 x10_3 [.int .i64 x10_3] (fun k_ => some k_ ≠ (.slice (some ad162) t158.length co23 : Value).ownBlock) (fun _ => False) rfl rfl ?aP (fun _ hk => hk.elim) ?aF ?aO ?aB ?aS ?aL ?_; (case aP => exact rfl); (case aB => exact (by repeat (first | (with_reducible first | exact HB.out | apply below_alloc | apply pw_below_drewN | apply below_drew1 | refine below_set ?_ GE156.out | refine below_set ?_ GE157.out | refine below_set ?_ GE161.out) | exact HB.out))); (case aF => exact (fun k_ hk => Kd.fresh' (Kd.R_lt (by (with_reducible repeat (first | apply Kd.R_alloc | apply Kd.R_drewN | apply Kd.R_drew)); exact HO_35.out)) k_ hk)); (case aO => exact (by (with_reducible repeat (first | apply Kd.R_alloc | apply Kd.R_drewN | apply Kd.R_drew)); exact HO_162001.out)); (case aS => exact (below_size (by repeat (first | (with_reducible first | exact HB.out | apply below_alloc | apply pw_below_drewN | apply below_drew1 | refine below_set ?_ GE156.out | refine below_set ?_ GE157.out | refine below_set ?_ GE161.out) | exact HB.out)))); (case aL => have := LMc72.out; omega); intro v170 w79 ho hb hg hat; rw [← Ny169.out] at ho; have n0_ := Aside0.mk (Kd.R_after (ok := (fun _ => True)) (by (with_reducible repeat (first | apply Kd.R_alloc | apply Kd.R_drewN | apply Kd.R_drew)); exact Kd.R_mono HO_35.out (fun _ hk => ⟨trivial, hk⟩)) hg hat); have n1_ := Aside0.mk (blk_grown (g := gb156) (o := .cells #[.int .i64 a0_0, .int .i64 a0_1, .string a0_2] 45 (0, 0)) (by (with_reducible repeat (first | refine blk_drewN ?_ _ | refine blk_drew ?_ | refine blk_alloc ?_ _)); exact BK156.out) hg (Kd.R_ne HO_162001.out BK156.out (by decide))); have n2_ := Aside0.mk (blk_grown (g := gb157) (o := .cells #[.int .u8 x158000_2, .slice none 0 0] 38 (0, 0)) (by (with_reducible repeat (first | refine blk_drewN ?_ _ | refine blk_drew ?_ | refine blk_alloc ?_ _)); exact BK157.out) hg (Kd.R_ne HO_162001.out BK157.out (by decide))); have n3_ := Aside0.mk (blk_grown (g := gb161) (o := .cells #[.int .u8 ((a0_1) % 256), u162001] 38 (0, 0)) (by (with_reducible repeat (first | refine blk_drewN ?_ _ | refine blk_drew ?_ | refine blk_alloc ?_ _)); exact BK161.out) hg (Kd.R_ne HO_162001.out BK161.out (by decide))); have n4_ := Aside0.mk (hb); have n5_ := Aside0.mk (ho); clear HO_35; clear BK156; clear BK157; clear BK161; clear HB; clear HO_162001; have HO_35 := n0_; have BK156 := n1_; have BK157 := n2_; have BK161 := n3_; have HB := n4_; have HO171 := n5_; clear n0_ n1_ n2_ n3_ n4_ n5_; clear ho hb hg hat; obtain ⟨Ao80, co80, eo80⟩ := Kd.R_slice HO171.out; subst eo80; have hcz81_0 : w79.cell? ⟨gb161, 0, none⟩ = some (.int .u8 ((a0_1) % 256)) := (blk_cell BK161.out 0).trans rfl; have hcz81_1 : w79.cell? ⟨gb161, 1, none⟩ = some (u162001) := (blk_cell BK161.out 1).trans rfl; have hfz81_0 := blk_frozen BK161.out 0; have hfz81_1 := blk_frozen BK161.out 1))
                                    go_roundg k3
                                    case measure => have := HJ1.out; have := HK2.out; have := HK3.out; omega
                                    case rel => exact ⟨(x6_2.extract ((ji73) : Int).toNat x6_2.size), (wrap64 (x37_2 + 1)), (x158000_2), (y169), (.slice Ao80 y169.length co80), (by first | rfl | (simp; done) | (simp only [← hji73] <;> (first | rfl | (simp; done))) | (simpa using hji73y) | (simp [*]; done)), (by first | rfl | (simp; done) | (simp [*]; done)), H', ⟨by have := HJ1.out; have := HK2.out; have := HK3.out; omega⟩, ⟨by (with_reducible repeat (first | apply Kd.R_alloc | apply Kd.R_drewN | apply Kd.R_drew)); exact Kd.R_mono (Kd.R_far (p := ⟨gb161, 1, none⟩) (Kd.R_types HO_35.out BK161.out (by decide)) (fun _ hk => hk.2) (.slice Ao80 y169.length co80)) (fun _ hk => hk.1.2)⟩, ⟨by (with_reducible repeat (first | apply Kd.R_alloc | apply Kd.R_drewN | apply Kd.R_drew)); exact Kd.R_mono (Kd.R_far (p := ⟨gb161, 1, none⟩) (Kd.R_types HO171.out BK161.out (by decide)) (fun _ hk => hk.2) (.slice Ao80 y169.length co80)) (fun _ hk => hk.1)⟩, ⟨by (with_reducible repeat (first | refine blk_drewN ?_ _ | refine blk_drew ?_ | refine blk_alloc ?_ _)); refine blk_far ?_ NB156_161.out _; (with_reducible repeat (first | refine blk_drewN ?_ _ | refine blk_drew ?_ | refine blk_alloc ?_ _)); exact BK156.out⟩, ⟨by (with_reducible repeat (first | refine blk_drewN ?_ _ | refine blk_drew ?_ | refine blk_alloc ?_ _)); refine blk_far ?_ NB157_161.out _; (with_reducible repeat (first | refine blk_drewN ?_ _ | refine blk_drew ?_ | refine blk_alloc ?_ _)); exact BK157.out⟩, ⟨by (with_reducible repeat (first | refine blk_drewN ?_ _ | refine blk_drew ?_ | refine blk_alloc ?_ _)); refine blk_put (cs := #[.int .u8 ((a0_1) % 256), u162001]) ?_ 1 _ rfl; (with_reducible repeat (first | refine blk_drewN ?_ _ | refine blk_drew ?_ | refine blk_alloc ?_ _)); exact BK161.out⟩, ⟨by repeat (first | (with_reducible first | exact HB.out | apply below_alloc | apply pw_below_drewN | apply below_drew1 | refine below_set ?_ GE156.out | refine below_set ?_ GE157.out | refine below_set ?_ GE161.out) | exact HB.out)⟩⟩
                                  · rw [if_neg c75] at H
                                    exact absurd H (by simp)
                                · rw [if_neg c74] at H
                                  exact absurd H (by simp)
                              · rw [if_neg c72] at H
                                exact absurd H (by simp)
                  · rw [if_neg c32] at H
                    exact absurd H (by simp)
                · rw [if_neg c31] at H
                  exact absurd H (by simp)
              · rw [if_neg c30] at H
                have c30b0 : decide (x37_2 < (t158.length : Int)) = false := decide_eq_false c30
                clear c30
                by_cases c82 : x6_2.toList = ([] : List UInt8)
                · rw [if_pos c82] at H
                  have c82b0 : (x6_2.toList == ([] : List UInt8)) = true := beq_iff_eq.mpr c82
                  have c82b1 : (x6_2.toList != ([] : List UInt8)) = false := bne_eq_false_iff_eq.mpr c82
                  clear c82
                  simp only [Option.some.injEq, Prod.mk.injEq] at H
                  obtain ⟨rfl, rfl, rfl⟩ := H
                  have hnb83 := NB161_156.out
                  have hnc83 := NB156_161.out
                  have hnb84 := NB161_157.out
                  have hnc84 := NB157_161.out
                  have hcz85_0 : wr.cell? ⟨gb161, 0, none⟩ = some (.int .u8 ((a0_1) % 256)) := (blk_cell BK161.out 0).trans rfl
                  have hcz85_1 : wr.cell? ⟨gb161, 1, none⟩ = some (u162001) := (blk_cell BK161.out 1).trans rfl
                  have hfz85_0 := blk_frozen BK161.out 0
                  have hfz85_1 := blk_frozen BK161.out 1
                  have hnb86 := NB157_156.out
                  have hnc86 := NB156_157.out
                  have hcz87_0 : wr.cell? ⟨gb157, 0, none⟩ = some (.int .u8 x158000_2) := (blk_cell BK157.out 0).trans rfl
                  have hcz87_1 : wr.cell? ⟨gb157, 1, none⟩ = some (.slice none 0 0) := (blk_cell BK157.out 1).trans rfl
                  have hfz87_0 := blk_frozen BK157.out 0
                  have hfz87_1 := blk_frozen BK157.out 1
                  obtain ⟨Ao88, co88, eo88⟩ := Kd.R_slice HO_162001.out
                  subst eo88
                  go_wp2
                  refine bodyPost_ret (results_ct rfl _ _ gb157 38 #[.int .u8 ((a0_1) % 256), .slice Ao88 x162001_2.length co88] (0, 0) _ rfl (by (with_reducible repeat (first | refine blk_drewN ?_ _ | refine blk_drew ?_ | refine blk_alloc ?_ _)); refine blk_put (cs := #[.int .u8 ((a0_1) % 256), .slice none 0 0]) ?_ 1 _ rfl; (with_reducible repeat (first | refine blk_drewN ?_ _ | refine blk_drew ?_ | refine blk_alloc ?_ _)); refine blk_put (cs := #[.int .u8 x158000_2, .slice none 0 0]) ?_ 0 _ rfl; (with_reducible repeat (first | refine blk_drewN ?_ _ | refine blk_drew ?_ | refine blk_alloc ?_ _)); exact BK157.out) Try.underlying38 rfl (by kernel_rfl)) rfl ?_
                  exact ⟨_, by first | rfl | (simp [errW_none, errW_some] <;> rfl) | (simp [*, errW_none, errW_some] <;> rfl), by (with_reducible repeat (first | apply Kd.R_alloc | apply Kd.R_drewN | apply Kd.R_drew)); exact Kd.R_mono (Kd.R_far (p := ⟨gb157, 1, none⟩) (Kd.R_far (p := ⟨gb157, 0, none⟩) (Kd.R_types HO_162001.out BK157.out (by decide)) (fun _ hk => hk.2) (.int .u8 ((a0_1) % 256))) (fun _ hk => hk.2) (.slice Ao88 x162001_2.length co88)) (fun _ hk => trivial), by repeat (first | (with_reducible first | exact HB.out | apply below_alloc | apply pw_below_drewN | apply below_drew1 | refine below_set ?_ GE156.out | refine below_set ?_ GE157.out | refine below_set ?_ GE161.out) | exact HB.out)⟩
                · rw [if_neg c82] at H
                  have c82b0 : (x6_2.toList == ([] : List UInt8)) = false := beq_eq_false_iff_ne.mpr c82
                  have c82b1 : (x6_2.toList != ([] : List UInt8)) = true := bne_iff_ne.mpr c82
                  simp only [Option.some.injEq, Prod.mk.injEq] at H
                  obtain ⟨rfl, rfl, rfl⟩ := H
                  have hnb89 := NB157_156.out
                  have hnc89 := NB156_157.out
                  have hnb90 := NB157_161.out
                  have hnc90 := NB161_157.out
                  have hcz91_0 : wr.cell? ⟨gb157, 0, none⟩ = some (.int .u8 x158000_2) := (blk_cell BK157.out 0).trans rfl
                  have hcz91_1 : wr.cell? ⟨gb157, 1, none⟩ = some (.slice none 0 0) := (blk_cell BK157.out 1).trans rfl
                  have hfz91_0 := blk_frozen BK157.out 0
                  have hfz91_1 := blk_frozen BK157.out 1
                  go_wp2
                  refine bodyPost_ret (results_ct rfl _ _ gb157 38 #[.int .u8 0, .slice none 0 0] (0, 0) _ rfl (by (with_reducible repeat (first | refine blk_drewN ?_ _ | refine blk_drew ?_ | refine blk_alloc ?_ _)); refine blk_put (cs := #[.int .u8 0, .slice none 0 0]) ?_ 1 _ rfl; (with_reducible repeat (first | refine blk_drewN ?_ _ | refine blk_drew ?_ | refine blk_alloc ?_ _)); refine blk_put (cs := #[.int .u8 x158000_2, .slice none 0 0]) ?_ 0 _ rfl; (with_reducible repeat (first | refine blk_drewN ?_ _ | refine blk_drew ?_ | refine blk_alloc ?_ _)); exact BK157.out) Try.underlying38 rfl (by kernel_rfl)) rfl ?_
                  exact ⟨_, by first | rfl | (simp [errW_none, errW_some] <;> rfl) | (simp [*, errW_none, errW_some] <;> rfl), by first | exact Kd.R_nil _ _ _ _ _ | exact Kd.N_nil _ _ _ _ _ | exact Kd.V_nil _ _ _ _ _ | exact Kd.Q_nil _ _ _ _ _ | exact Kd.S_nil _ _ _ _ _, by repeat (first | (with_reducible first | exact HB.out | apply below_alloc | apply pw_below_drewN | apply below_drew1 | refine below_set ?_ GE156.out | refine below_set ?_ GE157.out | refine below_set ?_ GE161.out) | exact HB.out)⟩

end Go.Proofs.Ytbbinmplkbpcdaa.Pm
