-- PRINTED by print.py (a twelfth state) out of the translation. Not trusted: Lean checks it.
import Derived.Test.YtbbinmplkbpcdaaPr0
import Derived.Test.YtbbinmplkbpcdaaPr3
import Derived.Test.YtbbinmplkbpcdaaPr4
import Derived.Test.YtbbinmplkbpcdaaPr5
import Derived.Test.YtbbinmplkbpcdaaPr6
import Derived.Test.YtbbinmplkbpcdaaPr7
namespace Go.Proofs.Ytbbinmplkbpcdaa.Pr
open Go.RowKit Go.Proofs.YtbbinmplkbpcdaaW.PrintWords Go.Proofs.YtbbinmplkbpcdaaW.PrintLast Go.Proofs.YtbbinmplkbpcdaaW.PrintMore
attribute [local go_sem] max2_int min2_int max_two min_two max_three min_three max_four min_four   -- for this text's walks alone
set_option linter.unusedVariables false
set_option linter.unusedSimpArgs false

/-! ### windhoverlaw04_FrameFeeds: function 9 -/
mutual
def windhoverlaw04_FrameFeeds.l0 : Nat → List ByteArray → List Int → Int → Int → ByteArray → Int → Option (Bool)
  | 0, _, _, _, _, _, _ => none
  | k + 1, x0, x4, x5, x6, x176000, x176001 => if x6 < (x0.length : Int) then (windhoverlaw04_FrameFeeds.j1 k x0 x4 x5 x6 (decide ((x4.length : Int) < 65536)) x176000 x176001) else (windhoverlaw04_FrameFeeds.j1 k x0 x4 x5 x6 false x176000 x176001)
def windhoverlaw04_FrameFeeds.j1 : Nat → List ByteArray → List Int → Int → Int → Bool → ByteArray → Int → Option (Bool)
  | 0, _, _, _, _, _, _, _ => none
  | k + 1, x0, x4, x5, x6, x24, x176000, x176001 => if x24 = true then (if 0 ≤ x6 then (if x6 < (x0.length : Int) then ((frame_Reader_Feed.f k x176000 x176001 (rdOf ByteArray.empty x0 x6)).bind fun bt178 => (if x4.length + (rdOf ByteArray.empty x0 x6).size < 140737488355328 then ((some (x4 ++ bytesOf (rdOf ByteArray.empty x0 x6) : List Int)).bind fun y184 => ((windhoverref04_Read.f k (strOfNums y184)).bind fun bt187 => (if x5 > (bt187.1.length : Int) then (windhoverlaw04_FrameFeeds.j2 k x0 y184 x6 bt178.1 bt187.1 true bt178.2.1 bt178.2.2) else (if 0 ≤ x5 then (if x5 ≤ (bt187.1.length : Int) then ((windhoverref04_Same.f k bt178.1 (bt187.1.drop (x5 : Int).toNat)).bind fun t196 => (if t196 = true then ((frame_Reader_Bad.f bt178.2.1 bt178.2.2).bind fun bt197 => (if bt197.1 = (mn bt187.2.1 65535) then ((frame_Reader_Held.f bt197.2.1 bt197.2.2).bind fun bt200 => (windhoverlaw04_FrameFeeds.j2 k x0 y184 x6 bt178.1 bt187.1 (bt200.1 != bt187.2.2) bt200.2.1 bt200.2.2)) else (windhoverlaw04_FrameFeeds.j2 k x0 y184 x6 bt178.1 bt187.1 true bt197.2.1 bt197.2.2))) else (windhoverlaw04_FrameFeeds.j2 k x0 y184 x6 bt178.1 bt187.1 true bt178.2.1 bt178.2.2))) else (none)) else (none))))) else (none))) else (none)) else (none)) else ((windhoverlaw04_awake.f).bind fun t176 => (some t176))
def windhoverlaw04_FrameFeeds.j2 : Nat → List ByteArray → List Int → Int → List (S45) → List (S45) → Bool → ByteArray → Int → Option (Bool)
  | 0, _, _, _, _, _, _, _, _ => none
  | k + 1, x0, x4, x6, x7, x8, x70, x176000, x176001 => if x70 = true then (some false) else (windhoverlaw04_FrameFeeds.l1 k x0 x4 (x8.length : Int) x6 x7 0 x176000 x176001)
def windhoverlaw04_FrameFeeds.l1 : Nat → List ByteArray → List Int → Int → Int → List (S45) → Int → ByteArray → Int → Option (Bool)
  | 0, _, _, _, _, _, _, _, _ => none
  | k + 1, x0, x4, x5, x6, x7, x11, x176000, x176001 => if x11 < (x7.length : Int) then (if 0 ≤ x11 then (windhoverlaw04_FrameFeeds.l1 k x0 x4 x5 x6 (x7.set (x11 : Int).toNat (⟨(-7), 0, (⟨#[]⟩ : ByteArray)⟩ : S45)) (wrap64 (x11 + 1)) x176000 x176001) else (none)) else (windhoverlaw04_FrameFeeds.l2 k x0 x4 x5 x6 x7 0 x176000 x176001)
def windhoverlaw04_FrameFeeds.l2 : Nat → List ByteArray → List Int → Int → Int → List (S45) → Int → ByteArray → Int → Option (Bool)
  | 0, _, _, _, _, _, _, _, _ => none
  | k + 1, x0, x4, x5, x6, x7, x12, x176000, x176001 => if x12 < 9 then (if x7.length < 4398046511104 then (windhoverlaw04_FrameFeeds.l2 k x0 x4 x5 x6 (x7 ++ [(⟨(-8), 0, (⟨#[]⟩ : ByteArray)⟩ : S45)]) (wrap64 (x12 + 1)) x176000 x176001) else (none)) else (windhoverlaw04_FrameFeeds.l0 k x0 x4 x5 (wrap64 (x6 + 1)) x176000 x176001)
end
def windhoverlaw04_FrameFeeds.f (k : Nat) (l0 : List ByteArray) : Option (Bool) := (frame_New.f).bind fun bt173 => (windhoverlaw04_FrameFeeds.l0 k l0 ([] : List Int) 0 0 bt173.1 bt173.2)
theorem windhoverlaw04_FrameFeeds.mono_l : ∀ k, (∀ y0 y1 y2 y3 y4 y5, LeO (windhoverlaw04_FrameFeeds.l0 k y0 y1 y2 y3 y4 y5) (windhoverlaw04_FrameFeeds.l0 (k + 1) y0 y1 y2 y3 y4 y5)) ∧ (∀ y0 y1 y2 y3 y4 y5 y6, LeO (windhoverlaw04_FrameFeeds.j1 k y0 y1 y2 y3 y4 y5 y6) (windhoverlaw04_FrameFeeds.j1 (k + 1) y0 y1 y2 y3 y4 y5 y6)) ∧ (∀ y0 y1 y2 y3 y4 y5 y6 y7, LeO (windhoverlaw04_FrameFeeds.j2 k y0 y1 y2 y3 y4 y5 y6 y7) (windhoverlaw04_FrameFeeds.j2 (k + 1) y0 y1 y2 y3 y4 y5 y6 y7)) ∧ (∀ y0 y1 y2 y3 y4 y5 y6 y7, LeO (windhoverlaw04_FrameFeeds.l1 k y0 y1 y2 y3 y4 y5 y6 y7) (windhoverlaw04_FrameFeeds.l1 (k + 1) y0 y1 y2 y3 y4 y5 y6 y7)) ∧ (∀ y0 y1 y2 y3 y4 y5 y6 y7, LeO (windhoverlaw04_FrameFeeds.l2 k y0 y1 y2 y3 y4 y5 y6 y7) (windhoverlaw04_FrameFeeds.l2 (k + 1) y0 y1 y2 y3 y4 y5 y6 y7))
  | 0 => ⟨fun _ _ _ _ _ _ r h => by simp [windhoverlaw04_FrameFeeds.l0] at h, fun _ _ _ _ _ _ _ r h => by simp [windhoverlaw04_FrameFeeds.j1] at h, fun _ _ _ _ _ _ _ _ r h => by simp [windhoverlaw04_FrameFeeds.j2] at h, fun _ _ _ _ _ _ _ _ r h => by simp [windhoverlaw04_FrameFeeds.l1] at h, fun _ _ _ _ _ _ _ _ r h => by simp [windhoverlaw04_FrameFeeds.l2] at h⟩
  | k + 1 => by
    obtain ⟨ih0, ih1, ih2, ih3, ih4⟩ := windhoverlaw04_FrameFeeds.mono_l k
    refine ⟨?_, ?_, ?_, ?_, ?_⟩
    · intro y0 y1 y2 y3 y4 y5
      unfold windhoverlaw04_FrameFeeds.l0
      repeat' first
      | (with_reducible exact ih0 _ _ _ _ _ _)
      | (with_reducible exact ih1 _ _ _ _ _ _ _)
      | (with_reducible exact ih2 _ _ _ _ _ _ _ _)
      | (with_reducible exact ih3 _ _ _ _ _ _ _ _)
      | (with_reducible exact ih4 _ _ _ _ _ _ _ _)
      | (with_reducible exact frame_Reader_Feed.mono _ _ _ _)
      | (with_reducible exact windhoverref04_Read.mono _ _)
      | (with_reducible exact windhoverref04_Same.mono _ _ _)
      | (with_reducible exact LeO.refl _)
      | (with_reducible exact LeO.none _)
      | (with_reducible refine LeO.ite ?_ ?_)
      | (with_reducible refine LeO.bind ?_ (fun _ => ?_))
      | exact ih0 _ _ _ _ _ _
      | exact ih1 _ _ _ _ _ _ _
      | exact ih2 _ _ _ _ _ _ _ _
      | exact ih3 _ _ _ _ _ _ _ _
      | exact ih4 _ _ _ _ _ _ _ _
      | exact frame_Reader_Feed.mono _ _ _ _
      | exact windhoverref04_Read.mono _ _
      | exact windhoverref04_Same.mono _ _ _
      | exact LeO.none _
      | refine LeO.ite ?_ ?_
      | refine LeO.bind ?_ (fun _ => ?_)
    · intro y0 y1 y2 y3 y4 y5 y6
      unfold windhoverlaw04_FrameFeeds.j1
      repeat' first
      | (with_reducible exact ih0 _ _ _ _ _ _)
      | (with_reducible exact ih1 _ _ _ _ _ _ _)
      | (with_reducible exact ih2 _ _ _ _ _ _ _ _)
      | (with_reducible exact ih3 _ _ _ _ _ _ _ _)
      | (with_reducible exact ih4 _ _ _ _ _ _ _ _)
      | (with_reducible exact frame_Reader_Feed.mono _ _ _ _)
      | (with_reducible exact windhoverref04_Read.mono _ _)
      | (with_reducible exact windhoverref04_Same.mono _ _ _)
      | (with_reducible exact LeO.refl _)
      | (with_reducible exact LeO.none _)
      | (with_reducible refine LeO.ite ?_ ?_)
      | (with_reducible refine LeO.bind ?_ (fun _ => ?_))
      | exact ih0 _ _ _ _ _ _
      | exact ih1 _ _ _ _ _ _ _
      | exact ih2 _ _ _ _ _ _ _ _
      | exact ih3 _ _ _ _ _ _ _ _
      | exact ih4 _ _ _ _ _ _ _ _
      | exact frame_Reader_Feed.mono _ _ _ _
      | exact windhoverref04_Read.mono _ _
      | exact windhoverref04_Same.mono _ _ _
      | exact LeO.none _
      | refine LeO.ite ?_ ?_
      | refine LeO.bind ?_ (fun _ => ?_)
    · intro y0 y1 y2 y3 y4 y5 y6 y7
      unfold windhoverlaw04_FrameFeeds.j2
      repeat' first
      | (with_reducible exact ih0 _ _ _ _ _ _)
      | (with_reducible exact ih1 _ _ _ _ _ _ _)
      | (with_reducible exact ih2 _ _ _ _ _ _ _ _)
      | (with_reducible exact ih3 _ _ _ _ _ _ _ _)
      | (with_reducible exact ih4 _ _ _ _ _ _ _ _)
      | (with_reducible exact frame_Reader_Feed.mono _ _ _ _)
      | (with_reducible exact windhoverref04_Read.mono _ _)
      | (with_reducible exact windhoverref04_Same.mono _ _ _)
      | (with_reducible exact LeO.refl _)
      | (with_reducible exact LeO.none _)
      | (with_reducible refine LeO.ite ?_ ?_)
      | (with_reducible refine LeO.bind ?_ (fun _ => ?_))
      | exact ih0 _ _ _ _ _ _
      | exact ih1 _ _ _ _ _ _ _
      | exact ih2 _ _ _ _ _ _ _ _
      | exact ih3 _ _ _ _ _ _ _ _
      | exact ih4 _ _ _ _ _ _ _ _
      | exact frame_Reader_Feed.mono _ _ _ _
      | exact windhoverref04_Read.mono _ _
      | exact windhoverref04_Same.mono _ _ _
      | exact LeO.none _
      | refine LeO.ite ?_ ?_
      | refine LeO.bind ?_ (fun _ => ?_)
    · intro y0 y1 y2 y3 y4 y5 y6 y7
      unfold windhoverlaw04_FrameFeeds.l1
      repeat' first
      | (with_reducible exact ih0 _ _ _ _ _ _)
      | (with_reducible exact ih1 _ _ _ _ _ _ _)
      | (with_reducible exact ih2 _ _ _ _ _ _ _ _)
      | (with_reducible exact ih3 _ _ _ _ _ _ _ _)
      | (with_reducible exact ih4 _ _ _ _ _ _ _ _)
      | (with_reducible exact frame_Reader_Feed.mono _ _ _ _)
      | (with_reducible exact windhoverref04_Read.mono _ _)
      | (with_reducible exact windhoverref04_Same.mono _ _ _)
      | (with_reducible exact LeO.refl _)
      | (with_reducible exact LeO.none _)
      | (with_reducible refine LeO.ite ?_ ?_)
      | (with_reducible refine LeO.bind ?_ (fun _ => ?_))
      | exact ih0 _ _ _ _ _ _
      | exact ih1 _ _ _ _ _ _ _
      | exact ih2 _ _ _ _ _ _ _ _
      | exact ih3 _ _ _ _ _ _ _ _
      | exact ih4 _ _ _ _ _ _ _ _
      | exact frame_Reader_Feed.mono _ _ _ _
      | exact windhoverref04_Read.mono _ _
      | exact windhoverref04_Same.mono _ _ _
      | exact LeO.none _
      | refine LeO.ite ?_ ?_
      | refine LeO.bind ?_ (fun _ => ?_)
    · intro y0 y1 y2 y3 y4 y5 y6 y7
      unfold windhoverlaw04_FrameFeeds.l2
      repeat' first
      | (with_reducible exact ih0 _ _ _ _ _ _)
      | (with_reducible exact ih1 _ _ _ _ _ _ _)
      | (with_reducible exact ih2 _ _ _ _ _ _ _ _)
      | (with_reducible exact ih3 _ _ _ _ _ _ _ _)
      | (with_reducible exact ih4 _ _ _ _ _ _ _ _)
      | (with_reducible exact frame_Reader_Feed.mono _ _ _ _)
      | (with_reducible exact windhoverref04_Read.mono _ _)
      | (with_reducible exact windhoverref04_Same.mono _ _ _)
      | (with_reducible exact LeO.refl _)
      | (with_reducible exact LeO.none _)
      | (with_reducible refine LeO.ite ?_ ?_)
      | (with_reducible refine LeO.bind ?_ (fun _ => ?_))
      | exact ih0 _ _ _ _ _ _
      | exact ih1 _ _ _ _ _ _ _
      | exact ih2 _ _ _ _ _ _ _ _
      | exact ih3 _ _ _ _ _ _ _ _
      | exact ih4 _ _ _ _ _ _ _ _
      | exact frame_Reader_Feed.mono _ _ _ _
      | exact windhoverref04_Read.mono _ _
      | exact windhoverref04_Same.mono _ _ _
      | exact LeO.none _
      | refine LeO.ite ?_ ?_
      | refine LeO.bind ?_ (fun _ => ?_)
theorem windhoverlaw04_FrameFeeds.mono : ∀ a0 k, LeO (windhoverlaw04_FrameFeeds.f k a0) (windhoverlaw04_FrameFeeds.f (k + 1) a0) := by
  intro a0 k
  obtain ⟨ih0, ih1, ih2, ih3, ih4⟩ := windhoverlaw04_FrameFeeds.mono_l k
  unfold windhoverlaw04_FrameFeeds.f
  repeat' first
      | (with_reducible exact ih0 _ _ _ _ _ _)
      | (with_reducible exact ih1 _ _ _ _ _ _ _)
      | (with_reducible exact ih2 _ _ _ _ _ _ _ _)
      | (with_reducible exact ih3 _ _ _ _ _ _ _ _)
      | (with_reducible exact ih4 _ _ _ _ _ _ _ _)
      | (with_reducible exact frame_Reader_Feed.mono _ _ _ _)
      | (with_reducible exact windhoverref04_Read.mono _ _)
      | (with_reducible exact windhoverref04_Same.mono _ _ _)
      | (with_reducible exact LeO.refl _)
      | (with_reducible exact LeO.none _)
      | (with_reducible refine LeO.ite ?_ ?_)
      | (with_reducible refine LeO.bind ?_ (fun _ => ?_))
      | exact ih0 _ _ _ _ _ _
      | exact ih1 _ _ _ _ _ _ _
      | exact ih2 _ _ _ _ _ _ _ _
      | exact ih3 _ _ _ _ _ _ _ _
      | exact ih4 _ _ _ _ _ _ _ _
      | exact frame_Reader_Feed.mono _ _ _ _
      | exact windhoverref04_Read.mono _ _
      | exact windhoverref04_Same.mono _ _ _
      | exact LeO.none _
      | refine LeO.ite ?_ ?_
      | refine LeO.bind ?_ (fun _ => ?_)
set_option maxHeartbeats 8000000 in
set_option maxRecDepth 100000 in
theorem windhoverlaw04_FrameFeeds.calls (k : Nat) (A0 : Option Addr) (c0 : Nat) (l0 : List ByteArray) (r : Bool) (w : World) (hr0 : Kd.C Kd.string w A0 l0.length l0) (hc0 : l0.length ≤ c0) (h : windhoverlaw04_FrameFeeds.f k l0 = some r) :
    Calls Try.prog 9 #[.slice A0 l0.length c0] w fun e w' => e = .returned (.bool r) ∧ Below w.heap.size w w' := by
  have hu45 := Try.underlying45
  have HR0 := Aside0.mk hr0
  have HC0 := Aside0.mk hc0
  clear hr0 hc0
  have HB := Aside0.mk (Below.refl w.heap.size w)
  have H : ((frame_New.f).bind fun bt173 => (windhoverlaw04_FrameFeeds.l0 k l0 ([] : List Int) 0 0 bt173.1 bt173.2)) = some r := h
  clear h
  replace H := Option.bind_eq_some_iff.mp H
  obtain ⟨⟨t173, t174⟩, A20, H⟩ := H
  replace H : (windhoverlaw04_FrameFeeds.l0 k l0 ([] : List Int) 0 0 t173 t174) = some r := H
  have A2 := Aside0.mk A20
  clear A20
  have H' := Aside0.mk H
  clear H
  go_enter Try.func9, Try.ntmps9
  go_wp2_with (first | ((with_reducible refine gate_callee (f := 45) rfl ?_); refine goesL_ (some 13) rfl rfl Try.func45 (by kernel_rfl) rfl #[] rfl (by (try simp only [List.map_toArray, List.map_cons, List.map_nil]); first | done | rfl | (simp only [List.length_drop, List.length_take]; rfl)) ?_; (with_reducible refine (frame_New.calls  t173 t174 w _ ?side1 A2.out).mono ?_); (case side1 => repeat (first | (with_reducible first | exact HB.out | apply below_alloc | apply pw_below_drewN | apply below_drew1) | exact HB.out)); rintro e w3 ⟨g175, rfl, hi, hb, hb2⟩; refine ⟨_, rfl, ?_⟩; have n0_ := Aside0.mk (hb); have n1_ := Aside0.mk (hi); clear HB; have HB := n0_; have HI175 := n1_; clear n0_ n1_; (try clear hb); (try clear hb2); (try clear hk); (try clear hi)))
  go_loopg [4, 5, 6] k (fun kq v4 v5 v6 w' => ∃ (x4_1 : List Int) (x5_1 : Int) (x6_1 : Int) (x176000_1 : ByteArray) (x176001_1 : Int), v5 = .int .i64 x5_1 ∧ v6 = .int .i64 x6_1 ∧ Aside0 (windhoverlaw04_FrameFeeds.l0 kq l0 x4_1 x5_1 x6_1 x176000_1 x176001_1 = some r) ∧ Aside0 (kq ≤ k) ∧ Aside0 (Kd.R (Kd.int .u8) 5 w' w.heap.size (fun _ => True) v4 x4_1) ∧ Aside0 (IsS120 w w' g175 x176000_1 x176001_1) ∧ Aside0 (Below w.heap.size w w'))
  case atStart => exact ⟨(([] : List Int)), (0), (0), (t173), (t174), (by first | rfl | (simp; done) | (simp [*]; done)), (by first | rfl | (simp; done) | (simp [*]; done)), H', ⟨Nat.le_refl _⟩, ⟨by first | exact Kd.R_nil _ _ _ _ _ | exact Kd.N_nil _ _ _ _ _ | exact Kd.V_nil _ _ _ _ _ | exact Kd.Q_nil _ _ _ _ _ | exact Kd.S_nil _ _ _ _ _⟩, ⟨by repeat (first | (with_reducible first | exact HI175.out | apply IsS120.alloc | apply IsS120.drewN | apply IsS120.drew | apply IsS120.set_0 | apply IsS120.set_1) | exact HI175.out)⟩, ⟨by repeat (first | (with_reducible first | exact HB.out | apply below_alloc | apply pw_below_drewN | apply below_drew1 | refine below_set ?_ (IsS120.ge HI175.out)) | exact HB.out)⟩⟩
  case round =>
    clear H'
    try clear p2
    obtain ⟨x4_1, x5_1, x6_1, x176000_1, x176001_1, rfl, rfl, HA, HK1, HO_4, HI175, HB⟩ := hrel
    cases gk with
    | zero => exact absurd HA.out (by simp [windhoverlaw04_FrameFeeds.l0])
    | succ k1 =>
      have H := HA.out
      clear HA
      simp only [windhoverlaw04_FrameFeeds.l0] at H
      have HC4 := Aside0.mk H
      clear H
      go_upto_region 7 with (fail)
      go_cut [24] (fun v24 wc => ∃ (kq : Nat) (x24_3 : Bool), v24 = .bool x24_3 ∧ Aside0 (windhoverlaw04_FrameFeeds.j1 kq l0 x4_1 x5_1 x6_1 x24_3 x176000_1 x176001_1 = some r) ∧ Aside0 (kq ≤ k1) ∧ Aside0 (Kd.R (Kd.int .u8) 5 wc w.heap.size (fun _ => True) u4 x4_1) ∧ Aside0 (IsS120 w wc g175 x176000_1 x176001_1) ∧ Aside0 (Below w.heap.size w wc))
      case first =>
        have H := HC4.out
        clear HC4
        by_cases c5 : x6_1 < (l0.length : Int)
        · rw [if_pos c5] at H
          have c5b0 : decide (x6_1 < (l0.length : Int)) = true := decide_eq_true c5
          clear c5
          (first | rw [c5b0] | (simp only [i64_w, i32_w]; rw [c5b0]) | skip)
          have H' := Aside0.mk H
          clear H
          obtain ⟨Ao6, co6, eo6⟩ := Kd.R_slice HO_4.out
          subst eo6
          go_wp2
          go_meet
          case rel => exact ⟨_, (decide ((x4_1.length : Int) < 65536)), (by first | rfl | (simp; done) | (simp [*]; done)), H', ⟨by have := HK1.out; first | omega | exact Nat.le_refl _⟩, ⟨by (with_reducible repeat (first | apply Kd.R_alloc | apply Kd.R_drewN | apply Kd.R_drew)); exact HO_4.out⟩, ⟨by repeat (first | (with_reducible first | exact HI175.out | apply IsS120.alloc | apply IsS120.drewN | apply IsS120.drew | apply IsS120.set_0 | apply IsS120.set_1) | exact HI175.out)⟩, ⟨by repeat (first | (with_reducible first | exact HB.out | apply below_alloc | apply pw_below_drewN | apply below_drew1 | refine below_set ?_ (IsS120.ge HI175.out)) | exact HB.out)⟩⟩
        · rw [if_neg c5] at H
          have c5b0 : decide (x6_1 < (l0.length : Int)) = false := decide_eq_false c5
          clear c5
          (first | rw [c5b0] | (simp only [i64_w, i32_w]; rw [c5b0]) | skip)
          have H' := Aside0.mk H
          clear H
          go_wp2
          go_meet
          case rel => exact ⟨_, (false), (by first | rfl | (simp; done) | (simp [*]; done)), H', ⟨by have := HK1.out; first | omega | exact Nat.le_refl _⟩, ⟨by (with_reducible repeat (first | apply Kd.R_alloc | apply Kd.R_drewN | apply Kd.R_drew)); exact HO_4.out⟩, ⟨by repeat (first | (with_reducible first | exact HI175.out | apply IsS120.alloc | apply IsS120.drewN | apply IsS120.drew | apply IsS120.set_0 | apply IsS120.set_1) | exact HI175.out)⟩, ⟨by repeat (first | (with_reducible first | exact HB.out | apply below_alloc | apply pw_below_drewN | apply below_drew1 | refine below_set ?_ (IsS120.ge HI175.out)) | exact HB.out)⟩⟩
      case rest =>
        clear HC4
        try clear p2
        try clear c4
        try clear c5
        try clear c5b0
        try clear p2
        obtain ⟨kq, x24_3, rfl, HA, HJ3, HO_4, HI175, HB⟩ := hcut
        cases kq with
        | zero => exact absurd HA.out (by simp [windhoverlaw04_FrameFeeds.j1])
        | succ kj3 =>
          have H := HA.out
          clear HA
          simp only [windhoverlaw04_FrameFeeds.j1] at H
          by_cases c7 : x24_3 = true
          · subst c7
            have H1 : (if 0 ≤ x6_1 then (if x6_1 < (l0.length : Int) then ((frame_Reader_Feed.f kj3 x176000_1 x176001_1 (rdOf ByteArray.empty l0 x6_1)).bind fun bt178 => (if x4_1.length + (rdOf ByteArray.empty l0 x6_1).size < 140737488355328 then ((some (x4_1 ++ bytesOf (rdOf ByteArray.empty l0 x6_1) : List Int)).bind fun y184 => ((windhoverref04_Read.f kj3 (strOfNums y184)).bind fun bt187 => (if x5_1 > (bt187.1.length : Int) then (windhoverlaw04_FrameFeeds.j2 kj3 l0 y184 x6_1 bt178.1 bt187.1 true bt178.2.1 bt178.2.2) else (if 0 ≤ x5_1 then (if x5_1 ≤ (bt187.1.length : Int) then ((windhoverref04_Same.f kj3 bt178.1 (bt187.1.drop (x5_1 : Int).toNat)).bind fun t196 => (if t196 = true then ((frame_Reader_Bad.f bt178.2.1 bt178.2.2).bind fun bt197 => (if bt197.1 = (mn bt187.2.1 65535) then ((frame_Reader_Held.f bt197.2.1 bt197.2.2).bind fun bt200 => (windhoverlaw04_FrameFeeds.j2 kj3 l0 y184 x6_1 bt178.1 bt187.1 (bt200.1 != bt187.2.2) bt200.2.1 bt200.2.2)) else (windhoverlaw04_FrameFeeds.j2 kj3 l0 y184 x6_1 bt178.1 bt187.1 true bt197.2.1 bt197.2.2))) else (windhoverlaw04_FrameFeeds.j2 kj3 l0 y184 x6_1 bt178.1 bt187.1 true bt178.2.1 bt178.2.2))) else (none)) else (none))))) else (none))) else (none)) else (none)) = some r := by rw [if_pos rfl] at H; exact H
            clear H
            have H := H1
            clear H1
            by_cases c8 : 0 ≤ x6_1
            · rw [if_pos c8] at H
              have c8b0 : decide (0 ≤ x6_1) = true := decide_eq_true c8
              clear c8
              by_cases c9 : x6_1 < (l0.length : Int)
              · rw [if_pos c9] at H
                have c9b0 : decide (x6_1 < (l0.length : Int)) = true := decide_eq_true c9
                clear c9
                replace H := Option.bind_eq_some_iff.mp H
                obtain ⟨⟨t178, t181, t182⟩, A100, H⟩ := H
                replace H : (if x4_1.length + (rdOf ByteArray.empty l0 x6_1).size < 140737488355328 then ((some (x4_1 ++ bytesOf (rdOf ByteArray.empty l0 x6_1) : List Int)).bind fun y184 => ((windhoverref04_Read.f kj3 (strOfNums y184)).bind fun bt187 => (if x5_1 > (bt187.1.length : Int) then (windhoverlaw04_FrameFeeds.j2 kj3 l0 y184 x6_1 t178 bt187.1 true t181 t182) else (if 0 ≤ x5_1 then (if x5_1 ≤ (bt187.1.length : Int) then ((windhoverref04_Same.f kj3 t178 (bt187.1.drop (x5_1 : Int).toNat)).bind fun t196 => (if t196 = true then ((frame_Reader_Bad.f t181 t182).bind fun bt197 => (if bt197.1 = (mn bt187.2.1 65535) then ((frame_Reader_Held.f bt197.2.1 bt197.2.2).bind fun bt200 => (windhoverlaw04_FrameFeeds.j2 kj3 l0 y184 x6_1 t178 bt187.1 (bt200.1 != bt187.2.2) bt200.2.1 bt200.2.2)) else (windhoverlaw04_FrameFeeds.j2 kj3 l0 y184 x6_1 t178 bt187.1 true bt197.2.1 bt197.2.2))) else (windhoverlaw04_FrameFeeds.j2 kj3 l0 y184 x6_1 t178 bt187.1 true t181 t182))) else (none)) else (none))))) else (none)) = some r := H
                have A10 := Aside0.mk A100
                clear A100
                by_cases c11 : x4_1.length + (rdOf ByteArray.empty l0 x6_1).size < 140737488355328
                · rw [if_pos c11] at H
                  have LMc11 := Aside0.mk c11
                  clear c11
                  obtain ⟨y184, hy184⟩ : ∃ y_ : List Int, y_ = (x4_1 ++ bytesOf (rdOf ByteArray.empty l0 x6_1)) := ⟨_, rfl⟩
                  replace H : ((windhoverref04_Read.f kj3 (strOfNums y184)).bind fun bt187 => (if x5_1 > (bt187.1.length : Int) then (windhoverlaw04_FrameFeeds.j2 kj3 l0 y184 x6_1 t178 bt187.1 true t181 t182) else (if 0 ≤ x5_1 then (if x5_1 ≤ (bt187.1.length : Int) then ((windhoverref04_Same.f kj3 t178 (bt187.1.drop (x5_1 : Int).toNat)).bind fun t196 => (if t196 = true then ((frame_Reader_Bad.f t181 t182).bind fun bt197 => (if bt197.1 = (mn bt187.2.1 65535) then ((frame_Reader_Held.f bt197.2.1 bt197.2.2).bind fun bt200 => (windhoverlaw04_FrameFeeds.j2 kj3 l0 y184 x6_1 t178 bt187.1 (bt200.1 != bt187.2.2) bt200.2.1 bt200.2.2)) else (windhoverlaw04_FrameFeeds.j2 kj3 l0 y184 x6_1 t178 bt187.1 true bt197.2.1 bt197.2.2))) else (windhoverlaw04_FrameFeeds.j2 kj3 l0 y184 x6_1 t178 bt187.1 true t181 t182))) else (none)) else (none)))) = some r := by first | (rw [hy184]; with_reducible exact H) | (have H2_ := (Option.bind_some _ _).symm.trans H; rw [hy184]; with_reducible exact H2_) | (have H2_ := (Option.bind_some _ _).symm.trans H; with_reducible exact H2_) | with_reducible exact H | (rw [hy184]; exact H) | exact H
                  have Ny184 := Aside0.mk hy184
                  clear hy184
                  replace H := Option.bind_eq_some_iff.mp H
                  obtain ⟨⟨t187, t188, t189⟩, A120, H⟩ := H
                  replace H : (if x5_1 > (t187.length : Int) then (windhoverlaw04_FrameFeeds.j2 kj3 l0 y184 x6_1 t178 t187 true t181 t182) else (if 0 ≤ x5_1 then (if x5_1 ≤ (t187.length : Int) then ((windhoverref04_Same.f kj3 t178 (t187.drop (x5_1 : Int).toNat)).bind fun t196 => (if t196 = true then ((frame_Reader_Bad.f t181 t182).bind fun bt197 => (if bt197.1 = (mn t188 65535) then ((frame_Reader_Held.f bt197.2.1 bt197.2.2).bind fun bt200 => (windhoverlaw04_FrameFeeds.j2 kj3 l0 y184 x6_1 t178 t187 (bt200.1 != t189) bt200.2.1 bt200.2.2)) else (windhoverlaw04_FrameFeeds.j2 kj3 l0 y184 x6_1 t178 t187 true bt197.2.1 bt197.2.2))) else (windhoverlaw04_FrameFeeds.j2 kj3 l0 y184 x6_1 t178 t187 true t181 t182))) else (none)) else (none))) = some r := H
                  have A12 := Aside0.mk A120
                  clear A120
                  have HC13 := Aside0.mk H
                  clear H
                  have p177 : 0 ≤ (x6_1 : Int) := of_decide_eq_true (by first | (with_reducible assumption) | assumption)
                  have q177 : x6_1 < (l0.length : Int) := of_decide_eq_true (by first | (with_reducible assumption) | assumption)
                  obtain ⟨ad177, e177, hx177_0⟩ := Kd.at_string HR0.out x6_1 p177 q177
                  cases e177
                  replace hx177_0 := (HB.out.cell (World.block_lt_of_cell? w _ hx177_0)).trans hx177_0
                  replace p177 := eq_true p177
                  replace q177 := eq_true q177
                  go_upto_region 12 with (first | ((with_reducible refine gate_callee (f := 46) rfl ?_); refine goesL_ (some 32) rfl rfl Try.func46 (by kernel_rfl) rfl #[.pointer (some ⟨g175, 0, none⟩), .string (rdOf ByteArray.empty l0 x6_1)] rfl (by (try simp only [List.map_toArray, List.map_cons, List.map_nil]); first | done | rfl | (simp only [List.length_drop, List.length_take]; rfl)) ?_; (with_reducible refine (frame_Reader_Feed.calls kj3 g175 x176000_1 x176001_1 (rdOf ByteArray.empty l0 x6_1) t178 t181 t182 w _ ?side1 ?side2 A10.out).mono ?_); (case side1 => repeat (first | (with_reducible first | exact HI175.out | apply IsS120.alloc | apply IsS120.drewN | apply IsS120.drew | apply IsS120.set_0 | apply IsS120.set_1) | exact HI175.out)); (case side2 => repeat (first | (with_reducible first | exact HB.out | apply below_alloc | apply pw_below_drewN | apply below_drew1 | refine below_set ?_ (IsS120.ge HI175.out)) | exact HB.out)); rintro e w14 ⟨v179, rfl, ho0, hi, hb, hk⟩; refine ⟨_, rfl, ?_⟩; have n0_ := Aside0.mk (Kd.R_mono (Kd.R_keep (IsS120.apart (show IsS120 w _ g175 x176000_1 x176001_1 from by repeat (first | (with_reducible first | exact HI175.out | apply IsS120.alloc | apply IsS120.drewN | apply IsS120.drew | apply IsS120.set_0 | apply IsS120.set_1) | exact HI175.out)) (by (with_reducible repeat (first | apply Kd.R_alloc | apply Kd.R_drewN | apply Kd.R_drew)); exact HO_4.out) (by decide)) hk (fun _ h => h.2)) (fun _ h => h.1)); have n1_ := Aside0.mk (Kd.R_lower ho0 (below_size (by repeat (first | (with_reducible first | exact HB.out | apply below_alloc | apply pw_below_drewN | apply below_drew1 | refine below_set ?_ (IsS120.ge HI175.out)) | exact HB.out)))); have n2_ := Aside0.mk (hb); have n3_ := Aside0.mk (hi); clear HO_4; clear HB; clear HI175; have HO_4 := n0_; have HO180 := n1_; have HB := n2_; have HI175 := n3_; clear n0_ n1_ n2_ n3_; (try clear hb); (try clear hb2); (try clear hk); (try clear hi); (try clear ho0); have p183 : 0 ≤ (x6_1 : Int) := of_decide_eq_true (by first | (with_reducible assumption) | assumption); have q183 : x6_1 < (l0.length : Int) := of_decide_eq_true (by first | (with_reducible assumption) | assumption); obtain ⟨ad183, e183, hx183_0⟩ := Kd.at_string HR0.out x6_1 p183 q183; obtain rfl : ad177 = ad183 := (by injection e183); replace hx183_0 := (HB.out.cell (World.block_lt_of_cell? w _ hx183_0)).trans hx183_0; replace p183 := eq_true p183; replace q183 := eq_true q183) | (at_builtin; refine print_append_str (w0 := w) w.heap.size rfl (.tmp 33) _ 70 9 5 rfl Try.underlying70 Try.underlying9 info5 u4 x4_1 (rdOf ByteArray.empty l0 x6_1) rfl rfl ?aO ?aB ?aS ?aL ?_; (case aB => exact (by repeat (first | (with_reducible first | exact HB.out | apply below_alloc | apply pw_below_drewN | apply below_drew1 | refine below_set ?_ (IsS120.ge HI175.out)) | exact HB.out))); (case aO => exact (Kd.own_of_R (by (with_reducible repeat (first | apply Kd.R_alloc | apply Kd.R_drewN | apply Kd.R_drew)); exact HO_4.out))); (case aS => exact (below_size (by repeat (first | (with_reducible first | exact HB.out | apply below_alloc | apply pw_below_drewN | apply below_drew1 | refine below_set ?_ (IsS120.ge HI175.out)) | exact HB.out)))); (case aL => have := LMc11.out; omega); intro v185 w15 ho0 hb hg; have ho := Kd.R_of_own (h1 := fun _ => rfl) (ok := fun _ => True) ho0 (fun _ _ => trivial); clear ho0; have hat := True.intro; rw [← Ny184.out] at ho; change Kd.R (Kd.int .u8) 5 w15 w.heap.size (fun _ => True) v185 y184 at ho; have n0_ := Aside0.mk (IsS120.grown (by repeat (first | (with_reducible first | exact HI175.out | apply IsS120.alloc | apply IsS120.drewN | apply IsS120.drew | apply IsS120.set_0 | apply IsS120.set_1) | exact HI175.out)) hg (IsS120.own_ne HI175.out HO_4.out (by decide))); have n1_ := Aside0.mk (Kd.R_over' (by (with_reducible repeat (first | apply Kd.R_alloc | apply Kd.R_drewN | apply Kd.R_drew)); exact HO180.out) (Kd.R_typed (by (with_reducible repeat (first | apply Kd.R_alloc | apply Kd.R_drewN | apply Kd.R_drew)); exact HO_4.out)) (by decide) hg); have n2_ := Aside0.mk (hb); have n3_ := Aside0.mk (ho); clear HI175; clear HO180; clear HB; clear HO_4; have HI175 := n0_; have HO180 := n1_; have HB := n2_; have HO186 := n3_; clear n0_ n1_ n2_ n3_; clear ho hb hg hat; have hcv16 := own_string (P := Try.prog) Try.underlying70 Try.underlying5 Try.underlying9 (Kd.own_of_R HO186.out)) | ((with_reducible refine gate_callee (f := 47) rfl ?_); refine goesL_ (some 42) rfl rfl Try.func47 (by kernel_rfl) rfl #[.string (strOfNums y184)] rfl (by (try simp only [List.map_toArray, List.map_cons, List.map_nil]); first | done | rfl | (simp only [List.length_drop, List.length_take]; rfl)) ?_; (with_reducible refine (windhoverref04_Read.calls kj3 (strOfNums y184) t187 t188 t189 _ A12.out).mono ?_); rintro e w17 ⟨v190, rfl, ho0, hb⟩; refine ⟨_, rfl, ?_⟩; have n0_ := Aside0.mk (Kd.R_elder' (by (with_reducible repeat (first | apply Kd.R_alloc | apply Kd.R_drewN | apply Kd.R_drew)); exact HO180.out) (Kd.R_base ho0) hb); have n1_ := Aside0.mk (Kd.R_below (by (with_reducible repeat (first | apply Kd.R_alloc | apply Kd.R_drewN | apply Kd.R_drew)); exact HO186.out) hb); have n2_ := Aside0.mk (Kd.R_lower (Kd.R_new' ho0 (Kd.R_lt (by (with_reducible repeat (first | apply Kd.R_alloc | apply Kd.R_drewN | apply Kd.R_drew)); exact HO180.out))) (below_size (by repeat (first | (with_reducible first | exact HB.out | apply below_alloc | apply pw_below_drewN | apply below_drew1 | refine below_set ?_ (IsS120.ge HI175.out)) | exact HB.out)))); have n3_ := Aside0.mk (IsS120.below (by repeat (first | (with_reducible first | exact HI175.out | apply IsS120.alloc | apply IsS120.drewN | apply IsS120.drew | apply IsS120.set_0 | apply IsS120.set_1) | exact HI175.out)) hb); have n4_ := Aside0.mk (below_step (by repeat (first | (with_reducible first | exact HB.out | apply below_alloc | apply pw_below_drewN | apply below_drew1 | refine below_set ?_ (IsS120.ge HI175.out)) | exact HB.out)) hb); clear HO180; clear HO186; clear HI175; clear HB; have HO180 := n0_; have HO186 := n1_; have HO191 := n2_; have HI175 := n3_; have HB := n4_; clear n0_ n1_ n2_ n3_ n4_; (try clear hb); (try clear hb2); (try clear hk); (try clear hi); (try clear ho0)))
                  (try simp only [Act.put, List.setIfInBounds_toArray, List.set_cons_zero, List.set_cons_succ])
                  go_cut [70] (fun v70 wc => ∃ (kq : Nat) (x70_12 : Bool) (x176000_12 : ByteArray) (x176001_12 : Int), v70 = .bool x70_12 ∧ Aside0 (windhoverlaw04_FrameFeeds.j2 kq l0 y184 x6_1 t178 t187 x70_12 x176000_12 x176001_12 = some r) ∧ Aside0 (kq ≤ kj3) ∧ Aside0 (Kd.R (Kd.int .u8) 5 wc w.heap.size (fun _ => True) v185 y184) ∧ Aside0 (Kd.R k45 45 wc w.heap.size (fun k_ => some k_ ≠ (v190 : Value).ownBlock) v179 t178) ∧ Aside0 (Kd.R k45 45 wc w.heap.size (fun k_ => some k_ ≠ (v179 : Value).ownBlock) v190 t187) ∧ Aside0 (IsS120 w wc g175 x176000_12 x176001_12) ∧ Aside0 (Below w.heap.size w wc))
                  case first =>
                    have H := HC13.out
                    clear HC13
                    by_cases c18 : x5_1 > (t187.length : Int)
                    · rw [if_pos c18] at H
                      have c18b0 : decide ((t187.length : Int) < x5_1) = true := decide_eq_true c18
                      clear c18
                      (first | rw [c18b0] | (simp only [i64_w, i32_w]; rw [c18b0]) | skip)
                      have H' := Aside0.mk H
                      clear H
                      obtain ⟨Ao19, co19, eo19⟩ := Kd.R_slice HO191.out
                      subst eo19
                      go_wp2
                      go_meet
                      case rel => exact ⟨_, (true), (t181), (t182), (by first | rfl | (simp; done) | (simp [*]; done)), H', ⟨by have := HK1.out; have := HJ3.out; first | omega | exact Nat.le_refl _⟩, ⟨by (with_reducible repeat (first | apply Kd.R_alloc | apply Kd.R_drewN | apply Kd.R_drew)); exact HO186.out⟩, ⟨by (with_reducible repeat (first | apply Kd.R_alloc | apply Kd.R_drewN | apply Kd.R_drew)); exact Kd.R_mono HO180.out (fun _ hk => hk.2)⟩, ⟨by (with_reducible repeat (first | apply Kd.R_alloc | apply Kd.R_drewN | apply Kd.R_drew)); exact Kd.R_mono HO191.out (fun _ hk => hk.2)⟩, ⟨by repeat (first | (with_reducible first | exact HI175.out | apply IsS120.alloc | apply IsS120.drewN | apply IsS120.drew | apply IsS120.set_0 | apply IsS120.set_1) | exact HI175.out)⟩, ⟨by repeat (first | (with_reducible first | exact HB.out | apply below_alloc | apply pw_below_drewN | apply below_drew1 | refine below_set ?_ (IsS120.ge HI175.out)) | exact HB.out)⟩⟩
                    · rw [if_neg c18] at H
                      have c18b0 : decide ((t187.length : Int) < x5_1) = false := decide_eq_false c18
                      clear c18
                      (first | rw [c18b0] | (simp only [i64_w, i32_w]; rw [c18b0]) | skip)
                      by_cases c20 : 0 ≤ x5_1
                      · rw [if_pos c20] at H
                        have c20b0 := eq_true c20
                        have c20b1 : decide (0 ≤ x5_1) = true := decide_eq_true c20
                        clear c20
                        by_cases c21 : x5_1 ≤ (t187.length : Int)
                        · rw [if_pos c21] at H
                          have c21b0 := eq_true c21
                          have c21b1 : decide (x5_1 ≤ (t187.length : Int)) = true := decide_eq_true c21
                          clear c21
                          obtain ⟨y192, hy192⟩ : ∃ y_ : List (S45), y_ = (t187.drop (x5_1 : Int).toNat) := ⟨_, rfl⟩
                          replace H : ((windhoverref04_Same.f kj3 t178 y192).bind fun t196 => (if t196 = true then ((frame_Reader_Bad.f t181 t182).bind fun bt197 => (if bt197.1 = (mn t188 65535) then ((frame_Reader_Held.f bt197.2.1 bt197.2.2).bind fun bt200 => (windhoverlaw04_FrameFeeds.j2 kj3 l0 y184 x6_1 t178 t187 (bt200.1 != t189) bt200.2.1 bt200.2.2)) else (windhoverlaw04_FrameFeeds.j2 kj3 l0 y184 x6_1 t178 t187 true bt197.2.1 bt197.2.2))) else (windhoverlaw04_FrameFeeds.j2 kj3 l0 y184 x6_1 t178 t187 true t181 t182))) = some r := by first | (rw [hy192]; with_reducible exact H) | (have H2_ := (Option.bind_some _ _).symm.trans H; rw [hy192]; with_reducible exact H2_) | (have H2_ := (Option.bind_some _ _).symm.trans H; with_reducible exact H2_) | with_reducible exact H | (rw [hy192]; exact H) | exact H
                          have Ny192 := Aside0.mk hy192
                          clear hy192
                          replace H := Option.bind_eq_some_iff.mp H
                          obtain ⟨t196, A220, H⟩ := H
                          replace H : (if t196 = true then ((frame_Reader_Bad.f t181 t182).bind fun bt197 => (if bt197.1 = (mn t188 65535) then ((frame_Reader_Held.f bt197.2.1 bt197.2.2).bind fun bt200 => (windhoverlaw04_FrameFeeds.j2 kj3 l0 y184 x6_1 t178 t187 (bt200.1 != t189) bt200.2.1 bt200.2.2)) else (windhoverlaw04_FrameFeeds.j2 kj3 l0 y184 x6_1 t178 t187 true bt197.2.1 bt197.2.2))) else (windhoverlaw04_FrameFeeds.j2 kj3 l0 y184 x6_1 t178 t187 true t181 t182)) = some r := H
                          have A22 := Aside0.mk A220
                          clear A220
                          by_cases c23 : t196 = true
                          · subst c23
                            have H1 : ((frame_Reader_Bad.f t181 t182).bind fun bt197 => (if bt197.1 = (mn t188 65535) then ((frame_Reader_Held.f bt197.2.1 bt197.2.2).bind fun bt200 => (windhoverlaw04_FrameFeeds.j2 kj3 l0 y184 x6_1 t178 t187 (bt200.1 != t189) bt200.2.1 bt200.2.2)) else (windhoverlaw04_FrameFeeds.j2 kj3 l0 y184 x6_1 t178 t187 true bt197.2.1 bt197.2.2))) = some r := by rw [if_pos rfl] at H; exact H
                            clear H
                            have H := H1
                            clear H1
                            replace H := Option.bind_eq_some_iff.mp H
                            obtain ⟨⟨t197, t198, t199⟩, A240, H⟩ := H
                            replace H : (if t197 = (mn t188 65535) then ((frame_Reader_Held.f t198 t199).bind fun bt200 => (windhoverlaw04_FrameFeeds.j2 kj3 l0 y184 x6_1 t178 t187 (bt200.1 != t189) bt200.2.1 bt200.2.2)) else (windhoverlaw04_FrameFeeds.j2 kj3 l0 y184 x6_1 t178 t187 true t198 t199)) = some r := H
                            have A24 := Aside0.mk A240
                            clear A240
                            obtain ⟨ji25, hji25⟩ : ∃ j_ : Int, (mn t188 65535) = j_ := ⟨_, rfl⟩
                            replace H : (if t197 = (ji25) then ((frame_Reader_Held.f t198 t199).bind fun bt200 => (windhoverlaw04_FrameFeeds.j2 kj3 l0 y184 x6_1 t178 t187 (bt200.1 != t189) bt200.2.1 bt200.2.2)) else (windhoverlaw04_FrameFeeds.j2 kj3 l0 y184 x6_1 t178 t187 true t198 t199)) = some r := by first | (rw [hji25] at H; exact H) | (simp only [hji25] at H ⊢; exact H)
                            (try rw [hji25] at A22)
                            (try rw [hji25] at A24)
                            (try (have hji25h : ji25 ≤ 65535 := by (rw [← hji25]; unfold mn; (repeat' split) <;> omega)))
                            (try (have hji25g : ji25 ≤ 64 := by omega))
                            have hji25_ : (if 65535 < t188 then 65535 else t188) = ji25 := hji25
                            by_cases c26 : t197 = (ji25)
                            · rw [if_pos c26] at H
                              have c26b0 : (t197 == (ji25)) = true := beq_iff_eq.mpr c26
                              have c26b1 : (t197 != (ji25)) = false := bne_eq_false_iff_eq.mpr c26
                              clear c26
                              replace H := Option.bind_eq_some_iff.mp H
                              obtain ⟨⟨t200, t201, t202⟩, A270, H⟩ := H
                              replace H : (windhoverlaw04_FrameFeeds.j2 kj3 l0 y184 x6_1 t178 t187 (t200 != t189) t201 t202) = some r := H
                              have A27 := Aside0.mk A270
                              clear A270
                              have H' := Aside0.mk H
                              clear H
                              obtain ⟨Ao28, co28, eo28⟩ := Kd.R_slice HO191.out
                              subst eo28
                              have q29 : (x5_1 : Int) ≤ ((t187.length : Int) : Int) := of_decide_eq_true (by first | (with_reducible assumption) | assumption)
                              obtain ⟨i029, hi029, _, hsz29, _⟩ := info_parts info45
                              have hroom29 : t187.length ≤ co28 := (Kd.R_reads' HO191.out).2.1
                              have hC29 : Kd.C k45 _ Ao28 t187.length t187 := (Kd.R_reads' HO191.out).2.2
                              have q029 : (0 : Int) ≤ (x5_1 : Int) := of_decide_eq_true (by first | (with_reducible assumption) | assumption)
                              have hcut29 := cut_from (P := Try.prog) 71 45 .i64 Try.underlying71 hi029 3 hsz29 Ao28 t187.length co28 x5_1 q029 q29
                              have hr29 := Kd.C_drop (m := (x5_1 : Int).toNat) (c := co28) hC29 (by omega) hroom29
                              obtain ⟨A29, hA29⟩ : ∃ A1, A1 = (if co28 = (x5_1 : Int).toNat then Ao28 else (Ao28 : Option Addr).map (·.add ((x5_1 : Int).toNat * 3))) := ⟨_, rfl⟩
                              obtain ⟨c29, hc29⟩ : ∃ c1, c1 = co28 - (x5_1 : Int).toNat := ⟨_, rfl⟩
                              have hy29 : y192.length = t187.length - (x5_1 : Int).toNat := (by rw [Ny192.out, List.length_drop] <;> omega)
                              rw [show (t187).drop (x5_1 : Int).toNat = y192 from Ny192.out.symm] at hr29
                              replace hr29 : Kd.C k45 _ A29 y192.length y192 := (by rw [hA29]; exact hr29)
                              rw [← hy29, ← hA29, ← hc29] at hcut29
                              have HR195 := Aside0.mk hr29
                              have HC195 := Aside0.mk (show y192.length ≤ c29 from by rw [hy29, hc29]; exact Nat.sub_le_sub_right hroom29 _)
                              clear hr29 hC29 hroom29 hi029 hsz29 hc29
                              have KY29 := Aside0.mk hy29
                              have KA29 := Aside0.mk hA29
                              clear hy29 hA29
                              have KL29 := Aside0.mk (show (x5_1 : Int).toNat ≤ t187.length from by omega)
                              replace q29 := eq_true q29
                              obtain ⟨Ao30, co30, eo30⟩ := Kd.R_slice HO180.out
                              subst eo30
                              go_wp2_with (first | (go_at_call 48; (with_reducible refine (windhoverref04_Same.calls kj3 _ _ t178 _ _ y192 true _ ?side1 ?side2 ?side3 ?side4 A22.out).mono ?_); (case side1 => repeat (first | exact (Kd.R_reads' HO180.out).2.2 | (with_reducible refine Kd.C_alloc ?_ _) | (with_reducible refine Kd.C_drewN ?_ _) | (with_reducible refine Kd.C_drew ?_))); (case side2 => exact (Kd.R_reads' HO180.out).2.1); (case side3 => repeat (first | exact (by repeat (first | (with_reducible exact HR195.out) | (with_reducible refine Kd.C_alloc ?_ _) | (with_reducible refine Kd.C_drewN ?_ _) | (with_reducible refine Kd.C_drew ?_) | exact HR195.out)) | (with_reducible refine Kd.C_alloc ?_ _) | (with_reducible refine Kd.C_drewN ?_ _) | (with_reducible refine Kd.C_drew ?_))); (case side4 => exact HC195.out); rintro e w' ⟨rfl, ⟨nd, rfl⟩⟩) | (go_at_call 49; (with_reducible refine (frame_Reader_Bad.calls g175 t181 t182 t197 t198 t199 w _ ?side1 ?side2 A24.out).mono ?_); (case side1 => repeat (first | (with_reducible first | exact HI175.out | apply IsS120.alloc | apply IsS120.drewN | apply IsS120.drew | apply IsS120.set_0 | apply IsS120.set_1) | exact HI175.out)); (case side2 => repeat (first | (with_reducible first | exact HB.out | apply below_alloc | apply pw_below_drewN | apply below_drew1 | refine below_set ?_ (IsS120.ge HI175.out)) | exact HB.out)); rintro e w31 ⟨rfl, hi, hb, hk⟩; have n0_ := Aside0.mk (Kd.R_mono (Kd.R_keep (IsS120.apart (show IsS120 w _ g175 t181 t182 from by repeat (first | (with_reducible first | exact HI175.out | apply IsS120.alloc | apply IsS120.drewN | apply IsS120.drew | apply IsS120.set_0 | apply IsS120.set_1) | exact HI175.out)) (by (with_reducible repeat (first | apply Kd.R_alloc | apply Kd.R_drewN | apply Kd.R_drew)); exact HO180.out) (by decide)) hk (fun _ h => h.2)) (fun _ h => h.1)); have n1_ := Aside0.mk (Kd.R_mono (Kd.R_keep (IsS120.apart (show IsS120 w _ g175 t181 t182 from by repeat (first | (with_reducible first | exact HI175.out | apply IsS120.alloc | apply IsS120.drewN | apply IsS120.drew | apply IsS120.set_0 | apply IsS120.set_1) | exact HI175.out)) (by (with_reducible repeat (first | apply Kd.R_alloc | apply Kd.R_drewN | apply Kd.R_drew)); exact HO186.out) (by decide)) hk (fun _ h => h.2)) (fun _ h => h.1)); have n2_ := Aside0.mk (Kd.R_mono (Kd.R_keep (IsS120.apart (show IsS120 w _ g175 t181 t182 from by repeat (first | (with_reducible first | exact HI175.out | apply IsS120.alloc | apply IsS120.drewN | apply IsS120.drew | apply IsS120.set_0 | apply IsS120.set_1) | exact HI175.out)) (by (with_reducible repeat (first | apply Kd.R_alloc | apply Kd.R_drewN | apply Kd.R_drew)); exact HO191.out) (by decide)) hk (fun _ h => h.2)) (fun _ h => h.1)); have n3_ := Aside0.mk (hb); have n4_ := Aside0.mk (hi); clear HO180; clear HO186; clear HO191; clear HB; clear HI175; have HO180 := n0_; have HO186 := n1_; have HO191 := n2_; have HB := n3_; have HI175 := n4_; clear n0_ n1_ n2_ n3_ n4_; (try clear hb); (try clear hb2); (try clear hk); (try clear hi)) | (go_at_call 50; (with_reducible refine (frame_Reader_Held.calls g175 t198 t199 t200 t201 t202 w _ ?side1 ?side2 A27.out).mono ?_); (case side1 => repeat (first | (with_reducible first | exact HI175.out | apply IsS120.alloc | apply IsS120.drewN | apply IsS120.drew | apply IsS120.set_0 | apply IsS120.set_1) | exact HI175.out)); (case side2 => repeat (first | (with_reducible first | exact HB.out | apply below_alloc | apply pw_below_drewN | apply below_drew1 | refine below_set ?_ (IsS120.ge HI175.out)) | exact HB.out)); rintro e w32 ⟨rfl, hi, hb, hk⟩; have n0_ := Aside0.mk (Kd.R_mono (Kd.R_keep (IsS120.apart (show IsS120 w _ g175 t198 t199 from by repeat (first | (with_reducible first | exact HI175.out | apply IsS120.alloc | apply IsS120.drewN | apply IsS120.drew | apply IsS120.set_0 | apply IsS120.set_1) | exact HI175.out)) (by (with_reducible repeat (first | apply Kd.R_alloc | apply Kd.R_drewN | apply Kd.R_drew)); exact HO180.out) (by decide)) hk (fun _ h => h.2)) (fun _ h => h.1)); have n1_ := Aside0.mk (Kd.R_mono (Kd.R_keep (IsS120.apart (show IsS120 w _ g175 t198 t199 from by repeat (first | (with_reducible first | exact HI175.out | apply IsS120.alloc | apply IsS120.drewN | apply IsS120.drew | apply IsS120.set_0 | apply IsS120.set_1) | exact HI175.out)) (by (with_reducible repeat (first | apply Kd.R_alloc | apply Kd.R_drewN | apply Kd.R_drew)); exact HO186.out) (by decide)) hk (fun _ h => h.2)) (fun _ h => h.1)); have n2_ := Aside0.mk (Kd.R_mono (Kd.R_keep (IsS120.apart (show IsS120 w _ g175 t198 t199 from by repeat (first | (with_reducible first | exact HI175.out | apply IsS120.alloc | apply IsS120.drewN | apply IsS120.drew | apply IsS120.set_0 | apply IsS120.set_1) | exact HI175.out)) (by (with_reducible repeat (first | apply Kd.R_alloc | apply Kd.R_drewN | apply Kd.R_drew)); exact HO191.out) (by decide)) hk (fun _ h => h.2)) (fun _ h => h.1)); have n3_ := Aside0.mk (hb); have n4_ := Aside0.mk (hi); clear HO180; clear HO186; clear HO191; clear HB; clear HI175; have HO180 := n0_; have HO186 := n1_; have HO191 := n2_; have HB := n3_; have HI175 := n4_; clear n0_ n1_ n2_ n3_ n4_; (try clear hb); (try clear hb2); (try clear hk); (try clear hi)))
                              go_meet
                              case rel => exact ⟨_, ((t200 != t189)), (t201), (t202), (by first | rfl | (simp; done) | (simp [*]; done)), H', ⟨by have := HK1.out; have := HJ3.out; first | omega | exact Nat.le_refl _⟩, ⟨by (with_reducible repeat (first | apply Kd.R_alloc | apply Kd.R_drewN | apply Kd.R_drew)); exact HO186.out⟩, ⟨by (with_reducible repeat (first | apply Kd.R_alloc | apply Kd.R_drewN | apply Kd.R_drew)); exact Kd.R_mono HO180.out (fun _ hk => hk.2)⟩, ⟨by (with_reducible repeat (first | apply Kd.R_alloc | apply Kd.R_drewN | apply Kd.R_drew)); exact Kd.R_mono HO191.out (fun _ hk => hk.2)⟩, ⟨by repeat (first | (with_reducible first | exact HI175.out | apply IsS120.alloc | apply IsS120.drewN | apply IsS120.drew | apply IsS120.set_0 | apply IsS120.set_1) | exact HI175.out)⟩, ⟨by repeat (first | (with_reducible first | exact HB.out | apply below_alloc | apply pw_below_drewN | apply below_drew1 | refine below_set ?_ (IsS120.ge HI175.out)) | exact HB.out)⟩⟩
                            · rw [if_neg c26] at H
                              have c26b0 : (t197 == (ji25)) = false := beq_eq_false_iff_ne.mpr c26
                              have c26b1 : (t197 != (ji25)) = true := bne_iff_ne.mpr c26
                              have H' := Aside0.mk H
                              clear H
                              obtain ⟨Ao33, co33, eo33⟩ := Kd.R_slice HO191.out
                              subst eo33
                              have q34 : (x5_1 : Int) ≤ ((t187.length : Int) : Int) := of_decide_eq_true (by first | (with_reducible assumption) | assumption)
                              obtain ⟨i034, hi034, _, hsz34, _⟩ := info_parts info45
                              have hroom34 : t187.length ≤ co33 := (Kd.R_reads' HO191.out).2.1
                              have hC34 : Kd.C k45 _ Ao33 t187.length t187 := (Kd.R_reads' HO191.out).2.2
                              have q034 : (0 : Int) ≤ (x5_1 : Int) := of_decide_eq_true (by first | (with_reducible assumption) | assumption)
                              have hcut34 := cut_from (P := Try.prog) 71 45 .i64 Try.underlying71 hi034 3 hsz34 Ao33 t187.length co33 x5_1 q034 q34
                              have hr34 := Kd.C_drop (m := (x5_1 : Int).toNat) (c := co33) hC34 (by omega) hroom34
                              obtain ⟨A34, hA34⟩ : ∃ A1, A1 = (if co33 = (x5_1 : Int).toNat then Ao33 else (Ao33 : Option Addr).map (·.add ((x5_1 : Int).toNat * 3))) := ⟨_, rfl⟩
                              obtain ⟨c34, hc34⟩ : ∃ c1, c1 = co33 - (x5_1 : Int).toNat := ⟨_, rfl⟩
                              have hy34 : y192.length = t187.length - (x5_1 : Int).toNat := (by rw [Ny192.out, List.length_drop] <;> omega)
                              rw [show (t187).drop (x5_1 : Int).toNat = y192 from Ny192.out.symm] at hr34
                              replace hr34 : Kd.C k45 _ A34 y192.length y192 := (by rw [hA34]; exact hr34)
                              rw [← hy34, ← hA34, ← hc34] at hcut34
                              have HR195 := Aside0.mk hr34
                              have HC195 := Aside0.mk (show y192.length ≤ c34 from by rw [hy34, hc34]; exact Nat.sub_le_sub_right hroom34 _)
                              clear hr34 hC34 hroom34 hi034 hsz34 hc34
                              have KY34 := Aside0.mk hy34
                              have KA34 := Aside0.mk hA34
                              clear hy34 hA34
                              have KL34 := Aside0.mk (show (x5_1 : Int).toNat ≤ t187.length from by omega)
                              replace q34 := eq_true q34
                              obtain ⟨Ao35, co35, eo35⟩ := Kd.R_slice HO180.out
                              subst eo35
                              go_wp2_with (first | (go_at_call 48; (with_reducible refine (windhoverref04_Same.calls kj3 _ _ t178 _ _ y192 true _ ?side1 ?side2 ?side3 ?side4 A22.out).mono ?_); (case side1 => repeat (first | exact (Kd.R_reads' HO180.out).2.2 | (with_reducible refine Kd.C_alloc ?_ _) | (with_reducible refine Kd.C_drewN ?_ _) | (with_reducible refine Kd.C_drew ?_))); (case side2 => exact (Kd.R_reads' HO180.out).2.1); (case side3 => repeat (first | exact (by repeat (first | (with_reducible exact HR195.out) | (with_reducible refine Kd.C_alloc ?_ _) | (with_reducible refine Kd.C_drewN ?_ _) | (with_reducible refine Kd.C_drew ?_) | exact HR195.out)) | (with_reducible refine Kd.C_alloc ?_ _) | (with_reducible refine Kd.C_drewN ?_ _) | (with_reducible refine Kd.C_drew ?_))); (case side4 => exact HC195.out); rintro e w' ⟨rfl, ⟨nd, rfl⟩⟩) | (go_at_call 49; (with_reducible refine (frame_Reader_Bad.calls g175 t181 t182 t197 t198 t199 w _ ?side1 ?side2 A24.out).mono ?_); (case side1 => repeat (first | (with_reducible first | exact HI175.out | apply IsS120.alloc | apply IsS120.drewN | apply IsS120.drew | apply IsS120.set_0 | apply IsS120.set_1) | exact HI175.out)); (case side2 => repeat (first | (with_reducible first | exact HB.out | apply below_alloc | apply pw_below_drewN | apply below_drew1 | refine below_set ?_ (IsS120.ge HI175.out)) | exact HB.out)); rintro e w36 ⟨rfl, hi, hb, hk⟩; have n0_ := Aside0.mk (Kd.R_mono (Kd.R_keep (IsS120.apart (show IsS120 w _ g175 t181 t182 from by repeat (first | (with_reducible first | exact HI175.out | apply IsS120.alloc | apply IsS120.drewN | apply IsS120.drew | apply IsS120.set_0 | apply IsS120.set_1) | exact HI175.out)) (by (with_reducible repeat (first | apply Kd.R_alloc | apply Kd.R_drewN | apply Kd.R_drew)); exact HO180.out) (by decide)) hk (fun _ h => h.2)) (fun _ h => h.1)); have n1_ := Aside0.mk (Kd.R_mono (Kd.R_keep (IsS120.apart (show IsS120 w _ g175 t181 t182 from by repeat (first | (with_reducible first | exact HI175.out | apply IsS120.alloc | apply IsS120.drewN | apply IsS120.drew | apply IsS120.set_0 | apply IsS120.set_1) | exact HI175.out)) (by (with_reducible repeat (first | apply Kd.R_alloc | apply Kd.R_drewN | apply Kd.R_drew)); exact HO186.out) (by decide)) hk (fun _ h => h.2)) (fun _ h => h.1)); have n2_ := Aside0.mk (Kd.R_mono (Kd.R_keep (IsS120.apart (show IsS120 w _ g175 t181 t182 from by repeat (first | (with_reducible first | exact HI175.out | apply IsS120.alloc | apply IsS120.drewN | apply IsS120.drew | apply IsS120.set_0 | apply IsS120.set_1) | exact HI175.out)) (by (with_reducible repeat (first | apply Kd.R_alloc | apply Kd.R_drewN | apply Kd.R_drew)); exact HO191.out) (by decide)) hk (fun _ h => h.2)) (fun _ h => h.1)); have n3_ := Aside0.mk (hb); have n4_ := Aside0.mk (hi); clear HO180; clear HO186; clear HO191; clear HB; clear HI175; have HO180 := n0_; have HO186 := n1_; have HO191 := n2_; have HB := n3_; have HI175 := n4_; clear n0_ n1_ n2_ n3_ n4_; (try clear hb); (try clear hb2); (try clear hk); (try clear hi)))
                              go_meet
                              case rel => exact ⟨_, (true), (t198), (t199), (by first | rfl | (simp; done) | (simp [*]; done)), H', ⟨by have := HK1.out; have := HJ3.out; first | omega | exact Nat.le_refl _⟩, ⟨by (with_reducible repeat (first | apply Kd.R_alloc | apply Kd.R_drewN | apply Kd.R_drew)); exact HO186.out⟩, ⟨by (with_reducible repeat (first | apply Kd.R_alloc | apply Kd.R_drewN | apply Kd.R_drew)); exact Kd.R_mono HO180.out (fun _ hk => hk.2)⟩, ⟨by (with_reducible repeat (first | apply Kd.R_alloc | apply Kd.R_drewN | apply Kd.R_drew)); exact Kd.R_mono HO191.out (fun _ hk => hk.2)⟩, ⟨by repeat (first | (with_reducible first | exact HI175.out | apply IsS120.alloc | apply IsS120.drewN | apply IsS120.drew | apply IsS120.set_0 | apply IsS120.set_1) | exact HI175.out)⟩, ⟨by repeat (first | (with_reducible first | exact HB.out | apply below_alloc | apply pw_below_drewN | apply below_drew1 | refine below_set ?_ (IsS120.ge HI175.out)) | exact HB.out)⟩⟩
                          · replace c23 := Bool.eq_false_iff.mpr c23
                            subst c23
                            have H1 : (windhoverlaw04_FrameFeeds.j2 kj3 l0 y184 x6_1 t178 t187 true t181 t182) = some r := by rw [if_neg (show ¬ (false = true) by decide)] at H; exact H
                            clear H
                            have H := H1
                            clear H1
                            have H' := Aside0.mk H
                            clear H
                            obtain ⟨Ao37, co37, eo37⟩ := Kd.R_slice HO191.out
                            subst eo37
                            have q38 : (x5_1 : Int) ≤ ((t187.length : Int) : Int) := of_decide_eq_true (by first | (with_reducible assumption) | assumption)
                            obtain ⟨i038, hi038, _, hsz38, _⟩ := info_parts info45
                            have hroom38 : t187.length ≤ co37 := (Kd.R_reads' HO191.out).2.1
                            have hC38 : Kd.C k45 _ Ao37 t187.length t187 := (Kd.R_reads' HO191.out).2.2
                            have q038 : (0 : Int) ≤ (x5_1 : Int) := of_decide_eq_true (by first | (with_reducible assumption) | assumption)
                            have hcut38 := cut_from (P := Try.prog) 71 45 .i64 Try.underlying71 hi038 3 hsz38 Ao37 t187.length co37 x5_1 q038 q38
                            have hr38 := Kd.C_drop (m := (x5_1 : Int).toNat) (c := co37) hC38 (by omega) hroom38
                            obtain ⟨A38, hA38⟩ : ∃ A1, A1 = (if co37 = (x5_1 : Int).toNat then Ao37 else (Ao37 : Option Addr).map (·.add ((x5_1 : Int).toNat * 3))) := ⟨_, rfl⟩
                            obtain ⟨c38, hc38⟩ : ∃ c1, c1 = co37 - (x5_1 : Int).toNat := ⟨_, rfl⟩
                            have hy38 : y192.length = t187.length - (x5_1 : Int).toNat := (by rw [Ny192.out, List.length_drop] <;> omega)
                            rw [show (t187).drop (x5_1 : Int).toNat = y192 from Ny192.out.symm] at hr38
                            replace hr38 : Kd.C k45 _ A38 y192.length y192 := (by rw [hA38]; exact hr38)
                            rw [← hy38, ← hA38, ← hc38] at hcut38
                            have HR195 := Aside0.mk hr38
                            have HC195 := Aside0.mk (show y192.length ≤ c38 from by rw [hy38, hc38]; exact Nat.sub_le_sub_right hroom38 _)
                            clear hr38 hC38 hroom38 hi038 hsz38 hc38
                            have KY38 := Aside0.mk hy38
                            have KA38 := Aside0.mk hA38
                            clear hy38 hA38
                            have KL38 := Aside0.mk (show (x5_1 : Int).toNat ≤ t187.length from by omega)
                            replace q38 := eq_true q38
                            obtain ⟨Ao39, co39, eo39⟩ := Kd.R_slice HO180.out
                            subst eo39
                            go_wp2_with (first | (go_at_call 48; (with_reducible refine (windhoverref04_Same.calls kj3 _ _ t178 _ _ y192 false _ ?side1 ?side2 ?side3 ?side4 A22.out).mono ?_); (case side1 => repeat (first | exact (Kd.R_reads' HO180.out).2.2 | (with_reducible refine Kd.C_alloc ?_ _) | (with_reducible refine Kd.C_drewN ?_ _) | (with_reducible refine Kd.C_drew ?_))); (case side2 => exact (Kd.R_reads' HO180.out).2.1); (case side3 => repeat (first | exact (by repeat (first | (with_reducible exact HR195.out) | (with_reducible refine Kd.C_alloc ?_ _) | (with_reducible refine Kd.C_drewN ?_ _) | (with_reducible refine Kd.C_drew ?_) | exact HR195.out)) | (with_reducible refine Kd.C_alloc ?_ _) | (with_reducible refine Kd.C_drewN ?_ _) | (with_reducible refine Kd.C_drew ?_))); (case side4 => exact HC195.out); rintro e w' ⟨rfl, ⟨nd, rfl⟩⟩))
                            go_meet
                            case rel => exact ⟨_, (true), (t181), (t182), (by first | rfl | (simp; done) | (simp [*]; done)), H', ⟨by have := HK1.out; have := HJ3.out; first | omega | exact Nat.le_refl _⟩, ⟨by (with_reducible repeat (first | apply Kd.R_alloc | apply Kd.R_drewN | apply Kd.R_drew)); exact HO186.out⟩, ⟨by (with_reducible repeat (first | apply Kd.R_alloc | apply Kd.R_drewN | apply Kd.R_drew)); exact Kd.R_mono HO180.out (fun _ hk => hk.2)⟩, ⟨by (with_reducible repeat (first | apply Kd.R_alloc | apply Kd.R_drewN | apply Kd.R_drew)); exact Kd.R_mono HO191.out (fun _ hk => hk.2)⟩, ⟨by repeat (first | (with_reducible first | exact HI175.out | apply IsS120.alloc | apply IsS120.drewN | apply IsS120.drew | apply IsS120.set_0 | apply IsS120.set_1) | exact HI175.out)⟩, ⟨by repeat (first | (with_reducible first | exact HB.out | apply below_alloc | apply pw_below_drewN | apply below_drew1 | refine below_set ?_ (IsS120.ge HI175.out)) | exact HB.out)⟩⟩
                        · rw [if_neg c21] at H
                          exact absurd H (by simp)
                      · rw [if_neg c20] at H
                        exact absurd H (by simp)
                  case rest =>
                    clear HC13
                    try clear c1
                    try clear p1
                    try clear q1
                    try clear hx1
                    try clear hcv1
                    try clear c2
                    try clear p2
                    try clear q2
                    try clear c3
                    try clear q3
                    try clear c4
                    try clear c5
                    try clear c5b0
                    try clear c7
                    try clear c8
                    try clear c8b0
                    try clear c9
                    try clear c9b0
                    try clear c11
                    try clear hcv16
                    try clear p17
                    try clear q17
                    try clear hx17
                    try clear c18
                    try clear c18b0
                    try clear p18
                    try clear q18
                    try clear hx18
                    try clear c20
                    try clear c20b0
                    try clear c20b1
                    try clear c21
                    try clear c21b0
                    try clear c21b1
                    try clear c23
                    try clear c26
                    try clear c26b0
                    try clear c26b1
                    try clear c29
                    try clear q29
                    try clear c34
                    try clear q34
                    try clear c38
                    try clear q38
                    try clear hx177_0
                    try clear hx183_0
                    try clear p177
                    try clear p183
                    try clear p2
                    try clear q029
                    try clear q034
                    try clear q038
                    try clear q177
                    try clear q183
                    try clear q29
                    try clear q34
                    try clear q38
                    obtain ⟨kq, x70_12, x176000_12, x176001_12, rfl, HA, HJ12, HO_4, HO_7, HO_8, HI175, HB⟩ := hcut
                    cases kq with
                    | zero => exact absurd HA.out (by simp [windhoverlaw04_FrameFeeds.j2])
                    | succ kj12 =>
                      have H := HA.out
                      clear HA
                      simp only [windhoverlaw04_FrameFeeds.j2] at H
                      by_cases c40 : x70_12 = true
                      · subst c40
                        have H1 : (some false) = some r := by rw [if_pos rfl] at H; exact H
                        clear H
                        have H := H1
                        clear H1
                        obtain rfl := Option.some.inj H
                        go_wp2
                        go_ret
                        exact ⟨by first | rfl | (simp [errW_none, errW_some] <;> rfl) | (simp [*, errW_none, errW_some] <;> rfl), by repeat (first | (with_reducible first | exact HB.out | apply below_alloc | apply pw_below_drewN | apply below_drew1 | refine below_set ?_ (IsS120.ge HI175.out)) | exact HB.out)⟩
                      · replace c40 := Bool.eq_false_iff.mpr c40
                        subst c40
                        have H1 : (windhoverlaw04_FrameFeeds.l1 kj12 l0 y184 (t187.length : Int) x6_1 t178 0 x176000_12 x176001_12) = some r := by rw [if_neg (show ¬ (false = true) by decide)] at H; exact H
                        clear H
                        have H := H1
                        clear H1
                        have H' := Aside0.mk H
                        clear H
                        obtain ⟨Ao41, co41, eo41⟩ := Kd.R_slice HO_8.out
                        subst eo41
                        go_wp2
                        go_loopg [11] kj12 (fun kq v11 w' => ∃ (x7_4 : List (S45)) (x11_4 : Int), v11 = .int .i64 x11_4 ∧ Aside0 (windhoverlaw04_FrameFeeds.l1 kq l0 y184 (t187.length : Int) x6_1 x7_4 x11_4 x176000_12 x176001_12 = some r) ∧ Aside0 (kq ≤ kj12) ∧ Aside0 (Kd.R (Kd.int .u8) 5 w' w.heap.size (fun _ => True) v185 y184) ∧ Aside0 (Kd.R k45 45 w' w.heap.size (fun _ => True) v179 x7_4) ∧ Aside0 (IsS120 w w' g175 x176000_12 x176001_12) ∧ Aside0 (Below w.heap.size w w'))
                        case atStart => exact ⟨(t178), (0), (by first | rfl | (simp; done) | (simp [*]; done)), H', ⟨Nat.le_refl _⟩, ⟨by (with_reducible repeat (first | apply Kd.R_alloc | apply Kd.R_drewN | apply Kd.R_drew)); exact HO_4.out⟩, ⟨by (with_reducible repeat (first | apply Kd.R_alloc | apply Kd.R_drewN | apply Kd.R_drew)); exact Kd.R_mono HO_7.out (fun _ hk => trivial)⟩, ⟨by repeat (first | (with_reducible first | exact HI175.out | apply IsS120.alloc | apply IsS120.drewN | apply IsS120.drew | apply IsS120.set_0 | apply IsS120.set_1) | exact HI175.out)⟩, ⟨by repeat (first | (with_reducible first | exact HB.out | apply below_alloc | apply pw_below_drewN | apply below_drew1 | refine below_set ?_ (IsS120.ge HI175.out)) | exact HB.out)⟩⟩
                        case round =>
                          clear H'
                          try clear c1
                          try clear p1
                          try clear q1
                          try clear hx1
                          try clear hcv1
                          try clear c2
                          try clear p2
                          try clear q2
                          try clear c3
                          try clear q3
                          try clear c4
                          try clear c5
                          try clear c5b0
                          try clear c7
                          try clear c8
                          try clear c8b0
                          try clear c9
                          try clear c9b0
                          try clear c11
                          try clear hcv16
                          try clear p17
                          try clear q17
                          try clear hx17
                          try clear c18
                          try clear c18b0
                          try clear p18
                          try clear q18
                          try clear hx18
                          try clear c20
                          try clear c20b0
                          try clear c20b1
                          try clear c21
                          try clear c21b0
                          try clear c21b1
                          try clear c23
                          try clear c26
                          try clear c26b0
                          try clear c26b1
                          try clear c29
                          try clear q29
                          try clear c34
                          try clear q34
                          try clear c38
                          try clear q38
                          try clear c40
                          try clear hx177_0
                          try clear hx183_0
                          try clear p1
                          try clear p17
                          try clear p177
                          try clear p18
                          try clear p183
                          try clear p2
                          try clear q029
                          try clear q034
                          try clear q038
                          try clear q1
                          try clear q17
                          try clear q177
                          try clear q18
                          try clear q183
                          try clear q2
                          try clear q29
                          try clear q3
                          try clear q34
                          try clear q38
                          obtain ⟨x7_4, x11_4, rfl, HA, HK4, HO_4, HO_7, HI175, HB⟩ := hrel
                          cases gk with
                          | zero => exact absurd HA.out (by simp [windhoverlaw04_FrameFeeds.l1])
                          | succ k4 =>
                            have H := HA.out
                            clear HA
                            simp only [windhoverlaw04_FrameFeeds.l1] at H
                            by_cases c42 : x11_4 < (x7_4.length : Int)
                            · rw [if_pos c42] at H
                              have c42b0 : decide (x11_4 < (x7_4.length : Int)) = true := decide_eq_true c42
                              clear c42
                              by_cases c43 : 0 ≤ x11_4
                              · rw [if_pos c43] at H
                                have c43b0 : decide (0 ≤ x11_4) = true := decide_eq_true c43
                                clear c43
                                obtain ⟨y203, hy203⟩ : ∃ y_ : List (S45), y_ = (x7_4.set (x11_4 : Int).toNat (⟨(-7), 0, (⟨#[]⟩ : ByteArray)⟩ : S45)) := ⟨_, rfl⟩
                                replace H : (windhoverlaw04_FrameFeeds.l1 k4 l0 y184 (t187.length : Int) x6_1 y203 (wrap64 (x11_4 + 1)) x176000_12 x176001_12) = some r := by first | (rw [hy203]; with_reducible exact H) | (have H2_ := (Option.bind_some _ _).symm.trans H; rw [hy203]; with_reducible exact H2_) | (have H2_ := (Option.bind_some _ _).symm.trans H; with_reducible exact H2_) | with_reducible exact H | (rw [hy203]; exact H) | exact H
                                have Ny203 := Aside0.mk hy203
                                clear hy203
                                have H' := Aside0.mk H
                                clear H
                                obtain ⟨Ao45, co45, eo45⟩ := Kd.R_slice HO_7.out
                                subst eo45
                                have p44 : 0 ≤ (x11_4 : Int) := of_decide_eq_true (by first | (with_reducible assumption) | assumption)
                                have q44 : (x11_4 : Int) < ((x7_4.length : Int) : Int) := of_decide_eq_true (by first | (with_reducible assumption) | assumption)
                                obtain ⟨go44, co44, eo44, gb44, gl44, cl44, HG44⟩ := Kd.R_form HO_7.out (by omega)
                                (first | cases eo44 | (injection eo44 with ea_ en_ ec_; (first | subst ea_ | (injection ea_ with ea_; subst ea_)); subst ec_; clear en_))
                                have GB44 := Aside0.mk gb44
                                have GG44 := Aside0.mk HG44
                                clear gb44 gl44 HG44
                                obtain ⟨ce44, hcl44, hM44, hcc44, hfr44⟩ := Kd.R_elem HO_7.out z45 (x11_4 : Int) p44 q44
                                obtain rfl := k45_openM hM44
                                have hx44_0 : wr.cell? ⟨go44, (x11_4 : Int).toNat * 3, none⟩ = some (.int .i64 ((rd_T45 x7_4 x11_4).f0)) := hcc44 0 _ rfl
                                have hx44_1 : wr.cell? ⟨go44, (x11_4 : Int).toNat * 3 + 1, none⟩ = some (.int .i64 ((rd_T45 x7_4 x11_4).f1)) := hcc44 1 _ rfl
                                have hx44_2 : wr.cell? ⟨go44, (x11_4 : Int).toNat * 3 + 2, none⟩ = some (.string ((rd_T45 x7_4 x11_4).f2)) := hcc44 2 _ rfl
                                have hf44_0 : wr.frozen? ⟨go44, (x11_4 : Int).toNat * 3, none⟩ = false := hfr44 0
                                have hf44_1 : wr.frozen? ⟨go44, (x11_4 : Int).toNat * 3 + 1, none⟩ = false := hfr44 1
                                have hf44_2 : wr.frozen? ⟨go44, (x11_4 : Int).toNat * 3 + 2, none⟩ = false := hfr44 2
                                clear hcl44 hcc44 hfr44 hM44
                                replace p44 := eq_true p44
                                replace q44 := eq_true q44
                                have HX46 := Aside0.mk (show Kd.R k45 45 wr w.heap.size (fun _ => True) (.slice (some ⟨go44, 0, none⟩) x7_4.length co45) x7_4 from (by (with_reducible repeat (first | apply Kd.R_alloc | apply Kd.R_drewN | apply Kd.R_drew)); exact HO_7.out))
                                obtain ⟨ce46, hcl46, hM46, hcc46, hfr46⟩ := Kd.R_elem HX46.out z45 (x11_4 : Int) (of_decide_eq_true (by first | (with_reducible assumption) | assumption)) (by have h_ : (x11_4 : Int) < ((x7_4.length : Int) : Int) := of_decide_eq_true (by first | (with_reducible assumption) | assumption); first | exact h_ | (have e_ := (Kd.R_reads' HO_7.out).1; omega) | simpa using h_)
                                obtain rfl := k45_openM hM46
                                have HP46 := Kd.R_seg HX46.out (x11_4 : Int) (of_decide_eq_true (by first | (with_reducible assumption) | assumption)) (by have h_ : (x11_4 : Int) < ((x7_4.length : Int) : Int) := of_decide_eq_true (by first | (with_reducible assumption) | assumption); first | exact h_ | (have e_ := (Kd.R_reads' HO_7.out).1; omega) | simpa using h_) (seg := [.int .i64 (-7), .int .i64 0, .string (⟨#[]⟩ : ByteArray)]) (j := 0) hcl46 hcc46 (show 3 ≤ 3 from by decide) (x' := (⟨(-7), 0, (⟨#[]⟩ : ByteArray)⟩ : S45)) (k45_mkM _ _ _ (⟨(-7), 0, (⟨#[]⟩ : ByteArray)⟩ : S45) ) (fun _ hk => hk)
                                have hx46_0 := hcc46 0 _ rfl
                                (try simp only [show (k45).sz = 3 from rfl, Nat.mul_one, Nat.add_zero] at hx46_0)
                                have hf46_0 := hfr46 0
                                (try simp only [show (k45).sz = 3 from rfl, Nat.mul_one, Nat.add_zero] at hf46_0)
                                have hx46_1 := hcc46 1 _ rfl
                                (try simp only [show (k45).sz = 3 from rfl, Nat.mul_one, Nat.add_zero] at hx46_1)
                                have hf46_1 := hfr46 1
                                (try simp only [show (k45).sz = 3 from rfl, Nat.mul_one, Nat.add_zero] at hf46_1)
                                have hx46_2 := hcc46 2 _ rfl
                                (try simp only [show (k45).sz = 3 from rfl, Nat.mul_one, Nat.add_zero] at hx46_2)
                                have hf46_2 := hfr46 2
                                (try simp only [show (k45).sz = 3 from rfl, Nat.mul_one, Nat.add_zero] at hf46_2)
                                clear hcl46 hcc46 hfr46 hM46
                                go_wp2_with (first | ((with_reducible refine gate_store (t := 45) (p := 82) rfl ?_); refine store_event (t := 45) (p := 82) (v := ?vo_w47) (w1 := (((wr.setCell ⟨go44, (x11_4 : Int).toNat * 3, none⟩ (.int .i64 (-7))).setCell ⟨go44, (x11_4 : Int).toNat * 3 + 1, none⟩ (.int .i64 0)).setCell ⟨go44, (x11_4 : Int).toNat * 3 + 2, none⟩ (.string (⟨#[]⟩ : ByteArray)))) ?hg ?ho ?hn ?hr ?_; (case ho => rfl); (case hg => rfl); (case hn => rfl); (case hr => first | (go_simp; done) | (go_simp; rfl)); intro w47 hw; have hg : wr.grownBy w47 (some go44) := (by rw [hw]; exact HP46.2); have hp_ : Kd.R k45 45 w47 w.heap.size (fun _ => True) (.slice (some ⟨go44, 0, none⟩) x7_4.length co45) y203 := (by rw [hw, Ny203.out]; exact HP46.1); clear HP46; have n0_ := Aside0.mk (Kd.R_over' (v := (.slice (some ⟨go44, 0, none⟩) x7_4.length co45)) (by (with_reducible repeat (first | apply Kd.R_alloc | apply Kd.R_drewN | apply Kd.R_drew)); exact HO_4.out) (Kd.R_typed HO_7.out) (by decide) hg); have n1_ := Aside0.mk (hp_); have n2_ := Aside0.mk (IsS120.grown (by repeat (first | (with_reducible first | exact HI175.out | apply IsS120.alloc | apply IsS120.drewN | apply IsS120.drew | apply IsS120.set_0 | apply IsS120.set_1) | exact HI175.out)) hg (IsS120.own_ne HI175.out HO_7.out (by decide))); have n3_ := Aside0.mk ((by rw [hw]; exact below_set (below_set (below_set (HB.out) GB44.out) GB44.out) GB44.out : Below w.heap.size w w47)); clear HO_4; clear HO_7; clear HI175; clear HB; have HO_4 := n0_; have HO_7 := n1_; have HI175 := n2_; have HB := n3_; clear n0_ n1_ n2_ n3_; clear hg hw hp_))
                                go_roundg k4
                                case measure => have := HK1.out; have := HJ3.out; have := HJ12.out; have := HK4.out; omega
                                case rel => exact ⟨(y203), (wrap64 (x11_4 + 1)), (by first | rfl | (simp; done) | (simp [*]; done)), H', ⟨by have := HK1.out; have := HJ3.out; have := HJ12.out; have := HK4.out; omega⟩, ⟨by (with_reducible repeat (first | apply Kd.R_alloc | apply Kd.R_drewN | apply Kd.R_drew)); exact HO_4.out⟩, ⟨by (with_reducible repeat (first | apply Kd.R_alloc | apply Kd.R_drewN | apply Kd.R_drew)); exact HO_7.out⟩, ⟨by repeat (first | (with_reducible first | exact HI175.out | apply IsS120.alloc | apply IsS120.drewN | apply IsS120.drew | apply IsS120.set_0 | apply IsS120.set_1) | exact HI175.out)⟩, ⟨by repeat (first | (with_reducible first | exact HB.out | apply below_alloc | apply pw_below_drewN | apply below_drew1 | refine below_set ?_ (IsS120.ge HI175.out)) | exact HB.out)⟩⟩
                              · rw [if_neg c43] at H
                                exact absurd H (by simp)
                            · rw [if_neg c42] at H
                              have c42b0 : decide (x11_4 < (x7_4.length : Int)) = false := decide_eq_false c42
                              clear c42
                              have H' := Aside0.mk H
                              clear H
                              obtain ⟨Ao48, co48, eo48⟩ := Kd.R_slice HO_7.out
                              subst eo48
                              go_wp2
                              go_loopg [7, 12] k4 (fun kq v7 v12 w' => ∃ (x7_5 : List (S45)) (x12_5 : Int), v12 = .int .i64 x12_5 ∧ Aside0 (windhoverlaw04_FrameFeeds.l2 kq l0 y184 (t187.length : Int) x6_1 x7_5 x12_5 x176000_12 x176001_12 = some r) ∧ Aside0 (kq ≤ k4) ∧ Aside0 (Kd.R (Kd.int .u8) 5 w' w.heap.size (fun _ => True) v185 y184) ∧ Aside0 (Kd.R k45 45 w' w.heap.size (fun _ => True) v7 x7_5) ∧ Aside0 (IsS120 w w' g175 x176000_12 x176001_12) ∧ Aside0 (Below w.heap.size w w'))
                              case atStart => exact ⟨(x7_4), (0), (by first | rfl | (simp; done) | (simp [*]; done)), H', ⟨Nat.le_refl _⟩, ⟨by (with_reducible repeat (first | apply Kd.R_alloc | apply Kd.R_drewN | apply Kd.R_drew)); exact HO_4.out⟩, ⟨by (with_reducible repeat (first | apply Kd.R_alloc | apply Kd.R_drewN | apply Kd.R_drew)); exact HO_7.out⟩, ⟨by repeat (first | (with_reducible first | exact HI175.out | apply IsS120.alloc | apply IsS120.drewN | apply IsS120.drew | apply IsS120.set_0 | apply IsS120.set_1) | exact HI175.out)⟩, ⟨by repeat (first | (with_reducible first | exact HB.out | apply below_alloc | apply pw_below_drewN | apply below_drew1 | refine below_set ?_ (IsS120.ge HI175.out)) | exact HB.out)⟩⟩
                              case round =>
                                clear H'
                                try clear c1
                                try clear p1
                                try clear q1
                                try clear hx1
                                try clear hcv1
                                try clear c2
                                try clear p2
                                try clear q2
                                try clear c3
                                try clear q3
                                try clear c4
                                try clear p4
                                try clear q4
                                try clear hx4
                                try clear hf4
                                try clear c5
                                try clear c5b0
                                try clear p6
                                try clear c7
                                try clear c8
                                try clear c8b0
                                try clear c9
                                try clear c9b0
                                try clear c11
                                try clear hcv16
                                try clear p17
                                try clear q17
                                try clear hx17
                                try clear c18
                                try clear c18b0
                                try clear p18
                                try clear q18
                                try clear hx18
                                try clear c20
                                try clear c20b0
                                try clear c20b1
                                try clear c21
                                try clear c21b0
                                try clear c21b1
                                try clear c23
                                try clear c26
                                try clear c26b0
                                try clear c26b1
                                try clear c29
                                try clear q29
                                try clear c34
                                try clear q34
                                try clear c38
                                try clear q38
                                try clear c40
                                try clear c42
                                try clear c42b0
                                try clear c43
                                try clear c43b0
                                try clear c44
                                try clear p44
                                try clear q44
                                try clear hx44
                                try clear hf44
                                try clear c45
                                try clear c46
                                try clear hx46
                                try clear hf46
                                try clear c47
                                try clear hx177_0
                                try clear hx183_0
                                try clear hx44_0
                                try clear hx44_1
                                try clear hx44_2
                                try clear hx46_0
                                try clear hx46_1
                                try clear hx46_2
                                try clear p1
                                try clear p17
                                try clear p177
                                try clear p18
                                try clear p183
                                try clear p2
                                try clear p44
                                try clear q029
                                try clear q034
                                try clear q038
                                try clear q1
                                try clear q17
                                try clear q177
                                try clear q18
                                try clear q183
                                try clear q2
                                try clear q29
                                try clear q3
                                try clear q34
                                try clear q38
                                try clear q44
                                obtain ⟨x7_5, x12_5, rfl, HA, HK5, HO_4, HO_7, HI175, HB⟩ := hrel
                                cases gk with
                                | zero => exact absurd HA.out (by simp [windhoverlaw04_FrameFeeds.l2])
                                | succ k5 =>
                                  have H := HA.out
                                  clear HA
                                  simp only [windhoverlaw04_FrameFeeds.l2] at H
                                  by_cases c49 : x12_5 < 9
                                  · rw [if_pos c49] at H
                                    have c49b0 : decide (x12_5 < 9) = true := decide_eq_true c49
                                    clear c49
                                    by_cases c50 : x7_5.length < 4398046511104
                                    · rw [if_pos c50] at H
                                      have LMc50 := Aside0.mk c50
                                      clear c50
                                      obtain ⟨y204, hy204⟩ : ∃ y_ : List (S45), y_ = (x7_5 ++ [(⟨(-8), 0, (⟨#[]⟩ : ByteArray)⟩ : S45)]) := ⟨_, rfl⟩
                                      replace H : (windhoverlaw04_FrameFeeds.l2 k5 l0 y184 (t187.length : Int) x6_1 y204 (wrap64 (x12_5 + 1)) x176000_12 x176001_12) = some r := by first | (rw [hy204]; with_reducible exact H) | (have H2_ := (Option.bind_some _ _).symm.trans H; rw [hy204]; with_reducible exact H2_) | (have H2_ := (Option.bind_some _ _).symm.trans H; with_reducible exact H2_) | with_reducible exact H | (rw [hy204]; exact H) | exact H
                                      have Ny204 := Aside0.mk hy204
                                      clear hy204
                                      have H' := Aside0.mk H
                                      clear H
                                      go_wp2_with (first | ((with_reducible refine gate_builtin (b := .append) (xs := #[.tmp 87, .tmp 89]) rfl ?_); (try (refine gate_guard (by rfl) ?_; dsimp only)); at_builtin; refine Kd.R_append k45 (w0 := w) w.heap.size rfl (.tmp 87) (.tmp 89) 71 45 (.agg #[(.int .i64 0), (.int .i64 0), (.string ⟨#[]⟩)]) 32 rfl Try.underlying71 info45 rfl (by decide) (by omega) u7 x7_5 (⟨(-8), 0, (⟨#[]⟩ : ByteArray)⟩ : S45) [.int .i64 (-8), .int .i64 0, .string (⟨#[]⟩ : ByteArray)] (fun _ => True) (fun _ => False) rfl rfl ?aP (fun _ hk => hk.elim) ?aF ?aO ?aB ?aS ?aL ?_; (case aP => exact k45_mkM _ _ _ (⟨(-8), 0, (⟨#[]⟩ : ByteArray)⟩ : S45)); (case aB => exact (by repeat (first | (with_reducible first | exact HB.out | apply below_alloc | apply pw_below_drewN | apply below_drew1 | refine below_set ?_ (IsS120.ge HI175.out)) | exact HB.out))); (case aF => exact (fun _ _ => trivial)); (case aO => exact (by (with_reducible repeat (first | apply Kd.R_alloc | apply Kd.R_drewN | apply Kd.R_drew)); exact HO_7.out)); (case aS => exact (below_size (by repeat (first | (with_reducible first | exact HB.out | apply below_alloc | apply pw_below_drewN | apply below_drew1 | refine below_set ?_ (IsS120.ge HI175.out)) | exact HB.out)))); (case aL => have := LMc50.out; omega); intro v205 w51 ho hb hg hat; rw [← Ny204.out] at ho; have n0_ := Aside0.mk (Kd.R_over' (by (with_reducible repeat (first | apply Kd.R_alloc | apply Kd.R_drewN | apply Kd.R_drew)); exact HO_4.out) (Kd.R_typed (by (with_reducible repeat (first | apply Kd.R_alloc | apply Kd.R_drewN | apply Kd.R_drew)); exact HO_7.out)) (by decide) hg); have n1_ := Aside0.mk (IsS120.grown (by repeat (first | (with_reducible first | exact HI175.out | apply IsS120.alloc | apply IsS120.drewN | apply IsS120.drew | apply IsS120.set_0 | apply IsS120.set_1) | exact HI175.out)) hg (IsS120.own_ne HI175.out HO_7.out (by decide))); have n2_ := Aside0.mk (hb); have n3_ := Aside0.mk (ho); clear HO_4; clear HI175; clear HB; clear HO_7; have HO_4 := n0_; have HI175 := n1_; have HB := n2_; have HO206 := n3_; clear n0_ n1_ n2_ n3_; clear ho hb hg hat))
                                      go_roundg k5
                                      case measure => have := HK1.out; have := HJ3.out; have := HJ12.out; have := HK4.out; have := HK5.out; omega
                                      case rel => exact ⟨(y204), (wrap64 (x12_5 + 1)), (by first | rfl | (simp; done) | (simp [*]; done)), H', ⟨by have := HK1.out; have := HJ3.out; have := HJ12.out; have := HK4.out; have := HK5.out; omega⟩, ⟨by (with_reducible repeat (first | apply Kd.R_alloc | apply Kd.R_drewN | apply Kd.R_drew)); exact HO_4.out⟩, ⟨by (with_reducible repeat (first | apply Kd.R_alloc | apply Kd.R_drewN | apply Kd.R_drew)); exact HO206.out⟩, ⟨by repeat (first | (with_reducible first | exact HI175.out | apply IsS120.alloc | apply IsS120.drewN | apply IsS120.drew | apply IsS120.set_0 | apply IsS120.set_1) | exact HI175.out)⟩, ⟨by repeat (first | (with_reducible first | exact HB.out | apply below_alloc | apply pw_below_drewN | apply below_drew1 | refine below_set ?_ (IsS120.ge HI175.out)) | exact HB.out)⟩⟩
                                    · rw [if_neg c50] at H
                                      exact absurd H (by simp)
                                  · rw [if_neg c49] at H
                                    have c49b0 : decide (x12_5 < 9) = false := decide_eq_false c49
                                    clear c49
                                    have H' := Aside0.mk H
                                    clear H
                                    go_wp2
                                    go_roundg k5
                                    case measure => have := HK1.out; have := HJ3.out; have := HJ12.out; have := HK4.out; have := HK5.out; omega
                                    case rel => exact ⟨(y184), ((t187.length : Int)), (wrap64 (x6_1 + 1)), (x176000_12), (x176001_12), (by first | rfl | (simp; done) | (simp [*]; done)), (by first | rfl | (simp; done) | (simp [*]; done)), H', ⟨by have := HK1.out; have := HJ3.out; have := HJ12.out; have := HK4.out; have := HK5.out; omega⟩, ⟨by (with_reducible repeat (first | apply Kd.R_alloc | apply Kd.R_drewN | apply Kd.R_drew)); exact HO_4.out⟩, ⟨by repeat (first | (with_reducible first | exact HI175.out | apply IsS120.alloc | apply IsS120.drewN | apply IsS120.drew | apply IsS120.set_0 | apply IsS120.set_1) | exact HI175.out)⟩, ⟨by repeat (first | (with_reducible first | exact HB.out | apply below_alloc | apply pw_below_drewN | apply below_drew1 | refine below_set ?_ (IsS120.ge HI175.out)) | exact HB.out)⟩⟩
                · rw [if_neg c11] at H
                  exact absurd H (by simp)
              · rw [if_neg c9] at H
                exact absurd H (by simp)
            · rw [if_neg c8] at H
              exact absurd H (by simp)
          · replace c7 := Bool.eq_false_iff.mpr c7
            subst c7
            have H1 : ((windhoverlaw04_awake.f).bind fun t176 => (some t176)) = some r := by rw [if_neg (show ¬ (false = true) by decide)] at H; exact H
            clear H
            have H := H1
            clear H1
            replace H := Option.bind_eq_some_iff.mp H
            obtain ⟨t176, A520, H⟩ := H
            replace H : (some t176) = some r := H
            have A52 := Aside0.mk A520
            clear A520
            obtain rfl := Option.some.inj H
            go_wp2_with (first | ((with_reducible refine gate_callee (f := 44) rfl ?_); refine goesL_ (some 91) rfl rfl Try.func44 (by kernel_rfl) rfl #[] rfl (by (try simp only [List.map_toArray, List.map_cons, List.map_nil]); first | done | rfl | (simp only [List.length_drop, List.length_take]; rfl)) ?_; (with_reducible refine (windhoverlaw04_awake.calls  t176 _ A52.out).mono ?_); rintro e w53 ⟨rfl, hb⟩; refine ⟨_, rfl, ?_⟩; have n0_ := Aside0.mk (Kd.R_below (by (with_reducible repeat (first | apply Kd.R_alloc | apply Kd.R_drewN | apply Kd.R_drew)); exact HO_4.out) hb); have n1_ := Aside0.mk (IsS120.below (by repeat (first | (with_reducible first | exact HI175.out | apply IsS120.alloc | apply IsS120.drewN | apply IsS120.drew | apply IsS120.set_0 | apply IsS120.set_1) | exact HI175.out)) hb); have n2_ := Aside0.mk (below_step (by repeat (first | (with_reducible first | exact HB.out | apply below_alloc | apply pw_below_drewN | apply below_drew1 | refine below_set ?_ (IsS120.ge HI175.out)) | exact HB.out)) hb); clear HO_4; clear HI175; clear HB; have HO_4 := n0_; have HI175 := n1_; have HB := n2_; clear n0_ n1_ n2_; (try clear hb); (try clear hb2); (try clear hk); (try clear hi)))
            go_ret
            exact ⟨by first | rfl | (simp [errW_none, errW_some] <;> rfl) | (simp [*, errW_none, errW_some] <;> rfl), by repeat (first | (with_reducible first | exact HB.out | apply below_alloc | apply pw_below_drewN | apply below_drew1 | refine below_set ?_ (IsS120.ge HI175.out)) | exact HB.out)⟩

-- NOT PRINTED: function 10 (windhoverlaw04_FrameCuts)

end Go.Proofs.Ytbbinmplkbpcdaa.Pr
