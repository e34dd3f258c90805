-- PRINTED by print.py (a twelfth state) out of the translation. Not trusted: Lean checks it.
import Derived.Test.YtbbinmplkbpcdaaPm0
import Derived.Test.YtbbinmplkbpcdaaPm2
namespace Go.Proofs.Ytbbinmplkbpcdaa.Pm
open Go.RowKit Go.Proofs.YtbbinmplkbpcdaaW.PrintWords Go.Proofs.YtbbinmplkbpcdaaW.PrintLast Go.Proofs.YtbbinmplkbpcdaaW.PrintMore
attribute [local go_sem] max2_int min2_int max_two min_two max_three min_three max_four min_four   -- for this text's walks alone
set_option linter.unusedVariables false
set_option linter.unusedSimpArgs false

/-! ### frame_Reader_Feed: function 46 -/
def frame_Reader_Feed.l0 : Nat → List (S45) → ByteArray → Int → Option ((List (S45)) × ByteArray × Int)
  | 0, _, _, _ => none
  | k + 1, x5, x1000, x1001 => (frame_buffer_seek.f x1000 x1001).bind fun bt133 => (if bt133.1 = true then ((frame_buffer_held.f bt133.2.1 bt133.2.2).bind fun bt137 => (if bt137.1 < 2 then ((strings_Clone.f bt137.2.1).bind fun t140 => (some (x5, t140, bt137.2.2))) else (if 1 < (bt137.2.1.size : Int) then (if (wrap64 (bt bt137.2.1 1)) > 64 then ((frame_Reader_wrong.f bt137.2.1 bt137.2.2).bind fun bt141 => (frame_Reader_Feed.l0 k x5 bt141.1 bt141.2)) else ((frame_buffer_held.f bt137.2.1 bt137.2.2).bind fun bt143 => (if bt143.1 < (wrap64 ((wrap64 (4 + (wrap64 (bt bt137.2.1 1)))) + 2)) then ((strings_Clone.f bt143.2.1).bind fun t146 => (some (x5, t146, bt143.2.2))) else (if 0 ≤ (wrap64 ((wrap64 (4 + (wrap64 (bt bt137.2.1 1)))) + 2)) then (if (wrap64 ((wrap64 (4 + (wrap64 (bt bt137.2.1 1)))) + 2)) ≤ (bt143.2.1.size : Int) then (if 1 ≤ (wrap64 (4 + (wrap64 (bt bt137.2.1 1)))) then (if (wrap64 (4 + (wrap64 (bt bt137.2.1 1)))) ≤ ((bt143.2.1.extract 0 ((wrap64 ((wrap64 (4 + (wrap64 (bt bt137.2.1 1)))) + 2)) : Int).toNat).size : Int) then ((frame_check.f k ((bt143.2.1.extract 0 ((wrap64 ((wrap64 (4 + (wrap64 (bt bt137.2.1 1)))) + 2)) : Int).toNat).extract 1 ((wrap64 (4 + (wrap64 (bt bt137.2.1 1)))) : Int).toNat)).bind fun t147 => (if 0 ≤ (wrap64 (4 + (wrap64 (bt bt137.2.1 1)))) then (if t147.toList = ((bt143.2.1.extract 0 ((wrap64 ((wrap64 (4 + (wrap64 (bt bt137.2.1 1)))) + 2)) : Int).toNat).extract ((wrap64 (4 + (wrap64 (bt bt137.2.1 1)))) : Int).toNat (bt143.2.1.extract 0 ((wrap64 ((wrap64 (4 + (wrap64 (bt bt137.2.1 1)))) + 2)) : Int).toNat).size).toList then (if 2 < ((bt143.2.1.extract 0 ((wrap64 ((wrap64 (4 + (wrap64 (bt bt137.2.1 1)))) + 2)) : Int).toNat).size : Int) then (if 3 < ((bt143.2.1.extract 0 ((wrap64 ((wrap64 (4 + (wrap64 (bt bt137.2.1 1)))) + 2)) : Int).toNat).size : Int) then (if 4 ≤ (wrap64 (4 + (wrap64 (bt bt137.2.1 1)))) then ((strings_Clone.f ((bt143.2.1.extract 0 ((wrap64 ((wrap64 (4 + (wrap64 (bt bt137.2.1 1)))) + 2)) : Int).toNat).extract 4 ((wrap64 (4 + (wrap64 (bt bt137.2.1 1)))) : Int).toNat)).bind fun t148 => (if x5.length < 4398046511104 then ((frame_buffer_drop.f bt143.2.1 bt143.2.2 ((bt143.2.1.extract 0 ((wrap64 ((wrap64 (4 + (wrap64 (bt bt137.2.1 1)))) + 2)) : Int).toNat).size : Int)).bind fun bt152 => (frame_Reader_Feed.l0 k (x5 ++ [(⟨wrap64 (bt (bt143.2.1.extract 0 ((wrap64 ((wrap64 (4 + (wrap64 (bt bt137.2.1 1)))) + 2)) : Int).toNat) 2), wrap64 (bt (bt143.2.1.extract 0 ((wrap64 ((wrap64 (4 + (wrap64 (bt bt137.2.1 1)))) + 2)) : Int).toNat) 3), t148⟩ : S45)]) bt152.1 bt152.2)) else (none))) else (none)) else (none)) else (none)) else ((frame_Reader_wrong.f bt143.2.1 bt143.2.2).bind fun bt154 => (frame_Reader_Feed.l0 k x5 bt154.1 bt154.2))) else (none))) else (none)) else (none)) else (none)) else (none))))) else (none)))) else ((strings_Clone.f bt133.2.1).bind fun t136 => (some (x5, t136, bt133.2.2))))
def frame_Reader_Feed.f (k : Nat) (s0_0 : ByteArray) (s0_1 : Int) (a1 : ByteArray) : Option ((List (S45)) × ByteArray × Int) := if s0_0.size + a1.size ≤ 9223372036854775807 then (frame_Reader_Feed.l0 k ([] : List (S45)) (s0_0 ++ a1) s0_1) else (none)
theorem frame_Reader_Feed.mono_l : ∀ k, (∀ y0 y1 y2, LeO (frame_Reader_Feed.l0 k y0 y1 y2) (frame_Reader_Feed.l0 (k + 1) y0 y1 y2))
  | 0 => fun _ _ _ r h => by simp [frame_Reader_Feed.l0] at h
  | k + 1 => by
    have ih0 := frame_Reader_Feed.mono_l k
    · intro y0 y1 y2
      unfold frame_Reader_Feed.l0
      repeat' first
      | (with_reducible exact ih0 _ _ _)
      | (with_reducible exact frame_check.mono _ _)
      | (with_reducible exact LeO.refl _)
      | (with_reducible exact LeO.none _)
      | (with_reducible refine LeO.ite ?_ ?_)
      | (with_reducible refine LeO.bind ?_ (fun _ => ?_))
      | exact ih0 _ _ _
      | exact frame_check.mono _ _
      | exact LeO.none _
      | refine LeO.ite ?_ ?_
      | refine LeO.bind ?_ (fun _ => ?_)
theorem frame_Reader_Feed.mono : ∀ a0 a1 a2 k, LeO (frame_Reader_Feed.f k a0 a1 a2) (frame_Reader_Feed.f (k + 1) a0 a1 a2) := by
  intro a0 a1 a2 k
  have ih0 := frame_Reader_Feed.mono_l k
  unfold frame_Reader_Feed.f
  repeat' first
      | (with_reducible exact ih0 _ _ _)
      | (with_reducible exact frame_check.mono _ _)
      | (with_reducible exact LeO.refl _)
      | (with_reducible exact LeO.none _)
      | (with_reducible refine LeO.ite ?_ ?_)
      | (with_reducible refine LeO.bind ?_ (fun _ => ?_))
      | exact ih0 _ _ _
      | exact frame_check.mono _ _
      | exact LeO.none _
      | refine LeO.ite ?_ ?_
      | refine LeO.bind ?_ (fun _ => ?_)
def frame_Reader_Feed.T12 : Bool × List (List Nat × List Nat) := (true, [([], []), ([], []), ([1], [1]), ([0, 2], [0, 2]), ([3], [3]), ([], []), ([], []), ([6], [6]), ([5, 7], [5, 7]), ([4, 8], [4, 8])])
def frame_Reader_Feed.B12 : List Nat := [0, 0, 2, 7, 15, 0, 0, 64, 224, 511]
theorem frame_Reader_Feed.tab12 : rtab .any (opsOf Try.f46 12) = frame_Reader_Feed.T12 := by kernel_rfl
theorem frame_Reader_Feed.bits12 : waitsOk frame_Reader_Feed.T12.2 frame_Reader_Feed.B12 = true := by kernel_rfl
def frame_Reader_Feed.T14 : Bool × List (List Nat × List Nat) := (true, [([], []), ([], []), ([1], [1]), ([2], [2]), ([], []), ([4], [4]), ([5], [5]), ([], []), ([], []), ([8], [8]), ([7, 9], [7, 9]), ([10], [10]), ([3, 6, 11], [3, 6, 11]), ([12], [12]), ([0, 13, 11], [0, 13]), ([14, 14, 0, 1, 2, 3, 4, 5, 6, 7, 8, 9, 10, 11, 12, 13, 14], [0, 14])])
def frame_Reader_Feed.B14 : List Nat := [0, 0, 2, 6, 0, 16, 48, 0, 0, 256, 896, 1920, 4094, 8190, 16383, 32767]
theorem frame_Reader_Feed.tab14 : rtab .any (opsOf Try.f46 14) = frame_Reader_Feed.T14 := by kernel_rfl
theorem frame_Reader_Feed.bits14 : waitsOk frame_Reader_Feed.T14.2 frame_Reader_Feed.B14 = true := by kernel_rfl
set_option maxHeartbeats 8000000 in
set_option maxRecDepth 100000 in
theorem frame_Reader_Feed.calls (k : Nat) (g : Nat) (s0_0 : ByteArray) (s0_1 : Int) (a1 : ByteArray) (r1 : List (S45)) (r2 : ByteArray) (r3 : Int) (w0 w : World) (hI : IsS120 w0 w g s0_0 s0_1) (hB : Below w0.heap.size w0 w) (h : frame_Reader_Feed.f k s0_0 s0_1 a1 = some (r1, r2, r3)) :
    Calls Try.prog 46 #[.pointer (some ⟨g, 0, none⟩), .string a1] w fun e w' => ∃ v0_ : Value, e = .returned (v0_) ∧ Kd.R k45 45 w' w.heap.size (fun _ => True) v0_ r1 ∧ IsS120 w0 w' g r2 r3 ∧ Below w0.heap.size w0 w' ∧ KeepBut w w' g none := by
  have hu45 := Try.underlying45
  have HI0 := Aside0.mk hI
  have HK := Aside0.mk (KeepBut.refl w g none)
  have HL := Aside0.mk hB.size
  clear hI
  have HW0 := Aside0.mk hB.size
  have HB := Aside0.mk hB
  clear hB
  have H : (if s0_0.size + a1.size ≤ 9223372036854775807 then (frame_Reader_Feed.l0 k ([] : List (S45)) (s0_0 ++ a1) s0_1) else (none)) = some (r1, r2, r3) := h
  clear h
  by_cases c3 : s0_0.size + a1.size ≤ 9223372036854775807
  · rw [if_pos c3] at H
    have c3b0 := eq_true c3
    have c3b1 : decide (s0_0.size + a1.size ≤ 9223372036854775807) = true := decide_eq_true c3
    try have c3b2 : (9223372036854775807 < s0_0.size + a1.size) = False := eq_false (Nat.not_lt.2 c3)
    have H' := Aside0.mk H
    clear H
    obtain ⟨HGz4, hgz4⟩ := HI0.out
    have hcz4_0 := cellS120_0 HGz4
    have hcz4_1 := cellS120_1 HGz4
    have hfz4_0 := blk_frozen HGz4 0
    have hfz4_1 := blk_frozen HGz4 1
    clear HGz4 hgz4
    go_enter Try.func46, Try.ntmps46
    go_wp2
    go_loopg [5] k (fun kq v5 w' => ∃ (x5_1 : List (S45)) (x1000_1 : ByteArray) (x1001_1 : Int), Aside0 (frame_Reader_Feed.l0 kq x5_1 x1000_1 x1001_1 = some (r1, r2, r3)) ∧ Aside0 (kq ≤ k) ∧ Aside0 (Kd.R k45 45 w' w.heap.size (fun _ => True) v5 x5_1) ∧ Aside0 (IsS120 w0 w' g x1000_1 x1001_1) ∧ Aside0 (KeepBut w w' g none) ∧ Aside0 (Below w0.heap.size w0 w'))
    case atStart => exact ⟨(([] : List (S45))), (s0_0 ++ a1), (s0_1), H', ⟨Nat.le_refl _⟩, ⟨by first | exact Kd.R_nil _ _ _ _ _ | exact Kd.N_nil _ _ _ _ _ | exact Kd.V_nil _ _ _ _ _ | exact Kd.Q_nil _ _ _ _ _ | exact Kd.S_nil _ _ _ _ _⟩, ⟨by repeat (first | (with_reducible first | exact HI0.out | apply IsS120.alloc | apply IsS120.drewN | apply IsS120.drew | apply IsS120.set_0 | apply IsS120.set_1) | exact HI0.out)⟩, ⟨by repeat (first | (with_reducible first | exact HK.out | apply KeepBut.set_ | apply keep_drewN | apply keep_drew | apply keep_alloc) | exact HK.out)⟩, ⟨by repeat (first | (with_reducible first | exact HB.out | apply below_alloc | apply pw_below_drewN | apply below_drew1 | refine below_set ?_ (IsS120.ge HI0.out)) | exact HB.out)⟩⟩
    case round =>
      clear H'
      try clear p2
      try clear c3
      try clear c3b0
      try clear c3b1
      try clear c3b2
      try clear c4
      try clear hcz4_0
      try clear hcz4_1
      try clear hfz4_0
      try clear hfz4_1
      obtain ⟨x5_1, x1000_1, x1001_1, HA, HK1, HO_5, HI0, HK, HB⟩ := hrel
      cases gk with
      | zero => exact absurd HA.out (by simp [frame_Reader_Feed.l0])
      | succ k1 =>
        have H := HA.out
        clear HA
        simp only [frame_Reader_Feed.l0] at H
        replace H := Option.bind_eq_some_iff.mp H
        obtain ⟨⟨t133, t134, t135⟩, A50, H⟩ := H
        replace H : (if t133 = true then ((frame_buffer_held.f t134 t135).bind fun bt137 => (if bt137.1 < 2 then ((strings_Clone.f bt137.2.1).bind fun t140 => (some (x5_1, t140, bt137.2.2))) else (if 1 < (bt137.2.1.size : Int) then (if (wrap64 (bt bt137.2.1 1)) > 64 then ((frame_Reader_wrong.f bt137.2.1 bt137.2.2).bind fun bt141 => (frame_Reader_Feed.l0 k1 x5_1 bt141.1 bt141.2)) else ((frame_buffer_held.f bt137.2.1 bt137.2.2).bind fun bt143 => (if bt143.1 < (wrap64 ((wrap64 (4 + (wrap64 (bt bt137.2.1 1)))) + 2)) then ((strings_Clone.f bt143.2.1).bind fun t146 => (some (x5_1, t146, bt143.2.2))) else (if 0 ≤ (wrap64 ((wrap64 (4 + (wrap64 (bt bt137.2.1 1)))) + 2)) then (if (wrap64 ((wrap64 (4 + (wrap64 (bt bt137.2.1 1)))) + 2)) ≤ (bt143.2.1.size : Int) then (if 1 ≤ (wrap64 (4 + (wrap64 (bt bt137.2.1 1)))) then (if (wrap64 (4 + (wrap64 (bt bt137.2.1 1)))) ≤ ((bt143.2.1.extract 0 ((wrap64 ((wrap64 (4 + (wrap64 (bt bt137.2.1 1)))) + 2)) : Int).toNat).size : Int) then ((frame_check.f k1 ((bt143.2.1.extract 0 ((wrap64 ((wrap64 (4 + (wrap64 (bt bt137.2.1 1)))) + 2)) : Int).toNat).extract 1 ((wrap64 (4 + (wrap64 (bt bt137.2.1 1)))) : Int).toNat)).bind fun t147 => (if 0 ≤ (wrap64 (4 + (wrap64 (bt bt137.2.1 1)))) then (if t147.toList = ((bt143.2.1.extract 0 ((wrap64 ((wrap64 (4 + (wrap64 (bt bt137.2.1 1)))) + 2)) : Int).toNat).extract ((wrap64 (4 + (wrap64 (bt bt137.2.1 1)))) : Int).toNat (bt143.2.1.extract 0 ((wrap64 ((wrap64 (4 + (wrap64 (bt bt137.2.1 1)))) + 2)) : Int).toNat).size).toList then (if 2 < ((bt143.2.1.extract 0 ((wrap64 ((wrap64 (4 + (wrap64 (bt bt137.2.1 1)))) + 2)) : Int).toNat).size : Int) then (if 3 < ((bt143.2.1.extract 0 ((wrap64 ((wrap64 (4 + (wrap64 (bt bt137.2.1 1)))) + 2)) : Int).toNat).size : Int) then (if 4 ≤ (wrap64 (4 + (wrap64 (bt bt137.2.1 1)))) then ((strings_Clone.f ((bt143.2.1.extract 0 ((wrap64 ((wrap64 (4 + (wrap64 (bt bt137.2.1 1)))) + 2)) : Int).toNat).extract 4 ((wrap64 (4 + (wrap64 (bt bt137.2.1 1)))) : Int).toNat)).bind fun t148 => (if x5_1.length < 4398046511104 then ((frame_buffer_drop.f bt143.2.1 bt143.2.2 ((bt143.2.1.extract 0 ((wrap64 ((wrap64 (4 + (wrap64 (bt bt137.2.1 1)))) + 2)) : Int).toNat).size : Int)).bind fun bt152 => (frame_Reader_Feed.l0 k1 (x5_1 ++ [(⟨wrap64 (bt (bt143.2.1.extract 0 ((wrap64 ((wrap64 (4 + (wrap64 (bt bt137.2.1 1)))) + 2)) : Int).toNat) 2), wrap64 (bt (bt143.2.1.extract 0 ((wrap64 ((wrap64 (4 + (wrap64 (bt bt137.2.1 1)))) + 2)) : Int).toNat) 3), t148⟩ : S45)]) bt152.1 bt152.2)) else (none))) else (none)) else (none)) else (none)) else ((frame_Reader_wrong.f bt143.2.1 bt143.2.2).bind fun bt154 => (frame_Reader_Feed.l0 k1 x5_1 bt154.1 bt154.2))) else (none))) else (none)) else (none)) else (none)) else (none))))) else (none)))) else ((strings_Clone.f t134).bind fun t136 => (some (x5_1, t136, t135)))) = some (r1, r2, r3) := H
        have A5 := Aside0.mk A50
        clear A50
        by_cases c6 : t133 = true
        · subst c6
          have H1 : ((frame_buffer_held.f t134 t135).bind fun bt137 => (if bt137.1 < 2 then ((strings_Clone.f bt137.2.1).bind fun t140 => (some (x5_1, t140, bt137.2.2))) else (if 1 < (bt137.2.1.size : Int) then (if (wrap64 (bt bt137.2.1 1)) > 64 then ((frame_Reader_wrong.f bt137.2.1 bt137.2.2).bind fun bt141 => (frame_Reader_Feed.l0 k1 x5_1 bt141.1 bt141.2)) else ((frame_buffer_held.f bt137.2.1 bt137.2.2).bind fun bt143 => (if bt143.1 < (wrap64 ((wrap64 (4 + (wrap64 (bt bt137.2.1 1)))) + 2)) then ((strings_Clone.f bt143.2.1).bind fun t146 => (some (x5_1, t146, bt143.2.2))) else (if 0 ≤ (wrap64 ((wrap64 (4 + (wrap64 (bt bt137.2.1 1)))) + 2)) then (if (wrap64 ((wrap64 (4 + (wrap64 (bt bt137.2.1 1)))) + 2)) ≤ (bt143.2.1.size : Int) then (if 1 ≤ (wrap64 (4 + (wrap64 (bt bt137.2.1 1)))) then (if (wrap64 (4 + (wrap64 (bt bt137.2.1 1)))) ≤ ((bt143.2.1.extract 0 ((wrap64 ((wrap64 (4 + (wrap64 (bt bt137.2.1 1)))) + 2)) : Int).toNat).size : Int) then ((frame_check.f k1 ((bt143.2.1.extract 0 ((wrap64 ((wrap64 (4 + (wrap64 (bt bt137.2.1 1)))) + 2)) : Int).toNat).extract 1 ((wrap64 (4 + (wrap64 (bt bt137.2.1 1)))) : Int).toNat)).bind fun t147 => (if 0 ≤ (wrap64 (4 + (wrap64 (bt bt137.2.1 1)))) then (if t147.toList = ((bt143.2.1.extract 0 ((wrap64 ((wrap64 (4 + (wrap64 (bt bt137.2.1 1)))) + 2)) : Int).toNat).extract ((wrap64 (4 + (wrap64 (bt bt137.2.1 1)))) : Int).toNat (bt143.2.1.extract 0 ((wrap64 ((wrap64 (4 + (wrap64 (bt bt137.2.1 1)))) + 2)) : Int).toNat).size).toList then (if 2 < ((bt143.2.1.extract 0 ((wrap64 ((wrap64 (4 + (wrap64 (bt bt137.2.1 1)))) + 2)) : Int).toNat).size : Int) then (if 3 < ((bt143.2.1.extract 0 ((wrap64 ((wrap64 (4 + (wrap64 (bt bt137.2.1 1)))) + 2)) : Int).toNat).size : Int) then (if 4 ≤ (wrap64 (4 + (wrap64 (bt bt137.2.1 1)))) then ((strings_Clone.f ((bt143.2.1.extract 0 ((wrap64 ((wrap64 (4 + (wrap64 (bt bt137.2.1 1)))) + 2)) : Int).toNat).extract 4 ((wrap64 (4 + (wrap64 (bt bt137.2.1 1)))) : Int).toNat)).bind fun t148 => (if x5_1.length < 4398046511104 then ((frame_buffer_drop.f bt143.2.1 bt143.2.2 ((bt143.2.1.extract 0 ((wrap64 ((wrap64 (4 + (wrap64 (bt bt137.2.1 1)))) + 2)) : Int).toNat).size : Int)).bind fun bt152 => (frame_Reader_Feed.l0 k1 (x5_1 ++ [(⟨wrap64 (bt (bt143.2.1.extract 0 ((wrap64 ((wrap64 (4 + (wrap64 (bt bt137.2.1 1)))) + 2)) : Int).toNat) 2), wrap64 (bt (bt143.2.1.extract 0 ((wrap64 ((wrap64 (4 + (wrap64 (bt bt137.2.1 1)))) + 2)) : Int).toNat) 3), t148⟩ : S45)]) bt152.1 bt152.2)) else (none))) else (none)) else (none)) else (none)) else ((frame_Reader_wrong.f bt143.2.1 bt143.2.2).bind fun bt154 => (frame_Reader_Feed.l0 k1 x5_1 bt154.1 bt154.2))) else (none))) else (none)) else (none)) else (none)) else (none))))) else (none)))) = some (r1, r2, r3) := by rw [if_pos rfl] at H; exact H
          clear H
          have H := H1
          clear H1
          replace H := Option.bind_eq_some_iff.mp H
          obtain ⟨⟨t137, t138, t139⟩, A70, H⟩ := H
          replace H : (if t137 < 2 then ((strings_Clone.f t138).bind fun t140 => (some (x5_1, t140, t139))) else (if 1 < (t138.size : Int) then (if (wrap64 (bt t138 1)) > 64 then ((frame_Reader_wrong.f t138 t139).bind fun bt141 => (frame_Reader_Feed.l0 k1 x5_1 bt141.1 bt141.2)) else ((frame_buffer_held.f t138 t139).bind fun bt143 => (if bt143.1 < (wrap64 ((wrap64 (4 + (wrap64 (bt t138 1)))) + 2)) then ((strings_Clone.f bt143.2.1).bind fun t146 => (some (x5_1, t146, bt143.2.2))) else (if 0 ≤ (wrap64 ((wrap64 (4 + (wrap64 (bt t138 1)))) + 2)) then (if (wrap64 ((wrap64 (4 + (wrap64 (bt t138 1)))) + 2)) ≤ (bt143.2.1.size : Int) then (if 1 ≤ (wrap64 (4 + (wrap64 (bt t138 1)))) then (if (wrap64 (4 + (wrap64 (bt t138 1)))) ≤ ((bt143.2.1.extract 0 ((wrap64 ((wrap64 (4 + (wrap64 (bt t138 1)))) + 2)) : Int).toNat).size : Int) then ((frame_check.f k1 ((bt143.2.1.extract 0 ((wrap64 ((wrap64 (4 + (wrap64 (bt t138 1)))) + 2)) : Int).toNat).extract 1 ((wrap64 (4 + (wrap64 (bt t138 1)))) : Int).toNat)).bind fun t147 => (if 0 ≤ (wrap64 (4 + (wrap64 (bt t138 1)))) then (if t147.toList = ((bt143.2.1.extract 0 ((wrap64 ((wrap64 (4 + (wrap64 (bt t138 1)))) + 2)) : Int).toNat).extract ((wrap64 (4 + (wrap64 (bt t138 1)))) : Int).toNat (bt143.2.1.extract 0 ((wrap64 ((wrap64 (4 + (wrap64 (bt t138 1)))) + 2)) : Int).toNat).size).toList then (if 2 < ((bt143.2.1.extract 0 ((wrap64 ((wrap64 (4 + (wrap64 (bt t138 1)))) + 2)) : Int).toNat).size : Int) then (if 3 < ((bt143.2.1.extract 0 ((wrap64 ((wrap64 (4 + (wrap64 (bt t138 1)))) + 2)) : Int).toNat).size : Int) then (if 4 ≤ (wrap64 (4 + (wrap64 (bt t138 1)))) then ((strings_Clone.f ((bt143.2.1.extract 0 ((wrap64 ((wrap64 (4 + (wrap64 (bt t138 1)))) + 2)) : Int).toNat).extract 4 ((wrap64 (4 + (wrap64 (bt t138 1)))) : Int).toNat)).bind fun t148 => (if x5_1.length < 4398046511104 then ((frame_buffer_drop.f bt143.2.1 bt143.2.2 ((bt143.2.1.extract 0 ((wrap64 ((wrap64 (4 + (wrap64 (bt t138 1)))) + 2)) : Int).toNat).size : Int)).bind fun bt152 => (frame_Reader_Feed.l0 k1 (x5_1 ++ [(⟨wrap64 (bt (bt143.2.1.extract 0 ((wrap64 ((wrap64 (4 + (wrap64 (bt t138 1)))) + 2)) : Int).toNat) 2), wrap64 (bt (bt143.2.1.extract 0 ((wrap64 ((wrap64 (4 + (wrap64 (bt t138 1)))) + 2)) : Int).toNat) 3), t148⟩ : S45)]) bt152.1 bt152.2)) else (none))) else (none)) else (none)) else (none)) else ((frame_Reader_wrong.f bt143.2.1 bt143.2.2).bind fun bt154 => (frame_Reader_Feed.l0 k1 x5_1 bt154.1 bt154.2))) else (none))) else (none)) else (none)) else (none)) else (none))))) else (none))) = some (r1, r2, r3) := H
          have A7 := Aside0.mk A70
          clear A70
          by_cases c8 : t137 < 2
          · rw [if_pos c8] at H
            have c8b0 : decide (t137 < 2) = true := decide_eq_true c8
            clear c8
            replace H := Option.bind_eq_some_iff.mp H
            obtain ⟨t140, A90, H⟩ := H
            replace H : (some (x5_1, t140, t139)) = some (r1, r2, r3) := H
            have A9 := Aside0.mk A90
            clear A90
            simp only [Option.some.injEq, Prod.mk.injEq] at H
            obtain ⟨rfl, rfl, rfl⟩ := H
            go_wp2_with (first | ((with_reducible refine gate_callee (f := 83) rfl ?_); refine goesL_ (some 23) rfl rfl Try.func83 (by kernel_rfl) rfl #[.pointer (some ⟨g, 0, none⟩)] rfl (by (try simp only [List.map_toArray, List.map_cons, List.map_nil]); first | done | rfl | (simp only [List.length_drop, List.length_take]; rfl)) ?_; (with_reducible refine (frame_buffer_seek.calls g x1000_1 x1001_1 true t134 t135 w0 _ ?side1 ?side2 A5.out).mono ?_); (case side1 => repeat (first | (with_reducible first | exact HI0.out | apply IsS120.alloc | apply IsS120.drewN | apply IsS120.drew | apply IsS120.set_0 | apply IsS120.set_1) | exact HI0.out)); (case side2 => repeat (first | (with_reducible first | exact HB.out | apply below_alloc | apply pw_below_drewN | apply below_drew1 | refine below_set ?_ (IsS120.ge HI0.out)) | exact HB.out)); rintro e w10 ⟨rfl, hi, hb, hk⟩; refine ⟨_, rfl, ?_⟩; have n0_ := Aside0.mk (Kd.R_mono (Kd.R_keep (IsS120.apart (show IsS120 w0 _ g x1000_1 x1001_1 from by repeat (first | (with_reducible first | exact HI0.out | apply IsS120.alloc | apply IsS120.drewN | apply IsS120.drew | apply IsS120.set_0 | apply IsS120.set_1) | exact HI0.out)) (by (with_reducible repeat (first | apply Kd.R_alloc | apply Kd.R_drewN | apply Kd.R_drew)); exact HO_5.out) (by decide)) hk (fun _ h => h.2)) (fun _ h => h.1)); have n1_ := Aside0.mk (KeepBut.trans (by repeat (first | (with_reducible first | exact HK.out | apply KeepBut.set_ | apply keep_drewN | apply keep_drew | apply keep_alloc) | exact HK.out)) hk (.inl rfl)); have n2_ := Aside0.mk (hb); have n3_ := Aside0.mk (hi); clear HO_5; clear HK; clear HB; clear HI0; have HO_5 := n0_; have HK := n1_; have HB := n2_; have HI0 := n3_; clear n0_ n1_ n2_ n3_; (try clear hb); (try clear hb2); (try clear hk); (try clear hi)) | ((with_reducible refine gate_callee (f := 84) rfl ?_); refine goesL_ (some 27) rfl rfl Try.func84 (by kernel_rfl) rfl #[.pointer (some ⟨g, 0, none⟩)] rfl (by (try simp only [List.map_toArray, List.map_cons, List.map_nil]); first | done | rfl | (simp only [List.length_drop, List.length_take]; rfl)) ?_; (with_reducible refine (frame_buffer_held.calls g t134 t135 t137 t138 t139 w0 _ ?side1 ?side2 A7.out).mono ?_); (case side1 => repeat (first | (with_reducible first | exact HI0.out | apply IsS120.alloc | apply IsS120.drewN | apply IsS120.drew | apply IsS120.set_0 | apply IsS120.set_1) | exact HI0.out)); (case side2 => repeat (first | (with_reducible first | exact HB.out | apply below_alloc | apply pw_below_drewN | apply below_drew1 | refine below_set ?_ (IsS120.ge HI0.out)) | exact HB.out)); rintro e w11 ⟨rfl, hi, hb, hk⟩; refine ⟨_, rfl, ?_⟩; have n0_ := Aside0.mk (Kd.R_mono (Kd.R_keep (IsS120.apart (show IsS120 w0 _ g t134 t135 from by repeat (first | (with_reducible first | exact HI0.out | apply IsS120.alloc | apply IsS120.drewN | apply IsS120.drew | apply IsS120.set_0 | apply IsS120.set_1) | exact HI0.out)) (by (with_reducible repeat (first | apply Kd.R_alloc | apply Kd.R_drewN | apply Kd.R_drew)); exact HO_5.out) (by decide)) hk (fun _ h => h.2)) (fun _ h => h.1)); have n1_ := Aside0.mk (KeepBut.trans (by repeat (first | (with_reducible first | exact HK.out | apply KeepBut.set_ | apply keep_drewN | apply keep_drew | apply keep_alloc) | exact HK.out)) hk (.inl rfl)); have n2_ := Aside0.mk (hb); have n3_ := Aside0.mk (hi); clear HO_5; clear HK; clear HB; clear HI0; have HO_5 := n0_; have HK := n1_; have HB := n2_; have HI0 := n3_; clear n0_ n1_ n2_ n3_; (try clear hb); (try clear hb2); (try clear hk); (try clear hi); obtain ⟨HGz12, hgz12⟩ := HI0.out; have hcz12_0 := cellS120_0 HGz12; have hcz12_1 := cellS120_1 HGz12; have hfz12_0 := blk_frozen HGz12 0; have hfz12_1 := blk_frozen HGz12 1; clear HGz12 hgz12) | ((with_reducible refine gate_callee (f := 86) rfl ?_); refine goesL_ (some 96) rfl rfl Try.func86 (by kernel_rfl) rfl #[.string t138] rfl (by (try simp only [List.map_toArray, List.map_cons, List.map_nil]); first | done | rfl | (simp only [List.length_drop, List.length_take]; rfl)) ?_; (with_reducible refine (strings_Clone.calls t138 t140 _ A9.out).mono ?_); rintro e w13 ⟨rfl, hb⟩; refine ⟨_, rfl, ?_⟩; have n0_ := Aside0.mk (Kd.R_below (by (with_reducible repeat (first | apply Kd.R_alloc | apply Kd.R_drewN | apply Kd.R_drew)); exact HO_5.out) hb); have n1_ := Aside0.mk (IsS120.below (by repeat (first | (with_reducible first | exact HI0.out | apply IsS120.alloc | apply IsS120.drewN | apply IsS120.drew | apply IsS120.set_0 | apply IsS120.set_1) | exact HI0.out)) hb); have n2_ := Aside0.mk (KeepBut.trans (by repeat (first | (with_reducible first | exact HK.out | apply KeepBut.set_ | apply keep_drewN | apply keep_drew | apply keep_alloc) | exact HK.out)) (KeepBut.of_below hb g none) (.inl rfl)); have n3_ := Aside0.mk (below_step (by repeat (first | (with_reducible first | exact HB.out | apply below_alloc | apply pw_below_drewN | apply below_drew1 | refine below_set ?_ (IsS120.ge HI0.out)) | exact HB.out)) hb); clear HO_5; clear HI0; clear HK; clear HB; have HO_5 := n0_; have HI0 := n1_; have HK := n2_; have HB := n3_; clear n0_ n1_ n2_ n3_; (try clear hb); (try clear hb2); (try clear hk); (try clear hi); obtain ⟨HGz14, hgz14⟩ := HI0.out; have hcz14_0 := cellS120_0 HGz14; have hcz14_1 := cellS120_1 HGz14; have hfz14_0 := blk_frozen HGz14 0; have hfz14_1 := blk_frozen HGz14 1; clear HGz14 hgz14))
            go_ret
            exact ⟨_, by first | rfl | (simp [errW_none, errW_some] <;> rfl) | (simp [*, errW_none, errW_some] <;> rfl), by (with_reducible repeat (first | apply Kd.R_alloc | apply Kd.R_drewN | apply Kd.R_drew)); exact Kd.R_mono (Kd.R_far (p := ⟨g, 0, none⟩) (IsS120.apart HI0.out HO_5.out (by decide)) (fun _ hk => hk.2) (.string t140)) (fun _ hk => trivial), by repeat (first | (with_reducible first | exact HI0.out | apply IsS120.alloc | apply IsS120.drewN | apply IsS120.drew | apply IsS120.set_0 | apply IsS120.set_1) | exact HI0.out), by repeat (first | (with_reducible first | exact HB.out | apply below_alloc | apply pw_below_drewN | apply below_drew1 | refine below_set ?_ (IsS120.ge HI0.out)) | exact HB.out), by repeat (first | (with_reducible first | exact HK.out | apply KeepBut.set_ | apply keep_drewN | apply keep_drew | apply keep_alloc) | exact HK.out)⟩
          · rw [if_neg c8] at H
            have c8b0 : decide (t137 < 2) = false := decide_eq_false c8
            clear c8
            by_cases c15 : 1 < (t138.size : Int)
            · rw [if_pos c15] at H
              have c15b0 : decide (1 < (t138.size : Int)) = true := decide_eq_true c15
              have c15b1 : decide (1 < t138.size) = true := decide_eq_true (by omega)
              clear c15
              by_cases c17 : (wrap64 (bt t138 1)) > 64
              · rw [if_pos c17] at H
                have c17b0 : decide (64 < (wrap64 (bt t138 1))) = true := decide_eq_true c17
                clear c17
                replace H := Option.bind_eq_some_iff.mp H
                obtain ⟨⟨t141, t142⟩, A180, H⟩ := H
                replace H : (frame_Reader_Feed.l0 k1 x5_1 t141 t142) = some (r1, r2, r3) := H
                have A18 := Aside0.mk A180
                clear A180
                have H' := Aside0.mk H
                clear H
                go_wp2_with (first | ((with_reducible refine gate_callee (f := 83) rfl ?_); refine goesL_ (some 23) rfl rfl Try.func83 (by kernel_rfl) rfl #[.pointer (some ⟨g, 0, none⟩)] rfl (by (try simp only [List.map_toArray, List.map_cons, List.map_nil]); first | done | rfl | (simp only [List.length_drop, List.length_take]; rfl)) ?_; (with_reducible refine (frame_buffer_seek.calls g x1000_1 x1001_1 true t134 t135 w0 _ ?side1 ?side2 A5.out).mono ?_); (case side1 => repeat (first | (with_reducible first | exact HI0.out | apply IsS120.alloc | apply IsS120.drewN | apply IsS120.drew | apply IsS120.set_0 | apply IsS120.set_1) | exact HI0.out)); (case side2 => repeat (first | (with_reducible first | exact HB.out | apply below_alloc | apply pw_below_drewN | apply below_drew1 | refine below_set ?_ (IsS120.ge HI0.out)) | exact HB.out)); rintro e w19 ⟨rfl, hi, hb, hk⟩; refine ⟨_, rfl, ?_⟩; have n0_ := Aside0.mk (Kd.R_mono (Kd.R_keep (IsS120.apart (show IsS120 w0 _ g x1000_1 x1001_1 from by repeat (first | (with_reducible first | exact HI0.out | apply IsS120.alloc | apply IsS120.drewN | apply IsS120.drew | apply IsS120.set_0 | apply IsS120.set_1) | exact HI0.out)) (by (with_reducible repeat (first | apply Kd.R_alloc | apply Kd.R_drewN | apply Kd.R_drew)); exact HO_5.out) (by decide)) hk (fun _ h => h.2)) (fun _ h => h.1)); have n1_ := Aside0.mk (KeepBut.trans (by repeat (first | (with_reducible first | exact HK.out | apply KeepBut.set_ | apply keep_drewN | apply keep_drew | apply keep_alloc) | exact HK.out)) hk (.inl rfl)); have n2_ := Aside0.mk (hb); have n3_ := Aside0.mk (hi); clear HO_5; clear HK; clear HB; clear HI0; have HO_5 := n0_; have HK := n1_; have HB := n2_; have HI0 := n3_; clear n0_ n1_ n2_ n3_; (try clear hb); (try clear hb2); (try clear hk); (try clear hi)) | ((with_reducible refine gate_callee (f := 84) rfl ?_); refine goesL_ (some 27) rfl rfl Try.func84 (by kernel_rfl) rfl #[.pointer (some ⟨g, 0, none⟩)] rfl (by (try simp only [List.map_toArray, List.map_cons, List.map_nil]); first | done | rfl | (simp only [List.length_drop, List.length_take]; rfl)) ?_; (with_reducible refine (frame_buffer_held.calls g t134 t135 t137 t138 t139 w0 _ ?side1 ?side2 A7.out).mono ?_); (case side1 => repeat (first | (with_reducible first | exact HI0.out | apply IsS120.alloc | apply IsS120.drewN | apply IsS120.drew | apply IsS120.set_0 | apply IsS120.set_1) | exact HI0.out)); (case side2 => repeat (first | (with_reducible first | exact HB.out | apply below_alloc | apply pw_below_drewN | apply below_drew1 | refine below_set ?_ (IsS120.ge HI0.out)) | exact HB.out)); rintro e w20 ⟨rfl, hi, hb, hk⟩; refine ⟨_, rfl, ?_⟩; have n0_ := Aside0.mk (Kd.R_mono (Kd.R_keep (IsS120.apart (show IsS120 w0 _ g t134 t135 from by repeat (first | (with_reducible first | exact HI0.out | apply IsS120.alloc | apply IsS120.drewN | apply IsS120.drew | apply IsS120.set_0 | apply IsS120.set_1) | exact HI0.out)) (by (with_reducible repeat (first | apply Kd.R_alloc | apply Kd.R_drewN | apply Kd.R_drew)); exact HO_5.out) (by decide)) hk (fun _ h => h.2)) (fun _ h => h.1)); have n1_ := Aside0.mk (KeepBut.trans (by repeat (first | (with_reducible first | exact HK.out | apply KeepBut.set_ | apply keep_drewN | apply keep_drew | apply keep_alloc) | exact HK.out)) hk (.inl rfl)); have n2_ := Aside0.mk (hb); have n3_ := Aside0.mk (hi); clear HO_5; clear HK; clear HB; clear HI0; have HO_5 := n0_; have HK := n1_; have HB := n2_; have HI0 := n3_; clear n0_ n1_ n2_ n3_; (try clear hb); (try clear hb2); (try clear hk); (try clear hi); obtain ⟨HGz21, hgz21⟩ := HI0.out; have hcz21_0 := cellS120_0 HGz21; have hcz21_1 := cellS120_1 HGz21; have hfz21_0 := blk_frozen HGz21 0; have hfz21_1 := blk_frozen HGz21 1; clear HGz21 hgz21; have p16 : 0 ≤ (1 : Int) := (by omega); have q16 : 1 < t138.size := (by have : (1 : Int) < (t138.size : Int) := of_decide_eq_true (by first | (with_reducible assumption) | assumption); omega); have hx16 : ∀ h : 1 < t138.size, ((t138[1]'h).toNat : Int) = bt t138 1 := bt_at t138 1; clear p16; have qi16 : (1 < (t138.size : Int)) = True := eq_true (of_decide_eq_true (by first | (with_reducible assumption) | assumption)); replace q16 := eq_true q16) | ((with_reducible refine gate_callee (f := 85) rfl ?_); refine goesL_ (some 39) rfl rfl Try.func85 (by kernel_rfl) rfl #[.pointer (some ⟨g, 0, none⟩)] rfl (by (try simp only [List.map_toArray, List.map_cons, List.map_nil]); first | done | rfl | (simp only [List.length_drop, List.length_take]; rfl)) ?_; (with_reducible refine (frame_Reader_wrong.calls g t138 t139 t141 t142 w0 _ ?side1 ?side2 A18.out).mono ?_); (case side1 => repeat (first | (with_reducible first | exact HI0.out | apply IsS120.alloc | apply IsS120.drewN | apply IsS120.drew | apply IsS120.set_0 | apply IsS120.set_1) | exact HI0.out)); (case side2 => repeat (first | (with_reducible first | exact HB.out | apply below_alloc | apply pw_below_drewN | apply below_drew1 | refine below_set ?_ (IsS120.ge HI0.out)) | exact HB.out)); rintro e w22 ⟨rfl, hi, hb, hk⟩; refine ⟨_, rfl, ?_⟩; have n0_ := Aside0.mk (Kd.R_mono (Kd.R_keep (IsS120.apart (show IsS120 w0 _ g t138 t139 from by repeat (first | (with_reducible first | exact HI0.out | apply IsS120.alloc | apply IsS120.drewN | apply IsS120.drew | apply IsS120.set_0 | apply IsS120.set_1) | exact HI0.out)) (by (with_reducible repeat (first | apply Kd.R_alloc | apply Kd.R_drewN | apply Kd.R_drew)); exact HO_5.out) (by decide)) hk (fun _ h => h.2)) (fun _ h => h.1)); have n1_ := Aside0.mk (KeepBut.trans (by repeat (first | (with_reducible first | exact HK.out | apply KeepBut.set_ | apply keep_drewN | apply keep_drew | apply keep_alloc) | exact HK.out)) hk (.inl rfl)); have n2_ := Aside0.mk (hb); have n3_ := Aside0.mk (hi); clear HO_5; clear HK; clear HB; clear HI0; have HO_5 := n0_; have HK := n1_; have HB := n2_; have HI0 := n3_; clear n0_ n1_ n2_ n3_; (try clear hb); (try clear hb2); (try clear hk); (try clear hi)))
                go_roundg k1
                case measure => have := HK1.out; omega
                case rel => exact ⟨(x5_1), (t141), (t142), H', ⟨by have := HK1.out; omega⟩, ⟨by (with_reducible repeat (first | apply Kd.R_alloc | apply Kd.R_drewN | apply Kd.R_drew)); exact HO_5.out⟩, ⟨by repeat (first | (with_reducible first | exact HI0.out | apply IsS120.alloc | apply IsS120.drewN | apply IsS120.drew | apply IsS120.set_0 | apply IsS120.set_1) | exact HI0.out)⟩, ⟨by repeat (first | (with_reducible first | exact HK.out | apply KeepBut.set_ | apply keep_drewN | apply keep_drew | apply keep_alloc) | exact HK.out)⟩, ⟨by repeat (first | (with_reducible first | exact HB.out | apply below_alloc | apply pw_below_drewN | apply below_drew1 | refine below_set ?_ (IsS120.ge HI0.out)) | exact HB.out)⟩⟩
              · rw [if_neg c17] at H
                have c17b0 : decide (64 < (wrap64 (bt t138 1))) = false := decide_eq_false c17
                clear c17
                replace H := Option.bind_eq_some_iff.mp H
                obtain ⟨⟨t143, t144, t145⟩, A230, H⟩ := H
                replace H : (if t143 < (wrap64 ((wrap64 (4 + (wrap64 (bt t138 1)))) + 2)) then ((strings_Clone.f t144).bind fun t146 => (some (x5_1, t146, t145))) else (if 0 ≤ (wrap64 ((wrap64 (4 + (wrap64 (bt t138 1)))) + 2)) then (if (wrap64 ((wrap64 (4 + (wrap64 (bt t138 1)))) + 2)) ≤ (t144.size : Int) then (if 1 ≤ (wrap64 (4 + (wrap64 (bt t138 1)))) then (if (wrap64 (4 + (wrap64 (bt t138 1)))) ≤ ((t144.extract 0 ((wrap64 ((wrap64 (4 + (wrap64 (bt t138 1)))) + 2)) : Int).toNat).size : Int) then ((frame_check.f k1 ((t144.extract 0 ((wrap64 ((wrap64 (4 + (wrap64 (bt t138 1)))) + 2)) : Int).toNat).extract 1 ((wrap64 (4 + (wrap64 (bt t138 1)))) : Int).toNat)).bind fun t147 => (if 0 ≤ (wrap64 (4 + (wrap64 (bt t138 1)))) then (if t147.toList = ((t144.extract 0 ((wrap64 ((wrap64 (4 + (wrap64 (bt t138 1)))) + 2)) : Int).toNat).extract ((wrap64 (4 + (wrap64 (bt t138 1)))) : Int).toNat (t144.extract 0 ((wrap64 ((wrap64 (4 + (wrap64 (bt t138 1)))) + 2)) : Int).toNat).size).toList then (if 2 < ((t144.extract 0 ((wrap64 ((wrap64 (4 + (wrap64 (bt t138 1)))) + 2)) : Int).toNat).size : Int) then (if 3 < ((t144.extract 0 ((wrap64 ((wrap64 (4 + (wrap64 (bt t138 1)))) + 2)) : Int).toNat).size : Int) then (if 4 ≤ (wrap64 (4 + (wrap64 (bt t138 1)))) then ((strings_Clone.f ((t144.extract 0 ((wrap64 ((wrap64 (4 + (wrap64 (bt t138 1)))) + 2)) : Int).toNat).extract 4 ((wrap64 (4 + (wrap64 (bt t138 1)))) : Int).toNat)).bind fun t148 => (if x5_1.length < 4398046511104 then ((frame_buffer_drop.f t144 t145 ((t144.extract 0 ((wrap64 ((wrap64 (4 + (wrap64 (bt t138 1)))) + 2)) : Int).toNat).size : Int)).bind fun bt152 => (frame_Reader_Feed.l0 k1 (x5_1 ++ [(⟨wrap64 (bt (t144.extract 0 ((wrap64 ((wrap64 (4 + (wrap64 (bt t138 1)))) + 2)) : Int).toNat) 2), wrap64 (bt (t144.extract 0 ((wrap64 ((wrap64 (4 + (wrap64 (bt t138 1)))) + 2)) : Int).toNat) 3), t148⟩ : S45)]) bt152.1 bt152.2)) else (none))) else (none)) else (none)) else (none)) else ((frame_Reader_wrong.f t144 t145).bind fun bt154 => (frame_Reader_Feed.l0 k1 x5_1 bt154.1 bt154.2))) else (none))) else (none)) else (none)) else (none)) else (none))) = some (r1, r2, r3) := H
                have A23 := Aside0.mk A230
                clear A230
                by_cases c24 : t143 < (wrap64 ((wrap64 (4 + (wrap64 (bt t138 1)))) + 2))
                · rw [if_pos c24] at H
                  have c24b0 : decide (t143 < (wrap64 ((wrap64 (4 + (wrap64 (bt t138 1)))) + 2))) = true := decide_eq_true c24
                  clear c24
                  replace H := Option.bind_eq_some_iff.mp H
                  obtain ⟨t146, A250, H⟩ := H
                  replace H : (some (x5_1, t146, t145)) = some (r1, r2, r3) := H
                  have A25 := Aside0.mk A250
                  clear A250
                  simp only [Option.some.injEq, Prod.mk.injEq] at H
                  obtain ⟨rfl, rfl, rfl⟩ := H
                  go_wp2_with (first | ((with_reducible refine gate_callee (f := 83) rfl ?_); refine goesL_ (some 23) rfl rfl Try.func83 (by kernel_rfl) rfl #[.pointer (some ⟨g, 0, none⟩)] rfl (by (try simp only [List.map_toArray, List.map_cons, List.map_nil]); first | done | rfl | (simp only [List.length_drop, List.length_take]; rfl)) ?_; (with_reducible refine (frame_buffer_seek.calls g x1000_1 x1001_1 true t134 t135 w0 _ ?side1 ?side2 A5.out).mono ?_); (case side1 => repeat (first | (with_reducible first | exact HI0.out | apply IsS120.alloc | apply IsS120.drewN | apply IsS120.drew | apply IsS120.set_0 | apply IsS120.set_1) | exact HI0.out)); (case side2 => repeat (first | (with_reducible first | exact HB.out | apply below_alloc | apply pw_below_drewN | apply below_drew1 | refine below_set ?_ (IsS120.ge HI0.out)) | exact HB.out)); rintro e w26 ⟨rfl, hi, hb, hk⟩; refine ⟨_, rfl, ?_⟩; have n0_ := Aside0.mk (Kd.R_mono (Kd.R_keep (IsS120.apart (show IsS120 w0 _ g x1000_1 x1001_1 from by repeat (first | (with_reducible first | exact HI0.out | apply IsS120.alloc | apply IsS120.drewN | apply IsS120.drew | apply IsS120.set_0 | apply IsS120.set_1) | exact HI0.out)) (by (with_reducible repeat (first | apply Kd.R_alloc | apply Kd.R_drewN | apply Kd.R_drew)); exact HO_5.out) (by decide)) hk (fun _ h => h.2)) (fun _ h => h.1)); have n1_ := Aside0.mk (KeepBut.trans (by repeat (first | (with_reducible first | exact HK.out | apply KeepBut.set_ | apply keep_drewN | apply keep_drew | apply keep_alloc) | exact HK.out)) hk (.inl rfl)); have n2_ := Aside0.mk (hb); have n3_ := Aside0.mk (hi); clear HO_5; clear HK; clear HB; clear HI0; have HO_5 := n0_; have HK := n1_; have HB := n2_; have HI0 := n3_; clear n0_ n1_ n2_ n3_; (try clear hb); (try clear hb2); (try clear hk); (try clear hi)) | ((with_reducible refine gate_callee (f := 84) rfl ?_); refine goesL_ (some 27) rfl rfl Try.func84 (by kernel_rfl) rfl #[.pointer (some ⟨g, 0, none⟩)] rfl (by (try simp only [List.map_toArray, List.map_cons, List.map_nil]); first | done | rfl | (simp only [List.length_drop, List.length_take]; rfl)) ?_; (with_reducible refine (frame_buffer_held.calls g t134 t135 t137 t138 t139 w0 _ ?side1 ?side2 A7.out).mono ?_); (case side1 => repeat (first | (with_reducible first | exact HI0.out | apply IsS120.alloc | apply IsS120.drewN | apply IsS120.drew | apply IsS120.set_0 | apply IsS120.set_1) | exact HI0.out)); (case side2 => repeat (first | (with_reducible first | exact HB.out | apply below_alloc | apply pw_below_drewN | apply below_drew1 | refine below_set ?_ (IsS120.ge HI0.out)) | exact HB.out)); rintro e w27 ⟨rfl, hi, hb, hk⟩; refine ⟨_, rfl, ?_⟩; have n0_ := Aside0.mk (Kd.R_mono (Kd.R_keep (IsS120.apart (show IsS120 w0 _ g t134 t135 from by repeat (first | (with_reducible first | exact HI0.out | apply IsS120.alloc | apply IsS120.drewN | apply IsS120.drew | apply IsS120.set_0 | apply IsS120.set_1) | exact HI0.out)) (by (with_reducible repeat (first | apply Kd.R_alloc | apply Kd.R_drewN | apply Kd.R_drew)); exact HO_5.out) (by decide)) hk (fun _ h => h.2)) (fun _ h => h.1)); have n1_ := Aside0.mk (KeepBut.trans (by repeat (first | (with_reducible first | exact HK.out | apply KeepBut.set_ | apply keep_drewN | apply keep_drew | apply keep_alloc) | exact HK.out)) hk (.inl rfl)); have n2_ := Aside0.mk (hb); have n3_ := Aside0.mk (hi); clear HO_5; clear HK; clear HB; clear HI0; have HO_5 := n0_; have HK := n1_; have HB := n2_; have HI0 := n3_; clear n0_ n1_ n2_ n3_; (try clear hb); (try clear hb2); (try clear hk); (try clear hi); obtain ⟨HGz28, hgz28⟩ := HI0.out; have hcz28_0 := cellS120_0 HGz28; have hcz28_1 := cellS120_1 HGz28; have hfz28_0 := blk_frozen HGz28 0; have hfz28_1 := blk_frozen HGz28 1; clear HGz28 hgz28; have p16 : 0 ≤ (1 : Int) := (by omega); have q16 : 1 < t138.size := (by have : (1 : Int) < (t138.size : Int) := of_decide_eq_true (by first | (with_reducible assumption) | assumption); omega); have hx16 : ∀ h : 1 < t138.size, ((t138[1]'h).toNat : Int) = bt t138 1 := bt_at t138 1; clear p16; have qi16 : (1 < (t138.size : Int)) = True := eq_true (of_decide_eq_true (by first | (with_reducible assumption) | assumption)); replace q16 := eq_true q16) | ((with_reducible refine gate_callee (f := 84) rfl ?_); refine goesL_ (some 43) rfl rfl Try.func84 (by kernel_rfl) rfl #[.pointer (some ⟨g, 0, none⟩)] rfl (by (try simp only [List.map_toArray, List.map_cons, List.map_nil]); first | done | rfl | (simp only [List.length_drop, List.length_take]; rfl)) ?_; (with_reducible refine (frame_buffer_held.calls g t138 t139 t143 t144 t145 w0 _ ?side1 ?side2 A23.out).mono ?_); (case side1 => repeat (first | (with_reducible first | exact HI0.out | apply IsS120.alloc | apply IsS120.drewN | apply IsS120.drew | apply IsS120.set_0 | apply IsS120.set_1) | exact HI0.out)); (case side2 => repeat (first | (with_reducible first | exact HB.out | apply below_alloc | apply pw_below_drewN | apply below_drew1 | refine below_set ?_ (IsS120.ge HI0.out)) | exact HB.out)); rintro e w29 ⟨rfl, hi, hb, hk⟩; refine ⟨_, rfl, ?_⟩; have n0_ := Aside0.mk (Kd.R_mono (Kd.R_keep (IsS120.apart (show IsS120 w0 _ g t138 t139 from by repeat (first | (with_reducible first | exact HI0.out | apply IsS120.alloc | apply IsS120.drewN | apply IsS120.drew | apply IsS120.set_0 | apply IsS120.set_1) | exact HI0.out)) (by (with_reducible repeat (first | apply Kd.R_alloc | apply Kd.R_drewN | apply Kd.R_drew)); exact HO_5.out) (by decide)) hk (fun _ h => h.2)) (fun _ h => h.1)); have n1_ := Aside0.mk (KeepBut.trans (by repeat (first | (with_reducible first | exact HK.out | apply KeepBut.set_ | apply keep_drewN | apply keep_drew | apply keep_alloc) | exact HK.out)) hk (.inl rfl)); have n2_ := Aside0.mk (hb); have n3_ := Aside0.mk (hi); clear HO_5; clear HK; clear HB; clear HI0; have HO_5 := n0_; have HK := n1_; have HB := n2_; have HI0 := n3_; clear n0_ n1_ n2_ n3_; (try clear hb); (try clear hb2); (try clear hk); (try clear hi); obtain ⟨HGz30, hgz30⟩ := HI0.out; have hcz30_0 := cellS120_0 HGz30; have hcz30_1 := cellS120_1 HGz30; have hfz30_0 := blk_frozen HGz30 0; have hfz30_1 := blk_frozen HGz30 1; clear HGz30 hgz30) | ((with_reducible refine gate_callee (f := 86) rfl ?_); refine goesL_ (some 96) rfl rfl Try.func86 (by kernel_rfl) rfl #[.string t144] rfl (by (try simp only [List.map_toArray, List.map_cons, List.map_nil]); first | done | rfl | (simp only [List.length_drop, List.length_take]; rfl)) ?_; (with_reducible refine (strings_Clone.calls t144 t146 _ A25.out).mono ?_); rintro e w31 ⟨rfl, hb⟩; refine ⟨_, rfl, ?_⟩; have n0_ := Aside0.mk (Kd.R_below (by (with_reducible repeat (first | apply Kd.R_alloc | apply Kd.R_drewN | apply Kd.R_drew)); exact HO_5.out) hb); have n1_ := Aside0.mk (IsS120.below (by repeat (first | (with_reducible first | exact HI0.out | apply IsS120.alloc | apply IsS120.drewN | apply IsS120.drew | apply IsS120.set_0 | apply IsS120.set_1) | exact HI0.out)) hb); have n2_ := Aside0.mk (KeepBut.trans (by repeat (first | (with_reducible first | exact HK.out | apply KeepBut.set_ | apply keep_drewN | apply keep_drew | apply keep_alloc) | exact HK.out)) (KeepBut.of_below hb g none) (.inl rfl)); have n3_ := Aside0.mk (below_step (by repeat (first | (with_reducible first | exact HB.out | apply below_alloc | apply pw_below_drewN | apply below_drew1 | refine below_set ?_ (IsS120.ge HI0.out)) | exact HB.out)) hb); clear HO_5; clear HI0; clear HK; clear HB; have HO_5 := n0_; have HI0 := n1_; have HK := n2_; have HB := n3_; clear n0_ n1_ n2_ n3_; (try clear hb); (try clear hb2); (try clear hk); (try clear hi); obtain ⟨HGz32, hgz32⟩ := HI0.out; have hcz32_0 := cellS120_0 HGz32; have hcz32_1 := cellS120_1 HGz32; have hfz32_0 := blk_frozen HGz32 0; have hfz32_1 := blk_frozen HGz32 1; clear HGz32 hgz32))
                  go_ret
                  exact ⟨_, by first | rfl | (simp [errW_none, errW_some] <;> rfl) | (simp [*, errW_none, errW_some] <;> rfl), by (with_reducible repeat (first | apply Kd.R_alloc | apply Kd.R_drewN | apply Kd.R_drew)); exact Kd.R_mono (Kd.R_far (p := ⟨g, 0, none⟩) (IsS120.apart HI0.out HO_5.out (by decide)) (fun _ hk => hk.2) (.string t146)) (fun _ hk => trivial), by repeat (first | (with_reducible first | exact HI0.out | apply IsS120.alloc | apply IsS120.drewN | apply IsS120.drew | apply IsS120.set_0 | apply IsS120.set_1) | exact HI0.out), by repeat (first | (with_reducible first | exact HB.out | apply below_alloc | apply pw_below_drewN | apply below_drew1 | refine below_set ?_ (IsS120.ge HI0.out)) | exact HB.out), by repeat (first | (with_reducible first | exact HK.out | apply KeepBut.set_ | apply keep_drewN | apply keep_drew | apply keep_alloc) | exact HK.out)⟩
                · rw [if_neg c24] at H
                  have c24b0 : decide (t143 < (wrap64 ((wrap64 (4 + (wrap64 (bt t138 1)))) + 2))) = false := decide_eq_false c24
                  clear c24
                  obtain ⟨ji33, hji33⟩ : ∃ j_ : Int, (wrap64 ((wrap64 (4 + (wrap64 (bt t138 1)))) + 2)) = j_ := ⟨_, rfl⟩
                  replace H : (if 0 ≤ (ji33) then (if (ji33) ≤ (t144.size : Int) then (if 1 ≤ (wrap64 (4 + (wrap64 (bt t138 1)))) then (if (wrap64 (4 + (wrap64 (bt t138 1)))) ≤ ((t144.extract 0 ((ji33) : Int).toNat).size : Int) then ((frame_check.f k1 ((t144.extract 0 ((ji33) : Int).toNat).extract 1 ((wrap64 (4 + (wrap64 (bt t138 1)))) : Int).toNat)).bind fun t147 => (if 0 ≤ (wrap64 (4 + (wrap64 (bt t138 1)))) then (if t147.toList = ((t144.extract 0 ((ji33) : Int).toNat).extract ((wrap64 (4 + (wrap64 (bt t138 1)))) : Int).toNat (t144.extract 0 ((ji33) : Int).toNat).size).toList then (if 2 < ((t144.extract 0 ((ji33) : Int).toNat).size : Int) then (if 3 < ((t144.extract 0 ((ji33) : Int).toNat).size : Int) then (if 4 ≤ (wrap64 (4 + (wrap64 (bt t138 1)))) then ((strings_Clone.f ((t144.extract 0 ((ji33) : Int).toNat).extract 4 ((wrap64 (4 + (wrap64 (bt t138 1)))) : Int).toNat)).bind fun t148 => (if x5_1.length < 4398046511104 then ((frame_buffer_drop.f t144 t145 ((t144.extract 0 ((ji33) : Int).toNat).size : Int)).bind fun bt152 => (frame_Reader_Feed.l0 k1 (x5_1 ++ [(⟨wrap64 (bt (t144.extract 0 ((ji33) : Int).toNat) 2), wrap64 (bt (t144.extract 0 ((ji33) : Int).toNat) 3), t148⟩ : S45)]) bt152.1 bt152.2)) else (none))) else (none)) else (none)) else (none)) else ((frame_Reader_wrong.f t144 t145).bind fun bt154 => (frame_Reader_Feed.l0 k1 x5_1 bt154.1 bt154.2))) else (none))) else (none)) else (none)) else (none)) else (none)) = some (r1, r2, r3) := by first | (rw [hji33] at H; exact H) | (simp only [hji33] at H ⊢; exact H)
                  (try rw [hji33] at c24b0)
                  (try rw [hji33] at A5)
                  (try rw [hji33] at A7)
                  (try rw [hji33] at A23)
                  have hji33w : (IntKind.i64.wrap ((wrap64 (4 + (wrap64 (bt t138 1)))) + 2)) = ji33 := (i64_w _).trans hji33
                  (try rw [hji33] at c24b0)
                  (try rw [hji33] at c24b0)
                  by_cases c34 : 0 ≤ (ji33)
                  · rw [if_pos c34] at H
                    have c34b0 := eq_true c34
                    have c34b1 : decide (0 ≤ (ji33)) = true := decide_eq_true c34
                    clear c34
                    by_cases c35 : (ji33) ≤ (t144.size : Int)
                    · rw [if_pos c35] at H
                      have c35b0 := eq_true c35
                      have c35b1 : decide ((ji33) ≤ (t144.size : Int)) = true := decide_eq_true c35
                      clear c35
                      obtain ⟨ye36, hye36⟩ : ∃ j_ : ByteArray, (t144.extract 0 ((ji33) : Int).toNat) = j_ := ⟨_, rfl⟩
                      replace H : (if 1 ≤ (wrap64 (4 + (wrap64 (bt t138 1)))) then (if (wrap64 (4 + (wrap64 (bt t138 1)))) ≤ (ye36.size : Int) then ((frame_check.f k1 (ye36.extract 1 ((wrap64 (4 + (wrap64 (bt t138 1)))) : Int).toNat)).bind fun t147 => (if 0 ≤ (wrap64 (4 + (wrap64 (bt t138 1)))) then (if t147.toList = (ye36.extract ((wrap64 (4 + (wrap64 (bt t138 1)))) : Int).toNat ye36.size).toList then (if 2 < (ye36.size : Int) then (if 3 < (ye36.size : Int) then (if 4 ≤ (wrap64 (4 + (wrap64 (bt t138 1)))) then ((strings_Clone.f (ye36.extract 4 ((wrap64 (4 + (wrap64 (bt t138 1)))) : Int).toNat)).bind fun t148 => (if x5_1.length < 4398046511104 then ((frame_buffer_drop.f t144 t145 (ye36.size : Int)).bind fun bt152 => (frame_Reader_Feed.l0 k1 (x5_1 ++ [(⟨wrap64 (bt ye36 2), wrap64 (bt ye36 3), t148⟩ : S45)]) bt152.1 bt152.2)) else (none))) else (none)) else (none)) else (none)) else ((frame_Reader_wrong.f t144 t145).bind fun bt154 => (frame_Reader_Feed.l0 k1 x5_1 bt154.1 bt154.2))) else (none))) else (none)) else (none)) = some (r1, r2, r3) := by first | (rw [hye36] at H; exact H) | (simp only [hye36] at H ⊢; exact H) | exact H
                      (try rw [hye36] at A5)
                      (try rw [hye36] at A7)
                      (try rw [hye36] at A23)
                      by_cases c37 : 1 ≤ (wrap64 (4 + (wrap64 (bt t138 1))))
                      · rw [if_pos c37] at H
                        have c37b0 := eq_true c37
                        have c37b1 : decide (1 ≤ (wrap64 (4 + (wrap64 (bt t138 1))))) = true := decide_eq_true c37
                        by_cases c38 : (wrap64 (4 + (wrap64 (bt t138 1)))) ≤ (ye36.size : Int)
                        · rw [if_pos c38] at H
                          have c38b0 := eq_true c38
                          have c38b1 : decide ((wrap64 (4 + (wrap64 (bt t138 1)))) ≤ (ye36.size : Int)) = true := decide_eq_true c38
                          obtain ⟨ye39, hye39⟩ : ∃ j_ : ByteArray, (ye36.extract 1 ((wrap64 (4 + (wrap64 (bt t138 1)))) : Int).toNat) = j_ := ⟨_, rfl⟩
                          replace H : ((frame_check.f k1 ye39).bind fun t147 => (if 0 ≤ (wrap64 (4 + (wrap64 (bt t138 1)))) then (if t147.toList = (ye36.extract ((wrap64 (4 + (wrap64 (bt t138 1)))) : Int).toNat ye36.size).toList then (if 2 < (ye36.size : Int) then (if 3 < (ye36.size : Int) then (if 4 ≤ (wrap64 (4 + (wrap64 (bt t138 1)))) then ((strings_Clone.f (ye36.extract 4 ((wrap64 (4 + (wrap64 (bt t138 1)))) : Int).toNat)).bind fun t148 => (if x5_1.length < 4398046511104 then ((frame_buffer_drop.f t144 t145 (ye36.size : Int)).bind fun bt152 => (frame_Reader_Feed.l0 k1 (x5_1 ++ [(⟨wrap64 (bt ye36 2), wrap64 (bt ye36 3), t148⟩ : S45)]) bt152.1 bt152.2)) else (none))) else (none)) else (none)) else (none)) else ((frame_Reader_wrong.f t144 t145).bind fun bt154 => (frame_Reader_Feed.l0 k1 x5_1 bt154.1 bt154.2))) else (none))) = some (r1, r2, r3) := by first | (rw [hye39] at H; exact H) | (simp only [hye39] at H ⊢; exact H) | exact H
                          (try rw [hye39] at A5)
                          (try rw [hye39] at A7)
                          (try rw [hye39] at A23)
                          replace H := Option.bind_eq_some_iff.mp H
                          obtain ⟨t147, A400, H⟩ := H
                          replace H : (if 0 ≤ (wrap64 (4 + (wrap64 (bt t138 1)))) then (if t147.toList = (ye36.extract ((wrap64 (4 + (wrap64 (bt t138 1)))) : Int).toNat ye36.size).toList then (if 2 < (ye36.size : Int) then (if 3 < (ye36.size : Int) then (if 4 ≤ (wrap64 (4 + (wrap64 (bt t138 1)))) then ((strings_Clone.f (ye36.extract 4 ((wrap64 (4 + (wrap64 (bt t138 1)))) : Int).toNat)).bind fun t148 => (if x5_1.length < 4398046511104 then ((frame_buffer_drop.f t144 t145 (ye36.size : Int)).bind fun bt152 => (frame_Reader_Feed.l0 k1 (x5_1 ++ [(⟨wrap64 (bt ye36 2), wrap64 (bt ye36 3), t148⟩ : S45)]) bt152.1 bt152.2)) else (none))) else (none)) else (none)) else (none)) else ((frame_Reader_wrong.f t144 t145).bind fun bt154 => (frame_Reader_Feed.l0 k1 x5_1 bt154.1 bt154.2))) else (none)) = some (r1, r2, r3) := H
                          have A40 := Aside0.mk A400
                          clear A400
                          obtain ⟨ji41, hji41⟩ : ∃ j_ : Int, (wrap64 (4 + (wrap64 (bt t138 1)))) = j_ := ⟨_, rfl⟩
                          replace H : (if 0 ≤ (ji41) then (if t147.toList = (ye36.extract ((ji41) : Int).toNat ye36.size).toList then (if 2 < (ye36.size : Int) then (if 3 < (ye36.size : Int) then (if 4 ≤ (ji41) then ((strings_Clone.f (ye36.extract 4 ((ji41) : Int).toNat)).bind fun t148 => (if x5_1.length < 4398046511104 then ((frame_buffer_drop.f t144 t145 (ye36.size : Int)).bind fun bt152 => (frame_Reader_Feed.l0 k1 (x5_1 ++ [(⟨wrap64 (bt ye36 2), wrap64 (bt ye36 3), t148⟩ : S45)]) bt152.1 bt152.2)) else (none))) else (none)) else (none)) else (none)) else ((frame_Reader_wrong.f t144 t145).bind fun bt154 => (frame_Reader_Feed.l0 k1 x5_1 bt154.1 bt154.2))) else (none)) = some (r1, r2, r3) := by first | (rw [hji41] at H; exact H) | (simp only [hji41] at H ⊢; exact H)
                          (try rw [hji41] at c24b0)
                          (try rw [hji41] at c37b0)
                          (try rw [hji41] at c37b1)
                          (try rw [hji41] at c37)
                          (try rw [hji41] at c38b0)
                          (try rw [hji41] at c38b1)
                          (try rw [hji41] at c38)
                          (try rw [hji41] at A5)
                          (try rw [hji41] at A7)
                          (try rw [hji41] at A23)
                          (try rw [hji41] at A40)
                          have hji41w : (IntKind.i64.wrap (4 + (wrap64 (bt t138 1)))) = ji41 := (i64_w _).trans hji41
                          (try rw [hji41] at c24b0)
                          (try rw [hji41] at c24b0)
                          (try rw [hji41] at c37b1)
                          (try rw [hji41] at c38b1)
                          (try rw [hji41] at hji33)
                          (try rw [hji41] at hji33w)
                          (try rw [hji41] at hye36)
                          (try rw [hji41] at hye39)
                          by_cases c42 : 0 ≤ (ji41)
                          · rw [if_pos c42] at H
                            have c42b0 := eq_true c42
                            have c42b1 : decide (0 ≤ (ji41)) = true := decide_eq_true c42
                            clear c42
                            have c43b0 := eq_true (of_decide_eq_true (by first | (with_reducible assumption) | assumption) : (ji41) ≤ (ye36.size : Int))
                            obtain ⟨ye44, hye44⟩ : ∃ j_ : ByteArray, (ye36.extract ((ji41) : Int).toNat ye36.size) = j_ := ⟨_, rfl⟩
                            replace H : (if t147.toList = ye44.toList then (if 2 < (ye36.size : Int) then (if 3 < (ye36.size : Int) then (if 4 ≤ (ji41) then ((strings_Clone.f (ye36.extract 4 ((ji41) : Int).toNat)).bind fun t148 => (if x5_1.length < 4398046511104 then ((frame_buffer_drop.f t144 t145 (ye36.size : Int)).bind fun bt152 => (frame_Reader_Feed.l0 k1 (x5_1 ++ [(⟨wrap64 (bt ye36 2), wrap64 (bt ye36 3), t148⟩ : S45)]) bt152.1 bt152.2)) else (none))) else (none)) else (none)) else (none)) else ((frame_Reader_wrong.f t144 t145).bind fun bt154 => (frame_Reader_Feed.l0 k1 x5_1 bt154.1 bt154.2))) = some (r1, r2, r3) := by first | (rw [hye44] at H; exact H) | (simp only [hye44] at H ⊢; exact H) | exact H
                            (try rw [hye44] at A5)
                            (try rw [hye44] at A7)
                            (try rw [hye44] at A23)
                            (try rw [hye44] at A40)
                            by_cases c45 : t147.toList = ye44.toList
                            · rw [if_pos c45] at H
                              have c45b0 : (t147.toList == ye44.toList) = true := beq_iff_eq.mpr c45
                              have c45b1 : (t147.toList != ye44.toList) = false := bne_eq_false_iff_eq.mpr c45
                              clear c45
                              by_cases c46 : 2 < (ye36.size : Int)
                              · rw [if_pos c46] at H
                                have c46b0 : decide (2 < (ye36.size : Int)) = true := decide_eq_true c46
                                have c46b1 : decide (2 < ye36.size) = true := decide_eq_true (by omega)
                                clear c46
                                by_cases c48 : 3 < (ye36.size : Int)
                                · rw [if_pos c48] at H
                                  have c48b0 : decide (3 < (ye36.size : Int)) = true := decide_eq_true c48
                                  have c48b1 : decide (3 < ye36.size) = true := decide_eq_true (by omega)
                                  clear c48
                                  by_cases c50 : 4 ≤ (ji41)
                                  · rw [if_pos c50] at H
                                    have c50b0 := eq_true c50
                                    have c50b1 : decide (4 ≤ (ji41)) = true := decide_eq_true c50
                                    clear c50
                                    have c51b0 := eq_true (of_decide_eq_true (by first | (with_reducible assumption) | assumption) : (ji41) ≤ (ye36.size : Int))
                                    obtain ⟨ye52, hye52⟩ : ∃ j_ : ByteArray, (ye36.extract 4 ((ji41) : Int).toNat) = j_ := ⟨_, rfl⟩
                                    replace H : ((strings_Clone.f ye52).bind fun t148 => (if x5_1.length < 4398046511104 then ((frame_buffer_drop.f t144 t145 (ye36.size : Int)).bind fun bt152 => (frame_Reader_Feed.l0 k1 (x5_1 ++ [(⟨wrap64 (bt ye36 2), wrap64 (bt ye36 3), t148⟩ : S45)]) bt152.1 bt152.2)) else (none))) = some (r1, r2, r3) := by first | (rw [hye52] at H; exact H) | (simp only [hye52] at H ⊢; exact H) | exact H
                                    (try rw [hye52] at A5)
                                    (try rw [hye52] at A7)
                                    (try rw [hye52] at A23)
                                    (try rw [hye52] at A40)
                                    replace H := Option.bind_eq_some_iff.mp H
                                    obtain ⟨t148, A530, H⟩ := H
                                    replace H : (if x5_1.length < 4398046511104 then ((frame_buffer_drop.f t144 t145 (ye36.size : Int)).bind fun bt152 => (frame_Reader_Feed.l0 k1 (x5_1 ++ [(⟨wrap64 (bt ye36 2), wrap64 (bt ye36 3), t148⟩ : S45)]) bt152.1 bt152.2)) else (none)) = some (r1, r2, r3) := H
                                    have A53 := Aside0.mk A530
                                    clear A530
                                    by_cases c54 : x5_1.length < 4398046511104
                                    · rw [if_pos c54] at H
                                      have LMc54 := Aside0.mk c54
                                      clear c54
                                      obtain ⟨y149, hy149⟩ : ∃ y_ : List (S45), y_ = (x5_1 ++ [(⟨wrap64 (bt ye36 2), wrap64 (bt ye36 3), t148⟩ : S45)]) := ⟨_, rfl⟩
                                      replace H : ((frame_buffer_drop.f t144 t145 (ye36.size : Int)).bind fun bt152 => (frame_Reader_Feed.l0 k1 y149 bt152.1 bt152.2)) = some (r1, r2, r3) := by first | (rw [hy149]; with_reducible exact H) | (have H2_ := (Option.bind_some _ _).symm.trans H; rw [hy149]; with_reducible exact H2_) | (have H2_ := (Option.bind_some _ _).symm.trans H; with_reducible exact H2_) | with_reducible exact H | (rw [hy149]; exact H) | exact H
                                      have Ny149 := Aside0.mk hy149
                                      clear hy149
                                      replace H := Option.bind_eq_some_iff.mp H
                                      obtain ⟨⟨t152, t153⟩, A550, H⟩ := H
                                      replace H : (frame_Reader_Feed.l0 k1 y149 t152 t153) = some (r1, r2, r3) := H
                                      have A55 := Aside0.mk A550
                                      clear A550
                                      have H' := Aside0.mk H
                                      clear H
                                      try go_wp2_with (first | ((with_reducible refine gate_callee (f := 83) rfl ?_); refine goesL_ (some 23) rfl rfl Try.func83 (by kernel_rfl) rfl #[.pointer (some ⟨g, 0, none⟩)] rfl (by (try simp only [List.map_toArray, List.map_cons, List.map_nil]); first | done | rfl | (simp only [List.length_drop, List.length_take]; rfl)) ?_; (with_reducible refine (frame_buffer_seek.calls g x1000_1 x1001_1 true t134 t135 w0 _ ?side1 ?side2 A5.out).mono ?_); (case side1 => repeat (first | (with_reducible first | exact HI0.out | apply IsS120.alloc | apply IsS120.drewN | apply IsS120.drew | apply IsS120.set_0 | apply IsS120.set_1) | exact HI0.out)); (case side2 => repeat (first | (with_reducible first | exact HB.out | apply below_alloc | apply pw_below_drewN | apply below_drew1 | refine below_set ?_ (IsS120.ge HI0.out)) | exact HB.out)); rintro e w56 ⟨rfl, hi, hb, hk⟩; refine ⟨_, rfl, ?_⟩; have n0_ := Aside0.mk (Kd.R_mono (Kd.R_keep (IsS120.apart (show IsS120 w0 _ g x1000_1 x1001_1 from by repeat (first | (with_reducible first | exact HI0.out | apply IsS120.alloc | apply IsS120.drewN | apply IsS120.drew | apply IsS120.set_0 | apply IsS120.set_1) | exact HI0.out)) (by (with_reducible repeat (first | apply Kd.R_alloc | apply Kd.R_drewN | apply Kd.R_drew)); exact HO_5.out) (by decide)) hk (fun _ h => h.2)) (fun _ h => h.1)); have n1_ := Aside0.mk (KeepBut.trans (by repeat (first | (with_reducible first | exact HK.out | apply KeepBut.set_ | apply keep_drewN | apply keep_drew | apply keep_alloc) | exact HK.out)) hk (.inl rfl)); have n2_ := Aside0.mk (hb); have n3_ := Aside0.mk (hi); clear HO_5; clear HK; clear HB; clear HI0; have HO_5 := n0_; have HK := n1_; have HB := n2_; have HI0 := n3_; clear n0_ n1_ n2_ n3_; (try clear hb); (try clear hb2); (try clear hk); (try clear hi)) | ((with_reducible refine gate_callee (f := 84) rfl ?_); refine goesL_ (some 27) rfl rfl Try.func84 (by kernel_rfl) rfl #[.pointer (some ⟨g, 0, none⟩)] rfl (by (try simp only [List.map_toArray, List.map_cons, List.map_nil]); first | done | rfl | (simp only [List.length_drop, List.length_take]; rfl)) ?_; (with_reducible refine (frame_buffer_held.calls g t134 t135 t137 t138 t139 w0 _ ?side1 ?side2 A7.out).mono ?_); (case side1 => repeat (first | (with_reducible first | exact HI0.out | apply IsS120.alloc | apply IsS120.drewN | apply IsS120.drew | apply IsS120.set_0 | apply IsS120.set_1) | exact HI0.out)); (case side2 => repeat (first | (with_reducible first | exact HB.out | apply below_alloc | apply pw_below_drewN | apply below_drew1 | refine below_set ?_ (IsS120.ge HI0.out)) | exact HB.out)); rintro e w57 ⟨rfl, hi, hb, hk⟩; refine ⟨_, rfl, ?_⟩; have n0_ := Aside0.mk (Kd.R_mono (Kd.R_keep (IsS120.apart (show IsS120 w0 _ g t134 t135 from by repeat (first | (with_reducible first | exact HI0.out | apply IsS120.alloc | apply IsS120.drewN | apply IsS120.drew | apply IsS120.set_0 | apply IsS120.set_1) | exact HI0.out)) (by (with_reducible repeat (first | apply Kd.R_alloc | apply Kd.R_drewN | apply Kd.R_drew)); exact HO_5.out) (by decide)) hk (fun _ h => h.2)) (fun _ h => h.1)); have n1_ := Aside0.mk (KeepBut.trans (by repeat (first | (with_reducible first | exact HK.out | apply KeepBut.set_ | apply keep_drewN | apply keep_drew | apply keep_alloc) | exact HK.out)) hk (.inl rfl)); have n2_ := Aside0.mk (hb); have n3_ := Aside0.mk (hi); clear HO_5; clear HK; clear HB; clear HI0; have HO_5 := n0_; have HK := n1_; have HB := n2_; have HI0 := n3_; clear n0_ n1_ n2_ n3_; (try clear hb); (try clear hb2); (try clear hk); (try clear hi); obtain ⟨HGz58, hgz58⟩ := HI0.out; have hcz58_0 := cellS120_0 HGz58; have hcz58_1 := cellS120_1 HGz58; have hfz58_0 := blk_frozen HGz58 0; have hfz58_1 := blk_frozen HGz58 1; clear HGz58 hgz58; have p16 : 0 ≤ (1 : Int) := (by omega); have q16 : 1 < t138.size := (by have : (1 : Int) < (t138.size : Int) := of_decide_eq_true (by first | (with_reducible assumption) | assumption); omega); have hx16 : ∀ h : 1 < t138.size, ((t138[1]'h).toNat : Int) = bt t138 1 := bt_at t138 1; clear p16; have qi16 : (1 < (t138.size : Int)) = True := eq_true (of_decide_eq_true (by first | (with_reducible assumption) | assumption)); replace q16 := eq_true q16) | ((with_reducible refine gate_callee (f := 84) rfl ?_); refine goesL_ (some 43) rfl rfl Try.func84 (by kernel_rfl) rfl #[.pointer (some ⟨g, 0, none⟩)] rfl (by (try simp only [List.map_toArray, List.map_cons, List.map_nil]); first | done | rfl | (simp only [List.length_drop, List.length_take]; rfl)) ?_; (with_reducible refine (frame_buffer_held.calls g t138 t139 t143 t144 t145 w0 _ ?side1 ?side2 A23.out).mono ?_); (case side1 => repeat (first | (with_reducible first | exact HI0.out | apply IsS120.alloc | apply IsS120.drewN | apply IsS120.drew | apply IsS120.set_0 | apply IsS120.set_1) | exact HI0.out)); (case side2 => repeat (first | (with_reducible first | exact HB.out | apply below_alloc | apply pw_below_drewN | apply below_drew1 | refine below_set ?_ (IsS120.ge HI0.out)) | exact HB.out)); rintro e w59 ⟨rfl, hi, hb, hk⟩; refine ⟨_, rfl, ?_⟩; have n0_ := Aside0.mk (Kd.R_mono (Kd.R_keep (IsS120.apart (show IsS120 w0 _ g t138 t139 from by repeat (first | (with_reducible first | exact HI0.out | apply IsS120.alloc | apply IsS120.drewN | apply IsS120.drew | apply IsS120.set_0 | apply IsS120.set_1) | exact HI0.out)) (by (with_reducible repeat (first | apply Kd.R_alloc | apply Kd.R_drewN | apply Kd.R_drew)); exact HO_5.out) (by decide)) hk (fun _ h => h.2)) (fun _ h => h.1)); have n1_ := Aside0.mk (KeepBut.trans (by repeat (first | (with_reducible first | exact HK.out | apply KeepBut.set_ | apply keep_drewN | apply keep_drew | apply keep_alloc) | exact HK.out)) hk (.inl rfl)); have n2_ := Aside0.mk (hb); have n3_ := Aside0.mk (hi); clear HO_5; clear HK; clear HB; clear HI0; have HO_5 := n0_; have HK := n1_; have HB := n2_; have HI0 := n3_; clear n0_ n1_ n2_ n3_; (try clear hb); (try clear hb2); (try clear hk); (try clear hi); obtain ⟨HGz60, hgz60⟩ := HI0.out; have hcz60_0 := cellS120_0 HGz60; have hcz60_1 := cellS120_1 HGz60; have hfz60_0 := blk_frozen HGz60 0; have hfz60_1 := blk_frozen HGz60 1; clear HGz60 hgz60))
                                      have n0_ := Aside0.mk (Kd.R_drew HO_5.out)
                                      have n1_ := Aside0.mk (IsS120.drew HI0.out)
                                      have n2_ := Aside0.mk (keep_drew HK.out)
                                      have n3_ := Aside0.mk (below_drew1 HB.out)
                                      clear HO_5
                                      clear HI0
                                      clear HK
                                      clear HB
                                      have HO_5 := n0_
                                      have HI0 := n1_
                                      have HK := n2_
                                      have HB := n3_
                                      clear n0_ n1_ n2_ n3_
                                      refine start_ (n := 10) (S := fun w' => True) (ds := []) #[false, false, false, false, false, false, false, false, false, false] (by kernel_rfl) rfl rfl trivial (fun hHeld => ?_); refine with_tabW frame_Reader_Feed.tab12 frame_Reader_Feed.bits12 (fun HT_ HW_ => ?_)
                                      generalize w59.drew = w61 at HO_5 HI0 HK HB hHeld ⊢
                                      refine pure_ (i := 0) (N := some 57) (v := ?_) (a' := ?_) #[true, false, false, false, false, false, false, false, false, false] rfl rfl (any_of HT_.out (by kernel_rfl)) (fun _ _ _ h => h) (Or.inl ⟨by rfl, ?_⟩) ?_ ?_
                                      rotate_left
                                      · intro w'
                                        go_simp
                                        with_reducible rfl
                                      rotate_left
                                      · simp only [Act.put, List.setIfInBounds_toArray, List.set_cons_zero, List.set_cons_succ, i64_w, i32_w]
                                        rfl
                                      refine pure_ (i := 1) (N := some 58) (v := ?_) (a' := ?_) #[true, true, false, false, false, false, false, false, false, false] rfl rfl (any_of HT_.out (by kernel_rfl)) (fun _ _ _ h => h) (Or.inl ⟨by rfl, ?_⟩) ?_ ?_
                                      rotate_left
                                      · intro w'
                                        go_simp
                                        with_reducible rfl
                                      rotate_left
                                      · simp only [Act.put, List.setIfInBounds_toArray, List.set_cons_zero, List.set_cons_succ, i64_w, i32_w]
                                        rfl
                                      refine pure_ (i := 2) (N := some 59) (v := ?_) (a' := ?_) #[true, true, true, false, false, false, false, false, false, false] rfl rfl (any_of HT_.out (by kernel_rfl)) (fun _ _ _ h => h) (Or.inl ⟨by rfl, ?_⟩) ?_ ?_
                                      rotate_left
                                      · intro w'
                                        go_simp
                                        with_reducible rfl
                                      rotate_left
                                      · simp only [Act.put, List.setIfInBounds_toArray, List.set_cons_zero, List.set_cons_succ, i64_w, i32_w]
                                        rfl
                                      refine pure_ (i := 3) (N := some 60) (v := ?_) (a' := ?_) #[true, true, true, true, false, false, false, false, false, false] rfl rfl (any_of HT_.out (by kernel_rfl)) (fun _ _ _ h => h) (Or.inl ⟨by rfl, ?_⟩) ?_ ?_
                                      rotate_left
                                      · intro w'
                                        go_simp
                                        with_reducible rfl
                                      rotate_left
                                      · simp only [Act.put, List.setIfInBounds_toArray, List.set_cons_zero, List.set_cons_succ, i64_w, i32_w]
                                        rfl
                                      refine pure_ (i := 5) (N := some 62) (v := ?_) (a' := ?_) #[true, true, true, true, false, true, false, false, false, false] rfl rfl (any_of HT_.out (by kernel_rfl)) (fun _ _ _ h => h) (Or.inl ⟨by rfl, ?_⟩) ?_ ?_
                                      rotate_left
                                      · intro w'
                                        go_simp
                                        with_reducible rfl
                                      rotate_left
                                      · simp only [Act.put, List.setIfInBounds_toArray, List.set_cons_zero, List.set_cons_succ, i64_w, i32_w]
                                        rfl
                                      refine pure_ (i := 6) (N := some 63) (v := ?_) (a' := ?_) #[true, true, true, true, false, true, true, false, false, false] rfl rfl (any_of HT_.out (by kernel_rfl)) (fun _ _ _ h => h) (Or.inl ⟨by rfl, ?_⟩) ?_ ?_
                                      rotate_left
                                      · intro w'
                                        go_simp
                                        with_reducible rfl
                                      rotate_left
                                      · simp only [Act.put, List.setIfInBounds_toArray, List.set_cons_zero, List.set_cons_succ, i64_w, i32_w]
                                        rfl
                                      refine pure_ (i := 7) (N := some 64) (v := ?_) (a' := ?_) #[true, true, true, true, false, true, true, true, false, false] rfl rfl (any_of HT_.out (by kernel_rfl)) (fun _ _ _ h => h) (Or.inl ⟨by rfl, ?_⟩) ?_ ?_
                                      rotate_left
                                      · intro w'
                                        go_simp
                                        with_reducible rfl
                                      rotate_left
                                      · simp only [Act.put, List.setIfInBounds_toArray, List.set_cons_zero, List.set_cons_succ, i64_w, i32_w]
                                        rfl
                                      refine pure_ (i := 8) (N := some 65) (v := ?_) (a' := ?_) #[true, true, true, true, false, true, true, true, true, false] rfl rfl (any_of HT_.out (by kernel_rfl)) (fun _ _ _ h => h) (Or.inl ⟨by rfl, ?_⟩) ?_ ?_
                                      rotate_left
                                      · intro w'
                                        go_simp
                                        with_reducible rfl
                                      rotate_left
                                      · simp only [Act.put, List.setIfInBounds_toArray, List.set_cons_zero, List.set_cons_succ, i64_w, i32_w]
                                        rfl
                                      refine one_ (i := 4) (N := some 61) #[true, true, true, true, true, true, true, true, true, false] rfl rfl (one_of HT_.out (by kernel_rfl)) (by decide) (fun K hK => ?_)
                                      refine goes_ Try.func81 (by kernel_rfl) rfl #[.string ye39] (by rfl) rfl rfl (by (try simp only [List.map_toArray, List.map_cons, List.map_nil]); first | done | rfl | (simp only [List.length_drop, List.length_take]; rfl)) ?_
                                      with_reducible refine (frame_check.calls k1 ye39 t147 _ A40.out).mono ?_
                                      rintro e w62 ⟨rfl, hb⟩
                                      refine ⟨_, rfl, ?_⟩
                                      have n0_ := Aside0.mk (Kd.R_below (by (with_reducible repeat (first | apply Kd.R_alloc | apply Kd.R_drewN | apply Kd.R_drew)); exact HO_5.out) hb)
                                      have n1_ := Aside0.mk (IsS120.below (by repeat (first | (with_reducible first | exact HI0.out | apply IsS120.alloc | apply IsS120.drewN | apply IsS120.drew | apply IsS120.set_0 | apply IsS120.set_1) | exact HI0.out)) hb)
                                      have n2_ := Aside0.mk (KeepBut.trans (by repeat (first | (with_reducible first | exact HK.out | apply KeepBut.set_ | apply keep_drewN | apply keep_drew | apply keep_alloc) | exact HK.out)) (KeepBut.of_below hb g none) (.inl rfl))
                                      have n3_ := Aside0.mk (below_step (by repeat (first | (with_reducible first | exact HB.out | apply below_alloc | apply pw_below_drewN | apply below_drew1 | refine below_set ?_ (IsS120.ge HI0.out)) | exact HB.out)) hb)
                                      clear HO_5
                                      clear HI0
                                      clear HK
                                      clear HB
                                      have HO_5 := n0_
                                      have HI0 := n1_
                                      have HK := n2_
                                      have HB := n3_
                                      clear n0_ n1_ n2_ n3_
                                      (try clear hb)
                                      (try clear hb2)
                                      (try clear hk)
                                      (try clear hi)
                                      refine hK.out _ _ trivial (fun hHeld => ?_)
                                      clear hK K
                                      refine norm_ (a' := ?_) ?_ ?_
                                      rotate_left
                                      · show Act.put _ (some 61) _ = _
                                        simp only [Act.put, List.setIfInBounds_toArray, List.set_cons_zero, List.set_cons_succ, i64_w, i32_w]
                                        rfl
                                      refine pure_ (i := 9) (N := some 66) (v := ?_) (a' := ?_) #[true, true, true, true, true, true, true, true, true, true] rfl rfl (any_of HT_.out (by kernel_rfl)) (fun _ _ _ h => h) (Or.inl ⟨by rfl, ?_⟩) ?_ ?_
                                      rotate_left
                                      · intro w'
                                        go_simp
                                        with_reducible rfl
                                      rotate_left
                                      · simp only [Act.put, List.setIfInBounds_toArray, List.set_cons_zero, List.set_cons_succ, i64_w, i32_w]
                                        rfl
                                      refine done_ (done_of HT_.out (by kernel_rfl)) ?_
                                      try go_wp2
                                      have n0_ := Aside0.mk (Kd.R_drew HO_5.out)
                                      have n1_ := Aside0.mk (IsS120.drew HI0.out)
                                      have n2_ := Aside0.mk (keep_drew HK.out)
                                      have n3_ := Aside0.mk (below_drew1 HB.out)
                                      clear HO_5
                                      clear HI0
                                      clear HK
                                      clear HB
                                      have HO_5 := n0_
                                      have HI0 := n1_
                                      have HK := n2_
                                      have HB := n3_
                                      clear n0_ n1_ n2_ n3_
                                      have p47 : 0 ≤ (2 : Int) := (by omega)
                                      have q47 : 2 < ye36.size := (by have : (2 : Int) < (ye36.size : Int) := of_decide_eq_true (by first | (with_reducible assumption) | assumption); omega)
                                      have hx47 : ∀ h : 2 < ye36.size, ((ye36[2]'h).toNat : Int) = bt ye36 2 := bt_at ye36 2
                                      clear p47
                                      have qi47 : (2 < (ye36.size : Int)) = True := eq_true (of_decide_eq_true (by first | (with_reducible assumption) | assumption))
                                      replace q47 := eq_true q47
                                      have p49 : 0 ≤ (3 : Int) := (by omega)
                                      have q49 : 3 < ye36.size := (by have : (3 : Int) < (ye36.size : Int) := of_decide_eq_true (by first | (with_reducible assumption) | assumption); omega)
                                      have hx49 : ∀ h : 3 < ye36.size, ((ye36[3]'h).toNat : Int) = bt ye36 3 := bt_at ye36 3
                                      clear p49
                                      have qi49 : (3 < (ye36.size : Int)) = True := eq_true (of_decide_eq_true (by first | (with_reducible assumption) | assumption))
                                      replace q49 := eq_true q49
                                      refine start_ (n := 16) (S := fun w' => True) (ds := []) #[false, false, false, false, false, false, false, false, false, false, false, false, false, false, false, false] (by kernel_rfl) rfl rfl trivial (fun hHeld => ?_); refine with_tabW frame_Reader_Feed.tab14 frame_Reader_Feed.bits14 (fun HT_ HW_ => ?_)
                                      generalize w62.drew = w63 at HO_5 HI0 HK HB hHeld ⊢
                                      refine pure_ (i := 0) (N := some 69) (v := ?_) (a' := ?_) #[true, false, false, false, false, false, false, false, false, false, false, false, false, false, false, false] rfl rfl (any_of HT_.out (by kernel_rfl)) (fun _ _ _ h => h) (Or.inl ⟨by rfl, ?_⟩) ?_ ?_
                                      rotate_left
                                      · intro w'
                                        go_simp
                                        with_reducible rfl
                                      rotate_left
                                      · simp only [Act.put, List.setIfInBounds_toArray, List.set_cons_zero, List.set_cons_succ, i64_w, i32_w]
                                        rfl
                                      refine pure_ (i := 1) (N := some 70) (v := ?_) (a' := ?_) #[true, true, false, false, false, false, false, false, false, false, false, false, false, false, false, false] rfl rfl (any_of HT_.out (by kernel_rfl)) (fun _ _ _ h => h) (Or.inl ⟨by rfl, ?_⟩) ?_ ?_
                                      rotate_left
                                      · intro w'
                                        go_simp
                                        with_reducible rfl
                                      rotate_left
                                      · simp only [Act.put, List.setIfInBounds_toArray, List.set_cons_zero, List.set_cons_succ, i64_w, i32_w]
                                        rfl
                                      refine pure_ (i := 4) (N := some 73) (v := ?_) (a' := ?_) #[true, true, false, false, true, false, false, false, false, false, false, false, false, false, false, false] rfl rfl (any_of HT_.out (by kernel_rfl)) (fun _ _ _ h => h) (Or.inl ⟨by rfl, ?_⟩) ?_ ?_
                                      rotate_left
                                      · intro w'
                                        go_simp
                                        with_reducible rfl
                                      rotate_left
                                      · simp only [Act.put, List.setIfInBounds_toArray, List.set_cons_zero, List.set_cons_succ, i64_w, i32_w]
                                        rfl
                                      refine pure_ (i := 7) (N := some 76) (v := ?_) (a' := ?_) #[true, true, false, false, true, false, false, true, false, false, false, false, false, false, false, false] rfl rfl (any_of HT_.out (by kernel_rfl)) (fun _ _ _ h => h) (Or.inl ⟨by rfl, ?_⟩) ?_ ?_
                                      rotate_left
                                      · intro w'
                                        go_simp
                                        with_reducible rfl
                                      rotate_left
                                      · simp only [Act.put, List.setIfInBounds_toArray, List.set_cons_zero, List.set_cons_succ, i64_w, i32_w]
                                        rfl
                                      refine pure_ (i := 8) (N := some 77) (v := ?_) (a' := ?_) #[true, true, false, false, true, false, false, true, true, false, false, false, false, false, false, false] rfl rfl (any_of HT_.out (by kernel_rfl)) (fun _ _ _ h => h) (Or.inl ⟨by rfl, ?_⟩) ?_ ?_
                                      rotate_left
                                      · intro w'
                                        go_simp
                                        with_reducible rfl
                                      rotate_left
                                      · simp only [Act.put, List.setIfInBounds_toArray, List.set_cons_zero, List.set_cons_succ, i64_w, i32_w]
                                        rfl
                                      refine pure_ (i := 9) (N := some 78) (v := ?_) (a' := ?_) #[true, true, false, false, true, false, false, true, true, true, false, false, false, false, false, false] rfl rfl (any_of HT_.out (by kernel_rfl)) (fun _ _ _ h => h) (Or.inl ⟨by rfl, ?_⟩) ?_ ?_
                                      rotate_left
                                      · intro w'
                                        go_simp
                                        with_reducible rfl
                                      rotate_left
                                      · simp only [Act.put, List.setIfInBounds_toArray, List.set_cons_zero, List.set_cons_succ, i64_w, i32_w]
                                        rfl
                                      refine pure_ (i := 10) (N := some 79) (v := ?_) (a' := ?_) #[true, true, false, false, true, false, false, true, true, true, true, false, false, false, false, false] rfl rfl (any_of HT_.out (by kernel_rfl)) (fun _ _ _ h => h) (Or.inl ⟨by rfl, ?_⟩) ?_ ?_
                                      rotate_left
                                      · intro w'
                                        go_simp
                                        with_reducible rfl
                                      rotate_left
                                      · simp only [Act.put, List.setIfInBounds_toArray, List.set_cons_zero, List.set_cons_succ, i64_w, i32_w]
                                        rfl
                                      refine take_ (i := 2) (N := some 71) (v := ?_) (a' := ?_) #[true, true, true, false, true, false, false, true, true, true, true, false, false, false, false, false] rfl rfl (take_ofW HT_.out HW_.out (by kernel_rfl)) (fun _ _ _ h => h) (Or.inl ⟨by rfl, ?_⟩) hHeld ?_ ?_
                                      rotate_left
                                      · intro w' _
                                        go_simp
                                        with_reducible rfl
                                      rotate_left
                                      · simp only [Act.put, List.setIfInBounds_toArray, List.set_cons_zero, List.set_cons_succ, i64_w, i32_w]
                                        rfl
                                      refine pure_ (i := 3) (N := some 72) (v := ?_) (a' := ?_) #[true, true, true, true, true, false, false, true, true, true, true, false, false, false, false, false] rfl rfl (any_of HT_.out (by kernel_rfl)) (fun _ _ _ h => h) (Or.inl ⟨by rfl, ?_⟩) ?_ ?_
                                      rotate_left
                                      · intro w'
                                        go_simp
                                        with_reducible rfl
                                      rotate_left
                                      · simp only [Act.put, List.setIfInBounds_toArray, List.set_cons_zero, List.set_cons_succ, i64_w, i32_w]
                                        rfl
                                      refine take_ (i := 5) (N := some 74) (v := ?_) (a' := ?_) #[true, true, true, true, true, true, false, true, true, true, true, false, false, false, false, false] rfl rfl (take_ofW HT_.out HW_.out (by kernel_rfl)) (fun _ _ _ h => h) (Or.inl ⟨by rfl, ?_⟩) hHeld ?_ ?_
                                      rotate_left
                                      · intro w' _
                                        go_simp
                                        with_reducible rfl
                                      rotate_left
                                      · simp only [Act.put, List.setIfInBounds_toArray, List.set_cons_zero, List.set_cons_succ, i64_w, i32_w]
                                        rfl
                                      refine pure_ (i := 6) (N := some 75) (v := ?_) (a' := ?_) #[true, true, true, true, true, true, true, true, true, true, true, false, false, false, false, false] rfl rfl (any_of HT_.out (by kernel_rfl)) (fun _ _ _ h => h) (Or.inl ⟨by rfl, ?_⟩) ?_ ?_
                                      rotate_left
                                      · intro w'
                                        go_simp
                                        with_reducible rfl
                                      rotate_left
                                      · simp only [Act.put, List.setIfInBounds_toArray, List.set_cons_zero, List.set_cons_succ, i64_w, i32_w]
                                        rfl
                                      refine one_ (i := 11) (N := some 80) #[true, true, true, true, true, true, true, true, true, true, true, true, false, false, false, false] rfl rfl (one_of HT_.out (by kernel_rfl)) (by decide) (fun K hK => ?_)
                                      refine goes_ Try.func86 (by kernel_rfl) rfl #[.string ye52] (by rfl) rfl rfl (by (try simp only [List.map_toArray, List.map_cons, List.map_nil]); first | done | rfl | (simp only [List.length_drop, List.length_take]; rfl)) ?_
                                      with_reducible refine (strings_Clone.calls ye52 t148 _ A53.out).mono ?_
                                      rintro e w64 ⟨rfl, hb⟩
                                      refine ⟨_, rfl, ?_⟩
                                      have n0_ := Aside0.mk (Kd.R_below (by (with_reducible repeat (first | apply Kd.R_alloc | apply Kd.R_drewN | apply Kd.R_drew)); exact HO_5.out) hb)
                                      have n1_ := Aside0.mk (IsS120.below (by repeat (first | (with_reducible first | exact HI0.out | apply IsS120.alloc | apply IsS120.drewN | apply IsS120.drew | apply IsS120.set_0 | apply IsS120.set_1) | exact HI0.out)) hb)
                                      have n2_ := Aside0.mk (KeepBut.trans (by repeat (first | (with_reducible first | exact HK.out | apply KeepBut.set_ | apply keep_drewN | apply keep_drew | apply keep_alloc) | exact HK.out)) (KeepBut.of_below hb g none) (.inl rfl))
                                      have n3_ := Aside0.mk (below_step (by repeat (first | (with_reducible first | exact HB.out | apply below_alloc | apply pw_below_drewN | apply below_drew1 | refine below_set ?_ (IsS120.ge HI0.out)) | exact HB.out)) hb)
                                      clear HO_5
                                      clear HI0
                                      clear HK
                                      clear HB
                                      have HO_5 := n0_
                                      have HI0 := n1_
                                      have HK := n2_
                                      have HB := n3_
                                      clear n0_ n1_ n2_ n3_
                                      (try clear hb)
                                      (try clear hb2)
                                      (try clear hk)
                                      (try clear hi)
                                      refine hK.out _ _ trivial (fun hHeld => ?_)
                                      clear hK K
                                      refine norm_ (a' := ?_) ?_ ?_
                                      rotate_left
                                      · show Act.put _ (some 80) _ = _
                                        simp only [Act.put, List.setIfInBounds_toArray, List.set_cons_zero, List.set_cons_succ, i64_w, i32_w]
                                        rfl
                                      refine pure_ (i := 12) (N := some 81) (v := ?_) (a' := ?_) #[true, true, true, true, true, true, true, true, true, true, true, true, true, false, false, false] rfl rfl (any_of HT_.out (by kernel_rfl)) (fun _ _ _ h => h) (Or.inl ⟨by rfl, ?_⟩) ?_ ?_
                                      rotate_left
                                      · intro w'
                                        go_simp
                                        with_reducible rfl
                                      rotate_left
                                      · simp only [Act.put, List.setIfInBounds_toArray, List.set_cons_zero, List.set_cons_succ, i64_w, i32_w]
                                        rfl
                                      refine one_ (i := 13) (N := some 82) #[true, true, true, true, true, true, true, true, true, true, true, true, true, true, false, false] rfl rfl (one_of HT_.out (by kernel_rfl)) (by decide) (fun K hK => ?_)
                                      refine value_ (w1 := ?_) (v := ?_) (by rfl) rfl ?_ ?_
                                      rotate_left 2
                                      · go_simp
                                        constructor
                                        · rfl
                                        · rfl
                                      refine hK.out _ _ trivial (fun hHeld => ?_)
                                      clear hK K
                                      refine norm_ (a' := ?_) ?_ ?_
                                      rotate_left
                                      · show Act.put _ (some 82) _ = _
                                        simp only [Act.put, List.setIfInBounds_toArray, List.set_cons_zero, List.set_cons_succ, i64_w, i32_w]
                                        rfl
                                      refine one_ (i := 14) (N := some 83) #[true, true, true, true, true, true, true, true, true, true, true, true, true, true, true, false] rfl rfl (one_of HT_.out (by kernel_rfl)) (by decide) (fun K hK => ?_)
                                      refine Kd.R_append_step k45 w.heap.size (by rfl) (.tmp 69) (.tmp 82) 71 45 (.agg #[(.int .i64 0), (.int .i64 0), (.string ⟨#[]⟩)]) 32 rfl Try.underlying71 info45 rfl (by decide) (by omega) u5 x5_1 (⟨wrap64 (bt ye36 2), wrap64 (bt ye36 3), t148⟩ : S45) [.int .i64 (wrap64 (bt ye36 2)), .int .i64 (wrap64 (bt ye36 3)), .string t148] (fun _ => True) (fun _ => False) rfl rfl ?aP (fun _ hk => hk.elim) ?aF ?aO (Below.refl _ _) ?aS ?aL ?_
                                      (case aP => exact k45_mkM _ _ _ (⟨wrap64 (bt ye36 2), wrap64 (bt ye36 3), t148⟩ : S45))
                                      (case aF => exact (fun _ _ => trivial))
                                      (case aO => exact (by (with_reducible repeat (first | apply Kd.R_alloc | apply Kd.R_drewN | apply Kd.R_drew)); exact HO_5.out))
                                      (case aS => exact (keep_size (w := w) (g := g) (row := none) (by repeat (first | (with_reducible first | exact HK.out | apply KeepBut.set_ | apply keep_drewN | apply keep_drew | apply keep_alloc) | exact HK.out))))
                                      (case aL => have := LMc54.out; omega)
                                      intro v150 w65 ho hb hg hat
                                      rw [← Ny149.out] at ho
                                      have n0_ := Aside0.mk (IsS120.grown (by repeat (first | (with_reducible first | exact HI0.out | apply IsS120.alloc | apply IsS120.drewN | apply IsS120.drew | apply IsS120.set_0 | apply IsS120.set_1) | exact HI0.out)) hg (IsS120.own_ne HI0.out HO_5.out (by decide)))
                                      have n1_ := Aside0.mk (below_weaken (by repeat (first | (with_reducible first | exact HB.out | apply below_alloc | apply pw_below_drewN | apply below_drew1 | refine below_set ?_ (IsS120.ge HI0.out)) | exact HB.out)) HL.out hb)
                                      have n2_ := Aside0.mk (KeepBut.trans (by repeat (first | (with_reducible first | exact HK.out | apply KeepBut.set_ | apply keep_drewN | apply keep_drew | apply keep_alloc) | exact HK.out)) (KeepBut.of_grown hg g) (Kd.R_base2 HO_5.out))
                                      have n3_ := Aside0.mk (ho)
                                      clear HI0
                                      clear HB
                                      clear HK
                                      clear HO_5
                                      have HI0 := n0_
                                      have HB := n1_
                                      have HK := n2_
                                      have HO151 := n3_
                                      clear n0_ n1_ n2_ n3_
                                      clear ho hb hg hat
                                      refine hK.out _ _ trivial (fun hHeld => ?_)
                                      clear hK K
                                      refine norm_ (a' := ?_) ?_ ?_
                                      rotate_left
                                      · show Act.put _ (some 83) _ = _
                                        simp only [Act.put, List.setIfInBounds_toArray, List.set_cons_zero, List.set_cons_succ, i64_w, i32_w]
                                        rfl
                                      refine pure_ (i := 15) (N := some 5) (v := ?_) (a' := ?_) #[true, true, true, true, true, true, true, true, true, true, true, true, true, true, true, true] rfl rfl (any_of HT_.out (by kernel_rfl)) (fun _ _ _ h => h) (Or.inl ⟨by rfl, ?_⟩) ?_ ?_
                                      rotate_left
                                      · intro w'
                                        go_simp
                                        with_reducible rfl
                                      rotate_left
                                      · simp only [Act.put, List.setIfInBounds_toArray, List.set_cons_zero, List.set_cons_succ, i64_w, i32_w]
                                        rfl
                                      refine done_ (done_of HT_.out (by kernel_rfl)) ?_
                                      try go_wp2_with (first | ((with_reducible refine gate_callee (f := 87) rfl ?_); refine goesL_ (some 89) rfl rfl Try.func87 (by kernel_rfl) rfl #[.pointer (some ⟨g, 0, none⟩), .int .i64 (ye36.size : Int)] rfl (by (try simp only [List.map_toArray, List.map_cons, List.map_nil]); first | done | rfl | (simp only [List.length_drop, List.length_take]; rfl)) ?_; (with_reducible refine (frame_buffer_drop.calls g t144 t145 (ye36.size : Int) t152 t153 w0 _ ?side1 ?side2 A55.out).mono ?_); (case side1 => repeat (first | (with_reducible first | exact HI0.out | apply IsS120.alloc | apply IsS120.drewN | apply IsS120.drew | apply IsS120.set_0 | apply IsS120.set_1) | exact HI0.out)); (case side2 => repeat (first | (with_reducible first | exact HB.out | apply below_alloc | apply pw_below_drewN | apply below_drew1 | refine below_set ?_ (IsS120.ge HI0.out)) | exact HB.out)); rintro e w66 ⟨rfl, hi, hb, hk⟩; refine ⟨_, rfl, ?_⟩; have n0_ := Aside0.mk (Kd.R_mono (Kd.R_keep (IsS120.apart (show IsS120 w0 _ g t144 t145 from by repeat (first | (with_reducible first | exact HI0.out | apply IsS120.alloc | apply IsS120.drewN | apply IsS120.drew | apply IsS120.set_0 | apply IsS120.set_1) | exact HI0.out)) (by (with_reducible repeat (first | apply Kd.R_alloc | apply Kd.R_drewN | apply Kd.R_drew)); exact HO151.out) (by decide)) hk (fun _ h => h.2)) (fun _ h => h.1)); have n1_ := Aside0.mk (KeepBut.trans (by repeat (first | (with_reducible first | exact HK.out | apply KeepBut.set_ | apply keep_drewN | apply keep_drew | apply keep_alloc) | exact HK.out)) hk (.inl rfl)); have n2_ := Aside0.mk (hb); have n3_ := Aside0.mk (hi); clear HO151; clear HK; clear HB; clear HI0; have HO151 := n0_; have HK := n1_; have HB := n2_; have HI0 := n3_; clear n0_ n1_ n2_ n3_; (try clear hb); (try clear hb2); (try clear hk); (try clear hi)))
                                      go_roundg k1
                                      case measure => have := HK1.out; omega
                                      case rel => exact ⟨(y149), (t152), (t153), H', ⟨by have := HK1.out; omega⟩, ⟨by (with_reducible repeat (first | apply Kd.R_alloc | apply Kd.R_drewN | apply Kd.R_drew)); exact HO151.out⟩, ⟨by repeat (first | (with_reducible first | exact HI0.out | apply IsS120.alloc | apply IsS120.drewN | apply IsS120.drew | apply IsS120.set_0 | apply IsS120.set_1) | exact HI0.out)⟩, ⟨by repeat (first | (with_reducible first | exact HK.out | apply KeepBut.set_ | apply keep_drewN | apply keep_drew | apply keep_alloc) | exact HK.out)⟩, ⟨by repeat (first | (with_reducible first | exact HB.out | apply below_alloc | apply pw_below_drewN | apply below_drew1 | refine below_set ?_ (IsS120.ge HI0.out)) | exact HB.out)⟩⟩
                                    · rw [if_neg c54] at H
                                      exact absurd H (by simp)
                                  · rw [if_neg c50] at H
                                    exact absurd H (by simp)
                                · rw [if_neg c48] at H
                                  exact absurd H (by simp)
                              · rw [if_neg c46] at H
                                exact absurd H (by simp)
                            · rw [if_neg c45] at H
                              have c45b0 : (t147.toList == ye44.toList) = false := beq_eq_false_iff_ne.mpr c45
                              have c45b1 : (t147.toList != ye44.toList) = true := bne_iff_ne.mpr c45
                              replace H := Option.bind_eq_some_iff.mp H
                              obtain ⟨⟨t154, t155⟩, A670, H⟩ := H
                              replace H : (frame_Reader_Feed.l0 k1 x5_1 t154 t155) = some (r1, r2, r3) := H
                              have A67 := Aside0.mk A670
                              clear A670
                              have H' := Aside0.mk H
                              clear H
                              try go_wp2_with (first | ((with_reducible refine gate_callee (f := 83) rfl ?_); refine goesL_ (some 23) rfl rfl Try.func83 (by kernel_rfl) rfl #[.pointer (some ⟨g, 0, none⟩)] rfl (by (try simp only [List.map_toArray, List.map_cons, List.map_nil]); first | done | rfl | (simp only [List.length_drop, List.length_take]; rfl)) ?_; (with_reducible refine (frame_buffer_seek.calls g x1000_1 x1001_1 true t134 t135 w0 _ ?side1 ?side2 A5.out).mono ?_); (case side1 => repeat (first | (with_reducible first | exact HI0.out | apply IsS120.alloc | apply IsS120.drewN | apply IsS120.drew | apply IsS120.set_0 | apply IsS120.set_1) | exact HI0.out)); (case side2 => repeat (first | (with_reducible first | exact HB.out | apply below_alloc | apply pw_below_drewN | apply below_drew1 | refine below_set ?_ (IsS120.ge HI0.out)) | exact HB.out)); rintro e w68 ⟨rfl, hi, hb, hk⟩; refine ⟨_, rfl, ?_⟩; have n0_ := Aside0.mk (Kd.R_mono (Kd.R_keep (IsS120.apart (show IsS120 w0 _ g x1000_1 x1001_1 from by repeat (first | (with_reducible first | exact HI0.out | apply IsS120.alloc | apply IsS120.drewN | apply IsS120.drew | apply IsS120.set_0 | apply IsS120.set_1) | exact HI0.out)) (by (with_reducible repeat (first | apply Kd.R_alloc | apply Kd.R_drewN | apply Kd.R_drew)); exact HO_5.out) (by decide)) hk (fun _ h => h.2)) (fun _ h => h.1)); have n1_ := Aside0.mk (KeepBut.trans (by repeat (first | (with_reducible first | exact HK.out | apply KeepBut.set_ | apply keep_drewN | apply keep_drew | apply keep_alloc) | exact HK.out)) hk (.inl rfl)); have n2_ := Aside0.mk (hb); have n3_ := Aside0.mk (hi); clear HO_5; clear HK; clear HB; clear HI0; have HO_5 := n0_; have HK := n1_; have HB := n2_; have HI0 := n3_; clear n0_ n1_ n2_ n3_; (try clear hb); (try clear hb2); (try clear hk); (try clear hi)) | ((with_reducible refine gate_callee (f := 84) rfl ?_); refine goesL_ (some 27) rfl rfl Try.func84 (by kernel_rfl) rfl #[.pointer (some ⟨g, 0, none⟩)] rfl (by (try simp only [List.map_toArray, List.map_cons, List.map_nil]); first | done | rfl | (simp only [List.length_drop, List.length_take]; rfl)) ?_; (with_reducible refine (frame_buffer_held.calls g t134 t135 t137 t138 t139 w0 _ ?side1 ?side2 A7.out).mono ?_); (case side1 => repeat (first | (with_reducible first | exact HI0.out | apply IsS120.alloc | apply IsS120.drewN | apply IsS120.drew | apply IsS120.set_0 | apply IsS120.set_1) | exact HI0.out)); (case side2 => repeat (first | (with_reducible first | exact HB.out | apply below_alloc | apply pw_below_drewN | apply below_drew1 | refine below_set ?_ (IsS120.ge HI0.out)) | exact HB.out)); rintro e w69 ⟨rfl, hi, hb, hk⟩; refine ⟨_, rfl, ?_⟩; have n0_ := Aside0.mk (Kd.R_mono (Kd.R_keep (IsS120.apart (show IsS120 w0 _ g t134 t135 from by repeat (first | (with_reducible first | exact HI0.out | apply IsS120.alloc | apply IsS120.drewN | apply IsS120.drew | apply IsS120.set_0 | apply IsS120.set_1) | exact HI0.out)) (by (with_reducible repeat (first | apply Kd.R_alloc | apply Kd.R_drewN | apply Kd.R_drew)); exact HO_5.out) (by decide)) hk (fun _ h => h.2)) (fun _ h => h.1)); have n1_ := Aside0.mk (KeepBut.trans (by repeat (first | (with_reducible first | exact HK.out | apply KeepBut.set_ | apply keep_drewN | apply keep_drew | apply keep_alloc) | exact HK.out)) hk (.inl rfl)); have n2_ := Aside0.mk (hb); have n3_ := Aside0.mk (hi); clear HO_5; clear HK; clear HB; clear HI0; have HO_5 := n0_; have HK := n1_; have HB := n2_; have HI0 := n3_; clear n0_ n1_ n2_ n3_; (try clear hb); (try clear hb2); (try clear hk); (try clear hi); obtain ⟨HGz70, hgz70⟩ := HI0.out; have hcz70_0 := cellS120_0 HGz70; have hcz70_1 := cellS120_1 HGz70; have hfz70_0 := blk_frozen HGz70 0; have hfz70_1 := blk_frozen HGz70 1; clear HGz70 hgz70; have p16 : 0 ≤ (1 : Int) := (by omega); have q16 : 1 < t138.size := (by have : (1 : Int) < (t138.size : Int) := of_decide_eq_true (by first | (with_reducible assumption) | assumption); omega); have hx16 : ∀ h : 1 < t138.size, ((t138[1]'h).toNat : Int) = bt t138 1 := bt_at t138 1; clear p16; have qi16 : (1 < (t138.size : Int)) = True := eq_true (of_decide_eq_true (by first | (with_reducible assumption) | assumption)); replace q16 := eq_true q16) | ((with_reducible refine gate_callee (f := 84) rfl ?_); refine goesL_ (some 43) rfl rfl Try.func84 (by kernel_rfl) rfl #[.pointer (some ⟨g, 0, none⟩)] rfl (by (try simp only [List.map_toArray, List.map_cons, List.map_nil]); first | done | rfl | (simp only [List.length_drop, List.length_take]; rfl)) ?_; (with_reducible refine (frame_buffer_held.calls g t138 t139 t143 t144 t145 w0 _ ?side1 ?side2 A23.out).mono ?_); (case side1 => repeat (first | (with_reducible first | exact HI0.out | apply IsS120.alloc | apply IsS120.drewN | apply IsS120.drew | apply IsS120.set_0 | apply IsS120.set_1) | exact HI0.out)); (case side2 => repeat (first | (with_reducible first | exact HB.out | apply below_alloc | apply pw_below_drewN | apply below_drew1 | refine below_set ?_ (IsS120.ge HI0.out)) | exact HB.out)); rintro e w71 ⟨rfl, hi, hb, hk⟩; refine ⟨_, rfl, ?_⟩; have n0_ := Aside0.mk (Kd.R_mono (Kd.R_keep (IsS120.apart (show IsS120 w0 _ g t138 t139 from by repeat (first | (with_reducible first | exact HI0.out | apply IsS120.alloc | apply IsS120.drewN | apply IsS120.drew | apply IsS120.set_0 | apply IsS120.set_1) | exact HI0.out)) (by (with_reducible repeat (first | apply Kd.R_alloc | apply Kd.R_drewN | apply Kd.R_drew)); exact HO_5.out) (by decide)) hk (fun _ h => h.2)) (fun _ h => h.1)); have n1_ := Aside0.mk (KeepBut.trans (by repeat (first | (with_reducible first | exact HK.out | apply KeepBut.set_ | apply keep_drewN | apply keep_drew | apply keep_alloc) | exact HK.out)) hk (.inl rfl)); have n2_ := Aside0.mk (hb); have n3_ := Aside0.mk (hi); clear HO_5; clear HK; clear HB; clear HI0; have HO_5 := n0_; have HK := n1_; have HB := n2_; have HI0 := n3_; clear n0_ n1_ n2_ n3_; (try clear hb); (try clear hb2); (try clear hk); (try clear hi); obtain ⟨HGz72, hgz72⟩ := HI0.out; have hcz72_0 := cellS120_0 HGz72; have hcz72_1 := cellS120_1 HGz72; have hfz72_0 := blk_frozen HGz72 0; have hfz72_1 := blk_frozen HGz72 1; clear HGz72 hgz72))
                              have n0_ := Aside0.mk (Kd.R_drew HO_5.out)
                              have n1_ := Aside0.mk (IsS120.drew HI0.out)
                              have n2_ := Aside0.mk (keep_drew HK.out)
                              have n3_ := Aside0.mk (below_drew1 HB.out)
                              clear HO_5
                              clear HI0
                              clear HK
                              clear HB
                              have HO_5 := n0_
                              have HI0 := n1_
                              have HK := n2_
                              have HB := n3_
                              clear n0_ n1_ n2_ n3_
                              refine start_ (n := 10) (S := fun w' => True) (ds := []) #[false, false, false, false, false, false, false, false, false, false] (by kernel_rfl) rfl rfl trivial (fun hHeld => ?_); refine with_tabW frame_Reader_Feed.tab12 frame_Reader_Feed.bits12 (fun HT_ HW_ => ?_)
                              generalize w71.drew = w73 at HO_5 HI0 HK HB hHeld ⊢
                              refine pure_ (i := 0) (N := some 57) (v := ?_) (a' := ?_) #[true, false, false, false, false, false, false, false, false, false] rfl rfl (any_of HT_.out (by kernel_rfl)) (fun _ _ _ h => h) (Or.inl ⟨by rfl, ?_⟩) ?_ ?_
                              rotate_left
                              · intro w'
                                go_simp
                                with_reducible rfl
                              rotate_left
                              · simp only [Act.put, List.setIfInBounds_toArray, List.set_cons_zero, List.set_cons_succ, i64_w, i32_w]
                                rfl
                              refine pure_ (i := 1) (N := some 58) (v := ?_) (a' := ?_) #[true, true, false, false, false, false, false, false, false, false] rfl rfl (any_of HT_.out (by kernel_rfl)) (fun _ _ _ h => h) (Or.inl ⟨by rfl, ?_⟩) ?_ ?_
                              rotate_left
                              · intro w'
                                go_simp
                                with_reducible rfl
                              rotate_left
                              · simp only [Act.put, List.setIfInBounds_toArray, List.set_cons_zero, List.set_cons_succ, i64_w, i32_w]
                                rfl
                              refine pure_ (i := 2) (N := some 59) (v := ?_) (a' := ?_) #[true, true, true, false, false, false, false, false, false, false] rfl rfl (any_of HT_.out (by kernel_rfl)) (fun _ _ _ h => h) (Or.inl ⟨by rfl, ?_⟩) ?_ ?_
                              rotate_left
                              · intro w'
                                go_simp
                                with_reducible rfl
                              rotate_left
                              · simp only [Act.put, List.setIfInBounds_toArray, List.set_cons_zero, List.set_cons_succ, i64_w, i32_w]
                                rfl
                              refine pure_ (i := 3) (N := some 60) (v := ?_) (a' := ?_) #[true, true, true, true, false, false, false, false, false, false] rfl rfl (any_of HT_.out (by kernel_rfl)) (fun _ _ _ h => h) (Or.inl ⟨by rfl, ?_⟩) ?_ ?_
                              rotate_left
                              · intro w'
                                go_simp
                                with_reducible rfl
                              rotate_left
                              · simp only [Act.put, List.setIfInBounds_toArray, List.set_cons_zero, List.set_cons_succ, i64_w, i32_w]
                                rfl
                              refine pure_ (i := 5) (N := some 62) (v := ?_) (a' := ?_) #[true, true, true, true, false, true, false, false, false, false] rfl rfl (any_of HT_.out (by kernel_rfl)) (fun _ _ _ h => h) (Or.inl ⟨by rfl, ?_⟩) ?_ ?_
                              rotate_left
                              · intro w'
                                go_simp
                                with_reducible rfl
                              rotate_left
                              · simp only [Act.put, List.setIfInBounds_toArray, List.set_cons_zero, List.set_cons_succ, i64_w, i32_w]
                                rfl
                              refine pure_ (i := 6) (N := some 63) (v := ?_) (a' := ?_) #[true, true, true, true, false, true, true, false, false, false] rfl rfl (any_of HT_.out (by kernel_rfl)) (fun _ _ _ h => h) (Or.inl ⟨by rfl, ?_⟩) ?_ ?_
                              rotate_left
                              · intro w'
                                go_simp
                                with_reducible rfl
                              rotate_left
                              · simp only [Act.put, List.setIfInBounds_toArray, List.set_cons_zero, List.set_cons_succ, i64_w, i32_w]
                                rfl
                              refine pure_ (i := 7) (N := some 64) (v := ?_) (a' := ?_) #[true, true, true, true, false, true, true, true, false, false] rfl rfl (any_of HT_.out (by kernel_rfl)) (fun _ _ _ h => h) (Or.inl ⟨by rfl, ?_⟩) ?_ ?_
                              rotate_left
                              · intro w'
                                go_simp
                                with_reducible rfl
                              rotate_left
                              · simp only [Act.put, List.setIfInBounds_toArray, List.set_cons_zero, List.set_cons_succ, i64_w, i32_w]
                                rfl
                              refine pure_ (i := 8) (N := some 65) (v := ?_) (a' := ?_) #[true, true, true, true, false, true, true, true, true, false] rfl rfl (any_of HT_.out (by kernel_rfl)) (fun _ _ _ h => h) (Or.inl ⟨by rfl, ?_⟩) ?_ ?_
                              rotate_left
                              · intro w'
                                go_simp
                                with_reducible rfl
                              rotate_left
                              · simp only [Act.put, List.setIfInBounds_toArray, List.set_cons_zero, List.set_cons_succ, i64_w, i32_w]
                                rfl
                              refine one_ (i := 4) (N := some 61) #[true, true, true, true, true, true, true, true, true, false] rfl rfl (one_of HT_.out (by kernel_rfl)) (by decide) (fun K hK => ?_)
                              refine goes_ Try.func81 (by kernel_rfl) rfl #[.string ye39] (by rfl) rfl rfl (by (try simp only [List.map_toArray, List.map_cons, List.map_nil]); first | done | rfl | (simp only [List.length_drop, List.length_take]; rfl)) ?_
                              with_reducible refine (frame_check.calls k1 ye39 t147 _ A40.out).mono ?_
                              rintro e w74 ⟨rfl, hb⟩
                              refine ⟨_, rfl, ?_⟩
                              have n0_ := Aside0.mk (Kd.R_below (by (with_reducible repeat (first | apply Kd.R_alloc | apply Kd.R_drewN | apply Kd.R_drew)); exact HO_5.out) hb)
                              have n1_ := Aside0.mk (IsS120.below (by repeat (first | (with_reducible first | exact HI0.out | apply IsS120.alloc | apply IsS120.drewN | apply IsS120.drew | apply IsS120.set_0 | apply IsS120.set_1) | exact HI0.out)) hb)
                              have n2_ := Aside0.mk (KeepBut.trans (by repeat (first | (with_reducible first | exact HK.out | apply KeepBut.set_ | apply keep_drewN | apply keep_drew | apply keep_alloc) | exact HK.out)) (KeepBut.of_below hb g none) (.inl rfl))
                              have n3_ := Aside0.mk (below_step (by repeat (first | (with_reducible first | exact HB.out | apply below_alloc | apply pw_below_drewN | apply below_drew1 | refine below_set ?_ (IsS120.ge HI0.out)) | exact HB.out)) hb)
                              clear HO_5
                              clear HI0
                              clear HK
                              clear HB
                              have HO_5 := n0_
                              have HI0 := n1_
                              have HK := n2_
                              have HB := n3_
                              clear n0_ n1_ n2_ n3_
                              (try clear hb)
                              (try clear hb2)
                              (try clear hk)
                              (try clear hi)
                              refine hK.out _ _ trivial (fun hHeld => ?_)
                              clear hK K
                              refine norm_ (a' := ?_) ?_ ?_
                              rotate_left
                              · show Act.put _ (some 61) _ = _
                                simp only [Act.put, List.setIfInBounds_toArray, List.set_cons_zero, List.set_cons_succ, i64_w, i32_w]
                                rfl
                              refine pure_ (i := 9) (N := some 66) (v := ?_) (a' := ?_) #[true, true, true, true, true, true, true, true, true, true] rfl rfl (any_of HT_.out (by kernel_rfl)) (fun _ _ _ h => h) (Or.inl ⟨by rfl, ?_⟩) ?_ ?_
                              rotate_left
                              · intro w'
                                go_simp
                                with_reducible rfl
                              rotate_left
                              · simp only [Act.put, List.setIfInBounds_toArray, List.set_cons_zero, List.set_cons_succ, i64_w, i32_w]
                                rfl
                              refine done_ (done_of HT_.out (by kernel_rfl)) ?_
                              try go_wp2_with (first | ((with_reducible refine gate_callee (f := 85) rfl ?_); refine goesL_ (some 68) rfl rfl Try.func85 (by kernel_rfl) rfl #[.pointer (some ⟨g, 0, none⟩)] rfl (by (try simp only [List.map_toArray, List.map_cons, List.map_nil]); first | done | rfl | (simp only [List.length_drop, List.length_take]; rfl)) ?_; (with_reducible refine (frame_Reader_wrong.calls g t144 t145 t154 t155 w0 _ ?side1 ?side2 A67.out).mono ?_); (case side1 => repeat (first | (with_reducible first | exact HI0.out | apply IsS120.alloc | apply IsS120.drewN | apply IsS120.drew | apply IsS120.set_0 | apply IsS120.set_1) | exact HI0.out)); (case side2 => repeat (first | (with_reducible first | exact HB.out | apply below_alloc | apply pw_below_drewN | apply below_drew1 | refine below_set ?_ (IsS120.ge HI0.out)) | exact HB.out)); rintro e w75 ⟨rfl, hi, hb, hk⟩; refine ⟨_, rfl, ?_⟩; have n0_ := Aside0.mk (Kd.R_mono (Kd.R_keep (IsS120.apart (show IsS120 w0 _ g t144 t145 from by repeat (first | (with_reducible first | exact HI0.out | apply IsS120.alloc | apply IsS120.drewN | apply IsS120.drew | apply IsS120.set_0 | apply IsS120.set_1) | exact HI0.out)) (by (with_reducible repeat (first | apply Kd.R_alloc | apply Kd.R_drewN | apply Kd.R_drew)); exact HO_5.out) (by decide)) hk (fun _ h => h.2)) (fun _ h => h.1)); have n1_ := Aside0.mk (KeepBut.trans (by repeat (first | (with_reducible first | exact HK.out | apply KeepBut.set_ | apply keep_drewN | apply keep_drew | apply keep_alloc) | exact HK.out)) hk (.inl rfl)); have n2_ := Aside0.mk (hb); have n3_ := Aside0.mk (hi); clear HO_5; clear HK; clear HB; clear HI0; have HO_5 := n0_; have HK := n1_; have HB := n2_; have HI0 := n3_; clear n0_ n1_ n2_ n3_; (try clear hb); (try clear hb2); (try clear hk); (try clear hi)))
                              go_roundg k1
                              case measure => have := HK1.out; omega
                              case rel => exact ⟨(x5_1), (t154), (t155), H', ⟨by have := HK1.out; omega⟩, ⟨by (with_reducible repeat (first | apply Kd.R_alloc | apply Kd.R_drewN | apply Kd.R_drew)); exact HO_5.out⟩, ⟨by repeat (first | (with_reducible first | exact HI0.out | apply IsS120.alloc | apply IsS120.drewN | apply IsS120.drew | apply IsS120.set_0 | apply IsS120.set_1) | exact HI0.out)⟩, ⟨by repeat (first | (with_reducible first | exact HK.out | apply KeepBut.set_ | apply keep_drewN | apply keep_drew | apply keep_alloc) | exact HK.out)⟩, ⟨by repeat (first | (with_reducible first | exact HB.out | apply below_alloc | apply pw_below_drewN | apply below_drew1 | refine below_set ?_ (IsS120.ge HI0.out)) | exact HB.out)⟩⟩
                          · rw [if_neg c42] at H
                            exact absurd H (by simp)
                        · rw [if_neg c38] at H
                          exact absurd H (by simp)
                      · rw [if_neg c37] at H
                        exact absurd H (by simp)
                    · rw [if_neg c35] at H
                      exact absurd H (by simp)
                  · rw [if_neg c34] at H
                    exact absurd H (by simp)
            · rw [if_neg c15] at H
              exact absurd H (by simp)
        · replace c6 := Bool.eq_false_iff.mpr c6
          subst c6
          have H1 : ((strings_Clone.f t134).bind fun t136 => (some (x5_1, t136, t135))) = some (r1, r2, r3) := by rw [if_neg (show ¬ (false = true) by decide)] at H; exact H
          clear H
          have H := H1
          clear H1
          replace H := Option.bind_eq_some_iff.mp H
          obtain ⟨t136, A760, H⟩ := H
          replace H : (some (x5_1, t136, t135)) = some (r1, r2, r3) := H
          have A76 := Aside0.mk A760
          clear A760
          simp only [Option.some.injEq, Prod.mk.injEq] at H
          obtain ⟨rfl, rfl, rfl⟩ := H
          go_wp2_with (first | ((with_reducible refine gate_callee (f := 83) rfl ?_); refine goesL_ (some 23) rfl rfl Try.func83 (by kernel_rfl) rfl #[.pointer (some ⟨g, 0, none⟩)] rfl (by (try simp only [List.map_toArray, List.map_cons, List.map_nil]); first | done | rfl | (simp only [List.length_drop, List.length_take]; rfl)) ?_; (with_reducible refine (frame_buffer_seek.calls g x1000_1 x1001_1 false t134 t135 w0 _ ?side1 ?side2 A5.out).mono ?_); (case side1 => repeat (first | (with_reducible first | exact HI0.out | apply IsS120.alloc | apply IsS120.drewN | apply IsS120.drew | apply IsS120.set_0 | apply IsS120.set_1) | exact HI0.out)); (case side2 => repeat (first | (with_reducible first | exact HB.out | apply below_alloc | apply pw_below_drewN | apply below_drew1 | refine below_set ?_ (IsS120.ge HI0.out)) | exact HB.out)); rintro e w77 ⟨rfl, hi, hb, hk⟩; refine ⟨_, rfl, ?_⟩; have n0_ := Aside0.mk (Kd.R_mono (Kd.R_keep (IsS120.apart (show IsS120 w0 _ g x1000_1 x1001_1 from by repeat (first | (with_reducible first | exact HI0.out | apply IsS120.alloc | apply IsS120.drewN | apply IsS120.drew | apply IsS120.set_0 | apply IsS120.set_1) | exact HI0.out)) (by (with_reducible repeat (first | apply Kd.R_alloc | apply Kd.R_drewN | apply Kd.R_drew)); exact HO_5.out) (by decide)) hk (fun _ h => h.2)) (fun _ h => h.1)); have n1_ := Aside0.mk (KeepBut.trans (by repeat (first | (with_reducible first | exact HK.out | apply KeepBut.set_ | apply keep_drewN | apply keep_drew | apply keep_alloc) | exact HK.out)) hk (.inl rfl)); have n2_ := Aside0.mk (hb); have n3_ := Aside0.mk (hi); clear HO_5; clear HK; clear HB; clear HI0; have HO_5 := n0_; have HK := n1_; have HB := n2_; have HI0 := n3_; clear n0_ n1_ n2_ n3_; (try clear hb); (try clear hb2); (try clear hk); (try clear hi); obtain ⟨HGz78, hgz78⟩ := HI0.out; have hcz78_0 := cellS120_0 HGz78; have hcz78_1 := cellS120_1 HGz78; have hfz78_0 := blk_frozen HGz78 0; have hfz78_1 := blk_frozen HGz78 1; clear HGz78 hgz78) | ((with_reducible refine gate_callee (f := 86) rfl ?_); refine goesL_ (some 96) rfl rfl Try.func86 (by kernel_rfl) rfl #[.string t134] rfl (by (try simp only [List.map_toArray, List.map_cons, List.map_nil]); first | done | rfl | (simp only [List.length_drop, List.length_take]; rfl)) ?_; (with_reducible refine (strings_Clone.calls t134 t136 _ A76.out).mono ?_); rintro e w79 ⟨rfl, hb⟩; refine ⟨_, rfl, ?_⟩; have n0_ := Aside0.mk (Kd.R_below (by (with_reducible repeat (first | apply Kd.R_alloc | apply Kd.R_drewN | apply Kd.R_drew)); exact HO_5.out) hb); have n1_ := Aside0.mk (IsS120.below (by repeat (first | (with_reducible first | exact HI0.out | apply IsS120.alloc | apply IsS120.drewN | apply IsS120.drew | apply IsS120.set_0 | apply IsS120.set_1) | exact HI0.out)) hb); have n2_ := Aside0.mk (KeepBut.trans (by repeat (first | (with_reducible first | exact HK.out | apply KeepBut.set_ | apply keep_drewN | apply keep_drew | apply keep_alloc) | exact HK.out)) (KeepBut.of_below hb g none) (.inl rfl)); have n3_ := Aside0.mk (below_step (by repeat (first | (with_reducible first | exact HB.out | apply below_alloc | apply pw_below_drewN | apply below_drew1 | refine below_set ?_ (IsS120.ge HI0.out)) | exact HB.out)) hb); clear HO_5; clear HI0; clear HK; clear HB; have HO_5 := n0_; have HI0 := n1_; have HK := n2_; have HB := n3_; clear n0_ n1_ n2_ n3_; (try clear hb); (try clear hb2); (try clear hk); (try clear hi); obtain ⟨HGz80, hgz80⟩ := HI0.out; have hcz80_0 := cellS120_0 HGz80; have hcz80_1 := cellS120_1 HGz80; have hfz80_0 := blk_frozen HGz80 0; have hfz80_1 := blk_frozen HGz80 1; clear HGz80 hgz80))
          go_ret
          exact ⟨_, by first | rfl | (simp [errW_none, errW_some] <;> rfl) | (simp [*, errW_none, errW_some] <;> rfl), by (with_reducible repeat (first | apply Kd.R_alloc | apply Kd.R_drewN | apply Kd.R_drew)); exact Kd.R_mono (Kd.R_far (p := ⟨g, 0, none⟩) (IsS120.apart HI0.out HO_5.out (by decide)) (fun _ hk => hk.2) (.string t136)) (fun _ hk => trivial), by repeat (first | (with_reducible first | exact HI0.out | apply IsS120.alloc | apply IsS120.drewN | apply IsS120.drew | apply IsS120.set_0 | apply IsS120.set_1) | exact HI0.out), by repeat (first | (with_reducible first | exact HB.out | apply below_alloc | apply pw_below_drewN | apply below_drew1 | refine below_set ?_ (IsS120.ge HI0.out)) | exact HB.out), by repeat (first | (with_reducible first | exact HK.out | apply KeepBut.set_ | apply keep_drewN | apply keep_drew | apply keep_alloc) | exact HK.out)⟩
  · rw [if_neg c3] at H
    exact absurd H (by simp)

/-! ### frame_Reader_Bad: function 49 -/
def frame_Reader_Bad.f (s0_0 : ByteArray) (s0_1 : Int) : Option (Int × ByteArray × Int) := some (s0_1, s0_0, s0_1)
set_option maxHeartbeats 8000000 in
set_option maxRecDepth 100000 in
theorem frame_Reader_Bad.calls (g : Nat) (s0_0 : ByteArray) (s0_1 : Int) (r1 : Int) (r2 : ByteArray) (r3 : Int) (w0 w : World) (hI : IsS120 w0 w g s0_0 s0_1) (hB : Below w0.heap.size w0 w) (h : frame_Reader_Bad.f s0_0 s0_1 = some (r1, r2, r3)) :
    Calls Try.prog 49 #[.pointer (some ⟨g, 0, none⟩)] w fun e w' => e = .returned (.int .i64 r1) ∧ IsS120 w0 w' g r2 r3 ∧ Below w0.heap.size w0 w' ∧ KeepBut w w' g none := by
  have HI0 := Aside0.mk hI
  have HK := Aside0.mk (KeepBut.refl w g none)
  have HL := Aside0.mk hB.size
  clear hI
  have HW0 := Aside0.mk hB.size
  have HB := Aside0.mk hB
  clear hB
  have H : (some (s0_1, s0_0, s0_1)) = some (r1, r2, r3) := h
  clear h
  simp only [Option.some.injEq, Prod.mk.injEq] at H
  obtain ⟨rfl, rfl, rfl⟩ := H
  obtain ⟨HGz2, hgz2⟩ := HI0.out
  have hcz2_0 := cellS120_0 HGz2
  have hcz2_1 := cellS120_1 HGz2
  have hfz2_0 := blk_frozen HGz2 0
  have hfz2_1 := blk_frozen HGz2 1
  clear HGz2 hgz2
  go_enter Try.func49, Try.ntmps49
  go_wp2
  go_ret
  exact ⟨by first | rfl | (simp [errW_none, errW_some] <;> rfl) | (simp [*, errW_none, errW_some] <;> rfl), by repeat (first | (with_reducible first | exact HI0.out | apply IsS120.alloc | apply IsS120.drewN | apply IsS120.drew | apply IsS120.set_0 | apply IsS120.set_1) | exact HI0.out), by repeat (first | (with_reducible first | exact HB.out | apply below_alloc | apply pw_below_drewN | apply below_drew1 | refine below_set ?_ (IsS120.ge HI0.out)) | exact HB.out), by repeat (first | (with_reducible first | exact HK.out | apply KeepBut.set_ | apply keep_drewN | apply keep_drew | apply keep_alloc) | exact HK.out)⟩

/-! ### windhoverkeep_Lent: function 58 (proved by hand) -/
def windhoverkeep_Lent.f (l0 : List Int) : Option (List Int) := if l0.length ≤ 1099511627776 then some l0 else none
set_option maxRecDepth 100000 in
set_option maxHeartbeats 2000000 in
theorem windhoverkeep_Lent.full (A0 : Option Addr) (c0 : Nat) (l0 : List Int) (w : World) (hr0 : Kd.C (Kd.int .i64) w A0 l0.length l0) (hc0 : l0.length ≤ c0) (hl : l0.length ≤ 1099511627776) :
    Calls Try.prog 58 #[.slice A0 l0.length c0] w fun e w' => ∃ (A : Option Addr) (c : Nat), e = .returned (.slice A l0.length c) ∧ l0.length + 4 ≤ c ∧ Kd.R (Kd.int .i64) 3 w' w.heap.size (fun _ => True) (.slice A (l0.length + 4) c) (l0 ++ [-7770777, -7770777, -7770777, -7770777]) ∧ Below w.heap.size w w' := by
  have hu36 := Try.underlying36
  have HC := Aside0.mk hr0
  clear hr0
  obtain ⟨m, hm⟩ : ∃ m : Int, (l0.length : Int) + 4 = m := ⟨_, rfl⟩
  obtain ⟨i3, hi3, hz3⟩ := Option.map_eq_some_iff.1 info3
  simp only [Prod.mk.injEq] at hz3
  obtain ⟨z1, z2, z3⟩ := hz3
  have hby : (i3.bytes : Int) * m ≤ 281474976710656 := by rw [z3]; omega
  have hmk := run_make (P := Try.prog) w 36 3 i3 (.int .i64 0) Try.underlying36 hi3 z1 .i64 .i64 0 m (by omega) (by omega) hby (by omega)
  rw [z2, Nat.mul_one, show (0 : Int).toNat = 0 from rfl] at hmk
  have hwm : wrap64 m = m := by unfold wrap64; omega
  have hi3' := hi3
  clear hby hi3 z1 z2 z3
  go_enter Try.func58, Try.ntmps58
  have HO0 : Kd.R (Kd.int .i64) 3 (w.alloc (.cells (madeCells (Value.int .i64 0).cells m.toNat) 3)) w.heap.size (fun _ => True) (.slice (some ⟨w.heap.size, 0, none⟩) 0 m.toNat) ([] : List Int) :=
    Kd.R_of_own ⟨rfl, .inr ⟨w.heap.size, m.toNat, _, rfl, Nat.le_refl _, heap_alloc_new w _, Nat.zero_le _, by simp only [maxLen]; clear hwm; omega, by rw [size_madeCells, Nat.mul_one], rfl⟩⟩ (fun _ _ => trivial)
  have HO0 := Aside0.mk HO0
  have hal : (([] : List Int).length + l0.length) * 8 ≤ 140737488355328 := by simp only [List.length_nil]; clear hwm; omega
  have HC2 := Aside0.mk (Kd.C_alloc HC.out (.cells (madeCells (Value.int .i64 0).cells m.toNat) 3))
  clear HC
  go_wp2_with (((with_reducible refine gate_builtin (b := .append) (xs := #[.tmp 9, .tmp 10]) rfl ?_); at_builtin; refine Kd.R_append_rows (Kd.int .i64) (w0 := w) w.heap.size rfl (.tmp 9) (.tmp 10) 36 3 (.int .i64 0) 8 rfl Try.underlying36 info3 rfl (by decide) (by omega) (.slice (some ⟨w.heap.size, 0, none⟩) 0 m.toNat) ([] : List Int) l0 _ _ _ (fun _ => True) (fun _ => False) rfl rfl ?aO ?aR (fun _ _ h => h) (fun _ h => h.elim) ?aF ?aB ?aS ?aL ?_; (case aO => exact HO0.out); (case aR => exact HC2.out); (case aF => exact (fun _ _ => trivial)); (case aB => exact below_alloc (Below.refl _ _) _); (case aS => simp); (case aL => exact hal); intro v3 w3 ho hb hg hat))
  have HO := Aside0.mk ho
  have HB := Aside0.mk hb
  clear HO0 HC2 ho hb hg hat hmk hal
  rw [List.nil_append] at HO
  go_loopg [3, 4] 4 (fun kq v3 v4 w' => ∃ (x : Int), v4 = .int .i64 x ∧ Aside0 (0 ≤ x ∧ (kq : Int) + x = 4) ∧ Aside0 (Kd.R (Kd.int .i64) 3 w' w.heap.size (fun _ => True) v3 (l0 ++ List.replicate x.toNat (-7770777))) ∧ Aside0 (Below w.heap.size w w'))
  case atStart => exact ⟨0, rfl, ⟨Int.le_refl 0, rfl⟩, ⟨by simpa using HO.out⟩, HB⟩
  case round =>
    clear HO HB
    obtain ⟨x, rfl, HX, HO, HB⟩ := hrel
    cases gk with
    | zero =>
      obtain rfl : x = 4 := by have := HX.out; clear hwm; omega
      obtain ⟨A, c, e3, hc3, -⟩ := Kd.R_reads HO.out
      have hlen : (l0 ++ List.replicate (4 : Int).toNat (-7770777)).length = l0.length + 4 := by simp
      rw [hlen] at e3 hc3
      subst e3
      have hcut := cut_to (P := Try.prog) 36 3 .i64 Try.underlying36 hi3' A (l0.length + 4) c (l0.length : Int) (Int.natCast_nonneg _) (by omega) hc3
      go_wp2_with fail
      go_ret
      exact ⟨A, c, rfl, hc3, HO.out, HB.out⟩
    | succ k1 =>
      have c6 : decide (x < 4) = true := decide_eq_true (by have := HX.out; clear hwm; omega)
      have hal : ((l0 ++ List.replicate x.toNat (-7770777)).length + 1) * 8 ≤ 140737488355328 := by
        have := HX.out
        rw [List.length_append, List.length_replicate]
        clear hwm
        omega
      go_wp2_with (((with_reducible refine gate_builtin (b := .append) (xs := #[.tmp 16, .tmp 17]) rfl ?_); at_builtin; refine Kd.R_append (Kd.int .i64) (w0 := w) w.heap.size rfl (.tmp 16) (.tmp 17) 36 3 (.int .i64 0) 8 rfl Try.underlying36 info3 rfl (by decide) (by omega) _ (l0 ++ List.replicate x.toNat (-7770777)) (-7770777) [.int .i64 (-7770777)] (fun _ => True) (fun _ => False) rfl rfl ?aP (fun _ hk => hk.elim) ?aF ?aO ?aB ?aS ?aL ?_; (case aP => exact rfl); (case aO => exact HO.out); (case aF => exact (fun _ _ => trivial)); (case aB => exact HB.out); (case aS => exact below_size HB.out); (case aL => exact hal); intro v4 w4 ho hb hg hat))
      have e12 : wrap64 (x + 1) = x + 1 := by have := HX.out; clear hwm; unfold wrap64; omega
      have hx2 : 0 ≤ x + 1 ∧ (k1 : Int) + (x + 1) = 4 := by have := HX.out; clear hwm e12; omega
      have hrep : l0 ++ List.replicate x.toNat (-7770777) ++ [-7770777] = l0 ++ List.replicate (x + 1).toNat (-7770777) := by
        rw [show (x + 1).toNat = x.toNat + 1 by have := HX.out; clear hwm e12; omega, List.append_assoc, List.replicate_succ']
      rw [hrep] at ho
      go_roundg k1
      case measure => clear hwm e12; omega
      case rel => exact ⟨x + 1, congrArg (Value.int .i64) e12, ⟨hx2⟩, ⟨ho⟩, ⟨hb⟩⟩
theorem windhoverkeep_Lent.calls (A0 : Option Addr) (c0 : Nat) (l0 : List Int) (r : List Int) (w : World) (hr0 : Kd.C (Kd.int .i64) w A0 l0.length l0) (hc0 : l0.length ≤ c0) (h : windhoverkeep_Lent.f l0 = some r) :
    Calls Try.prog 58 #[.slice A0 l0.length c0] w fun e w' => ∃ v0_ : Value, e = .returned (v0_) ∧ Kd.R (Kd.int .i64) 3 w' w.heap.size (fun _ => True) v0_ r ∧ Below w.heap.size w w' := by
  unfold windhoverkeep_Lent.f at h
  by_cases c : l0.length ≤ 1099511627776
  · rw [if_pos c] at h
    obtain rfl := Option.some.inj h
    refine (windhoverkeep_Lent.full A0 c0 l0 w hr0 hc0 c).mono ?_
    rintro e w' ⟨A, c, rfl, hc, hR, hB⟩
    refine ⟨_, rfl, Kd.R_of_own ?_ (fun _ _ => trivial), hB⟩
    have ho := own_take (m := l0.length) (by simpa using Kd.own_of_R hR) (by omega)
    simp [encs] at ho ⊢
    exact ho
  · rw [if_neg c] at h
    cases h

end Go.Proofs.Ytbbinmplkbpcdaa.Pm
