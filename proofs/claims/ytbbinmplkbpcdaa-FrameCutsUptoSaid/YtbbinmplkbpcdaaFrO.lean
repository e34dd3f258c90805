import Derived.Test.YtbbinmplkbpcdaaFrJ
import Derived.BigQuiet
/-! FrameCuts: two readers at once. -/
set_option linter.unusedVariables false
set_option linter.unusedSectionVars false
set_option linter.constructorNameAsVariable false
namespace Go.Proofs.Ytbbinmplkbpcdaa.Fr
open Go.RowKit Go.Proofs.Ytbbinmplkbpcdaa.Pr Go.Proofs.YtbbinmplkbpcdaaW.PrintWords Go.Proofs.YtbbinmplkbpcdaaW.PrintLast Go.Proofs.YtbbinmplkbpcdaaW.PrintMore

theorem IsS120.but {w w0 W : World} {g h : Nat} {d : ByteArray} {n : Int} (hI : IsS120 w w0 g d n) (hk : KeepBut w0 W h none) (hne : g ≠ h) : IsS120 w W g d n :=
  ⟨(hk.2 g hI.lt hne (by simp)).trans hI.1, hI.2⟩
theorem K_to_M (W : World) (base : Nat) (ok : Nat → Prop) (x : S45) (cs : List Value) (h : k45.K W x cs) : k45.M W base ok x cs := by
  obtain rfl := k45_open h
  exact k45_mkM W base ok x

theorem bad_same {w0 W : World} {g : Nat} {d : ByteArray} {n : Int} (h : IsS120 w0 W g d n) : Calls Try.prog 49 #[.pointer (some ⟨g, 0, none⟩)] W fun e w' => e = .returned (.int .i64 n) ∧ W = w' :=
  (frame_bad_quiet g d n W h.1).mono fun e w' h => ⟨h.1, h.2.symm⟩
theorem held_same {w0 W : World} {g : Nat} {d : ByteArray} {n : Int} (h : IsS120 w0 W g d n) : Calls Try.prog 50 #[.pointer (some ⟨g, 0, none⟩)] W fun e w' => e = .returned (.int .i64 d.size) ∧ W = w' :=
  (frame_held_quiet g d n W h.1).mono fun e w' h => ⟨h.1, h.2.symm⟩
set_option maxRecDepth 100000 in
set_option maxHeartbeats 2000000 in
/-- The walk of FrameCuts. -/
theorem cuts_walk (s : ByteArray) (w : World) (hb : s.size + 1 ≤ 1048576) :
    Calls Try.prog 10 #[.string s] w fun e w' => e = .returned (.bool true) ∧ Below w.heap.size w w' := by
  have hu45 := Try.underlying45
  have hu9 := Try.underlying9
  have hu71 := Try.underlying71
  obtain ⟨l, n, r, hS⟩ := Scans.total (ls s)
  have hSl := hS.len
  have hSr := hS.rest.1
  rw [ls_len] at hSl
  obtain ⟨K1, h1⟩ := feed_eq (d := ⟨#[]⟩) (a := s) (n0 := 0) (by rw [show ls (⟨#[]⟩ : ByteArray) = [] from rfl, List.nil_append]; exact hS) (by rw [show (⟨#[]⟩ : ByteArray).size = 0 from rfl]; omega)
  have hF := h1 K1 (Nat.le_refl _)
  dsimp only at hF
  clear h1
  rw [Nat.zero_add] at hF
  obtain ⟨K2, h2⟩ := same_eq l (by omega)
  have hQ := h2 K2 (Nat.le_refl _)
  dsimp only at hQ
  clear h2
  have hS := Aside0.mk hS
  have hF := Aside0.mk hF
  have hQ := Aside0.mk hQ
  go_enter Try.func10, Try.ntmps10
  go_wp2_with fail
  refine (frame_New.calls _ _ w w (Below.refl _ _) rfl).mono ?_
  rintro e w1 ⟨g, rfl, hI, hB, _⟩
  have HI := Aside0.mk hI
  have HB := Aside0.mk hB
  clear hI hB
  go_wp2_with fail
  refine (frame_New.calls _ _ w1 w1 (Below.refl _ _) rfl).mono ?_
  rintro e w2 ⟨q, rfl, hJ, hB, hb2⟩
  have hgq : g ≠ q := by
    have h1 := HI.out.lt
    have h2 := hJ.ge
    omega
  have HI2 := Aside0.mk (HI.out.below hb2)
  have HJ : Aside0 (IsS120 w w2 q ⟨#[]⟩ 0) := Aside0.mk ⟨hJ.1, Nat.le_trans HB.out.size hJ.2⟩
  have HB2 := Aside0.mk (below_step HB.out hb2)
  clear HI HB hJ hb2 hB
  have HB := HB2
  clear HB2
  have HI := HI2
  clear HI2
  go_wp2_with fail
  refine (frame_Reader_Feed.calls K1 g _ _ _ _ _ _ w w2 HI.out HB.out hF.out).mono ?_
  rintro e w3 ⟨v, rfl, hv, hI, hB, hk⟩
  have HJ3 := Aside0.mk (IsS120.but HJ.out hk hgq.symm)
  have HI3 := Aside0.mk hI
  have HB3 := Aside0.mk hB
  have HA := Aside0.mk (Kd.R_apart_nil hv)
  clear HI HJ HB hI hB hk hv hF
  go_wp2_with fail
  go_loopg [6, 7] s.size (fun kq v6 v7 w' => ∃ (x : Int) (o : List S45) (m : Nat) (d : List UInt8), v7 = .int .i64 x ∧ Aside0 (0 ≤ x ∧ (kq : Int) + x = s.size) ∧ Aside0 (Scans ((ls s).take x.toNat) o m d) ∧ Aside0 (Kd.R k45 45 w' w.heap.size (fun _ => True) v6 o) ∧ Aside0 (Kd.R k45 45 w' w2.heap.size (fun k => True ∧ some k ≠ v6.ownBlock) v l) ∧ Aside0 (IsS120 w w' g (str r) ((most n : Nat) : Int)) ∧ Aside0 (IsS120 w w' q (str d) ((most m : Nat) : Int)) ∧ Aside0 (Below w.heap.size w w'))
  case atStart => exact ⟨0, [], 0, [], rfl, ⟨Int.le_refl 0, Int.add_zero _⟩, ⟨.nil⟩, ⟨Kd.R_nil _ _ _ _ _⟩, HA, HI3, HJ3, HB3⟩
  case round =>
    clear HA HI3 HJ3 HB3
    obtain ⟨x, o, m, d, rfl, HX, HS, HO, HA, HI, HJ, HB⟩ := hrel
    cases gk with
    | zero =>
      have c6 : decide (x < (s.size : Int)) = false := decide_eq_false (by have := HX.out; omega)
      have hx : x.toNat = (ls s).length := by have := HX.out; rw [ls_len]; omega
      have hdet := HS.out
      rw [hx, List.take_length] at hdet
      obtain ⟨e1, e2, e3⟩ := hdet.det hS.out
      subst e1 e2 e3
      clear hdet hx
      obtain ⟨A1, c1, e1, hc1, hr1⟩ := Kd.R_reads HO.out
      obtain ⟨A0, c0, e0, hc0, hr0⟩ := Kd.R_reads HA.out
      subst e0 e1
      have HC0 := Aside0.mk hr0
      have HC1 := Aside0.mk hr1
      clear hr0 hr1 HO HA
      go_wp2_with fail
      refine (windhoverlaw04_awake.calls true _ rfl).mono ?_
      rintro e w4 ⟨rfl, hb⟩
      have HI4 := Aside0.mk (IsS120.below HI.out hb)
      have HJ4 := Aside0.mk (IsS120.below HJ.out hb)
      have HB4 := Aside0.mk (below_step HB.out hb)
      have HC04 := Aside0.mk (Kd.C_below HC0.out hb)
      have HC14 := Aside0.mk (Kd.C_below HC1.out hb)
      clear HI HJ HB HC0 HC1 hb
      go_wp2_with fail
      refine (windhoverref04_Same.calls K2 _ _ _ _ _ _ true _ HC04.out hc0 HC14.out hc1 hQ.out).mono ?_
      rintro e w5 ⟨rfl, ⟨nq, rfl⟩⟩
      have HI5 := Aside0.mk (IsS120.drewN HI4.out nq)
      have HJ5 := Aside0.mk (IsS120.drewN HJ4.out nq)
      have HB5 := Aside0.mk (pw_below_drewN HB4.out nq)
      clear HI4 HJ4 HB4 HC04 HC14
      go_wp2_with fail
      refine (bad_same HI5.out).mono ?_
      rintro e w6 ⟨rfl, rfl⟩
      go_wp2_with fail
      refine (bad_same HJ5.out).mono ?_
      rintro e w6 ⟨rfl, rfl⟩
      go_wp2_with fail
      refine (held_same HI5.out).mono ?_
      rintro e w6 ⟨rfl, rfl⟩
      go_wp2_with fail
      refine (held_same HJ5.out).mono ?_
      rintro e w6 ⟨rfl, rfl⟩
      go_wp2_with fail
      go_ret
      exact ⟨rfl, HB5.out⟩
    | succ k1 =>
      have q6 : x < (s.size : Int) := by have := HX.out; omega
      have p6 : 0 ≤ x := HX.out.1
      have c6 : decide (x < (s.size : Int)) = true := decide_eq_true q6
      have b1 : (0 ≤ x) = True := eq_true p6
      have b2 : (x ≤ x + 1) = True := eq_true (by omega)
      have b3 : (x + 1 ≤ (s.size : Int)) = True := eq_true (by omega)
      obtain ⟨fs, n', r', hS1⟩ := Scans.total (ls (str d) ++ ls (s.extract x.toNat (x + 1).toNat))
      have hxl : x.toNat < (ls s).length := by rw [ls_len]; omega
      have hone : ls (s.extract x.toNat (x + 1).toNat) = [(ls s)[x.toNat]] := by
        rw [ls_extract, show (x + 1).toNat - x.toNat = 1 by omega, List.drop_eq_getElem_cons hxl]
        rfl
      have hmore := HS.out.more (ls (s.extract x.toNat (x + 1).toNat)) (by rw [← ls_strl d]; exact hS1)
      have htk : (ls s).take x.toNat ++ ls (s.extract x.toNat (x + 1).toNat) = (ls s).take (x + 1).toNat := by
        rw [hone, show (x + 1).toNat = x.toNat + 1 by omega, List.take_succ_eq_append_getElem hxl]
      rw [htk] at hmore
      have hl2 := HS.out.len
      have hl3 := hS1.len
      have hr2 := HS.out.rest.1
      have hr3 := hS1.rest.1
      rw [hone, List.length_append, ls_strl] at hl3
      rw [List.length_take, ls_len] at hl2
      simp only [List.length_cons, List.length_nil] at hl3
      have hez : (s.extract x.toNat (x + 1).toNat).size = 1 := by rw [← ls_len, hone]; rfl
      obtain ⟨K3, h3⟩ := feed_eq (n0 := m) hS1 (by rw [str_size, hez]; omega)
      have hF3 := Aside0.mk (h3 K3 (Nat.le_refl _))
      have HS4 := Aside0.mk hmore
      clear h3 hmore htk hone hS1 hxl
      go_wp2_with fail
      refine (frame_Reader_Feed.calls K3 q _ _ _ _ _ _ w _ HJ.out HB.out hF3.out).mono ?_
      rintro e w4 ⟨v1, rfl, hv, hJ, hB, hk⟩
      have HI4 := Aside0.mk (IsS120.but HI.out hk hgq)
      have HO4 := Aside0.mk (Kd.R_mono (Kd.R_keep (IsS120.apart HJ.out HO.out (by decide)) hk (fun _ h => h.2)) (fun _ h => h.1))
      have HA4 := Aside0.mk (Kd.R_mono (Kd.R_keep (IsS120.apart HJ.out HA.out (by decide)) hk (fun _ h => h.2)) (fun _ h => h.1))
      obtain ⟨A1, c1, rfl, hc1, hr1⟩ := Kd.R_reads hv
      have HC4 := Aside0.mk hr1
      have HJ4 := Aside0.mk hJ
      have HB4 := Aside0.mk hB
      clear HI HO HA HJ HB hJ hB hk hv hr1 hF3
      have hol : (o.length + fs.length) * 32 ≤ 140737488355328 := by omega
      go_wp2_with (((with_reducible refine gate_builtin (b := .append) (xs := #[.tmp 25, .tmp 32]) rfl ?_); at_builtin; refine Kd.R_append_rows k45 (w0 := w) w.heap.size rfl (.tmp 25) (.tmp 32) 71 45 (.agg #[(.int .i64 0), (.int .i64 0), (.string ⟨#[]⟩)]) 32 rfl Try.underlying71 info45 rfl (by decide) (by omega) u6 o fs _ _ _ (fun _ => True) (fun _ => False) rfl rfl ?aO ?aR (fun y cs h => K_to_M _ _ _ y cs h) (fun _ h => h.elim) ?aF ?aB ?aS ?aL ?_; (case aO => exact HO4.out); (case aR => exact HC4.out); (case aF => exact (fun _ _ => trivial)); (case aB => exact HB4.out); (case aS => exact below_size HB4.out); (case aL => exact hol); intro v6 w5 ho hb5 hg5 hat5))
      have HI5 := Aside0.mk (IsS120.grown HI4.out hg5 (IsS120.own_ne HI4.out HO4.out (by decide)))
      have HJ5 := Aside0.mk (IsS120.grown HJ4.out hg5 (IsS120.own_ne HJ4.out HO4.out (by decide)))
      have HA5 := Aside0.mk (Kd.R_after HA4.out hg5 hat5)
      have HO5 := Aside0.mk ho
      have HB5 := Aside0.mk hb5
      clear HI4 HJ4 HA4 HO4 HB4 HC4 hg5 hat5 ho hb5
      obtain ⟨z, hz⟩ : ∃ z : Int, ((str r').size : Int) = z := ⟨_, rfl⟩
      have hz1 : 0 ≤ z ∧ z ≤ 69 := by rw [← hz, str_size]; omega
      have c8 : decide (z > 69) = false := decide_eq_false (by omega)
      have c9 : decide (z < 0) = false := decide_eq_false (by omega)
      have hheld : ∀ W : World, IsS120 w W q (str r') ((most (m + n') : Nat) : Int) → Calls Try.prog 50 #[.pointer (some ⟨q, 0, none⟩)] W fun e w' => e = .returned (.int .i64 z) ∧ W = w' := by
        intro W h
        refine (frame_held_quiet q _ _ W h.1).mono fun e w' h => ⟨?_, h.2.symm⟩
        rw [← hz]
        exact h.1
      clear hz
      refine (hheld _ HJ5.out).mono ?_
      rintro e w6 ⟨rfl, rfl⟩
      go_wp2_with fail
      refine (hheld _ HJ5.out).mono ?_
      rintro e w6 ⟨rfl, rfl⟩
      have hx5 : 0 ≤ x + 1 ∧ (k1 : Int) + (x + 1) = s.size := by have := HX.out; omega
      go_wp2_with fail
      go_roundg k1
      case measure => omega
      case rel => exact ⟨x + 1, o ++ fs, m + n', r', rfl, ⟨hx5⟩, HS4, HO5, HA5, HI5, HJ5, HB5⟩
end Go.Proofs.Ytbbinmplkbpcdaa.Fr
