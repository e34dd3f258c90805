import Derived.Test.YtbbinmplkbpcdaaSnp
/-! SenseBack: the walk. -/
set_option linter.unusedVariables false
set_option linter.constructorNameAsVariable false
namespace Go.Proofs.Ytbbinmplkbpcdaa.Ps
open Go.RowKit Go.Proofs.Ytbbinmplkbpcdaa.Wd Go.Proofs.YtbbinmplkbpcdaaW.PrintWords Go.Proofs.YtbbinmplkbpcdaaW.PrintLast Go.Proofs.YtbbinmplkbpcdaaW.PrintMore
open Go.Proofs.Ytbbinmplkbpcdaa.Fs (ls ls_len ls_inj ls_tail ls_extract sum_lt)
theorem rd_L2_len {rows : List (List Int)} {m : Nat} (h : ∀ r ∈ rows, r.length ≤ m) (x : Int) : (rd_L2 rows x).length ≤ m := by
  unfold rd_L2
  rw [List.getD_eq_getElem?_getD]
  cases e : rows[x.toNat]? with
  | none => exact Nat.zero_le _
  | some r => exact h r (List.mem_of_getElem? e)
set_option maxRecDepth 100000 in
set_option maxHeartbeats 4000000 in
theorem back_walk (s : Int) (h0 : 0 ≤ s) (h1 : s ≤ 255) (A : Option Addr) (c : Nat) (rows : List (List Int)) (d : ByteArray) (w : World) (hr : Kd.C (Kd.slice 3 (Kd.int .i64)) w A rows.length rows) (hc : rows.length ≤ c) (hl : rows.length ≤ 1099511627776) (hx : ∀ r ∈ rows, r.length ≤ 1099511627776) (hd : d.size ≤ 1048576) :
    Calls Try.prog 18 #[.int .u8 s, .slice A rows.length c, .string d] w fun e w' => e = .returned (.bool true) ∧ Below w.heap.size w w' := by
  have HR := Aside0.mk hr
  have HC := Aside0.mk hc
  have HL := Aside0.mk hl
  have HX := Aside0.mk hx
  have HD := Aside0.mk hd
  have HS0 := Aside0.mk h0
  have HS1 := Aside0.mk h1
  clear hr hc hl h0 h1 hx hd
  go_enter Try.func18, Try.ntmps18
  go_wp2_with fail
  refine (quiet_calls d (by have := HD.out; omega) _).mono ?_
  have hj := quietOf_ls (ls d)
  have hjz : (quietOf (ls d)).size ≤ 1048576 := by have := quietOf_size (ls d); rw [ls_len] at this; have := HD.out; omega
  generalize quietOf (ls d) = junk at hj hjz ⊢
  rintro e w1 ⟨rfl, hb1⟩
  have HB1 := Aside0.mk hb1
  have HR1 := Aside0.mk (Kd.C_below HR.out hb1)
  have HJ := Aside0.mk hj
  have HJZ := Aside0.mk hjz
  clear hb1 hj hjz HR
  go_wp2_with fail
  go_loopg [8, 9, 10] rows.length (fun kq v8 v9 v10 w' => ∃ (all : ByteArray) (AL : Option Addr) (cL : Nat) (last : List Int) (x : Int), v10 = .int .i64 x ∧ v8 = .string all ∧ v9 = .slice AL last.length cL ∧ Aside0 (0 ≤ x ∧ (kq : Int) + x = rows.length) ∧ Aside0 (Said s all last 0) ∧ Aside0 (all.size ≤ 2097152) ∧ Aside0 (last.length < 4611686018427387904) ∧ Aside0 (last.length ≤ cL ∧ Kd.C (Kd.int .i64) w' AL last.length last) ∧ Aside0 (Kd.C (Kd.slice 3 (Kd.int .i64)) w' A rows.length rows) ∧ Aside0 (Below w.heap.size w w'))
  case atStart => exact ⟨junk, none, 0, [], 0, rfl, rfl, rfl, ⟨Int.le_refl _, Int.add_zero _⟩, ⟨Said.empty HJ.out⟩, ⟨by have := HJZ.out; omega⟩, ⟨by decide⟩, ⟨Nat.le_refl _, (Kd.R_reads' (Kd.R_nil (Kd.int .i64) 3 w1 0 (fun _ => True))).2.2⟩, HR1, HB1⟩
  case round =>
    clear HR1 HB1
    obtain ⟨all, AL, cL, last, x, rfl, rfl, rfl, HX1, HSD, HSZ, HLL, HLA, HR, HB⟩ := hrel
    cases gk with
    | zero =>
          have c1 : decide (x < (rows.length : Int)) = false := decide_eq_false (by have := HX1.out; omega)
          have cI : decide ((last.length : Int) > 0) = !last.isEmpty := by cases last with | nil => rfl | cons => rw [decide_eq_true (by simp only [List.length_cons]; omega)]; rfl
          go_wp2_with fail
          clear c1
          refine (read_said HSD.out (by have := HSZ.out; omega) _).mono ?_
          rintro e w2 ⟨v, rfl, hr2, hb2⟩
          obtain ⟨A2, c2, rfl, hc2, hC2⟩ := Kd.R_reads hr2
          have HCL := Aside0.mk (Kd.C_below HLA.out.2 hb2)
          have HC2 := Aside0.mk hC2
          have HCC := Aside0.mk hc2
          have HB2 := Aside0.mk (below_step HB.out hb2)
          clear hr2 hb2 hc2 hC2
          go_wp2_with fail
          refine (awake _).mono ?_
          rintro e w3 ⟨rfl, hb3⟩
          have HB3 := Aside0.mk (below_step HB2.out hb3)
          have HCL3 := Aside0.mk (Kd.C_below HCL.out hb3)
          have HC3 := Aside0.mk (Kd.C_below HC2.out hb3)
          clear hb3 HCL HC2
          obtain ⟨bl, hbl⟩ : ∃ bl, (!last.isEmpty) = bl := ⟨_, rfl⟩
          rw [hbl] at cI
          rw [hbl]
          have cN : decide (0 < last.length) = bl := by rw [← cI]; exact decide_eq_decide.2 (by omega)
          have cE : (bl == bl) = true := beq_self_eq_true bl
          go_wp2_with fail
          refine (sameInts_self HLL.out HC3.out HCC.out HCL3.out HLA.out.1).mono ?_
          rintro e w4 ⟨rfl, nd, rfl⟩
          go_wp2
          go_ret
          exact ⟨rfl, pw_below_drewN HB3.out nd⟩
    | succ k1 =>
      have c1 : decide (x < (rows.length : Int)) = true := decide_eq_true (by have := HX1.out; omega)
      by_cases hz : (all.size : Int) < 65536
      · have c2 : decide ((all.size : Int) < 65536) = true := decide_eq_true hz
        have HZ := Aside0.mk hz
        clear hz
        have p1 : 0 ≤ x := HX1.out.1
        have p2 : x < (rows.length : Int) := of_decide_eq_true c1
        obtain ⟨ad, A0, c0, rfl, hx0, hx1, hx2⟩ := at_L2 HR.out x p1 p2
        have HX2 := Aside0.mk hx1
        have HX3 := Aside0.mk hx2
        clear hx1 hx2
        have HRL := Aside0.mk (rd_L2_len HX.out x)
        have E1 : Aside0 (wrap64 (x + 1) = x + 1) := ⟨by have := HX1.out; have := HL.out; exact w64 (by omega) (by omega)⟩
        replace p1 := eq_true p1
        replace p2 := eq_true p2
        obtain ⟨row, hrow⟩ : ∃ row, rd_L2 rows x = row := ⟨_, rfl⟩
        rw [hrow] at hx0 HX2 HX3 HRL
        have HROW := Aside0.mk hrow
        clear hrow
        go_wp2_with fail
        clear c1 c2
        refine (lent A0 c0 row _ HX3.out HX2.out HRL.out).mono ?_
        rintro e w2 ⟨A1, cc1, rfl, hc1, hA, -, hb2⟩
        have HB2 := Aside0.mk (below_step HB.out hb2)
        have HA := Aside0.mk hA
        have HC1 := Aside0.mk hc1
        have HR2 := Aside0.mk (Kd.C_below HR.out hb2)
        have HL2 := Aside0.mk (Kd.C_below HLA.out.2 hb2)
        clear hb2 hA hc1 hx0 HX2 HX3
        go_wp2_with fail
        refine (write_calls s A1 cc1 row _ HA.out (by have := HC1.out; omega)).mono ?_
        rintro e w3 ⟨rfl, hb3⟩
        have HB3 := Aside0.mk (below_step HB2.out hb3)
        have HR3 := Aside0.mk (Kd.C_below HR2.out hb3)
        have HL3 := Aside0.mk (Kd.C_below HL2.out hb3)
        clear hb3 HB2 HA HR2 HL2 HB HR
        rcases wrR_cases s row with ⟨hw, hin, he⟩ | ⟨e, hne, he⟩
        · rw [he]
          have HSD2 := Aside0.mk (Said.more HS0.out HS1.out HJ.out HSD.out hw hin)
          have HSZ2 : Aside0 ((all ++ wrS s row ++ junk).size ≤ 2097152) := ⟨by
            rw [ByteArray.size_append, ByteArray.size_append, wrS_size HS0.out HS1.out hin]
            have := (ws_ok s).2.2
            have := HJZ.out
            have := HZ.out
            omega⟩
          clear he hin hw
          obtain ⟨ad, A4, c4, e4, hx4, hx5, hx6⟩ := at_L2 HR3.out x (by rw [p1]; trivial) (by rw [p2]; trivial)
          cases e4
          rw [HROW.out] at hx4 hx5 hx6
          have HX5 := Aside0.mk hx5
          have HX6 := Aside0.mk hx6
          clear hx5 hx6
          obtain ⟨t, ht⟩ : ∃ t, wrS s row = t := ⟨_, rfl⟩
          rw [ht] at HSD2 HSZ2
          rw [ht]
          clear ht
          have hn : all.size + t.size + junk.size ≤ 2097152 := by
            have := HSZ2.out
            rwa [ByteArray.size_append, ByteArray.size_append] at this
          have n1 : (9223372036854775807 < all.size + t.size) = False := eq_false (by omega)
          have n2 : (9223372036854775807 < (all ++ t).size + junk.size) = False := eq_false (by rw [ByteArray.size_append]; omega)
          have n3 : (9223372036854775807 < all.size + t.size + junk.size) = False := eq_false (by omega)
          clear hn
          go_wp2_with fail
          go_roundg k1
          case measure => omega
          case rel => exact ⟨_, _, _, _, _, congrArg (Value.int .i64) E1.out, rfl, rfl, ⟨by have := HX1.out; omega, by have := HX1.out; omega⟩, HSD2, HSZ2, ⟨by have := HRL.out; omega⟩, ⟨HX5.out, HX6.out⟩, HR3, HB3⟩
        · rw [he]
          have k0 : (e == 0) = false := beq_eq_false_iff_ne.mpr hne
          clear he hne
          go_wp2_with fail
          go_roundg k1
          case measure => omega
          case rel => exact ⟨_, _, _, _, _, congrArg (Value.int .i64) E1.out, rfl, rfl, ⟨by have := HX1.out; omega, by have := HX1.out; omega⟩, HSD, HSZ, HLL, ⟨HLA.out.1, HL3.out⟩, HR3, HB3⟩
      · have c2 : decide ((all.size : Int) < 65536) = false := decide_eq_false hz
        clear hz
        have cI : decide ((last.length : Int) > 0) = !last.isEmpty := by cases last with | nil => rfl | cons => rw [decide_eq_true (by simp only [List.length_cons]; omega)]; rfl
        go_wp2_with fail
        clear c1 c2
        refine (read_said HSD.out (by have := HSZ.out; omega) _).mono ?_
        rintro e w2 ⟨v, rfl, hr2, hb2⟩
        obtain ⟨A2, c2, rfl, hc2, hC2⟩ := Kd.R_reads hr2
        have HCL := Aside0.mk (Kd.C_below HLA.out.2 hb2)
        have HC2 := Aside0.mk hC2
        have HCC := Aside0.mk hc2
        have HB2 := Aside0.mk (below_step HB.out hb2)
        clear hr2 hb2 hc2 hC2
        go_wp2_with fail
        refine (awake _).mono ?_
        rintro e w3 ⟨rfl, hb3⟩
        have HB3 := Aside0.mk (below_step HB2.out hb3)
        have HCL3 := Aside0.mk (Kd.C_below HCL.out hb3)
        have HC3 := Aside0.mk (Kd.C_below HC2.out hb3)
        clear hb3 HCL HC2
        obtain ⟨bl, hbl⟩ : ∃ bl, (!last.isEmpty) = bl := ⟨_, rfl⟩
        rw [hbl] at cI
        rw [hbl]
        have cN : decide (0 < last.length) = bl := by rw [← cI]; exact decide_eq_decide.2 (by omega)
        have cE : (bl == bl) = true := beq_self_eq_true bl
        go_wp2_with fail
        refine (sameInts_self HLL.out HC3.out HCC.out HCL3.out HLA.out.1).mono ?_
        rintro e w4 ⟨rfl, nd, rfl⟩
        go_wp2
        go_ret
        exact ⟨rfl, pw_below_drewN HB3.out nd⟩
theorem all_mem {α : Type} {m : α → Nat} {x : α} : ∀ {l : List α}, x ∈ l → m x ≤ OpPs.all_ m l
  | y :: l, h => by
    simp only [OpPs.all_]
    rcases List.mem_cons.1 h with rfl | h
    · omega
    · have := all_mem (m := m) h; omega
theorem all_len {α : Type} {m : α → Nat} (hm : ∀ x, 1 ≤ m x) : ∀ l : List α, l.length ≤ OpPs.all_ m l
  | [] => Nat.le_refl _
  | y :: l => by
    have := all_len hm l
    have := hm y
    simp only [OpPs.all_, List.length_cons]
    omega
/-- The walk of SenseBack. -/
theorem back_law (s : Int) (A : Option Addr) (c : Nat) (rows : List (List Int)) (d : ByteArray) (w : World) {b : Nat} (ws : (Lit.int .u8 s).wf = true) (hr : Kd.C (Kd.slice 3 (Kd.int .i64)) w A rows.length rows) (hc : rows.length ≤ c) (g : ∀ x ∈ rows, (∀ y ∈ x, (Lit.int .i64 y).wf = true) ∧ x.length ≤ maxLen) (m : OpPs.all_ (fun xs => OpPs.all_ (fun _ => 1) xs + 1) rows + 1 ≤ b) (hb : 1 + (b + (d.size + 1)) ≤ 1048576) :
    Calls Try.prog 18 #[.int .u8 s, .slice A rows.length c, .string d] w fun e w' => e = .returned (.bool true) ∧ Below w.heap.size w w' := by
  have h1 := all_len (m := fun xs : List Int => OpPs.all_ (fun _ => 1) xs + 1) (fun _ => by omega) rows
  refine back_walk s (u8_range ws).1 (u8_range ws).2 A c rows d w hr hc (by omega) (fun r hr => ?_) (by omega)
  have h2 := all_mem (m := fun xs : List Int => OpPs.all_ (fun _ => 1) xs + 1) hr
  rw [OpPs.all_ones] at h2
  omega
end Go.Proofs.Ytbbinmplkbpcdaa.Ps
