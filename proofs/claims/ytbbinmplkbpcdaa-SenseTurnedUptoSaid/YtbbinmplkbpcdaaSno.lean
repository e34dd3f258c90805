import Derived.Test.YtbbinmplkbpcdaaSnn
import Derived.BigQuiet
import Derived.RegionTactic
/-! SenseTurned: the walk. -/
set_option linter.unusedVariables false
set_option linter.constructorNameAsVariable false
namespace Go.Proofs.Ytbbinmplkbpcdaa.Ps
open Go.RowKit Go.Proofs.Ytbbinmplkbpcdaa.Wd Go.Proofs.YtbbinmplkbpcdaaW.PrintWords Go.Proofs.YtbbinmplkbpcdaaW.PrintLast Go.Proofs.YtbbinmplkbpcdaaW.PrintMore
open Go.Proofs.Ytbbinmplkbpcdaa.Fs (ls ls_len ls_inj ls_tail ls_extract sum_lt)
set_option maxRecDepth 100000 in
set_option maxHeartbeats 4000000 in
theorem turned_walk (s : Int) (h0 : 0 ≤ s) (h1 : s ≤ 255) (A : Option Addr) (c : Nat) (l : List Int) (at_ turn : Int) (hb1 : 0 ≤ turn) (hb2 : turn ≤ 255) (w : World) (hr : Kd.C (Kd.int .i64) w A l.length l) (hc : l.length ≤ c) (hl : l.length ≤ 1099511627776) :
    Calls Try.prog 21 #[.int .u8 s, .slice A l.length c, .agg #[.int .i64 at_, .int .u8 turn]] w fun e w' => e = .returned (.bool true) ∧ Below w.heap.size w w' := by
  have hu9 := Try.underlying9
  have hu70 := Try.underlying70
  have hu5 := Try.underlying5
  have hu97 := Try.underlying97
  have HR := Aside0.mk hr
  have HC := Aside0.mk hc
  have HL := Aside0.mk hl
  have HS0 := Aside0.mk h0
  have HS1 := Aside0.mk h1
  have HT0 := Aside0.mk hb1
  have HT1 := Aside0.mk hb2
  clear hr hc hl h0 h1 hb1 hb2
  go_enter Try.func21, Try.ntmps21
  go_wp2_with fail
  refine (lent A c l _ (Kd.C_below HR.out ((Below.refl _ _).alloc (Nat.le_refl _) _)) HC.out HL.out).mono ?_
  rintro e w1 ⟨A1, c1, rfl, hc1, hA, -, hb1⟩
  have hz : w1.heap[w.heap.size]? = some (.cells #[.int .i64 at_, .int .u8 turn] 97 (0, 0)) := by
    have := hb1.block w.heap.size (by simp)
    rw [this]
    simpa using heap_alloc_new w _
  have HB1 := Aside0.mk (((Below.refl _ _).alloc (Nat.le_refl _) _).trans (hb1.mono (by simp)))
  have HZ1 := Aside0.mk hz
  have HA := Aside0.mk hA
  have HC1 := Aside0.mk hc1
  clear hb1 hA hc1 HR hz
  go_wp2_with fail
  refine (write_calls s A1 c1 l _ HA.out (by have := HC1.out; omega)).mono ?_
  rintro e w2 ⟨rfl, hb2⟩
  have HB2 := Aside0.mk (below_step HB1.out hb2)
  have g1 : w.heap.size < w1.heap.size := (Array.getElem?_eq_some_iff.1 HZ1.out).1
  have HZ2 := Aside0.mk ((hb2.block w.heap.size g1).trans HZ1.out)
  clear hb2 HB1 HA HZ1 g1
  rcases wrR_cases s l with ⟨hw, hin, he⟩ | ⟨e, hne, he⟩
  · rw [he]
    have HIN := Aside0.mk hin
    have HWS := Aside0.mk hw
    clear he hin hw
    obtain ⟨a, ha⟩ : ∃ a, wrS s l = a := ⟨_, rfl⟩
    rw [ha]
    have HA := Aside0.mk ha
    have HAZ : Aside0 (a.size ≤ 20) := ⟨by rw [← ha, wrS_size HS0.out HS1.out HIN.out]; have := (ws_ok s).2.2; omega⟩
    clear ha
    have q0 : ((0 : Int) != 0) = false := rfl
    have b0 : _ = some (Value.int .i64 at_) := (blk_cell HZ2.out 0).trans rfl
    have b1 : _ = some (Value.int .u8 turn) := (blk_cell HZ2.out 1).trans rfl
    by_cases k1 : at_ < 2
    · have c2 : decide (at_ < 2) = true := decide_eq_true k1
      clear k1
      go_wp2_with fail
      refine (awake _).mono ?_
      rintro e w3 ⟨rfl, hb3⟩
      have HB3 := Aside0.mk (below_step HB2.out hb3)
      clear hb3
      go_wp2
      go_ret
      exact ⟨rfl, HB3.out⟩
    · have c2 : decide (at_ < 2) = false := decide_eq_false k1
      have HK1 := Aside0.mk k1
      clear k1
      by_cases k2 : at_ ≥ (a.size : Int)
      · have c3 : decide (at_ ≥ (a.size : Int)) = true := decide_eq_true k2
        clear k2
        go_wp2_with fail
        refine (awake _).mono ?_
        rintro e w3 ⟨rfl, hb3⟩
        have HB3 := Aside0.mk (below_step HB2.out hb3)
        clear hb3
        go_wp2
        go_ret
        exact ⟨rfl, HB3.out⟩
      · have c3 : decide (at_ ≥ (a.size : Int)) = false := decide_eq_false k2
        have HK2 := Aside0.mk k2
        clear k2
        by_cases k3 : turn = 0
        · have c4 : (turn == 0) = true := beq_iff_eq.mpr k3
          clear k3
          go_wp2_with fail
          refine (awake _).mono ?_
          rintro e w3 ⟨rfl, hb3⟩
          have HB3 := Aside0.mk (below_step HB2.out hb3)
          clear hb3
          go_wp2
          go_ret
          exact ⟨rfl, HB3.out⟩
        · have c4 : (turn == 0) = false := beq_eq_false_iff_ne.mpr k3
          have HK3 := Aside0.mk k3
          clear k3
          go_wp2_with fail
          have kb := print_bytes (P := Try.prog) 9 70 5 Try.underlying9 Try.underlying70 Try.underlying5 a w2
          have g0 : w.heap.size < w2.heap.size := (Array.getElem?_eq_some_iff.1 HZ2.out).1
          have hB2 : Below w.heap.size w (Lib.bytesWorld w2 5 a) := bytes_below HB2.out (by omega) 5 a
          have hZ2 : (Lib.bytesWorld w2 5 a).heap[w.heap.size]? = some (.cells #[.int .i64 at_, .int .u8 turn] 97 (0, 0)) := by
            rw [Lib.bytesWorld_at_old w2 5 a _ g0]
            exact HZ2.out
          have hnew := Lib.bytesWorld_at_new w2 5 a
          have hcell := Lib.bytesWorld_cell w2 5 a
          rw [kb]
          clear kb b0 b1
          generalize Lib.bytesWorld w2 5 a = w3 at hB2 hZ2 hnew hcell ⊢
          generalize w2.heap.size = g at hnew hcell g0 ⊢
          generalize grownCap w2 a.size 0 5 = cap
          clear HB2 HZ2
          obtain ⟨j, hj⟩ : ∃ j : Nat, at_ = (j : Int) := ⟨at_.toNat, by have := HK1.out; omega⟩
          subst hj
          have HJ : Aside0 (2 ≤ j ∧ j < a.size) := ⟨by have := HK1.out; have := HK2.out; omega⟩
          have hci : w3.cell? ⟨g, j, none⟩ = some (.int .u8 (bt a (j : Int))) := by
            rw [hcell j HJ.out.2]
            congr 2
            unfold bt
            rw [dif_pos (by simpa using HJ.out.2)]
            have := HJ.out.2
            simp [List.getD_eq_getElem?_getD, this]
            rfl
          have hfi : w3.frozen? ⟨g, j, none⟩ = false := by
            have := HJ.out.2
            simp only [World.frozen?, hnew]
            simp [Lib.bytesCells]
            omega
          have i0 : 0 ≤ (j : Int) := Int.natCast_nonneg j
          have i1 : (j : Int) < (a.size : Int) := by have := HJ.out.2; omega
          have HCE := Aside0.mk hcell
          have HB2 := Aside0.mk hB2
          have HZ2 := Aside0.mk hZ2
          clear hcell hB2 hZ2 hnew
          have b0 : _ = some (Value.int .i64 (j : Int)) := (blk_cell HZ2.out 0).trans rfl
          have b1 : _ = some (Value.int .u8 turn) := (blk_cell HZ2.out 1).trans rfl
          go_wp2_with fail
          go_region
          have hB3 : Below w.heap.size w (w3.setCell ⟨g, j, none⟩ (.int .u8 (Go.bits .xor .u8 (bt a (j : Int)) turn))) := HB2.out.setCell (by show _ ≤ g; omega) _
          have hC3 : ∀ i, i < a.size → (w3.setCell ⟨g, j, none⟩ (.int .u8 (Go.bits .xor .u8 (bt a (j : Int)) turn))).cell? ⟨g, 0 + i, none⟩ = some (.int .u8 (((bytesOf a).set j (Go.bits .xor .u8 (bt a (j : Int)) turn)).getD i 0)) := by
            intro i hi
            rw [Nat.zero_add]
            have hlen : i < (bytesOf a).length := by rw [bytesOf_length]; exact hi
            by_cases hji : j = i
            · subst hji
              rw [World.cell?_setCell_same _ _ _ hci, List.getD_eq_getElem?_getD, List.getElem?_set_self hlen]
              rfl
            · have hd : i < a.data.toList.length := by rw [data_length]; exact hi
              have e1 : ((bytesOf a).set j (Go.bits .xor .u8 (bt a (j : Int)) turn)).getD i 0 = ((a.data.toList.getD i 0).toNat : Int) := by
                rw [List.getD_eq_getElem?_getD, List.getElem?_set_ne hji]
                unfold bytesOf
                rw [List.getD_eq_getElem?_getD, List.getElem?_map, List.getElem?_eq_getElem hd]
                rfl
              rw [World.cell?_setCell_other _ _ _ _ (by intro e; injection e with _ e; exact hji e), HCE.out i hi, e1]
          have hB4 : Below w.heap.size w (w3.setCell ⟨g, j, none⟩ (.int .u8 (Go.bits .xor .u8 (bt a (j : Int)) turn))).drew := pw_below_drewN hB3 1
          have hC4 : ∀ i, i < a.size → (w3.setCell ⟨g, j, none⟩ (.int .u8 (Go.bits .xor .u8 (bt a (j : Int)) turn))).drew.cell? ⟨g, 0 + i, none⟩ = some (.int .u8 (((bytesOf a).set j (Go.bits .xor .u8 (bt a (j : Int)) turn)).getD i 0)) := hC3
          clear hB3 hC3 hci hfi HB2 HZ2 b0 b1 HCE
          generalize (w3.setCell ⟨g, j, none⟩ (.int .u8 (Go.bits .xor .u8 (bt a (j : Int)) turn))).drew = w4 at hB4 hC4 ⊢
          have kb := run_convert_bytes_arg w4 (P := Try.prog) 70 5 Try.underlying70 Try.underlying5 g 0 a.size cap ((bytesOf a).set j (Go.bits .xor .u8 (bt a (j : Int)) turn)) (by rw [List.length_set, bytesOf_length]) hC4 9 Try.underlying9
          have HB4 := Aside0.mk hB4
          clear hB4 hC4
          obtain ⟨z, hz⟩ : ∃ z, strOfNums ((bytesOf a).set j (Go.bits .xor .u8 (bt a (j : Int)) turn)) = z := ⟨_, rfl⟩
          obtain ⟨L, N, hSd⟩ := said s z
          have hLN : L = [] ∧ 1 ≤ N := by
            have h2 := HA.out
            subst h2
            rw [← hz] at hSd
            exact turned_said HS0.out HS1.out HWS.out HIN.out HJ.out.1 HJ.out.2 HK3.out HT0.out HT1.out hSd
          obtain ⟨rfl, hN⟩ := hLN
          have HSD := Aside0.mk hSd
          have HZZ : Aside0 (z.size ≤ 1099511627776) := ⟨by rw [← hz, strOfNums_size, List.length_set, bytesOf_length]; have := HAZ.out; omega⟩
          rw [hz] at kb
          have c5 : decide ((N : Int) ≥ 1) = true := decide_eq_true (by omega)
          clear hSd hz
          go_wp2_with fail
          refine (read_said HSD.out HZZ.out _).mono ?_
          rintro e w5 ⟨v, rfl, hr5, hb5⟩
          obtain ⟨A5, c5, rfl, hc5, -⟩ := Kd.R_reads hr5
          have HB5 := Aside0.mk (below_step HB4.out hb5)
          clear hb5 hr5 hc5 kb
          go_wp2_with fail
          refine (awake _).mono ?_
          rintro e w6 ⟨rfl, hb6⟩
          have HB6 := Aside0.mk (below_step HB5.out hb6)
          clear hb6
          go_wp2
          go_ret
          exact ⟨rfl, HB6.out⟩
  · rw [he]
    have HNE := Aside0.mk hne
    clear he
    have k1 : (e != 0) = true := bne_iff_ne.mpr hne
    clear hne
    go_wp2_with fail
    refine (awake _).mono ?_
    rintro e' w3 ⟨rfl, hb3⟩
    have HB3 := Aside0.mk (below_step HB2.out hb3)
    clear hb3
    go_wp2
    go_ret
    exact ⟨rfl, HB3.out⟩
/-- The walk of SenseTurned. -/
theorem turned_law (s : Int) (A : Option Addr) (c : Nat) (l : List Int) (at_ turn : Int) (w : World) {b d : Nat} (ws : (Lit.int .u8 s).wf = true) (hr : Kd.C (Kd.int .i64) w A l.length l) (hc : l.length ≤ c) (g : ∀ x ∈ l, (Lit.int .i64 x).wf = true) (m : OpPs.all_ (fun _ => 1) l + 1 ≤ b) (w0 : (Lit.int .i64 at_).wf = true) (w1 : (Lit.int .u8 turn).wf = true) (hb : 1 + (b + d) ≤ 1048576) :
    Calls Try.prog 21 #[.int .u8 s, .slice A l.length c, .agg #[.int .i64 at_, .int .u8 turn]] w fun e w' => e = .returned (.bool true) ∧ Below w.heap.size w w' := by
  rw [OpPs.all_ones] at m
  exact turned_walk s (u8_range ws).1 (u8_range ws).2 A c l at_ turn (u8_range w1).1 (u8_range w1).2 w hr hc (by omega)
end Go.Proofs.Ytbbinmplkbpcdaa.Ps
