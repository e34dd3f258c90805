import Derived.Test.YtbbinmplkbpcdaaSnk
/-! SenseStands. -/
set_option linter.unusedVariables false
set_option linter.constructorNameAsVariable false
namespace Go.Proofs.Ytbbinmplkbpcdaa.Ps
open Go.RowKit Go.Proofs.Ytbbinmplkbpcdaa.Wd Go.Proofs.YtbbinmplkbpcdaaW.PrintWords Go.Proofs.YtbbinmplkbpcdaaW.PrintLast Go.Proofs.YtbbinmplkbpcdaaW.PrintMore
open Go.Proofs.Ytbbinmplkbpcdaa.Fs (ls ls_len ls_inj ls_tail ls_extract sum_lt)
/-- What Read says of a sensor's bytes. -/
def Said (s : Int) (d : ByteArray) (L : List Int) (N : Nat) : Prop := (wsOf s ≠ [] → Reads s (wsOf s) (ls d) L N) ∧ (wsOf s = [] → L = [] ∧ N = 0)
theorem Said.det {s : Int} {d : ByteArray} {L L' : List Int} {N N' : Nat} (h : Said s d L N) (h' : Said s d L' N') : L = L' ∧ N = N' := by
  by_cases hw : wsOf s = []
  · obtain ⟨rfl, rfl⟩ := h.2 hw
    obtain ⟨rfl, rfl⟩ := h'.2 hw
    exact ⟨rfl, rfl⟩
  · exact (h.1 hw).det (h'.1 hw)
theorem said (s : Int) (d : ByteArray) : ∃ L N, Said s d L N := by
  by_cases hw : wsOf s = []
  · exact ⟨[], 0, fun h => absurd hw h, fun _ => ⟨rfl, rfl⟩⟩
  · obtain ⟨L, N, h⟩ := Reads.total s (wsOf s) (ls d)
    exact ⟨L, N, fun _ => h, fun h => absurd h hw⟩
theorem Said.small {s : Int} {d : ByteArray} {L : List Int} {N : Nat} (h : Said s d L N) : N ≤ d.size := by
  by_cases hw : wsOf s = []
  · rw [(h.2 hw).2]; exact Nat.zero_le _
  · have := (h.1 hw).len
    rw [ls_len] at this
    exact this
theorem read_said {s : Int} {d : ByteArray} {L : List Int} {N : Nat} (hS : Said s d L N) (hd : d.size ≤ 1099511627776) (w : World) :
    Calls Try.prog 53 #[.int .u8 s, .string d] w fun e w' => ∃ v, e = .returned (.tuple #[v, .bool (!L.isEmpty), .int .i64 (N : Int)]) ∧ Kd.R (Kd.int .i64) 3 w' w.heap.size (fun _ => True) v L ∧ Below w.heap.size w w' := by
  obtain ⟨k1, k2, _⟩ := ws_ok s
  by_cases hw : wsOf s = []
  · obtain ⟨rfl, rfl⟩ := hS.2 hw
    exact (read_none s (by rw [widths_eq, hw]) d w).mono fun e w' h => ⟨_, h.1, Kd.R_nil _ _ _ _ _, h.2⟩
  · exact read_walk s (wsOf s) (widths_eq s) k1 (by omega) hw d hd L N (hS.1 hw) w
theorem marks_take (t : List UInt8) (i : Nat) (h : i < t.length) : marks (t.take (i + 1)) = marks (t.take i) + if t[i] = 165 then 1 else 0 := by
  rw [List.take_succ_eq_append_getElem h]
  unfold marks
  rw [List.countP_append]
  simp [List.countP_cons]
theorem marks_le (t : List UInt8) : marks t ≤ t.length := List.countP_le_length
/-- What the law asks of what was read. -/
theorem stands_facts {s : Int} {d : ByteArray} {L : List Int} {N : Nat} (hS : Said s d L N) (hd : d.size ≤ 1048576) : N ≤ marks (ls d) ∧ (L ≠ [] → N < marks (ls d) ∧ ∃ t, wrR s L = (t, 0) ∧ Ev (fun k => windhoverlaw11_find.f k d t) true) := by
  by_cases hw : wsOf s = []
  · obtain ⟨rfl, rfl⟩ := hS.2 hw
    exact ⟨Nat.zero_le _, fun h => absurd rfl h⟩
  · have hR := hS.1 hw
    obtain ⟨h1, h2⟩ := hR.marks_ hw
    refine ⟨h1, fun hl => ⟨h2 hl, ?_⟩⟩
    obtain ⟨p, r, ht, hg, rfl⟩ := hR.stands hl
    obtain ⟨hin, hb⟩ := good_stands hg
    refine ⟨wrS s (decF (wsOf s) ((bytesOf (str r)).drop 1)), ?_, ?_⟩
    · unfold wrR
      rw [if_neg hw, if_neg (fun h => h hin.length.symm), if_pos hin]
    · have hz : 3 + sumW (wsOf s) ≤ r.length := by have := hg.1; rw [str_size] at this; exact this
      have hls : ls (wrS s (decF (wsOf s) ((bytesOf (str r)).drop 1))) = 165 :: r.take (3 + sumW (wsOf s)) := by
        apply nums8_inj
        rw [← bytesOf_ls, hb, bytesOf_str]
        simp [nums8, List.map_take]
      have hsz : (wrS s (decF (wsOf s) ((bytesOf (str r)).drop 1))).size = 4 + sumW (wsOf s) := by
        rw [← ls_len, hls, List.length_cons, List.length_take]
        omega
      have hlen := congrArg List.length ht
      rw [ls_len, List.length_append, List.length_cons] at hlen
      refine find_eq d _ hd (by omega) p.length (by omega) ?_ p.length 0 (by omega)
      rw [ht, List.drop_left, hsz, hls, show 4 + sumW (wsOf s) = (3 + sumW (wsOf s)) + 1 by omega]
      rfl
set_option maxRecDepth 100000 in
set_option maxHeartbeats 4000000 in
theorem stands_walk (s : Int) (d : ByteArray) (w : World) (hd : d.size ≤ 1048576) :
    Calls Try.prog 19 #[.int .u8 s, .string d] w fun e w' => e = .returned (.bool true) ∧ Below w.heap.size w w' := by
  obtain ⟨L, N, hS⟩ := said s d
  obtain ⟨hN, hL⟩ := stands_facts hS hd
  have HS := Aside0.mk hS
  have HN := Aside0.mk hN
  have HL := Aside0.mk hL
  have HD := Aside0.mk hd
  have HML := Aside0.mk (marks_le (ls d))
  clear hS hN hL hd
  go_enter Try.func19, Try.ntmps19
  go_wp2_with fail
  refine (read_said HS.out (by have := HD.out; omega) _).mono ?_
  rintro e w1 ⟨v, rfl, hr1, hb1⟩
  obtain ⟨A1, cp, rfl, hc1, hC1⟩ := Kd.R_reads hr1
  have HC1 := Aside0.mk hC1
  have HCC := Aside0.mk hc1
  have HB1 := Aside0.mk hb1
  clear hr1 hb1 hc1 hC1
  go_wp2_with fail
  go_loopg [8, 9] d.size (fun kq v8 v9 w' => ∃ (x m : Int), v9 = .int .i64 x ∧ v8 = .int .i64 m ∧ Aside0 (∃ i : Nat, x = (i : Int) ∧ kq + i = d.size ∧ m = ((marks ((ls d).take i) : Nat) : Int)) ∧ Aside0 (w' = w1))
  case atStart => exact ⟨0, 0, rfl, rfl, ⟨0, rfl, rfl, rfl⟩, ⟨rfl⟩⟩
  case round =>
    obtain ⟨x, m, rfl, rfl, HX, HWD⟩ := hrel
    have hwd := HWD.out
    subst hwd
    clear HWD
    cases gk with
    | zero =>
      have c1 : decide (x < (d.size : Int)) = false := decide_eq_false (by obtain ⟨i, h1, h2, _⟩ := HX.out; omega)
      have HM : Aside0 (m = ((marks (ls d) : Nat) : Int)) := ⟨by
        obtain ⟨i, h1, h2, h3⟩ := HX.out
        rw [h3, List.take_of_length_le (by rw [ls_len]; omega)]⟩
      have c2 : decide ((N : Int) < 0) = false := decide_eq_false (by omega)
      have c3 : decide ((N : Int) > m) = false := decide_eq_false (by have := HM.out; have := HN.out; omega)
      by_cases hl : L = []
      · have c4 : L.isEmpty = true := by rw [hl]; rfl
        have c5 : ((L.length : Int) == 0) = true := by rw [hl]; rfl
        clear hl
        go_wp2_with fail
        refine (awake _).mono ?_
        rintro e w2 ⟨rfl, hb2⟩
        have HB2 := Aside0.mk (below_step HB1.out hb2)
        clear hb2
        go_wp2
        go_ret
        exact ⟨rfl, HB2.out⟩
      · have c4 : L.isEmpty = false := by simpa using hl
        obtain ⟨hlt, t, ht, hf⟩ := HL.out hl
        have c5 : decide ((N : Int) ≥ m) = false := decide_eq_false (by have := HM.out; omega)
        have HT := Aside0.mk ht
        have HF := Aside0.mk hf
        clear hl hlt ht hf
        go_wp2_with fail
        refine (write_calls s A1 cp L _ HC1.out HCC.out).mono ?_
        rw [HT.out]
        rintro e w2 ⟨rfl, hb2⟩
        have HB2 := Aside0.mk (below_step HB1.out hb2)
        clear hb2
        go_wp2_with fail
        refine (awake _).mono ?_
        rintro e w3 ⟨rfl, hb3⟩
        have HB3 := Aside0.mk (below_step HB2.out hb3)
        clear hb3
        go_wp2_with fail
        obtain ⟨K, hK⟩ := HF.out
        refine (windhoverlaw11_find.calls K d t true _ (hK K (Nat.le_refl _))).mono ?_
        rintro e w4 ⟨rfl, nd, rfl⟩
        clear hK
        go_wp2
        go_ret
        exact ⟨rfl, pw_below_drewN HB3.out nd⟩
    | succ k1 =>
      have c1 : decide (x < (d.size : Int)) = true := decide_eq_true (by obtain ⟨i, h1, h2, _⟩ := HX.out; omega)
      have b1 : (0 ≤ x) = True := eq_true (by obtain ⟨i, h1, h2, _⟩ := HX.out; omega)
      have b2 : (x < (d.size : Int)) = True := eq_true (of_decide_eq_true c1)
      have hbt : ∀ hh : x.toNat < d.size, ((d[x.toNat]'hh).toNat : Int) = bt d x := fun hh => bt_at d x hh
      have E1 : Aside0 (wrap64 (x + 1) = x + 1) := ⟨by obtain ⟨i, h1, h2, _⟩ := HX.out; have := HD.out; exact w64 (by omega) (by omega)⟩
      by_cases hq : bt d x = 165
      · have c6 : (bt d x == 165) = true := beq_iff_eq.mpr hq
        have HQ := Aside0.mk hq
        clear hq
        go_wp2_with fail
        have E2 : Aside0 (wrap64 (m + 1) = ((marks ((ls d).take (x.toNat + 1)) : Nat) : Int)) := ⟨by
          obtain ⟨i, h1, h2, h3⟩ := HX.out
          have hil : i < (ls d).length := by rw [ls_len]; omega
          have hm := marks_le ((ls d).take i)
          have hml : ((ls d).take i).length ≤ d.size := by rw [List.length_take, ls_len]; omega
          have hb := Fs.bt_eq d i hil
          rw [← h1] at hb
          rw [show x.toNat = i by omega, marks_take _ i hil, h3]
          have hq := HQ.out
          rw [hb] at hq
          have h165 : (ls d)[i] = 165 := by
            apply UInt8.toNat_inj.1
            show _ = 165
            omega
          rw [if_pos h165, w64 (by omega) (by have := HD.out; omega)]
          rfl⟩
        go_roundg k1
        case measure => omega
        case rel => exact ⟨_, _, congrArg (Value.int .i64) E1.out, congrArg (Value.int .i64) E2.out, ⟨x.toNat + 1, by obtain ⟨i, h1, h2, h3⟩ := HX.out; omega, by obtain ⟨i, h1, h2, h3⟩ := HX.out; omega, rfl⟩, ⟨rfl⟩⟩
      · have c6 : (bt d x == 165) = false := beq_eq_false_iff_ne.mpr hq
        have HQ := Aside0.mk hq
        clear hq
        go_wp2_with fail
        have E2 : Aside0 (m = ((marks ((ls d).take (x.toNat + 1)) : Nat) : Int)) := ⟨by
          obtain ⟨i, h1, h2, h3⟩ := HX.out
          have hil : i < (ls d).length := by rw [ls_len]; omega
          have hm := marks_le ((ls d).take i)
          have hml : ((ls d).take i).length ≤ d.size := by rw [List.length_take, ls_len]; omega
          have hb := Fs.bt_eq d i hil
          rw [← h1] at hb
          rw [show x.toNat = i by omega, marks_take _ i hil, h3]
          have hq := HQ.out
          rw [hb] at hq
          have h165 : ¬ (ls d)[i] = 165 := by
            intro e
            rw [e] at hq
            exact hq rfl
          rw [if_neg h165]
          rfl⟩
        go_roundg k1
        case measure => omega
        case rel => exact ⟨_, _, congrArg (Value.int .i64) E1.out, congrArg (Value.int .i64) E2.out, ⟨x.toNat + 1, by obtain ⟨i, h1, h2, h3⟩ := HX.out; omega, by obtain ⟨i, h1, h2, h3⟩ := HX.out; omega, rfl⟩, ⟨rfl⟩⟩
/-- The walk of SenseStands. -/
theorem stands_law (s : Int) (d : ByteArray) (w : World) (ws : (Lit.int .u8 s).wf = true) (hb : 1 + (d.size + 1) ≤ 1048576) :
    Calls Try.prog 19 #[.int .u8 s, .string d] w fun e w' => e = .returned (.bool true) ∧ Below w.heap.size w w' := stands_walk s d w (by omega)
end Go.Proofs.Ytbbinmplkbpcdaa.Ps
