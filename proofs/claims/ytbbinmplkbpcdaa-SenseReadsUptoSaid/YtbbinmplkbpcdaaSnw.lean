import Derived.Test.YtbbinmplkbpcdaaSnv
import Derived.Test.YtbbinmplkbpcdaaSnr
/-! SenseReads: the walk. -/
set_option linter.unusedVariables false
set_option linter.constructorNameAsVariable false
namespace Go.Proofs.Ytbbinmplkbpcdaa.Ps
open Go.RowKit Go.Proofs.Ytbbinmplkbpcdaa.Wd Go.Proofs.YtbbinmplkbpcdaaW.PrintWords Go.Proofs.YtbbinmplkbpcdaaW.PrintLast Go.Proofs.YtbbinmplkbpcdaaW.PrintMore
open Go.Proofs.Ytbbinmplkbpcdaa.Fs (ls ls_len ls_inj ls_tail ls_extract sum_lt)
theorem R_sl {W : World} {base : Nat} {v : Value} {xs : List Int} (h : (Kd.int .i64).R 3 W base TT v xs) : ∃ (o : Option Nat) (c : Nat), v = .slice (o.map fun g => ⟨g, 0, none⟩) xs.length c := by
  obtain ⟨inner, ho⟩ := Kd.R_own h
  rcases ho.2 with ⟨rfl, e⟩ | ⟨g, c, cur, rfl, _⟩
  · exact ⟨none, 0, by rw [e]; rfl⟩
  · exact ⟨some g, c, rfl⟩
theorem ls_row {W : World} {base g : Nat} {xs : List Sl} {cs : Array Value} (hg : W.heap[g]? = some (.cells cs 36 (0, 0))) (hb : base ≤ g) (hcs : cs.toList = xs.map encS) (hm : xs.length ≤ 1000) :
    kS.R 36 W base TT (.slice (some ⟨g, 0, none⟩) xs.length xs.length) xs := by
  have hs : cs.size = xs.length := by rw [← Array.length_toList, hcs, List.length_map]
  refine Kd.R_of_own ⟨by simp [encs], .inr ⟨g, xs.length, cs, rfl, hb, hg, Nat.le_refl _, by simp only [maxLen]; omega, by omega, ?_⟩⟩ (fun _ _ => trivial)
  rw [List.take_of_length_le (by rw [Array.length_toList]; omega), hcs]
  rfl
set_option maxRecDepth 100000 in
set_option maxHeartbeats 4000000 in
theorem reads_law_walk (s : Int) (d : ByteArray) (w : World) (hd : d.size ≤ 1048576) :
    Calls Try.prog 16 #[.int .u8 s, .string d] w fun e w' => e = .returned (.bool true) ∧ Below w.heap.size w w' := by
  obtain ⟨L, N, hS⟩ := said s d
  have hN := hS.small
  have hLl : L.length < 4611686018427387904 := by
    by_cases hw : wsOf s = []
    · rw [(hS.2 hw).1]; decide
    · by_cases hl : L = []
      · rw [hl]; decide
      · obtain ⟨p, r, _, _, e⟩ := (hS.1 hw).stands hl
        rw [e, dec_length]
        have := (ws_ok s).2.1
        omega
  have hL6 : L.length ≤ 1000000 := by
    by_cases hw : wsOf s = []
    · rw [(hS.2 hw).1]; decide
    · by_cases hl : L = []
      · rw [hl]; decide
      · obtain ⟨p, r, _, _, e⟩ := (hS.1 hw).stands hl
        rw [e, dec_length]
        have := (ws_ok s).2.1
        omega
  have HS := Aside0.mk hS
  have HD := Aside0.mk hd
  have HL := Aside0.mk hLl
  have HL6 := Aside0.mk hL6
  clear hS hd hLl hL6 hN
  go_enter Try.func16, Try.ntmps16
  go_wp2_with fail
  refine (read_said HS.out (by have := HD.out; omega) _).mono ?_
  rintro e w1 ⟨v1, rfl, hr1, hb1⟩
  obtain ⟨o1, c1, rfl⟩ := R_sl hr1
  have HLT := Aside0.mk (Kd.R_lt hr1)
  have HR1 := Aside0.mk hr1
  have HB1 := Aside0.mk hb1
  clear hr1 hb1
  go_wp2_with fail
  refine (read_said HS.out (by have := HD.out; omega) _).mono ?_
  rintro e w2 ⟨v2, rfl, hr2, hb2⟩
  obtain ⟨o2, c2, rfl⟩ := R_sl hr2
  have HR21 := Aside0.mk (Kd.R_below HR1.out hb2)
  have HGE := Aside0.mk (Kd.R_base hr2)
  have HR22 := Aside0.mk (Kd.R_lower hr2 HB1.out.size)
  have HB2 := Aside0.mk (below_step HB1.out hb2)
  clear hr2 hb2 HR1 HB1
  go_wp2_with fail
  obtain ⟨K, hK⟩ := refRead_calls HS.out (by have := HD.out; omega) w
  refine (windhoverref11_Read.calls K s d _ _ _ _ hK).mono ?_
  rintro e w3 ⟨v3, rfl, hr3, hb3⟩
  obtain ⟨A3, c3, rfl, hc3, hC3⟩ := Kd.R_reads hr3
  have HR31 := Aside0.mk (Kd.R_below HR21.out hb3)
  have HR32 := Aside0.mk (Kd.R_below HR22.out hb3)
  have HC31 := Aside0.mk (Kd.R_reads' HR31.out)
  have HC32 := Aside0.mk (Kd.R_reads' HR32.out)
  have HC33 := Aside0.mk hC3
  have HCC := Aside0.mk hc3
  have HB3 := Aside0.mk (below_step HB2.out hb3)
  clear hr3 hb3 hc3 hC3 HR21 HR22 HB2 hK
  obtain ⟨bl, hbl⟩ : ∃ bl, (!L.isEmpty) = bl := ⟨_, rfl⟩
  rw [hbl]
  clear hbl
  go_wp2_with fail
  refine (sameInts_self HL.out HC31.out.2.2 HC31.out.2.1 HC33.out HCC.out).mono ?_
  rintro e w4 ⟨rfl, n1, rfl⟩
  go_wp2_with fail
  refine (sameInts_self HL.out (Kd.C_drewN HC32.out.2.2 n1) HC32.out.2.1 (Kd.C_drewN HC33.out n1) HCC.out).mono ?_
  rintro e w5 ⟨rfl, n2, rfl⟩
  go_wp2_with fail
  refine (awake _).mono ?_
  rintro e w6 ⟨rfl, hb6⟩
  have HB6 := Aside0.mk (below_step (pw_below_drewN HB3.out (n1 + n2)) hb6)
  have HR61 := Aside0.mk (Kd.R_below (Kd.R_drewN HR31.out (n1 + n2)) hb6)
  have HR62 := Aside0.mk (Kd.R_below (Kd.R_drewN HR32.out (n1 + n2)) hb6)
  clear hb6 HB3 HR31 HR32 HC31 HC32 HC33
  go_wp2_with fail
  refine (apart_walk 2 w6.heap.size 2 [(o1, L.length, c1), (o2, L.length, c2)] (fun _ => L) w _ (by decide) (fun j hj => HL6.out) rfl ?ls ?ra ?daa ?b).mono ?_
  case ls => exact ls_row (xs := [(o1, L.length, c1), (o2, L.length, c2)]) (heap_alloc_new w6 _) HB6.out.size rfl (by show 2 ≤ 1000; decide)
  case ra =>
    intro j hj
    rcases (by omega : j = 0 ∨ j = 1) with rfl | rfl
    · exact Kd.R_alloc HR61.out _
    · exact Kd.R_alloc HR62.out _
  case daa =>
    intro i j g hi hj h1 h2
    rcases (by omega : i = 0 ∨ i = 1) with rfl | rfl <;> rcases (by omega : j = 0 ∨ j = 1) with rfl | rfl
    · rfl
    · exfalso
      have h1 : o1 = some g := h1
      have h2 : o2 = some g := h2
      have k1 := HLT.out g (by rw [h1]; rfl)
      have k2 := HGE.out g (by rw [h2]; rfl)
      omega
    · exfalso
      have h1 : o2 = some g := h1
      have h2 : o1 = some g := h2
      have k1 := HLT.out g (by rw [h2]; rfl)
      have k2 := HGE.out g (by rw [h1]; rfl)
      omega
    · rfl
  case b => exact below_alloc HB6.out _
  rintro e w7 ⟨rfl, hb7⟩
  go_wp2
  go_ret
  exact ⟨rfl, hb7⟩
/-- The walk of SenseReads. -/
theorem reads_law (s : Int) (d : ByteArray) (w : World) (ws : (Lit.int .u8 s).wf = true) (hb : 1 + (d.size + 1) ≤ 1048576) :
    Calls Try.prog 16 #[.int .u8 s, .string d] w fun e w' => e = .returned (.bool true) ∧ Below w.heap.size w w' := reads_law_walk s d w (by omega)
end Go.Proofs.Ytbbinmplkbpcdaa.Ps
