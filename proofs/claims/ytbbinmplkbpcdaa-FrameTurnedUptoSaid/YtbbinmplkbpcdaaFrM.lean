import Derived.Test.YtbbinmplkbpcdaaFrL
import Derived.Test.YtbbinmplkbpcdaaFrJ
/-! FrameTurned: the walk where a byte is turned. -/
set_option linter.unusedVariables false
set_option linter.unusedSectionVars false
set_option linter.constructorNameAsVariable false
namespace Go.Proofs.Ytbbinmplkbpcdaa.Fr
open Go.RowKit Go.Proofs.Ytbbinmplkbpcdaa.Pr Go.Proofs.YtbbinmplkbpcdaaW.PrintWords Go.Proofs.YtbbinmplkbpcdaaW.PrintLast Go.Proofs.YtbbinmplkbpcdaaW.PrintMore

set_option maxRecDepth 100000 in
set_option maxHeartbeats 2000000 in
theorem turned_main {k : Nat} {a0 a1 : Int} {p : ByteArray} {i : Nat} {turn : Int} {s : ByteArray} (hE : frame_Encode.f k a0 a1 p = some (s, 0)) (h2 : 2 ≤ i) (h3 : i ≠ 3) (h4 : i < s.size) (h5 : turn ≠ 0) (hs : s.size ≤ 1048576)
    {l : List S45} {d : ByteArray} {n : Int} (hll : l.length ≤ 1048576) (hF : frame_Reader_Feed.f k ⟨#[]⟩ 0 (strOfNums ((bytesOf s).set i (Go.bits .xor .u8 (bt s (i : Int)) turn))) = some (l, d, n)) (hl : ∀ x ∈ l, x.f2.size < p.size) (hn : 1 ≤ n) (w : World) :
    Calls Try.prog 13 #[.agg #[.int .i64 a0, .int .i64 a1, .string p], .int .i64 (i : Int), .int .u8 turn] w fun e w' => e = .returned (.bool true) ∧ Below w.heap.size w w' := by
  have hu45 := Try.underlying45
  have hu9 := Try.underlying9
  have hu70 := Try.underlying70
  have hu5 := Try.underlying5
  have c2 : decide ((i : Int) < 2) = false := decide_eq_false (by omega)
  have c3 : ((i : Int) == 3) = false := beq_eq_false_iff_ne.mpr (by omega)
  have c4 : decide ((i : Int) ≥ (s.size : Int)) = false := decide_eq_false (by omega)
  have c5 : (turn == 0) = false := beq_eq_false_iff_ne.mpr h5
  have i0 : 0 ≤ (i : Int) := Int.natCast_nonneg i
  have i1 : (i : Int) < (s.size : Int) := by omega
  go_enter Try.func13, Try.ntmps13
  go_wp2_with fail
  refine (frame_Encode.calls k a0 a1 p _ _ _ hE).mono ?_
  rintro e1 w1 ⟨rfl, hb1⟩
  have hz : w1.heap[w.heap.size]? = some (.cells #[.int .i64 a0, .int .i64 a1, .string p] 45 (0, 0)) := by
    have := hb1.block w.heap.size (by simp)
    rw [this]
    simpa using heap_alloc_new w _
  have HB := Aside0.mk (((Below.refl _ _).alloc (Nat.le_refl _) _).trans (hb1.mono (by simp)))
  have HZ := Aside0.mk hz
  clear hb1 hz hE
  go_wp2_with fail
  have kb := print_bytes (P := Try.prog) 9 70 5 Try.underlying9 Try.underlying70 Try.underlying5 s w1
  have g0 : w.heap.size < w1.heap.size := (Array.getElem?_eq_some_iff.1 HZ.out).1
  have hB2 : Below w.heap.size w (Lib.bytesWorld w1 5 s) := bytes_below HB.out (by omega) 5 s
  have hZ2 : (Lib.bytesWorld w1 5 s).heap[w.heap.size]? = some (.cells #[.int .i64 a0, .int .i64 a1, .string p] 45 (0, 0)) := by
    rw [Lib.bytesWorld_at_old w1 5 s _ g0]
    exact HZ.out
  have hnew := Lib.bytesWorld_at_new w1 5 s
  have hsz := Lib.bytesWorld_size w1 5 s
  have hcell := Lib.bytesWorld_cell w1 5 s
  rw [kb]
  clear kb
  generalize Lib.bytesWorld w1 5 s = w2 at hB2 hZ2 hnew hsz hcell ⊢
  generalize w1.heap.size = g at hnew hsz hcell g0 ⊢
  generalize grownCap w1 s.size 0 5 = cap
  clear HB HZ
  have hci : w2.cell? ⟨g, i, none⟩ = some (.int .u8 (bt s (i : Int))) := by
    rw [hcell i h4]
    congr 2
    unfold bt
    rw [dif_pos (by simpa using h4)]
    simp [List.getD_eq_getElem?_getD, h4]
    rfl
  have hfi : w2.frozen? ⟨g, i, none⟩ = false := by
    simp only [World.frozen?, hnew]
    simp [Lib.bytesCells]
    omega
  have HC := Aside0.mk hcell
  clear hcell
  go_wp2_with fail
  have hB3 : Below w.heap.size w (w2.setCell ⟨g, i, none⟩ (.int .u8 (Go.bits .xor .u8 (bt s (i : Int)) turn))) := hB2.setCell (by show _ ≤ g; omega) _
  have hZ3 : (w2.setCell ⟨g, i, none⟩ (.int .u8 (Go.bits .xor .u8 (bt s (i : Int)) turn))).heap[w.heap.size]? = some (.cells #[.int .i64 a0, .int .i64 a1, .string p] 45 (0, 0)) := by
    rw [← hZ2]
    simp only [World.setCell, Array.getElem?_modify]
    rw [if_neg (by omega)]
  have hC3 : ∀ j, j < s.size → (w2.setCell ⟨g, i, none⟩ (.int .u8 (Go.bits .xor .u8 (bt s (i : Int)) turn))).cell? ⟨g, 0 + j, none⟩ = some (.int .u8 (((bytesOf s).set i (Go.bits .xor .u8 (bt s (i : Int)) turn)).getD j 0)) := by
    intro j hj
    rw [Nat.zero_add]
    have hlen : j < (bytesOf s).length := by rw [bytesOf_length]; exact hj
    by_cases hji : i = j
    · subst hji
      rw [World.cell?_setCell_same _ _ _ hci, List.getD_eq_getElem?_getD, List.getElem?_set_self hlen]
      rfl
    · have hd : j < s.data.toList.length := by rw [data_length]; exact hj
      have e1 : ((bytesOf s).set i (Go.bits .xor .u8 (bt s (i : Int)) turn)).getD j 0 = ((s.data.toList.getD j 0).toNat : Int) := by
        rw [List.getD_eq_getElem?_getD, List.getElem?_set_ne hji]
        unfold bytesOf
        rw [List.getD_eq_getElem?_getD, List.getElem?_map, List.getElem?_eq_getElem hd]
        rfl
      rw [World.cell?_setCell_other _ _ _ _ (by intro e; injection e with _ e; exact hji e), HC.out j hj, e1]
  clear HC hci hfi hnew hsz hB2 hZ2
  generalize w2.setCell ⟨g, i, none⟩ (.int .u8 (Go.bits .xor .u8 (bt s (i : Int)) turn)) = w3 at hB3 hZ3 hC3 ⊢
  refine (frame_New.calls _ _ w w3 hB3 rfl).mono ?_
  rintro e w4 ⟨g1, rfl, hI, hB4, hb4⟩
  have g3 : w.heap.size < w3.heap.size := (Array.getElem?_eq_some_iff.1 hZ3).1
  have HZ4 := Aside0.mk ((hb4.block w.heap.size g3).trans hZ3)
  have hg3 : g < w3.heap.size := by
    have := hC3 i h4
    rcases Nat.lt_or_ge g w3.heap.size with h | h
    · exact h
    · simp only [World.cell?] at this
      rw [Array.getElem?_eq_none h] at this
      cases this
  have hC4 : ∀ j, j < s.size → w4.cell? ⟨g, 0 + j, none⟩ = some (.int .u8 (((bytesOf s).set i (Go.bits .xor .u8 (bt s (i : Int)) turn)).getD j 0)) := by
    intro j hj
    rw [← hC3 j hj]
    simp only [World.cell?]
    rw [hb4.block g hg3]
  have kb := run_convert_bytes_arg w4 (P := Try.prog) 70 5 Try.underlying70 Try.underlying5 g 0 s.size cap ((bytesOf s).set i (Go.bits .xor .u8 (bt s (i : Int)) turn)) (by rw [List.length_set, bytesOf_length]) hC4 9 Try.underlying9
  have HI := Aside0.mk hI
  have HB := Aside0.mk hB4
  clear hI hB4 hb4 hC3 hC4 hZ3 hB3
  go_wp2_with fail
  refine (frame_Reader_Feed.calls k g1 _ _ _ _ _ _ w w4 HI.out HB.out hF).mono ?_
  rintro e w5 ⟨v, rfl, hv, hI, hB, hk⟩
  have hne : w.heap.size ≠ g1 := (HI.out.ne_blk HZ4.out (by decide)).symm
  have HZ := Aside0.mk ((hk.2 w.heap.size (Array.getElem?_eq_some_iff.1 HZ4.out).1 hne (by simp)).trans HZ4.out)
  clear HI HB HZ4 kb
  obtain ⟨A, c, rfl, hc, hr⟩ := Kd.R_reads hv
  have HR := Aside0.mk hr
  have HI := Aside0.mk hI
  have HB := Aside0.mk hB
  clear hk hv hI hB hr hF
  go_wp2_with fail
  go_loopg [12] l.length (fun kq v12 w' => ∃ (x : Int), v12 = .int .i64 x ∧ Aside0 (0 ≤ x ∧ (kq : Int) + x = l.length) ∧ Aside0 (k45.C w' A l.length l) ∧ Aside0 (w'.heap[w.heap.size]? = some (.cells #[.int .i64 a0, .int .i64 a1, .string p] 45 (0, 0))) ∧ Aside0 (IsS120 w w' g1 d n) ∧ Aside0 (Below w.heap.size w w'))
  case atStart => exact ⟨0, rfl, ⟨Int.le_refl 0, Int.add_zero _⟩, HR, HZ, HI, HB⟩
  case round =>
    clear HR HZ HI HB
    obtain ⟨x, rfl, HJ, HR, HZ, HI, HB⟩ := hrel
    have hb2 : _ = some (Value.string p) := (blk_cell HZ.out 2).trans rfl
    cases gk with
    | zero =>
      have c6 : decide (x < (l.length : Int)) = false := decide_eq_false (by have := HJ.out; omega)
      have c7 : decide (n ≥ 1) = true := decide_eq_true hn
      clear hb2
      go_wp2_with fail
      refine (windhoverlaw04_awake.calls true _ rfl).mono ?_
      rintro e w6 ⟨rfl, hb⟩
      have HI6 := Aside0.mk (IsS120.below HI.out hb)
      have HB6 := Aside0.mk (below_step HB.out hb)
      clear HI HB hb HR HZ
      go_wp2_with fail
      refine (frame_Reader_Bad.calls g1 d n _ _ _ w _ HI6.out HB6.out rfl).mono ?_
      rintro e w7 ⟨rfl, _, hb, _⟩
      go_wp2
      go_ret
      exact ⟨rfl, hb⟩
    | succ k1 =>
      have p6 : 0 ≤ x := HJ.out.1
      have q6 : x < (l.length : Int) := by have := HJ.out; omega
      have c6 : decide (x < (l.length : Int)) = true := decide_eq_true q6
      have c8 : decide (p.size ≤ (rd_T45 l x).f2.size) = false := by
        refine decide_eq_false ?_
        have hjl : x.toNat < l.length := by omega
        have e : rd_T45 l x = l[x.toNat] := by
          unfold rd_T45
          rw [List.getD_eq_getElem?_getD, List.getElem?_eq_getElem hjl]
          rfl
        have := hl l[x.toNat] (List.getElem_mem hjl)
        rw [e]
        omega
      obtain ⟨ad, e2, hx0, hx1, hx2⟩ := at_T45 HR.out x p6 q6
      cases e2
      replace p6 := eq_true p6
      replace q6 := eq_true q6
      go_wp2_with fail
      go_quiet (fail)
      have e12 : wrap64 (x + 1) = ((x.toNat + 1 : Nat) : Int) := by
        have h : x + 1 = ((x.toNat + 1 : Nat) : Int) := by have := HJ.out.1; omega
        have h2 : x.toNat + 1 < 9223372036854775808 := by have := HJ.out; omega
        rw [h]
        exact wrap_nat _ h2
      have hs12 : 0 ≤ ((x.toNat + 1 : Nat) : Int) ∧ (k1 : Int) + ((x.toNat + 1 : Nat) : Int) = l.length := by have := HJ.out; clear e12; omega
      go_wp2
      go_roundg k1
      case measure => omega
      case rel =>
        exact ⟨_, congrArg (Value.int .i64) e12, ⟨hs12⟩, ⟨HR.out⟩, ⟨HZ.out⟩, ⟨HI.out⟩, ⟨pw_below_drewN HB.out _⟩⟩
end Go.Proofs.Ytbbinmplkbpcdaa.Fr
