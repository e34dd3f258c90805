import Derived.Test.YtbbinmplkbpcdaaSna
import Derived.Test.YtbbinmplkbpcdaaWe
set_option linter.unusedVariables false
set_option linter.constructorNameAsVariable false
namespace Go.Proofs.Ytbbinmplkbpcdaa.Ps
open Go.RowKit Go.Proofs.Ytbbinmplkbpcdaa.Wd Go.Proofs.YtbbinmplkbpcdaaW.PrintWords Go.Proofs.YtbbinmplkbpcdaaW.PrintLast Go.Proofs.YtbbinmplkbpcdaaW.PrintMore
attribute [local go_sem] max2_int min2_int max_two min_two max_three min_three max_four min_four
theorem field_more (d : ByteArray) (i j : Nat) (x n : Int) (hx : x = ((8 * j : Nat) : Int)) (hn : n = num (((bytesOf d).drop i).take j)) (h : i + j < d.size) (hj : j ≤ 3) :
    wrap64 (x + 8) = ((8 * (j + 1) : Nat) : Int) ∧ Go.bits .or .i64 n (wrap64 (wrap64 (bt d ((i : Int) + (j : Int))) * 2 ^ min x.toNat 64)) = num (((bytesOf d).drop i).take (j + 1)) := by
  subst hx hn
  refine ⟨by rw [w64 (by omega) (by omega)]; omega, ?_⟩
  have hb := bytes_of d
  have hlen : ((bytesOf d).drop i).length = d.size - i := by rw [List.length_drop, bytesOf_length]
  have hjl : j < ((bytesOf d).drop i).length := by omega
  have hil : i + j < (bytesOf d).length := by rw [bytesOf_length]; exact h
  have hnb := num_bounds _ ((hb.drop i).take j)
  rw [List.length_take, hlen, Nat.min_eq_left (by omega)] at hnb
  have hbt : bt d ((i : Int) + (j : Int)) = ((bytesOf d).drop i)[j] := by
    rw [← rd_bytesOf]
    unfold rd
    rw [List.getElem_drop, show ((i : Int) + (j : Int)).toNat = i + j by omega, List.getD_eq_getElem?_getD, List.getElem?_eq_getElem hil]
    rfl
  have hby := (hb.drop i) _ (List.getElem_mem hjl)
  have h2 := or_byte (num (((bytesOf d).drop i).take j)) ((bytesOf d).drop i)[j] j hj hnb.1 hnb.2 hby.1 hby.2
  rw [List.take_succ_eq_append_getElem hjl, num_snoc, List.length_take, hlen, show min j (d.size - i) = j from Nat.min_eq_left (by omega), ← h2, hbt]
  have e : wrap64 = IntKind.i64.wrap := funext fun z => by
    rw [IntKind.wrap_i64]
    unfold wrap64
    rfl
  unfold shl
  rw [e]
  rfl
theorem field_bounds (d : ByteArray) (i m : Nat) (h : i + m ≤ d.size) : 0 ≤ num (((bytesOf d).drop i).take m) ∧ num (((bytesOf d).drop i).take m) < pow_ m := by
  have := num_bounds _ (((bytes_of d).drop i).take m)
  rw [List.length_take, List.length_drop, bytesOf_length, Nat.min_eq_left (by omega)] at this
  exact this
set_option maxRecDepth 100000 in
set_option maxHeartbeats 1000000 in
theorem field_ok0 (g : Nat) (d : ByteArray) (i : Nat) (w : World) (h : Src w g d (i : Int)) (hi : i + 1 ≤ d.size) (hd : d.size ≤ 1099511627776) :
    Calls Try.prog 110 #[.pointer (some ⟨g, 0, none⟩), .int .i64 8] w fun e w' => e = .returned (.int .i64 (val 8 (((bytesOf d).drop i).take 1))) ∧ Src w' g d ((i + 1 : Nat) : Int) ∧ Kp w w' g := by
  have HS := Aside0.mk h
  have HI := Aside0.mk hi
  have HD := Aside0.mk hd
  clear h hi hd
  go_enter Try.func110, Try.ntmps110
  go_wp2_with fail
  go_loopg [6, 7] 1 (fun kq v6 v7 w' => ∃ (x n : Int), v7 = .int .i64 x ∧ v6 = .int .i64 n ∧ Aside0 (∃ j : Nat, x = ((8 * j : Nat) : Int) ∧ kq + j = 1 ∧ n = num (((bytesOf d).drop i).take j) ∧ Src w' g d ((i + j : Nat) : Int)) ∧ Aside0 (Kp w w' g))
  case atStart => exact ⟨0, 0, rfl, rfl, ⟨0, rfl, rfl, rfl, HS.out⟩, ⟨Kp.refl _ _⟩⟩
  case round =>
    obtain ⟨x, n, rfl, rfl, HJ, HK⟩ := hrel
    cases gk with
    | zero =>
      have c1 : decide (x < 8) = false := decide_eq_false (by obtain ⟨j, h1, h2, _⟩ := HJ.out; omega)
      have HE : Aside0 (n = num (((bytesOf d).drop i).take 1) ∧ Src wr g d ((i + 1 : Nat) : Int)) := by
        obtain ⟨j, _, h2, h3, h4⟩ := HJ.out
        obtain rfl : j = 1 := by omega
        exact ⟨h3, h4⟩
      have HNB := Aside0.mk (field_bounds d i 1 HI.out)
      clear HJ
      go_wp2_with fail
      go_ret
      refine ⟨?_, HE.out.2, HK.out⟩
      rw [HE.out.1]
      rfl
    | succ k1 =>
      have c1 : decide (x < 8) = true := decide_eq_true (by obtain ⟨j, h1, h2, _⟩ := HJ.out; omega)
      obtain ⟨j, hx, hj, hn, hS⟩ := HJ.out
      have HX := Aside0.mk hx
      have HN := Aside0.mk hn
      have HL := Aside0.mk hj
      have HS1 := Aside0.mk hS
      clear HJ hx hn hj hS
      go_wp2_with fail
      refine (next_ok g d (i + j) _ HS1.out (by have := HI.out; have := HL.out; omega) (by have := HD.out; omega)).mono ?_
      rintro e w2 ⟨rfl, hS2, hK2⟩
      have HS2 := Aside0.mk hS2
      have HK2 := Aside0.mk hK2
      clear HS1 hS2 hK2
      have px : 0 ≤ x := by have := HX.out; omega
      go_wp2_with fail
      obtain ⟨e1, e2⟩ := field_more d i j x n HX.out HN.out (by have := HI.out; have := HL.out; omega) (by have := HL.out; omega)
      have E1 := Aside0.mk e1
      have E2 := Aside0.mk e2
      clear e1 e2
      go_roundg k1
      case measure => omega
      case rel => exact ⟨_, _, congrArg (Value.int .i64) E1.out, congrArg (Value.int .i64) E2.out, ⟨j + 1, rfl, by have := HL.out; omega, rfl, HS2.out⟩, ⟨HK.out.trans HK2.out⟩⟩
set_option maxRecDepth 100000 in
set_option maxHeartbeats 1000000 in
theorem field_early0 (g : Nat) (d : ByteArray) (i : Nat) (w : World) (h : Src w g d (i : Int)) (h0 : i ≤ d.size) (hi : d.size < i + 1) (hd : d.size ≤ 1099511627776) :
    Calls Try.prog 110 #[.pointer (some ⟨g, 0, none⟩), .int .i64 8] w fun e w' => e = .panicked early_ ∧ Kp w w' g := by
  have HS := Aside0.mk h
  have HI := Aside0.mk hi
  have HD := Aside0.mk hd
  have H0 := Aside0.mk h0
  clear h hi hd h0
  go_enter Try.func110, Try.ntmps110
  go_wp2_with fail
  go_loopg [6, 7] (d.size - i) (fun kq v6 v7 w' => ∃ (x n : Int), v7 = .int .i64 x ∧ v6 = .int .i64 n ∧ Aside0 (∃ j : Nat, x = ((8 * j : Nat) : Int) ∧ kq + j = d.size - i ∧ n = num (((bytesOf d).drop i).take j) ∧ Src w' g d ((i + j : Nat) : Int)) ∧ Aside0 (Kp w w' g))
  case atStart => exact ⟨0, 0, rfl, rfl, ⟨0, rfl, rfl, rfl, HS.out⟩, ⟨Kp.refl _ _⟩⟩
  case round =>
    obtain ⟨x, n, rfl, rfl, HJ, HK⟩ := hrel
    have c1 : decide (x < 8) = true := decide_eq_true (by obtain ⟨j, h1, h2, _⟩ := HJ.out; have := HI.out; have := H0.out; omega)
    obtain ⟨j, hx, hj, hn, hS⟩ := HJ.out
    have HX := Aside0.mk hx
    have HN := Aside0.mk hn
    have HL := Aside0.mk hj
    have HS1 := Aside0.mk hS
    clear HJ hx hn hj hS
    cases gk with
    | zero =>
      go_wp2_with fail
      refine (next_early g d _ _ HS1.out (decide_eq_true (by have := HL.out; have := H0.out; omega))).mono ?_
      rintro e w2 ⟨rfl, nd, rfl⟩
      go_wp2_with fail
      exact ⟨rfl, rfl, HK.out.drewN _⟩
    | succ k1 =>
      go_wp2_with fail
      refine (next_ok g d (i + j) _ HS1.out (by have := HI.out; have := HL.out; have := H0.out; omega) (by have := HD.out; omega)).mono ?_
      rintro e w2 ⟨rfl, hS2, hK2⟩
      have HS2 := Aside0.mk hS2
      have HK2 := Aside0.mk hK2
      clear HS1 hS2 hK2
      have px : 0 ≤ x := by have := HX.out; omega
      go_wp2_with fail
      obtain ⟨e1, e2⟩ := field_more d i j x n HX.out HN.out (by have := HI.out; have := HL.out; have := H0.out; omega) (by have := HL.out; have := HI.out; have := H0.out; omega)
      have E1 := Aside0.mk e1
      have E2 := Aside0.mk e2
      clear e1 e2
      go_roundg k1
      case measure => omega
      case rel => exact ⟨_, _, congrArg (Value.int .i64) E1.out, congrArg (Value.int .i64) E2.out, ⟨j + 1, rfl, by have := HL.out; omega, rfl, HS2.out⟩, ⟨HK.out.trans HK2.out⟩⟩
set_option maxRecDepth 100000 in
set_option maxHeartbeats 1000000 in
theorem field_ok1 (g : Nat) (d : ByteArray) (i : Nat) (w : World) (h : Src w g d (i : Int)) (hi : i + 2 ≤ d.size) (hd : d.size ≤ 1099511627776) :
    Calls Try.prog 110 #[.pointer (some ⟨g, 0, none⟩), .int .i64 16] w fun e w' => e = .returned (.int .i64 (val 16 (((bytesOf d).drop i).take 2))) ∧ Src w' g d ((i + 2 : Nat) : Int) ∧ Kp w w' g := by
  have HS := Aside0.mk h
  have HI := Aside0.mk hi
  have HD := Aside0.mk hd
  clear h hi hd
  go_enter Try.func110, Try.ntmps110
  go_wp2_with fail
  go_loopg [6, 7] 2 (fun kq v6 v7 w' => ∃ (x n : Int), v7 = .int .i64 x ∧ v6 = .int .i64 n ∧ Aside0 (∃ j : Nat, x = ((8 * j : Nat) : Int) ∧ kq + j = 2 ∧ n = num (((bytesOf d).drop i).take j) ∧ Src w' g d ((i + j : Nat) : Int)) ∧ Aside0 (Kp w w' g))
  case atStart => exact ⟨0, 0, rfl, rfl, ⟨0, rfl, rfl, rfl, HS.out⟩, ⟨Kp.refl _ _⟩⟩
  case round =>
    obtain ⟨x, n, rfl, rfl, HJ, HK⟩ := hrel
    cases gk with
    | zero =>
      have c1 : decide (x < 16) = false := decide_eq_false (by obtain ⟨j, h1, h2, _⟩ := HJ.out; omega)
      have HE : Aside0 (n = num (((bytesOf d).drop i).take 2) ∧ Src wr g d ((i + 2 : Nat) : Int)) := by
        obtain ⟨j, _, h2, h3, h4⟩ := HJ.out
        obtain rfl : j = 2 := by omega
        exact ⟨h3, h4⟩
      have HNB := Aside0.mk (field_bounds d i 2 HI.out)
      clear HJ
      go_wp2_with fail
      go_ret
      refine ⟨?_, HE.out.2, HK.out⟩
      rw [HE.out.1]
      rfl
    | succ k1 =>
      have c1 : decide (x < 16) = true := decide_eq_true (by obtain ⟨j, h1, h2, _⟩ := HJ.out; omega)
      obtain ⟨j, hx, hj, hn, hS⟩ := HJ.out
      have HX := Aside0.mk hx
      have HN := Aside0.mk hn
      have HL := Aside0.mk hj
      have HS1 := Aside0.mk hS
      clear HJ hx hn hj hS
      go_wp2_with fail
      refine (next_ok g d (i + j) _ HS1.out (by have := HI.out; have := HL.out; omega) (by have := HD.out; omega)).mono ?_
      rintro e w2 ⟨rfl, hS2, hK2⟩
      have HS2 := Aside0.mk hS2
      have HK2 := Aside0.mk hK2
      clear HS1 hS2 hK2
      have px : 0 ≤ x := by have := HX.out; omega
      go_wp2_with fail
      obtain ⟨e1, e2⟩ := field_more d i j x n HX.out HN.out (by have := HI.out; have := HL.out; omega) (by have := HL.out; omega)
      have E1 := Aside0.mk e1
      have E2 := Aside0.mk e2
      clear e1 e2
      go_roundg k1
      case measure => omega
      case rel => exact ⟨_, _, congrArg (Value.int .i64) E1.out, congrArg (Value.int .i64) E2.out, ⟨j + 1, rfl, by have := HL.out; omega, rfl, HS2.out⟩, ⟨HK.out.trans HK2.out⟩⟩
set_option maxRecDepth 100000 in
set_option maxHeartbeats 1000000 in
theorem field_early1 (g : Nat) (d : ByteArray) (i : Nat) (w : World) (h : Src w g d (i : Int)) (h0 : i ≤ d.size) (hi : d.size < i + 2) (hd : d.size ≤ 1099511627776) :
    Calls Try.prog 110 #[.pointer (some ⟨g, 0, none⟩), .int .i64 16] w fun e w' => e = .panicked early_ ∧ Kp w w' g := by
  have HS := Aside0.mk h
  have HI := Aside0.mk hi
  have HD := Aside0.mk hd
  have H0 := Aside0.mk h0
  clear h hi hd h0
  go_enter Try.func110, Try.ntmps110
  go_wp2_with fail
  go_loopg [6, 7] (d.size - i) (fun kq v6 v7 w' => ∃ (x n : Int), v7 = .int .i64 x ∧ v6 = .int .i64 n ∧ Aside0 (∃ j : Nat, x = ((8 * j : Nat) : Int) ∧ kq + j = d.size - i ∧ n = num (((bytesOf d).drop i).take j) ∧ Src w' g d ((i + j : Nat) : Int)) ∧ Aside0 (Kp w w' g))
  case atStart => exact ⟨0, 0, rfl, rfl, ⟨0, rfl, rfl, rfl, HS.out⟩, ⟨Kp.refl _ _⟩⟩
  case round =>
    obtain ⟨x, n, rfl, rfl, HJ, HK⟩ := hrel
    have c1 : decide (x < 16) = true := decide_eq_true (by obtain ⟨j, h1, h2, _⟩ := HJ.out; have := HI.out; have := H0.out; omega)
    obtain ⟨j, hx, hj, hn, hS⟩ := HJ.out
    have HX := Aside0.mk hx
    have HN := Aside0.mk hn
    have HL := Aside0.mk hj
    have HS1 := Aside0.mk hS
    clear HJ hx hn hj hS
    cases gk with
    | zero =>
      go_wp2_with fail
      refine (next_early g d _ _ HS1.out (decide_eq_true (by have := HL.out; have := H0.out; omega))).mono ?_
      rintro e w2 ⟨rfl, nd, rfl⟩
      go_wp2_with fail
      exact ⟨rfl, rfl, HK.out.drewN _⟩
    | succ k1 =>
      go_wp2_with fail
      refine (next_ok g d (i + j) _ HS1.out (by have := HI.out; have := HL.out; have := H0.out; omega) (by have := HD.out; omega)).mono ?_
      rintro e w2 ⟨rfl, hS2, hK2⟩
      have HS2 := Aside0.mk hS2
      have HK2 := Aside0.mk hK2
      clear HS1 hS2 hK2
      have px : 0 ≤ x := by have := HX.out; omega
      go_wp2_with fail
      obtain ⟨e1, e2⟩ := field_more d i j x n HX.out HN.out (by have := HI.out; have := HL.out; have := H0.out; omega) (by have := HL.out; have := HI.out; have := H0.out; omega)
      have E1 := Aside0.mk e1
      have E2 := Aside0.mk e2
      clear e1 e2
      go_roundg k1
      case measure => omega
      case rel => exact ⟨_, _, congrArg (Value.int .i64) E1.out, congrArg (Value.int .i64) E2.out, ⟨j + 1, rfl, by have := HL.out; omega, rfl, HS2.out⟩, ⟨HK.out.trans HK2.out⟩⟩
set_option maxRecDepth 100000 in
set_option maxHeartbeats 1000000 in
theorem field_ok2 (g : Nat) (d : ByteArray) (i : Nat) (w : World) (h : Src w g d (i : Int)) (hi : i + 2 ≤ d.size) (hd : d.size ≤ 1099511627776) :
    Calls Try.prog 110 #[.pointer (some ⟨g, 0, none⟩), .int .i64 (-16)] w fun e w' => e = .returned (.int .i64 (val (-16) (((bytesOf d).drop i).take 2))) ∧ Src w' g d ((i + 2 : Nat) : Int) ∧ Kp w w' g := by
  have HS := Aside0.mk h
  have HI := Aside0.mk hi
  have HD := Aside0.mk hd
  clear h hi hd
  go_enter Try.func110, Try.ntmps110
  go_wp2_with fail
  go_loopg [6, 7] 2 (fun kq v6 v7 w' => ∃ (x n : Int), v7 = .int .i64 x ∧ v6 = .int .i64 n ∧ Aside0 (∃ j : Nat, x = ((8 * j : Nat) : Int) ∧ kq + j = 2 ∧ n = num (((bytesOf d).drop i).take j) ∧ Src w' g d ((i + j : Nat) : Int)) ∧ Aside0 (Kp w w' g))
  case atStart => exact ⟨0, 0, rfl, rfl, ⟨0, rfl, rfl, rfl, HS.out⟩, ⟨Kp.refl _ _⟩⟩
  case round =>
    obtain ⟨x, n, rfl, rfl, HJ, HK⟩ := hrel
    cases gk with
    | zero =>
      have c1 : decide (x < 16) = false := decide_eq_false (by obtain ⟨j, h1, h2, _⟩ := HJ.out; omega)
      have HE : Aside0 (n = num (((bytesOf d).drop i).take 2) ∧ Src wr g d ((i + 2 : Nat) : Int)) := by
        obtain ⟨j, _, h2, h3, h4⟩ := HJ.out
        obtain rfl : j = 2 := by omega
        exact ⟨h3, h4⟩
      have HNB := Aside0.mk (field_bounds d i 2 HI.out)
      clear HJ
      have hp : pow_ 2 = 65536 := by decide
      by_cases hn : 65536 ≤ 2 * n
      · have HV : Aside0 (wrap64 (n - 65536) = val (-16) (((bytesOf d).drop i).take 2)) := ⟨by
          have h1 := HE.out.1
          have h2 := HNB.out
          rw [← h1, hp] at h2
          rw [w64 (by omega) (by omega)]
          unfold val
          rw [← h1, show manyOf (-16) = 65536 from rfl, if_pos ⟨by decide, hn⟩]⟩
        have c2 : (n / 32768 == 1) = true := beq_iff_eq.mpr (by
          have h1 := HE.out.1
          have h2 := HNB.out
          rw [← h1, hp] at h2
          omega)
        clear hn hp
        go_wp2_with fail
        go_ret
        exact ⟨congrArg (fun z => Ending.returned (Value.int .i64 z)) HV.out, HE.out.2, HK.out⟩
      · have HV : Aside0 (n = val (-16) (((bytesOf d).drop i).take 2)) := ⟨by
          have h1 := HE.out.1
          unfold val
          rw [← h1, show manyOf (-16) = 65536 from rfl, if_neg (fun h => hn h.2)]⟩
        have c2 : (n / 32768 == 1) = false := beq_eq_false_iff_ne.mpr (by
          have h1 := HE.out.1
          have h2 := HNB.out
          rw [← h1, hp] at h2
          omega)
        clear hn hp
        go_wp2_with fail
        go_ret
        exact ⟨congrArg (fun z => Ending.returned (Value.int .i64 z)) HV.out, HE.out.2, HK.out⟩
    | succ k1 =>
      have c1 : decide (x < 16) = true := decide_eq_true (by obtain ⟨j, h1, h2, _⟩ := HJ.out; omega)
      obtain ⟨j, hx, hj, hn, hS⟩ := HJ.out
      have HX := Aside0.mk hx
      have HN := Aside0.mk hn
      have HL := Aside0.mk hj
      have HS1 := Aside0.mk hS
      clear HJ hx hn hj hS
      go_wp2_with fail
      refine (next_ok g d (i + j) _ HS1.out (by have := HI.out; have := HL.out; omega) (by have := HD.out; omega)).mono ?_
      rintro e w2 ⟨rfl, hS2, hK2⟩
      have HS2 := Aside0.mk hS2
      have HK2 := Aside0.mk hK2
      clear HS1 hS2 hK2
      have px : 0 ≤ x := by have := HX.out; omega
      go_wp2_with fail
      obtain ⟨e1, e2⟩ := field_more d i j x n HX.out HN.out (by have := HI.out; have := HL.out; omega) (by have := HL.out; omega)
      have E1 := Aside0.mk e1
      have E2 := Aside0.mk e2
      clear e1 e2
      go_roundg k1
      case measure => omega
      case rel => exact ⟨_, _, congrArg (Value.int .i64) E1.out, congrArg (Value.int .i64) E2.out, ⟨j + 1, rfl, by have := HL.out; omega, rfl, HS2.out⟩, ⟨HK.out.trans HK2.out⟩⟩
set_option maxRecDepth 100000 in
set_option maxHeartbeats 1000000 in
theorem field_early2 (g : Nat) (d : ByteArray) (i : Nat) (w : World) (h : Src w g d (i : Int)) (h0 : i ≤ d.size) (hi : d.size < i + 2) (hd : d.size ≤ 1099511627776) :
    Calls Try.prog 110 #[.pointer (some ⟨g, 0, none⟩), .int .i64 (-16)] w fun e w' => e = .panicked early_ ∧ Kp w w' g := by
  have HS := Aside0.mk h
  have HI := Aside0.mk hi
  have HD := Aside0.mk hd
  have H0 := Aside0.mk h0
  clear h hi hd h0
  go_enter Try.func110, Try.ntmps110
  go_wp2_with fail
  go_loopg [6, 7] (d.size - i) (fun kq v6 v7 w' => ∃ (x n : Int), v7 = .int .i64 x ∧ v6 = .int .i64 n ∧ Aside0 (∃ j : Nat, x = ((8 * j : Nat) : Int) ∧ kq + j = d.size - i ∧ n = num (((bytesOf d).drop i).take j) ∧ Src w' g d ((i + j : Nat) : Int)) ∧ Aside0 (Kp w w' g))
  case atStart => exact ⟨0, 0, rfl, rfl, ⟨0, rfl, rfl, rfl, HS.out⟩, ⟨Kp.refl _ _⟩⟩
  case round =>
    obtain ⟨x, n, rfl, rfl, HJ, HK⟩ := hrel
    have c1 : decide (x < 16) = true := decide_eq_true (by obtain ⟨j, h1, h2, _⟩ := HJ.out; have := HI.out; have := H0.out; omega)
    obtain ⟨j, hx, hj, hn, hS⟩ := HJ.out
    have HX := Aside0.mk hx
    have HN := Aside0.mk hn
    have HL := Aside0.mk hj
    have HS1 := Aside0.mk hS
    clear HJ hx hn hj hS
    cases gk with
    | zero =>
      go_wp2_with fail
      refine (next_early g d _ _ HS1.out (decide_eq_true (by have := HL.out; have := H0.out; omega))).mono ?_
      rintro e w2 ⟨rfl, nd, rfl⟩
      go_wp2_with fail
      exact ⟨rfl, rfl, HK.out.drewN _⟩
    | succ k1 =>
      go_wp2_with fail
      refine (next_ok g d (i + j) _ HS1.out (by have := HI.out; have := HL.out; have := H0.out; omega) (by have := HD.out; omega)).mono ?_
      rintro e w2 ⟨rfl, hS2, hK2⟩
      have HS2 := Aside0.mk hS2
      have HK2 := Aside0.mk hK2
      clear HS1 hS2 hK2
      have px : 0 ≤ x := by have := HX.out; omega
      go_wp2_with fail
      obtain ⟨e1, e2⟩ := field_more d i j x n HX.out HN.out (by have := HI.out; have := HL.out; have := H0.out; omega) (by have := HL.out; have := HI.out; have := H0.out; omega)
      have E1 := Aside0.mk e1
      have E2 := Aside0.mk e2
      clear e1 e2
      go_roundg k1
      case measure => omega
      case rel => exact ⟨_, _, congrArg (Value.int .i64) E1.out, congrArg (Value.int .i64) E2.out, ⟨j + 1, rfl, by have := HL.out; omega, rfl, HS2.out⟩, ⟨HK.out.trans HK2.out⟩⟩
set_option maxRecDepth 100000 in
set_option maxHeartbeats 1000000 in
theorem field_ok3 (g : Nat) (d : ByteArray) (i : Nat) (w : World) (h : Src w g d (i : Int)) (hi : i + 4 ≤ d.size) (hd : d.size ≤ 1099511627776) :
    Calls Try.prog 110 #[.pointer (some ⟨g, 0, none⟩), .int .i64 (-32)] w fun e w' => e = .returned (.int .i64 (val (-32) (((bytesOf d).drop i).take 4))) ∧ Src w' g d ((i + 4 : Nat) : Int) ∧ Kp w w' g := by
  have HS := Aside0.mk h
  have HI := Aside0.mk hi
  have HD := Aside0.mk hd
  clear h hi hd
  go_enter Try.func110, Try.ntmps110
  go_wp2_with fail
  go_loopg [6, 7] 4 (fun kq v6 v7 w' => ∃ (x n : Int), v7 = .int .i64 x ∧ v6 = .int .i64 n ∧ Aside0 (∃ j : Nat, x = ((8 * j : Nat) : Int) ∧ kq + j = 4 ∧ n = num (((bytesOf d).drop i).take j) ∧ Src w' g d ((i + j : Nat) : Int)) ∧ Aside0 (Kp w w' g))
  case atStart => exact ⟨0, 0, rfl, rfl, ⟨0, rfl, rfl, rfl, HS.out⟩, ⟨Kp.refl _ _⟩⟩
  case round =>
    obtain ⟨x, n, rfl, rfl, HJ, HK⟩ := hrel
    cases gk with
    | zero =>
      have c1 : decide (x < 32) = false := decide_eq_false (by obtain ⟨j, h1, h2, _⟩ := HJ.out; omega)
      have HE : Aside0 (n = num (((bytesOf d).drop i).take 4) ∧ Src wr g d ((i + 4 : Nat) : Int)) := by
        obtain ⟨j, _, h2, h3, h4⟩ := HJ.out
        obtain rfl : j = 4 := by omega
        exact ⟨h3, h4⟩
      have HNB := Aside0.mk (field_bounds d i 4 HI.out)
      clear HJ
      have hp : pow_ 4 = 4294967296 := by decide
      by_cases hn : 4294967296 ≤ 2 * n
      · have HV : Aside0 (wrap64 (n - 4294967296) = val (-32) (((bytesOf d).drop i).take 4)) := ⟨by
          have h1 := HE.out.1
          have h2 := HNB.out
          rw [← h1, hp] at h2
          rw [w64 (by omega) (by omega)]
          unfold val
          rw [← h1, show manyOf (-32) = 4294967296 from rfl, if_pos ⟨by decide, hn⟩]⟩
        have c2 : (n / 2147483648 == 1) = true := beq_iff_eq.mpr (by
          have h1 := HE.out.1
          have h2 := HNB.out
          rw [← h1, hp] at h2
          omega)
        clear hn hp
        go_wp2_with fail
        go_ret
        exact ⟨congrArg (fun z => Ending.returned (Value.int .i64 z)) HV.out, HE.out.2, HK.out⟩
      · have HV : Aside0 (n = val (-32) (((bytesOf d).drop i).take 4)) := ⟨by
          have h1 := HE.out.1
          unfold val
          rw [← h1, show manyOf (-32) = 4294967296 from rfl, if_neg (fun h => hn h.2)]⟩
        have c2 : (n / 2147483648 == 1) = false := beq_eq_false_iff_ne.mpr (by
          have h1 := HE.out.1
          have h2 := HNB.out
          rw [← h1, hp] at h2
          omega)
        clear hn hp
        go_wp2_with fail
        go_ret
        exact ⟨congrArg (fun z => Ending.returned (Value.int .i64 z)) HV.out, HE.out.2, HK.out⟩
    | succ k1 =>
      have c1 : decide (x < 32) = true := decide_eq_true (by obtain ⟨j, h1, h2, _⟩ := HJ.out; omega)
      obtain ⟨j, hx, hj, hn, hS⟩ := HJ.out
      have HX := Aside0.mk hx
      have HN := Aside0.mk hn
      have HL := Aside0.mk hj
      have HS1 := Aside0.mk hS
      clear HJ hx hn hj hS
      go_wp2_with fail
      refine (next_ok g d (i + j) _ HS1.out (by have := HI.out; have := HL.out; omega) (by have := HD.out; omega)).mono ?_
      rintro e w2 ⟨rfl, hS2, hK2⟩
      have HS2 := Aside0.mk hS2
      have HK2 := Aside0.mk hK2
      clear HS1 hS2 hK2
      have px : 0 ≤ x := by have := HX.out; omega
      go_wp2_with fail
      obtain ⟨e1, e2⟩ := field_more d i j x n HX.out HN.out (by have := HI.out; have := HL.out; omega) (by have := HL.out; omega)
      have E1 := Aside0.mk e1
      have E2 := Aside0.mk e2
      clear e1 e2
      go_roundg k1
      case measure => omega
      case rel => exact ⟨_, _, congrArg (Value.int .i64) E1.out, congrArg (Value.int .i64) E2.out, ⟨j + 1, rfl, by have := HL.out; omega, rfl, HS2.out⟩, ⟨HK.out.trans HK2.out⟩⟩
set_option maxRecDepth 100000 in
set_option maxHeartbeats 1000000 in
theorem field_early3 (g : Nat) (d : ByteArray) (i : Nat) (w : World) (h : Src w g d (i : Int)) (h0 : i ≤ d.size) (hi : d.size < i + 4) (hd : d.size ≤ 1099511627776) :
    Calls Try.prog 110 #[.pointer (some ⟨g, 0, none⟩), .int .i64 (-32)] w fun e w' => e = .panicked early_ ∧ Kp w w' g := by
  have HS := Aside0.mk h
  have HI := Aside0.mk hi
  have HD := Aside0.mk hd
  have H0 := Aside0.mk h0
  clear h hi hd h0
  go_enter Try.func110, Try.ntmps110
  go_wp2_with fail
  go_loopg [6, 7] (d.size - i) (fun kq v6 v7 w' => ∃ (x n : Int), v7 = .int .i64 x ∧ v6 = .int .i64 n ∧ Aside0 (∃ j : Nat, x = ((8 * j : Nat) : Int) ∧ kq + j = d.size - i ∧ n = num (((bytesOf d).drop i).take j) ∧ Src w' g d ((i + j : Nat) : Int)) ∧ Aside0 (Kp w w' g))
  case atStart => exact ⟨0, 0, rfl, rfl, ⟨0, rfl, rfl, rfl, HS.out⟩, ⟨Kp.refl _ _⟩⟩
  case round =>
    obtain ⟨x, n, rfl, rfl, HJ, HK⟩ := hrel
    have c1 : decide (x < 32) = true := decide_eq_true (by obtain ⟨j, h1, h2, _⟩ := HJ.out; have := HI.out; have := H0.out; omega)
    obtain ⟨j, hx, hj, hn, hS⟩ := HJ.out
    have HX := Aside0.mk hx
    have HN := Aside0.mk hn
    have HL := Aside0.mk hj
    have HS1 := Aside0.mk hS
    clear HJ hx hn hj hS
    cases gk with
    | zero =>
      go_wp2_with fail
      refine (next_early g d _ _ HS1.out (decide_eq_true (by have := HL.out; have := H0.out; omega))).mono ?_
      rintro e w2 ⟨rfl, nd, rfl⟩
      go_wp2_with fail
      exact ⟨rfl, rfl, HK.out.drewN _⟩
    | succ k1 =>
      go_wp2_with fail
      refine (next_ok g d (i + j) _ HS1.out (by have := HI.out; have := HL.out; have := H0.out; omega) (by have := HD.out; omega)).mono ?_
      rintro e w2 ⟨rfl, hS2, hK2⟩
      have HS2 := Aside0.mk hS2
      have HK2 := Aside0.mk hK2
      clear HS1 hS2 hK2
      have px : 0 ≤ x := by have := HX.out; omega
      go_wp2_with fail
      obtain ⟨e1, e2⟩ := field_more d i j x n HX.out HN.out (by have := HI.out; have := HL.out; have := H0.out; omega) (by have := HL.out; have := HI.out; have := H0.out; omega)
      have E1 := Aside0.mk e1
      have E2 := Aside0.mk e2
      clear e1 e2
      go_roundg k1
      case measure => omega
      case rel => exact ⟨_, _, congrArg (Value.int .i64) E1.out, congrArg (Value.int .i64) E2.out, ⟨j + 1, rfl, by have := HL.out; omega, rfl, HS2.out⟩, ⟨HK.out.trans HK2.out⟩⟩
/-- A sensor's widths. -/
def SWidth (w : Int) : Prop := w = 8 ∨ w = 16 ∨ w = -16 ∨ w = -32
theorem field_ok (g : Nat) (d : ByteArray) (i : Nat) (wd : Int) (hw : SWidth wd) (w : World) (h : Src w g d (i : Int)) (hi : i + lenOf wd ≤ d.size) (hd : d.size ≤ 1099511627776) :
    Calls Try.prog 110 #[.pointer (some ⟨g, 0, none⟩), .int .i64 wd] w fun e w' => e = .returned (.int .i64 (val wd (((bytesOf d).drop i).take (lenOf wd)))) ∧ Src w' g d ((i + lenOf wd : Nat) : Int) ∧ Kp w w' g := by
  rcases hw with rfl | rfl | rfl | rfl
  · exact field_ok0 g d i w h hi hd
  · exact field_ok1 g d i w h hi hd
  · exact field_ok2 g d i w h hi hd
  · exact field_ok3 g d i w h hi hd
theorem field_early (g : Nat) (d : ByteArray) (i : Nat) (wd : Int) (hw : SWidth wd) (w : World) (h : Src w g d (i : Int)) (h0 : i ≤ d.size) (hi : d.size < i + lenOf wd) (hd : d.size ≤ 1099511627776) :
    Calls Try.prog 110 #[.pointer (some ⟨g, 0, none⟩), .int .i64 wd] w fun e w' => e = .panicked early_ ∧ Kp w w' g := by
  rcases hw with rfl | rfl | rfl | rfl
  · exact field_early0 g d i w h h0 hi hd
  · exact field_early1 g d i w h h0 hi hd
  · exact field_early2 g d i w h h0 hi hd
  · exact field_early3 g d i w h h0 hi hd
end Go.Proofs.Ytbbinmplkbpcdaa.Ps
