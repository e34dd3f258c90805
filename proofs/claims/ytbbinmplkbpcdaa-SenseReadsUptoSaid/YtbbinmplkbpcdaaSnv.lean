import Derived.Test.YtbbinmplkbpcdaaSnu
import Derived.BigQuiet
/-! Lists that lie apart: the walk of the test. -/
set_option linter.unusedVariables false
set_option linter.constructorNameAsVariable false
namespace Go.Proofs.Ytbbinmplkbpcdaa.Ps
open Go.RowKit Go.Proofs.Ytbbinmplkbpcdaa.Wd Go.Proofs.YtbbinmplkbpcdaaW.PrintWords Go.Proofs.YtbbinmplkbpcdaaW.PrintLast Go.Proofs.YtbbinmplkbpcdaaW.PrintMore
theorem info36 : (Try.prog.info? 36).map (fun i => (i.zero, i.size, i.bytes)) = some (some (.slice none 0 0), 1, 24) := by kernel_rfl
/-- What stands at a place that is filled. -/
def fillV (i k : Int) : Int := wrap64 (wrap64 (i * 1000003) + k)
/-- What is put behind. -/
def tailV (i k : Int) : Int := wrap64 (wrap64 (wrap64 (wrap64 (-i) * 1000003) - k) - 1)
/-- The places before these two are filled. -/
def Filled (n : Nat) (X : Nat → List Int) (i k : Int) : Prop := ∀ (j : Nat) (q : Nat) (h : q < (X j).length), j < n → ((j : Int) < i ∨ ((j : Int) = i ∧ (q : Int) < k)) → (X j)[q] = fillV j q
theorem Filled.next {n : Nat} {X : Nat → List Int} {i k : Int} (h : Filled n X i k) (hi : 0 ≤ i) (hk : 0 ≤ k) (hkl : k < ((X i.toNat).length : Int)) : Filled n (fun j => if j = i.toNat then (X i.toNat).set k.toNat (fillV i k) else X j) i (k + 1) := by
  intro j q hq hj hor
  by_cases hji : j = i.toNat
  · subst hji
    simp only [if_true] at hq ⊢
    rw [List.length_set] at hq
    rw [List.getElem_set]
    by_cases hqk : k.toNat = q
    · rw [if_pos hqk]
      congr 1 <;> omega
    · rw [if_neg hqk]
      exact h _ q hq hj (by omega)
  · simp only [if_neg hji] at hq ⊢
    exact h j q hq hj (by omega)
theorem Filled.up {n : Nat} {X : Nat → List Int} {i k : Int} (h : Filled n X i k) (hi : 0 ≤ i) (hkl : ((X i.toNat).length : Int) ≤ k) : Filled n X (i + 1) 0 := by
  intro j q hq hj hor
  by_cases hji : (j : Int) = i
  · have : j = i.toNat := by omega
    subst this
    exact h _ q hq hj (.inr ⟨hji, by omega⟩)
  · exact h j q hq hj (by omega)
/-- What has been put behind. -/
def tailL (j c : Nat) : List Int := (List.range c).map fun q : Nat => tailV j q
def Grown (n : Nat) (X Y : Nat → List Int) (i k : Nat) : Prop := ∀ j, j < n → Y j = X j ++ tailL j (if j < i then 16 else if j = i then k else 0)
theorem Grown.start {n : Nat} {X : Nat → List Int} : Grown n X X 0 0 := by
  intro j hj
  rw [if_neg (by omega)]
  by_cases h : j = 0
  · rw [if_pos h]; simp [tailL]
  · rw [if_neg h]; simp [tailL]
theorem Grown.next {n : Nat} {X Y : Nat → List Int} {i k : Nat} (h : Grown n X Y i k) (hi : i < n) : Grown n X (fun j => if j = i then Y i ++ [tailV i k] else Y j) i (k + 1) := by
  intro j hj
  have h1 := h j hj
  by_cases hji : j = i
  · subst hji
    rw [if_neg (by omega), if_pos rfl] at h1
    simp only [if_true]
    rw [if_neg (by omega), h1, List.append_assoc]
    congr 1
    unfold tailL
    rw [List.range_succ, List.map_append]
    rfl
  · simp only [if_neg hji]
    rw [if_neg hji] at h1
    exact h1
theorem Grown.up {n : Nat} {X Y : Nat → List Int} {i : Nat} (h : Grown n X Y i 16) : Grown n X Y (i + 1) 0 := by
  intro j hj
  have h1 := h j hj
  by_cases hji : j = i
  · rw [if_neg (by omega), if_pos hji] at h1
    rw [if_pos (by omega)]
    exact h1
  · by_cases hlt : j < i
    · rw [if_pos hlt] at h1
      rw [if_pos (by omega)]
      exact h1
    · rw [if_neg hlt, if_neg hji] at h1
      rw [if_neg (by omega)]
      split
      · exact h1
      · exact h1
theorem tailL_len (j c : Nat) : (tailL j c).length = c := by simp [tailL]
theorem grown_get {n : Nat} {X Y : Nat → List Int} (h : ∀ j, j < n → Y j = X j ++ tailL j 16) {j : Nat} (hj : j < n) {q : Nat} (hq : q < (Y j).length) : (Y j)[q] = if h : q < (X j).length then (X j)[q] else tailV j ((q - (X j).length : Nat) : Int) := by
  have e := h j hj
  have e2 : (Y j)[q] = (X j ++ tailL j 16)[q]'(by rw [← e]; exact hq) := by simp only [e]
  rw [e2, List.getElem_append]
  split
  · rfl
  · unfold tailL
    rw [List.getElem_map, List.getElem_range]
set_option maxRecDepth 100000 in
set_option maxHeartbeats 8000000 in
theorem apart_walk (n gl cl : Nat) (A : List Sl) (X : Nat → List Int) (w0 w : World) (hn : n ≤ 1000) (hx : ∀ j, j < n → (X j).length ≤ 1000000) (hla : A.length = n) (hls : kS.R 36 w w0.heap.size TT (.slice (some ⟨gl, 0, none⟩) n cl) A)
    (hra : ∀ j, j < n → (Kd.int .i64).R 3 w w0.heap.size TT (encS (at_ A j)) (X j)) (hdaa : ∀ i j g, i < n → j < n → (at_ A i).1 = some g → (at_ A j).1 = some g → i = j) (hb : Below w0.heap.size w0 w) :
    Calls Try.prog 57 #[.slice (some ⟨gl, 0, none⟩) n cl] w fun e w' => e = .returned (.bool true) ∧ Below w0.heap.size w0 w' := by
  have hu27 := Try.underlying27
  have hu36 := Try.underlying36
  have HN := Aside0.mk hn
  have HXX := Aside0.mk hx
  have HLA := Aside0.mk hla
  have HLS := Aside0.mk hls
  have HRA := Aside0.mk hra
  have HDA := Aside0.mk hdaa
  have HB := Aside0.mk hb
  clear hn hx hla hls hra hdaa hb
  have hsz : w0.heap.size ≤ w.heap.size := HB.out.size
  have hnl : (n : Int).toNat * 24 ≤ 281474976710656 := by have := HN.out; omega
  go_enter Try.func57, Try.ntmps57
  go_wp2_with (first | ((with_reducible refine gate_dst (N := 13) rfl ?_); refine Kd.R_make kS w0.heap.size 36 rfl (N := 13) rfl 27 _ _ rfl (n : Int) rfl rfl Try.underlying27 (.slice none 0 0) 24 info36 rfl (by decide) (by omega) (none, 0, 0) (ok := fun _ => True) (okp := fun _ => True) rfl (fun _ hk => hk) trivial (by omega) (by omega) HB.out (by omega) ?_; intro v1 w1 ho1 hb1 hg1 hnew1))
  rw [Int.toNat_natCast] at ho1
  obtain ⟨gL, cL, rfl, hA1⟩ := Ap1.start HLA.out HLS.out HRA.out HDA.out ho1 hg1 hnew1
  have HB1 := Aside0.mk hb1
  have HA1 := Aside0.mk hA1
  clear ho1 hg1 hnew1 hb1 hA1 hnl HB HLS HRA HDA hsz
  go_loopg [4] n (fun kq v4 w' => ∃ (x : Int), v4 = .int .i64 x ∧ Aside0 (0 ≤ x ∧ (kq : Int) + x = n) ∧ Aside0 (∃ B X', Ap1 w0.heap.size w' gl cl gL cL n A B X' x.toNat ∧ Filled n X' x 0 ∧ ∀ j, (X' j).length = (X j).length) ∧ Aside0 (Below w0.heap.size w0 w'))
  case atStart => exact ⟨0, rfl, ⟨Int.le_refl _, Int.add_zero _⟩, ⟨_, X, HA1.out, fun j q h hj hor => absurd hor (by omega), fun j => rfl⟩, HB1⟩
  case round =>
    clear HA1 HB1
    obtain ⟨x, rfl, HX, HA, HB⟩ := hrel
    cases gk with
    | zero =>
      have c1 : decide (x < (n : Int)) = false := decide_eq_false (by have := HX.out; omega)
      obtain ⟨B, X1, hA, hF, hL⟩ := HA.out
      have hxn : x.toNat = n := by have := HX.out; omega
      rw [hxn] at hA
      have HA2 := Aside0.mk hA.to2
      have HF := Aside0.mk (show ∀ (j q : Nat) (h : q < (X1 j).length), j < n → (X1 j)[q] = fillV j q from fun j q h hj => hF j q h hj (.inl (by have := HX.out; omega)))
      have HL : Aside0 (∀ j, j < n → (X1 j).length ≤ 1000000) := ⟨fun j hj => by rw [hL]; exact HXX.out j hj⟩
      clear hA hF hL HA hxn
      go_wp2_with fail
      go_loopg [6] n (fun kq v6 w' => ∃ (x : Int), v6 = .int .i64 x ∧ Aside0 (0 ≤ x ∧ (kq : Int) + x = n) ∧ Aside0 (∃ B Y, Ap2 w0.heap.size w' gl cl gL cL n A B X1 Y ∧ Grown n X1 Y x.toNat 0) ∧ Aside0 (Below w0.heap.size w0 w'))
      case atStart => exact ⟨0, rfl, ⟨Int.le_refl _, Int.add_zero _⟩, ⟨_, _, HA2.out, Grown.start⟩, HB⟩
      case round =>
        clear HA2 HB HX c1
        obtain ⟨x, rfl, HX, HA, HB⟩ := hrel
        cases gk with
        | zero =>
          have c1 : decide (x < (n : Int)) = false := decide_eq_false (by have := HX.out; omega)
          obtain ⟨B, Y, hA, hG⟩ := HA.out
          have hY : ∀ j, j < n → Y j = X1 j ++ tailL j 16 := fun j hj => by
            have h := hG j hj
            rw [if_pos (by have := HX.out; omega)] at h
            exact h
          have HY := Aside0.mk hY
          have HA3 := Aside0.mk hA
          have HB3 := Aside0.mk HB.out
          clear hA hG hY HA HB
          go_wp2_with fail
          generalize wr = W3 at HA3 HB3 ⊢
          go_loopg [8] n (fun kq v8 w' => ∃ (x : Int), v8 = .int .i64 x ∧ Aside0 (0 ≤ x ∧ (kq : Int) + x = n) ∧ Aside0 (∃ nd, w' = W3.drewN nd))
          case atStart => exact ⟨0, rfl, ⟨Int.le_refl _, Int.add_zero _⟩, ⟨0, rfl⟩⟩
          case round =>
            clear HX c1
            obtain ⟨x, rfl, HX, HWD⟩ := hrel
            obtain ⟨nd, hwd⟩ := HWD.out
            subst hwd
            clear HWD
            cases gk with
            | zero =>
              have c1 : decide (x < (n : Int)) = false := decide_eq_false (by have := HX.out; omega)
              go_wp2
              go_ret
              exact ⟨rfl, pw_below_drewN HB3.out nd⟩
            | succ k1 =>
              have c1 : decide (x < (n : Int)) = true := decide_eq_true (by have := HX.out; omega)
              have p1 : (0 ≤ x) = True := eq_true HX.out.1
              have p2 : (x < (n : Int)) = True := eq_true (of_decide_eq_true c1)
              have E1 : Aside0 (wrap64 (x + 1) = x + 1) := ⟨by have := HX.out; have := HN.out; exact w64 (by omega) (by omega)⟩
              have HXI : Aside0 (x.toNat < n) := ⟨by have := HX.out; omega⟩
              obtain ⟨hc0, -⟩ := row_cell HA3.out.ls x HX.out.1 (of_decide_eq_true c1)
              obtain ⟨hc1, -⟩ := row_cell HA3.out.long x HX.out.1 (of_decide_eq_true c1)
              have hYx := HY.out x.toNat HXI.out
              have hpos : 0 < (Y x.toNat).length := by rw [hYx, List.length_append, tailL_len]; omega
              have hrb := HA3.out.rb x.toNat HXI.out
              obtain ⟨gB, cB, heB, -⟩ := rows_form hrb hpos
              have hrl := HA3.out.rl x.toNat HXI.out
              rw [heB] at hc1 hrb
              have hrb : (Kd.int .i64).R 3 W3 w0.heap.size TT (.slice (some ⟨gB, 0, none⟩) (Y x.toNat).length cB) (Y x.toNat) := hrb
              obtain ⟨⟨o, m, c⟩, he⟩ : ∃ p, at_ A x.toNat = p := ⟨_, rfl⟩
              rw [he] at hc0 hrl
              obtain ⟨mB, hmB⟩ : ∃ mB, (Y x.toNat).length = mB := ⟨_, rfl⟩
              have hmm : mB = m + 16 := by
                have h := congrArg List.length hYx
                rw [hmB, List.length_append, tailL_len] at h
                have : m = (X1 x.toNat).length := hrl
                omega
              rw [hmB] at hc1
              have HM : Aside0 (m = (X1 x.toNat).length ∧ m ≤ 1000000 ∧ mB = m + 16) := ⟨hrl, by have := HL.out x.toNat HXI.out; have : m = (X1 x.toNat).length := hrl; omega, hmm⟩
              have HMB := Aside0.mk hmB
              have HRB := Aside0.mk hrb
              have HE := Aside0.mk he
              clear hYx hpos hrb heB hrl he hmm hmB
              go_wp2_with fail
              go_loopg [9] m (fun kq v9 w' => ∃ (y : Int), v9 = .int .i64 y ∧ Aside0 (0 ≤ y ∧ (kq : Int) + y = m) ∧ Aside0 (∃ nd, w' = W3.drewN nd))
              case atStart => exact ⟨0, rfl, ⟨Int.le_refl _, Int.add_zero _⟩, ⟨nd, rfl⟩⟩
              case round =>
                clear nd
                obtain ⟨y, rfl, HYY, HWD⟩ := hrel
                obtain ⟨nd, hwd⟩ := HWD.out
                subst hwd
                clear HWD
                cases gk with
                | zero =>
                  have c2 : decide (y < (m : Int)) = false := decide_eq_false (by have := HYY.out; omega)
                  go_wp2_with fail
                  go_loopg [10] 16 (fun kq v10 w' => ∃ (z : Int), v10 = .int .i64 z ∧ Aside0 (0 ≤ z ∧ (kq : Int) + z = 16) ∧ Aside0 (∃ nd, w' = W3.drewN nd))
                  case atStart => exact ⟨0, rfl, ⟨Int.le_refl _, by omega⟩, ⟨nd, rfl⟩⟩
                  case round =>
                    clear nd
                    obtain ⟨z, rfl, HZ, HWD⟩ := hrel
                    obtain ⟨nd, hwd⟩ := HWD.out
                    subst hwd
                    clear HWD
                    cases gk with
                    | zero =>
                      have c3 : decide (z < 16) = false := decide_eq_false (by have := HZ.out; omega)
                      go_wp2_with fail
                      go_roundg k1
                      case measure => omega
                      case rel => exact ⟨_, congrArg (Value.int .i64) E1.out, ⟨by have := HX.out; omega, by have := HX.out; omega⟩, ⟨nd, rfl⟩⟩
                    | succ k3 =>
                      have c3 : decide (z < 16) = true := decide_eq_true (by have := HZ.out; omega)
                      have E3 : Aside0 (wrap64 (z + 1) = z + 1) := ⟨by have := HZ.out; exact w64 (by omega) (by omega)⟩
                      obtain ⟨t, ht⟩ : ∃ t : Int, (m : Int) + z = t := ⟨_, rfl⟩
                      have HT := Aside0.mk ht
                      have r1 : (0 ≤ t) = True := eq_true (by have := HT.out; have := HZ.out; omega)
                      have r2 : (t < (mB : Int)) = True := eq_true (by have := HT.out; have := HZ.out; have := HM.out; omega)
                      have hct : W3.cell? ⟨gB, t.toNat, none⟩ = some (.int .i64 (wrap64 (wrap64 (wrap64 (wrap64 (-x) * 1000003) - z) - 1))) := by
                        have h1 := (Kd.R_cell (0 : Int) HRB.out t (by rw [r1]; trivial) (by rw [HMB.out, r2]; trivial)).1
                        rw [h1]
                        congr 2
                        unfold rdOf
                        have hlt : t.toNat < (Y x.toNat).length := by rw [HMB.out]; have := HT.out; have := HZ.out; have := HM.out; omega
                        rw [List.getD_eq_getElem?_getD, List.getElem?_eq_getElem hlt]
                        show (Y x.toNat)[t.toNat] = _
                        rw [grown_get HY.out HXI.out hlt, dif_neg (by have := HT.out; have := HZ.out; have := HM.out; omega)]
                        show tailV _ _ = tailV x z
                        congr 1
                        · have := HX.out; omega
                        · have := HT.out; have := HZ.out; have := HM.out; omega
                      have E4 : wrap64 ((m : Int) + z) = t := by
                        have := HT.out
                        rw [this]
                        exact w64 (by have := HZ.out; omega) (by have := HZ.out; have := HM.out; omega)
                      clear ht
                      go_wp2_with fail
                      go_quiet (fail)
                      go_wp2_with fail
                      go_roundg k3
                      case measure => omega
                      case rel => exact ⟨_, congrArg (Value.int .i64) E3.out, ⟨by have := HZ.out; omega, by have := HZ.out; omega⟩, ⟨_, rfl⟩⟩
                | succ k2 =>
                  have c2 : decide (y < (m : Int)) = true := decide_eq_true (by have := HYY.out; omega)
                  have q1 : (0 ≤ y) = True := eq_true HYY.out.1
                  have q2 : (y < (m : Int)) = True := eq_true (of_decide_eq_true c2)
                  have q3 : (y < (mB : Int)) = True := eq_true (by have := HYY.out; have := HM.out; omega)
                  have E2 : Aside0 (wrap64 (y + 1) = y + 1) := ⟨by have := HYY.out; have := HM.out; exact w64 (by omega) (by omega)⟩
                  have hlt : y.toNat < (X1 x.toNat).length := by have := HYY.out; have := HM.out; omega
                  have hfx : (X1 x.toNat)[y.toNat] = fillV x y := by
                    rw [HF.out _ _ hlt HXI.out]
                    congr 1
                    · have := HX.out; omega
                    · have := HYY.out; omega
                  obtain ⟨gA, hgA⟩ := HA3.out.rp x.toNat HXI.out (by omega)
                  have hca := HA3.out.rx x.toNat gA HXI.out hgA y.toNat hlt
                  rw [hfx] at hca
                  rw [HE.out] at hgA
                  replace hgA : o = some gA := hgA
                  subst hgA
                  replace hca : W3.cell? ⟨gA, y.toNat, none⟩ = some (.int .i64 (wrap64 (wrap64 (x * 1000003) + y))) := hca
                  have hcb : W3.cell? ⟨gB, y.toNat, none⟩ = some (.int .i64 (wrap64 (wrap64 (x * 1000003) + y))) := by
                    have hlt2 : y.toNat < (Y x.toNat).length := by rw [HMB.out]; have := HYY.out; have := HM.out; omega
                    have h1 := (Kd.R_cell (0 : Int) HRB.out y (by rw [q1]; trivial) (by omega)).1
                    rw [h1]
                    congr 2
                    unfold rdOf
                    rw [List.getD_eq_getElem?_getD, List.getElem?_eq_getElem hlt2]
                    show (Y x.toNat)[y.toNat] = _
                    rw [grown_get HY.out HXI.out hlt2, dif_pos hlt, hfx]
                    rfl
                  clear hlt hfx
                  go_wp2_with fail
                  go_roundg k2
                  case measure => omega
                  case rel => exact ⟨_, congrArg (Value.int .i64) E2.out, ⟨by have := HYY.out; omega, by have := HYY.out; omega⟩, ⟨nd, rfl⟩⟩
        | succ k1 =>
          have c1 : decide (x < (n : Int)) = true := decide_eq_true (by have := HX.out; omega)
          have p1 : (0 ≤ x) = True := eq_true HX.out.1
          have p2 : (x < (n : Int)) = True := eq_true (of_decide_eq_true c1)
          have E1 : Aside0 (wrap64 (x + 1) = x + 1) := ⟨by have := HX.out; have := HN.out; exact w64 (by omega) (by omega)⟩
          have HXI : Aside0 (x.toNat < n) := ⟨by have := HX.out; omega⟩
          go_wp2_with fail
          go_loopg [7] 16 (fun kq v7 w' => ∃ (y : Int), v7 = .int .i64 y ∧ Aside0 (0 ≤ y ∧ (kq : Int) + y = 16) ∧ Aside0 (∃ B Y, Ap2 w0.heap.size w' gl cl gL cL n A B X1 Y ∧ Grown n X1 Y x.toNat y.toNat) ∧ Aside0 (Below w0.heap.size w0 w'))
          case atStart => exact ⟨0, rfl, ⟨Int.le_refl _, by omega⟩, HA, HB⟩
          case round =>
            clear HA HB
            obtain ⟨y, rfl, HY, HA, HB⟩ := hrel
            cases gk with
            | zero =>
              have c2 : decide (y < 16) = false := decide_eq_false (by have := HY.out; omega)
              go_wp2_with fail
              go_roundg k1
              case measure => omega
              case rel => exact ⟨_, congrArg (Value.int .i64) E1.out, ⟨by have := HX.out; omega, by have := HX.out; omega⟩, ⟨by
                obtain ⟨B, Y, h1, h2⟩ := HA.out
                rw [show y.toNat = 16 by have := HY.out; omega] at h2
                rw [show (x + 1).toNat = x.toNat + 1 by have := HX.out; omega]
                exact ⟨B, Y, h1, h2.up⟩⟩, HB⟩
            | succ k2 =>
              have c2 : decide (y < 16) = true := decide_eq_true (by have := HY.out; omega)
              have E2 : Aside0 (wrap64 (y + 1) = y + 1) := ⟨by have := HY.out; exact w64 (by omega) (by omega)⟩
              obtain ⟨B, Y, hA, hG⟩ := HA.out
              obtain ⟨hc0, -⟩ := row_cell hA.long x HX.out.1 (of_decide_eq_true c1)
              obtain ⟨⟨o, m, c⟩, he⟩ : ∃ p, at_ B x.toNat = p := ⟨_, rfl⟩
              have hrb := hA.rb x.toNat HXI.out
              rw [he] at hrb hc0
              have HRB := Aside0.mk hrb
              have HA3 := Aside0.mk hA
              have HG := Aside0.mk hG
              have HE := Aside0.mk he
              have HYL : Aside0 ((Y x.toNat).length ≤ 1099511627776) := ⟨by
                rw [hG x.toNat HXI.out, List.length_append, tailL_len]
                have := HL.out x.toNat HXI.out
                have := HY.out
                split
                · omega
                · split
                  · omega
                  · omega⟩
              clear hrb hA hG HA he
              go_wp2_with (first | ((with_reducible refine gate_builtin (b := .append) (xs := #[.tmp 61, .tmp 68]) rfl ?_); at_builtin; refine append_num (w0 := w0) w0.heap.size rfl (.tmp 61) (.tmp 68) 36 rfl Try.underlying36 info3 _ (Y x.toNat) (tailV x y) rfl rfl HRB.out HB.out HB.out.size HYL.out ?_; intro v1 w2 hr2 hb2 hg2 hat2; obtain ⟨⟨o2, m2, d2⟩, hv1, ⟨u2, hu2⟩, hfr2, hgb2, hnx2⟩ := Ap2.app HA3.out HXI.out hr2 (by rw [HE.out]; exact hg2) (by rw [HE.out]; exact hat2); replace hv1 : v1 = .slice (o2.map fun g => ⟨g, 0, none⟩) m2 d2 := hv1; subst hv1; have HNX := Aside0.mk hnx2; have HB2 := Aside0.mk hb2; have HGB := Aside0.mk hgb2; clear hr2 hb2 hg2 hat2 hgb2 hnx2))
              go_roundg k2
              case measure => omega
              case rel => exact ⟨_, congrArg (Value.int .i64) E2.out, ⟨by have := HY.out; omega, by have := HY.out; omega⟩, ⟨_, _, HNX.out, by
                have h := HG.out.next HXI.out
                rw [show (y + 1).toNat = y.toNat + 1 by have := HY.out; omega]
                rw [show ((x.toNat : Nat) : Int) = x by have := HX.out; omega, show ((y.toNat : Nat) : Int) = y by have := HY.out; omega] at h
                exact h⟩, ⟨HB2.out.setCell HGB.out _⟩⟩
    | succ k1 =>
      have c1 : decide (x < (n : Int)) = true := decide_eq_true (by have := HX.out; omega)
      have p1 : (0 ≤ x) = True := eq_true HX.out.1
      have p2 : (x < (n : Int)) = True := eq_true (of_decide_eq_true c1)
      have E1 : Aside0 (wrap64 (x + 1) = x + 1) := ⟨by have := HX.out; have := HN.out; exact w64 (by omega) (by omega)⟩
      obtain ⟨B, X1, hA, hF, hL⟩ := HA.out
      have HXI : Aside0 (x.toNat < n) := ⟨by have := HX.out; omega⟩
      have HM := Aside0.mk (rows_len (hA.ra x.toNat HXI.out))
      have HM2 : Aside0 ((X1 x.toNat).length ≤ 1000000) := ⟨by rw [hL]; exact HXX.out _ HXI.out⟩
      have HL := Aside0.mk hL
      have HST := Aside0.mk (show ∃ X', Ap1 w0.heap.size wr gl cl gL cL n A B X' x.toNat ∧ Filled n X' x 0 ∧ ∀ j, (X' j).length = (X j).length from ⟨X1, hA, hF, hL⟩)
      obtain ⟨m, hm⟩ : ∃ m : Nat, (X x.toNat).length = m := ⟨_, rfl⟩
      rw [hL, hm] at HM HM2
      have HMM := Aside0.mk hm
      clear hA hF hL HA hm
      go_wp2_with fail
      go_loopg [5] m (fun kq v5 w' => ∃ (y : Int), v5 = .int .i64 y ∧ Aside0 (0 ≤ y ∧ (kq : Int) + y = m) ∧ Aside0 (∃ X', Ap1 w0.heap.size w' gl cl gL cL n A B X' x.toNat ∧ Filled n X' x y ∧ ∀ j, (X' j).length = (X j).length) ∧ Aside0 (Below w0.heap.size w0 w'))
      case atStart => exact ⟨0, rfl, ⟨Int.le_refl _, Int.add_zero _⟩, HST, HB⟩
      case round =>
        clear HST HB
        obtain ⟨y, rfl, HY, HA, HB⟩ := hrel
        obtain ⟨X2, hA, hF, hL⟩ := HA.out
        obtain ⟨hc0, -⟩ := row_cell hA.ls x HX.out.1 (of_decide_eq_true c1)
        cases gk with
        | zero =>
          have c2 : decide (y < (m : Int)) = false := decide_eq_false (by have := HY.out; omega)
          obtain ⟨⟨u, hp1⟩, hp2, hp3, hp4⟩ := hA.put HXI.out
          have HP := Aside0.mk hp4
          have HP3 := Aside0.mk hp3
          have HF2 := Aside0.mk (hF.up HX.out.1 (by rw [hL, HMM.out]; have := HY.out; omega))
          have HL2 := Aside0.mk hL
          obtain ⟨⟨o, m', c⟩, he⟩ : ∃ p, at_ A x.toNat = p := ⟨_, rfl⟩
          have hm' : m' = m := by have := HM.out; rw [he] at this; exact this
          subst hm'
          have HP4 : Aside0 (Ap1 w0.heap.size (wr.setCell ⟨gL, x.toNat, none⟩ (.slice (o.map fun g => ⟨g, 0, none⟩) m' c)) gl cl gL cL n A (B.set x.toNat (o, m', c)) X2 (x.toNat + 1)) := ⟨by have := HP.out; rw [he] at this; exact this⟩
          rw [he] at hc0
          clear hA hF hL hp4 hp3 HP
          go_wp2_with fail
          go_roundg k1
          case measure => omega
          case rel => exact ⟨_, congrArg (Value.int .i64) E1.out, ⟨by have := HX.out; omega, by have := HX.out; omega⟩, ⟨_, X2, by rw [show (x + 1).toNat = x.toNat + 1 by have := HX.out; omega]; exact HP4.out, HF2.out, HL2.out⟩, ⟨HB.out.setCell HP3.out _⟩⟩
        | succ k2 =>
          have c2 : decide (y < (m : Int)) = true := decide_eq_true (by have := HY.out; omega)
          have q1 : (0 ≤ y) = True := eq_true HY.out.1
          have q2 : (y < (m : Int)) = True := eq_true (of_decide_eq_true c2)
          have E2 : Aside0 (wrap64 (y + 1) = y + 1) := ⟨by have := HY.out; have := HM2.out; exact w64 (by omega) (by omega)⟩
          have hlen : (X2 x.toNat).length = m := by rw [hL, HMM.out]
          obtain ⟨g, c, he, hgb, ⟨u, hu⟩, hfr, hset⟩ := hA.set HXI.out HY.out.1 (by rw [hlen]; have := HY.out; omega)
          rw [hlen] at he
          rw [he] at hc0
          have HSET := Aside0.mk (hset (fillV x y))
          have HGB := Aside0.mk hgb
          have HF2 := Aside0.mk (hF.next HX.out.1 HY.out.1 (by rw [hlen]; have := HY.out; omega))
          have HL2 := Aside0.mk hL
          clear hA hF hL hset hgb hlen
          go_wp2_with fail
          go_roundg k2
          case measure => omega
          case rel => exact ⟨_, congrArg (Value.int .i64) E2.out, ⟨by have := HY.out; omega, by have := HY.out; omega⟩, ⟨_, HSET.out, HF2.out, fun j => by
            by_cases hji : j = x.toNat
            · rw [if_pos hji, List.length_set, HL2.out, hji]
            · rw [if_neg hji]; exact HL2.out j⟩, ⟨HB.out.setCell HGB.out _⟩⟩
end Go.Proofs.Ytbbinmplkbpcdaa.Ps
