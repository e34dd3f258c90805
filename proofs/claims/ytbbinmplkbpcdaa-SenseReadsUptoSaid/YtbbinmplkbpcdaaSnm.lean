import Derived.Test.YtbbinmplkbpcdaaSnl
/-! SenseOthers. -/
set_option linter.unusedVariables false
set_option linter.constructorNameAsVariable false
namespace Go.Proofs.Ytbbinmplkbpcdaa.Ps
open Go.RowKit Go.Proofs.Ytbbinmplkbpcdaa.Wd Go.Proofs.YtbbinmplkbpcdaaW.PrintWords Go.Proofs.YtbbinmplkbpcdaaW.PrintLast Go.Proofs.YtbbinmplkbpcdaaW.PrintMore
open Go.Proofs.Ytbbinmplkbpcdaa.Fs (ls ls_len ls_inj ls_tail ls_extract sum_lt)
/-- Write's answer: a frame, or nothing and an error. -/
theorem wrR_cases (s : Int) (l : List Int) : (wsOf s ≠ [] ∧ AllIn (wsOf s) l ∧ wrR s l = (wrS s l, 0)) ∨ ∃ e, e ≠ 0 ∧ wrR s l = (⟨#[]⟩, e) := by
  unfold wrR
  by_cases c1 : wsOf s = []
  · rw [if_pos c1]; exact .inr ⟨6, by decide, rfl⟩
  · rw [if_neg c1]
    by_cases c2 : (wsOf s).length ≠ l.length
    · rw [if_pos c2]; exact .inr ⟨50, by decide, rfl⟩
    · rw [if_neg c2]
      by_cases c3 : AllIn (wsOf s) l
      · rw [if_pos c3]; exact .inl ⟨c1, c3, rfl⟩
      · rw [if_neg c3]; exact .inr ⟨5, by decide, rfl⟩
theorem body_bytes {s : Int} (h0 : 0 ≤ s) (h1 : s ≤ 255) (l : List Int) : Bytes (body s l) := by
  intro b hb
  rcases List.mem_cons.1 hb with rfl | hb
  · omega
  · exact enc_range b hb
theorem check_bytes (c : Nat) : Bytes [(c : Int) % 256, (c : Int) / 256 % 256] := by
  intro b hb
  simp only [List.mem_cons, List.not_mem_nil, or_false] at hb
  rcases hb with rfl | rfl <;> omega
theorem wrS_bytes {s : Int} (h0 : 0 ≤ s) (h1 : s ≤ 255) (l : List Int) : bytesOf (wrS s l) = 165 :: (body s l ++ [((sumOf s l : Nat) : Int) % 256, ((sumOf s l : Nat) : Int) / 256 % 256]) := by
  unfold wrS
  rw [bytesOf_append, bytesOf_append, of_strOfNums _ (body_bytes h0 h1 l), of_strOfNums _ (check_bytes _), List.append_assoc]
  rfl
theorem wrS_size {s : Int} (h0 : 0 ≤ s) (h1 : s ≤ 255) {l : List Int} (hin : AllIn (wsOf s) l) : (wrS s l).size = 4 + sumW (wsOf s) := by
  rw [← bytesOf_length, wrS_bytes h0 h1]
  unfold body
  simp only [List.length_cons, List.length_append, enc_length hin.length, List.length_nil]
  omega
/-- Behind A5: too few bytes say no frame. -/
theorem Reads.short {s : Int} {ws : List Int} {t : List UInt8} {l : List Int} {n : Nat} (h : Reads s ws t l n) (hl : t.length < 4 + sumW ws) : l = [] := by
  induction h with
  | nil => rfl
  | skip _ _ ih => exact ih (by simp only [List.length_cons] at hl; omega)
  | bad _ _ ih => exact ih (by simp only [List.length_cons] at hl; omega)
  | good hg _ _ _ =>
    have := hg.1
    rw [str_size] at this
    simp only [List.length_cons] at hl
    omega
theorem Reads.none {s : Int} {ws : List Int} {t : List UInt8} {l : List Int} {n : Nat} (h : Reads s ws t l n) (hb : ∀ b ∈ t, b ≠ 165) : l = [] := by
  have := Reads.skips (s := s) (ws := ws) (t := []) hb .nil
  rw [List.append_nil] at this
  exact (h.det this).1
/-- Another sensor reads nothing of it, where no other A5 stands in it. -/
theorem others_said {s t : Int} (h0 : 0 ≤ s) (h1 : s ≤ 255) (hst : s ≠ t) {l : List Int} (hclean : ∀ i, 1 ≤ i → i < (wrS s l).size → bt (wrS s l) (i : Int) ≠ 165) {L : List Int} {N : Nat} (hS : Said t (wrS s l) L N) : L = [] := by
  by_cases hw : wsOf t = []
  · exact (hS.2 hw).1
  · have hR := hS.1 hw
    have hb := wrS_bytes h0 h1 l
    rw [bytesOf_ls] at hb
    cases hls : ls (wrS s l) with
    | nil => rw [hls] at hb; simp [nums8] at hb
    | cons b u =>
      rw [hls] at hb hR
      have hb0 : b = 165 := by
        injection hb with e _
        have e : (b.toNat : Int) = 165 := e
        apply UInt8.toNat_inj.1
        show _ = 165
        omega
      subst hb0
      have hu : nums8 u = body s l ++ [((sumOf s l : Nat) : Int) % 256, ((sumOf s l : Nat) : Int) / 256 % 256] := by
        injection hb
      have hsz : u.length + 1 = (wrS s l).size := by rw [← ls_len, hls]; rfl
      have hcl : ∀ b ∈ u, b ≠ 165 := by
        intro b hb e
        obtain ⟨i, hi, rfl⟩ := List.mem_iff_getElem.1 hb
        have hil : i + 1 < (ls (wrS s l)).length := by rw [hls, List.length_cons]; omega
        refine hclean (i + 1) (by omega) (by omega) ?_
        rw [Fs.bt_eq _ _ hil]
        simp only [hls, List.getElem_cons_succ, e]
        rfl
      cases hR with
      | skip hb _ => exact absurd rfl hb
      | bad _ h => exact h.none hcl
      | good hg _ _ =>
        exfalso
        have h2 := hg.2.1
        obtain ⟨k, e⟩ := bt_at_ (str u) 0 (by have := hg.1; omega)
        rw [show (0 : Int) = ((0 : Nat) : Int) from rfl, e] at h2
        simp only [bytesOf_str, hu] at h2
        exact hst h2
set_option maxRecDepth 100000 in
set_option maxHeartbeats 4000000 in
theorem others_walk (s t : Int) (h0 : 0 ≤ s) (h1 : s ≤ 255) (A : Option Addr) (c : Nat) (l : List Int) (w : World) (hr : Kd.C (Kd.int .i64) w A l.length l) (hc : l.length ≤ c) (hl : l.length ≤ 1099511627776) :
    Calls Try.prog 20 #[.int .u8 s, .int .u8 t, .slice A l.length c] w fun e w' => e = .returned (.bool true) ∧ Below w.heap.size w w' := by
  have hu9 := Try.underlying9
  have hu70 := Try.underlying70
  have hu5 := Try.underlying5
  have HR := Aside0.mk hr
  have HC := Aside0.mk hc
  have HL := Aside0.mk hl
  have HS0 := Aside0.mk h0
  have HS1 := Aside0.mk h1
  clear hr hc hl h0 h1
  go_enter Try.func20, Try.ntmps20
  go_wp2_with fail
  refine (lent A c l _ HR.out HC.out HL.out).mono ?_
  rintro e w1 ⟨A1, c1, rfl, hc1, hA, -, hb1⟩
  have HB1 := Aside0.mk hb1
  have HA := Aside0.mk hA
  have HC1 := Aside0.mk hc1
  clear hb1 hA hc1 HR
  go_wp2_with fail
  refine (write_calls s A1 c1 l _ HA.out (by have := HC1.out; omega)).mono ?_
  rintro e w2 ⟨rfl, hb2⟩
  have HB2 := Aside0.mk (below_step HB1.out hb2)
  clear hb2 HB1 HA
  rcases wrR_cases s l with ⟨hw, hin, he⟩ | ⟨e, hne, he⟩
  · rw [he]
    have HIN := Aside0.mk hin
    have HWS := Aside0.mk hw
    clear he hin hw
    by_cases hst : s = t
    · have k1 : (s == t) = true := beq_iff_eq.mpr hst
      clear hst
      go_wp2_with fail
      refine (awake _).mono ?_
      rintro e w3 ⟨rfl, hb3⟩
      have HB3 := Aside0.mk (below_step HB2.out hb3)
      clear hb3
      go_wp2
      go_ret
      exact ⟨rfl, HB3.out⟩
    · have k1 : (s == t) = false := beq_eq_false_iff_ne.mpr hst
      have HST := Aside0.mk hst
      clear hst
      obtain ⟨a, ha⟩ : ∃ a, wrS s l = a := ⟨_, rfl⟩
      rw [ha]
      have HA := Aside0.mk ha
      have HAZ : Aside0 (a.size ≤ 20) := ⟨by rw [← ha, wrS_size HS0.out HS1.out HIN.out]; have := (ws_ok s).2.2; omega⟩
      clear ha
      go_wp2_with fail
      have kb := print_bytes (P := Try.prog) 9 70 5 Try.underlying9 Try.underlying70 Try.underlying5 a w2
      have hB3 : Below w.heap.size w (Lib.bytesWorld w2 5 a) := bytes_below HB2.out HB2.out.size 5 a
      have hcell : ∀ i : Nat, i < a.size → (Lib.bytesWorld w2 5 a).cell? ⟨w2.heap.size, i, none⟩ = some (.int .u8 (bt a (i : Int))) := by
        intro i hi
        rw [Lib.bytesWorld_cell w2 5 a i hi]
        congr 2
        unfold bt
        rw [dif_pos (by simpa using hi)]
        simp [List.getD_eq_getElem?_getD, hi]
        rfl
      rw [kb]
      clear kb
      generalize Lib.bytesWorld w2 5 a = w3 at hB3 hcell ⊢
      generalize w2.heap.size = g at hcell ⊢
      generalize grownCap w2 a.size 0 5 = cap
      have HB3 := Aside0.mk hB3
      have HCE := Aside0.mk hcell
      clear hB3 hcell HB2
      go_wp2_with fail
      go_loopg [10] a.size (fun kq v10 w' => ∃ (x : Int), v10 = .int .i64 x ∧ Aside0 (1 ≤ x ∧ (a.size : Int) ≤ kq + x ∧ ∀ j : Nat, 1 ≤ j → (j : Int) < x → bt a (j : Int) ≠ 165) ∧ Aside0 (w' = w3))
      case atStart => exact ⟨1, rfl, ⟨Int.le_refl _, by omega, fun j h1 h2 => by omega⟩, ⟨rfl⟩⟩
      case round =>
        obtain ⟨x, rfl, HX, HWD⟩ := hrel
        have hwd := HWD.out
        subst hwd
        clear HWD
        by_cases hx : x < (a.size : Int)
        · have c1 : decide (x < (a.size : Int)) = true := decide_eq_true hx
          have b1 : (0 ≤ x) = True := eq_true (by have := HX.out; omega)
          have b2 : (x < (a.size : Int)) = True := eq_true hx
          have hce := HCE.out x.toNat (by have := HX.out; omega)
          rw [show ((x.toNat : Nat) : Int) = x by have := HX.out; omega] at hce
          have E1 : Aside0 (wrap64 (x + 1) = x + 1) := ⟨by have := HX.out; have := HAZ.out; exact w64 (by omega) (by omega)⟩
          have HXX := Aside0.mk hx
          clear hx
          by_cases hq : bt a x = 165
          · have c6 : (bt a x == 165) = true := beq_iff_eq.mpr hq
            clear hq
            go_wp2_with fail
            refine (awake _).mono ?_
            rintro e w4 ⟨rfl, hb4⟩
            have HB4 := Aside0.mk (below_step HB3.out hb4)
            clear hb4
            go_wp2
            go_ret
            exact ⟨rfl, HB4.out⟩
          · have c6 : (bt a x == 165) = false := beq_eq_false_iff_ne.mpr hq
            have HQ := Aside0.mk hq
            clear hq
            cases gk with
            | zero => exact absurd HX.out.2.1 (by have := HXX.out; simp only [Int.natCast_zero, Int.zero_add]; omega)
            | succ k1 =>
              go_wp2_with fail
              go_roundg k1
              case measure => omega
              case rel => exact ⟨_, congrArg (Value.int .i64) E1.out, ⟨by have := HX.out; omega, by have := HX.out; omega, fun j h1 h2 => by
                by_cases h3 : (j : Int) < x
                · exact HX.out.2.2 j h1 h3
                · rw [show (j : Int) = x by omega]; exact HQ.out⟩, ⟨rfl⟩⟩
        · have c1 : decide (x < (a.size : Int)) = false := decide_eq_false hx
          have HXX := Aside0.mk hx
          clear hx
          obtain ⟨L, N, hSd⟩ := said t a
          have hL : L = [] := by
            have h2 := HA.out
            subst h2
            exact others_said HS0.out HS1.out HST.out (fun i h1 h2 => HX.out.2.2 i h1 (by have := HXX.out; omega)) hSd
          subst hL
          have HSD := Aside0.mk hSd
          clear hSd
          go_wp2_with fail
          refine (read_said HSD.out (by have := HAZ.out; omega) _).mono ?_
          rintro e w4 ⟨v, rfl, hr4, hb4⟩
          obtain ⟨A4, c4, rfl, hc4, -⟩ := Kd.R_reads hr4
          have HB4 := Aside0.mk (below_step HB3.out hb4)
          clear hb4 hr4 hc4
          go_wp2_with fail
          refine (awake _).mono ?_
          rintro e w5 ⟨rfl, hb5⟩
          have HB5 := Aside0.mk (below_step HB4.out hb5)
          clear hb5
          go_wp2
          go_ret
          exact ⟨rfl, HB5.out⟩
  · rw [he]
    have HNE := Aside0.mk hne
    clear he
    have k1 : (e != 0) = true := bne_iff_ne.mpr hne
    have k2 : (e == 0) = false := beq_eq_false_iff_ne.mpr hne
    clear hne
    go_wp2_with fail
    refine (awake _).mono ?_
    rintro e' w3 ⟨rfl, hb3⟩
    have HB3 := Aside0.mk (below_step HB2.out hb3)
    clear hb3
    go_wp2
    go_ret
    exact ⟨rfl, HB3.out⟩
theorem u8_range {n : Int} (h : (Lit.int .u8 n).wf = true) : 0 ≤ n ∧ n ≤ 255 := by
  have h0 : IntKind.u8.min = 0 := by kernel_rfl
  have h1 : IntKind.u8.max = 255 := by kernel_rfl
  simp [Lit.wf] at h
  omega
/-- The walk of SenseOthers. -/
theorem others_law (s t : Int) (A : Option Addr) (c : Nat) (l : List Int) (w : World) {b : Nat} (ws : (Lit.int .u8 s).wf = true) (wt : (Lit.int .u8 t).wf = true) (hr : Kd.C (Kd.int .i64) w A l.length l) (hc : l.length ≤ c) (g : ∀ x ∈ l, (Lit.int .i64 x).wf = true) (m : OpPs.all_ (fun _ => 1) l + 1 ≤ b) (hb : 1 + (1 + b) ≤ 1048576) :
    Calls Try.prog 20 #[.int .u8 s, .int .u8 t, .slice A l.length c] w fun e w' => e = .returned (.bool true) ∧ Below w.heap.size w w' := by
  rw [OpPs.all_ones] at m
  exact others_walk s t (u8_range ws).1 (u8_range ws).2 A c l w hr hc (by omega)
end Go.Proofs.Ytbbinmplkbpcdaa.Ps
