import Derived.Test.YtbbinmplkbpcdaaSnm
/-! SenseReads: what the reference reads. -/
set_option linter.unusedVariables false
set_option linter.constructorNameAsVariable false
namespace Go.Proofs.Ytbbinmplkbpcdaa.Ps
open Go.RowKit Go.Proofs.Ytbbinmplkbpcdaa.Wd Go.Proofs.YtbbinmplkbpcdaaW.PrintWords Go.Proofs.YtbbinmplkbpcdaaW.PrintLast Go.Proofs.YtbbinmplkbpcdaaW.PrintMore
open Go.Proofs.Ytbbinmplkbpcdaa.Fs (ls ls_len ls_inj ls_tail ls_extract sum_lt refSum_eq)
theorem pow_snoc (j : Nat) : pow_ j * 256 = pow_ (j + 1) := by show _ = 256 * pow_ j; omega
theorem pow_le4 {j : Nat} (h : j ≤ 4) : 0 < pow_ j ∧ pow_ j ≤ 4294967296 := by
  rcases (by omega : j = 0 ∨ j = 1 ∨ j = 2 ∨ j = 3 ∨ j = 4) with rfl | rfl | rfl | rfl | rfl <;> decide
theorem pow_le3 {j : Nat} (h : j ≤ 3) : pow_ j ≤ 16777216 := by
  rcases (by omega : j = 0 ∨ j = 1 ∨ j = 2 ∨ j = 3) with rfl | rfl | rfl | rfl <;> decide
section
variable (ws : List Int) (s : ByteArray)
theorem fdigits (hsz : s.size ≤ 1099511627776) (i : Nat) (hI : i < 1000) (hi : i < ws.length) (hw : SWidth ws[i]) (at_ : Nat) (hs : at_ + lenOf ws[i] ≤ s.size) (x : List Int) (hx : x.length < 17592186044416) {r : List Int}
    (h : Ev (fun k => windhoverref11_fields.l0 k (ws.map wb) s (x ++ [val ws[i] (((bytesOf s).drop at_).take (lenOf ws[i]))]) ((at_ + lenOf ws[i] : Nat) : Int) ((i + 1 : Nat) : Int)) r) (d : Nat) : ∀ j : Nat, j + d = lenOf ws[i] →
    Ev (fun k => windhoverref11_fields.l1 k (ws.map wb) s x ((at_ + j : Nat) : Int) (i : Int) (num (((bytesOf s).drop at_).take j)) (pow_ j) (j : Int)) r := by
  have hrd : rd (ws.map wb) (i : Int) = wb ws[i] := by rw [rd_get _ i (by rw [List.length_map]; exact hi), List.getElem_map]
  have hl4 := lenOf_le hw
  have hbl : (bytesOf s).length = s.size := bytesOf_length s
  have hbytes := (bytes_of s).drop at_
  induction d with
  | zero =>
    intro j hj
    obtain rfl : j = lenOf ws[i] := by omega
    refine Ev.step (fun k => ?_) h
    rw [windhoverref11_fields.l1, if_pos (by omega), if_pos (by rw [List.length_map]; omega), hrd, wb_bytes hw]
    simp only [Option.bind_some]
    rw [if_neg (by omega), wup i (by omega), if_pos hx, if_pos hx]
    have hnb := num_bounds _ (hbytes.take (lenOf ws[i]))
    rw [List.length_take, List.length_drop, hbl, Nat.min_eq_left (by omega), pow_len hw.width] at hnb
    rw [pow_len hw.width]
    simp only [val]
    generalize num (((bytesOf s).drop at_).take (lenOf ws[i])) = nn at hnb ⊢
    clear hrd hl4 hs h hbytes hj
    generalize ws[i] = wv at hw hnb ⊢
    rcases hw with rfl | rfl | rfl | rfl
    · rw [if_neg (by decide), if_neg (by omega)]
    · rw [if_neg (by decide), if_neg (by omega)]
    · rw [if_pos (by decide), show manyOf (-16) = 65536 from rfl, show wrap64 (Int.tdiv 65536 2) = 32768 by kernel_rfl]
      rw [show manyOf (-16) = 65536 from rfl] at hnb
      by_cases hc : nn ≥ 32768
      · rw [if_pos hc, if_pos (by omega), w64 (by omega) (by omega)]
      · rw [if_neg hc, if_neg (by omega)]
    · rw [if_pos (by decide), show manyOf (-32) = 4294967296 from rfl, show wrap64 (Int.tdiv 4294967296 2) = 2147483648 by kernel_rfl]
      rw [show manyOf (-32) = 4294967296 from rfl] at hnb
      by_cases hc : nn ≥ 2147483648
      · rw [if_pos hc, if_pos (by omega), w64 (by omega) (by omega)]
      · rw [if_neg hc, if_neg (by omega)]
  | succ d ih =>
    intro j hj
    refine Ev.step (fun k => ?_) (ih (j + 1) (by omega))
    have hat : at_ + j < (bytesOf s).length := by omega
    have hjl : j < ((bytesOf s).drop at_).length := by rw [List.length_drop]; omega
    obtain ⟨_, hbt⟩ := bt_at_ s (at_ + j) (by omega)
    have hb := bytes_of s _ (List.getElem_mem hat)
    have hnb := num_bounds _ (hbytes.take j)
    rw [List.length_take, Nat.min_eq_left (by omega)] at hnb
    have h3 := pow_le3 (j := j) (by omega)
    have h4 := pow_le4 (j := j) (by omega)
    have hg : ((bytesOf s).drop at_)[j] = (bytesOf s)[at_ + j] := List.getElem_drop
    rw [windhoverref11_fields.l1, if_pos (by omega), if_pos (by rw [List.length_map]; omega), hrd, wb_bytes hw]
    simp only [Option.bind_some]
    rw [if_pos (by omega), if_pos (by omega), if_pos (by omega), wup (at_ + j) (by omega), wup j (by omega), hbt, List.take_succ_eq_append_getElem hjl, num_snoc, List.length_take, Nat.min_eq_left (by omega), hg]
    generalize (bytesOf s)[at_ + j] = b at hb
    generalize num (((bytesOf s).drop at_).take j) = nn at hnb
    have h5 : 0 ≤ pow_ j * b ∧ pow_ j * b ≤ 16777216 * 255 := ⟨Int.mul_nonneg (by omega) hb.1, Int.le_trans (Int.mul_le_mul_of_nonneg_left (by omega : b ≤ 255) (by omega)) (by omega)⟩
    rw [w64 (n := b) (by omega) (by omega), w64 (n := pow_ j * b) (by omega) (by omega), w64 (n := nn + pow_ j * b) (by omega) (by omega), w64 (n := pow_ j * 256) (by omega) (by omega), pow_snoc, Int.mul_comm b]
    rfl
theorem fields_loop (hsz : s.size ≤ 1099511627776) (hw : ∀ x ∈ ws, SWidth x) (hl : ws.length ≤ 1000) (hs : sumW ws ≤ s.size) (d : Nat) : ∀ i : Nat, i + d = ws.length →
    Ev (fun k => windhoverref11_fields.l0 k (ws.map wb) s (decF (ws.take i) (bytesOf s)) ((sumW (ws.take i) : Nat) : Int) (i : Int)) (decF ws (bytesOf s)) := by
  induction d with
  | zero =>
    intro i hi
    refine Ev.step (fun k => ?_) (Ev.now _)
    rw [windhoverref11_fields.l0, if_neg (by rw [List.length_map]; omega), List.take_of_length_le (by omega)]
  | succ d ih =>
    intro i hi
    have hil : i < ws.length := by omega
    have h1 := ih (i + 1) (by omega)
    have hst := sum_take ws (i + 1)
    have e1 : sumW (ws.take (i + 1)) = sumW (ws.take i) + lenOf ws[i] := by
      rw [List.take_succ_eq_append_getElem hil, sumW_append]
      simp [sumW]
    have h2 : Ev (fun k => windhoverref11_fields.l1 k (ws.map wb) s (decF (ws.take i) (bytesOf s)) ((sumW (ws.take i) + 0 : Nat) : Int) (i : Int) (num (((bytesOf s).drop (sumW (ws.take i))).take 0)) (pow_ 0) ((0 : Nat) : Int)) (decF ws (bytesOf s)) := by
      refine fdigits ws s hsz i (by omega) hil (hw _ (List.getElem_mem hil)) (sumW (ws.take i)) (by omega) _ (by rw [dec_length, List.length_take]; omega) ?_ (lenOf ws[i]) 0 (by omega)
      rw [← e1, ← dec_snoc, ← List.take_succ_eq_append_getElem hil]
      exact h1
    refine Ev.step (fun k => ?_) h2
    rw [windhoverref11_fields.l0, if_pos (by rw [List.length_map]; omega)]
    rfl
theorem fields_eq (hsz : s.size ≤ 1099511627776) (hw : ∀ x ∈ ws, SWidth x) (hl : ws.length ≤ 1000) (hs : sumW ws ≤ s.size) : Ev (fun k => windhoverref11_fields.f k (ws.map wb) s) (decF ws (bytesOf s)) :=
  fields_loop ws s hsz hw hl hs ws.length 0 (by omega)
end
theorem goodF_iff {s : Int} {ws : List Int} {u : List UInt8} (h : 3 + sumW ws ≤ u.length) : GoodF s ws (str u) ↔ ((u[0]).toNat : Int) = s ∧ (u[1 + sumW ws].toNat) = Fs.sum (u.take (1 + sumW ws)) % 256 ∧ (u[2 + sumW ws].toNat) = Fs.sum (u.take (1 + sumW ws)) / 256 := by
  have h0 : 0 < (ls (str u)).length := by rw [ls_strl]; omega
  have h1 : 1 + sumW ws < (ls (str u)).length := by rw [ls_strl]; omega
  have h2 : 2 + sumW ws < (ls (str u)).length := by rw [ls_strl]; omega
  have b0 := Fs.bt_eq _ _ h0
  have b1 := Fs.bt_eq _ _ h1
  have b2 := Fs.bt_eq _ _ h2
  unfold GoodF
  rw [show (0 : Int) = ((0 : Nat) : Int) from rfl, b0, b1, b2, Fs.ls_head]
  simp only [ls_strl, str_size]
  constructor
  · rintro ⟨-, a, b, c⟩
    exact ⟨a, by exact_mod_cast b, by exact_mod_cast c⟩
  · rintro ⟨a, b, c⟩
    exact ⟨h, a, by exact_mod_cast b, by exact_mod_cast c⟩
theorem wadd (i n : Nat) (h : i + n ≤ 4611686018427387904) : wrap64 ((i : Int) + (n : Int)) = ((i + n : Nat) : Int) := by
  rw [w64 (by omega) (by omega)]
  rfl
theorem wsub (i n m : Nat) (h : i ≤ 4611686018427387904) (hm : m + n = i) : wrap64 ((i : Int) - (n : Int)) = (m : Int) := by
  rw [w64 (by omega) (by omega)]
  omega
set_option maxHeartbeats 4000000 in
theorem read165 {s : Int} {ws : List Int} (hw : ∀ x ∈ ws, SWidth x) (hl : ws.length ≤ 1000) (hW : sumW ws ≤ 1000) (d : ByteArray) (hd : d.size ≤ 1099511627776) {i : Nat} {u : List UInt8} (hi : (ls d).drop i = 165 :: u) (out : List Int) (is : Bool) (bad : Nat) (hb : bad ≤ i) {r : List Int × Bool × Int}
    (h1 : GoodF s ws (str u) → Ev (fun k => windhoverref11_Read.l1 k s d (ws.map wb) ((4 + sumW ws : Nat) : Int) (decF ws ((bytesOf (str u)).drop 1)) true (bad : Int) ((i + (4 + sumW ws) : Nat) : Int)) r)
    (h2 : ¬ GoodF s ws (str u) → Ev (fun k => windhoverref11_Read.l1 k s d (ws.map wb) ((4 + sumW ws : Nat) : Int) out is ((bad + 1 : Nat) : Int) ((i + 1 : Nat) : Int)) r) :
    Ev (fun k => windhoverref11_Read.l1 k s d (ws.map wb) ((4 + sumW ws : Nat) : Int) out is (bad : Int) (i : Int)) r := by
  have hsz := ls_len d
  have hil : i < (ls d).length := by
    have := congrArg List.length hi
    rw [List.length_drop] at this
    simp only [List.length_cons] at this
    omega
  rw [List.drop_eq_getElem_cons hil] at hi
  injection hi with e1 e2
  have hul : u.length = d.size - (i + 1) := by rw [← e2, List.length_drop, hsz]
  have ubt : ∀ j : Nat, (hj : j < u.length) → bt d ((i + 1 + j : Nat) : Int) = ((u[j].toNat : Nat) : Int) := by
    intro j hj
    rw [Fs.bt_eq _ _ (by rw [hsz]; omega)]
    congr 2
    simp only [← e2, List.getElem_drop]
  have w1 : Aside0 (wrap64 ((i : Int) + ((4 + sumW ws : Nat) : Int)) = ((i + (4 + sumW ws) : Nat) : Int)) := ⟨wadd i (4 + sumW ws) (by omega)⟩
  have w2 : Aside0 (wrap64 (((i + (4 + sumW ws) : Nat) : Int) - 2) = ((i + 1 + (1 + sumW ws) : Nat) : Int)) := ⟨wsub _ 2 _ (by omega) (by omega)⟩
  have w3 : Aside0 (wrap64 (((i + (4 + sumW ws) : Nat) : Int) - 1) = ((i + 1 + (2 + sumW ws) : Nat) : Int)) := ⟨wsub _ 1 _ (by omega) (by omega)⟩
  have w4 : Aside0 (wrap64 ((i : Int) + 2) = ((i + 2 : Nat) : Int)) := ⟨wadd i 2 (by omega)⟩
  have w5 := Aside0.mk (wup i (by omega))
  have w6 := Aside0.mk (wup bad (by omega))
  have ub0 := ubt 0
  have ub1 := ubt (1 + sumW ws)
  have ub2 := ubt (2 + sumW ws)
  generalize hsW : sumW ws = W at *
  have bad2 : ¬ GoodF s ws (str u) → Ev (fun k => windhoverref11_Read.j2 k s d (ws.map wb) ((4 + W : Nat) : Int) out is (bad : Int) (i : Int) false) r := fun hg => by
    refine Ev.step (fun k => ?_) (h2 hg)
    rw [windhoverref11_Read.j2, if_neg Bool.false_ne_true, w5.out, w6.out]
  have l165 : bt d (i : Int) = 165 := by rw [Fs.bt_eq _ _ hil, e1]; rfl
  by_cases c1 : i + (4 + W) ≤ d.size
  · have hu3 : 3 + W ≤ u.length := by omega
    have hiff := goodF_iff (s := s) (ws := ws) (u := u) (by omega)
    simp only [hsW] at hiff
    have hu0 := ub0 (by omega)
    by_cases c2 : ((u[0]).toNat : Int) = s
    · have hstep : Ev (fun k => windhoverref11_Read.j2 k s d (ws.map wb) ((4 + W : Nat) : Int) out is (bad : Int) (i : Int) true) r := by
        have hb1 := ub1 (by omega)
        have hb2 := ub2 (by omega)
        have hx : ls (d.extract (i + 1) (i + 1 + (1 + W))) = u.take (1 + W) := by
          rw [ls_extract, e2]
          congr 1
          omega
        obtain ⟨K1, hK1⟩ := refSum_eq (d.extract (i + 1) (i + 1 + (1 + W))) (by rw [ByteArray.size_extract]; omega)
        rw [hx] at hK1
        have hlt := sum_lt (u.take (1 + W))
        generalize Fs.sum (u.take (1 + W)) = c at hK1 hlt hiff
        have t1 : Int.tmod (c : Int) 256 % 256 = ((c % 256 : Nat) : Int) := by
          rw [show Int.tmod (c : Int) 256 = ((c % 256 : Nat) : Int) from rfl]
          omega
        have t2 : IntKind.u16.wrap (Int.tdiv (c : Int) 256) % 256 = ((c / 256 : Nat) : Int) := by
          rw [show Int.tdiv (c : Int) 256 = ((c / 256 : Nat) : Int) from rfl, show IntKind.u16.wrap ((c / 256 : Nat) : Int) = ((c / 256 : Nat) : Int) % 65536 by simp [IntKind.wrap, IntKind.bits, IntKind.signed]]
          omega
        by_cases c3 : u[1 + W].toNat = c % 256
        · by_cases c4 : u[2 + W].toNat = c / 256
          · have hg := hiff.2 ⟨c2, c3, c4⟩
            have hbs : (bytesOf (str u)).drop 1 = bytesOf (d.extract (i + 2) d.size) := by
              rw [bytesOf_tail, bytesOf_str, bytesOf_ls, ← e2]
              unfold nums8
              rw [← List.map_drop, ← List.map_drop, List.drop_drop]
            have hfe := fields_eq ws (d.extract (i + 2) d.size) (by rw [ByteArray.size_extract]; omega) hw hl (by rw [ByteArray.size_extract, hsW]; omega)
            have h3 := h1 hg
            rw [hbs] at h3
            obtain ⟨K2, hK2⟩ := hfe
            obtain ⟨K3, hK3⟩ := h3
            dsimp only at hK1 hK2 hK3
            refine ⟨K1 + K2 + K3 + 1, fun k hk => ?_⟩
            obtain ⟨k, rfl⟩ : ∃ q, k = q + 1 := ⟨k - 1, by omega⟩
            dsimp only
            rw [windhoverref11_Read.j2, if_pos rfl, w1.out, w2.out, w3.out, w4.out, w5.out, if_pos (by omega), if_pos (by omega), if_pos (by omega)]
            simp only [Int.toNat_natCast]
            rw [hK1 k (by omega)]
            simp only [Option.bind_some]
            rw [t1, t2, hb1, hb2, if_pos (by omega), if_pos (by omega), if_pos (by omega), if_pos (by omega), if_pos (by omega), if_pos (by omega), if_pos (by omega), if_pos (by omega), hK2 k (by omega)]
            simp only [Option.bind_some]
            exact hK3 k (by omega)
          · have h3 := h2 (fun h => c4 (hiff.1 h).2.2)
            obtain ⟨K3, hK3⟩ := h3
            dsimp only at hK1 hK3
            refine ⟨K1 + K3 + 1, fun k hk => ?_⟩
            obtain ⟨k, rfl⟩ : ∃ q, k = q + 1 := ⟨k - 1, by omega⟩
            dsimp only
            rw [windhoverref11_Read.j2, if_pos rfl, w1.out, w2.out, w3.out, w4.out, w5.out, w6.out, if_pos (by omega), if_pos (by omega), if_pos (by omega)]
            simp only [Int.toNat_natCast]
            rw [hK1 k (by omega)]
            simp only [Option.bind_some]
            rw [t1, t2, hb1, hb2, if_pos (by omega), if_pos (by omega), if_pos (by omega), if_pos (by omega), if_pos (by omega), if_neg (by omega)]
            exact hK3 k (by omega)
        · have h3 := h2 (fun h => c3 (hiff.1 h).2.1)
          obtain ⟨K3, hK3⟩ := h3
          dsimp only at hK1 hK3
          refine ⟨K1 + K3 + 1, fun k hk => ?_⟩
          obtain ⟨k, rfl⟩ : ∃ q, k = q + 1 := ⟨k - 1, by omega⟩
          dsimp only
          rw [windhoverref11_Read.j2, if_pos rfl, w1.out, w2.out, w3.out, w4.out, w5.out, w6.out, if_pos (by omega), if_pos (by omega), if_pos (by omega)]
          simp only [Int.toNat_natCast]
          rw [hK1 k (by omega)]
          simp only [Option.bind_some]
          rw [t1, t2, hb1, hb2, if_pos (by omega), if_pos (by omega), if_neg (by omega)]
          exact hK3 k (by omega)
      refine Ev.step (fun k => ?_) hstep
      rw [windhoverref11_Read.l1, if_pos (by omega), if_pos (by omega), if_pos l165, w1.out, if_pos (by omega), w5.out, if_pos (by omega), if_pos (by omega), show ((i + 1 : Nat) : Int) = ((i + 1 + 0 : Nat) : Int) from rfl, hu0, c2, beq_self_eq_true]
    · refine Ev.step (fun k => ?_) (bad2 (fun h => c2 (hiff.1 h).1))
      rw [windhoverref11_Read.l1, if_pos (by omega), if_pos (by omega), if_pos l165, w1.out, if_pos (by omega), w5.out, if_pos (by omega), if_pos (by omega), show ((i + 1 : Nat) : Int) = ((i + 1 + 0 : Nat) : Int) from rfl, hu0, beq_eq_false_iff_ne.mpr c2]
  · refine Ev.step (fun k => ?_) (bad2 (fun h => by have := h.1; rw [str_size, hsW] at this; omega))
    rw [windhoverref11_Read.l1, if_pos (by omega), if_pos (by omega), if_pos l165, w1.out, if_neg (by omega)]
theorem refRead_loop {s : Int} {ws : List Int} (hw : ∀ x ∈ ws, SWidth x) (hl : ws.length ≤ 1000) (hW : sumW ws ≤ 1000) (hne : ws ≠ []) (d : ByteArray) (hd : d.size ≤ 1099511627776) {t : List UInt8} {l : List Int} {n : Nat} (h : Reads s ws t l n) :
    ∀ (i : Nat) (out : List Int) (is : Bool) (bad : Nat), (ls d).drop i = t → i ≤ d.size → bad ≤ i →
      Ev (fun k => windhoverref11_Read.l1 k s d (ws.map wb) ((4 + sumW ws : Nat) : Int) out is (bad : Int) (i : Int)) (if l = [] then out else l, is || !l.isEmpty, ((bad + n : Nat) : Int)) := by
  induction h with
  | nil =>
    intro i out is bad hi hs hb
    have hz : d.size ≤ i := by
      have := congrArg List.length hi
      rw [List.length_drop, ls_len] at this
      simp only [List.length_nil] at this
      omega
    refine Ev.step (fun k => ?_) (Ev.now _)
    rw [windhoverref11_Read.l1, if_neg (by omega), if_pos rfl]
    simp
  | @skip b t l n hb _ ih =>
    intro i out is bad hi hs hbb
    have hil : i < (ls d).length := by
      have := congrArg List.length hi
      rw [List.length_drop] at this
      simp only [List.length_cons] at this
      omega
    have hsz := ls_len d
    rw [List.drop_eq_getElem_cons hil] at hi
    injection hi with e1 e2
    have h1 := ih (i + 1) out is bad e2 (by omega) (by omega)
    refine Ev.step (fun k => ?_) h1
    rw [windhoverref11_Read.l1, if_pos (by omega), if_pos (by omega), Fs.bt_eq _ _ hil, e1, if_neg (by
      intro e
      apply hb
      apply UInt8.toNat_inj.1
      show _ = 165
      omega), wup i (by omega)]
  | @bad t l n hg _ ih =>
    intro i out is bad hi hs hbb
    have hil : i < (ls d).length := by
      have := congrArg List.length hi
      rw [List.length_drop] at this
      simp only [List.length_cons] at this
      omega
    have hsz := ls_len d
    have e2 : (ls d).drop (i + 1) = t := by
      have h2 := hi
      rw [List.drop_eq_getElem_cons hil] at h2
      injection h2
    refine read165 hw hl hW d hd hi out is bad hbb (fun h => absurd h hg) (fun _ => ?_)
    have h1 := ih (i + 1) out is (bad + 1) e2 (by omega) (by omega)
    rw [show bad + 1 + n = bad + (n + 1) by omega] at h1
    exact h1
  | @good t l l' n hg _ e ih =>
    intro i out is bad hi hs hbb
    have hil : i < (ls d).length := by
      have := congrArg List.length hi
      rw [List.length_drop] at this
      simp only [List.length_cons] at this
      omega
    have hsz := ls_len d
    have e2 : (ls d).drop (i + 1) = t := by
      have h2 := hi
      rw [List.drop_eq_getElem_cons hil] at h2
      injection h2
    have hz : 3 + sumW ws ≤ t.length := by have := hg.1; rw [str_size] at this; exact this
    have htl : t.length = d.size - (i + 1) := by rw [← e2, List.length_drop, hsz]
    have hdn : decF ws ((bytesOf (str t)).drop 1) ≠ [] := by
      intro h
      have := congrArg List.length h
      rw [dec_length] at this
      exact hne (List.length_eq_zero_iff.1 this)
    refine read165 hw hl hW d hd hi out is bad hbb (fun _ => ?_) (fun h => absurd hg h)
    have h1 := ih (i + (4 + sumW ws)) (decF ws ((bytesOf (str t)).drop 1)) true bad (by rw [← e2, List.drop_drop]; congr 1; omega) (by omega) (by omega)
    have hl' : l' ≠ [] := by
      rw [e]
      by_cases h0 : l = []
      · rw [if_pos h0]; exact hdn
      · rw [if_neg h0]; exact h0
    rw [if_neg hl', e]
    have hb2 : (is || !(if l = [] then decF ws ((bytesOf (str t)).drop 1) else l).isEmpty) = (true || !l.isEmpty) := by
      rw [← e]
      have : l'.isEmpty = false := by simpa using hl'
      rw [this]
      simp
    rw [hb2]
    exact h1
theorem refSize_loop {s : Int} {ws : List Int} (hw : ∀ x ∈ ws, SWidth x) (hl : ws.length ≤ 1000) (hW : sumW ws ≤ 1000) (d : ByteArray) {r : List Int × Bool × Int} (h : Ev (fun k => windhoverref11_Read.l1 k s d (ws.map wb) ((4 + sumW ws : Nat) : Int) [] false ((0 : Nat) : Int) ((0 : Nat) : Int)) r) (m : Nat) : ∀ i : Nat, i + m = ws.length →
    Ev (fun k => windhoverref11_Read.l0 k s d (ws.map wb) ((4 + sumW (ws.take i) : Nat) : Int) (i : Int)) r := by
  induction m with
  | zero =>
    intro i hi
    refine Ev.step (fun k => ?_) h
    rw [windhoverref11_Read.l0, if_neg (by rw [List.length_map]; omega), List.take_of_length_le (by omega)]
    rfl
  | succ m ih =>
    intro i hi
    have hil : i < ws.length := by omega
    have hst := sum_take ws i
    have e1 : sumW (ws.take (i + 1)) = sumW (ws.take i) + lenOf ws[i] := by
      rw [List.take_succ_eq_append_getElem hil, sumW_append]
      simp [sumW]
    have hst2 := sum_take ws (i + 1)
    have h1 := ih (i + 1) (by omega)
    have hwi := hw _ (List.getElem_mem hil)
    refine Ev.step (fun k => ?_) h1
    rw [windhoverref11_Read.l0, if_pos (by rw [List.length_map]; omega), if_pos (by omega), rd_get _ i (by rw [List.length_map]; exact hil), List.getElem_map, wb_bytes hwi]
    simp only [Option.bind_some]
    rw [wadd _ _ (by omega), wup i (by omega), e1, Nat.add_assoc]
/-- What the reference reads. -/
theorem refRead_said {s : Int} {d : ByteArray} {L : List Int} {N : Nat} (hS : Said s d L N) (hd : d.size ≤ 1099511627776) : Ev (fun k => windhoverref11_Read.f k s d) (L, !L.isEmpty, (N : Int)) := by
  obtain ⟨k1, k2, k3⟩ := ws_ok s
  by_cases hw : wsOf s = []
  · obtain ⟨rfl, rfl⟩ := hS.2 hw
    refine Ev.congr (fun k => ?_) (Ev.now _)
    unfold windhoverref11_Read.f
    rw [refWidths_eq, hw]
    rfl
  · have h1 := refRead_loop k1 (by omega) (by omega) hw d hd (hS.1 hw) 0 [] false 0 rfl (by omega) (by omega)
    have h2 := refSize_loop k1 (by omega) (by omega) d h1 (wsOf s).length 0 (by omega)
    have e1 : (if L = [] then [] else L) = L := by split <;> simp_all
    rw [e1, Bool.false_or, Nat.zero_add] at h2
    refine Ev.congr (fun k => ?_) h2
    have hp := List.length_pos_iff.2 hw
    unfold windhoverref11_Read.f
    rw [refWidths_eq]
    simp only [Option.bind_some]
    rw [if_neg (by rw [List.length_map]; omega)]
    rfl
theorem refRead_calls {s : Int} {d : ByteArray} {L : List Int} {N : Nat} (hS : Said s d L N) (hd : d.size ≤ 1099511627776) (w : World) : ∃ K, windhoverref11_Read.f K s d = some (L, !L.isEmpty, (N : Int)) := by
  obtain ⟨K, hK⟩ := refRead_said hS hd
  exact ⟨K, hK K (Nat.le_refl _)⟩
end Go.Proofs.Ytbbinmplkbpcdaa.Ps
