import Derived.Test.YtbbinmplkbpcdaaSnf
import Derived.Test.YtbbinmplkbpcdaaSne
/-! What a sensor's writing computes, the program's and the reference's. -/
set_option linter.unusedVariables false
set_option linter.constructorNameAsVariable false
namespace Go.Proofs.Ytbbinmplkbpcdaa.Ps
open Go.RowKit Go.Proofs.Ytbbinmplkbpcdaa.Wd Go.Proofs.YtbbinmplkbpcdaaW.PrintWords Go.Proofs.YtbbinmplkbpcdaaW.PrintLast Go.Proofs.YtbbinmplkbpcdaaW.PrintMore
open Go.Proofs.Ytbbinmplkbpcdaa.Fs (ls ls_len ls_inj ls_tail ls_extract crcSum_eq refSum_eq sum_lt)
theorem wup (i : Nat) (h : i < 9223372036854775807) : wrap64 ((i : Int) + 1) = ((i + 1 : Nat) : Int) := by rw [w64 (by omega) (by omega)]; rfl
theorem rd_get (xs : List Int) (i : Nat) (h : i < xs.length) : rd xs (i : Int) = xs[i] := by
  unfold rd
  rw [Int.toNat_natCast, List.getD_eq_getElem?_getD, List.getElem?_eq_getElem h]
  rfl
/-- A sensor's widths. -/
def wsOf (s : Int) : List Int := if s = 1 then [16, -16, -16, -16] else if s = 2 then [-32, -32] else if s = 3 then [-32, -32, -32, -32] else if s = 4 then [-16, -16, -16, -16, 8] else if s = 5 then [8, -32] else []
theorem widths_eq (s : Int) : sense_widths.f s = some (wsOf s) := by
  unfold sense_widths.f wsOf
  repeat (split <;> try rfl)
theorem ws_ok (s : Int) : (∀ x ∈ wsOf s, SWidth x) ∧ (wsOf s).length ≤ 5 ∧ sumW (wsOf s) ≤ 16 := widths_ok (widths_eq s)
theorem SWidth.width {w : Int} (h : SWidth w) : Width w := by
  rcases h with h | h | h | h
  · exact .inl h
  · exact .inr (.inl h)
  · exact .inr (.inr (.inr (.inl h)))
  · exact .inr (.inr (.inr (.inr h)))
/-- What is checked: the sensor and its fields. -/
def body (s : Int) (fs : List Int) : List Int := s :: encF (wsOf s) fs
def sumOf (s : Int) (fs : List Int) : Nat := Fs.sum (ls (strOfNums (body s fs)))
/-- A frame's bytes. -/
def wrS (s : Int) (fs : List Int) : ByteArray := ((⟨#[165]⟩ : ByteArray) ++ strOfNums (body s fs)) ++ strOfNums [((sumOf s fs : Nat) : Int) % 256, ((sumOf s fs : Nat) : Int) / 256 % 256]
/-- The answer of Write. -/
def wrR (s : Int) (fs : List Int) : ByteArray × Int :=
  if wsOf s = [] then (⟨#[]⟩, 6) else if (wsOf s).length ≠ fs.length then (⟨#[]⟩, 50) else if AllIn (wsOf s) fs then (wrS s fs, 0) else (⟨#[]⟩, 5)

/-! ### the program's -/
section
variable (fs : List Int) (ws : List Int) (wl : Int)
theorem wfield_loop (i : Nat) (hi : i < fs.length) (m : Nat) (hm : m ≤ 4) {r : ByteArray × Int} (d : Nat) : ∀ (j : Nat) (x : List Int), j + d = m → x.length + d < 140737488355328 →
    Ev (fun k => sense_Write.l0 k fs (x ++ low_ (fs[i] / 2 ^ (8 * j)) d) ws wl ((i + 1 : Nat) : Int)) r →
    i < 9223372036854775806 →
    Ev (fun k => sense_Write.l1 k fs x (i : Int) ((8 * m : Nat) : Int) ((8 * j : Nat) : Int) ws wl (i : Int)) r := by
  induction d with
  | zero =>
    intro j x hj hx h hI
    refine Ev.step (fun k => ?_) h
    rw [sense_Write.l1, if_neg (by omega), wup i (by omega)]
    simp [low_]
  | succ d ih =>
    intro j x hj hx h hI
    have e1 : shr .i64 fs[i] ((8 * j : Nat) : Int) = fs[i] / 2 ^ (8 * j) := by
      unfold shr
      rw [Int.toNat_natCast, Nat.min_eq_left (by show 8 * j ≤ 64; omega)]
    have e2 : fs[i] / 2 ^ (8 * (j + 1)) = fs[i] / 2 ^ (8 * j) / 256 := by
      rw [Int.ediv_ediv_of_nonneg (by exact Int.le_of_lt (Int.pow_pos (by decide)))]
      congr 1
      rw [show (256 : Int) = 2 ^ 8 from rfl, ← Int.pow_add, Nat.mul_add]
    have h1 := ih (j + 1) (x ++ [(fs[i] / 2 ^ (8 * j)) % 256]) (by omega) (by rw [List.length_append]; simp only [List.length_cons, List.length_nil]; omega) (by
      rw [e2, List.append_assoc]
      exact h) hI
    refine Ev.step (fun k => ?_) h1
    rw [sense_Write.l1, if_pos (by omega), if_pos (by omega), if_pos (by omega), if_pos (by omega), if_pos (by omega), rd_get fs i hi, e1]
    rw [show wrap64 (((8 * j : Nat) : Int) + 8) = ((8 * (j + 1) : Nat) : Int) by rw [w64 (by omega) (by omega)]; omega]
theorem wfield_part (i : Nat) (hi : i < fs.length) (hI : i < 1000) (m : Nat) (hm : m ≤ 4) (lo hi_ : Int) (x : List Int) (hx : x.length < 140737488000000) (hh : wrap64 (lo + wrap64 (shl .i64 1 ((8 * m : Nat) : Int) - 1)) = hi_ - 1) {r : ByteArray × Int}
    (h : lo ≤ fs[i] ∧ fs[i] < hi_ → Ev (fun k => sense_Write.l0 k fs (x ++ low_ fs[i] m) ws wl ((i + 1 : Nat) : Int)) r) (hb : ¬ (lo ≤ fs[i] ∧ fs[i] < hi_) → r = (⟨#[]⟩, 5)) :
    Ev (fun k => sense_Write.j1 k fs x (i : Int) lo ((8 * m : Nat) : Int) ws wl (i : Int)) r := by
  by_cases h1 : fs[i] < lo
  · rw [hb (by omega)]
    refine ⟨2, fun k hk => ?_⟩
    obtain ⟨k, rfl⟩ : ∃ q, k = q + 2 := ⟨k - 2, by omega⟩
    dsimp only
    rw [sense_Write.j1, if_pos (by omega), if_pos (by omega), rd_get fs i hi, if_pos h1, sense_Write.j2, if_pos rfl]
  · by_cases h2 : fs[i] < hi_
    · have h3 := h ⟨by omega, h2⟩
      have h4 := wfield_loop fs ws wl i hi m hm m 0 x (by omega) (by omega) (by rw [Nat.mul_zero, Int.pow_zero, Int.ediv_one]; exact h3) (by omega)
      obtain ⟨K, hK⟩ := h4
      dsimp only at hK
      refine ⟨K + 2, fun k hk => ?_⟩
      obtain ⟨k, rfl⟩ : ∃ q, k = q + 2 := ⟨k - 2, by omega⟩
      dsimp only
      rw [sense_Write.j1, if_pos (by omega), if_pos (by omega), rd_get fs i hi, if_neg h1, if_pos (by omega), hh, decide_eq_false (by omega), sense_Write.j2, if_neg Bool.false_ne_true]
      exact hK k (by omega)
    · rw [hb (by omega)]
      refine ⟨2, fun k hk => ?_⟩
      obtain ⟨k, rfl⟩ : ∃ q, k = q + 2 := ⟨k - 2, by omega⟩
      dsimp only
      rw [sense_Write.j1, if_pos (by omega), if_pos (by omega), rd_get fs i hi, if_neg h1, if_pos (by omega), hh, decide_eq_true (by omega), sense_Write.j2, if_pos rfl]
theorem wfield (i : Nat) (hi : i < fs.length) (hi2 : i < ws.length) (hwl : wl = ws.length) (hI : i < 1000) (hw : SWidth ws[i]) (x : List Int) (hx : x.length < 140737488000000) {r : ByteArray × Int}
    (h : In ws[i] fs[i] → Ev (fun k => sense_Write.l0 k fs (x ++ low_ fs[i] (lenOf ws[i])) ws wl ((i + 1 : Nat) : Int)) r) (hb : ¬ In ws[i] fs[i] → r = (⟨#[]⟩, 5)) :
    Ev (fun k => sense_Write.l0 k fs x ws wl (i : Int)) r := by
  have key : ∀ w : Int, ws[i] = w → Ev (fun k => if w < 0 then (if 0 ≤ wrap64 (mx w (wrap64 (-w)) - 1) then sense_Write.j1 k fs x (i : Int) (shl .i64 (-1) (wrap64 (mx w (wrap64 (-w)) - 1))) (mx w (wrap64 (-w))) ws wl (i : Int) else none) else sense_Write.j1 k fs x (i : Int) 0 (mx w (wrap64 (-w))) ws wl (i : Int)) r := by
    intro w ew
    rw [ew] at h hb hw
    rcases hw with rfl | rfl | rfl | rfl
    · refine Ev.congr (fun k => ?_) (wfield_part fs ws wl i hi hI 1 (by decide) 0 256 x hx (by kernel_rfl) h hb)
      rw [if_neg (by decide), show mx 8 (wrap64 (-8)) = ((8 * 1 : Nat) : Int) by kernel_rfl]
    · refine Ev.congr (fun k => ?_) (wfield_part fs ws wl i hi hI 2 (by decide) 0 65536 x hx (by kernel_rfl) h hb)
      rw [if_neg (by decide), show mx 16 (wrap64 (-16)) = ((8 * 2 : Nat) : Int) by kernel_rfl]
    · refine Ev.congr (fun k => ?_) (wfield_part fs ws wl i hi hI 2 (by decide) (-32768) 32768 x hx (by kernel_rfl) h hb)
      rw [if_pos (by decide), show mx (-16) (wrap64 (- -16)) = ((8 * 2 : Nat) : Int) by kernel_rfl, show wrap64 (((8 * 2 : Nat) : Int) - 1) = 15 by kernel_rfl, if_pos (by decide), show shl .i64 (-1) 15 = -32768 by kernel_rfl]
    · refine Ev.congr (fun k => ?_) (wfield_part fs ws wl i hi hI 4 (by decide) (-2147483648) 2147483648 x hx (by kernel_rfl) h hb)
      rw [if_pos (by decide), show mx (-32) (wrap64 (- -32)) = ((8 * 4 : Nat) : Int) by kernel_rfl, show wrap64 (((8 * 4 : Nat) : Int) - 1) = 31 by kernel_rfl, if_pos (by decide), show shl .i64 (-1) 31 = -2147483648 by kernel_rfl]
  refine Ev.step (fun k => ?_) (key _ rfl)
  rw [sense_Write.l0, if_pos (by omega), if_pos (by omega), if_pos (by omega), rd_get ws i hi2]
end
theorem wr_end (x : List Int) (hx : x.length ≤ 1000) (fs ws : List Int) (wl i : Int) (h : ¬ i < wl) :
    Ev (fun k => sense_Write.l0 k fs x ws wl i) (((⟨#[165]⟩ : ByteArray) ++ strOfNums x) ++ strOfNums [((Fs.sum (ls (strOfNums x)) : Nat) : Int) % 256, ((Fs.sum (ls (strOfNums x)) : Nat) : Int) / 256 % 256], 0) := by
  have hsz : (strOfNums x).size = x.length := strOfNums_size _
  obtain ⟨K, hK⟩ := crcSum_eq (strOfNums x) (by omega)
  dsimp only at hK
  refine ⟨K + 1, fun k hk => ?_⟩
  obtain ⟨k, rfl⟩ : ∃ q, k = q + 1 := ⟨k - 1, by omega⟩
  dsimp only
  rw [sense_Write.l0, if_neg h, hK k (by omega)]
  simp only [Option.bind_some]
  rw [if_pos (by omega), if_pos (by rw [ByteArray.size_append, hsz, strOfNums_size]; show 1 + x.length + 2 ≤ _; omega)]
theorem write_loop (s : Int) (fs : List Int) (hl : fs.length = (wsOf s).length) (d : Nat) : ∀ (i : Nat) (x : List Int), i + d = (wsOf s).length → x.length ≤ 1 + 4 * i →
    Ev (fun k => sense_Write.l0 k fs x (wsOf s) ((wsOf s).length : Int) (i : Int)) (if AllIn ((wsOf s).drop i) (fs.drop i) then
      (((⟨#[165]⟩ : ByteArray) ++ strOfNums (x ++ encF ((wsOf s).drop i) (fs.drop i))) ++ strOfNums [((Fs.sum (ls (strOfNums (x ++ encF ((wsOf s).drop i) (fs.drop i)))) : Nat) : Int) % 256, ((Fs.sum (ls (strOfNums (x ++ encF ((wsOf s).drop i) (fs.drop i)))) : Nat) : Int) / 256 % 256], 0) else (⟨#[]⟩, 5)) := by
  obtain ⟨hw, hl5, _⟩ := ws_ok s
  induction d with
  | zero =>
    intro i x hi hx
    rw [List.drop_of_length_le (by omega), List.drop_of_length_le (by omega), if_pos (show AllIn [] [] from trivial)]
    rw [show encF [] [] = [] from rfl, List.append_nil]
    exact wr_end x (by omega) fs _ _ _ (by omega)
  | succ d ih =>
    intro i x hi hx
    have h1 : i < (wsOf s).length := by omega
    have h2 : i < fs.length := by omega
    rw [List.drop_eq_getElem_cons h1, List.drop_eq_getElem_cons h2]
    have hwi := hw _ (List.getElem_mem h1)
    have hlen : lenOf (wsOf s)[i] ≤ 4 := by
      rcases hwi with h | h | h | h <;> rw [h] <;> decide
    refine wfield fs (wsOf s) _ i h2 h1 rfl (by omega) hwi x (by omega) (fun hin => ?_) (fun hin => if_neg (fun h => hin h.1))
    have h3 := ih (i + 1) (x ++ low_ fs[i] (lenOf (wsOf s)[i])) (by omega) (by rw [List.length_append, low_length]; omega)
    simp only [AllIn, hin, true_and, encF]
    rw [← List.append_assoc]
    exact h3
theorem write_eq (s : Int) (fs : List Int) : Ev (fun k => sense_Write.f k s fs) (wrR s fs) := by
  unfold wrR
  by_cases c1 : wsOf s = []
  · rw [if_pos c1]
    refine Ev.congr (fun k => ?_) (Ev.now _)
    unfold sense_Write.f
    rw [widths_eq]
    simp only [Option.bind_some]
    rw [c1, if_pos (by rfl)]
  · have hp := List.length_pos_iff.2 c1
    rw [if_neg c1]
    by_cases c2 : (wsOf s).length = fs.length
    · rw [if_neg (fun h => h c2)]
      have := write_loop s fs c2.symm (wsOf s).length 0 [s] (by omega) (by simp)
      simp only [List.drop_zero] at this
      refine Ev.congr (fun k => ?_) this
      unfold sense_Write.f
      rw [widths_eq]
      simp only [Option.bind_some]
      rw [if_neg (by omega), if_pos (by omega)]
      rfl
    · rw [if_pos c2]
      refine Ev.congr (fun k => ?_) (Ev.now _)
      unfold sense_Write.f
      rw [widths_eq]
      simp only [Option.bind_some]
      rw [if_neg (by omega), if_neg (by omega)]

/-! ### the reference's -/
def wb (w : Int) : Int := if w = 8 then 1 else if w = 16 then 2 else if w = -16 then -2 else -4
theorem refWidths_eq (s : Int) : windhoverref11_widths.f s = some ((wsOf s).map wb) := by
  unfold windhoverref11_widths.f wsOf
  repeat (split <;> try rfl)
theorem wb_bytes {w : Int} (h : SWidth w) : windhoverref11_bytes.f (wb w) = some (lenOf w : Int) := by
  rcases h with rfl | rfl | rfl | rfl <;> kernel_rfl
theorem wb_neg {w : Int} (h : SWidth w) : wb w < 0 ↔ w < 0 := by
  rcases h with rfl | rfl | rfl | rfl <;> decide
theorem wb_all {w : Int} (h : SWidth w) : Ev (fun k => windhoverref11_all.f k (wb w)) (manyOf w) := by
  refine Ev.of (fun k => windhoverref11_all.mono _ k) (k := 10) ?_
  rcases h with rfl | rfl | rfl | rfl <;> kernel_rfl
theorem wb_low {w : Int} (h : SWidth w) (hn : w < 0) : wrap64 (Int.tdiv (wrap64 (-manyOf w)) 2) = lowOf w := by
  rcases h with rfl | rfl | rfl | rfl
  · exact absurd hn (by decide)
  · exact absurd hn (by decide)
  · kernel_rfl
  · kernel_rfl
theorem lenOf_le {w : Int} (h : SWidth w) : 1 ≤ lenOf w ∧ lenOf w ≤ 4 := by
  rcases h with rfl | rfl | rfl | rfl <;> decide
theorem many_le {w : Int} (h : SWidth w) : manyOf w ≤ 4294967296 := by
  rcases h with rfl | rfl | rfl | rfl <;> decide
section
variable (fs : List Int) (ws : List Int)
theorem rdigits (i : Nat) (hI : i < 1000) (hi2 : i < ws.length) (hw : SWidth ws[i]) {r : ByteArray × Int} (d : Nat) : ∀ (j : Nat) (n : Int) (x : List Int), j + d = lenOf ws[i] → 0 ≤ n → n < 4294967296 → x.length + d < 140737488355328 →
    Ev (fun k => windhoverref11_Write.l0 k fs (ws.map wb) (x ++ low_ n d) ((i + 1 : Nat) : Int)) r →
    Ev (fun k => windhoverref11_Write.l1 k fs (ws.map wb) x (i : Int) n (j : Int)) r := by
  have hrd : rd (ws.map wb) (i : Int) = wb ws[i] := by rw [rd_get _ i (by rw [List.length_map]; exact hi2), List.getElem_map]
  have hl4 := lenOf_le hw
  induction d with
  | zero =>
    intro j n x hj h0 h1 hx h
    refine Ev.step (fun k => ?_) h
    rw [windhoverref11_Write.l1, if_pos (by omega), if_pos (by rw [List.length_map]; omega), hrd, wb_bytes hw]
    simp only [Option.bind_some]
    rw [if_neg (by omega), wup i (by omega)]
    simp [low_]
  | succ d ih =>
    intro j n x hj h0 h1 hx h
    have h2 := ih (j + 1) (n / 256) (x ++ [n % 256]) (by omega) (by omega) (by omega) (by rw [List.length_append]; simp only [List.length_cons, List.length_nil]; omega) (by rw [List.append_assoc]; exact h)
    refine Ev.step (fun k => ?_) h2
    rw [windhoverref11_Write.l1, if_pos (by omega), if_pos (by rw [List.length_map]; omega), hrd, wb_bytes hw]
    simp only [Option.bind_some]
    rw [if_pos (by omega), if_pos (by omega), Int.tmod_eq_emod_of_nonneg h0, Int.tdiv_eq_ediv_of_nonneg h0, show n % 256 % 256 = n % 256 by omega, w64 (n := n / 256) (by omega) (by omega), wup j (by omega)]
theorem rfield (i : Nat) (hi : i < fs.length) (hi2 : i < ws.length) (hI : i < 1000) (hw : SWidth ws[i]) (x : List Int) (hx : x.length < 140737488000000) {r : ByteArray × Int}
    (h : In ws[i] fs[i] → Ev (fun k => windhoverref11_Write.l0 k fs (ws.map wb) (x ++ low_ fs[i] (lenOf ws[i])) ((i + 1 : Nat) : Int)) r) (hb : ¬ In ws[i] fs[i] → r = (⟨#[]⟩, 5)) :
    Ev (fun k => windhoverref11_Write.l0 k fs (ws.map wb) x (i : Int)) r := by
  have hrd : rd (ws.map wb) (i : Int) = wb ws[i] := by rw [rd_get _ i (by rw [List.length_map]; exact hi2), List.getElem_map]
  obtain ⟨KA, hKA⟩ := wb_all hw
  dsimp only at hKA
  have hml := many_le hw
  obtain ⟨hm0, hm1, hm2⟩ := low_many hw.width
  have hlen4 := lenOf_le hw
  have tail_ : Ev (fun k => windhoverref11_Write.j1 k fs (ws.map wb) x (i : Int) fs[i] (lowOf ws[i])) r := by
    by_cases hin : In ws[i] fs[i]
    · have hin' := hin
      obtain ⟨h3, h4⟩ := hin
      have hu : 0 ≤ (if fs[i] < 0 then fs[i] + manyOf ws[i] else fs[i]) ∧ (if fs[i] < 0 then fs[i] + manyOf ws[i] else fs[i]) < 4294967296 := by
        by_cases hw0 : ws[i] < 0
        · have := hm1 hw0
          split <;> omega
        · have := hm2 hw0
          split <;> omega
      have hdig := rdigits fs ws i hI hi2 hw (lenOf ws[i]) 0 (if fs[i] < 0 then fs[i] + manyOf ws[i] else fs[i]) x (by omega) hu.1 hu.2 (by omega) (by
        have e : low_ (if fs[i] < 0 then fs[i] + manyOf ws[i] else fs[i]) (lenOf ws[i]) = low_ fs[i] (lenOf ws[i]) := by
          split
          · have := low_add (lenOf ws[i]) fs[i] 1
            rw [Int.mul_one, pow_len hw.width] at this
            exact this
          · rfl
        rw [e]
        exact h hin')
      obtain ⟨K, hK⟩ := hdig
      dsimp only at hK
      have hb1 : -2147483648 ≤ lowOf ws[i] ∧ lowOf ws[i] ≤ 0 := by
        rcases hw with h | h | h | h <;> rw [h] <;> decide
      have ew : wrap64 (wrap64 (lowOf ws[i] + manyOf ws[i]) - 1) = lowOf ws[i] + manyOf ws[i] - 1 := by
        rw [w64 (n := lowOf ws[i] + manyOf ws[i]) (by omega) (by omega), w64 (by omega) (by omega)]
      refine ⟨K + KA + 3, fun k hk => ?_⟩
      obtain ⟨k, rfl⟩ : ∃ q, k = q + 3 := ⟨k - 3, by omega⟩
      dsimp only
      rw [windhoverref11_Write.j1, if_neg (by omega), if_pos (by omega), if_pos (by rw [List.length_map]; omega), hrd, hKA _ (by omega)]
      simp only [Option.bind_some]
      rw [ew, decide_eq_false (by omega), windhoverref11_Write.j2, if_neg Bool.false_ne_true]
      have hk2 := hK k (by omega)
      by_cases hneg : fs[i] < 0
      · rw [if_pos hneg] at hk2 ⊢
        rw [if_pos (by omega), if_pos (by rw [List.length_map]; omega), hrd, hKA _ (by omega)]
        simp only [Option.bind_some]
        rw [windhoverref11_Write.j3, w64 (n := fs[i] + manyOf ws[i]) (by omega) (by omega)]
        exact hk2
      · rw [if_neg hneg] at hk2 ⊢
        rw [windhoverref11_Write.j3]
        exact hk2
    · rw [hb hin]
      by_cases h1 : fs[i] < lowOf ws[i]
      · refine ⟨2, fun k hk => ?_⟩
        obtain ⟨k, rfl⟩ : ∃ q, k = q + 2 := ⟨k - 2, by omega⟩
        dsimp only
        rw [windhoverref11_Write.j1, if_pos h1, windhoverref11_Write.j2, if_pos rfl]
      · have h2 : ¬ fs[i] < lowOf ws[i] + manyOf ws[i] := fun h => hin ⟨by omega, h⟩
        have hb1 : -2147483648 ≤ lowOf ws[i] ∧ lowOf ws[i] ≤ 0 := by
          rcases hw with h | h | h | h <;> rw [h] <;> decide
        have ew : wrap64 (wrap64 (lowOf ws[i] + manyOf ws[i]) - 1) = lowOf ws[i] + manyOf ws[i] - 1 := by
          rw [w64 (n := lowOf ws[i] + manyOf ws[i]) (by omega) (by omega), w64 (by omega) (by omega)]
        refine ⟨KA + 2, fun k hk => ?_⟩
        obtain ⟨k, rfl⟩ : ∃ q, k = q + 2 := ⟨k - 2, by omega⟩
        dsimp only
        rw [windhoverref11_Write.j1, if_neg h1, if_pos (by omega), if_pos (by rw [List.length_map]; omega), hrd, hKA _ (by omega)]
        simp only [Option.bind_some]
        rw [ew, decide_eq_true (by omega), windhoverref11_Write.j2, if_pos rfl]
  obtain ⟨K, hK⟩ := tail_
  dsimp only at hK
  refine ⟨K + KA + 1, fun k hk => ?_⟩
  obtain ⟨k, rfl⟩ : ∃ q, k = q + 1 := ⟨k - 1, by omega⟩
  dsimp only
  rw [windhoverref11_Write.l0, if_pos (by rw [List.length_map]; omega), if_pos (by omega), if_pos (by omega), hrd, rd_get fs i hi]
  by_cases hw0 : ws[i] < 0
  · rw [if_pos ((wb_neg hw).2 hw0), hKA _ (by omega)]
    simp only [Option.bind_some]
    rw [wb_low hw hw0]
    exact hK k (by omega)
  · rw [if_neg (fun h => hw0 ((wb_neg hw).1 h))]
    have hk2 := hK k (by omega)
    rw [hm2 hw0] at hk2
    exact hk2
end
theorem refwr_end (x : List Int) (hx : x.length ≤ 1000) (fs ws : List Int) (i : Int) (h : ¬ i < (ws.length : Int)) :
    Ev (fun k => windhoverref11_Write.l0 k fs ws x i) (((⟨#[165]⟩ : ByteArray) ++ strOfNums x) ++ strOfNums [((Fs.sum (ls (strOfNums x)) : Nat) : Int) % 256, ((Fs.sum (ls (strOfNums x)) : Nat) : Int) / 256 % 256], 0) := by
  have hsz : (strOfNums x).size = x.length := strOfNums_size _
  have hsl := sum_lt (ls (strOfNums x))
  obtain ⟨K, hK⟩ := refSum_eq (strOfNums x) (by omega)
  dsimp only at hK
  generalize Fs.sum (ls (strOfNums x)) = c at hK hsl
  refine ⟨K + 1, fun k hk => ?_⟩
  obtain ⟨k, rfl⟩ : ∃ q, k = q + 1 := ⟨k - 1, by omega⟩
  have e1 : Int.tmod (c : Int) 256 % 256 = (c : Int) % 256 := by rw [Int.tmod_eq_emod_of_nonneg (by omega)]; omega
  have e2 : IntKind.u16.wrap (Int.tdiv (c : Int) 256) % 256 = (c : Int) / 256 % 256 := by rw [Fs.wrap_u16, Int.tdiv_eq_ediv_of_nonneg (by omega)]; omega
  dsimp only
  rw [windhoverref11_Write.l0, if_neg h, hK k (by omega)]
  simp only [Option.bind_some, e1, e2]
  rw [if_pos (by omega), if_pos (by rw [ByteArray.size_append, hsz, strOfNums_size]; show 1 + x.length + 2 ≤ _; omega)]
theorem refWrite_loop (s : Int) (fs : List Int) (hl : fs.length = (wsOf s).length) (d : Nat) : ∀ (i : Nat) (x : List Int), i + d = (wsOf s).length → x.length ≤ 1 + 4 * i →
    Ev (fun k => windhoverref11_Write.l0 k fs ((wsOf s).map wb) x (i : Int)) (if AllIn ((wsOf s).drop i) (fs.drop i) then
      (((⟨#[165]⟩ : ByteArray) ++ strOfNums (x ++ encF ((wsOf s).drop i) (fs.drop i))) ++ strOfNums [((Fs.sum (ls (strOfNums (x ++ encF ((wsOf s).drop i) (fs.drop i)))) : Nat) : Int) % 256, ((Fs.sum (ls (strOfNums (x ++ encF ((wsOf s).drop i) (fs.drop i)))) : Nat) : Int) / 256 % 256], 0) else (⟨#[]⟩, 5)) := by
  obtain ⟨hw, hl5, _⟩ := ws_ok s
  induction d with
  | zero =>
    intro i x hi hx
    rw [List.drop_of_length_le (by omega), List.drop_of_length_le (by omega), if_pos (show AllIn [] [] from trivial)]
    rw [show encF [] [] = [] from rfl, List.append_nil]
    exact refwr_end x (by omega) fs _ _ (by rw [List.length_map]; omega)
  | succ d ih =>
    intro i x hi hx
    have h1 : i < (wsOf s).length := by omega
    have h2 : i < fs.length := by omega
    rw [List.drop_eq_getElem_cons h1, List.drop_eq_getElem_cons h2]
    have hwi := hw _ (List.getElem_mem h1)
    have hlen := (lenOf_le hwi).2
    refine rfield fs (wsOf s) i h2 h1 (by omega) hwi x (by omega) (fun hin => ?_) (fun hin => if_neg (fun h => hin h.1))
    have h3 := ih (i + 1) (x ++ low_ fs[i] (lenOf (wsOf s)[i])) (by omega) (by rw [List.length_append, low_length]; omega)
    simp only [AllIn, hin, true_and, encF]
    rw [← List.append_assoc]
    exact h3
theorem refWrite_eq (s : Int) (fs : List Int) : Ev (fun k => windhoverref11_Write.f k s fs) (wrR s fs) := by
  unfold wrR
  by_cases c1 : wsOf s = []
  · rw [if_pos c1]
    refine Ev.congr (fun k => ?_) (Ev.now _)
    unfold windhoverref11_Write.f
    rw [refWidths_eq]
    simp only [Option.bind_some]
    rw [c1, if_pos (by rfl)]
  · have hp := List.length_pos_iff.2 c1
    rw [if_neg c1]
    by_cases c2 : (wsOf s).length = fs.length
    · rw [if_neg (fun h => h c2)]
      have := refWrite_loop s fs c2.symm (wsOf s).length 0 [s] (by omega) (by simp)
      simp only [List.drop_zero] at this
      refine Ev.congr (fun k => ?_) this
      unfold windhoverref11_Write.f
      rw [refWidths_eq]
      simp only [Option.bind_some]
      rw [if_neg (by rw [List.length_map]; omega), if_pos (by rw [List.length_map]; omega), if_pos (by decide)]
      rfl
    · rw [if_pos c2]
      refine Ev.congr (fun k => ?_) (Ev.now _)
      unfold windhoverref11_Write.f
      rw [refWidths_eq]
      simp only [Option.bind_some]
      rw [if_neg (by rw [List.length_map]; omega), if_neg (by rw [List.length_map]; omega)]
end Go.Proofs.Ytbbinmplkbpcdaa.Ps
