import Derived.Test.YtbbinmplkbpcdaaFmF
import Derived.Test.YtbbinmplkbpcdaaWe
/-! What a message's writing and reading compute. -/
set_option linter.unusedVariables false
set_option linter.unusedSectionVars false
namespace Go.Proofs.Ytbbinmplkbpcdaa.Fm
open Go.RowKit Go.Proofs.Ytbbinmplkbpcdaa.Pm Go.Proofs.Ytbbinmplkbpcdaa.Wd Go.Proofs.YtbbinmplkbpcdaaW.PrintWords Go.Proofs.YtbbinmplkbpcdaaW.PrintLast Go.Proofs.YtbbinmplkbpcdaaW.PrintMore

/-! ### a field is written -/
theorem write_loop (n : Int) (m : Nat) (hm : m ≤ 4) (d : Nat) : ∀ (j : Nat) (x : List Int), j + d = m → x.length + d < 140737488355328 →
    Ev (fun k => msgs_write.l0 k x n ((8 * m : Nat) : Int) ((8 * j : Nat) : Int)) (x ++ low_ (n / 2 ^ (8 * j)) d, true) := by
  induction d with
  | zero =>
    intro j x hj hx
    refine Ev.step (fun k => ?_) (Ev.now _)
    rw [msgs_write.l0, if_neg (by omega)]
    simp [low_]
  | succ d ih =>
    intro j x hj hx
    have h := ih (j + 1) (x ++ [(n / 2 ^ (8 * j)) % 256]) (by omega) (by rw [List.length_append]; simp only [List.length_cons, List.length_nil]; omega)
    have e1 : shr .i64 n ((8 * j : Nat) : Int) = n / 2 ^ (8 * j) := by
      unfold shr
      rw [Int.toNat_natCast, Nat.min_eq_left (by show 8 * j ≤ 64; omega)]
    have e2 : n / 2 ^ (8 * (j + 1)) = n / 2 ^ (8 * j) / 256 := by
      rw [Int.ediv_ediv_of_nonneg (by exact Int.le_of_lt (Int.pow_pos (by decide)))]
      congr 1
      rw [show (256 : Int) = 2 ^ 8 from rfl, ← Int.pow_add, Nat.mul_add]
    rw [e2] at h
    refine Ev.step (fun k => ?_) (by
      rw [low_]
      simpa using h)
    rw [msgs_write.l0, if_pos (by omega), if_pos (by omega), if_pos (by omega), e1]
    rw [show ((8 * j : Nat) : Int) + 8 = ((8 * j : Nat) : Int) + ((8 : Nat) : Int) from rfl, wrp (by omega)]
    rfl
theorem write_part (x : List Int) (n lo hi : Int) (m : Nat) (hm : m ≤ 4) (hx : x.length < 140737488000000) (hh : wrap64 ((wrap64 (lo + (shl .i64 1 ((8 * m : Nat) : Int)))) - 1) = hi - 1) :
    Ev (fun k => msgs_write.j0 k x n lo ((8 * m : Nat) : Int)) (if lo ≤ n ∧ n < hi then (x ++ low_ n m, true) else ([], false)) := by
  by_cases h1 : n < lo
  · rw [if_neg (by omega)]
    refine ⟨2, fun k hk => ?_⟩
    obtain ⟨k, rfl⟩ : ∃ q, k = q + 2 := ⟨k - 2, by omega⟩
    dsimp only
    rw [msgs_write.j0, if_pos h1, msgs_write.j1, if_pos rfl]
  · by_cases h2 : n < hi
    · rw [if_pos ⟨by omega, h2⟩]
      obtain ⟨K, hK⟩ := write_loop n m hm m 0 x (by omega) (by omega)
      rw [Nat.mul_zero, Int.pow_zero, Int.ediv_one] at hK
      dsimp only at hK
      refine ⟨K + 2, fun k hk => ?_⟩
      obtain ⟨k, rfl⟩ : ∃ q, k = q + 2 := ⟨k - 2, by omega⟩
      dsimp only
      rw [msgs_write.j0, if_neg h1, if_pos (by omega), hh, decide_eq_false (by omega), msgs_write.j1, if_neg Bool.false_ne_true]
      exact hK k (by omega)
    · rw [if_neg (by omega)]
      refine ⟨2, fun k hk => ?_⟩
      obtain ⟨k, rfl⟩ : ∃ q, k = q + 2 := ⟨k - 2, by omega⟩
      dsimp only
      rw [msgs_write.j0, if_neg h1, if_pos (by omega), hh, decide_eq_true (by omega), msgs_write.j1, if_pos rfl]
theorem write_eq (x : List Int) (n w : Int) (hw : Width w) (hx : x.length < 140737488000000) :
    Ev (fun k => msgs_write.f k x n w) (if In w n then (x ++ low_ n (lenOf w), true) else ([], false)) := by
  unfold msgs_write.f
  rcases hw with rfl | rfl | rfl | rfl | rfl
  · exact write_part x n 0 256 1 (by decide) hx (by kernel_rfl)
  · exact write_part x n 0 65536 2 (by decide) hx (by kernel_rfl)
  · exact write_part x n 0 4294967296 4 (by decide) hx (by kernel_rfl)
  · have e : wrap64 (((8 * 2 : Nat) : Int) - 1) = 15 := by kernel_rfl
    have e2 : shl IntKind.i64 (-1) 15 = -32768 := by kernel_rfl
    have e3 : wrap64 (- -16) = ((8 * 2 : Nat) : Int) := by kernel_rfl
    refine Ev.congr (fun k => ?_) (write_part x n (-32768) 32768 2 (by decide) hx (by kernel_rfl))
    rw [if_pos (by decide), e3, e, if_pos (by decide), e2]
  · have e : wrap64 (((8 * 4 : Nat) : Int) - 1) = 31 := by kernel_rfl
    have e2 : shl IntKind.i64 (-1) 31 = -2147483648 := by kernel_rfl
    have e3 : wrap64 (- -32) = ((8 * 4 : Nat) : Int) := by kernel_rfl
    refine Ev.congr (fun k => ?_) (write_part x n (-2147483648) 2147483648 4 (by decide) hx (by kernel_rfl))
    rw [if_pos (by decide), e3, e, if_pos (by decide), e2]

/-! ### a message is written -/
def tab (k : Int) : List Int := msgs_widths.tab.getD k.toNat []
theorem tab_width : ∀ ws ∈ msgs_widths.tab, ∀ w ∈ ws, w = 8 ∨ w = 16 ∨ w = 32 ∨ w = -16 ∨ w = -32 := by decide
theorem tab_in (k : Int) : tab k = [] ∨ tab k ∈ msgs_widths.tab := by
  unfold tab
  rw [List.getD_eq_getElem?_getD]
  rcases h : msgs_widths.tab[k.toNat]? with _ | ws
  · exact .inl rfl
  · exact .inr (List.mem_of_getElem? h)
theorem tab_ok (k : Int) : ∀ w ∈ tab k, Width w := by
  intro w hw
  rcases tab_in k with h | h
  · rw [h] at hw; cases hw
  · exact tab_width _ h w hw
theorem tab_len : ∀ ws ∈ msgs_widths.tab, ws.length ≤ 7 ∧ sumW ws ≤ 28 := by decide
theorem tab_small (k : Int) : (tab k).length ≤ 7 ∧ sumW (tab k) ≤ 28 := by
  rcases tab_in k with h | h
  · rw [h]; decide
  · exact tab_len _ h
theorem rd_get (xs : List Int) (i : Nat) (h : i < xs.length) : rd xs (i : Int) = xs[i] := by
  unfold rd
  rw [Int.toNat_natCast, List.getD_eq_getElem?_getD, List.getElem?_eq_getElem h]
  rfl
/-- A message that may be written. -/
def Good (kind : Int) (fs : List Int) : Prop := tab kind ≠ [] ∧ AllIn (tab kind) fs
instance (kind : Int) (fs : List Int) : Decidable (Good kind fs) := inferInstanceAs (Decidable (_ ∧ _))
theorem encode_loop (a0 kind : Int) (ws fs : List Int) (hw : ∀ w ∈ ws, Width w) (hl : ws.length = fs.length) (hs : ws.length ≤ 7) (d : Nat) : ∀ (i : Nat) (x : List Int), i + d = ws.length → x.length ≤ 4 * i →
    Ev (fun k => msgs_Encode.l0 k a0 x ws (ws.length : Int) (i : Int) kind fs) (if AllIn (ws.drop i) (fs.drop i) then (a0, wrap64 kind, strOfNums (x ++ encF (ws.drop i) (fs.drop i)), 0) else (0, 0, ⟨#[]⟩, 5)) := by
  induction d with
  | zero =>
    intro i x hi hx
    rw [List.drop_of_length_le (by omega), List.drop_of_length_le (by omega), if_pos (show AllIn [] [] from trivial)]
    refine Ev.step (fun k => ?_) (Ev.now _)
    rw [msgs_Encode.l0, if_neg (by omega)]
    simp [encF]
  | succ d ih =>
    intro i x hi hx
    have h1 : i < ws.length := by omega
    have h2 : i < fs.length := by omega
    rw [List.drop_eq_getElem_cons h1, List.drop_eq_getElem_cons h2]
    have hwi := hw _ (List.getElem_mem h1)
    obtain ⟨K, hK⟩ := write_eq x fs[i] ws[i] hwi (by omega)
    dsimp only at hK
    have hlen : lenOf ws[i] ≤ 4 := by
      rcases hwi with h | h | h | h | h <;> rw [h] <;> decide
    by_cases hin : In ws[i] fs[i]
    · obtain ⟨K2, hK2⟩ := ih (i + 1) (x ++ low_ fs[i] (lenOf ws[i])) (by omega) (by rw [List.length_append, low_length]; omega)
      dsimp only at hK2
      rw [if_pos hin] at hK
      refine ⟨K + K2 + 1, fun k hk => ?_⟩
      obtain ⟨k, rfl⟩ : ∃ q, k = q + 1 := ⟨k - 1, by omega⟩
      dsimp only
      rw [msgs_Encode.l0, if_pos (by omega), if_pos (by omega), if_pos (by omega), if_pos (by omega), rd_get ws i h1, rd_get fs i h2, hK k (by omega)]
      simp only [Option.bind_some, if_true]
      rw [wr1 (by omega), hK2 k (by omega)]
      simp only [AllIn, hin, true_and, encF, List.append_assoc]
    · rw [if_neg hin] at hK
      rw [if_neg (fun h => hin h.1)]
      refine ⟨K + 1, fun k hk => ?_⟩
      obtain ⟨k, rfl⟩ : ∃ q, k = q + 1 := ⟨k - 1, by omega⟩
      dsimp only
      rw [msgs_Encode.l0, if_pos (by omega), if_pos (by omega), if_pos (by omega), if_pos (by omega), rd_get ws i h1, rd_get fs i h2, hK k (by omega)]
      simp only [Option.bind_some, Bool.false_eq_true, if_false]
theorem widths_eq (kind : Int) (h0 : 0 ≤ kind) (h1 : kind ≤ 255) : msgs_widths.f kind = some (tab kind) := by
  unfold msgs_widths.f
  rw [if_pos ⟨h0, h1⟩]
  rfl
theorem msg_good (seq kind : Int) (fs : List Int) (h0 : 0 ≤ kind) (h1 : kind ≤ 255) (s0 : 0 ≤ seq) (s1 : seq ≤ 255) (hg : Good kind fs) :
    Ev (fun k => msgs_Encode.f k seq kind fs) (seq, kind, strOfNums (encF (tab kind) fs), 0) := by
  obtain ⟨hne, hin⟩ := hg
  have hl := hin.length
  have hp : 0 < (tab kind).length := List.length_pos_iff.2 hne
  have := encode_loop seq kind (tab kind) fs (tab_ok kind) hl.symm (tab_small kind).1 (tab kind).length 0 [] (by omega) (Nat.le_refl _)
  simp only [List.drop_zero, List.nil_append] at this
  rw [if_pos hin, w64 (n := kind) (by omega) (by omega)] at this
  refine Ev.congr (fun k => ?_) this
  unfold msgs_Encode.f
  rw [widths_eq kind h0 h1]
  simp only [Option.bind_some]
  rw [if_neg (by omega), if_pos (by omega), if_neg (by omega), if_neg (by omega)]
  rfl
theorem msg_bad (seq kind : Int) (fs : List Int) (h0 : 0 ≤ kind) (h1 : kind ≤ 255) (hg : ¬ Good kind fs) :
    ∃ e, e ≠ 0 ∧ Ev (fun k => msgs_Encode.f k seq kind fs) (0, 0, ⟨#[]⟩, e) := by
  by_cases c1 : tab kind = []
  · refine ⟨6, by decide, Ev.congr (fun k => ?_) (Ev.now _)⟩
    unfold msgs_Encode.f
    rw [widths_eq kind h0 h1]
    simp only [Option.bind_some]
    rw [c1, if_pos (by rfl)]
  · have hp : 0 < (tab kind).length := List.length_pos_iff.2 c1
    by_cases c2 : (tab kind).length = fs.length
    · by_cases c3 : seq < 0
      · refine ⟨5, by decide, Ev.congr (fun k => ?_) (Ev.now _)⟩
        unfold msgs_Encode.f
        rw [widths_eq kind h0 h1]
        simp only [Option.bind_some]
        rw [if_neg (by omega), if_pos (by omega), if_pos c3]
      · by_cases c4 : seq > 255
        · refine ⟨5, by decide, Ev.congr (fun k => ?_) (Ev.now _)⟩
          unfold msgs_Encode.f
          rw [widths_eq kind h0 h1]
          simp only [Option.bind_some]
          rw [if_neg (by omega), if_pos (by omega), if_neg c3, if_pos c4]
        · refine ⟨5, by decide, ?_⟩
          have := encode_loop seq kind (tab kind) fs (tab_ok kind) c2 (tab_small kind).1 (tab kind).length 0 [] (by omega) (Nat.le_refl _)
          simp only [List.drop_zero, List.nil_append] at this
          rw [if_neg (fun h => hg ⟨c1, h⟩)] at this
          refine Ev.congr (fun k => ?_) this
          unfold msgs_Encode.f
          rw [widths_eq kind h0 h1]
          simp only [Option.bind_some]
          rw [if_neg (by omega), if_pos (by omega), if_neg (by omega), if_neg (by omega)]
          rfl
    · refine ⟨50, by decide, Ev.congr (fun k => ?_) (Ev.now _)⟩
      unfold msgs_Encode.f
      rw [widths_eq kind h0 h1]
      simp only [Option.bind_some]
      rw [if_neg (by omega), if_neg (by omega)]
end Go.Proofs.Ytbbinmplkbpcdaa.Fm
