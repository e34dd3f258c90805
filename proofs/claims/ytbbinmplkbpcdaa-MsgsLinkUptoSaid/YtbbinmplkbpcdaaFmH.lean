import Derived.Test.YtbbinmplkbpcdaaFmG
/-! What a message's reading computes, of bytes that were written. -/
set_option linter.unusedVariables false
set_option linter.unusedSectionVars false
namespace Go.Proofs.Ytbbinmplkbpcdaa.Fm
open Go.RowKit Go.Proofs.Ytbbinmplkbpcdaa.Pm Go.Proofs.Ytbbinmplkbpcdaa.Wd Go.Proofs.YtbbinmplkbpcdaaW.PrintWords Go.Proofs.YtbbinmplkbpcdaaW.PrintLast Go.Proofs.YtbbinmplkbpcdaaW.PrintMore
theorem width_bits {w : Int} (h : Width w) : mx w (wrap64 (-w)) = ((8 * lenOf w : Nat) : Int) ∧ wrap64 (Int.tdiv ((8 * lenOf w : Nat) : Int) 8) = (lenOf w : Int) := by
  rcases h with rfl | rfl | rfl | rfl | rfl <;> exact ⟨by kernel_rfl, by kernel_rfl⟩
theorem width_sign {w : Int} (h : Width w) (hn : w < 0) : wrap64 (((8 * lenOf w : Nat) : Int) - 1) = ((8 * lenOf w - 1 : Nat) : Int) ∧ 2 * shl .i64 1 ((8 * lenOf w - 1 : Nat) : Int) = manyOf w ∧ shl .i64 1 ((8 * lenOf w : Nat) : Int) = manyOf w := by
  rcases h with rfl | rfl | rfl | rfl | rfl
  · exact absurd hn (by decide)
  · exact absurd hn (by decide)
  · exact absurd hn (by decide)
  · exact ⟨by kernel_rfl, by kernel_rfl, by kernel_rfl⟩
  · exact ⟨by kernel_rfl, by kernel_rfl, by kernel_rfl⟩
theorem len_small {w : Int} (h : Width w) : 1 ≤ lenOf w ∧ lenOf w ≤ 4 := by
  rcases h with rfl | rfl | rfl | rfl | rfl <;> decide
theorem mul8 (j : Nat) (h : j ≤ 4) : wrap64 (8 * (j : Int)) = ((8 * j : Nat) : Int) := by
  rw [w64 (by omega) (by omega)]
  omega
theorem bt_num (s : ByteArray) (j : Nat) (h : j < s.size) : bt s (j : Int) = (bytesOf s).getD j 0 := by
  rw [← rd_bytesOf]
  rfl
theorem field_loop (s : ByteArray) (w : Int) (hw : Width w) (hm : lenOf w ≤ s.size) (hs : s.size ≤ 1048576) (ws : List Int) (len i : Nat) (kind : Int) (out : List Int) (ho : out.length ≤ 7) (hi : i ≤ 7) {r : Int × List Int × Int}
    (h : Ev (fun k => msgs_Decode.l0 k (s.extract (lenOf w) s.size) ws (len : Int) ((i + 1 : Nat) : Int) kind (out ++ [val w ((bytesOf s).take (lenOf w))])) r) (d : Nat) : ∀ j, j + d = lenOf w →
    Ev (fun k => msgs_Decode.l1 k s w ((8 * lenOf w : Nat) : Int) (num ((bytesOf s).take j)) ws (len : Int) (i : Int) (lenOf w : Int) (j : Int) kind out) r := by
  obtain ⟨hb1, hb2⟩ := width_bits hw
  have hl4 := len_small hw
  have hlen : (bytesOf s).length = s.size := bytesOf_length s
  induction d with
  | zero =>
    intro j hj
    obtain rfl : j = lenOf w := by omega
    have hnb := num_bounds _ ((bytes_of s).take (lenOf w))
    rw [List.length_take, hlen, Nat.min_eq_left hm] at hnb
    rw [pow_len hw] at hnb
    have hmm := low_many hw
    have hmx : manyOf w ≤ 4294967296 := by
      rcases hw with rfl | rfl | rfl | rfl | rfl <;> decide
    refine Ev.step (fun k => ?_) h
    rw [msgs_Decode.l1, if_neg (by omega)]
    unfold val
    by_cases hn : w < 0
    · obtain ⟨h1, h2, h3⟩ := width_sign hw hn
      rw [if_pos hn, h1, if_pos (by omega), hb2, wr1 (by omega), h3]
      by_cases hg : num ((bytesOf s).take (lenOf w)) ≥ shl .i64 1 ((8 * lenOf w - 1 : Nat) : Int)
      · rw [if_pos hg, if_pos (by omega), if_pos (by omega), if_pos (by omega), if_pos (by omega), if_pos ⟨hn, by omega⟩, w64 (by omega) (by omega)]
        rfl
      · rw [if_neg hg, if_pos (by omega), if_pos (by omega), if_pos (by omega), if_neg (by omega)]
        rfl
    · rw [if_neg hn, hb2, wr1 (by omega), if_pos (by omega), if_pos (by omega), if_pos (by omega), if_neg (fun h => hn h.1)]
      rfl
  | succ d ih =>
    intro j hj
    have hjl : j < (bytesOf s).length := by omega
    have h1 := ih (j + 1) (by omega)
    have hnb := num_bounds _ ((bytes_of s).take j)
    rw [List.length_take, hlen, Nat.min_eq_left (by omega)] at hnb
    have hby := (bytes_of s) _ (List.getElem_mem hjl)
    have hg : (bytesOf s).getD j 0 = (bytesOf s)[j] := by
      rw [List.getD_eq_getElem?_getD, List.getElem?_eq_getElem hjl]
      rfl
    have e : num ((bytesOf s).take (j + 1)) = num ((bytesOf s).take j) + (bytesOf s)[j] * pow_ j := by
      rw [List.take_succ_eq_append_getElem hjl, num_snoc, List.length_take, hlen, Nat.min_eq_left (by omega)]
    rw [e] at h1
    refine Ev.step (fun k => ?_) h1
    rw [msgs_Decode.l1, if_pos (by omega), if_pos (by omega), if_pos (by omega), mul8 j (by omega), if_pos (by omega), bt_num s j (by omega), hg, or_byte _ _ j (by omega) hnb.1 hnb.2 hby.1 hby.2, wr1 (by omega)]
theorem decode_loop (ws : List Int) (hw : ∀ w ∈ ws, Width w) (hs : ws.length ≤ 7) (kind : Int) (d : Nat) : ∀ (i : Nat) (s : ByteArray) (out : List Int), i + d = ws.length → (bytesOf s).length = sumW (ws.drop i) → out.length = i → s.size ≤ 1048576 →
    Ev (fun k => msgs_Decode.l0 k s ws (ws.length : Int) (i : Int) kind out) (kind, out ++ decF (ws.drop i) (bytesOf s), 0) := by
  induction d with
  | zero =>
    intro i s out hi hl ho hsz
    rw [List.drop_of_length_le (by omega)] at hl ⊢
    refine Ev.step (fun k => ?_) (Ev.now _)
    have he : s.toList = [] := by
      rw [ls_toList]
      apply List.eq_nil_of_length_eq_zero
      rw [ls_len, ← bytesOf_length, hl]
      rfl
    rw [msgs_Decode.l0, if_neg (by omega), if_pos he]
    simp [decF]
  | succ d ih =>
    intro i s out hi hl ho hsz
    have h1 : i < ws.length := by omega
    rw [List.drop_eq_getElem_cons h1] at hl ⊢
    have hwi := hw _ (List.getElem_mem h1)
    obtain ⟨hb1, hb2⟩ := width_bits hwi
    have hm : lenOf ws[i] + sumW (ws.drop (i + 1)) = s.size := by
      rw [← bytesOf_length s, hl]
      rfl
    have h := ih (i + 1) (s.extract (lenOf ws[i]) s.size) (out ++ [val ws[i] ((bytesOf s).take (lenOf ws[i]))]) (by omega) (by rw [bytesOf_tail, List.length_drop, bytesOf_length]; omega) (by rw [List.length_append, ho]; rfl) (by rw [ByteArray.size_extract]; omega)
    rw [bytesOf_tail, List.append_assoc] at h
    have h2 := field_loop s ws[i] hwi (by omega) hsz ws ws.length i kind out (by omega) (by omega) h (lenOf ws[i]) 0 (by omega)
    refine Ev.step (fun k => ?_) h2
    rw [msgs_Decode.l0, if_pos (by omega), if_pos (by omega), if_pos (by omega), rd_get ws i h1, hb1, hb2, if_neg (by omega)]
    rfl
theorem decode_good (seq kind : Int) (fs : List Int) (h0 : 1 ≤ kind) (h1 : kind ≤ 11) (hg : Good kind fs) :
    Ev (fun k => msgs_Decode.f k seq kind (strOfNums (encF (tab kind) fs))) (kind, fs, 0) := by
  obtain ⟨hne, hin⟩ := hg
  have hp : 0 < (tab kind).length := List.length_pos_iff.2 hne
  have hby : bytesOf (strOfNums (encF (tab kind) fs)) = encF (tab kind) fs := of_strOfNums _ enc_range
  have hl := enc_length hin.length
  have hsz : (strOfNums (encF (tab kind) fs)).size = (encF (tab kind) fs).length := strOfNums_size _
  have hsm := (tab_small kind).2
  obtain ⟨K, hK⟩ := decode_loop (tab kind) (tab_ok kind) (tab_small kind).1 kind (tab kind).length 0 (strOfNums (encF (tab kind) fs)) [] (by omega) (by rw [hby]; exact hl) rfl (by omega)
  have hd := dec_enc (tab_ok kind) hin []
  rw [List.append_nil] at hd
  simp only [List.drop_zero, hby, List.nil_append, hd] at hK
  refine ⟨K + 1, fun k hk => ?_⟩
  obtain ⟨k, rfl⟩ : ∃ q, k = q + 1 := ⟨k - 1, by omega⟩
  dsimp only
  unfold msgs_Decode.f
  rw [if_neg (by omega), decide_eq_false (by omega), msgs_Decode.j0, if_neg Bool.false_ne_true, show kind % 256 = kind by omega, widths_eq kind (by omega) (by omega)]
  simp only [Option.bind_some]
  rw [if_neg (by omega)]
  exact hK k (by omega)
end Go.Proofs.Ytbbinmplkbpcdaa.Fm
