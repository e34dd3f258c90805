import Derived.Test.YtbbinmplkbpcdaaFmE
/-! A reader's Feed computes the relation of reading. -/
set_option linter.unusedVariables false
set_option linter.unusedSectionVars false
namespace Go.Proofs.Ytbbinmplkbpcdaa.Fm
open Go.RowKit Go.Proofs.Ytbbinmplkbpcdaa.Pm Go.Proofs.YtbbinmplkbpcdaaW.PrintWords Go.Proofs.YtbbinmplkbpcdaaW.PrintLast Go.Proofs.YtbbinmplkbpcdaaW.PrintMore

theorem index_eq (s : ByteArray) : strings_Index.f s (⟨#[253]⟩ : ByteArray) = some (Lib.indexByte (ls s) 253) := by
  unfold strings_Index.f
  rw [dif_pos (by rfl)]
  rfl
theorem indexByte_cons (b : UInt8) (t : List UInt8) : Lib.indexByte (b :: t) 253 = if b == 253 then 0 else if Lib.indexByte t 253 == -1 then -1 else Lib.indexByte t 253 + 1 := rfl
theorem indexByte_lt (t : List UInt8) : -1 ≤ Lib.indexByte t 253 ∧ Lib.indexByte t 253 ≤ t.length := by
  induction t with
  | nil => exact ⟨by decide, by decide⟩
  | cons b t ih =>
    rw [indexByte_cons, List.length_cons]
    split
    · omega
    · split
      · omega
      · rename_i h
        rw [beq_iff_eq] at h
        omega
theorem seek_nil (s : ByteArray) (x : Int) (h : ls s = []) : frame_buffer_seek.f s x = some (false, str [], x) := by
  unfold frame_buffer_seek.f
  rw [index_eq, h]
  rfl
theorem seek_fd (s : ByteArray) (x : Int) {t : List UInt8} (h : ls s = 253 :: t) : frame_buffer_seek.f s x = some (true, s, x) := by
  unfold frame_buffer_seek.f
  rw [index_eq, h, indexByte_cons, if_pos (by rfl)]
  simp only [Option.bind_some]
  rw [if_neg (by decide), if_pos (by decide), if_pos (by omega)]
  congr 3
  apply ls_inj
  rw [ls_tail]
  rfl
theorem seek_skip (s : ByteArray) (x : Int) {b : UInt8} {t : List UInt8} (h : ls s = b :: t) (hb : b ≠ 253) : frame_buffer_seek.f s x = frame_buffer_seek.f (str t) x := by
  have hz : s.size = t.length + 1 := by rw [← ls_len, h]; rfl
  unfold frame_buffer_seek.f
  rw [index_eq, index_eq, h, ls_strl, indexByte_cons, if_neg (by simpa using hb), str_size, hz]
  simp only [Option.bind_some]
  obtain ⟨h1, h2⟩ := indexByte_lt t
  by_cases hi : Lib.indexByte t 253 = -1
  · rw [hi]
    rfl
  · generalize Lib.indexByte t 253 = j at h1 h2 hi
    have e : (if (j == -1) = true then (-1 : Int) else j + 1) = j + 1 := if_neg (by simpa using hi)
    rw [e]
    rw [if_neg (by omega), if_pos (by omega), if_pos (by omega), if_neg (by omega), if_pos (by omega), if_pos (by omega)]
    congr 3
    apply ls_inj
    rw [← hz, ls_tail, h]
    conv => rhs; rw [← str_size t, ls_tail, ls_strl]
    rw [show (j + 1).toNat = j.toNat + 1 by omega]
    rfl
theorem held_eq (s : ByteArray) (x : Int) : frame_buffer_held.f s x = some ((s.size : Int), s, x) := rfl
theorem clone_eq (s : ByteArray) (h : s.size ≤ 281474976710656) : strings_Clone.f s = some s := by
  unfold strings_Clone.f stringslite_Clone.f
  rw [if_pos h]
  rfl
theorem drop_eq (s : ByteArray) (x : Int) (n : Nat) (h : n ≤ s.size) : frame_buffer_drop.f s x (n : Int) = some (str ((ls s).drop n), x) := by
  unfold frame_buffer_drop.f
  rw [if_pos (by omega), if_pos (by omega)]
  congr 2
  apply ls_inj
  rw [ls_tail, ls_strl, Int.toNat_natCast]
/-- How many are bad, with an end. -/
def most (n : Nat) : Nat := min n 65535
theorem wrong_eq (s : ByteArray) (n : Nat) {b : UInt8} {t : List UInt8} (h : ls s = b :: t) (hn : n < 4294967296) : frame_Reader_wrong.f s ((most n : Nat) : Int) = some (str t, ((most (n + 1) : Nat) : Int)) := by
  have hz : s.size = t.length + 1 := by rw [← ls_len, h]; rfl
  have hm : most n ≤ 65535 := by unfold most; omega
  have e : mn (wrap64 (((most n : Nat) : Int) + 1)) 65535 = ((most (n + 1) : Nat) : Int) := by
    rw [wr1 (by omega)]
    unfold mn most
    split <;> omega
  unfold frame_Reader_wrong.f
  have hd := drop_eq s ((most (n + 1) : Nat) : Int) 1 (by omega)
  rw [show ((1 : Nat) : Int) = 1 from rfl] at hd
  rw [e, hd, h]
  rfl

section
variable (s : ByteArray) (hs : s.size < 140737488355328) (x5 : List S45) (x6 : Nat)
include hs
theorem feed_skip {b : UInt8} {t : List UInt8} (h : ls s = b :: t) (hb : b ≠ 253) (k : Nat) (x : Int) : frame_Reader_Feed.l0 (k + 1) x5 s x = frame_Reader_Feed.l0 (k + 1) x5 (str t) x := by
  rw [frame_Reader_Feed.l0, frame_Reader_Feed.l0, seek_skip s x h hb]
theorem feed_short {t : List UInt8} (h : ls s = 253 :: t) (hk : kindOf t = .short) (k : Nat) (x : Int) : frame_Reader_Feed.l0 (k + 1) x5 s x = some (x5, s, x) := by
  have hz : s.size = t.length + 1 := by rw [← ls_len, h]; rfl
  rw [frame_Reader_Feed.l0, seek_fd s x h]
  simp only [Option.bind_some, held_eq, clone_eq s (by omega)]
  rw [if_pos trivial]
  rcases kind_short hk with rfl | ⟨h0, hm, hlt⟩
  · rw [if_pos (by rw [hz]; decide)]
  · have hp : 0 < t.length := List.length_pos_iff.2 h0
    have hb := bt_drop s 1 0 (by omega)
    have hsl := size_lt t
    rw [Nat.add_zero, h, show ((1 : Nat) : Int) = 1 from rfl, show (253 :: t : List UInt8).drop 1 = t from rfl, getD_zero] at hb
    rw [if_neg (by omega), if_pos (by omega)]
    simp only [hb, wrn (i := size_ t) (by omega)]
    rw [if_neg (by omega)]
    have e : wrap64 (wrap64 (4 + ((size_ t : Nat) : Int)) + 2) = ((4 + size_ t + 2 : Nat) : Int) := by
      rw [show (4 : Int) + ((size_ t : Nat) : Int) = ((4 + size_ t : Nat) : Int) by omega, wrn (by omega), wr2 (by omega)]
    rw [e, if_pos (by omega)]
theorem feed_big {t : List UInt8} (h : ls s = 253 :: t) (h0 : t ≠ []) (hm : 64 < size_ t) (hx : x6 < 4294967296) (k : Nat) :
    frame_Reader_Feed.l0 (k + 1) x5 s ((most x6 : Nat) : Int) = frame_Reader_Feed.l0 k x5 (str t) ((most (x6 + 1) : Nat) : Int) := by
  have hz : s.size = t.length + 1 := by rw [← ls_len, h]; rfl
  rw [frame_Reader_Feed.l0, seek_fd s _ h]
  simp only [Option.bind_some, held_eq]
  rw [if_pos trivial]
  have hp : 0 < t.length := List.length_pos_iff.2 h0
  have hb := bt_drop s 1 0 (by omega)
  have hsl := size_lt t
  rw [Nat.add_zero, h, show ((1 : Nat) : Int) = 1 from rfl, show (253 :: t : List UInt8).drop 1 = t from rfl, getD_zero] at hb
  rw [if_neg (by omega), if_pos (by omega)]
  simp only [hb, wrn (i := size_ t) (by omega), wrong_eq s x6 h hx, Option.bind_some]
  rw [if_pos (by omega)]
theorem feed_whole {t : List UInt8} (h : ls s = 253 :: t) (h0 : t ≠ []) (hm : size_ t ≤ 64) (hl5 : 5 + size_ t ≤ t.length) (hx5 : x5.length < 4398046511104) (hx : x6 < 4294967296) :
    ∃ K, ∀ k, K ≤ k → frame_Reader_Feed.l0 (k + 1) x5 s ((most x6 : Nat) : Int) =
      if ok t then frame_Reader_Feed.l0 k (x5 ++ [frameOf t]) (str (t.drop (5 + size_ t))) ((most x6 : Nat) : Int) else frame_Reader_Feed.l0 k x5 (str t) ((most (x6 + 1) : Nat) : Int) := by
  have hz : s.size = t.length + 1 := by rw [← ls_len, h]; rfl
  have hb := bt_drop s 1 0 (by omega)
  have hsl := size_lt t
  rw [Nat.add_zero, h, show ((1 : Nat) : Int) = 1 from rfl, show (253 :: t : List UInt8).drop 1 = t from rfl, getD_zero] at hb
  have e4 : wrap64 (4 + ((size_ t : Nat) : Int)) = ((4 + size_ t : Nat) : Int) := by
    rw [show (4 : Int) + ((size_ t : Nat) : Int) = ((4 + size_ t : Nat) : Int) by omega, wrn (by omega)]
  have e6 : wrap64 (((4 + size_ t : Nat) : Int) + 2) = ((4 + size_ t + 2 : Nat) : Int) := wr2 (by omega)
  -- the frame's bytes
  obtain ⟨y, hy⟩ : ∃ y, s.extract 0 (4 + size_ t + 2) = y := ⟨_, rfl⟩
  have hly : ls y = 253 :: t.take (5 + size_ t) := by
    rw [← hy, ls_head, h, show 4 + size_ t + 2 = 5 + size_ t + 1 by omega, List.take_succ_cons]
  have hyz : y.size = 6 + size_ t := by
    rw [← ls_len, hly, List.length_cons, List.length_take]
    omega
  have hl1 : ls (y.extract 1 (4 + size_ t)) = t.take (3 + size_ t) := by
    rw [ls_extract, hly, List.drop_succ_cons, List.drop_zero, List.take_take]
    congr 1
    omega
  have hl2 : ls (y.extract (4 + size_ t) y.size) = (t.drop (3 + size_ t)).take 2 := by
    rw [ls_tail, hly, show 4 + size_ t = 3 + size_ t + 1 by omega, List.drop_succ_cons, List.drop_take]
    congr 1
    omega
  have hl4 : ls (y.extract 4 (4 + size_ t)) = (t.drop 3).take (size_ t) := by
    rw [ls_extract, hly, List.drop_succ_cons, List.drop_take, List.take_take]
    congr 1
    omega
  have b2 := bt_drop y 2 0 (by omega)
  have b3 := bt_drop y 3 0 (by omega)
  rw [Nat.add_zero, hly, show ((2 : Nat) : Int) = 2 from rfl] at b2
  rw [Nat.add_zero, hly, show ((3 : Nat) : Int) = 3 from rfl] at b3
  have g2 : ((253 :: t.take (5 + size_ t) : List UInt8).drop 2).getD 0 0 = t.getD 1 0 := by
    rw [List.getD_eq_getElem?_getD, List.getElem?_drop, List.getElem?_cons_succ, List.getElem?_take_of_lt (by omega), ← List.getD_eq_getElem?_getD]
  have g3 : ((253 :: t.take (5 + size_ t) : List UInt8).drop 3).getD 0 0 = t.getD 2 0 := by
    rw [List.getD_eq_getElem?_getD, List.getElem?_drop, List.getElem?_cons_succ, List.getElem?_take_of_lt (by omega), ← List.getD_eq_getElem?_getD]
  rw [g2] at b2
  rw [g3] at b3
  have hs1 := UInt8.toNat_lt (t.getD 1 0)
  have hs2 := UInt8.toNat_lt (t.getD 2 0)
  have hcz : (y.extract 1 (4 + size_ t)).size = 3 + size_ t := by rw [← ls_len, hl1, List.length_take]; omega
  have hpz : (y.extract 4 (4 + size_ t)).size = size_ t := by rw [← ls_len, hl4, List.length_take, List.length_drop]; omega
  obtain ⟨K, hK⟩ := check_eq (y.extract 1 (4 + size_ t)) (by omega) (by omega)
  rw [hl1] at hK
  have hd := drop_eq s ((most x6 : Nat) : Int) (6 + size_ t) (by omega)
  have hdl : (ls s).drop (6 + size_ t) = t.drop (5 + size_ t) := by
    rw [h, show 6 + size_ t = 5 + size_ t + 1 by omega, List.drop_succ_cons]
  rw [hdl] at hd
  refine ⟨K, fun k hk => ?_⟩
  dsimp only at hK
  rw [frame_Reader_Feed.l0, seek_fd s _ h]
  simp only [Option.bind_some, held_eq]
  rw [if_pos trivial, if_neg (by omega), if_pos (by omega)]
  simp only [hb, wrn (i := size_ t) (by omega), e4, e6, Int.toNat_natCast, hy]
  rw [if_neg (by omega), if_neg (by omega), if_pos (by omega), if_pos (by omega), if_pos (by omega), if_pos (by omega), hK k hk]
  simp only [Option.bind_some, ls_toList, ls_strl, hl2]
  rw [if_pos (by omega)]
  by_cases hok : ok t
  · rw [if_pos (show two (chk (List.take (3 + size_ t) t)) = List.take 2 (List.drop (3 + size_ t) t) from Eq.symm hok), if_pos (by omega), if_pos (by omega), if_pos (by omega), clone_eq _ (by omega), if_pos hok]
    simp only [Option.bind_some]
    rw [if_pos hx5, hyz, hd]
    simp only [Option.bind_some]
    unfold frameOf
    rw [b2, b3, wrn (i := (t.getD 1 0).toNat) (by omega), wrn (i := (t.getD 2 0).toNat) (by omega), eq_str hl4]
  · rw [if_neg (fun e => hok (Eq.symm e)), if_neg hok, wrong_eq s x6 h hx]
    simp only [Option.bind_some]
end
theorem feed_scan {l : List UInt8} {fs : List S45} {n : Nat} {r : List UInt8} (h : Scans l fs n r) : ∀ (s : ByteArray) (_ : s.size < 140737488355328) (x5 : List S45) (x6 : Nat), ls s = l → x5.length + l.length < 4398046511104 → x6 + l.length < 4294967296 →
    Ev (fun k => frame_Reader_Feed.l0 k x5 s ((most x6 : Nat) : Int)) (x5 ++ fs, str r, ((most (x6 + n) : Nat) : Int)) := by
  induction h with
  | nil =>
    intro s hs x5 x6 hl h5 h6
    refine Ev.step (fun k => ?_) (Ev.now _)
    rw [frame_Reader_Feed.l0, seek_nil s _ hl]
    simp only [Option.bind_some]
    rw [if_neg Bool.false_ne_true, clone_eq _ (by decide), List.append_nil]
    rfl
  | @skip b t fs n r hb _ ih =>
    intro s hs x5 x6 hl h5 h6
    rw [List.length_cons] at h5 h6
    have hz : s.size = t.length + 1 := by rw [← ls_len, hl]; rfl
    obtain ⟨K, hK⟩ := ih (str t) (by rw [str_size]; omega) x5 x6 (ls_strl t) (by omega) (by omega)
    refine ⟨K + 1, fun k hk => ?_⟩
    obtain ⟨k, rfl⟩ : ∃ m, k = m + 1 := ⟨k - 1, by omega⟩
    dsimp only at hK ⊢
    rw [feed_skip s hs x5 hl hb, hK (k + 1) (by omega)]
  | wait hk =>
    intro s hs x5 x6 hl h5 h6
    refine Ev.step (fun k => ?_) (Ev.now _)
    rw [feed_short s hs x5 hl hk, List.append_nil, ← hl, str_ls]
    rfl
  | @bad t fs n r hk _ ih =>
    intro s hs x5 x6 hl h5 h6
    rw [List.length_cons] at h5 h6
    have hz : s.size = t.length + 1 := by rw [← ls_len, hl]; rfl
    obtain ⟨K, hK⟩ := ih (str t) (by rw [str_size]; omega) x5 (x6 + 1) (ls_strl t) (by omega) (by omega)
    rw [show x6 + 1 + n = x6 + (n + 1) by omega] at hK
    dsimp only at hK
    obtain ⟨h0, hb | ⟨hm, h5', hn⟩⟩ := kind_bad hk
    · refine ⟨K + 1, fun k hk => ?_⟩
      obtain ⟨k, rfl⟩ : ∃ m, k = m + 1 := ⟨k - 1, by omega⟩
      dsimp only
      rw [feed_big s hs x5 x6 hl h0 hb (by omega), hK k (by omega)]
    · obtain ⟨K2, hK2⟩ := feed_whole s hs x5 x6 hl h0 hm h5' (by omega) (by omega)
      refine ⟨K + K2 + 1, fun k hk => ?_⟩
      obtain ⟨k, rfl⟩ : ∃ m, k = m + 1 := ⟨k - 1, by omega⟩
      dsimp only
      rw [hK2 k (by omega), if_neg hn, hK k (by omega)]
  | @good t fs n r hk _ ih =>
    intro s hs x5 x6 hl h5 h6
    rw [List.length_cons] at h5 h6
    have hz : s.size = t.length + 1 := by rw [← ls_len, hl]; rfl
    obtain ⟨h0, hm, h5', hok⟩ := kind_good hk
    have hl2 : (t.drop (5 + size_ t)).length + 5 ≤ t.length := by rw [List.length_drop]; omega
    obtain ⟨K, hK⟩ := ih (str (t.drop (5 + size_ t))) (by rw [str_size]; omega) (x5 ++ [frameOf t]) x6 (ls_strl _) (by rw [List.length_append]; simp only [List.length_cons, List.length_nil]; omega) (by omega)
    obtain ⟨K2, hK2⟩ := feed_whole s hs x5 x6 hl h0 hm h5' (by omega) (by omega)
    dsimp only at hK
    refine ⟨K + K2 + 1, fun k hk => ?_⟩
    obtain ⟨k, rfl⟩ : ∃ m, k = m + 1 := ⟨k - 1, by omega⟩
    dsimp only
    rw [hK2 k (by omega), if_pos hok, hK k (by omega), List.append_assoc]
    rfl
/-- Feed: behind what waits, the new bytes. -/
theorem feed_eq {d a : ByteArray} {n0 : Nat} {fs : List S45} {n : Nat} {r : List UInt8} (h : Scans (ls d ++ ls a) fs n r) (hz : n0 + d.size + a.size < 4294967296) :
    Ev (fun k => frame_Reader_Feed.f k d ((most n0 : Nat) : Int) a) (fs, str r, ((most (n0 + n) : Nat) : Int)) := by
  have hsz : (d ++ a).size = d.size + a.size := ByteArray.size_append
  have hl : (ls d ++ ls a).length = d.size + a.size := by rw [List.length_append, ls_len, ls_len]
  have := feed_scan h (d ++ a) (by omega) [] n0 (ls_append d a) (by rw [hl]; simp only [List.length_nil]; omega) (by omega)
  refine Ev.congr (fun k => ?_) this
  unfold frame_Reader_Feed.f
  rw [if_pos (by omega)]
end Go.Proofs.Ytbbinmplkbpcdaa.Fm
