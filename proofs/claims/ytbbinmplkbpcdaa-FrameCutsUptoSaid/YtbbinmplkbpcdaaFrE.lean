import Derived.Test.YtbbinmplkbpcdaaFrD
/-! The reference's Read computes the relation of reading. -/
namespace Go.Proofs.Ytbbinmplkbpcdaa.Fr
open Go.RowKit Go.Proofs.Ytbbinmplkbpcdaa.Pr Go.Proofs.YtbbinmplkbpcdaaW.PrintWords Go.Proofs.YtbbinmplkbpcdaaW.PrintLast Go.Proofs.YtbbinmplkbpcdaaW.PrintMore

theorem wrap_nat (n : Nat) (h : n < 9223372036854775808) : wrap64 (n : Int) = (n : Int) := by
  unfold wrap64
  omega
theorem wrap_plus (i c : Nat) (h : i + c < 9223372036854775808) : wrap64 ((i : Int) + (c : Int)) = ((i + c : Nat) : Int) := by
  rw [← Int.natCast_add, wrap_nat _ h]
theorem wr1 {i : Nat} (h : i + 1 < 9223372036854775808) : wrap64 ((i : Int) + 1) = ((i + 1 : Nat) : Int) := wrap_plus i 1 h
theorem wr2 {i : Nat} (h : i + 2 < 9223372036854775808) : wrap64 ((i : Int) + 2) = ((i + 2 : Nat) : Int) := wrap_plus i 2 h
theorem wr3 {i : Nat} (h : i + 3 < 9223372036854775808) : wrap64 ((i : Int) + 3) = ((i + 3 : Nat) : Int) := wrap_plus i 3 h
theorem wr4 {i : Nat} (h : i + 4 < 9223372036854775808) : wrap64 ((i : Int) + 4) = ((i + 4 : Nat) : Int) := wrap_plus i 4 h
theorem wr5 {i : Nat} (h : i + 5 < 9223372036854775808) : wrap64 ((i : Int) + 5) = ((i + 5 : Nat) : Int) := wrap_plus i 5 h
theorem wr6 {i : Nat} (h : i + 6 < 9223372036854775808) : wrap64 ((i : Int) + 6) = ((i + 6 : Nat) : Int) := wrap_plus i 6 h
theorem wrn {i : Nat} (h : i < 9223372036854775808) : wrap64 (i : Int) = (i : Int) := wrap_nat i h
theorem wrp {i c : Nat} (h : i + c < 9223372036854775808) : wrap64 ((i : Int) + (c : Int)) = ((i + c : Nat) : Int) := wrap_plus i c h
theorem u8_eq {b : UInt8} {n : Nat} (hn : n < 256) : ((b.toNat : Int) = (n : Int)) ↔ b = UInt8.ofNat n := by
  constructor
  · intro h
    apply UInt8.toNat_inj.1
    rw [UInt8.toNat_ofNat']
    omega
  · rintro rfl
    rw [UInt8.toNat_ofNat']
    omega
/-- The byte at i, told of what stands from i on. -/
theorem bt_drop (s : ByteArray) (i j : Nat) (h : i + j < s.size) : bt s ((i + j : Nat) : Int) = ((((ls s).drop i).getD j 0).toNat : Int) := by
  have hl : i + j < (ls s).length := by rw [ls_len]; exact h
  rw [bt_eq s _ hl, List.getD_eq_getElem?_getD, List.getElem?_drop, List.getElem?_eq_getElem hl]
  rfl
theorem drop_one (s : ByteArray) (i : Nat) {b : UInt8} {t : List UInt8} (h : (ls s).drop i = b :: t) : i < s.size ∧ bt s (i : Int) = (b.toNat : Int) ∧ (ls s).drop (i + 1) = t := by
  have hl : i < (ls s).length := by
    rcases Nat.lt_or_ge i (ls s).length with h1 | h1
    · exact h1
    · rw [List.drop_of_length_le h1] at h
      cases h
  rw [List.drop_eq_getElem_cons hl] at h
  injection h with h1 h2
  refine ⟨by rw [ls_len] at hl; exact hl, ?_, h2⟩
  rw [bt_eq s i hl, h1]
theorem getD_zero (t : List UInt8) : (t.getD 0 0).toNat = size_ t := by
  match t with
  | [] => rfl
  | b :: t => rfl
theorem take_three (t : List UInt8) (h : 3 ≤ t.length) (n : Nat) : t.take (3 + n) = [t.getD 0 0, t.getD 1 0, t.getD 2 0] ++ (t.drop 3).take n := by
  match t, h with
  | a :: b :: c :: t, _ => simp [Nat.add_comm 3 n]
theorem two_bytes {t : List UInt8} {i : Nat} (h : i + 2 ≤ t.length) (c : Nat) (hc : c < 65536) : (t.drop i).take 2 = two c ↔ ((t.getD i 0).toNat : Int) = ((c % 256 : Nat) : Int) ∧ ((t.getD (i + 1) 0).toNat : Int) = ((c / 256 : Nat) : Int) := by
  rw [u8_eq (by omega), u8_eq (by omega), u8_mod]
  rw [List.drop_eq_getElem_cons (by omega), List.drop_eq_getElem_cons (by omega)]
  rw [List.getD_eq_getElem?_getD, List.getElem?_eq_getElem (by omega), List.getD_eq_getElem?_getD, List.getElem?_eq_getElem (by omega)]
  simp only [two, List.take_succ_cons, List.take_zero, Option.getD_some, List.cons.injEq, and_true]

section
variable (s : ByteArray) (hs : s.size < 140737488355328) (x5 : List S45) (x6 : Nat) (i : Nat)
include hs
theorem read_skip {b : UInt8} {t : List UInt8} (h : (ls s).drop i = b :: t) (hb : b ≠ 253) (k : Nat) : windhoverref04_Read.l0 (k + 1) s x5 x6 i = windhoverref04_Read.l0 k s x5 x6 ((i + 1 : Nat) : Int) := by
  obtain ⟨h1, h2, _⟩ := drop_one s i h
  simp only [windhoverref04_Read.l0]
  rw [if_pos (by omega), if_pos (by omega), h2, if_neg (by intro e; exact hb ((u8_eq (by decide)).1 e)), wrap_up i (by omega)]
theorem read_fd {t : List UInt8} (h : (ls s).drop i = 253 :: t) (ht : t ≠ []) (k : Nat) : windhoverref04_Read.l0 (k + 1) s x5 x6 i = windhoverref04_Read.j1 k s x5 x6 i (decide (((size_ t : Nat) : Int) > 64)) := by
  obtain ⟨h1, h2, h3⟩ := drop_one s i h
  have hl : t.length = s.size - (i + 1) := by rw [← h3, List.length_drop, ls_len]
  have hp : 0 < t.length := List.length_pos_iff.2 ht
  simp only [windhoverref04_Read.l0]
  rw [if_pos (by omega), if_pos (by omega), h2, if_pos (by rfl), wrap_up i (by omega), if_pos (by omega), if_pos (by omega)]
  have := bt_drop s (i + 1) 0 (by omega)
  rw [Nat.add_zero, h3, getD_zero] at this
  rw [this]
theorem read_last (h : (ls s).drop i = [253]) (k : Nat) : windhoverref04_Read.l0 (k + 1) s x5 x6 i = windhoverref04_Read.j1 k s x5 x6 i false := by
  obtain ⟨h1, h2, h3⟩ := drop_one s i h
  have hl : 0 = s.size - (i + 1) := by rw [← ls_len, ← List.length_drop, h3]; rfl
  simp only [windhoverref04_Read.l0]
  rw [if_pos (by omega), if_pos (by omega), h2, if_pos (by rfl), wrap_up i (by omega), if_neg (by omega)]
theorem read_wait {t : List UInt8} (h : (ls s).drop i = 253 :: t) (hk : kindOf t = .short) (k : Nat) : windhoverref04_Read.l0 (k + 3) s x5 x6 i = some (x5, (x6 : Int), ((253 :: t : List UInt8).length : Int)) := by
  obtain ⟨h1, h2, h3⟩ := drop_one s i h
  have hl : t.length = s.size - (i + 1) := by rw [← h3, List.length_drop, ls_len]
  have hw : wrap64 ((s.size : Int) - (i : Int)) = ((253 :: t : List UInt8).length : Int) := by
    rw [List.length_cons]
    unfold wrap64
    omega
  rcases kind_short hk with rfl | ⟨h0, hm, hlt⟩
  · rw [read_last s hs x5 x6 i h]
    rw [windhoverref04_Read.j1]
    simp (disch := omega) only [wr1]
    rw [if_neg Bool.false_ne_true, if_pos (by simp only [List.length_nil] at hl; omega)]
    rw [windhoverref04_Read.j2]
    rw [if_pos rfl, hw]
  · have hp : 0 < t.length := List.length_pos_iff.2 h0
    rw [read_fd s hs x5 x6 i h h0]
    rw [windhoverref04_Read.j1]
    have hb := bt_drop s (i + 1) 0 (by omega)
    rw [Nat.add_zero, h3, getD_zero] at hb
    have hsl := size_lt t
    simp (disch := omega) only [wr1, wr6, hb, wrn, wrp]
    rw [decide_eq_false (by omega), if_neg Bool.false_ne_true, if_neg (by omega), if_pos (by omega), if_pos (by omega), decide_eq_true (by omega)]
    rw [windhoverref04_Read.j2]
    rw [if_pos rfl, hw]
theorem read_big {t : List UInt8} (h : (ls s).drop i = 253 :: t) (h0 : t ≠ []) (hm : 64 < size_ t) (hx : x6 < 140737488355328) (k : Nat) : windhoverref04_Read.l0 (k + 2) s x5 x6 i = windhoverref04_Read.l0 k s x5 ((x6 + 1 : Nat) : Int) ((i + 1 : Nat) : Int) := by
  obtain ⟨h1, h2, h3⟩ := drop_one s i h
  rw [read_fd s hs x5 x6 i h h0]
  rw [windhoverref04_Read.j1]
  simp (disch := omega) only [wr1]
  rw [decide_eq_true (by omega), if_pos rfl]
theorem read_whole {t : List UInt8} (h : (ls s).drop i = 253 :: t) (h0 : t ≠ []) (hm : size_ t ≤ 64) (hl5 : 5 + size_ t ≤ t.length) (hx5 : x5.length < 4398046511104) (hx : x6 < 140737488355328) :
    ∃ K, ∀ k, K ≤ k → windhoverref04_Read.l0 (k + 3) s x5 x6 i =
      if ok t then windhoverref04_Read.l0 k s (x5 ++ [frameOf t]) (x6 : Int) ((i + 6 + size_ t : Nat) : Int) else windhoverref04_Read.l0 k s x5 ((x6 + 1 : Nat) : Int) ((i + 1 : Nat) : Int) := by
  obtain ⟨h1, h2, h3⟩ := drop_one s i h
  have hl : t.length = s.size - (i + 1) := by rw [← h3, List.length_drop, ls_len]
  have b0 := bt_drop s (i + 1) 0 (by omega)
  have b1 := bt_drop s (i + 1) 1 (by omega)
  have b2 := bt_drop s (i + 1) 2 (by omega)
  have b3 := bt_drop s (i + 1) (3 + size_ t) (by omega)
  have b4 := bt_drop s (i + 1) (4 + size_ t) (by omega)
  rw [h3] at b0 b1 b2 b3 b4
  rw [Nat.add_zero, getD_zero] at b0
  rw [show i + 1 + (3 + size_ t) = i + 4 + size_ t by omega] at b3
  rw [show i + 1 + (4 + size_ t) = i + 5 + size_ t by omega] at b4
  have he : ls (s.extract (i + 4) (i + 4 + size_ t)) = (t.drop 3).take (size_ t) := by
    rw [ls_extract, show i + 4 + size_ t - (i + 4) = size_ t by omega, ← h3, List.drop_drop]
  have hsz : (s.extract (i + 4) (i + 4 + size_ t)).size < 140737488355328 := by
    rw [← ls_len, he, List.length_take]
    omega
  obtain ⟨K, hK⟩ := refCheck_eq (t.getD 0 0) (t.getD 1 0) (t.getD 2 0) (s.extract (i + 4) (i + 4 + size_ t)) hsz
  rw [he, ← take_three t (by omega), getD_zero] at hK
  have hok : ok t ↔ ((t.getD (3 + size_ t) 0).toNat : Int) = ((chk (t.take (3 + size_ t)) % 256 : Nat) : Int) ∧ ((t.getD (4 + size_ t) 0).toNat : Int) = ((chk (t.take (3 + size_ t)) / 256 : Nat) : Int) := by
    have := two_bytes (t := t) (i := 3 + size_ t) (by omega) (chk (t.take (3 + size_ t))) (chk_lt _)
    rw [show 3 + size_ t + 1 = 4 + size_ t by omega] at this
    exact this
  have hc := chk_lt (t.take (3 + size_ t))
  generalize chk (t.take (3 + size_ t)) = c at hK hok hc
  have e1 : (Int.tmod (c : Int) 256) % 256 = ((c % 256 : Nat) : Int) := by rw [Int.tmod_eq_emod_of_nonneg (by omega)]; omega
  have e2 : (IntKind.u16.wrap (Int.tdiv (c : Int) 256)) % 256 = ((c / 256 : Nat) : Int) := by rw [wrap_u16, Int.tdiv_eq_ediv_of_nonneg (by omega)]; omega
  have hsl := size_lt t
  have hs1 := UInt8.toNat_lt (t.getD 1 0)
  have hs2 := UInt8.toNat_lt (t.getD 2 0)
  rw [show i + 1 + 1 = i + 2 from rfl] at b1
  rw [show i + 1 + 2 = i + 3 from rfl] at b2
  refine ⟨K, fun k hk => ?_⟩
  dsimp only at hK
  rw [read_fd s hs x5 x6 i h h0]
  rw [windhoverref04_Read.j1]
  simp (disch := omega) only [wr1, b0, wrn, wr6, wrp]
  rw [decide_eq_false (by omega), if_neg Bool.false_ne_true, if_neg (by omega), if_pos (by omega), if_pos (by omega), decide_eq_false (by omega)]
  rw [windhoverref04_Read.j2]
  rw [if_neg Bool.false_ne_true]
  simp only [wr1 (i := i) (by omega), wr2 (i := i) (by omega), wr3 (i := i) (by omega), wr4 (i := i) (by omega), wr5 (i := i) (by omega), wr6 (i := i) (by omega), b0, b1, b2,
    wrn (i := size_ t) (by omega), wrn (i := (t.getD 1 0).toNat) (by omega), wrn (i := (t.getD 2 0).toNat) (by omega), wr1 (i := x6) (by omega),
    wrp (i := i + 4) (c := size_ t) (by omega), wrp (i := i + 5) (c := size_ t) (by omega), wrp (i := i + 6) (c := size_ t) (by omega), Int.toNat_natCast]
  rw [if_pos (by omega), if_pos (by omega), if_pos (by omega), if_pos (by omega), if_pos (by omega), if_pos (by omega), if_pos (by omega), if_pos (by omega), if_pos (by omega)]
  simp only [hK k hk, Option.bind_some, b3, b4, e1, e2]
  rw [if_pos (by omega), if_pos (by omega)]
  by_cases hc1 : ((t.getD (3 + size_ t) 0).toNat : Int) = ((c % 256 : Nat) : Int)
  · rw [if_pos hc1, if_pos (by omega), if_pos (by omega)]
    by_cases hc2 : ((t.getD (4 + size_ t) 0).toNat : Int) = ((c / 256 : Nat) : Int)
    · rw [if_pos hc2, if_pos hx5, if_pos (hok.2 ⟨hc1, hc2⟩)]
      unfold frameOf
      rw [eq_str he]
    · rw [if_neg hc2, if_neg (fun h => hc2 (hok.1 h).2)]
  · rw [if_neg hc1, if_neg (fun h => hc1 (hok.1 h).1)]
end

theorem read_scan {l : List UInt8} {fs : List S45} {n : Nat} {r : List UInt8} (h : Scans l fs n r) : ∀ (s : ByteArray) (_ : s.size < 140737488355328) (x5 : List S45) (x6 i : Nat), (ls s).drop i = l → x5.length + l.length < 4398046511104 → x6 + l.length < 140737488355328 →
    Ev (fun k => windhoverref04_Read.l0 k s x5 (x6 : Int) (i : Int)) (x5 ++ fs, ((x6 + n : Nat) : Int), (r.length : Int)) := by
  induction h with
  | nil =>
    intro s hs x5 x6 i hl h5 h6
    refine Ev.step (fun k => ?_) (Ev.now _)
    have : (ls s).length ≤ i := by
      rcases Nat.lt_or_ge i (ls s).length with h | h
      · rw [List.drop_eq_getElem_cons h] at hl
        cases hl
      · exact h
    rw [ls_len] at this
    simp only [windhoverref04_Read.l0]
    rw [if_neg (by omega), List.append_nil]
    rfl
  | skip hb _ ih =>
    intro s hs x5 x6 i hl h5 h6
    obtain ⟨_, _, h3⟩ := drop_one s i hl
    rw [List.length_cons] at h5 h6
    exact Ev.step (read_skip s hs x5 x6 i hl hb) (ih s hs x5 x6 (i + 1) h3 (by omega) (by omega))
  | wait hk =>
    intro s hs x5 x6 i hl h5 h6
    refine ⟨3, fun k h => ?_⟩
    obtain ⟨k, rfl⟩ : ∃ m, k = m + 3 := ⟨k - 3, by omega⟩
    dsimp only
    rw [read_wait s hs x5 x6 i hl hk, List.append_nil]
    rfl
  | @bad t fs n r hk _ ih =>
    intro s hs x5 x6 i hl h5 h6
    obtain ⟨_, _, h3⟩ := drop_one s i hl
    rw [List.length_cons] at h5 h6
    obtain ⟨K, hK⟩ := ih s hs x5 (x6 + 1) (i + 1) h3 (by omega) (by omega)
    rw [show x6 + 1 + n = x6 + (n + 1) by omega] at hK
    dsimp only at hK
    obtain ⟨h0, hb | ⟨hm, h5', hn⟩⟩ := kind_bad hk
    · refine ⟨K + 2, fun k hk => ?_⟩
      obtain ⟨k, rfl⟩ : ∃ m, k = m + 2 := ⟨k - 2, by omega⟩
      dsimp only
      rw [read_big s hs x5 x6 i hl h0 hb (by omega), hK k (by omega)]
    · obtain ⟨K2, hK2⟩ := read_whole s hs x5 x6 i hl h0 hm h5' (by omega) (by omega)
      refine ⟨K + K2 + 3, fun k hk => ?_⟩
      obtain ⟨k, rfl⟩ : ∃ m, k = m + 3 := ⟨k - 3, by omega⟩
      dsimp only
      rw [hK2 k (by omega), if_neg hn, hK k (by omega)]
  | @good t fs n r hk _ ih =>
    intro s hs x5 x6 i hl h5 h6
    obtain ⟨_, _, h3⟩ := drop_one s i hl
    obtain ⟨h0, hm, h5', hok⟩ := kind_good hk
    rw [List.length_cons] at h5 h6
    have hd : (ls s).drop (i + 6 + size_ t) = t.drop (5 + size_ t) := by
      rw [← h3, List.drop_drop]
      congr 1
      omega
    have hl2 : (t.drop (5 + size_ t)).length + 5 ≤ t.length := by rw [List.length_drop]; omega
    obtain ⟨K, hK⟩ := ih s hs (x5 ++ [frameOf t]) x6 (i + 6 + size_ t) hd (by rw [List.length_append]; simp only [List.length_cons, List.length_nil]; omega) (by omega)
    obtain ⟨K2, hK2⟩ := read_whole s hs x5 x6 i hl h0 hm h5' (by omega) (by omega)
    dsimp only at hK
    refine ⟨K + K2 + 3, fun k hk => ?_⟩
    obtain ⟨k, rfl⟩ : ∃ m, k = m + 3 := ⟨k - 3, by omega⟩
    dsimp only
    rw [hK2 k (by omega), if_pos hok, hK k (by omega), List.append_assoc]
    rfl
theorem read_eq {s : ByteArray} {fs : List S45} {n : Nat} {r : List UInt8} (h : Scans (ls s) fs n r) (hs : s.size < 4398046511104) :
    Ev (fun k => windhoverref04_Read.f k s) (fs, (n : Int), (r.length : Int)) := by
  have := read_scan h s (by omega) [] 0 0 rfl (by rw [ls_len]; simpa using hs) (by rw [ls_len]; omega)
  rw [Nat.zero_add] at this
  exact this
end Go.Proofs.Ytbbinmplkbpcdaa.Fr
