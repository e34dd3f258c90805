import Derived.Test.YtbbinmplkbpcdaaFrG
/-! FrameEncodes and FrameStands. -/
set_option linter.unusedVariables false
set_option linter.unusedSectionVars false
namespace Go.Proofs.Ytbbinmplkbpcdaa.Fr
open Go.RowKit Go.Proofs.Ytbbinmplkbpcdaa.Pr Go.Proofs.YtbbinmplkbpcdaaW.PrintWords Go.Proofs.YtbbinmplkbpcdaaW.PrintLast Go.Proofs.YtbbinmplkbpcdaaW.PrintMore

/-! ### FrameEncodes -/
theorem encodes_pure (a0 a1 : Int) (p : ByteArray) (hp : p.size < 140737488355328) : ∃ k, windhoverlaw04_FrameEncodes.f k a0 a1 p = some true := by
  obtain ⟨K1, h1⟩ := encode_eq a0 a1 p hp
  obtain ⟨K2, h2⟩ := refEncode_eq a0 a1 p hp
  refine ⟨K1 + K2, ?_⟩
  dsimp only at h1 h2
  unfold windhoverlaw04_FrameEncodes.f
  rw [h1 _ (by omega), h2 _ (by omega), awake_eq]
  simp only [Option.bind_some, if_true, beq_self_eq_true]
/-- The walk of FrameEncodes. -/
theorem encodes_walk (a0 a1 : Int) (p : ByteArray) (w : World) {b : Nat} (w0 : (Lit.int .i64 a0).wf = true) (w1 : (Lit.int .i64 a1).wf = true) (m : p.size + 4 ≤ b) (hb : b ≤ 1048576) :
    Calls Try.prog 8 #[.agg #[.int .i64 a0, .int .i64 a1, .string p]] w fun e w' => e = .returned (.bool true) ∧ Below w.heap.size w w' := by
  obtain ⟨k, hk⟩ := encodes_pure a0 a1 p (by omega)
  exact windhoverlaw04_FrameEncodes.calls k a0 a1 p true w hk

/-! ### FrameStands -/
/-- The bytes of a frame. -/
def bytes_ (f : S45) : List UInt8 := enc f.f0.toNat f.f1.toNat (ls f.f2)
/-- A frame that may be written. -/
def Fits (f : S45) : Prop := 0 ≤ f.f0 ∧ f.f0 ≤ 255 ∧ 0 ≤ f.f1 ∧ f.f1 ≤ 255 ∧ f.f2.size ≤ 64
theorem frame_fits {t : List UInt8} (h : kindOf t = .good) : Fits (frameOf t) := by
  obtain ⟨_, hm, hl, _⟩ := kind_good h
  have h1 := UInt8.toNat_lt (t.getD 1 0)
  have h2 := UInt8.toNat_lt (t.getD 2 0)
  refine ⟨by simp only [frameOf]; omega, by simp only [frameOf]; omega, by simp only [frameOf]; omega, by simp only [frameOf]; omega, ?_⟩
  simp only [frameOf]
  rw [str_size, List.length_take]
  omega
theorem frame_bytes {t : List UInt8} (h : kindOf t = .good) : 253 :: t.take (5 + size_ t) = bytes_ (frameOf t) := by
  obtain ⟨_, hm, hl, hok⟩ := kind_good h
  have hp : ls (frameOf t).f2 = (t.drop 3).take (size_ t) := by simp only [frameOf]; rw [ls_strl]
  have hpl : ((t.drop 3).take (size_ t)).length = size_ t := by rw [List.length_take, List.length_drop]; omega
  have h3 := take_three t (by omega) (size_ t)
  have e0 : UInt8.ofNat (size_ t) = t.getD 0 0 := by rw [← getD_zero, UInt8.ofNat_toNat]
  have e1 : UInt8.ofNat (frameOf t).f0.toNat = t.getD 1 0 := by simp only [frameOf, Int.toNat_natCast]; rw [UInt8.ofNat_toNat]
  have e2 : UInt8.ofNat (frameOf t).f1.toNat = t.getD 2 0 := by simp only [frameOf, Int.toNat_natCast]; rw [UInt8.ofNat_toNat]
  unfold bytes_ enc
  rw [hp, hpl, e0, e1, e2, ← h3]
  congr 1
  rw [show 5 + size_ t = (3 + size_ t) + 2 by omega, List.take_add]
  congr 1
theorem bytes_length (f : S45) : (bytes_ f).length = 6 + (ls f.f2).length := by
  unfold bytes_ enc two
  simp only [List.length_cons, List.length_append, List.length_nil]
  omega
/-- The first frame stands in the bytes, and behind it the others are read. -/
theorem Scans.first {l : List UInt8} {fs : List S45} {n : Nat} {r : List UInt8} (h : Scans l fs n r) : ∀ {f : S45} {fs' : List S45}, fs = f :: fs' →
    ∃ pre rest n', l = pre ++ (bytes_ f ++ rest) ∧ Scans rest fs' n' r ∧ Fits f := by
  induction h with
  | nil => intro f fs' e; cases e
  | @skip b t _ _ _ _ _ ih =>
    intro f fs' e
    obtain ⟨pre, rest, n', rfl, h1, h2⟩ := ih e
    exact ⟨b :: pre, rest, n', rfl, h1, h2⟩
  | wait => intro f fs' e; cases e
  | bad _ _ ih =>
    intro f fs' e
    obtain ⟨pre, rest, n', rfl, h1, h2⟩ := ih e
    exact ⟨253 :: pre, rest, n', rfl, h1, h2⟩
  | @good t _ n _ hk h _ =>
    intro f fs' e
    injection e with e1 e2
    subst e1 e2
    refine ⟨[], t.drop (5 + size_ t), n, ?_, h, frame_fits hk⟩
    rw [← frame_bytes hk, List.nil_append, List.cons_append, List.take_append_drop]
theorem encode_fits {f : S45} (h : Fits f) : Ev (fun k => frame_Encode.f k f.f0 f.f1 f.f2) (str (bytes_ f), 0) := by
  obtain ⟨h1, h2, h3, h4, h5⟩ := h
  have := encode_eq f.f0 f.f1 f.f2 (by omega)
  unfold encR at this
  rw [if_neg (by omega), if_neg (by omega)] at this
  exact this
theorem find_eq (s e : ByteArray) (hs : s.size ≤ 1048576) (he : e.size ≤ 1048576) (m : Nat) (hm : m + e.size ≤ s.size) (hmm : ((ls s).drop m).take e.size = ls e) (d : Nat) : ∀ i : Nat, i + d = m →
    ∃ k' : Nat, i ≤ k' ∧ k' ≤ m ∧ Ev (fun k => windhoverlaw04_find.l0 k s e (i : Int)) (k' : Int) := by
  have unf : ∀ (i : Nat), i ≤ m → ∀ k, windhoverlaw04_find.l0 (k + 1) s e (i : Int) = if ((ls s).drop i).take e.size = ls e then some (i : Int) else windhoverlaw04_find.l0 k s e ((i + 1 : Nat) : Int) := by
    intro i hi k
    rw [windhoverlaw04_find.l0]
    simp only [wrp (i := i) (c := e.size) (by omega), wr1 (i := i) (by omega), ls_toList, Int.toNat_natCast, ls_extract, show i + e.size - i = e.size by omega]
    rw [if_pos (by omega), if_pos (by omega), if_pos (by omega)]
  induction d with
  | zero =>
    intro i hi
    obtain rfl : i = m := by omega
    refine ⟨i, Nat.le_refl _, Nat.le_refl _, Ev.step (fun k => ?_) (Ev.now _)⟩
    rw [unf i (Nat.le_refl _), if_pos hmm]
  | succ d ih =>
    intro i hi
    by_cases hx : ((ls s).drop i).take e.size = ls e
    · refine ⟨i, Nat.le_refl _, by omega, Ev.step (fun k => ?_) (Ev.now _)⟩
      rw [unf i (by omega), if_pos hx]
    · obtain ⟨k', h1, h2, h3⟩ := ih (i + 1) (by omega)
      refine ⟨k', by omega, h2, Ev.step (fun k => ?_) h3⟩
      rw [unf i (by omega), if_neg hx]
theorem rd_frame (xs : List S45) (i : Nat) (h : i < xs.length) : rd_T45 xs (i : Int) = xs[i] := by
  unfold rd_T45
  rw [Int.toNat_natCast, List.getD_eq_getElem?_getD, List.getElem?_eq_getElem h]
  rfl
theorem stands_loop (s : ByteArray) (hs : s.size ≤ 1048576) (fs : List S45) (hfs : fs.length ≤ 1048576) (r : List UInt8) (x : Int) (d : Nat) : ∀ (i a b n : Nat), i + d = fs.length → a ≤ b → b ≤ s.size → Scans ((ls s).drop b) (fs.drop i) n r →
    Ev (fun k => windhoverlaw04_FrameStands.l0 k s fs (a : Int) (i : Int) (str r) x) true := by
  induction d with
  | zero =>
    intro i a b n hi hab hb hS
    have hr := hS.len
    rw [List.length_drop, List.length_drop, ls_len] at hr
    refine Ev.step (fun k => ?_) (Ev.now _)
    rw [windhoverlaw04_FrameStands.l0, if_neg (by omega), awake_eq, held_R]
    simp only [Option.bind_some, if_true]
    have hw : wrap64 ((s.size : Int) - (a : Int)) = ((s.size - a : Nat) : Int) := by
      rw [show (s.size : Int) - (a : Int) = ((s.size - a : Nat) : Int) by omega, wrn (by omega)]
    rw [hw, str_size, decide_eq_true (by clear hw; omega)]
  | succ d ih =>
    intro i a b n hi hab hb hS
    have hil : i < fs.length := by omega
    rw [List.drop_eq_getElem_cons hil] at hS
    obtain ⟨pre, rest, n', he, hS', hF⟩ := hS.first rfl
    have hlen : (ls s).length = s.size := ls_len s
    have hle := congrArg List.length he
    rw [List.length_drop, List.length_append, List.length_append, hlen] at hle
    have hes : (str (bytes_ fs[i])).size = (bytes_ fs[i]).length := str_size _
    obtain ⟨K1, h1⟩ := encode_fits hF
    obtain ⟨k', hk1, hk2, K2, h2⟩ := find_eq s (str (bytes_ fs[i])) hs (by omega) (b + pre.length) (by omega) (by
      rw [← List.drop_drop, he, List.drop_left, hes, List.take_left, ls_strl]) (b + pre.length - a) a (by omega)
    obtain ⟨K3, h3⟩ := ih (i + 1) (k' + (bytes_ fs[i]).length) (b + pre.length + (bytes_ fs[i]).length) n' (by omega) (by omega) (by omega) (by
      rw [← List.drop_drop, ← List.drop_drop, he, List.drop_left, List.drop_left]
      exact hS')
    dsimp only at h1 h2 h3
    refine ⟨K1 + K2 + K3 + 1, fun k hk => ?_⟩
    obtain ⟨k, rfl⟩ : ∃ m, k = m + 1 := ⟨k - 1, by omega⟩
    dsimp only
    rw [windhoverlaw04_FrameStands.l0, if_pos (by omega), if_pos (by omega), rd_frame fs i hil, h1 k (by omega)]
    simp only [Option.bind_some, if_true]
    unfold windhoverlaw04_find.f
    rw [h2 k (by omega)]
    simp only [Option.bind_some]
    rw [if_neg (by omega), hes]
    have e1 : wrap64 ((k' : Int) + ((bytes_ fs[i]).length : Int)) = ((k' + (bytes_ fs[i]).length : Nat) : Int) := wrp (by omega)
    have e2 : wrap64 ((i : Int) + 1) = ((i + 1 : Nat) : Int) := wr1 (by clear e1; omega)
    simp only [e1, e2]
    exact h3 k (by clear e1 e2; omega)
theorem stands_pure (s : ByteArray) (hs : s.size ≤ 1048576) : ∃ k, windhoverlaw04_FrameStands.f k s = some true := by
  obtain ⟨fs, n, r, hS⟩ := Scans.total (ls s)
  have hl := hS.len
  rw [ls_len] at hl
  have hf := feed_eq (d := ⟨#[]⟩) (a := s) (n0 := 0) (by rw [show ls (⟨#[]⟩ : ByteArray) = [] from rfl, List.nil_append]; exact hS) (by rw [show (⟨#[]⟩ : ByteArray).size = 0 from rfl]; omega)
  have hst := stands_loop s hs fs (by omega) r ((most (0 + n) : Nat) : Int) fs.length 0 0 0 n (by omega) (Nat.le_refl _) (Nat.zero_le _) hS
  obtain ⟨K1, h1⟩ := hf
  obtain ⟨K2, h2⟩ := hst
  refine ⟨K1 + K2, ?_⟩
  have h1' := h1 (K1 + K2) (by omega)
  have h2' := h2 (K1 + K2) (by omega)
  dsimp only at h1' h2'
  unfold windhoverlaw04_FrameStands.f
  rw [new_eq]
  simp only [Option.bind_some]
  rw [show (0 : Int) = ((most 0 : Nat) : Int) from rfl, h1']
  simp only [Option.bind_some]
  exact h2'
/-- The walk of FrameStands. -/
theorem stands_walk (s : ByteArray) (w : World) (hb : s.size + 1 ≤ 1048576) :
    Calls Try.prog 12 #[.string s] w fun e w' => e = .returned (.bool true) ∧ Below w.heap.size w w' := by
  obtain ⟨k, hk⟩ := stands_pure s (by omega)
  exact windhoverlaw04_FrameStands.calls k s true w hk
end Go.Proofs.Ytbbinmplkbpcdaa.Fr
