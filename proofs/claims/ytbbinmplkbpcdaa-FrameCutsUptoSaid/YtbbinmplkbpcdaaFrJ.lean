import Derived.Test.YtbbinmplkbpcdaaFrI
/-! FrameBack. -/
set_option linter.unusedVariables false
set_option linter.unusedSectionVars false
namespace Go.Proofs.Ytbbinmplkbpcdaa.Fr
open Go.RowKit Go.Proofs.Ytbbinmplkbpcdaa.Pr Go.Proofs.YtbbinmplkbpcdaaW.PrintWords Go.Proofs.YtbbinmplkbpcdaaW.PrintLast Go.Proofs.YtbbinmplkbpcdaaW.PrintMore

/-! ### bytes without a frame's start -/
theorem clean_loop (s : ByteArray) (hs : s.size ≤ 1048576) (d : Nat) : ∀ (i : Nat) (x : List Int), i + d = s.size → x.length ≤ i → (∀ b ∈ lb x, b ≠ 253) →
    ∃ c : ByteArray, Ev (fun k => windhoverlaw04_clean.l0 k s x (i : Int)) c ∧ (∀ b ∈ ls c, b ≠ 253) ∧ c.size ≤ s.size := by
  induction d with
  | zero =>
    intro i x hi hx hb
    refine ⟨strOfNums x, Ev.step (fun k => ?_) (Ev.now _), hb, by rw [strOfNums_size]; omega⟩
    rw [windhoverlaw04_clean.l0, if_neg (by omega)]
  | succ d ih =>
    intro i x hi hx hb
    have hl : i < (ls s).length := by rw [ls_len]; omega
    have hbt := bt_eq s i hl
    by_cases h : (ls s)[i] = 253
    · obtain ⟨c, h1, h2⟩ := ih (i + 1) x (by omega) (by omega) hb
      refine ⟨c, Ev.step (fun k => ?_) h1, h2⟩
      rw [windhoverlaw04_clean.l0, if_pos (by omega), if_pos (by omega), hbt, if_pos (by rw [h]; rfl)]
      simp only [wr1 (i := i) (by omega)]
    · obtain ⟨c, h1, h2⟩ := ih (i + 1) (x ++ [(((ls s)[i]).toNat : Int)]) (by omega) (by rw [List.length_append]; simp only [List.length_cons, List.length_nil]; omega) (by
        intro b hb'
        rw [lb_append, List.mem_append] at hb'
        rcases hb' with hb' | hb'
        · exact hb b hb'
        · have e : lb [(((ls s)[i]).toNat : Int)] = [(ls s)[i]] := by simp [lb, ls_str]
          rw [e, List.mem_singleton] at hb'
          rw [hb']
          exact h)
      refine ⟨c, Ev.step (fun k => ?_) h1, h2⟩
      have hne : ¬ (((ls s)[i]).toNat : Int) = 253 := by
        intro e
        apply h
        apply UInt8.toNat_inj.1
        show _ = 253
        omega
      rw [windhoverlaw04_clean.l0, if_pos (by omega), if_pos (by omega), hbt, if_neg hne, if_pos (by omega)]
      simp only [wr1 (i := i) (by omega)]
theorem clean_eq (s : ByteArray) (hs : s.size ≤ 1048576) : ∃ c : ByteArray, Ev (fun k => windhoverlaw04_clean.f k s) c ∧ (∀ b ∈ ls c, b ≠ 253) ∧ c.size ≤ s.size :=
  clean_loop s hs s.size 0 [] (by omega) (Nat.le_refl _) (by intro b hb; cases hb)
theorem Scans.skips {l : List UInt8} (h : ∀ b ∈ l, b ≠ 253) {t : List UInt8} {fs : List S45} {n : Nat} {r : List UInt8} (hS : Scans t fs n r) : Scans (l ++ t) fs n r := by
  induction l with
  | nil => exact hS
  | cons b l ih => exact .skip (h b (by simp)) (ih (fun b hb => h b (by simp [hb])))

/-! ### a frame's bytes are read -/
theorem size_ofNat {n : Nat} (h : n < 256) : (UInt8.ofNat n).toNat = n := by
  rw [UInt8.toNat_ofNat']
  omega
theorem Scans.wrote {f : S45} (hf : Fits f) {t : List UInt8} {fs : List S45} {n : Nat} {r : List UInt8} (hS : Scans t fs n r) : Scans (bytes_ f ++ t) (f :: fs) n r := by
  obtain ⟨h0, h1, h2, h3, h4⟩ := hf
  have hp : (ls f.f2).length ≤ 64 := by rw [ls_len]; exact h4
  obtain ⟨u, hu⟩ : ∃ u, u = [UInt8.ofNat (ls f.f2).length, UInt8.ofNat f.f0.toNat, UInt8.ofNat f.f1.toNat] ++ ls f.f2 := ⟨_, rfl⟩
  have hb : bytes_ f = 253 :: (u ++ two (chk u)) := by rw [hu]; rfl
  have hul : u.length = 3 + (ls f.f2).length := by rw [hu, List.length_append]; rfl
  have hs : ∀ m, size_ (u ++ m) = (ls f.f2).length := by
    intro m
    rw [hu]
    exact size_ofNat (by omega)
  have h2l : (two (chk u)).length = 2 := rfl
  have hk : kindOf (u ++ two (chk u)) = .good := by
    unfold kindOf
    rw [if_neg (by intro e; have := congrArg List.length e; rw [List.length_append, hul] at this; simp only [List.length_nil] at this; omega), hs, if_neg (by omega), if_neg (by rw [List.length_append, hul, h2l]; omega), if_pos]
    unfold ok
    rw [hs, ← hul, List.drop_left, List.take_left]
    rfl
  have hk2 : kindOf (u ++ two (chk u) ++ t) = .good := by rw [kind_append (by rw [hk]; exact Kind.noConfusion)]; exact hk
  have hfr : frameOf (u ++ two (chk u) ++ t) = f := by
    rw [frame_append (by intro e; have := congrArg List.length e; rw [List.length_append, hul] at this; simp only [List.length_nil] at this; omega) (by rw [hs, List.length_append, hul, h2l]; omega)]
    unfold frameOf
    have e1 : (u ++ two (chk u)).getD 1 0 = UInt8.ofNat f.f0.toNat := by rw [hu]; rfl
    have e2 : (u ++ two (chk u)).getD 2 0 = UInt8.ofNat f.f1.toNat := by rw [hu]; rfl
    have e3 : ((u ++ two (chk u)).drop 3).take (ls f.f2).length = ls f.f2 := by
      rw [hu, List.append_assoc]
      show ((ls f.f2) ++ _).take _ = _
      rw [List.take_left]
    rw [e1, e2, hs, e3, size_ofNat (by omega), size_ofNat (by omega), str_ls, Int.toNat_of_nonneg h0, Int.toNat_of_nonneg h2]
  have hd : (u ++ two (chk u) ++ t).drop (5 + size_ (u ++ two (chk u) ++ t)) = t := by
    have e : 5 + size_ (u ++ two (chk u) ++ t) = (u ++ two (chk u)).length := by
      rw [List.append_assoc, hs, List.length_append, hul, h2l]
      omega
    rw [e, List.drop_left]
  have := Scans.good (t := u ++ two (chk u) ++ t) (fs := fs) (n := n) (r := r) hk2 (by rw [hd]; exact hS)
  rw [hfr] at this
  rw [hb]
  exact this

/-! ### FrameBack -/
theorem back_end (x0 : List S45) (s : ByteArray) (x5 : List Int) (x6 : List S45) (i : Int) (hS : Scans (lb x5) x6 0 []) (hl : x5.length < 4294967296) : Ev (fun k => windhoverlaw04_FrameBack.j1 k x0 s x5 x6 i false) true := by
  have hsz : (strOfNums x5).size = x5.length := strOfNums_size _
  have hlen := hS.len
  rw [lb_len] at hlen
  obtain ⟨K1, h1⟩ := feed_eq (d := ⟨#[]⟩) (a := strOfNums x5) (n0 := 0) (by rw [show ls (⟨#[]⟩ : ByteArray) = [] from rfl, List.nil_append]; exact hS) (by rw [show (⟨#[]⟩ : ByteArray).size = 0 from rfl]; omega)
  obtain ⟨K2, h2⟩ := same_eq x6 (by omega)
  dsimp only at h1 h2
  refine ⟨K1 + K2 + 1, fun k hk => ?_⟩
  obtain ⟨k, rfl⟩ : ∃ m, k = m + 1 := ⟨k - 1, by omega⟩
  dsimp only
  rw [windhoverlaw04_FrameBack.j1, if_neg Bool.false_ne_true, new_eq, awake_eq]
  simp only [Option.bind_some, if_true]
  rw [show (0 : Int) = ((most 0 : Nat) : Int) from rfl, h1 k (by omega)]
  simp only [Option.bind_some]
  rw [h2 k (by omega)]
  simp only [Option.bind_some, if_true, bad_eq, held_R]
  rfl
theorem back_step (x0 : List S45) (s : ByteArray) (x5 : List Int) (x6 : List S45) (i : Nat) (hi : i < x0.length) (hil : x0.length ≤ 1048576) (hw : x5.length < 1048576) (hs : s.size ≤ 1048576)
    (h : ∀ (y5 : List Int) (y6 : List S45), (Fits x0[i] ∧ (∃ c : List UInt8, (∀ b ∈ c, b ≠ 253) ∧ lb y5 = lb x5 ++ (c ++ bytes_ x0[i])) ∧ y5.length ≤ x5.length + 1048576 + 70 ∧ y6 = x6 ++ [x0[i]] ∨ y5 = x5 ∧ y6 = x6) → Ev (fun k => windhoverlaw04_FrameBack.l0 k x0 s y5 y6 ((i + 1 : Nat) : Int)) true)
    (hx6 : x6.length < 4398046511104) (hz : (x0[i]).f2.size < 140737488355328) : Ev (fun k => windhoverlaw04_FrameBack.j1 k x0 s x5 x6 (i : Int) true) true := by
  by_cases hf : Fits x0[i]
  · obtain ⟨c, ⟨K1, h1⟩, hc, hcs⟩ := clean_eq s hs
    obtain ⟨K2, h2⟩ := encode_fits hf
    have hbl := bytes_length x0[i]
    obtain ⟨f1, f2, f3, f4, f5⟩ := hf
    have hby : (bytesOf c).length = c.size := bytesOf_length _
    have hbz : (bytesOf (str (bytes_ x0[i]))).length = (bytes_ x0[i]).length := by rw [bytesOf_length, str_size]
    rw [ls_len] at hbl
    obtain ⟨K3, h3⟩ := h (x5 ++ bytesOf c ++ bytesOf (str (bytes_ x0[i]))) (x6 ++ [x0[i]]) (.inl ⟨⟨f1, f2, f3, f4, f5⟩, ⟨ls c, hc, by rw [lb_append, lb_append, lb_bytes, lb_bytes, ls_strl, List.append_assoc]⟩, by rw [List.length_append, List.length_append, hby, hbz]; omega, rfl⟩)
    dsimp only at h1 h2 h3
    refine ⟨K1 + K2 + K3 + 2, fun k hk => ?_⟩
    obtain ⟨k, rfl⟩ : ∃ m, k = m + 2 := ⟨k - 2, by omega⟩
    dsimp only
    rw [windhoverlaw04_FrameBack.j1, if_pos rfl, if_pos (by omega), if_pos (by omega), rd_frame x0 i hi, h2 _ (by omega)]
    simp only [Option.bind_some]
    rw [if_pos (by omega), if_pos (by omega), if_pos (by omega), if_pos (by omega), decide_eq_true (by omega), windhoverlaw04_FrameBack.j2]
    rw [if_neg (by decide), if_pos rfl, h1 _ (by omega)]
    simp only [Option.bind_some]
    rw [if_pos (by omega), if_pos (by rw [List.length_append, hby, str_size]; omega), if_pos (by omega), if_pos (by omega), if_pos (by omega), rd_frame x0 i hi]
    simp only [wr1 (i := i) (by omega)]
    exact h3 k (by omega)
  · obtain ⟨K1, h1⟩ := encode_eq (x0[i]).f0 (x0[i]).f1 (x0[i]).f2 hz
    have hne : ((encR (x0[i]).f0 (x0[i]).f1 (x0[i]).f2).2 == 0) = false := by
      unfold encR
      by_cases ha : (x0[i]).f0 < 0 ∨ (x0[i]).f0 > 255 ∨ (x0[i]).f1 < 0 ∨ (x0[i]).f1 > 255
      · rw [if_pos ha]; rfl
      · rw [if_neg ha]
        by_cases hb : (x0[i]).f2.size > 64
        · rw [if_pos hb]; rfl
        · exact absurd ⟨by omega, by omega, by omega, by omega, by omega⟩ hf
    obtain ⟨K3, h3⟩ := h x5 x6 (.inr ⟨rfl, rfl⟩)
    dsimp only at h1 h3
    refine ⟨K1 + K3 + 2, fun k hk => ?_⟩
    obtain ⟨k, rfl⟩ : ∃ m, k = m + 2 := ⟨k - 2, by omega⟩
    dsimp only
    have hj : ∀ y, windhoverlaw04_FrameBack.j2 (k + 1) x0 s x5 x6 (i : Int) y (encR (x0[i]).f0 (x0[i]).f1 (x0[i]).f2).2 false = some true := by
      intro y
      rw [windhoverlaw04_FrameBack.j2, hne, if_neg (by decide), if_neg Bool.false_ne_true]
      simp only [wr1 (i := i) (by omega)]
      exact h3 k (by omega)
    rw [windhoverlaw04_FrameBack.j1, if_pos rfl, if_pos (by omega), if_pos (by omega), rd_frame x0 i hi, h1 _ (by omega)]
    simp only [Option.bind_some]
    by_cases g1 : (x0[i]).f0 ≥ 0
    · rw [if_pos g1]
      by_cases g2 : (x0[i]).f0 ≤ 255
      · rw [if_pos g2]
        by_cases g3 : (x0[i]).f1 ≥ 0
        · rw [if_pos g3]
          by_cases g4 : (x0[i]).f1 ≤ 255
          · rw [if_pos g4, decide_eq_false (fun g5 => hf ⟨g1, g2, g3, g4, by omega⟩)]
            exact hj _
          · rw [if_neg g4]
            exact hj _
        · rw [if_neg g3]
          exact hj _
      · rw [if_neg g2]
        exact hj _
    · rw [if_neg g1]
      exact hj _
theorem back_loop (x0 : List S45) (s : ByteArray) (hs : s.size ≤ 1048576) (hil : x0.length ≤ 1048576) (hz : ∀ x ∈ x0, x.f2.size < 140737488355328) (d : Nat) : ∀ (i : Nat) (x5 : List Int) (x6 : List S45), i + d = x0.length → Scans (lb x5) x6 0 [] → x5.length < 1048576 + 1048576 + 70 → x6.length ≤ i →
    Ev (fun k => windhoverlaw04_FrameBack.l0 k x0 s x5 x6 (i : Int)) true := by
  induction d with
  | zero =>
    intro i x5 x6 hi hS hl h6
    refine Ev.step (fun k => ?_) (back_end x0 s x5 x6 (i : Int) hS (by omega))
    rw [windhoverlaw04_FrameBack.l0, if_neg (by omega)]
  | succ d ih =>
    intro i x5 x6 hi hS hl h6
    by_cases hx : x5.length < 1048576
    · refine Ev.step (fun k => ?_) (back_step x0 s x5 x6 i (by omega) hil hx hs ?_ (by omega) (hz _ (List.getElem_mem _)))
      · rw [windhoverlaw04_FrameBack.l0, if_pos (by omega), decide_eq_true (by omega)]
      · rintro y5 y6 (⟨hF, ⟨c, hc, he⟩, hyl, rfl⟩ | ⟨rfl, rfl⟩)
        · refine ih (i + 1) y5 _ (by omega) ?_ (by omega) (by rw [List.length_append]; simp only [List.length_cons, List.length_nil]; omega)
          rw [he]
          have h1 : Scans (c ++ (bytes_ x0[i] ++ [])) [x0[i]] 0 [] := .skips hc (.wrote hF .nil)
          rw [List.append_nil] at h1
          have := hS.more (c ++ bytes_ x0[i]) (fs' := [x0[i]]) (n' := 0) (r' := []) (by rw [List.nil_append]; exact h1)
          exact this
        · exact ih (i + 1) _ _ (by omega) hS hl (by omega)
    · refine Ev.step (fun k => ?_) (back_end x0 s x5 x6 (i : Int) hS (by omega))
      rw [windhoverlaw04_FrameBack.l0, if_pos (by omega), decide_eq_false (by omega)]
theorem all_len {α : Type} (m : α → Nat) (c : Nat) (hm : ∀ x, c ≤ m x) (l : List α) : c * l.length ≤ Op.all_ m l := by
  induction l with
  | nil => exact Nat.zero_le _
  | cons x l ih =>
    have := hm x
    rw [List.length_cons, Nat.mul_add, Nat.mul_one]
    show _ ≤ m x + Op.all_ m l
    omega
theorem all_mem {α : Type} (m : α → Nat) (l : List α) : ∀ x ∈ l, m x ≤ Op.all_ m l := by
  induction l with
  | nil => intro x hx; cases hx
  | cons y l ih =>
    intro x hx
    show _ ≤ m y + Op.all_ m l
    rcases List.mem_cons.1 hx with rfl | hx
    · omega
    · have := ih x hx
      omega
theorem back_pure (x0 : List S45) (s : ByteArray) (h0 : Op.all_ (fun x : S45 => x.f2.size + 4) x0 ≤ 1048576) (hs : s.size ≤ 1048576) : ∃ k, windhoverlaw04_FrameBack.f k x0 s = some true := by
  have h1 := all_len (fun x : S45 => x.f2.size + 4) 1 (fun x => by omega) x0
  have h := back_loop x0 s hs (by omega) (fun x hx => by
    have := all_mem (fun x : S45 => x.f2.size + 4) x0 x hx
    omega) x0.length 0 [] [] (by omega) .nil (by show 0 < _; omega) (Nat.le_refl _)
  obtain ⟨K, hK⟩ := h
  exact ⟨K, hK K (Nat.le_refl _)⟩
/-- The walk of FrameBack. -/
theorem back_walk (A : Option Addr) (c : Nat) (l : List S45) (s : ByteArray) (w : World) {b : Nat} (hr : Kd.C k45 w A l.length l) (hc : l.length ≤ c) (g : ∀ x ∈ l, (Lit.int .i64 x.f0).wf = true ∧ (Lit.int .i64 x.f1).wf = true) (m : Op.all_ (fun x : S45 => x.f2.size + 4) l + 1 ≤ b) (hb : b + (s.size + 1) ≤ 1048576) :
    Calls Try.prog 11 #[.slice A l.length c, .string s] w fun e w' => e = .returned (.bool true) ∧ Below w.heap.size w w' := by
  obtain ⟨k, hk⟩ := back_pure l s (by omega) (by omega)
  exact windhoverlaw04_FrameBack.calls k A c l s true w hr hc hk
end Go.Proofs.Ytbbinmplkbpcdaa.Fr
