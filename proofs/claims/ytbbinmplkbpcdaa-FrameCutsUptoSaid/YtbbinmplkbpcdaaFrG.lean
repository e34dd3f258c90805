import Derived.Test.YtbbinmplkbpcdaaFrF
/-! FrameCounts: how many were bad never falls, and stops at 65535. -/
set_option linter.unusedVariables false
set_option linter.unusedSectionVars false
namespace Go.Proofs.Ytbbinmplkbpcdaa.Fr
open Go.RowKit Go.Proofs.Ytbbinmplkbpcdaa.Pr Go.Proofs.YtbbinmplkbpcdaaW.PrintWords Go.Proofs.YtbbinmplkbpcdaaW.PrintLast Go.Proofs.YtbbinmplkbpcdaaW.PrintMore

theorem most_le (n : Nat) : most n ≤ 65535 := Nat.min_le_right _ _
theorem most_mono {n m : Nat} (h : n ≤ m) : most n ≤ most m := by unfold most; omega
theorem bad_eq (s : ByteArray) (x : Int) : frame_Reader_Bad.f s x = some (x, s, x) := rfl
theorem held_R (s : ByteArray) (x : Int) : frame_Reader_Held.f s x = some ((s.size : Int), s, x) := rfl
theorem awake_eq : windhoverlaw04_awake.f = some true := rfl
theorem new_eq : frame_New.f = some ((⟨#[]⟩ : ByteArray), 0) := rfl

theorem counts_loop (a : ByteArray) (x1 : Int) (ha : a.size ≤ 1048576) (d : Nat) : ∀ (i n : Nat) (s : ByteArray), i + d = 40 → s.size ≤ 69 → n ≤ i * 1048645 →
    Ev (fun k => windhoverlaw04_FrameCounts.l0 k a x1 ((most n : Nat) : Int) (i : Int) s ((most n : Nat) : Int)) true := by
  have stop : ∀ (i n : Nat) (s : ByteArray) (b : Bool), b = false → Ev (fun k => windhoverlaw04_FrameCounts.j1 k a x1 ((most n : Nat) : Int) (i : Int) b s ((most n : Nat) : Int)) true := by
    intro i n s b hb
    subst hb
    refine Ev.step (fun k => ?_) (Ev.now _)
    rw [windhoverlaw04_FrameCounts.j1, if_neg Bool.false_ne_true, awake_eq]
    rfl
  induction d with
  | zero =>
    intro i n s hi hs hn
    refine Ev.step (fun k => ?_) (stop i n s false rfl)
    rw [windhoverlaw04_FrameCounts.l0]
    split
    · rw [decide_eq_false (by omega)]
    · rfl
  | succ d ih =>
    intro i n s hi hs hn
    by_cases h : (i : Int) < x1
    · obtain ⟨fs, m, r, hS⟩ := Scans.total (ls s ++ ls a)
      have hl := hS.len
      rw [List.length_append, ls_len, ls_len] at hl
      have hr := hS.rest.1
      have hf := feed_eq (n0 := n) hS (by omega)
      have hnext := ih (i + 1) (n + m) (str r) (by omega) (by rw [str_size]; exact hr) (by omega)
      have hm1 := most_mono (show n ≤ n + m by omega)
      have hm2 := most_le (n + m)
      have hw := wr1 (i := i) (by omega)
      obtain ⟨K1, h1⟩ := hf
      obtain ⟨K2, h2⟩ := hnext
      refine ⟨K1 + K2 + 2, fun k hk => ?_⟩
      obtain ⟨k, rfl⟩ : ∃ m, k = m + 2 := ⟨k - 2, by clear hw; omega⟩
      dsimp only at h1 h2 ⊢
      rw [windhoverlaw04_FrameCounts.l0, if_pos h, decide_eq_true (by clear hw; omega), windhoverlaw04_FrameCounts.j1, if_pos rfl, h1 k (by clear hw; omega)]
      simp only [Option.bind_some, bad_eq]
      rw [if_neg (by clear hw; omega), if_neg (by clear hw; omega), hw]
      exact h2 k (by clear hw; omega)
    · refine Ev.step (fun k => ?_) (stop i n s false rfl)
      rw [windhoverlaw04_FrameCounts.l0, if_neg h]
theorem counts_pure (a : ByteArray) (x1 : Int) (ha : a.size ≤ 1048576) : ∃ k, windhoverlaw04_FrameCounts.f k a x1 = some true :=
  Ev.rounds (counts_loop a x1 ha 40 0 0 ⟨#[]⟩ (by omega) (by decide) (by omega))
/-- The walk of FrameCounts. -/
theorem counts_walk (a : ByteArray) (x1 : Int) (w : World) (hw : (Lit.int .i64 x1).wf = true) (hb : a.size + 1 + 1 ≤ 1048576) :
    Calls Try.prog 14 #[.string a, .int .i64 x1] w fun e w' => e = .returned (.bool true) ∧ Below w.heap.size w w' := by
  obtain ⟨k, hk⟩ := counts_pure a x1 (by omega)
  exact windhoverlaw04_FrameCounts.calls k a x1 true w hk
end Go.Proofs.Ytbbinmplkbpcdaa.Fr
