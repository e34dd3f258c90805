import Derived.Test.YtbbinmplkbpcdaaFrH
import Derived.Test.YtbbinmplkbpcdaaOp
/-! FrameFeeds and FrameBack. -/
set_option linter.unusedVariables false
set_option linter.unusedSectionVars false
namespace Go.Proofs.Ytbbinmplkbpcdaa.Fr
open Go.RowKit Go.Proofs.Ytbbinmplkbpcdaa.Pr Go.Proofs.YtbbinmplkbpcdaaW.PrintWords Go.Proofs.YtbbinmplkbpcdaaW.PrintLast Go.Proofs.YtbbinmplkbpcdaaW.PrintMore

/-! ### Same -/
theorem same_loop (l : List S45) (hl : l.length < 4611686018427387904) (d : Nat) : ∀ i : Nat, i + d = l.length → Ev (fun k => windhoverref04_Same.l0 k l l (i : Int)) true := by
  induction d with
  | zero =>
    intro i hi
    refine Ev.step (fun k => ?_) (Ev.now _)
    rw [windhoverref04_Same.l0, if_neg (by omega)]
  | succ d ih =>
    intro i hi
    refine Ev.step (fun k => ?_) (ih (i + 1) (by omega))
    rw [windhoverref04_Same.l0, if_pos (by omega), if_pos (by omega), if_pos (by omega)]
    simp only [beq_self_eq_true, Bool.not_true, Bool.or_false, Bool.false_eq_true, if_false, wr1 (i := i) (by omega)]
theorem same_eq (l : List S45) (hl : l.length < 4611686018427387904) : Ev (fun k => windhoverref04_Same.f k l l) true := by
  refine Ev.congr (fun k => ?_) (same_loop l hl l.length 0 (by omega))
  unfold windhoverref04_Same.f
  rw [if_pos rfl]
  rfl

/-! ### bytes told as numbers -/
/-- The bytes of a slice of bytes. -/
def lb (xs : List Int) : List UInt8 := ls (strOfNums xs)
theorem lb_append (xs ys : List Int) : lb (xs ++ ys) = lb xs ++ lb ys := by simp [lb, ls_str]
theorem lb_bytes (s : ByteArray) : lb (bytesOf s) = ls s := by
  simp only [lb, ls_str, bytesOf, List.map_map]
  conv => rhs; rw [← List.map_id (ls s)]
  apply List.map_congr_left
  intro b _
  simp
theorem lb_len (xs : List Int) : (lb xs).length = xs.length := by simp [lb, ls_str]
theorem str_lb (xs : List Int) : ls (strOfNums xs) = lb xs := rfl

/-! ### FrameFeeds -/
theorem feeds_l2 (x0 : List ByteArray) (x4 : List Int) (x5 x6 : Int) (s : ByteArray) (x : Int) {r : Bool} (h : Ev (fun k => windhoverlaw04_FrameFeeds.l0 k x0 x4 x5 (wrap64 (x6 + 1)) s x) r) (d : Nat) : ∀ (i : Nat) (l : List S45), i + d = 9 → l.length + d ≤ 4398046511104 →
    Ev (fun k => windhoverlaw04_FrameFeeds.l2 k x0 x4 x5 x6 l (i : Int) s x) r := by
  induction d with
  | zero =>
    intro i l hi hl
    refine Ev.step (fun k => ?_) h
    rw [windhoverlaw04_FrameFeeds.l2, if_neg (by omega)]
  | succ d ih =>
    intro i l hi hl
    refine Ev.step (fun k => ?_) (ih (i + 1) (l ++ [(⟨(-8), 0, (⟨#[]⟩ : ByteArray)⟩ : S45)]) (by omega) (by rw [List.length_append]; simp only [List.length_cons, List.length_nil]; omega))
    rw [windhoverlaw04_FrameFeeds.l2, if_pos (by omega), if_pos (by omega)]
    simp only [wr1 (i := i) (by omega)]
theorem feeds_l1 (x0 : List ByteArray) (x4 : List Int) (x5 x6 : Int) (s : ByteArray) (x : Int) {r : Bool} (h : Ev (fun k => windhoverlaw04_FrameFeeds.l0 k x0 x4 x5 (wrap64 (x6 + 1)) s x) r) (d : Nat) : ∀ (i : Nat) (l : List S45), i + d = l.length → l.length ≤ 4398046511000 →
    Ev (fun k => windhoverlaw04_FrameFeeds.l1 k x0 x4 x5 x6 l (i : Int) s x) r := by
  induction d with
  | zero =>
    intro i l hi hl
    refine Ev.step (fun k => ?_) (feeds_l2 x0 x4 x5 x6 s x h 9 0 l rfl (by omega))
    rw [windhoverlaw04_FrameFeeds.l1, if_neg (by omega)]
    rfl
  | succ d ih =>
    intro i l hi hl
    refine Ev.step (fun k => ?_) (ih (i + 1) (l.set i (⟨(-7), 0, (⟨#[]⟩ : ByteArray)⟩ : S45)) (by rw [List.length_set]; omega) (by rw [List.length_set]; omega))
    rw [windhoverlaw04_FrameFeeds.l1, if_pos (by omega), if_pos (by omega)]
    simp only [wr1 (i := i) (by omega), Int.toNat_natCast]
/-- How many bytes some strings have. -/
def total (l : List ByteArray) : Nat := Op.all_ (fun s : ByteArray => s.size + 1) l
theorem total_cons (s : ByteArray) (l : List ByteArray) : total (s :: l) = s.size + 1 + total l := rfl
theorem rd_str (xs : List ByteArray) (i : Nat) (h : i < xs.length) : rdOf ByteArray.empty xs (i : Int) = xs[i] := by
  unfold rdOf
  rw [Int.toNat_natCast, List.getD_eq_getElem?_getD, List.getElem?_eq_getElem h]
  rfl
theorem feeds_loop (x0 : List ByteArray) (h0 : x0.length ≤ 1048576) (d : Nat) : ∀ (i n : Nat) (x4 : List Int) (fs : List S45) (s : ByteArray), i + d = x0.length → Scans (lb x4) fs n (ls s) → x4.length + total (x0.drop i) ≤ 1048576 →
    Ev (fun k => windhoverlaw04_FrameFeeds.l0 k x0 x4 (fs.length : Int) (i : Int) s ((most n : Nat) : Int)) true := by
  have stop : ∀ (x4 : List Int) (x5 x6 : Int) (s : ByteArray) (x : Int) (b : Bool), b = false → Ev (fun k => windhoverlaw04_FrameFeeds.j1 k x0 x4 x5 x6 b s x) true := by
    intro x4 x5 x6 s x b hb
    subst hb
    refine Ev.step (fun k => ?_) (Ev.now _)
    rw [windhoverlaw04_FrameFeeds.j1, if_neg Bool.false_ne_true, awake_eq]
    rfl
  induction d with
  | zero =>
    intro i n x4 fs s hi hS hz
    refine Ev.step (fun k => ?_) (stop x4 (fs.length : Int) (i : Int) s ((most n : Nat) : Int) false rfl)
    rw [windhoverlaw04_FrameFeeds.l0, if_neg (by omega)]
  | succ d ih =>
    intro i n x4 fs s hi hS hz
    have hil : i < x0.length := by omega
    by_cases hx : x4.length < 65536
    · rw [List.drop_eq_getElem_cons hil, total_cons] at hz
      obtain ⟨fs', n', r', hS'⟩ := Scans.total (ls s ++ ls x0[i])
      have hM := hS.more (ls x0[i]) hS'
      have hl1 := hS.len
      have hl2 := hS'.len
      rw [lb_len, ls_len] at hl1
      rw [List.length_append, ls_len, ls_len] at hl2
      have hM2 : Scans (ls (strOfNums (x4 ++ bytesOf x0[i]))) (fs ++ fs') (n + n') r' := by
        rw [str_lb, lb_append, lb_bytes]
        exact hM
      have hbl : (bytesOf x0[i]).length = x0[i].size := bytesOf_length _
      obtain ⟨K1, h1⟩ := feed_eq (n0 := n) hS' (by omega)
      obtain ⟨K2, h2⟩ := read_eq hM2 (by rw [strOfNums_size, List.length_append, hbl]; omega)
      obtain ⟨K3, h3⟩ := same_eq fs' (by omega)
      have hn := ih (i + 1) (n + n') (x4 ++ bytesOf x0[i]) (fs ++ fs') (str r') (by omega) (by rw [← str_lb, ls_strl]; exact hM2) (by rw [List.length_append, hbl]; omega)
      have hw := wr1 (i := i) (by omega)
      have hn2 : Ev (fun k => windhoverlaw04_FrameFeeds.l0 k x0 (x4 ++ bytesOf x0[i]) ((fs ++ fs').length : Int) (wrap64 ((i : Int) + 1)) (str r') ((most (n + n') : Nat) : Int)) true := by
        rw [hw]
        exact hn
      clear hw hn
      obtain ⟨K4, h4⟩ := feeds_l1 x0 (x4 ++ bytesOf x0[i]) ((fs ++ fs').length : Int) (i : Int) (str r') ((most (n + n') : Nat) : Int) hn2 fs'.length 0 fs' (by omega) (by omega)
      have hmn : mn (((n + n' : Nat) : Int)) 65535 = ((most (n + n') : Nat) : Int) := by
        unfold mn most
        split <;> omega
      have hdr : (fs ++ fs').drop ((fs.length : Int)).toNat = fs' := by rw [Int.toNat_natCast, List.drop_left]
      dsimp only at h1 h2 h3 h4
      refine ⟨K1 + K2 + K3 + K4 + 3, fun k hk => ?_⟩
      obtain ⟨k, rfl⟩ : ∃ m, k = m + 3 := ⟨k - 3, by omega⟩
      dsimp only
      rw [windhoverlaw04_FrameFeeds.l0, if_pos (by omega), decide_eq_true (by omega), windhoverlaw04_FrameFeeds.j1, if_pos rfl, if_pos (by omega), if_pos (by omega), rd_str x0 i hil, h1 _ (by omega)]
      simp only [Option.bind_some]
      rw [if_pos (by omega), h2 _ (by omega)]
      simp only [Option.bind_some]
      rw [if_neg (by rw [List.length_append]; omega), if_pos (by omega), if_pos (by rw [List.length_append]; omega), hdr, h3 _ (by omega)]
      simp only [Option.bind_some, if_true, bad_eq, held_R]
      rw [hmn, if_pos rfl, str_size]
      simp only [bne_self_eq_false]
      rw [windhoverlaw04_FrameFeeds.j2, if_neg Bool.false_ne_true]
      exact h4 k (by omega)
    · refine Ev.step (fun k => ?_) (stop x4 (fs.length : Int) (i : Int) s ((most n : Nat) : Int) false rfl)
      rw [windhoverlaw04_FrameFeeds.l0, if_pos (by omega), decide_eq_false (by omega)]
theorem total_len (l : List ByteArray) : l.length ≤ total l := by
  induction l with
  | nil => exact Nat.le_refl _
  | cons s l ih =>
    rw [total_cons, List.length_cons]
    omega
theorem feeds_pure (x0 : List ByteArray) (h : total x0 ≤ 1048576) : ∃ k, windhoverlaw04_FrameFeeds.f k x0 = some true := by
  have := total_len x0
  have h1 := feeds_loop x0 (by omega) x0.length 0 0 [] [] ⟨#[]⟩ (by omega) .nil (by simpa using h)
  exact Ev.rounds h1
/-- The walk of FrameFeeds. -/
theorem feeds_walk (A : Option Addr) (c : Nat) (l : List ByteArray) (w : World) {b : Nat} (hr : Kd.C Kd.string w A l.length l) (hc : l.length ≤ c) (g : ∀ x ∈ l, x.size ≤ maxLen) (m : Op.all_ (fun s : ByteArray => s.size + 1) l + 1 ≤ b) (hb : b ≤ 1048576) :
    Calls Try.prog 9 #[.slice A l.length c] w fun e w' => e = .returned (.bool true) ∧ Below w.heap.size w w' := by
  obtain ⟨k, hk⟩ := feeds_pure l (by unfold total; omega)
  exact windhoverlaw04_FrameFeeds.calls k A c l true w hr hc hk
end Go.Proofs.Ytbbinmplkbpcdaa.Fr
