import Derived.Test.YtbbinmplkbpcdaaSnm
/-! SenseBack: the plain law. -/
set_option linter.unusedVariables false
set_option linter.constructorNameAsVariable false
namespace Go.Proofs.Ytbbinmplkbpcdaa.Ps
open Go.RowKit Go.Proofs.Ytbbinmplkbpcdaa.Wd Go.Proofs.YtbbinmplkbpcdaaW.PrintWords Go.Proofs.YtbbinmplkbpcdaaW.PrintLast Go.Proofs.YtbbinmplkbpcdaaW.PrintMore
open Go.Proofs.Ytbbinmplkbpcdaa.Fs (ls ls_len ls_inj ls_tail ls_extract sum_lt)
theorem nums8_append (a b : List UInt8) : nums8 (a ++ b) = nums8 a ++ nums8 b := List.map_append
/-- More bytes behind it do not turn a frame. -/
theorem good_more {s : Int} (h0 : 0 ≤ s) (h1 : s ≤ 255) {t : List UInt8} (h : GoodF s (wsOf s) (str t)) (y : List UInt8) :
    GoodF s (wsOf s) (str (t ++ y)) ∧ decF (wsOf s) ((bytesOf (str (t ++ y))).drop 1) = decF (wsOf s) ((bytesOf (str t)).drop 1) := by
  obtain ⟨hin, hb⟩ := good_stands h
  rw [wrS_bytes h0 h1] at hb
  injection hb with _ hb
  refine wrote_good (rest := (nums8 t).drop (3 + sumW (wsOf s)) ++ nums8 y) h0 h1 hin ?_
  rw [hb, bytesOf_str, bytesOf_str, nums8_append, ← List.append_assoc, List.take_append_drop]
/-- Where nothing is bad, what follows is read by itself. -/
theorem Reads.append {s : Int} (h0 : 0 ≤ s) (h1 : s ≤ 255) {x y : List UInt8} {l l' : List Int} {m n : Nat} (h : Reads s (wsOf s) x l m) (hm : m = 0) (h' : Reads s (wsOf s) y l' n) : Reads s (wsOf s) (x ++ y) (if l' = [] then l else l') n := by
  induction h with
  | nil =>
    by_cases hl : l' = []
    · rw [if_pos hl]; rw [hl] at h'; exact h'
    · rw [if_neg hl]; exact h'
  | skip hb _ ih => exact .skip hb (ih hm)
  | bad => omega
  | @good t l0 l1 _ hg _ e ih =>
    obtain ⟨g1, g2⟩ := good_more h0 h1 hg y
    have hz : 3 + sumW (wsOf s) ≤ t.length := by have := hg.1; rw [str_size] at this; exact this
    have h2 := ih hm
    rw [← List.drop_append_of_le_length hz] at h2
    show Reads s (wsOf s) (165 :: (t ++ y)) _ _
    refine .good g1 h2 ?_
    rw [g2, e]
    by_cases hl : l' = []
    · simp only [if_pos hl]
    · simp only [if_neg hl]
/-- A frame that is written is read. -/
theorem Reads.wrote {s : Int} (h0 : 0 ≤ s) (h1 : s ≤ 255) {l : List Int} (hin : AllIn (wsOf s) l) : Reads s (wsOf s) (ls (wrS s l)) l 0 := by
  have hsz := wrS_size h0 h1 hin
  have hb := wrS_bytes h0 h1 l
  rw [bytesOf_ls] at hb
  cases hls : ls (wrS s l) with
  | nil => rw [hls] at hb; simp [nums8] at hb
  | cons b u =>
    have hlen := ls_len (wrS s l)
    rw [hls, List.length_cons] at hlen
    rw [hls] at hb
    have hb165 : b = 165 := by
      injection hb with e _
      have e : (b.toNat : Int) = 165 := e
      apply UInt8.toNat_inj.1
      show _ = 165
      omega
    subst hb165
    have hu : bytesOf (str u) = body s l ++ [((sumOf s l : Nat) : Int) % 256, ((sumOf s l : Nat) : Int) / 256 % 256] ++ [] := by
      rw [bytesOf_str, List.append_nil]
      injection hb
    obtain ⟨hg, hd⟩ := wrote_good h0 h1 hin hu
    refine .good hg (l := []) ?_ (by rw [if_pos rfl]; exact hd.symm)
    rw [List.drop_eq_nil_of_le (by omega)]
    exact .nil
theorem Said.empty {s : Int} {d : ByteArray} (h : ∀ b ∈ ls d, b ≠ 165) : Said s d [] 0 := ⟨fun _ => by
  have := Reads.skips (s := s) (ws := wsOf s) (t := []) h .nil
  rw [List.append_nil] at this
  exact this, fun _ => ⟨rfl, rfl⟩⟩
theorem Said.more {s : Int} (h0 : 0 ≤ s) (h1 : s ≤ 255) {a j : ByteArray} {l l' : List Int} (hj : ∀ b ∈ ls j, b ≠ 165) (h : Said s a l 0) (hw : wsOf s ≠ []) (hin : AllIn (wsOf s) l') : Said s (a ++ wrS s l' ++ j) l' 0 := by
  refine ⟨fun _ => ?_, fun h => absurd h hw⟩
  have hne : l' ≠ [] := by
    intro e
    have := hin.length
    rw [e] at this
    exact hw (List.length_eq_zero_iff.1 this.symm)
  have h2 := (h.1 hw).append h0 h1 rfl (Reads.wrote h0 h1 hin)
  rw [if_neg hne] at h2
  have h3 := h2.append h0 h1 rfl ((Said.empty (s := s) hj).1 hw)
  rw [if_pos rfl, ← Fs.ls_append, ← Fs.ls_append] at h3
  exact h3
/-! ### the quiet bytes -/
def quietOf (t : List UInt8) : ByteArray := str (t.filter fun b => b != 165)
theorem quietOf_ls (t : List UInt8) : ∀ b ∈ ls (quietOf t), b ≠ 165 := by
  intro b hb
  unfold quietOf at hb
  rw [ls_strl] at hb
  exact bne_iff_ne.1 (List.mem_filter.1 hb).2
theorem quietOf_size (t : List UInt8) : (quietOf t).size ≤ t.length := by
  unfold quietOf
  rw [str_size]
  exact List.length_filter_le _ _
theorem str_nums8 (t : List UInt8) : strOfNums (nums8 t) = str t := by
  apply ls_inj
  rw [Fs.ls_str, ls_strl]
  unfold nums8
  rw [List.map_map]
  conv => rhs; rw [← List.map_id t]
  apply List.map_congr_left
  intro c _
  show UInt8.ofNat ((c.toNat : Int)).toNat = c
  rw [Int.toNat_natCast, UInt8.ofNat_toNat]
theorem quiet_loop (s : ByteArray) (hs : s.size ≤ 1099511627776) (d : Nat) : ∀ i : Nat, i + d = s.size → Ev (fun k => windhoverlaw11_quiet.l0 k s (nums8 (((ls s).take i).filter fun b => b != 165)) (i : Int)) (quietOf (ls s)) := by
  induction d with
  | zero =>
    intro i hi
    refine Ev.step (fun k => ?_) (Ev.now _)
    rw [windhoverlaw11_quiet.l0, if_neg (by omega), List.take_of_length_le (by rw [ls_len]; omega), str_nums8]
    rfl
  | succ d ih =>
    intro i hi
    have hil : i < (ls s).length := by rw [ls_len]; omega
    refine Ev.step (fun k => ?_) (ih (i + 1) (by omega))
    have hl : (nums8 (((ls s).take i).filter fun b => b != 165)).length ≤ i := by
      unfold nums8
      rw [List.length_map]
      exact Nat.le_trans (List.length_filter_le _ _) (by rw [List.length_take]; omega)
    rw [windhoverlaw11_quiet.l0, if_pos (by omega), if_pos (by omega), Fs.bt_eq _ _ hil, wup i (by omega), List.take_succ_eq_append_getElem hil, List.filter_append]
    by_cases hq : (ls s)[i] = 165
    · rw [if_pos (by rw [hq]; rfl)]
      simp only [hq]
      rw [show List.filter (fun b : UInt8 => b != 165) [165] = [] from rfl, List.append_nil]
    · rw [if_neg (by
        intro e
        apply hq
        apply UInt8.toNat_inj.1
        show _ = 165
        omega), if_pos (by omega)]
      have e2 : List.filter (fun b : UInt8 => b != 165) [(ls s)[i]] = [(ls s)[i]] := List.filter_cons_of_pos (by simpa using hq)
      rw [e2, nums8_append]
      rfl
theorem quiet_calls (s : ByteArray) (hs : s.size ≤ 1099511627776) (w : World) :
    Calls Try.prog 62 #[.string s] w fun e w' => e = .returned (.string (quietOf (ls s))) ∧ Below w.heap.size w w' := by
  obtain ⟨K, hK⟩ := quiet_loop s hs s.size 0 (by omega)
  exact windhoverlaw11_quiet.calls K s _ w (hK K (Nat.le_refl _))
end Go.Proofs.Ytbbinmplkbpcdaa.Ps
