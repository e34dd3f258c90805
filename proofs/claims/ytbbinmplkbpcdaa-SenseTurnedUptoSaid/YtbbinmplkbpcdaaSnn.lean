import Derived.Test.YtbbinmplkbpcdaaSnm
import Derived.Test.YtbbinmplkbpcdaaFsC
/-! SenseTurned: the plain law. -/
set_option linter.unusedVariables false
set_option linter.constructorNameAsVariable false
namespace Go.Proofs.Ytbbinmplkbpcdaa.OpPs
open Go.RowKit Go.ChangeShapes Go.WideShapes Go.Proofs.YtbbinmplkbpcdaaW.PrintWords
section
variable {H : Type} {enc : TypeId × Value → H} {w : World}
set_option maxRecDepth 100000 in
/-- A turn that is an argument. -/
theorem arg_turned {r : Reach} {b0 : Nat} {v : Value} {d : DataW H} {p : List MemPlace} (hv : Value.okWide Try.prog w r b0 97 v) (h : DataW.Trod enc Try.prog w 0 (fun _ => true) true 97 v d p) :
    ∃ (f0 f1 : Int), v = .agg #[.int .i64 f0, .int .u8 f1] ∧ (Lit.int .i64 f0).wf = true ∧ (Lit.int .u8 f1).wf = true := by
  obtain ⟨v0, v1, y0, y1, n, rfl, rfl, rfl, h0, h1⟩ := Joins.open_agg2 Try.underlying97 (by kernel_rfl) (by kernel_rfl) hv h
  obtain ⟨f0, e0, rfl, w0⟩ := DataW.trod_int Try.underlying3 h0
  obtain ⟨f1, e1, rfl, w1⟩ := DataW.trod_int Try.underlying5 h1
  injection e0 with e0
  injection e1 with e1
  subst e0 e1
  exact ⟨f0, f1, rfl, w0, w1⟩
end
end Go.Proofs.Ytbbinmplkbpcdaa.OpPs
namespace Go.Proofs.Ytbbinmplkbpcdaa.Ps
open Go.RowKit Go.Proofs.Ytbbinmplkbpcdaa.Wd Go.Proofs.YtbbinmplkbpcdaaW.PrintWords Go.Proofs.YtbbinmplkbpcdaaW.PrintLast Go.Proofs.YtbbinmplkbpcdaaW.PrintMore
open Go.Proofs.Ytbbinmplkbpcdaa.Fs (ls ls_len ls_inj ls_tail ls_extract sum_lt)
theorem goodF_list {s : Int} {ws : List Int} {u : List UInt8} (h : GoodF s ws (str u)) : ∃ (h1 : 1 + sumW ws < u.length) (h2 : 2 + sumW ws < u.length), (u[1 + sumW ws].toNat) = Fs.sum (u.take (1 + sumW ws)) % 256 ∧ (u[2 + sumW ws].toNat) = Fs.sum (u.take (1 + sumW ws)) / 256 := by
  obtain ⟨a, _, b, c⟩ := h
  rw [str_size] at a
  have h1 : 1 + sumW ws < (ls (str u)).length := by rw [ls_strl]; omega
  have h2 : 2 + sumW ws < (ls (str u)).length := by rw [ls_strl]; omega
  rw [Fs.bt_eq _ _ h1, Fs.ls_head] at b
  rw [Fs.bt_eq _ _ h2, Fs.ls_head] at c
  simp only [ls_strl] at b c
  exact ⟨by omega, by omega, by exact_mod_cast b, by exact_mod_cast c⟩
theorem turned_bad {s : Int} {ws : List Int} {u : List UInt8} (h : GoodF s ws (str u)) {i : Nat} {b : UInt8} (hi : i < 3 + sumW ws) {hi2 : i < u.length} (hb : u[i] ≠ b) : ¬ GoodF s ws (str (u.set i b)) := by
  intro h'
  obtain ⟨a1, a2, a3, a4⟩ := goodF_list h
  obtain ⟨b1, b2, b3, b4⟩ := goodF_list h'
  have c1 := sum_lt (u.take (1 + sumW ws))
  have c2 := sum_lt ((u.set i b).take (1 + sumW ws))
  rcases Nat.lt_or_ge i (1 + sumW ws) with hc | hc
  · rw [List.getElem_set_ne (by omega)] at b3 b4
    have e : Fs.sum (u.take (1 + sumW ws)) = Fs.sum ((u.take (1 + sumW ws)).set i b) := by
      rw [← List.take_set]
      omega
    have := Fs.sum_byte (by rw [List.length_take]; omega) e
    rw [List.getElem_take] at this
    exact hb this
  · have e : (u.set i b).take (1 + sumW ws) = u.take (1 + sumW ws) := by
      rw [List.take_set, List.set_eq_of_length_le (by rw [List.length_take]; omega)]
    rw [e] at b3 b4
    rcases (by omega : i = 1 + sumW ws ∨ i = 2 + sumW ws) with rfl | rfl
    · rw [List.getElem_set_self] at b3
      exact hb (UInt8.toNat_inj.1 (by omega))
    · rw [List.getElem_set_self] at b4
      exact hb (UInt8.toNat_inj.1 (by omega))
/-- A frame with a turned byte says nothing, and one A5 of it at least is bad. -/
theorem turned_said {s : Int} (h0 : 0 ≤ s) (h1 : s ≤ 255) {l : List Int} (hw : wsOf s ≠ []) (hin : AllIn (wsOf s) l) {j : Nat} (h2 : 2 ≤ j) (hj : j < (wrS s l).size) {by_ : Int} (hb0 : by_ ≠ 0) (hb1 : 0 ≤ by_) (hb2 : by_ ≤ 255) {L : List Int} {N : Nat}
    (hS : Said s (strOfNums ((bytesOf (wrS s l)).set j (Go.bits .xor .u8 (bt (wrS s l) (j : Int)) by_))) L N) : L = [] ∧ 1 ≤ N := by
  have hsz := wrS_size h0 h1 hin
  have hb := wrS_bytes h0 h1 l
  have hR := hS.1 hw
  cases hls : ls (wrS s l) with
  | nil =>
    have := ls_len (wrS s l)
    rw [hls] at this
    simp only [List.length_nil] at this
    omega
  | cons b u =>
    have hlen := ls_len (wrS s l)
    rw [hls, List.length_cons] at hlen
    have hjl : j < (ls (wrS s l)).length := by rw [ls_len]; exact hj
    obtain ⟨t, rfl⟩ : ∃ t : Nat, by_ = (t : Int) := ⟨by_.toNat, by omega⟩
    have hju : j - 1 < u.length := by omega
    have hbt : bt (wrS s l) (j : Int) = ((u[j - 1].toNat : Nat) : Int) := by
      rw [Fs.bt_eq _ _ hjl]
      simp only [hls]
      rw [List.getElem_cons, dif_neg (by omega)]
    rw [bytesOf_ls, hls] at hb
    have hb165 : b = 165 := by
      injection hb with e _
      have e : (b.toNat : Int) = 165 := e
      apply UInt8.toNat_inj.1
      show _ = 165
      omega
    subst hb165
    have hu : bytesOf (str u) = body s l ++ [((sumOf s l : Nat) : Int) % 256, ((sumOf s l : Nat) : Int) / 256 % 256] ++ [] := by
      rw [bytesOf_str, List.append_nil]
      injection hb
    obtain ⟨hg, -⟩ := wrote_good h0 h1 hin hu
    have hx := Fs.xor_ne u[j - 1] t (by omega) (by omega)
    have hbad := turned_bad hg (i := j - 1) (hi2 := hju) (by omega) hx
    have hX : ls (strOfNums ((bytesOf (wrS s l)).set j (Go.bits .xor .u8 (bt (wrS s l) (j : Int)) (t : Int)))) = 165 :: u.set (j - 1) (UInt8.ofNat (u[j - 1].toNat ^^^ t)) := by
      rw [hbt, Fs.bits_xor8 _ _ u[j - 1].toNat_lt (by omega), bytesOf_ls, hls]
      obtain ⟨i, rfl⟩ : ∃ i, j = i + 1 := ⟨j - 1, by omega⟩
      rw [Fs.ls_str]
      unfold nums8
      rw [List.map_cons, List.set_cons_succ, List.map_cons, List.map_set, List.map_map]
      congr 1
      rw [Int.toNat_natCast]
      congr 1
      conv => rhs; rw [← List.map_id u]
      apply List.map_congr_left
      intro c _
      show UInt8.ofNat ((c.toNat : Int)).toNat = c
      rw [Int.toNat_natCast, UInt8.ofNat_toNat]
    rw [hX] at hR
    cases hR with
    | skip hb _ => exact absurd rfl hb
    | bad _ h => exact ⟨h.short (by rw [List.length_set]; omega), by omega⟩
    | good hg _ _ => exact absurd hg hbad
end Go.Proofs.Ytbbinmplkbpcdaa.Ps
