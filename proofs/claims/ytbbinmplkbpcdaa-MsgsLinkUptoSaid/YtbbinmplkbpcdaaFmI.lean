import Derived.Test.YtbbinmplkbpcdaaFmH
/-! Frames that are written and read (as in the frame laws' texts, for this set of functions). -/
set_option linter.unusedVariables false
set_option linter.unusedSectionVars false
namespace Go.Proofs.Ytbbinmplkbpcdaa.Fm
open Go.RowKit Go.Proofs.Ytbbinmplkbpcdaa.Pm Go.Proofs.Ytbbinmplkbpcdaa.Wd Go.Proofs.YtbbinmplkbpcdaaW.PrintWords Go.Proofs.YtbbinmplkbpcdaaW.PrintLast Go.Proofs.YtbbinmplkbpcdaaW.PrintMore
/-- The bytes of a frame. -/
def bytes_ (f : S45) : List UInt8 := enc f.f0.toNat f.f1.toNat (ls f.f2)
/-- A frame that may be written. -/
def Fits (f : S45) : Prop := 0 ≤ f.f0 ∧ f.f0 ≤ 255 ∧ 0 ≤ f.f1 ∧ f.f1 ≤ 255 ∧ f.f2.size ≤ 64
theorem bytes_length (f : S45) : (bytes_ f).length = 6 + (ls f.f2).length := by
  unfold bytes_ enc two
  simp only [List.length_cons, List.length_append, List.length_nil]
  omega
theorem encode_fits {f : S45} (h : Fits f) : Ev (fun k => frame_Encode.f k f.f0 f.f1 f.f2) (str (bytes_ f), 0) := by
  obtain ⟨h1, h2, h3, h4, h5⟩ := h
  have := encode_eq f.f0 f.f1 f.f2 (by omega)
  unfold encR at this
  rw [if_neg (by omega), if_neg (by omega)] at this
  exact this
/-- The bytes of a slice of bytes. -/
def lb (xs : List Int) : List UInt8 := ls (strOfNums xs)
theorem lb_append (xs ys : List Int) : lb (xs ++ ys) = lb xs ++ lb ys := by simp [lb, ls_str]
theorem lb_bytes (s : ByteArray) : lb (bytesOf s) = ls s := by
  simp only [lb, ls_str, bytesOf, List.map_map]
  conv => rhs; rw [← List.map_id (ls s)]
  apply List.map_congr_left
  intro b _
  simp
theorem lb_len (xs : List Int) : (lb xs).length = xs.length := by simp [lb, ls_str]
theorem str_lb (xs : List Int) : ls (strOfNums xs) = lb xs := rfl

theorem size_ofNat {n : Nat} (h : n < 256) : (UInt8.ofNat n).toNat = n := by
  rw [UInt8.toNat_ofNat']
  omega
theorem Scans.wrote {f : S45} (hf : Fits f) {t : List UInt8} {fs : List S45} {n : Nat} {r : List UInt8} (hS : Scans t fs n r) : Scans (bytes_ f ++ t) (f :: fs) n r := by
  obtain ⟨h0, h1, h2, h3, h4⟩ := hf
  have hp : (ls f.f2).length ≤ 64 := by rw [ls_len]; exact h4
  obtain ⟨u, hu⟩ : ∃ u, u = [UInt8.ofNat (ls f.f2).length, UInt8.ofNat f.f0.toNat, UInt8.ofNat f.f1.toNat] ++ ls f.f2 := ⟨_, rfl⟩
  have hb : bytes_ f = 253 :: (u ++ two (chk u)) := by rw [hu]; rfl
  have hul : u.length = 3 + (ls f.f2).length := by rw [hu, List.length_append]; rfl
  have hs : ∀ m, size_ (u ++ m) = (ls f.f2).length := by
    intro m
    rw [hu]
    exact size_ofNat (by omega)
  have h2l : (two (chk u)).length = 2 := rfl
  have hk : kindOf (u ++ two (chk u)) = .good := by
    unfold kindOf
    rw [if_neg (by intro e; have := congrArg List.length e; rw [List.length_append, hul] at this; simp only [List.length_nil] at this; omega), hs, if_neg (by omega), if_neg (by rw [List.length_append, hul, h2l]; omega), if_pos]
    unfold ok
    rw [hs, ← hul, List.drop_left, List.take_left]
    rfl
  have hk2 : kindOf (u ++ two (chk u) ++ t) = .good := by rw [kind_append (by rw [hk]; exact Kind.noConfusion)]; exact hk
  have hfr : frameOf (u ++ two (chk u) ++ t) = f := by
    rw [frame_append (by intro e; have := congrArg List.length e; rw [List.length_append, hul] at this; simp only [List.length_nil] at this; omega) (by rw [hs, List.length_append, hul, h2l]; omega)]
    unfold frameOf
    have e1 : (u ++ two (chk u)).getD 1 0 = UInt8.ofNat f.f0.toNat := by rw [hu]; rfl
    have e2 : (u ++ two (chk u)).getD 2 0 = UInt8.ofNat f.f1.toNat := by rw [hu]; rfl
    have e3 : ((u ++ two (chk u)).drop 3).take (ls f.f2).length = ls f.f2 := by
      rw [hu, List.append_assoc]
      show ((ls f.f2) ++ _).take _ = _
      rw [List.take_left]
    rw [e1, e2, hs, e3, size_ofNat (by omega), size_ofNat (by omega), str_ls, Int.toNat_of_nonneg h0, Int.toNat_of_nonneg h2]
  have hd : (u ++ two (chk u) ++ t).drop (5 + size_ (u ++ two (chk u) ++ t)) = t := by
    have e : 5 + size_ (u ++ two (chk u) ++ t) = (u ++ two (chk u)).length := by
      rw [List.append_assoc, hs, List.length_append, hul, h2l]
      omega
    rw [e, List.drop_left]
  have := Scans.good (t := u ++ two (chk u) ++ t) (fs := fs) (n := n) (r := r) hk2 (by rw [hd]; exact hS)
  rw [hfr] at this
  rw [hb]
  exact this

end Go.Proofs.Ytbbinmplkbpcdaa.Fm
