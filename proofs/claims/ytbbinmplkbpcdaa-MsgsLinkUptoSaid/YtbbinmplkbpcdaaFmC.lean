import Derived.Test.YtbbinmplkbpcdaaFmB
/-! What a frame's writing computes: the program's and the reference's, told of lists of bytes. -/
namespace Go.Proofs.Ytbbinmplkbpcdaa.Fm
open Go.RowKit Go.Proofs.Ytbbinmplkbpcdaa.Pm Go.Proofs.YtbbinmplkbpcdaaW.PrintWords Go.Proofs.YtbbinmplkbpcdaaW.PrintLast Go.Proofs.YtbbinmplkbpcdaaW.PrintMore

/-- A string of bytes. -/
def str (l : List UInt8) : ByteArray := ⟨l.toArray⟩
theorem ls_strl (l : List UInt8) : ls (str l) = l := by simp [ls, str]
theorem str_ls (s : ByteArray) : str (ls s) = s := ls_inj (ls_strl _)
theorem str_size (l : List UInt8) : (str l).size = l.length := by rw [← ls_len, ls_strl]
theorem eq_str {s : ByteArray} {l : List UInt8} (h : ls s = l) : s = str l := by rw [← h, str_ls]

theorem sum_snoc (l : List UInt8) (b : UInt8) : sum (l ++ [b]) = add (sum l) b.toNat := by simp [sum, List.foldl_append]
/-- A check's two bytes. -/
def two (c : Nat) : List UInt8 := [UInt8.ofNat c, UInt8.ofNat (c / 256)]
/-- The check of what stands between a frame's start and the check itself. -/
def chk (l : List UInt8) : Nat := sum (l ++ [(7 * l.getD 2 0 + 31 : UInt8)])
theorem chk_lt (l : List UInt8) : chk l < 65536 := sum_lt _
/-- A frame's bytes. -/
def enc (seq id : Nat) (p : List UInt8) : List UInt8 :=
  253 :: (([UInt8.ofNat p.length, UInt8.ofNat seq, UInt8.ofNat id] ++ p) ++ two (chk ([UInt8.ofNat p.length, UInt8.ofNat seq, UInt8.ofNat id] ++ p)))

theorem u8_mod (n : Nat) : UInt8.ofNat (n % 256) = UInt8.ofNat n := by
  apply UInt8.toNat_inj.1
  simp
theorem of_mod (n : Nat) : UInt8.ofNat ((n : Int) % 256).toNat = UInt8.ofNat n := by
  rw [show ((n : Int) % 256).toNat = n % 256 by omega, u8_mod]
theorem two_eq (c : Nat) : strOfNums [(c : Int) % 256, (c : Int) / 256 % 256] = str (two c) := by
  apply ls_inj
  rw [ls_str, ls_strl]
  simp only [List.map_cons, List.map_nil, two]
  rw [of_mod, show ((c : Int) / 256 % 256) = (((c / 256 : Nat) : Int) % 256) by omega, of_mod]
theorem seven (b : UInt8) : ((7 * (b.toNat : Int)) % 256 + 31) % 256 = ((7 * b + 31 : UInt8).toNat : Int) := by
  simp only [UInt8.toNat_add, UInt8.toNat_mul, UInt8.reduceToNat]
  omega

theorem check_eq (s : ByteArray) (h2 : 2 < s.size) (hs : s.size < 9223372036854775807) : Ev (fun k => frame_check.f k s) (str (two (chk (ls s)))) := by
  have hl : 2 < (ls s).length := by rw [ls_len]; exact h2
  obtain ⟨K, hK⟩ := crcSum_eq s hs
  refine ⟨K, fun k hk => ?_⟩
  dsimp only at hK ⊢
  have hb := bt_eq s 2 hl
  rw [show ((2 : Nat) : Int) = 2 from rfl] at hb
  unfold frame_check.f
  rw [if_pos (by omega), hK k hk]
  simp only [Option.bind_some]
  rw [hb, seven, crcAdd_eq _ _ (sum_lt _) (UInt8.toNat_lt _)]
  simp only [Option.bind_some]
  rw [two_eq, ← sum_snoc]
  unfold chk
  rw [List.getD_eq_getElem?_getD, List.getElem?_eq_getElem hl]
  rfl

/-- What Encode answers. -/
def encR (a0 a1 : Int) (p : ByteArray) : ByteArray × Int :=
  if a0 < 0 ∨ a0 > 255 ∨ a1 < 0 ∨ a1 > 255 then (str [], 5) else if p.size > 64 then (str [], 3) else (str (enc a0.toNat a1.toNat (ls p)), 0)

theorem mod_of {a : Int} (h0 : 0 ≤ a) (h1 : a ≤ 255) : UInt8.ofNat (a % 256).toNat = UInt8.ofNat a.toNat := by
  rw [show (a % 256).toNat = a.toNat by omega]
theorem head_str (p : ByteArray) (a0 a1 : Int) (h0 : 0 ≤ a0) (h1 : a0 ≤ 255) (h2 : 0 ≤ a1) (h3 : a1 ≤ 255) :
    ls (strOfNums [(p.size : Int) % 256, a0 % 256, a1 % 256]) = [UInt8.ofNat (ls p).length, UInt8.ofNat a0.toNat, UInt8.ofNat a1.toNat] := by
  rw [ls_str]
  simp only [List.map_cons, List.map_nil]
  rw [of_mod, mod_of h0 h1, mod_of h2 h3, ls_len]
theorem encode_j (a0 a1 : Int) (p : ByteArray) (h0 : 0 ≤ a0) (h1 : a0 ≤ 255) (h2 : 0 ≤ a1) (h3 : a1 ≤ 255) (hp : p.size < 140737488355328) :
    Ev (fun k => frame_Encode.j0 k false a0 a1 p) (encR a0 a1 p) := by
  unfold encR
  rw [if_neg (by omega)]
  by_cases h : p.size > 64
  · rw [if_pos h]
    refine Ev.step (fun k => ?_) (Ev.now _)
    simp only [frame_Encode.j0]
    rw [if_neg (by decide), if_pos (by omega)]
    rfl
  · rw [if_neg h]
    have hh := head_str p a0 a1 h0 h1 h2 h3
    have hz : (strOfNums [(p.size : Int) % 256, a0 % 256, a1 % 256]).size = 3 := by rw [strOfNums_size]; rfl
    generalize hy : strOfNums [(p.size : Int) % 256, a0 % 256, a1 % 256] = y at hh hz
    have hsz : (y ++ p).size = 3 + p.size := by rw [ByteArray.size_append, hz]
    obtain ⟨K, hK⟩ := check_eq (y ++ p) (by omega) (by omega)
    refine ⟨K + 1, fun k hk => ?_⟩
    dsimp only at hK ⊢
    obtain ⟨k, rfl⟩ : ∃ m, k = m + 1 := ⟨k - 1, by omega⟩
    simp only [frame_Encode.j0]
    rw [if_neg (by decide), if_neg (by omega)]
    simp only [Option.bind_some]
    rw [hy, if_pos (by omega), if_pos (by omega), hK k (by omega)]
    simp only [Option.bind_some]
    rw [if_pos (by rw [ByteArray.size_append, hsz, str_size]; show 1 + (3 + p.size) + 2 ≤ _; omega)]
    congr 2
    apply ls_inj
    rw [ls_strl, ls_append, ls_append, ls_strl, ls_append, hh]
    rfl
theorem encode_bad (a0 a1 : Int) (p : ByteArray) : Ev (fun k => frame_Encode.j0 k true a0 a1 p) (str [], 5) := by
  refine Ev.step (fun k => ?_) (Ev.now _)
  simp only [frame_Encode.j0]
  rfl
theorem encode_eq (a0 a1 : Int) (p : ByteArray) (hp : p.size < 140737488355328) : Ev (fun k => frame_Encode.f k a0 a1 p) (encR a0 a1 p) := by
  by_cases hr : a0 < 0 ∨ a0 > 255 ∨ a1 < 0 ∨ a1 > 255
  · have e : encR a0 a1 p = (str [], 5) := by unfold encR; rw [if_pos hr]
    rw [e]
    refine Ev.congr (fun k => ?_) (encode_bad a0 a1 p)
    unfold frame_Encode.f mn mx
    by_cases h : (if a1 < a0 then a1 else a0) < 0
    · rw [if_pos h]
    · rw [if_neg h, decide_eq_true]
      split at h <;> split <;> omega
  · refine Ev.congr (fun k => ?_) (encode_j a0 a1 p (by omega) (by omega) (by omega) (by omega) hp)
    unfold frame_Encode.f mn mx
    rw [if_neg (by split <;> omega), decide_eq_false (by split <;> omega)]

end Go.Proofs.Ytbbinmplkbpcdaa.Fm
