import Derived.Test.YtbbinmplkbpcdaaFrM
/-! FrameTurned: the plain law. -/
set_option linter.unusedVariables false
set_option linter.unusedSectionVars false
namespace Go.Proofs.Ytbbinmplkbpcdaa.Fr
open Go.RowKit Go.Proofs.Ytbbinmplkbpcdaa.Pr Go.Proofs.YtbbinmplkbpcdaaW.PrintWords Go.Proofs.YtbbinmplkbpcdaaW.PrintLast Go.Proofs.YtbbinmplkbpcdaaW.PrintMore

/-! ### the check tells one turned byte -/
theorem xor_zero_eq {a b : Nat} (h : a ^^^ b = 0) : a = b := by
  have h2 : (a ^^^ b) ^^^ b = 0 ^^^ b := by rw [h]
  rw [Nat.xor_assoc, Nat.xor_self, Nat.xor_zero, Nat.zero_xor] at h2
  exact h2
theorem bitstep_zero {x : Nat} (hx : x < 65536) (h : bitstep x = 0) : x = 0 := by
  unfold bitstep at h
  split at h
  · have := xor_zero_eq h
    omega
  · omega
theorem four_zero {x : Nat} (hx : x < 65536) (h : four x = 0) : x = 0 :=
  bitstep_zero hx (bitstep_zero (bitstep_lt hx) (bitstep_zero (bitstep_lt (bitstep_lt hx)) (bitstep_zero (bitstep_lt (bitstep_lt (bitstep_lt hx))) h)))
theorem four_inj {a b : Nat} (ha : a < 65536) (hb : b < 65536) (h : four a = four b) : a = b := by
  refine xor_zero_eq (four_zero (Nat.xor_lt_two_pow (n := 16) ha hb) ?_)
  rw [four_xor, h, Nat.xor_self]
theorem xor_right_inj {a b c : Nat} (h : a ^^^ c = b ^^^ c) : a = b := by
  have h2 : (a ^^^ c) ^^^ c = (b ^^^ c) ^^^ c := by rw [h]
  simpa only [Nat.xor_assoc, Nat.xor_self, Nat.xor_zero] using h2
theorem add_state {c c' b : Nat} (hc : c < 65536) (hc' : c' < 65536) (hb : b < 256) (h : add c b = add c' b) : c = c' := by
  have h1 : c ^^^ b < 65536 := Nat.xor_lt_two_pow (n := 16) hc (by omega)
  have h2 : c' ^^^ b < 65536 := Nat.xor_lt_two_pow (n := 16) hc' (by omega)
  exact xor_right_inj (four_inj h1 h2 (four_inj (four_lt h1) (four_lt h2) h))
theorem add_byte {c b b' : Nat} (hc : c < 65536) (hb : b < 256) (hb' : b' < 256) (h : add c b = add c b') : b = b' := by
  have h1 : c ^^^ b < 65536 := Nat.xor_lt_two_pow (n := 16) hc (by omega)
  have h2 : c ^^^ b' < 65536 := Nat.xor_lt_two_pow (n := 16) hc (by omega)
  have h3 := four_inj h1 h2 (four_inj (four_lt h1) (four_lt h2) h)
  rw [Nat.xor_comm c b, Nat.xor_comm c b'] at h3
  exact xor_right_inj h3
theorem fold_state (l : List UInt8) : ∀ {c c' : Nat}, c < 65536 → c' < 65536 → l.foldl (fun c b => add c b.toNat) c = l.foldl (fun c b => add c b.toNat) c' → c = c' := by
  induction l with
  | nil => exact fun _ _ h => h
  | cons b l ih => exact fun hc hc' h => add_state hc hc' b.toNat_lt (ih (add_lt hc b.toNat_lt) (add_lt hc' b.toNat_lt) h)
theorem fold_byte (l : List UInt8) : ∀ {c : Nat} (j : Nat) (b : UInt8) (hj : j < l.length), c < 65536 → l.foldl (fun c b => add c b.toNat) c = (l.set j b).foldl (fun c b => add c b.toNat) c → l[j] = b := by
  induction l with
  | nil => intro c j b hj; exact absurd hj (by simp)
  | cons x l ih =>
    intro c j b hj hc h
    cases j with
    | zero =>
      have h1 := fold_state l (add_lt hc x.toNat_lt) (add_lt hc b.toNat_lt) h
      exact UInt8.toNat_inj.1 (add_byte hc x.toNat_lt b.toNat_lt h1)
    | succ j => exact ih j b (by simpa using hj) (add_lt hc x.toNat_lt) h
theorem sum_byte {l : List UInt8} {j : Nat} {b : UInt8} (hj : j < l.length) (h : sum l = sum (l.set j b)) : l[j] = b := fold_byte l j b hj (by decide) h
theorem two_inj {c c' : Nat} (hc : c < 65536) (hc' : c' < 65536) (h : two c = two c') : c = c' := by
  unfold two at h
  injection h with h1 h2
  injection h2 with h2 _
  have h1 := congrArg UInt8.toNat h1
  have h2 := congrArg UInt8.toNat h2
  simp only [UInt8.toNat_ofNat'] at h1 h2
  omega
theorem chk_byte {u : List UInt8} {j : Nat} {b : UInt8} (hj : j < u.length) (h2 : j ≠ 2) (h : chk u = chk (u.set j b)) : u[j] = b := by
  unfold chk at h
  have e : (u.set j b).getD 2 0 = u.getD 2 0 := by rw [List.getD_eq_getElem?_getD, List.getElem?_set_ne h2, ← List.getD_eq_getElem?_getD]
  rw [e, ← List.set_append_left _ _ hj] at h
  have := sum_byte (l := u ++ [7 * u.getD 2 0 + 31]) (by rw [List.length_append]; omega) h
  rw [List.getElem_append_left hj] at this
  exact this

/-! ### frames are shorter than what they are read from -/
theorem Scans.short {l : List UInt8} {fs : List S45} {n : Nat} {r : List UInt8} (h : Scans l fs n r) : ∀ f ∈ fs, 6 + f.f2.size ≤ l.length := by
  induction h with
  | nil => intro f hf; cases hf
  | skip _ _ ih =>
    intro f hf
    have := ih f hf
    rw [List.length_cons]
    omega
  | wait => intro f hf; cases hf
  | bad _ _ ih =>
    intro f hf
    have := ih f hf
    rw [List.length_cons]
    omega
  | @good t _ _ _ hk _ ih =>
    intro f hf
    obtain ⟨_, _, hl, _⟩ := kind_good hk
    rw [List.length_cons]
    rcases List.mem_cons.1 hf with rfl | hf
    · have : (frameOf t).f2.size = size_ t := by
        simp only [frameOf]
        rw [str_size, List.length_take, List.length_drop]
        omega
      omega
    · have := ih f hf
      rw [List.length_drop] at this
      omega
/-- A frame with a turned byte is bad. -/
theorem turned_bad {f : S45} (hf : Fits f) {j : Nat} {b : UInt8} {t : List UInt8} (ht : bytes_ f = 253 :: t) (h1 : 1 ≤ j) (h2 : j ≠ 2) (hj : j < t.length) (hb : t[j] ≠ b) : kindOf (t.set j b) = .bad ∧ (t.set j b).length = 5 + f.f2.size := by
  obtain ⟨_, _, _, _, h4⟩ := hf
  have hp : (ls f.f2).length ≤ 64 := by rw [ls_len]; exact h4
  obtain ⟨u, hu⟩ : ∃ u, u = [UInt8.ofNat (ls f.f2).length, UInt8.ofNat f.f0.toNat, UInt8.ofNat f.f1.toNat] ++ ls f.f2 := ⟨_, rfl⟩
  have hbb : bytes_ f = 253 :: (u ++ two (chk u)) := by rw [hu]; rfl
  rw [hbb] at ht
  injection ht with _ ht
  have hul : u.length = 3 + (ls f.f2).length := by rw [hu, List.length_append]; rfl
  have h2l : (two (chk u)).length = 2 := rfl
  have hl : t.length = 5 + (ls f.f2).length := by rw [← ht, List.length_append, hul, h2l]; omega
  have hs : size_ (t.set j b) = (ls f.f2).length := by
    have e : (t.set j b).headD 0 = t.headD 0 := by
      cases t with
      | nil => rfl
      | cons x t => cases j with
        | zero => omega
        | succ j => rfl
    unfold size_
    rw [e, ← ht, hu]
    exact size_ofNat (by omega)
  refine ⟨?_, by rw [List.length_set, hl, ls_len]⟩
  unfold kindOf
  rw [if_neg (by intro e; have := congrArg List.length e; rw [List.length_set, hl] at this; simp only [List.length_nil] at this; omega), hs, if_neg (by omega), if_neg (by rw [List.length_set, hl]; omega), if_neg]
  intro hok
  unfold ok at hok
  rw [hs, ← hul] at hok
  by_cases hju : j < u.length
  · have e : t.set j b = u.set j b ++ two (chk u) := by rw [← ht, List.set_append_left _ _ hju]
    have hul2 : (u.set j b).length = u.length := List.length_set
    rw [e, ← hul2, List.drop_left, List.take_left] at hok
    have h := chk_byte hju h2 (two_inj (chk_lt _) (chk_lt _) hok)
    apply hb
    simp only [← ht]
    rw [List.getElem_append_left hju]
    exact h
  · have e : t.set j b = u ++ (two (chk u)).set (j - u.length) b := by rw [← ht, List.set_append_right _ _ (by omega)]
    have hq : j - u.length < (two (chk u)).length := by rw [h2l]; omega
    have ht2 : ((two (chk u)).set (j - u.length) b).take 2 = (two (chk u)).set (j - u.length) b := List.take_of_length_le (by rw [List.length_set, h2l]; omega)
    rw [e, List.drop_left, List.take_left, ht2] at hok
    have h := congrArg (fun l : List UInt8 => l[j - u.length]?) hok
    rw [List.getElem?_set_self hq, List.getElem?_eq_getElem hq] at h
    injection h with h
    apply hb
    simp only [← ht]
    rw [List.getElem_append_right (by omega)]
    exact h.symm

/-! ### FrameTurned -/
theorem lb_set (xs : List Int) (i : Nat) (v : Int) : lb (xs.set i v) = (lb xs).set i (UInt8.ofNat v.toNat) := by
  simp only [lb, ls_str, List.map_set]
theorem bits_xor8 (a b : Nat) (ha : a < 256) (hb : b < 256) : Go.bits .xor .u8 (a : Int) (b : Int) = ((a ^^^ b : Nat) : Int) := by
  have h : Go.bits .xor .u8 (a : Int) (b : Int) = IntKind.u8.wrap (((BitVec.ofInt 8 a ^^^ BitVec.ofInt 8 b).toNat : Nat) : Int) := rfl
  have hw : ∀ n : Int, IntKind.u8.wrap n = n % 256 := fun n => by simp [IntKind.wrap, IntKind.bits, IntKind.signed]
  rw [h, hw, BitVec.toNat_xor, BitVec.ofInt_natCast, BitVec.ofInt_natCast, BitVec.toNat_ofNat, BitVec.toNat_ofNat, Nat.mod_eq_of_lt ha, Nat.mod_eq_of_lt hb]
  have : a ^^^ b < 256 := Nat.xor_lt_two_pow (n := 8) ha hb
  omega
theorem xor_ne (x : UInt8) (t : Nat) (h0 : t ≠ 0) (h1 : t < 256) : x ≠ UInt8.ofNat (x.toNat ^^^ t) := by
  intro e
  have hx := x.toNat_lt
  have hlt : x.toNat ^^^ t < 256 := Nat.xor_lt_two_pow (n := 8) hx h1
  have e2 : x.toNat = x.toNat ^^^ t := by
    have := congrArg UInt8.toNat e
    rw [size_ofNat hlt] at this
    exact this
  apply h0
  have e3 : 0 ^^^ x.toNat = t ^^^ x.toNat := by rw [Nat.zero_xor, Nat.xor_comm]; exact e2
  exact (xor_right_inj e3).symm
theorem most_pos (n : Nat) : 1 ≤ ((most (0 + (n + 1)) : Nat) : Int) := by
  have h : 1 ≤ most (0 + (n + 1)) := Nat.le_min.2 ⟨by omega, by omega⟩
  omega
/-- The walk of FrameTurned. -/
theorem turned_walk (a0 a1 : Int) (p : ByteArray) (at_ turn : Int) (w : World) {b : Nat} (w0 : (Lit.int .i64 a0).wf = true) (w1 : (Lit.int .i64 a1).wf = true) (m : p.size + 4 ≤ b) (w2 : (Lit.int .i64 at_).wf = true) (w3 : (Lit.int .u8 turn).wf = true) (hb : b + (1 + 1) ≤ 1048576) :
    Calls Try.prog 13 #[.agg #[.int .i64 a0, .int .i64 a1, .string p], .int .i64 at_, .int .u8 turn] w fun e w' => e = .returned (.bool true) ∧ Below w.heap.size w w' := by
  have ht : 0 ≤ turn ∧ turn ≤ 255 := by
    simp only [Lit.wf, Bool.and_eq_true, decide_eq_true_eq] at w3
    exact w3
  by_cases hf : Fits ⟨a0, a1, p⟩
  · obtain ⟨K1, h1⟩ := encode_fits hf
    have hp := hf.2.2.2.2
    dsimp only at h1 hp
    have hz : (str (bytes_ ⟨a0, a1, p⟩)).size = 6 + p.size := by rw [str_size, bytes_length, ls_len]
    by_cases hc : at_ < 2 ∨ at_ = 3 ∨ at_ ≥ ((str (bytes_ ⟨a0, a1, p⟩)).size : Int) ∨ turn = 0
    · exact turned_fail (k := K1) at_ turn (h1 K1 (Nat.le_refl _)) (.inr hc) w
    · obtain ⟨i, rfl⟩ : ∃ i : Nat, at_ = i := ⟨at_.toNat, by omega⟩
      obtain ⟨tn, rfl⟩ : ∃ n : Nat, turn = n := ⟨turn.toNat, by omega⟩
      obtain ⟨t, hbt⟩ : ∃ t, bytes_ ⟨a0, a1, p⟩ = 253 :: t := ⟨_, rfl⟩
      have htl : t.length = 5 + p.size := by
        have := bytes_length ⟨a0, a1, p⟩
        rw [hbt, List.length_cons, ls_len] at this
        dsimp only at this
        omega
      obtain ⟨j, rfl⟩ : ∃ j, i = j + 1 := ⟨i - 1, by omega⟩
      have hj : j < t.length := by omega
      have hlj : j + 1 < (ls (str (bytes_ ⟨a0, a1, p⟩))).length := by rw [ls_len, hz]; omega
      have hbx : bt (str (bytes_ ⟨a0, a1, p⟩)) ((j + 1 : Nat) : Int) = ((t[j]).toNat : Int) := by
        rw [bt_eq _ _ hlj]
        simp only [ls_strl, hbt, List.getElem_cons_succ]
      have hx : Go.bits .xor .u8 (bt (str (bytes_ ⟨a0, a1, p⟩)) ((j + 1 : Nat) : Int)) (tn : Int) = (((t[j]).toNat ^^^ tn : Nat) : Int) := by
        rw [hbx]
        exact bits_xor8 _ _ (UInt8.toNat_lt _) (by omega)
      have hlb : ls (strOfNums ((bytesOf (str (bytes_ ⟨a0, a1, p⟩))).set (j + 1) (Go.bits .xor .u8 (bt (str (bytes_ ⟨a0, a1, p⟩)) ((j + 1 : Nat) : Int)) (tn : Int)))) = 253 :: t.set j (UInt8.ofNat ((t[j]).toNat ^^^ tn)) := by
        rw [str_lb, hx, lb_set, lb_bytes, ls_strl, hbt, Int.toNat_natCast]
        rfl
      obtain ⟨hk, hkl⟩ := turned_bad hf hbt (j := j) (b := UInt8.ofNat ((t[j]).toNat ^^^ tn)) (by omega) (by omega) hj (xor_ne _ _ (by omega) (by omega))
      obtain ⟨fs, n, r, hS⟩ := Scans.total (t.set j (UInt8.ofNat ((t[j]).toNat ^^^ tn)))
      have hsh := hS.short
      have hln := hS.len
      rw [hkl] at hsh hln
      dsimp only at hsh hln
      have hS2 := Scans.bad hk hS
      rw [← hlb] at hS2
      have hzz : (strOfNums ((bytesOf (str (bytes_ ⟨a0, a1, p⟩))).set (j + 1) (Go.bits .xor .u8 (bt (str (bytes_ ⟨a0, a1, p⟩)) ((j + 1 : Nat) : Int)) (tn : Int)))).size = 6 + p.size := by
        rw [strOfNums_size, List.length_set, bytesOf_length, hz]
      obtain ⟨K2, h2⟩ := feed_eq (d := ⟨#[]⟩) (a := strOfNums ((bytesOf (str (bytes_ ⟨a0, a1, p⟩))).set (j + 1) (Go.bits .xor .u8 (bt (str (bytes_ ⟨a0, a1, p⟩)) ((j + 1 : Nat) : Int)) (tn : Int)))) (n0 := 0) (by rw [show ls (⟨#[]⟩ : ByteArray) = [] from rfl, List.nil_append]; exact hS2) (by rw [hzz, show (⟨#[]⟩ : ByteArray).size = 0 from rfl]; omega)
      dsimp only at h2
      refine turned_main (k := K1 + K2) (h1 _ (by omega)) (by omega) (by omega) (by omega) (by omega) (by omega) (by omega) (h2 _ (by omega)) (fun x hx => ?_) ?_ w
      · have := hsh x hx
        omega
      · exact most_pos n
  · have hE := encode_eq a0 a1 p (by omega)
    obtain ⟨K, hK⟩ := hE
    dsimp only at hK
    have hne : (encR a0 a1 p).2 ≠ 0 := by
      unfold encR
      by_cases ha : a0 < 0 ∨ a0 > 255 ∨ a1 < 0 ∨ a1 > 255
      · rw [if_pos ha]; decide
      · rw [if_neg ha]
        by_cases hb : p.size > 64
        · rw [if_pos hb]; decide
        · exact absurd ⟨by dsimp only; omega, by dsimp only; omega, by dsimp only; omega, by dsimp only; omega, by dsimp only; omega⟩ hf
    exact turned_fail (k := K) (s := (encR a0 a1 p).1) (e := (encR a0 a1 p).2) at_ turn (hK K (Nat.le_refl _)) (.inl hne) w
end Go.Proofs.Ytbbinmplkbpcdaa.Fr
