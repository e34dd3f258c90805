/-! Fields of a width: their bytes, and back. Plain numbers and lists. -/
set_option linter.unusedVariables false
namespace Go.Proofs.Ytbbinmplkbpcdaa.Wd

/-- A width that stands in the tables (in bits; below 0: the number may be below 0). -/
def Width (w : Int) : Prop := w = 8 ∨ w = 16 ∨ w = 32 ∨ w = -16 ∨ w = -32
def lowOf (w : Int) : Int := if w = -16 then -32768 else if w = -32 then -2147483648 else 0
def manyOf (w : Int) : Int := if w = 8 then 256 else if w = 16 ∨ w = -16 then 65536 else 4294967296
def lenOf (w : Int) : Nat := if w = 8 then 1 else if w = 16 ∨ w = -16 then 2 else 4
/-- May this number stand in a field of this width? -/
def In (w n : Int) : Prop := lowOf w ≤ n ∧ n < lowOf w + manyOf w
instance (w n : Int) : Decidable (In w n) := inferInstanceAs (Decidable (_ ∧ _))
/-- The last bytes of a number, the least one first. -/
def low_ (n : Int) : Nat → List Int
  | 0 => []
  | m + 1 => n % 256 :: low_ (n / 256) m
/-- The number of bytes, the least one first. -/
def num : List Int → Int
  | [] => 0
  | b :: r => b + 256 * num r
def pow_ : Nat → Int
  | 0 => 1
  | m + 1 => 256 * pow_ m
/-- The number that a field's bytes say. -/
def val (w : Int) (bs : List Int) : Int := if w < 0 ∧ manyOf w ≤ 2 * num bs then num bs - manyOf w else num bs
def Bytes (bs : List Int) : Prop := ∀ b ∈ bs, 0 ≤ b ∧ b < 256
theorem low_length (m : Nat) : ∀ n, (low_ n m).length = m := by
  induction m with
  | zero => intro n; rfl
  | succ m ih => intro n; simp only [low_, List.length_cons, ih]
theorem low_range (m : Nat) : ∀ n, Bytes (low_ n m) := by
  induction m with
  | zero => intro n b hb; cases hb
  | succ m ih =>
    intro n b hb
    rcases List.mem_cons.1 hb with rfl | hb
    · omega
    · exact ih _ b hb
theorem pow_pos (m : Nat) : 0 < pow_ m := by
  induction m with
  | zero => exact Int.one_pos
  | succ m ih => show 0 < 256 * pow_ m; omega
theorem low_add (m : Nat) : ∀ n q : Int, low_ (n + pow_ m * q) m = low_ n m := by
  induction m with
  | zero => intro n q; rfl
  | succ m ih =>
    intro n q
    show (n + 256 * pow_ m * q) % 256 :: low_ ((n + 256 * pow_ m * q) / 256) m = _
    rw [Int.mul_assoc, Int.add_mul_emod_self_left, Int.add_mul_ediv_left _ _ (by decide), ih]
    rfl
theorem num_low (m : Nat) : ∀ n : Int, 0 ≤ n → n < pow_ m → num (low_ n m) = n := by
  induction m with
  | zero =>
    intro n h0 h1
    have h1 : n < 1 := h1
    show (0 : Int) = n
    omega
  | succ m ih =>
    intro n h0 h1
    have h1 : n < 256 * pow_ m := h1
    show n % 256 + 256 * num (low_ (n / 256) m) = n
    rw [ih (n / 256) (by omega) (by omega)]
    omega
theorem num_bounds : ∀ (bs : List Int), Bytes bs → 0 ≤ num bs ∧ num bs < pow_ bs.length
  | [], _ => ⟨Int.le_refl 0, Int.one_pos⟩
  | b :: r, h => by
    have h1 := num_bounds r (fun b hb => h b (List.mem_cons_of_mem _ hb))
    have h2 := h b List.mem_cons_self
    show 0 ≤ b + 256 * num r ∧ b + 256 * num r < 256 * pow_ r.length
    omega
theorem low_num : ∀ (bs : List Int), Bytes bs → low_ (num bs) bs.length = bs
  | [], _ => rfl
  | b :: r, h => by
    have h2 := h b List.mem_cons_self
    show (b + 256 * num r) % 256 :: low_ ((b + 256 * num r) / 256) r.length = b :: r
    have e1 : (b + 256 * num r) % 256 = b := by omega
    have e2 : (b + 256 * num r) / 256 = num r := by omega
    rw [e1, e2, low_num r (fun b hb => h b (List.mem_cons_of_mem _ hb))]
theorem pow_len {w : Int} (h : Width w) : pow_ (lenOf w) = manyOf w := by
  rcases h with rfl | rfl | rfl | rfl | rfl <;> decide
theorem low_many {w : Int} (h : Width w) : 0 < manyOf w ∧ (w < 0 → manyOf w = -2 * lowOf w ∧ lowOf w < 0) ∧ (¬ w < 0 → lowOf w = 0) := by
  rcases h with rfl | rfl | rfl | rfl | rfl <;> decide
theorem val_low {w n : Int} (h : Width w) (hn : In w n) : val w (low_ n (lenOf w)) = n := by
  obtain ⟨h0, h1, h2⟩ := low_many h
  obtain ⟨h3, h4⟩ := hn
  have hp := pow_len h
  unfold val
  by_cases hw : w < 0
  · obtain ⟨h5, h6⟩ := h1 hw
    by_cases hs : n < 0
    · have e : low_ n (lenOf w) = low_ (n + manyOf w) (lenOf w) := by
        have := low_add (lenOf w) n 1
        rw [Int.mul_one, hp] at this
        exact this.symm
      rw [e, num_low _ _ (by omega) (by rw [hp]; omega), if_pos ⟨hw, by omega⟩]
      omega
    · rw [num_low _ _ (by omega) (by rw [hp]; omega), if_neg (by omega)]
  · have h5 := h2 hw
    rw [num_low _ _ (by omega) (by rw [hp]; omega), if_neg (fun h => hw h.1)]
theorem val_in {w : Int} (h : Width w) {bs : List Int} (hb : Bytes bs) (hl : bs.length = lenOf w) : In w (val w bs) := by
  obtain ⟨h0, h1, h2⟩ := low_many h
  obtain ⟨h3, h4⟩ := num_bounds bs hb
  rw [hl, pow_len h] at h4
  unfold val In
  by_cases hw : w < 0
  · obtain ⟨h5, h6⟩ := h1 hw
    by_cases hs : manyOf w ≤ 2 * num bs
    · rw [if_pos ⟨hw, hs⟩]; omega
    · rw [if_neg (fun h => hs h.2)]; omega
  · have h5 := h2 hw
    rw [if_neg (fun h => hw h.1)]
    omega
theorem low_val {w : Int} (h : Width w) {bs : List Int} (hb : Bytes bs) (hl : bs.length = lenOf w) : low_ (val w bs) (lenOf w) = bs := by
  unfold val
  split
  · have := low_add (lenOf w) (num bs) (-1)
    rw [pow_len h, Int.mul_neg_one, ← Int.sub_eq_add_neg] at this
    rw [this, ← hl, low_num bs hb]
  · rw [← hl, low_num bs hb]

theorem num_snoc : ∀ (l : List Int) (b : Int), num (l ++ [b]) = num l + b * pow_ l.length
  | [], b => by simp [num, pow_]
  | a :: l, b => by
    show a + 256 * num (l ++ [b]) = a + 256 * num l + b * (256 * pow_ l.length)
    rw [num_snoc l b, Int.mul_add, Int.mul_left_comm b 256, Int.add_assoc]
/-! ### rows of fields -/
def sumW : List Int → Nat
  | [] => 0
  | w :: ws => lenOf w + sumW ws
theorem sumW_append : ∀ (a b : List Int), sumW (a ++ b) = sumW a + sumW b
  | [], b => by simp [sumW]
  | w :: a, b => by
    show lenOf w + sumW (a ++ b) = lenOf w + sumW a + sumW b
    rw [sumW_append a b, Nat.add_assoc]
theorem sum_take (ws : List Int) (i : Nat) : sumW (ws.take i) + sumW (ws.drop i) = sumW ws := by
  rw [← sumW_append, List.take_append_drop]
def encF : List Int → List Int → List Int
  | w :: ws, n :: ns => low_ n (lenOf w) ++ encF ws ns
  | _, _ => []
def decF : List Int → List Int → List Int
  | [], _ => []
  | w :: ws, bs => val w (bs.take (lenOf w)) :: decF ws (bs.drop (lenOf w))
/-- Each number may stand in its field. -/
def AllIn : List Int → List Int → Prop
  | w :: ws, n :: ns => In w n ∧ AllIn ws ns
  | [], [] => True
  | _, _ => False
def allIn_ : List Int → List Int → Bool
  | w :: ws, n :: ns => decide (In w n) && allIn_ ws ns
  | [], [] => true
  | _, _ => false
theorem allIn_iff : ∀ (ws ns : List Int), allIn_ ws ns = true ↔ AllIn ws ns
  | [], [] => by simp [allIn_, AllIn]
  | w :: ws, n :: ns => by simp [allIn_, AllIn, allIn_iff ws ns]
  | [], n :: ns => by simp [allIn_, AllIn]
  | w :: ws, [] => by simp [allIn_, AllIn]
instance (ws ns : List Int) : Decidable (AllIn ws ns) := decidable_of_iff _ (allIn_iff ws ns)
theorem AllIn.length : ∀ {ws ns : List Int}, AllIn ws ns → ns.length = ws.length
  | [], [], _ => rfl
  | w :: ws, n :: ns, h => by
    have := AllIn.length (ws := ws) (ns := ns) h.2
    simp only [List.length_cons, this]
  | [], n :: ns, h => h.elim
  | w :: ws, [], h => h.elim
theorem enc_length : ∀ {ws ns : List Int}, ns.length = ws.length → (encF ws ns).length = sumW ws
  | [], [], _ => rfl
  | w :: ws, n :: ns, h => by
    have := enc_length (ws := ws) (ns := ns) (by simpa using h)
    simp only [encF, sumW, List.length_append, low_length, this]
  | [], n :: ns, h => by simp at h
  | w :: ws, [], h => by simp at h
theorem enc_range : ∀ {ws ns : List Int}, Bytes (encF ws ns)
  | [], [] => fun b hb => by cases hb
  | w :: ws, n :: ns => fun b hb => by
    rcases List.mem_append.1 (show b ∈ low_ n (lenOf w) ++ encF ws ns from hb) with hb | hb
    · exact low_range _ _ b hb
    · exact enc_range b hb
  | [], n :: ns => fun b hb => by cases hb
  | w :: ws, [] => fun b hb => by cases hb
theorem dec_length : ∀ (ws bs : List Int), (decF ws bs).length = ws.length
  | [], _ => rfl
  | w :: ws, bs => by simp only [decF, List.length_cons, dec_length ws]
theorem dec_snoc : ∀ (ws : List Int) (w : Int) (bs : List Int), decF (ws ++ [w]) bs = decF ws bs ++ [val w ((bs.drop (sumW ws)).take (lenOf w))]
  | [], w, bs => by simp [decF, sumW]
  | v :: ws, w, bs => by
    show val v (bs.take (lenOf v)) :: decF (ws ++ [w]) (bs.drop (lenOf v)) = val v (bs.take (lenOf v)) :: decF ws (bs.drop (lenOf v)) ++ [val w ((bs.drop (lenOf v + sumW ws)).take (lenOf w))]
    rw [dec_snoc ws w, List.drop_drop]
    rfl
theorem dec_enc : ∀ {ws ns : List Int}, (∀ w ∈ ws, Width w) → AllIn ws ns → ∀ t, decF ws (encF ws ns ++ t) = ns
  | [], [], _, _, t => rfl
  | w :: ws, n :: ns, hw, h, t => by
    have hl := low_length (lenOf w) n
    show val w ((low_ n (lenOf w) ++ encF ws ns ++ t).take (lenOf w)) :: decF ws ((low_ n (lenOf w) ++ encF ws ns ++ t).drop (lenOf w)) = n :: ns
    rw [List.append_assoc, List.take_append_of_le_length (by omega), List.take_of_length_le (by omega), List.drop_append_of_le_length (by omega), List.drop_of_length_le (by omega), List.nil_append,
      val_low (hw w List.mem_cons_self) h.1, dec_enc (fun w hm => hw w (List.mem_cons_of_mem _ hm)) h.2 t]
  | [], n :: ns, _, h, _ => h.elim
  | w :: ws, [], _, h, _ => h.elim
theorem Bytes.take {bs : List Int} (h : Bytes bs) (n : Nat) : Bytes (bs.take n) := fun b hb => h b (List.mem_of_mem_take hb)
theorem Bytes.drop {bs : List Int} (h : Bytes bs) (n : Nat) : Bytes (bs.drop n) := fun b hb => h b (List.mem_of_mem_drop hb)
theorem enc_dec : ∀ {ws bs : List Int}, (∀ w ∈ ws, Width w) → Bytes bs → sumW ws ≤ bs.length → encF ws (decF ws bs) = bs.take (sumW ws)
  | [], bs, _, _, _ => by simp [encF, sumW]
  | w :: ws, bs, hw, hb, hl => by
    have hl' : lenOf w + sumW ws ≤ bs.length := hl
    show low_ (val w (bs.take (lenOf w))) (lenOf w) ++ encF ws (decF ws (bs.drop (lenOf w))) = bs.take (lenOf w + sumW ws)
    rw [low_val (hw w List.mem_cons_self) (hb.take _) (by rw [List.length_take]; omega), enc_dec (fun w hm => hw w (List.mem_cons_of_mem _ hm)) (hb.drop _) (by rw [List.length_drop]; omega), List.take_add]
theorem dec_in : ∀ {ws bs : List Int}, (∀ w ∈ ws, Width w) → Bytes bs → sumW ws ≤ bs.length → AllIn ws (decF ws bs)
  | [], bs, _, _, _ => trivial
  | w :: ws, bs, hw, hb, hl => by
    have hl' : lenOf w + sumW ws ≤ bs.length := hl
    exact ⟨val_in (hw w List.mem_cons_self) (hb.take _) (by rw [List.length_take]; omega), dec_in (fun w hm => hw w (List.mem_cons_of_mem _ hm)) (hb.drop _) (by rw [List.length_drop]; omega)⟩
end Go.Proofs.Ytbbinmplkbpcdaa.Wd
