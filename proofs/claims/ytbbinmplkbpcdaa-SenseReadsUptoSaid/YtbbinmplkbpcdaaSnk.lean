import Derived.Test.YtbbinmplkbpcdaaSni
/-! What is read stands as it is written; what is written is read. -/
set_option linter.unusedVariables false
set_option linter.constructorNameAsVariable false
namespace Go.Proofs.Ytbbinmplkbpcdaa.Ps
open Go.RowKit Go.Proofs.Ytbbinmplkbpcdaa.Wd Go.Proofs.YtbbinmplkbpcdaaW.PrintWords Go.Proofs.YtbbinmplkbpcdaaW.PrintLast Go.Proofs.YtbbinmplkbpcdaaW.PrintMore
open Go.Proofs.Ytbbinmplkbpcdaa.Fs (ls ls_len ls_inj ls_tail ls_extract sum_lt)
def nums8 (t : List UInt8) : List Int := t.map fun b => (b.toNat : Int)
theorem bytesOf_str (t : List UInt8) : bytesOf (str t) = nums8 t := by simp [bytesOf, str, nums8]
theorem bytesOf_ls (s : ByteArray) : bytesOf s = nums8 (ls s) := rfl
theorem nums8_inj {a b : List UInt8} (h : nums8 a = nums8 b) : a = b := by
  refine List.map_inj_right (f := fun c : UInt8 => (c.toNat : Int)) ?_ |>.1 h
  intro x y hxy
  apply UInt8.toNat_inj.1
  exact_mod_cast hxy
theorem bt_at_ (d : ByteArray) (i : Nat) (h : i < d.size) : ∃ h' : i < (bytesOf d).length, bt d (i : Int) = (bytesOf d)[i] := by
  have h' : i < (bytesOf d).length := by rw [bytesOf_length]; exact h
  refine ⟨h', ?_⟩
  rw [← rd_bytesOf, rd_get _ _ h']
theorem two_more {l : List Int} {m : Nat} (h : m + 2 ≤ l.length) : l.take (m + 2) = l.take m ++ [l[m], l[m + 1]] := by
  rw [show m + 2 = m + 1 + 1 from rfl, List.take_succ_eq_append_getElem (by omega), List.take_succ_eq_append_getElem (by omega), List.append_assoc]
  rfl
theorem head_take {l : List Int} {m : Nat} (h : 0 < l.length) : l.take (1 + m) = l[0] :: (l.drop 1).take m := by
  match l, h with
  | a :: l, _ => rw [Nat.add_comm]; rfl
/-- What is read stands in the bytes as it is written. -/
theorem good_stands {s : Int} {d : ByteArray} (h : GoodF s (wsOf s) d) : AllIn (wsOf s) (decF (wsOf s) ((bytesOf d).drop 1)) ∧
    bytesOf (wrS s (decF (wsOf s) ((bytesOf d).drop 1))) = 165 :: (bytesOf d).take (3 + sumW (wsOf s)) := by
  obtain ⟨h1, h2, h3, h4⟩ := h
  obtain ⟨hw, _, _⟩ := ws_ok s
  have hw' : ∀ w ∈ wsOf s, Width w := fun w hm => (hw w hm).width
  have hlen : (bytesOf d).length = d.size := bytesOf_length d
  have hb := (bytes_of d).drop 1
  have hin := dec_in hw' hb (by rw [List.length_drop]; omega)
  refine ⟨hin, ?_⟩
  have he := enc_dec hw' hb (by rw [List.length_drop]; omega)
  obtain ⟨k0, e0⟩ := bt_at_ d 0 (by omega)
  have hbody : body s (decF (wsOf s) ((bytesOf d).drop 1)) = (bytesOf d).take (1 + sumW (wsOf s)) := by
    unfold body
    rw [he, head_take (by omega), ← h2]
    congr 1
  have hext : strOfNums (body s (decF (wsOf s) ((bytesOf d).drop 1))) = d.extract 0 (1 + sumW (wsOf s)) := by
    apply bytesOf_inj
    rw [hbody, of_strOfNums _ ((bytes_of d).take _), bytesOf_extract, List.drop_zero, Nat.sub_zero]
  obtain ⟨k1, e1⟩ := bt_at_ d (1 + sumW (wsOf s)) (by omega)
  obtain ⟨k2, e2⟩ := bt_at_ d (2 + sumW (wsOf s)) (by omega)
  have hsl := sum_lt (ls (d.extract 0 (1 + sumW (wsOf s))))
  unfold wrS sumOf
  rw [hext]
  generalize Fs.sum (ls (d.extract 0 (1 + sumW (wsOf s)))) = c at h3 h4 hsl
  rw [bytesOf_append, bytesOf_append, of_strOfNums _ (by intro b hb; simp only [List.mem_cons, List.not_mem_nil, or_false] at hb; rcases hb with rfl | rfl <;> omega), bytesOf_extract, List.drop_zero, Nat.sub_zero,
    show 3 + sumW (wsOf s) = (1 + sumW (wsOf s)) + 2 by omega, two_more (by omega)]
  have e3 : (c : Int) % 256 = (bytesOf d)[1 + sumW (wsOf s)] := by rw [← e1, h3]; omega
  have e4 : (c : Int) / 256 % 256 = (bytesOf d)[1 + sumW (wsOf s) + 1] := by
    have : (bytesOf d)[1 + sumW (wsOf s) + 1]'(by omega) = (bytesOf d)[2 + sumW (wsOf s)] := by congr 1; omega
    rw [this, ← e2, h4]
    omega
  rw [e3, e4]
  rfl
/-- What is written is read, whatever stands behind it. -/
theorem wrote_good {s : Int} (h0 : 0 ≤ s) (h1 : s ≤ 255) {fs : List Int} (hin : AllIn (wsOf s) fs) {d : ByteArray} {rest : List Int} (hd : bytesOf d = body s fs ++ [((sumOf s fs : Nat) : Int) % 256, ((sumOf s fs : Nat) : Int) / 256 % 256] ++ rest) :
    GoodF s (wsOf s) d ∧ decF (wsOf s) ((bytesOf d).drop 1) = fs := by
  obtain ⟨hw, _, _⟩ := ws_ok s
  have hw' : ∀ w ∈ wsOf s, Width w := fun w hm => (hw w hm).width
  have hel := enc_length hin.length
  have hbl : (body s fs).length = 1 + sumW (wsOf s) := by unfold body; rw [List.length_cons, hel, Nat.add_comm]
  have hsz : d.size = 3 + sumW (wsOf s) + rest.length := by
    rw [← bytesOf_length, hd, List.length_append, List.length_append, hbl]
    simp only [List.length_cons, List.length_nil]
    omega
  have hbb : Bytes (body s fs) := by
    intro b hb
    rcases List.mem_cons.1 hb with rfl | hb
    · omega
    · exact enc_range b hb
  have hext : d.extract 0 (1 + sumW (wsOf s)) = strOfNums (body s fs) := by
    apply bytesOf_inj
    rw [of_strOfNums _ hbb, bytesOf_extract, List.drop_zero, Nat.sub_zero, hd, List.append_assoc, ← hbl, List.take_left]
  obtain ⟨k0, e0⟩ := bt_at_ d 0 (by omega)
  obtain ⟨k1, e1⟩ := bt_at_ d (1 + sumW (wsOf s)) (by omega)
  obtain ⟨k2, e2⟩ := bt_at_ d (2 + sumW (wsOf s)) (by omega)
  have hsl := sum_lt (ls (strOfNums (body s fs)))
  have hso : sumOf s fs = Fs.sum (ls (strOfNums (body s fs))) := rfl
  refine ⟨⟨by omega, ?_, ?_, ?_⟩, ?_⟩
  · rw [show (0 : Int) = ((0 : Nat) : Int) from rfl, e0]
    simp only [hd]
    rfl
  · rw [hext, e1, ← hso]
    simp only [hd]
    rw [List.getElem_append_left (by rw [List.length_append, hbl]; simp), List.getElem_append_right (by omega)]
    simp only [hbl, Nat.sub_self, List.getElem_cons_zero]
    omega
  · rw [hext, e2, ← hso]
    simp only [hd]
    rw [List.getElem_append_left (by rw [List.length_append, hbl]; simp only [List.length_cons, List.length_nil]; omega), List.getElem_append_right (by omega)]
    simp only [hbl, show 2 + sumW (wsOf s) - (1 + sumW (wsOf s)) = 1 by omega, List.getElem_cons_succ, List.getElem_cons_zero]
    rw [← hso] at hsl
    omega
  · rw [hd]
    show decF (wsOf s) ((encF (wsOf s) fs ++ [((sumOf s fs : Nat) : Int) % 256, ((sumOf s fs : Nat) : Int) / 256 % 256]) ++ rest) = fs
    rw [List.append_assoc]
    exact dec_enc hw' hin _
/-! ### what is read, and how many A5 there are -/
def marks (t : List UInt8) : Nat := t.countP (· == 165)
theorem marks_cons (b : UInt8) (t : List UInt8) : marks (b :: t) = marks t + if b = 165 then 1 else 0 := by
  unfold marks
  rw [List.countP_cons]
  simp only [beq_iff_eq]
theorem marks_drop (t : List UInt8) (n : Nat) : marks (t.drop n) ≤ marks t := by
  unfold marks
  have := List.countP_append (p := (· == (165 : UInt8))) (l₁ := t.take n) (l₂ := t.drop n)
  rw [List.take_append_drop] at this
  omega
theorem Reads.marks_ {s : Int} {ws : List Int} (hne : ws ≠ []) {t : List UInt8} {l : List Int} {n : Nat} (h : Reads s ws t l n) : n ≤ marks t ∧ (l ≠ [] → n < marks t) := by
  induction h with
  | nil => exact ⟨Nat.le_refl _, fun h => absurd rfl h⟩
  | skip hb _ ih => rw [marks_cons, if_neg hb]; exact ih
  | bad _ _ ih => rw [marks_cons, if_pos rfl]; exact ⟨by omega, fun h => by have := ih.2 h; omega⟩
  | @good t _ _ _ _ _ _ ih =>
    have := marks_drop t (3 + sumW ws)
    rw [marks_cons, if_pos rfl]
    exact ⟨by omega, fun _ => by omega⟩
theorem Reads.stands {s : Int} {ws : List Int} {t : List UInt8} {l : List Int} {n : Nat} (h : Reads s ws t l n) : l ≠ [] → ∃ p r, t = p ++ 165 :: r ∧ GoodF s ws (str r) ∧ l = decF ws ((bytesOf (str r)).drop 1) := by
  induction h with
  | nil => exact fun h => absurd rfl h
  | @skip b t _ _ _ _ ih =>
    intro hl
    obtain ⟨p, r, rfl, h1, h2⟩ := ih hl
    exact ⟨b :: p, r, rfl, h1, h2⟩
  | bad _ _ ih =>
    intro hl
    obtain ⟨p, r, rfl, h1, h2⟩ := ih hl
    exact ⟨165 :: p, r, rfl, h1, h2⟩
  | @good t l l' _ hg _ e ih =>
    intro hl
    by_cases h0 : l = []
    · rw [if_pos h0] at e
      exact ⟨[], t, rfl, hg, e⟩
    · rw [if_neg h0] at e
      obtain ⟨p, r, hr, h1, h2⟩ := ih h0
      refine ⟨165 :: (t.take (3 + sumW ws) ++ p), r, ?_, h1, by rw [e]; exact h2⟩
      rw [List.cons_append, List.append_assoc, ← hr, List.take_append_drop]
/-- A text that stands in another one is found. -/
theorem find_eq (s e : ByteArray) (hs : s.size ≤ 1048576) (he : e.size ≤ 1048576) (m : Nat) (hm : m + e.size ≤ s.size) (hmm : ((ls s).drop m).take e.size = ls e) (d : Nat) : ∀ i : Nat, i + d = m →
    Ev (fun k => windhoverlaw11_find.l0 k s e (i : Int)) true := by
  have unf : ∀ (i : Nat), i ≤ m → ∀ k, windhoverlaw11_find.l0 (k + 1) s e (i : Int) = if ((ls s).drop i).take e.size = ls e then some true else windhoverlaw11_find.l0 k s e ((i + 1 : Nat) : Int) := by
    intro i hi k
    have e1 : wrap64 ((i : Int) + (e.size : Int)) = ((i + e.size : Nat) : Int) := by rw [w64 (by omega) (by omega)]; omega
    have hll : ∀ x : ByteArray, x.toList = ls x := fun x => ByteArray.toList_eq x
    rw [windhoverlaw11_find.l0, e1]
    simp only [hll, Int.toNat_natCast, ls_extract, show i + e.size - i = e.size by omega]
    rw [if_pos (by clear e1; omega), if_pos (by clear e1; omega), if_pos (by clear e1; omega), wup i (by clear e1; omega)]
  induction d with
  | zero =>
    intro i hi
    obtain rfl : i = m := by omega
    refine Ev.step (fun k => ?_) (Ev.now _)
    rw [unf i (Nat.le_refl _), if_pos hmm]
  | succ d ih =>
    intro i hi
    by_cases hx : ((ls s).drop i).take e.size = ls e
    · refine Ev.step (fun k => ?_) (Ev.now _)
      rw [unf i (by omega), if_pos hx]
    · refine Ev.step (fun k => ?_) (ih (i + 1) (by omega))
      rw [unf i (by omega), if_neg hx]
end Go.Proofs.Ytbbinmplkbpcdaa.Ps
