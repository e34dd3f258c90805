import Derived.Test.YtbbinmplkbpcdaaSnd
import Derived.WalkSpells
set_option linter.unusedVariables false
set_option linter.constructorNameAsVariable false
namespace Go.Proofs.Ytbbinmplkbpcdaa.Ps
open Go.RowKit Go.Proofs.Ytbbinmplkbpcdaa.Wd Go.Proofs.YtbbinmplkbpcdaaW.PrintWords Go.Proofs.YtbbinmplkbpcdaaW.PrintLast Go.Proofs.YtbbinmplkbpcdaaW.PrintMore
open Go.Proofs.Ytbbinmplkbpcdaa.Fs (ls ls_len ls_inj ls_tail ls_extract)
def str (l : List UInt8) : ByteArray := ⟨l.toArray⟩
theorem ls_strl (l : List UInt8) : ls (str l) = l := by simp [ls, str]
theorem str_ls (s : ByteArray) : str (ls s) = s := ls_inj (ls_strl _)
theorem str_size (l : List UInt8) : (str l).size = l.length := by rw [← ls_len, ls_strl]
theorem eq_str {s : ByteArray} {l : List UInt8} (h : ls s = l) : s = str l := by rw [← h, str_ls]
/-- The bytes of a tick are read: the last good frame's fields (or nothing), how many were bad. -/
inductive Reads (s : Int) (ws : List Int) : List UInt8 → List Int → Nat → Prop
  | nil : Reads s ws [] [] 0
  | skip {b : UInt8} {t : List UInt8} {l : List Int} {n : Nat} : b ≠ 165 → Reads s ws t l n → Reads s ws (b :: t) l n
  | bad {t : List UInt8} {l : List Int} {n : Nat} : ¬ GoodF s ws (str t) → Reads s ws t l n → Reads s ws (165 :: t) l (n + 1)
  | good {t : List UInt8} {l l' : List Int} {n : Nat} : GoodF s ws (str t) → Reads s ws (t.drop (3 + sumW ws)) l n → l' = (if l = [] then decF ws ((bytesOf (str t)).drop 1) else l) → Reads s ws (165 :: t) l' n
theorem Reads.total (s : Int) (ws : List Int) (t : List UInt8) : ∃ l n, Reads s ws t l n := by
  generalize hd : t.length = d
  induction d using Nat.strongRecOn generalizing t with
  | ind d ih =>
    subst hd
    match t with
    | [] => exact ⟨_, _, .nil⟩
    | b :: t =>
      by_cases hb : b = 165
      · subst hb
        by_cases hg : GoodF s ws (str t)
        · obtain ⟨l, n, h⟩ := ih (t.drop (3 + sumW ws)).length (by simp; omega) _ rfl
          exact ⟨_, _, .good hg h rfl⟩
        · obtain ⟨l, n, h⟩ := ih t.length (by simp) t rfl
          exact ⟨_, _, .bad hg h⟩
      · obtain ⟨l, n, h⟩ := ih t.length (by simp) t rfl
        exact ⟨_, _, .skip hb h⟩
theorem Reads.det {s : Int} {ws : List Int} {t : List UInt8} {l : List Int} {n : Nat} (h : Reads s ws t l n) : ∀ {l' : List Int} {n' : Nat}, Reads s ws t l' n' → l = l' ∧ n = n' := by
  induction h with
  | nil =>
    intro l' n' h'
    cases h'
    exact ⟨rfl, rfl⟩
  | skip hb _ ih =>
    intro l' n' h'
    cases h' with
    | skip _ h' => exact ih h'
    | bad => exact absurd rfl hb
    | good => exact absurd rfl hb
  | bad hg _ ih =>
    intro l' n' h'
    cases h' with
    | skip hb => exact absurd rfl hb
    | bad _ h' => obtain ⟨rfl, rfl⟩ := ih h'; exact ⟨rfl, rfl⟩
    | good hg' => exact absurd hg' hg
  | good hg _ e ih =>
    intro l' n' h'
    cases h' with
    | skip hb => exact absurd rfl hb
    | bad hg' => exact absurd hg hg'
    | good _ h' e' => obtain ⟨rfl, rfl⟩ := ih h'; exact ⟨e.trans e'.symm, rfl⟩
theorem Reads.skips {s : Int} {ws : List Int} {p t : List UInt8} {l : List Int} {n : Nat} (hp : ∀ b ∈ p, b ≠ 165) (h : Reads s ws t l n) : Reads s ws (p ++ t) l n := by
  induction p with
  | nil => exact h
  | cons b p ih => exact .skip (hp b List.mem_cons_self) (ih (fun c hc => hp c (List.mem_cons_of_mem _ hc)))
theorem Reads.unskip {s : Int} {ws : List Int} {p t : List UInt8} {l : List Int} {n : Nat} (hp : ∀ b ∈ p, b ≠ 165) (h : Reads s ws (p ++ t) l n) : Reads s ws t l n := by
  obtain ⟨l', n', h'⟩ := Reads.total s ws t
  obtain ⟨rfl, rfl⟩ := h.det (h'.skips hp)
  exact h'
theorem Reads.len {s : Int} {ws : List Int} {t : List UInt8} {l : List Int} {n : Nat} (h : Reads s ws t l n) : n ≤ t.length := by
  induction h with
  | nil => exact Nat.le_refl _
  | skip _ _ ih => simp only [List.length_cons]; omega
  | bad _ _ ih => simp only [List.length_cons]; omega
  | good _ _ _ ih => rw [List.length_drop] at ih; simp only [List.length_cons]; omega
/-- Where the first A5 stands. -/
theorem index165 (t : List UInt8) : (Lib.indexByte t 165 = -1 ∧ ∀ b ∈ t, b ≠ 165) ∨ ∃ p r, t = p ++ 165 :: r ∧ Lib.indexByte t 165 = (p.length : Int) ∧ ∀ b ∈ p, b ≠ 165 := by
  induction t with
  | nil => exact .inl ⟨rfl, fun b hb => by cases hb⟩
  | cons b t ih =>
    have e : Lib.indexByte (b :: t) 165 = if b == 165 then 0 else if Lib.indexByte t 165 == -1 then -1 else Lib.indexByte t 165 + 1 := rfl
    by_cases hb : b = 165
    · subst hb
      exact .inr ⟨[], t, rfl, rfl, fun b hb => by cases hb⟩
    · have hb' : (b == 165) = false := beq_eq_false_iff_ne.mpr hb
      rw [e, hb']
      rcases ih with ⟨h1, h2⟩ | ⟨p, r, rfl, h1, h2⟩
      · refine .inl ⟨by rw [h1]; rfl, fun c hc => ?_⟩
        rcases List.mem_cons.1 hc with rfl | hc
        · exact hb
        · exact h2 c hc
      · refine .inr ⟨b :: p, r, rfl, ?_, fun c hc => ?_⟩
        · have hne : (Lib.indexByte (p ++ 165 :: r) 165 == -1) = false := beq_eq_false_iff_ne.mpr (by rw [h1]; omega)
          rw [hne, h1]
          simp
        · rcases List.mem_cons.1 hc with rfl | hc
          · exact hb
          · exact h2 c hc
theorem dec_ne {ws : List Int} (h : ws ≠ []) (bs : List Int) : decF ws bs ≠ [] := by
  intro e
  have := dec_length ws bs
  rw [e] at this
  exact h (List.eq_nil_of_length_eq_zero this.symm)
set_option maxRecDepth 100000 in
set_option maxHeartbeats 4000000 in
theorem read_walk (s : Int) (ws : List Int) (hws : sense_widths.f s = some ws) (hW : ∀ x ∈ ws, SWidth x) (hL : ws.length ≤ 100) (hne : ws ≠ []) (d : ByteArray) (hd : d.size ≤ 1099511627776) (L : List Int) (N : Nat) (hR : Reads s ws (ls d) L N) (w : World) :
    Calls Try.prog 53 #[.int .u8 s, .string d] w fun e w' => ∃ v, e = .returned (.tuple #[v, .bool (!L.isEmpty), .int .i64 (N : Int)]) ∧ Kd.R (Kd.int .i64) 3 w' w.heap.size (fun _ => True) v L ∧ Below w.heap.size w w' := by
  have HD := Aside0.mk hd
  have HW := Aside0.mk hW
  have HL := Aside0.mk hL
  have HWS := Aside0.mk hws
  have HNE := Aside0.mk hne
  have HR := Aside0.mk hR
  clear hd hW hws hL hne hR
  go_enter Try.func53, Try.ntmps53
  go_wp2_with fail
  refine (sense_widths.calls s ws _ HWS.out).mono ?_
  rintro e w1 ⟨vw, rfl, hr1, hb1⟩
  obtain ⟨Aw, cw, rfl, hcw, -⟩ := Kd.R_reads hr1
  have HB1 := Aside0.mk hb1
  have c1 : ((ws.length : Int) == 0) = false := beq_eq_false_iff_ne.mpr (by have := List.length_pos_iff.2 HNE.out; omega)
  clear hr1 hb1 hcw
  go_wp2_with fail
  go_loopg [1, 7, 8] d.size (fun kq v1 v7 v8 w' => ∃ (t : ByteArray) (bad : Int), v1 = .string t ∧ v8 = .int .i64 bad ∧ Aside0 (∃ (x : List Int) (l : List Int) (n m : Nat), t.size = kq ∧ t.size ≤ d.size ∧ Reads s ws (ls t) l n ∧ (if l = [] then x else l) = L ∧ bad = (m : Int) ∧ m + n = N ∧ (x = [] → v7 = .slice none 0 0) ∧ Kd.R (Kd.int .i64) 3 w' w.heap.size (fun _ => True) v7 x) ∧ Aside0 (Below w.heap.size w w') ∧ Aside0 (N ≤ d.size))
  case atStart => exact ⟨d, 0, rfl, rfl, ⟨[], L, N, 0, rfl, Nat.le_refl _, HR.out, by by_cases h : L = [] <;> simp [h], rfl, Nat.zero_add _, fun _ => rfl, Kd.R_nil _ _ _ _ _⟩, HB1, ⟨by have := HR.out.len; rw [ls_len] at this; exact this⟩⟩
  case round =>
    clear HB1 HR
    obtain ⟨t, bad, rfl, rfl, HI, HB, HN⟩ := hrel
    go_wp2_with fail
    obtain ⟨x, l, n, m, hk, hsz, hRd, hl, hbad, hmn, hnil, hRow⟩ := HI.out
    clear HI
    rcases index165 (ls t) with ⟨h1, h2⟩ | ⟨p, r, ht, h1, hp⟩
    · have hz : Reads s ws (ls t) [] 0 := by
        have := Reads.skips (s := s) (ws := ws) (t := []) h2 .nil
        rw [List.append_nil] at this
        exact this
      obtain ⟨rfl, rfl⟩ := hRd.det hz
      rw [if_pos rfl] at hl
      subst hl
      have HBAD := Aside0.mk (show bad = (N : Int) by omega)
      refine ((Try.strings_Index_one t 165 _).mono (fun e w' h => (⟨h.1.trans (by rw [show Lib.indexByte t.data.toList 165 = -1 from h1]), h.2.symm⟩ : e = .returned (.int .i64 (-1)) ∧ _ = w'))).mono ?_
      rintro e w' ⟨rfl, rfl⟩
      have HRow := Aside0.mk hRow
      clear hz h1 h2 hRd hk hsz hmn hbad
      by_cases hx : x = []
      · have hv := hnil hx
        subst hv
        have HX := Aside0.mk hx
        clear hnil hx hRow
        have hnn := Go.run_neq_slice_nil_any (P := Try.prog) wr 36 3 none 0 0 0 0 Try.underlying36
        go_wp2_with fail
        go_ret3
        exact ⟨_, by rw [HX.out, HBAD.out]; rfl, HRow.out, HB.out⟩
      · obtain ⟨g, cap, hv, _, _, _⟩ := Kd.R_form hRow (List.length_pos_iff.2 hx)
        subst hv
        have HX := Aside0.mk hx
        clear hnil hx hRow
        have hnn := Go.run_neq_slice_nil_any (P := Try.prog) wr 36 3 (some ⟨g, 0, none⟩) x.length cap 0 0 Try.underlying36
        go_wp2_with fail
        go_ret3
        exact ⟨_, by rw [HBAD.out, show (!x.isEmpty) = true by simpa using HX.out]; rfl, HRow.out, HB.out⟩
    · have hR2 : Reads s ws (165 :: r) l n := Reads.unskip hp (by rw [← ht]; exact hRd)
      have hlen := congrArg List.length ht
      rw [ls_len, List.length_append, List.length_cons] at hlen
      obtain ⟨j, hj⟩ : ∃ j : Int, (p.length : Int) = j := ⟨_, rfl⟩
      have e1 : wrap64 (j + 1) = j + 1 := w64 (by omega) (by have := HD.out; omega)
      have b0 : decide (j < 0) = false := decide_eq_false (by clear e1; omega)
      have b1 : (0 ≤ j + 1) = True := eq_true (by clear e1; omega)
      have b2 : (j + 1 ≤ (t.size : Int)) = True := eq_true (by clear e1; omega)
      have hx : t.extract (j + 1).toNat t.size = str r := by
        apply eq_str
        rw [ls_tail, show (j + 1).toNat = p.length + 1 by clear e1; omega, ht, show p ++ 165 :: r = (p ++ [165]) ++ r by simp, List.drop_left' (by simp)]
      have hsr : (str r).size = r.length := str_size r
      have hsr2 : r.length < gk := by clear e1; omega
      refine ((Try.strings_Index_one t 165 _).mono (fun e w' h => (⟨h.1.trans (by rw [show Lib.indexByte t.data.toList 165 = (p.length : Int) from h1, hj]), h.2.symm⟩ : e = .returned (.int .i64 j) ∧ _ = w'))).mono ?_
      rintro e w' ⟨rfl, rfl⟩
      have HX := Aside0.mk hx
      have HRow := Aside0.mk hRow
      have HL2 := Aside0.mk hl
      have HBAD := Aside0.mk hbad
      have HMN := Aside0.mk hmn
      have HNIL := Aside0.mk hnil
      have HR2 := Aside0.mk hR2
      have HSR := Aside0.mk hsr
      have HSR2 := Aside0.mk hsr2
      have HSZ := Aside0.mk (show r.length ≤ d.size by clear e1; omega)
      clear hx hRow hl hbad hmn hnil hR2 hsr hsr2 hk hsz hRd h1 hp ht hlen hj
      go_wp2_with fail
      rw [HX.out]
      clear HX b1 b2 e1 b0
      refine (frame_walk s ws HWS.out HW.out HL.out (str r) (by rw [HSR.out]; have := HSZ.out; have := HD.out; omega) _).mono ?_
      rintro e w2 (⟨hg, v, rfl, hrow2, hb2⟩ | ⟨hng, rfl, hb2⟩)
      · have hsz3 : 3 + sumW ws ≤ (str r).size := hg.1
        obtain ⟨l0, hl0, el⟩ : ∃ l0, Reads s ws (r.drop (3 + sumW ws)) l0 n ∧ l = (if l0 = [] then decF ws ((bytesOf (str r)).drop 1) else l0) := by
          have hr2 := HR2.out
          cases hr2 with
          | skip hb => exact absurd rfl hb
          | bad hng => exact absurd hg hng
          | good _ h e => exact ⟨_, h, e⟩
        have hx2 : (str r).extract (3 + sumW ws) (str r).size = str (r.drop (3 + sumW ws)) := by
          apply eq_str
          rw [ls_tail, ls_strl]
        obtain ⟨q, hq⟩ : ∃ q : Nat, 3 + sumW ws = q := ⟨_, rfl⟩
        rw [hq] at hl0 hx2 hsz3 ⊢
        have HX2 := Aside0.mk hx2
        have HL0 := Aside0.mk hl0
        have HEL := Aside0.mk el
        have HB2 := Aside0.mk (below_step HB.out hb2)
        have HRow2 := Aside0.mk (Kd.R_lower hrow2 HB.out.size)
        have HQ := Aside0.mk hq
        have b3 : (0 ≤ (q : Int)) = True := eq_true (Int.natCast_nonneg q)
        have b4 : ((q : Int) ≤ ((str r).size : Int)) = True := eq_true (by omega)
        clear hx2 hl0 el hb2 hrow2 hq hg hsz3
        go_wp2_with fail
        go_roundg (r.drop q).length
        case measure => rw [List.length_drop]; have := HSR2.out; have := HQ.out; omega
        case rel =>
          refine ⟨(str r).extract q (str r).size, bad, rfl, rfl, ⟨decF ws ((bytesOf (str r)).drop 1), l0, n, m, ?_, ?_, ?_, ?_, HBAD.out, HMN.out, fun h => absurd h (dec_ne HNE.out _), HRow2.out⟩, HB2, HN⟩
          · rw [HX2.out, str_size]
          · rw [HX2.out, str_size, List.length_drop]; have := HSZ.out; omega
          · rw [HX2.out, ls_strl]; exact HL0.out
          · have h1 := HL2.out
            rw [HEL.out] at h1
            by_cases hl0 : l0 = []
            · rw [if_pos hl0, if_neg (dec_ne HNE.out _)] at h1
              rw [if_pos hl0]; exact h1
            · rw [if_neg hl0, if_neg hl0] at h1
              rw [if_neg hl0]; exact h1
      · obtain ⟨n', hn', hr'⟩ : ∃ n', n = n' + 1 ∧ Reads s ws r l n' := by
          have hr2 := HR2.out
          cases hr2 with
          | skip hb => exact absurd rfl hb
          | bad _ h => exact ⟨_, rfl, h⟩
          | good hg => exact absurd hg hng
        have HB2 := Aside0.mk (below_step HB.out hb2)
        have HRow2 := Aside0.mk (Kd.R_below HRow.out hb2)
        have HN' := Aside0.mk hn'
        have HR' := Aside0.mk hr'
        have E1 : Aside0 (wrap64 (bad + 1) = ((m + 1 : Nat) : Int)) := ⟨by rw [HBAD.out, w64 (by omega) (by have := HMN.out; have := HN.out; have := HD.out; omega)]; rfl⟩
        clear hn' hr' hb2 hng
        go_wp2_with fail
        go_roundg r.length
        case measure => exact HSR2.out
        case rel => exact ⟨str r, _, rfl, congrArg (Value.int .i64) E1.out, ⟨x, l, n', m + 1, HSR.out, by rw [HSR.out]; exact HSZ.out, by rw [ls_strl]; exact HR'.out, HL2.out, rfl, by have := HMN.out; have := HN'.out; omega, HNIL.out, HRow2.out⟩, HB2, HN⟩
set_option maxRecDepth 100000 in
set_option maxHeartbeats 1000000 in
theorem read_none (s : Int) (hws : sense_widths.f s = some []) (d : ByteArray) (w : World) :
    Calls Try.prog 53 #[.int .u8 s, .string d] w fun e w' => e = .returned (.tuple #[.slice none 0 0, .bool false, .int .i64 0]) ∧ Below w.heap.size w w' := by
  go_enter Try.func53, Try.ntmps53
  go_wp2_with fail
  refine (sense_widths.calls s [] _ hws).mono ?_
  rintro e w1 ⟨vw, rfl, hr1, hb1⟩
  obtain ⟨Aw, cw, rfl, hcw, -⟩ := Kd.R_reads hr1
  have HB1 := Aside0.mk hb1
  clear hr1 hb1 hcw hws
  go_wp2_with fail
  go_ret3
  exact ⟨rfl, HB1.out⟩
/-! ### the same, told as a function -/
instance (s : Int) (ws : List Int) (d : ByteArray) : Decidable (GoodF s ws d) := inferInstanceAs (Decidable (_ ∧ _ ∧ _ ∧ _))
def readF (s : Int) (ws : List Int) : Nat → List UInt8 → List Int × Nat
  | 0, _ => ([], 0)
  | _ + 1, [] => ([], 0)
  | n + 1, b :: t =>
    if b = 165 then
      if GoodF s ws (str t) then (if (readF s ws n (t.drop (3 + sumW ws))).1 = [] then decF ws ((bytesOf (str t)).drop 1) else (readF s ws n (t.drop (3 + sumW ws))).1, (readF s ws n (t.drop (3 + sumW ws))).2)
      else ((readF s ws n t).1, (readF s ws n t).2 + 1)
    else readF s ws n t
theorem readF_reads (s : Int) (ws : List Int) : ∀ (n : Nat) (t : List UInt8), t.length ≤ n → Reads s ws t (readF s ws n t).1 (readF s ws n t).2
  | 0, [], _ => .nil
  | 0, b :: t, h => by simp at h
  | n + 1, [], _ => .nil
  | n + 1, b :: t, h => by
    simp only [List.length_cons] at h
    unfold readF
    split
    · rename_i hb
      subst hb
      split
      · rename_i hg
        exact .good hg (readF_reads s ws n _ (by rw [List.length_drop]; omega)) rfl
      · rename_i hg
        exact .bad hg (readF_reads s ws n t (by omega))
    · rename_i hb
      exact .skip hb (readF_reads s ws n t (by omega))
def sense_Read.f (a0 : Int) (a1 : ByteArray) : Option (List Int × Bool × Int) :=
  if a1.size ≤ 1099511627776 then (sense_widths.f a0).bind fun ws =>
    if ws = [] then some ([], false, 0) else some ((readF a0 ws a1.size (ls a1)).1, !(readF a0 ws a1.size (ls a1)).1.isEmpty, ((readF a0 ws a1.size (ls a1)).2 : Int))
  else none
theorem widths_ok {a0 : Int} {ws : List Int} (h : sense_widths.f a0 = some ws) : (∀ x ∈ ws, SWidth x) ∧ ws.length ≤ 5 ∧ sumW ws ≤ 16 := by
  have hall : ∀ ws ∈ ([[16, -16, -16, -16], [-32, -32], [-32, -32, -32, -32], [-16, -16, -16, -16, 8], [8, -32], []] : List (List Int)), (∀ x ∈ ws, x = 8 ∨ x = 16 ∨ x = -16 ∨ x = -32) ∧ ws.length ≤ 5 ∧ sumW ws ≤ 16 := by decide
  refine hall ws ?_
  unfold sense_widths.f at h
  repeat (split at h; (obtain rfl := Option.some.inj h; simp))
  obtain rfl := Option.some.inj h
  simp
theorem sense_Read.calls (a0 : Int) (a1 : ByteArray) (r1 : List Int) (r2 : Bool) (r3 : Int) (w : World) (h : sense_Read.f a0 a1 = some (r1, r2, r3)) :
    Calls Try.prog 53 #[.int .u8 a0, .string a1] w fun e w' => ∃ v0_ : Value, e = .returned (.tuple #[v0_, .bool r2, .int .i64 r3]) ∧ Kd.R (Kd.int .i64) 3 w' w.heap.size (fun _ => True) v0_ r1 ∧ Below w.heap.size w w' := by
  unfold sense_Read.f at h
  split at h
  · rename_i hsz
    obtain ⟨ws, hws, h⟩ := Option.bind_eq_some_iff.1 h
    obtain ⟨k1, k2, _⟩ := widths_ok hws
    split at h
    · rename_i hnil
      subst hnil
      simp only [Option.some.injEq, Prod.mk.injEq] at h
      obtain ⟨rfl, rfl, rfl⟩ := h
      exact (read_none a0 hws a1 w).mono fun e w' h => ⟨_, h.1, Kd.R_nil _ _ _ _ _, h.2⟩
    · rename_i hne
      simp only [Option.some.injEq, Prod.mk.injEq] at h
      obtain ⟨rfl, rfl, rfl⟩ := h
      exact read_walk a0 ws hws k1 (by omega) hne a1 hsz _ _ (readF_reads a0 ws _ _ (by rw [ls_len]; omega)) w
  · cases h
end Go.Proofs.Ytbbinmplkbpcdaa.Ps
