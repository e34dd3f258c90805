import Derived.Test.YtbbinmplkbpcdaaFmC
/-! How frames are read out of a row of bytes, as a relation: any bytes, in whatever pieces. -/
namespace Go.Proofs.Ytbbinmplkbpcdaa.Fm
open Go.RowKit Go.Proofs.Ytbbinmplkbpcdaa.Pm Go.Proofs.YtbbinmplkbpcdaaW.PrintWords Go.Proofs.YtbbinmplkbpcdaaW.PrintLast Go.Proofs.YtbbinmplkbpcdaaW.PrintMore

/-- What stands behind a byte FD: too little to tell, no frame, or a frame. -/
inductive Kind | short | bad | good
/-- The length that it tells. -/
def size_ (t : List UInt8) : Nat := (t.headD 0).toNat
theorem size_lt (t : List UInt8) : size_ t < 256 := UInt8.toNat_lt _
/-- Is its check right? -/
def ok (t : List UInt8) : Prop := (t.drop (3 + size_ t)).take 2 = two (chk (t.take (3 + size_ t)))
instance (t : List UInt8) : Decidable (ok t) := inferInstanceAs (Decidable (_ = _))
def kindOf (t : List UInt8) : Kind :=
  if t = [] then .short else if 64 < size_ t then .bad else if t.length < 5 + size_ t then .short else if ok t then .good else .bad
/-- The frame that stands there. -/
def frameOf (t : List UInt8) : S45 := ⟨((t.getD 1 0).toNat : Int), ((t.getD 2 0).toNat : Int), str ((t.drop 3).take (size_ t))⟩

/-- The bytes are read: the frames, how many were bad, what waits. -/
inductive Scans : List UInt8 → List S45 → Nat → List UInt8 → Prop
  | nil : Scans [] [] 0 []
  | skip {b : UInt8} {t : List UInt8} {fs : List S45} {n : Nat} {r : List UInt8} : b ≠ 253 → Scans t fs n r → Scans (b :: t) fs n r
  | wait {t : List UInt8} : kindOf t = .short → Scans (253 :: t) [] 0 (253 :: t)
  | bad {t : List UInt8} {fs : List S45} {n : Nat} {r : List UInt8} : kindOf t = .bad → Scans t fs n r → Scans (253 :: t) fs (n + 1) r
  | good {t : List UInt8} {fs : List S45} {n : Nat} {r : List UInt8} : kindOf t = .good → Scans (t.drop (5 + size_ t)) fs n r → Scans (253 :: t) (frameOf t :: fs) n r

theorem kind_good {t : List UInt8} (h : kindOf t = .good) : t ≠ [] ∧ size_ t ≤ 64 ∧ 5 + size_ t ≤ t.length ∧ ok t := by
  unfold kindOf at h
  split at h
  · cases h
  · split at h
    · cases h
    · split at h
      · cases h
      · split at h
        · exact ⟨‹_›, by omega, by omega, ‹_›⟩
        · cases h
theorem kind_short {t : List UInt8} (h : kindOf t = .short) : t = [] ∨ (t ≠ [] ∧ size_ t ≤ 64 ∧ t.length < 5 + size_ t) := by
  unfold kindOf at h
  split at h
  · exact .inl ‹_›
  · split at h
    · cases h
    · split at h
      · exact .inr ⟨‹_›, by omega, by omega⟩
      · split at h <;> cases h
theorem kind_bad {t : List UInt8} (h : kindOf t = .bad) : t ≠ [] ∧ (64 < size_ t ∨ (size_ t ≤ 64 ∧ 5 + size_ t ≤ t.length ∧ ¬ ok t)) := by
  unfold kindOf at h
  split at h
  · cases h
  · split at h
    · exact ⟨‹_›, .inl ‹_›⟩
    · split at h
      · cases h
      · split at h
        · cases h
        · exact ⟨‹_›, .inr ⟨by omega, by omega, ‹_›⟩⟩

theorem Scans.total (l : List UInt8) : ∃ fs n r, Scans l fs n r := by
  generalize hd : l.length = d
  induction d using Nat.strongRecOn generalizing l with
  | ind d ih =>
    subst hd
    match l with
    | [] => exact ⟨_, _, _, .nil⟩
    | b :: t =>
      obtain ⟨fs, n, r, h⟩ := ih t.length (by simp) t rfl
      by_cases hb : b = 253
      · subst hb
        rcases hk : kindOf t with _ | _ | _
        · exact ⟨_, _, _, .wait hk⟩
        · exact ⟨_, _, _, .bad hk h⟩
        · obtain ⟨fs, n, r, h⟩ := ih (t.drop (5 + size_ t)).length (by simp; omega) _ rfl
          exact ⟨_, _, _, .good hk h⟩
      · exact ⟨_, _, _, .skip hb h⟩
theorem Scans.det {l : List UInt8} {fs : List S45} {n : Nat} {r : List UInt8} (h : Scans l fs n r) : ∀ {fs' : List S45} {n' : Nat} {r' : List UInt8}, Scans l fs' n' r' → fs = fs' ∧ n = n' ∧ r = r' := by
  induction h with
  | nil =>
    intro fs' n' r' h'
    cases h'
    exact ⟨rfl, rfl, rfl⟩
  | skip hb _ ih =>
    intro fs' n' r' h'
    cases h' with
    | skip _ h' => exact ih h'
    | wait => exact absurd rfl hb
    | bad => exact absurd rfl hb
    | good => exact absurd rfl hb
  | wait hk =>
    intro fs' n' r' h'
    cases h' with
    | skip hb => exact absurd rfl hb
    | wait => exact ⟨rfl, rfl, rfl⟩
    | bad hk' => rw [hk] at hk'; cases hk'
    | good hk' => rw [hk] at hk'; cases hk'
  | bad hk _ ih =>
    intro fs' n' r' h'
    cases h' with
    | skip hb => exact absurd rfl hb
    | wait hk' => rw [hk] at hk'; cases hk'
    | bad _ h' => obtain ⟨rfl, rfl, rfl⟩ := ih h'; exact ⟨rfl, rfl, rfl⟩
    | good hk' => rw [hk] at hk'; cases hk'
  | good hk _ ih =>
    intro fs' n' r' h'
    cases h' with
    | skip hb => exact absurd rfl hb
    | wait hk' => rw [hk] at hk'; cases hk'
    | bad hk' => rw [hk] at hk'; cases hk'
    | good _ h' => obtain ⟨rfl, rfl, rfl⟩ := ih h'; exact ⟨rfl, rfl, rfl⟩

/-! ### more bytes -/
theorem size_append {t : List UInt8} (h : t ≠ []) (m : List UInt8) : size_ (t ++ m) = size_ t := by
  match t, h with
  | b :: t, _ => rfl
theorem ok_append {t : List UInt8} (h : t ≠ []) (hl : 5 + size_ t ≤ t.length) (m : List UInt8) : ok (t ++ m) ↔ ok t := by
  unfold ok
  rw [size_append h, List.take_append_of_le_length (by omega), List.drop_append_of_le_length (by omega), List.take_append_of_le_length (by rw [List.length_drop]; omega)]
theorem kind_append {t : List UInt8} (h : kindOf t ≠ .short) (m : List UInt8) : kindOf (t ++ m) = kindOf t := by
  unfold kindOf at h ⊢
  by_cases h0 : t = []
  · rw [if_pos h0] at h
    exact absurd rfl h
  · rw [if_neg h0] at h ⊢
    rw [if_neg (by simp [h0]), size_append h0]
    by_cases h1 : 64 < size_ t
    · rw [if_pos h1, if_pos h1]
    · rw [if_neg h1] at h ⊢
      rw [if_neg h1]
      by_cases h2 : t.length < 5 + size_ t
      · rw [if_pos h2] at h
        exact absurd rfl h
      · rw [if_neg h2] at h ⊢
        rw [if_neg (by simp; omega)]
        simp only [ok_append h0 (by omega)]
theorem frame_append {t : List UInt8} (h0 : t ≠ []) (hl : 5 + size_ t ≤ t.length) (m : List UInt8) : frameOf (t ++ m) = frameOf t := by
  unfold frameOf
  have e1 : (t ++ m).getD 1 0 = t.getD 1 0 := by
    rw [List.getD_eq_getElem?_getD, List.getElem?_append_left (by omega), ← List.getD_eq_getElem?_getD]
  have e2 : (t ++ m).getD 2 0 = t.getD 2 0 := by
    rw [List.getD_eq_getElem?_getD, List.getElem?_append_left (by omega), ← List.getD_eq_getElem?_getD]
  rw [e1, e2, size_append h0, List.drop_append_of_le_length (by omega), List.take_append_of_le_length (by rw [List.length_drop]; omega)]
/-- Bytes that are read on, behind those that have been read. -/
theorem Scans.more {l : List UInt8} {fs : List S45} {n : Nat} {r : List UInt8} (h : Scans l fs n r) (m : List UInt8) : ∀ {fs' : List S45} {n' : Nat} {r' : List UInt8}, Scans (r ++ m) fs' n' r' → Scans (l ++ m) (fs ++ fs') (n + n') r' := by
  induction h with
  | nil =>
    intro fs' n' r' h'
    rw [Nat.zero_add]
    exact h'
  | skip hb _ ih => exact fun h' => .skip hb (ih h')
  | wait hk =>
    intro fs' n' r' h'
    rw [Nat.zero_add]
    exact h'
  | @bad t _ n _ hk _ ih =>
    intro fs' n' r' h'
    have := Scans.bad (by rw [kind_append (by rw [hk]; intro h; cases h), hk]) (ih h')
    rw [show n + 1 + n' = n + n' + 1 by omega]
    exact this
  | @good t _ n _ hk _ ih =>
    intro fs' n' r' h'
    obtain ⟨h0, _, hl, _⟩ := kind_good hk
    have h2 := ih h'
    rw [← List.drop_append_of_le_length hl, ← size_append h0 m] at h2
    have := Scans.good (by rw [kind_append (by rw [hk]; intro h; cases h), hk]) h2
    rw [frame_append h0 hl] at this
    exact this
/-- What waits is little, and is read no further by itself. -/
theorem Scans.rest {l : List UInt8} {fs : List S45} {n : Nat} {r : List UInt8} (h : Scans l fs n r) : r.length ≤ 69 ∧ Scans r [] 0 r := by
  induction h with
  | nil => exact ⟨by simp, .nil⟩
  | skip _ _ ih => exact ih
  | wait hk =>
    refine ⟨?_, .wait hk⟩
    rcases kind_short hk with rfl | ⟨_, h1, h2⟩
    · simp
    · simp only [List.length_cons]
      omega
  | bad _ _ ih => exact ih
  | good _ _ ih => exact ih
theorem Scans.len {l : List UInt8} {fs : List S45} {n : Nat} {r : List UInt8} (h : Scans l fs n r) : 6 * fs.length + n + r.length ≤ l.length := by
  induction h with
  | nil => simp
  | skip _ _ ih => simp only [List.length_cons]; omega
  | wait _ => simp
  | bad _ _ ih => simp only [List.length_cons]; omega
  | good hk _ ih =>
    obtain ⟨_, _, hl, _⟩ := kind_good hk
    rw [List.length_drop] at ih
    simp only [List.length_cons]
    omega
end Go.Proofs.Ytbbinmplkbpcdaa.Fm
