import Derived.Test.YtbbinmplkbpcdaaSns
/-! Lists that lie apart: the state of the test. -/
set_option linter.unusedVariables false
set_option linter.constructorNameAsVariable false
namespace Go.Proofs.Ytbbinmplkbpcdaa.Ps
open Go.RowKit Go.Proofs.Ytbbinmplkbpcdaa.Wd Go.Proofs.YtbbinmplkbpcdaaW.PrintWords Go.Proofs.YtbbinmplkbpcdaaW.PrintLast Go.Proofs.YtbbinmplkbpcdaaW.PrintMore
/-- A list's header: its block, its length, its room. -/
abbrev Sl := Option Nat × Nat × Nat
def encS (p : Sl) : Value := .slice (p.1.map fun g => ⟨g, 0, none⟩) p.2.1 p.2.2
def kS : Kd Sl := Kd.scalar encS (fun _ => rfl)
abbrev TT : Nat → Prop := fun _ => True
def at_ (A : List Sl) (i : Nat) : Sl := A.getD i (none, 0, 0)
theorem own_encS (p : Sl) : (encS p).ownBlock = p.1 := by
  obtain ⟨o, n, c⟩ := p
  cases o <;> rfl
theorem at_set {A : List Sl} {i : Nat} (hi : i < A.length) (p : Sl) (j : Nat) : at_ (A.set i p) j = if j = i then p else at_ A j := by
  unfold at_
  rw [List.getD_eq_getElem?_getD, List.getD_eq_getElem?_getD]
  by_cases h : j = i
  · subst h
    rw [List.getElem?_set_self hi, if_pos rfl]
    rfl
  · rw [List.getElem?_set_ne (fun e => h e.symm), if_neg h]
theorem grown_any {w w1 : World} (h : w.grownBy w1 none) (row : Option Nat) : w.grownBy w1 row := ⟨h.os, h.tape, h.output, h.size, fun k hk _ => h.block k hk (by simp)⟩
theorem grown_set (w : World) (g k : Nat) (u : Value) : w.grownBy (w.setCell ⟨g, k, none⟩ u) (some g) := ⟨rfl, rfl, rfl, by simp [World.setCell], fun i _ hne => Below.heap_setCell w ⟨g, k, none⟩ u i (fun e => hne (by rw [e]))⟩
theorem row_cell {A : List Sl} {W : World} {base g n c : Nat} (h : kS.R 36 W base TT (.slice (some ⟨g, 0, none⟩) n c) A) (x : Int) (h0 : 0 ≤ x) (h1 : x < n) : W.cell? ⟨g, x.toNat, none⟩ = some (.slice ((at_ A x.toNat).1.map fun g => ⟨g, 0, none⟩) (at_ A x.toNat).2.1 (at_ A x.toNat).2.2) ∧ W.frozen? ⟨g, x.toNat, none⟩ = false := Kd.R_celln (none, 0, 0) h x h0 h1
/-- While the lists are filled. -/
structure Ap1 (base : Nat) (W : World) (gl cl gL cL n : Nat) (A B : List Sl) (X : Nat → List Int) (i0 : Nat) : Prop where
  la : A.length = n
  lb : B.length = n
  ls : kS.R 36 W base TT (.slice (some ⟨gl, 0, none⟩) n cl) A
  long : kS.R 36 W base TT (.slice (some ⟨gL, 0, none⟩) n cL) B
  ne : gl ≠ gL
  bb : ∀ j, at_ B j = if j < i0 then at_ A j else (none, 0, 0)
  ra : ∀ j, j < n → (Kd.int .i64).R 3 W base TT (encS (at_ A j)) (X j)
  daa : ∀ i j g, i < n → j < n → (at_ A i).1 = some g → (at_ A j).1 = some g → i = j
theorem kSE : kS.E = [] := rfl
theorem kIE : (Kd.int .i64).E = [] := rfl
theorem typed_ne {W : World} {base g : Nat} {t t' : TypeId} {c : Array Value} {c' : Array Value} {g' : Nat} (h : W.heap[g]? = some (.cells c t (0, 0))) (h' : W.heap[g']? = some (.cells c' t' (0, 0))) (ht : t ≠ t') : g ≠ g' := by
  intro e
  subst e
  rw [h] at h'
  injection h' with h'
  injection h' with _ h'
  exact ht h'
section
variable {base : Nat} {W : World} {gl cl gL cL n : Nat} {A B : List Sl} {X Y : Nat → List Int}
theorem rows_len {A : List Sl} {j : Nat} (h : (Kd.int .i64).R 3 W base TT (encS (at_ A j)) (X j)) : (at_ A j).2.1 = (X j).length := (Kd.R_reads' h).1
theorem rows_form {p : Sl} {xs : List Int} (h : (Kd.int .i64).R 3 W base TT (encS p) xs) (hp : 0 < xs.length) : ∃ g c, p = (some g, xs.length, c) ∧ base ≤ g := by
  obtain ⟨g, c, e, hb, _⟩ := Kd.R_form h hp
  obtain ⟨o, m, c'⟩ := p
  cases o with
  | none => simp [encS] at e
  | some g' =>
    simp only [encS, Option.map_some, Value.slice.injEq, Option.some.injEq, Addr.mk.injEq, and_true] at e
    obtain ⟨rfl, rfl, rfl⟩ := e
    exact ⟨_, _, rfl, hb⟩
theorem Ap1.set {i0 : Nat} (h : Ap1 base W gl cl gL cL n A B X i0) (hi : i0 < n) {k : Int} (hk0 : 0 ≤ k) (hk : k < ((X i0).length : Int)) :
    ∃ g c, at_ A i0 = (some g, (X i0).length, c) ∧ base ≤ g ∧ (∃ u, W.cell? ⟨g, k.toNat, none⟩ = some (.int .i64 u)) ∧ W.frozen? ⟨g, k.toNat, none⟩ = false ∧
      ∀ v : Int, Ap1 base (W.setCell ⟨g, k.toNat, none⟩ (.int .i64 v)) gl cl gL cL n A B (fun j => if j = i0 then (X i0).set k.toNat v else X j) i0 := by
  have hr := h.ra i0 hi
  obtain ⟨g, c, e, hb⟩ := rows_form hr (by omega)
  have hr' := hr
  rw [e] at hr'
  have hr2 : (Kd.int .i64).R 3 W base TT (.slice (some ⟨g, 0, none⟩) (X i0).length c) (X i0) := hr'
  obtain ⟨h1, h2⟩ := Kd.R_cell (0 : Int) hr2 k hk0 hk
  obtain ⟨cs, hty⟩ := Kd.R_typed hr2 g rfl
  have hgl : gl ≠ g := fun e2 => by
    obtain ⟨c1, h3⟩ := Kd.R_typed h.ls gl rfl
    exact typed_ne (base := base) h3 hty (by decide) e2
  have hgL : gL ≠ g := fun e2 => by
    obtain ⟨c1, h3⟩ := Kd.R_typed h.long gL rfl
    exact typed_ne (base := base) h3 hty (by decide) e2
  refine ⟨g, c, e, hb, ⟨_, h1⟩, h2, fun v => ?_⟩
  have hg := grown_set W g k.toNat (.int .i64 v)
  refine ⟨h.la, h.lb, Kd.R_grown1 h.ls kSE hg (fun e => hgl (by injection e.symm)), Kd.R_grown1 h.long kSE hg (fun e => hgL (by injection e.symm)), h.ne, h.bb, fun j hj => ?_, h.daa⟩
  by_cases hji : j = i0
  · subst hji
    rw [if_pos rfl]
    have := (Kd.R_put hr2 k v).1
    rw [e]
    have hl : ((X j).set k.toNat v).length = (X j).length := List.length_set
    show (Kd.int .i64).R 3 _ base TT (.slice (some ⟨g, 0, none⟩) (X j).length c) _
    exact this
  · rw [if_neg hji]
    refine Kd.R_grown1 (h.ra j hj) kIE hg (fun e2 => hji (h.daa j i0 g hj hi ?_ (by rw [e])))
    rw [← own_encS, ← e2]
theorem Ap1.put {i0 : Nat} (h : Ap1 base W gl cl gL cL n A B X i0) (hi : i0 < n) :
    (∃ u, W.cell? ⟨gL, i0, none⟩ = some u) ∧ W.frozen? ⟨gL, i0, none⟩ = false ∧ base ≤ gL ∧ Ap1 base (W.setCell ⟨gL, i0, none⟩ (encS (at_ A i0))) gl cl gL cL n A (B.set i0 (at_ A i0)) X (i0 + 1) := by
  obtain ⟨h1, h2⟩ := row_cell h.long (i0 : Int) (by omega) (by omega)
  obtain ⟨cs, hty⟩ := Kd.R_typed h.long gL rfl
  have hg := grown_set W gL i0 (encS (at_ A i0))
  refine ⟨⟨_, h1⟩, h2, Kd.R_base h.long gL rfl, h.la, by rw [List.length_set]; exact h.lb, Kd.R_grown1 h.ls kSE hg (fun e => h.ne (by injection e with e; exact e.symm)), Kd.R_putn h.long (i0 : Int) (at_ A i0), h.ne, fun j => ?_, fun j hj => ?_, h.daa⟩
  · rw [at_set (by rw [h.lb]; exact hi), h.bb]
    by_cases hji : j = i0
    · rw [if_pos hji, if_pos (by omega), hji]
    · rw [if_neg hji]
      by_cases hlt : j < i0
      · rw [if_pos hlt, if_pos (by omega)]
      · rw [if_neg hlt, if_neg (by omega)]
  · refine Kd.R_grown1 (h.ra j hj) kIE hg (fun e2 => ?_)
    obtain ⟨c1, h3⟩ := Kd.R_typed (h.ra j hj) gL e2.symm
    exact typed_ne (base := base) hty h3 (by decide) rfl
/-- While the lists grow. -/
structure Ap2 (base : Nat) (W : World) (gl cl gL cL n : Nat) (A B : List Sl) (X Y : Nat → List Int) : Prop where
  la : A.length = n
  lb : B.length = n
  ls : kS.R 36 W base TT (.slice (some ⟨gl, 0, none⟩) n cl) A
  long : kS.R 36 W base TT (.slice (some ⟨gL, 0, none⟩) n cL) B
  ne : gl ≠ gL
  rl : ∀ j, j < n → (at_ A j).2.1 = (X j).length
  rp : ∀ j, j < n → 0 < (X j).length → ∃ g, (at_ A j).1 = some g
  rx : ∀ j g, j < n → (at_ A j).1 = some g → ∀ (k : Nat) (hk : k < (X j).length), W.cell? ⟨g, k, none⟩ = some (.int .i64 ((X j)[k]))
  ty : ∀ j g, j < n → (at_ A j).1 = some g → ∃ cells, W.heap[g]? = some (.cells cells 3 (0, 0))
  rb : ∀ j, j < n → (Kd.int .i64).R 3 W base TT (encS (at_ B j)) (Y j)
  pre : ∀ j, j < n → ∃ t, Y j = X j ++ t
  dbb : ∀ i j g, i < n → j < n → (at_ B i).1 = some g → (at_ B j).1 = some g → i = j
  dab : ∀ i j g, i < n → j < n → (at_ A i).1 = some g → (at_ B j).1 = some g → i = j
theorem Ap1.to2 (h : Ap1 base W gl cl gL cL n A B X n) : Ap2 base W gl cl gL cL n A B X X := by
  have hb : ∀ j, j < n → at_ B j = at_ A j := fun j hj => by rw [h.bb, if_pos hj]
  refine ⟨h.la, h.lb, h.ls, h.long, h.ne, fun j hj => rows_len (h.ra j hj), fun j hj hp => ?_, fun j g hj hg k hk => ?_, fun j g hj hg => ?_, fun j hj => ?_, fun j hj => ⟨[], by rw [List.append_nil]⟩, fun i j g hi hj => ?_, fun i j g hi hj => ?_⟩
  · obtain ⟨g, c, e, _⟩ := rows_form (h.ra j hj) hp
    exact ⟨g, by rw [e]⟩
  · have hr := h.ra j hj
    obtain ⟨g', c, e, _⟩ := rows_form hr (by omega)
    rw [e] at hg hr
    injection hg with hg
    subst hg
    have hr2 : (Kd.int .i64).R 3 W base TT (.slice (some ⟨g', 0, none⟩) (X j).length c) (X j) := hr
    have := (Kd.R_cell (0 : Int) hr2 (k : Int) (by omega) (by omega)).1
    rw [show ((k : Int)).toNat = k from rfl] at this
    rw [this]
    congr 2
    unfold rdOf
    rw [Int.toNat_natCast, List.getD_eq_getElem?_getD, List.getElem?_eq_getElem hk]
    rfl
  · exact Kd.R_typed (h.ra j hj) g (by rw [own_encS]; exact hg)
  · rw [hb j hj]; exact h.ra j hj
  · rw [hb i hi, hb j hj]; exact h.daa i j g hi hj
  · rw [hb j hj]; exact h.daa i j g hi hj
end
end Go.Proofs.Ytbbinmplkbpcdaa.Ps
