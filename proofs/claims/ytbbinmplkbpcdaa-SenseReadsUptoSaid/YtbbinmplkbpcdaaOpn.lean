import Derived.Test.YtbbinmplkbpcdaaRows
import Derived.Test.YtbbinmplkbpcdaaPs0
import Derived.Lib.SmallJoins
import Derived.ChangeArms
import Derived.WideShapes
/-! What comes in, opened: a reading of a type's value gives the value that the walks take, with the bound on its size. -/
set_option linter.unusedVariables false
set_option linter.unusedSectionVars false
set_option linter.constructorNameAsVariable false
namespace Go.Proofs.Ytbbinmplkbpcdaa.OpPs
open Go.RowKit Go.ChangeShapes Go.WideShapes Go.Proofs.YtbbinmplkbpcdaaW.PrintWords

section
variable {H : Type} {enc : TypeId × Value → H} {P : Program} {w : World}
/-- Every reading of type t is of kind k, is good, and measures no more than its bulk. -/
def Opens (enc : TypeId × Value → H) (P : Program) (w : World) (t : TypeId) {α : Type} (k : Kd α) (G : α → Prop) (m : α → Nat) : Prop :=
  ∀ (fuel : Nat) (cs : List Value) (y : DataW H × List MemPlace), DataW.trod enc P w 0 (fun _ => true) true fuel t cs = some y → ∃ x, k.K w x cs ∧ G x ∧ m x ≤ Rows.uptoBulk y.1
theorem opens_int {t : TypeId} {k : IntKind} (ht : P.underlying t = some (.int k)) : Opens enc P w t (Kd.int k) (fun n => (Lit.int k n).wf = true) (fun _ => 1) := by
  intro fuel cs y h
  obtain ⟨n, rfl, rfl, hw⟩ := DataW.trod_int ht h
  exact ⟨n, rfl, hw, by simp [Rows.uptoBulk]⟩
theorem opens_string {t : TypeId} (ht : P.underlying t = some .string) : Opens enc P w t Kd.string (fun s => s.size ≤ maxLen) (fun s => s.size + 1) := by
  intro fuel cs y h
  obtain ⟨s, rfl, rfl, hw⟩ := DataW.trod_string ht h
  refine ⟨s, rfl, hw, ?_⟩
  have : s.data.toList.length = s.size := by rw [Array.length_toList]; rfl
  simp only [Rows.uptoBulk]
  omega
theorem each_ {α : Type} {R : Nat → α → Prop} : ∀ (n : Nat), (∀ i, i < n → ∃ x, R i x) → ∃ xs : List α, xs.length = n ∧ ∀ i x, xs[i]? = some x → R i x
  | 0, _ => ⟨[], rfl, fun i x h => by simp at h⟩
  | n + 1, h => by
    obtain ⟨xs, hl, hx⟩ := each_ n (fun i hi => h i (by omega))
    obtain ⟨z, hz⟩ := h n (by omega)
    refine ⟨xs ++ [z], by simp [hl], fun i x hi => ?_⟩
    rcases Nat.lt_or_ge i xs.length with h1 | h1
    · rw [List.getElem?_append_left h1] at hi
      exact hx i x hi
    · rw [List.getElem?_append_right h1] at hi
      have h2 : i - xs.length = 0 := by
        rcases Nat.eq_zero_or_pos (i - xs.length) with h2 | h2
        · exact h2
        · rw [List.getElem?_eq_none (by simp only [List.length_singleton]; omega)] at hi
          cases hi
      rw [h2] at hi
      simp at hi
      subst hi
      obtain rfl : i = n := by omega
      exact hz
/-- What all elements measure. -/
def all_ {α : Type} (m : α → Nat) : List α → Nat
  | [] => 0
  | x :: r => m x + all_ m r
theorem all_le {α : Type} {m : α → Nat} : ∀ (xs : List α) (ds : List (DataW H)), xs.length = ds.length → (∀ (i : Nat) (x : α) (d : DataW H), xs[i]? = some x → ds[i]? = some d → m x ≤ Rows.uptoBulk d) → all_ m xs ≤ Rows.uptoBulkAll ds
  | [], _, _, _ => Nat.zero_le _
  | x :: xs, [], h, _ => by simp at h
  | x :: xs, d :: ds, h, hi => by
    have h1 := hi 0 x d rfl rfl
    have h2 := all_le xs ds (by simpa using h) (fun i y e a b => hi (i + 1) y e (by simpa using a) (by simpa using b))
    simp only [all_, Rows.uptoBulkAll]
    omega
theorem cells_get {a : Addr} {n : Nat} {cs : List Value} (h : w.cells? 0 a n = some cs) : cs.length = n ∧ ∀ i u, cs[i]? = some u → w.cell? (a.add i) = some u := by
  obtain ⟨_, hl, hc⟩ := World.cells?_some h
  refine ⟨hl, fun i u hu => ?_⟩
  have hi : i < n := by
    have := (List.getElem?_eq_some_iff.1 hu).1
    omega
  rw [hc i hi, hu]
theorem add_add_ (a : Addr) (i j : Nat) : (a.add i).add j = a.add (i + j) := by
  unfold Addr.add
  by_cases h1 : i = 0 <;> by_cases h2 : j = 0 <;> simp [h1, h2, Nat.add_assoc]
/-- A slice. -/
theorem opens_slice {t e : TypeId} {α : Type} {k : Kd α} {G : α → Prop} {m : α → Nat} (ht : P.underlying t = some (.slice e)) (hc : P.cellsOf e = k.sz) (ho : Opens enc P w e k G m) :
    Opens enc P w t (Kd.slice e k) (fun xs => (∀ x ∈ xs, G x) ∧ xs.length ≤ maxLen) (fun xs => all_ m xs + 1) := by
  intro fuel cs y h
  rcases DataW.trod_slice ht h with ⟨rfl, rfl⟩ | ⟨a, len, cap, elems, rest, n, _, rfl, rfl, hb, hl, hm, hlen, hel, _, _⟩
  · exact ⟨[], ⟨none, 0, rfl, Nat.le_refl _, ⟨rfl, by simp, fun h => absurd h (by simp)⟩⟩, ⟨fun x hx => by simp at hx, Nat.zero_le _⟩, by simp [all_, Rows.uptoBulk]⟩
  · obtain ⟨xs, hxl, hx⟩ := each_ (R := fun i x => ∃ c y, w.cells? 0 (a.add (i * k.sz)) k.sz = some c ∧ elems[i]? = some y ∧ k.K w x c ∧ G x ∧ m x ≤ Rows.uptoBulk y.1) len (fun i hi => by
      have h1 := hel i hi
      rw [hc] at h1
      obtain ⟨y, hy⟩ : ∃ y, elems[i]? = some y := ⟨_, List.getElem?_eq_getElem (by omega)⟩
      rw [hy, Option.bind_eq_some_iff] at h1
      obtain ⟨c, h2, h3⟩ := h1
      obtain ⟨x, h4, h5, h6⟩ := ho n c y h3
      exact ⟨x, c, y, h2, hy, h4, h5, h6⟩)
    subst hxl
    refine ⟨xs, ⟨some a, cap, rfl, hl, ⟨rfl, by simp only [maxLen] at hm; omega, fun _ => ⟨a, rfl, fun j p hp => ?_⟩⟩⟩, ⟨fun x hx' => ?_, by omega⟩, ?_⟩
    · obtain ⟨c, y, h1, _, h3, _⟩ := hx j p hp
      obtain ⟨h4, h5⟩ := cells_get h1
      exact ⟨c, h4, h3, fun i u hu => by rw [← add_add_]; exact h5 i u hu⟩
    · obtain ⟨i, hi⟩ := List.getElem?_of_mem hx'
      obtain ⟨_, _, _, _, _, h5, _⟩ := hx i x hi
      exact h5
    · have := all_le (m := m) xs (elems.map (·.1)) (by simp [hlen]) (fun i x d hi hd => by
        obtain ⟨_, y, _, h2, _, _, h6⟩ := hx i x hi
        rw [List.getElem?_map, h2] at hd
        simp at hd
        rw [← hd]
        exact h6)
      simp only [Rows.uptoBulk]
      omega
/-- A slice that is an argument. -/
theorem arg_slice {r : Reach} {b0 : Nat} {t e : TypeId} {α : Type} {k : Kd α} {G : α → Prop} {m : α → Nat} {v : Value} {d : DataW H} {p : List MemPlace} (ht : P.underlying t = some (.slice e)) (hc : P.cellsOf e = k.sz) (ho : Opens enc P w e k G m)
    (hv : Value.okWide P w r b0 t v) (h : DataW.Trod enc P w 0 (fun _ => true) true t v d p) :
    ∃ (A : Option Addr) (c : Nat) (xs : List α), v = .slice A xs.length c ∧ xs.length ≤ c ∧ Kd.C k w A xs.length xs ∧ (∀ x ∈ xs, G x) ∧ all_ m xs + 1 ≤ Rows.uptoBulk d := by
  obtain ⟨a, len, cap, rfl⟩ := okWide_slice ht hv
  obtain ⟨fuel, hf⟩ := h
  obtain ⟨xs, ⟨A, c, he, hl, hC⟩, ⟨hG, _⟩, hm⟩ := opens_slice ht hc ho fuel _ _ hf
  simp only [Value.cells] at he
  simp at he
  obtain ⟨rfl, rfl, rfl⟩ := he
  exact ⟨_, _, xs, rfl, hl, hC, hG, hm⟩
theorem bulk_two {a b : DataW H} (hk : Rows.uptoSmall H [a, b] = true) : Rows.uptoBulk a + Rows.uptoBulk b ≤ 1048576 := by
  have h : Rows.uptoBulkAll [a, b] ≤ 1048576 := of_decide_eq_true hk
  simpa only [Rows.uptoBulkAll, Nat.add_zero] using h
theorem bulk_one {a : DataW H} (hk : Rows.uptoSmall H [a] = true) : Rows.uptoBulk a ≤ 1048576 := by
  have h : Rows.uptoBulkAll [a] ≤ 1048576 := of_decide_eq_true hk
  simpa only [Rows.uptoBulkAll, Nat.add_zero] using h
theorem bulk_three {a b c : DataW H} (hk : Rows.uptoSmall H [a, b, c] = true) : Rows.uptoBulk a + (Rows.uptoBulk b + Rows.uptoBulk c) ≤ 1048576 := by
  have h : Rows.uptoBulkAll [a, b, c] ≤ 1048576 := of_decide_eq_true hk
  simpa only [Rows.uptoBulkAll, Nat.add_zero] using h
theorem bulk_str (s : ByteArray) : Rows.uptoBulk (DataW.lit (H := H) (.string s.data.toList)) = s.size + 1 := by
  have : s.data.toList.length = s.size := by rw [Array.length_toList]; rfl
  simp only [Rows.uptoBulk]
  omega
end
section
variable {H : Type} {enc : TypeId × Value → H} {w : World}
set_option maxRecDepth 100000 in
/-- Numbers in a slice. -/
theorem opens_ints : Opens enc Try.prog w 36 (Kd.slice 3 (Kd.int .i64)) (fun xs => (∀ x ∈ xs, (Lit.int .i64 x).wf = true) ∧ xs.length ≤ maxLen) (fun xs => all_ (fun _ => 1) xs + 1) :=
  opens_slice Try.underlying36 (by kernel_rfl) (opens_int Try.underlying3)
theorem all_ones (l : List Int) : all_ (fun _ => 1) l = l.length := by
  induction l with
  | nil => rfl
  | cons x l ih => show 1 + all_ _ l = l.length + 1; omega
end
end Go.Proofs.Ytbbinmplkbpcdaa.OpPs
