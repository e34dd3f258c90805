import Derived.Test.YtbbinmplkbpcdaaSnt
/-! Lists that lie apart: a list grows. -/
set_option linter.unusedVariables false
set_option linter.constructorNameAsVariable false
namespace Go.Proofs.Ytbbinmplkbpcdaa.Ps
open Go.RowKit Go.Proofs.Ytbbinmplkbpcdaa.Wd Go.Proofs.YtbbinmplkbpcdaaW.PrintWords Go.Proofs.YtbbinmplkbpcdaaW.PrintLast Go.Proofs.YtbbinmplkbpcdaaW.PrintMore
section
variable {base : Nat} {W w1 : World} {gl cl gL cL n : Nat} {A B : List Sl} {X Y : Nat → List Int}
theorem Ap2.app (h : Ap2 base W gl cl gL cL n A B X Y) {i : Nat} (hi : i < n) {v1 : Value} {y : Int} (hr : (Kd.int .i64).R 3 w1 base TT v1 (Y i ++ [y])) (hg : W.grownBy w1 (encS (at_ B i)).ownBlock)
    (hat : v1.ownBlock = (encS (at_ B i)).ownBlock ∨ ((∃ b, v1.ownBlock = some b ∧ W.heap.size ≤ b) ∧ W.grownBy w1 none)) :
    ∃ p, v1 = encS p ∧ (∃ u, w1.cell? ⟨gL, i, none⟩ = some u) ∧ w1.frozen? ⟨gL, i, none⟩ = false ∧ base ≤ gL ∧
      Ap2 base (w1.setCell ⟨gL, i, none⟩ (encS p)) gl cl gL cL n A (B.set i p) X (fun j => if j = i then Y i ++ [y] else Y j) := by
  obtain ⟨g1, c1, rfl, hb1, hlt1, ce1, hh1⟩ := Kd.R_form hr (by simp)
  have e0 : (encS (at_ B i)).ownBlock = (at_ B i).1 := own_encS _
  rw [e0] at hg hat
  simp only [Value.ownBlock] at hat
  have hrB := h.rb i hi
  have hls : kS.R 36 w1 base TT (.slice (some ⟨gl, 0, none⟩) n cl) A := Kd.R_over h.ls hrB (by intro q hq; simp [kSE] at hq; subst hq; decide) (by rw [e0]; exact hg)
  have hlong : kS.R 36 w1 base TT (.slice (some ⟨gL, 0, none⟩) n cL) B := Kd.R_over h.long hrB (by intro q hq; simp [kSE] at hq; subst hq; decide) (by rw [e0]; exact hg)
  have hgA : ∀ j g, j < n → (at_ A j).1 = some g → g < W.heap.size := fun j g hj hg => by
    obtain ⟨c, hc⟩ := h.ty j g hj hg
    exact blk_lt hc
  have hgB : ∀ j g, j < n → (at_ B j).1 = some g → g < W.heap.size := fun j g hj hg => Kd.R_lt (h.rb j hj) g (by rw [own_encS]; exact hg)
  obtain ⟨tt, hpre⟩ := h.pre i hi
  -- the old blocks
  have hold : ∀ g, g < W.heap.size → ((at_ B i).1 = some g → some g1 ≠ (at_ B i).1) → w1.heap[g]? = W.heap[g]? := by
    intro g hglt hne
    rcases hat with hat | ⟨_, hn⟩
    · exact hg.block g hglt (fun e => hne e.symm hat)
    · exact hn.block g hglt (by simp)
  have hrx : ∀ j g, j < n → (at_ A j).1 = some g → ∀ (k : Nat) (hk : k < (X j).length), w1.cell? ⟨g, k, none⟩ = some (.int .i64 ((X j)[k])) := by
    intro j g hj hgj k hk
    by_cases hc : (at_ B i).1 = some g ∧ some g1 = (at_ B i).1
    · obtain ⟨c2, c3⟩ := hc
      obtain rfl : j = i := h.dab j i g hj hi hgj c2
      rw [c2] at c3
      injection c3 with c3
      subst c3
      have h1 := (Kd.R_cell (0 : Int) hr (k : Int) (by omega) (by rw [hpre, List.length_append, List.length_append]; omega)).1
      rw [show ((k : Int)).toNat = k from rfl] at h1
      rw [h1]
      congr 2
      unfold rdOf
      rw [Int.toNat_natCast, List.getD_eq_getElem?_getD, hpre, List.append_assoc, List.getElem?_append_left hk, List.getElem?_eq_getElem hk]
      rfl
    · rw [World.cell?_of_block (w := W) (hold g (hgA j g hj hgj) (fun e1 e2 => hc ⟨e1, e2⟩))]
      exact h.rx j g hj hgj k hk
  have hty : ∀ j g, j < n → (at_ A j).1 = some g → ∃ cells, w1.heap[g]? = some (.cells cells 3 (0, 0)) := by
    intro j g hj hgj
    by_cases hc : (at_ B i).1 = some g ∧ some g1 = (at_ B i).1
    · obtain ⟨c2, c3⟩ := hc
      rw [c2] at c3
      injection c3 with c3
      subst c3
      exact ⟨_, hh1⟩
    · rw [hold g (hgA j g hj hgj) (fun e1 e2 => hc ⟨e1, e2⟩)]
      exact h.ty j g hj hgj
  have hrb : ∀ j, j < n → j ≠ i → (Kd.int .i64).R 3 w1 base TT (encS (at_ B j)) (Y j) := by
    intro j hj hji
    refine Kd.R_grown2 (h.rb j hj) kIE hg (fun k hk e => hji (h.dbb j i k hj hi ?_ hk))
    rw [← own_encS, ← e]
  obtain ⟨c1', h1'⟩ := Kd.R_typed hlong gL rfl
  obtain ⟨hcell, hfro⟩ := row_cell hlong (i : Int) (by omega) (by omega)
  refine ⟨(some g1, (Y i ++ [y]).length, c1), rfl, ⟨_, hcell⟩, hfro, Kd.R_base hlong gL rfl, ?_⟩
  generalize hp : ((some g1, (Y i ++ [y]).length, c1) : Sl) = p
  have hp1 : p.1 = some g1 := by rw [← hp]
  have hrp : (Kd.int .i64).R 3 w1 base TT (encS p) (Y i ++ [y]) := by rw [← hp]; exact hr
  have hgs := grown_set w1 gL i (encS p)
  have hnot : ∀ (g : Nat) (c : Array Value), w1.heap[g]? = some (Obj.cells c 3 (0, 0)) → gL ≠ g := fun g c hc => typed_ne (base := base) h1' hc (by decide)
  have hfar : ∀ g : Nat, (∃ c, w1.heap[g]? = some (Obj.cells c 3 (0, 0))) → (w1.setCell ⟨gL, i, none⟩ (encS p)).heap[g]? = w1.heap[g]? := by
    rintro g ⟨c, hc⟩
    exact Below.heap_setCell w1 ⟨gL, i, none⟩ (encS p) g (fun e => hnot g c hc e.symm)
  have hRk : ∀ (v : Value) (xs : List Int), (Kd.int .i64).R 3 w1 base TT v xs → (Kd.int .i64).R 3 (w1.setCell ⟨gL, i, none⟩ (encS p)) base TT v xs := by
    intro v xs hv
    refine Kd.R_grown1 hv kIE hgs (fun e => ?_)
    obtain ⟨c, hc⟩ := Kd.R_typed hv gL e.symm
    exact hnot gL c hc rfl
  have hnew : ∀ j g, j < n → j ≠ i → ((at_ B j).1 = some g ∨ (at_ A j).1 = some g) → g ≠ g1 := by
    intro j g hj hji hor e
    subst e
    rcases hat with hat | ⟨⟨b, hb, hbb⟩, _⟩
    · rcases hor with h1 | h1
      · exact hji (h.dbb j i g hj hi h1 hat.symm)
      · exact hji (h.dab j i g hj hi h1 hat.symm)
    · injection hb with hb
      subst hb
      rcases hor with h1 | h1
      · have := hgB j g hj h1; omega
      · have := hgA j g hj h1; omega
  refine ⟨h.la, by rw [List.length_set]; exact h.lb, Kd.R_grown1 hls kSE hgs (fun e => h.ne (by injection e with e; exact e.symm)), Kd.R_putn hlong (i : Int) p, h.ne, h.rl, h.rp, fun j g hj hgj k hk => ?_, fun j g hj hgj => ?_, fun j hj => ?_, fun j hj => ?_, fun a b g ha hb hga hgb => ?_, fun a b g ha hb hga hgb => ?_⟩
  · rw [World.cell?_of_block (w := w1) (hfar g (hty j g hj hgj))]
    exact hrx j g hj hgj k hk
  · rw [hfar g (hty j g hj hgj)]
    exact hty j g hj hgj
  · rw [at_set (by rw [h.lb]; exact hi)]
    by_cases hji : j = i
    · rw [if_pos hji, if_pos hji]; exact hRk _ _ hrp
    · rw [if_neg hji, if_neg hji]; exact hRk _ _ (hrb j hj hji)
  · by_cases hji : j = i
    · rw [if_pos hji]
      exact ⟨tt ++ [y], by rw [hpre, hji, List.append_assoc]⟩
    · rw [if_neg hji]; exact h.pre j hj
  · rw [at_set (by rw [h.lb]; exact hi)] at hga hgb
    by_cases hai : a = i
    · by_cases hbi : b = i
      · rw [hai, hbi]
      · rw [if_pos hai, hp1] at hga
        rw [if_neg hbi] at hgb
        injection hga with hga
        exact absurd hga.symm (hnew b g hb hbi (.inl hgb))
    · rw [if_neg hai] at hga
      by_cases hbi : b = i
      · rw [if_pos hbi, hp1] at hgb
        injection hgb with hgb
        exact absurd hgb.symm (hnew a g ha hai (.inl hga))
      · rw [if_neg hbi] at hgb
        exact h.dbb a b g ha hb hga hgb
  · rw [at_set (by rw [h.lb]; exact hi)] at hgb
    by_cases hbi : b = i
    · rw [if_pos hbi, hp1] at hgb
      injection hgb with hgb
      by_cases hai : a = i
      · rw [hai, hbi]
      · exact absurd hgb.symm (hnew a g ha hai (.inr hga))
    · rw [if_neg hbi] at hgb
      exact h.dab a b g ha hb hga hgb
/-- At the start. -/
theorem Ap1.start (hla : A.length = n) (hls : kS.R 36 W base TT (.slice (some ⟨gl, 0, none⟩) n cl) A) (hra : ∀ j, j < n → (Kd.int .i64).R 3 W base TT (encS (at_ A j)) (X j)) (hdaa : ∀ i j g, i < n → j < n → (at_ A i).1 = some g → (at_ A j).1 = some g → i = j)
    {v1 : Value} (hv : kS.R 36 w1 base TT v1 (List.replicate n (none, 0, 0))) (hg : W.grownBy w1 none) (hn : ∃ b, v1.ownBlock = some b ∧ W.heap.size ≤ b) :
    ∃ gL cL, v1 = .slice (some ⟨gL, 0, none⟩) n cL ∧ Ap1 base w1 gl cl gL cL n A (List.replicate n (none, 0, 0)) X 0 := by
  obtain ⟨b, hb, hbb⟩ := hn
  have hform : ∃ gL cL, v1 = .slice (some ⟨gL, 0, none⟩) n cL ∧ gL = b := by
    obtain ⟨inner, ho⟩ := Kd.R_own hv
    rcases ho.2 with ⟨rfl, _⟩ | ⟨g, c, cur, e, _⟩
    · simp [Value.ownBlock] at hb
    · rw [List.length_replicate] at e
      subst e
      simp only [Value.ownBlock, Option.some.injEq] at hb
      exact ⟨g, c, rfl, hb⟩
  obtain ⟨gL, cL, rfl, rfl⟩ := hform
  have hlt := Kd.R_lt hls gl rfl
  refine ⟨gL, cL, rfl, hla, List.length_replicate, Kd.R_grown2 hls kSE hg (fun k hk => by cases hk), hv, by omega, fun j => ?_, fun j hj => Kd.R_grown2 (hra j hj) kIE hg (fun k hk => by cases hk), hdaa⟩
  rw [if_neg (by omega)]
  unfold at_
  rw [List.getD_eq_getElem?_getD, List.getElem?_replicate]
  split <;> rfl
end
end Go.Proofs.Ytbbinmplkbpcdaa.Ps
