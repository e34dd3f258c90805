import Derived.Test.YtbbinmplkbpcdaaRows
import Derived.WalkKit
import Derived.JoinedOf
/-! The head of the translation, word by word: the facts that hang on its first words, without a look into the long list of names behind them. -/
set_option linter.unusedSectionVars false
set_option linter.unusedVariables false
namespace Go.Proofs.Ytbbinmplkbpcdaa.Hd
def chars (l : List Nat) : List Char := l.map Char.ofNat
def h0 : List Nat := [104, 97, 114, 110, 101, 115, 115]
def h1 : List Nat := [57, 48, 54, 97, 52, 51, 98, 54, 53, 97, 53, 102, 48, 56, 52, 54, 48, 100, 55, 51, 100, 51, 50, 97, 48, 52, 54, 52, 101, 102, 56, 98, 102, 49, 97, 99, 53, 98, 48, 101, 54, 48, 54, 98, 52, 57, 100, 57, 55, 50, 49, 49, 51, 102, 49, 99, 102, 100, 54, 56, 50, 48, 57, 56]
def h2 : List Nat := [99, 117, 116]
def h3 : List Nat := [97, 116, 32, 119, 105, 110, 100, 104, 111, 118, 101, 114, 47, 119, 105, 110, 100, 104, 111, 118, 101, 114, 108, 97, 119, 50, 49, 46, 85, 112, 108, 111, 97, 100, 80, 108, 97, 121, 115, 32, 119, 105, 110, 100, 104, 111, 118, 101, 114, 47, 119, 105, 110, 100, 104, 111, 118, 101, 114, 108, 97, 119, 50, 49, 46, 85, 112, 108, 111, 97, 100, 79, 110, 108, 121, 32, 119, 105, 110, 100, 104, 111, 118, 101, 114, 47, 119, 105, 110, 100, 104, 111, 118, 101, 114, 108, 97, 119, 50, 49, 46, 85, 112, 108, 111, 97, 100, 87, 104, 111, 108, 101, 32, 119, 105, 110, 100, 104, 111, 118, 101, 114, 47, 119, 105, 110, 100, 104, 111, 118, 101, 114, 108, 97, 119, 50, 49, 46, 85, 112, 108, 111, 97, 100, 83, 105, 108, 101, 110, 116, 32, 119, 105, 110, 100, 104, 111, 118, 101, 114, 47, 119, 105, 110, 100, 104, 111, 118, 101, 114, 108, 97, 119, 50, 49, 46, 85, 112, 108, 111, 97, 100, 78, 105, 108, 32, 119, 105, 110, 100, 104, 111, 118, 101, 114, 47, 119, 105, 110, 100, 104, 111, 118, 101, 114, 108, 97, 119, 48, 52, 46, 70, 114, 97, 109, 101, 69, 110, 99, 111, 100, 101, 115, 32, 119, 105, 110, 100, 104, 111, 118, 101, 114, 47, 119, 105, 110, 100, 104, 111, 118, 101, 114, 108, 97, 119, 48, 52, 46, 70, 114, 97, 109, 101, 70, 101, 101, 100, 115, 32, 119, 105, 110, 100, 104, 111, 118, 101, 114, 47, 119, 105, 110, 100, 104, 111, 118, 101, 114, 108, 97, 119, 48, 52, 46, 70, 114, 97, 109, 101, 67, 117, 116, 115, 32, 119, 105, 110, 100, 104, 111, 118, 101, 114, 47, 119, 105, 110, 100, 104, 111, 118, 101, 114, 108, 97, 119, 48, 52, 46, 70, 114, 97, 109, 101, 66, 97, 99, 107, 32, 119, 105, 110, 100, 104, 111, 118, 101, 114, 47, 119, 105, 110, 100, 104, 111, 118, 101, 114, 108, 97, 119, 48, 52, 46, 70, 114, 97, 109, 101, 83, 116, 97, 110, 100, 115, 32, 119, 105, 110, 100, 104, 111, 118, 101, 114, 47, 119, 105, 110, 100, 104, 111, 118, 101, 114, 108, 97, 119, 48, 52, 46, 70, 114, 97, 109, 101, 84, 117, 114, 110, 101, 100, 32, 119, 105, 110, 100, 104, 111, 118, 101, 114, 47, 119, 105, 110, 100, 104, 111, 118, 101, 114, 108, 97, 119, 48, 52, 46, 70, 114, 97, 109, 101, 67, 111, 117, 110, 116, 115, 32, 119, 105, 110, 100, 104, 111, 118, 101, 114, 47, 119, 105, 110, 100, 104, 111, 118, 101, 114, 108, 97, 119, 48, 52, 46, 70, 114, 97, 109, 101, 78, 105, 108, 32, 119, 105, 110, 100, 104, 111, 118, 101, 114, 47, 119, 105, 110, 100, 104, 111, 118, 101, 114, 108, 97, 119, 49, 49, 46, 83, 101, 110, 115, 101, 82, 101, 97, 100, 115, 32, 119, 105, 110, 100, 104, 111, 118, 101, 114, 47, 119, 105, 110, 100, 104, 111, 118, 101, 114, 108, 97, 119, 49, 49, 46, 83, 101, 110, 115, 101, 87, 114, 105, 116, 101, 115, 32, 119, 105, 110, 100, 104, 111, 118, 101, 114, 47, 119, 105, 110, 100, 104, 111, 118, 101, 114, 108, 97, 119, 49, 49, 46, 83, 101, 110, 115, 101, 66, 97, 99, 107, 32, 119, 105, 110, 100, 104, 111, 118, 101, 114, 47, 119, 105, 110, 100, 104, 111, 118, 101, 114, 108, 97, 119, 49, 49, 46, 83, 101, 110, 115, 101, 83, 116, 97, 110, 100, 115, 32, 119, 105, 110, 100, 104, 111, 118, 101, 114, 47, 119, 105, 110, 100, 104, 111, 118, 101, 114, 108, 97, 119, 49, 49, 46, 83, 101, 110, 115, 101, 79, 116, 104, 101, 114, 115, 32, 119, 105, 110, 100, 104, 111, 118, 101, 114, 47, 119, 105, 110, 100, 104, 111, 118, 101, 114, 108, 97, 119, 49, 49, 46, 83, 101, 110, 115, 101, 84, 117, 114, 110, 101, 100, 32, 119, 105, 110, 100, 104, 111, 118, 101, 114, 47, 119, 105, 110, 100, 104, 111, 118, 101, 114, 108, 97, 119, 48, 53, 46, 77, 115, 103, 115, 76, 105, 110, 107]
theorem head_is : Try.prog.initOrder = String.ofList (chars h0 ++ Char.ofNat 32 :: (chars h1 ++ Char.ofNat 32 :: (chars h2 ++ Char.ofNat 32 :: chars h3))) := by kernel_rfl
theorem head_list : Try.prog.initOrder.toList = chars h0 ++ Char.ofNat 32 :: (chars h1 ++ Char.ofNat 32 :: (chars h2 ++ Char.ofNat 32 :: chars h3)) := by rw [head_is, String.toList_ofList]
theorem words_blank (r : List Char) : wordsSigns (Char.ofNat 32 :: r) = [] :: wordsSigns r := rfl
theorem words_cons (c : Char) (h : c ≠ Char.ofNat 32) (r w : List Char) (ws : List (List Char)) (e : wordsSigns r = w :: ws) : wordsSigns (c :: r) = (c :: w) :: ws := by
  rw [wordsSigns, e]
  exact h
theorem words_cut (r : List Char) : ∀ (w : List Char), (∀ c, c ∈ w → c ≠ Char.ofNat 32) → wordsSigns (w ++ Char.ofNat 32 :: r) = w :: wordsSigns r
  | [], _ => words_blank r
  | c :: w, h => words_cons c (h c List.mem_cons_self) _ _ _ (words_cut r w fun d hd => h d (List.mem_cons_of_mem _ hd))
theorem plain (l : List Nat) (h : (chars l).all (fun c => c != Char.ofNat 32) = true) : ∀ c, c ∈ chars l → c ≠ Char.ofNat 32 := fun c hc e => by
  have := List.all_eq_true.1 h c hc
  rw [e] at this
  simp at this
theorem rfl_behind (R : List (List Char)) : behindMainWord (chars h0 :: chars h1 :: chars h2 :: R) = chars h2 :: R := by kernel_rfl
theorem words : wordsSigns Try.prog.initOrder.toList = chars h0 :: chars h1 :: chars h2 :: wordsSigns (chars h3) := by
  rw [head_list, words_cut _ _ (plain h0 (by kernel_rfl)), words_cut _ _ (plain h1 (by kernel_rfl)), words_cut _ _ (plain h2 (by kernel_rfl))]
theorem behind : ∃ R, behindMainWord (wordsSigns Try.prog.initOrder.toList) = chars h2 :: R := by
  rw [words]
  exact ⟨_, rfl_behind _⟩
theorem strip (R : List (List Char)) : stripLifts liftWords (chars h2 :: R) = ([], chars h2 :: R) := by kernel_rfl
theorem isnt_gc : (chars h2 == "gc".toList) = false := by kernel_rfl
theorem isnt_spec : (chars h2 == "spec".toList) = false := by kernel_rfl
theorem isnt_carried : (chars h2 == "carried".toList) = false := by kernel_rfl
theorem is_cut : (chars h2 == "cut".toList) = true := by kernel_rfl
theorem later : Try.prog.laysLater = false := by kernel_rfl
theorem reflects : Try.prog.bearsReflect = false := by kernel_rfl
theorem door : Try.prog.doorFits [] = true := by kernel_rfl
section
variable {P : Program} {c : List Char} {R : List (List Char)} (hR : behindMainWord (wordsSigns P.initOrder.toList) = c :: R) (hs : stripLifts liftWords (c :: R) = ([], c :: R))
  (hg : (c == "gc".toList) = false) (hp : (c == "spec".toList) = false) (hc : (c == "carried".toList) = false) (hk : (c == "cut".toList) = true)
include hR hs hg hp hc hk
theorem enters_of (hl : P.laysLater = false) (hr : P.bearsReflect = false) (hd : P.doorFits [] = true) : P.mayEnter = true := by
  unfold Program.mayEnter
  rw [hR]
  simp only [hs, hg, hp, hc, hl, hr, hd]
  simp only [List.head?_cons, Bool.false_or, Bool.false_and, Bool.not_false, Bool.or_true, Bool.and_true, Bool.or_false]
  have h' : (some c == some "cut".toList) = true := hk
  rw [h']
  rfl
theorem lifts_of : P.liftsFinal = false := by
  have h : (some c == some "carried".toList) = false := hc
  have h' : (some c == some "cut".toList) = true := hk
  have hh : P.headLifts = [] := by
    unfold Program.headLifts
    rw [hR, hs]
    exact if_pos h'
  unfold Program.liftsFinal
  rw [hR, hh]
  simp only [List.head?_cons]
  rw [h]
  rfl
theorem makes_of : P.make = some .cut := by
  unfold Program.make
  rw [hR]
  simp only [hg, hp, hk, Bool.true_or, if_true, Bool.or_false, Bool.false_eq_true, if_false]
end
theorem enters : Try.prog.mayEnter = true := by
  obtain ⟨R, hR⟩ := behind
  exact enters_of hR (strip R) isnt_gc isnt_spec isnt_carried is_cut later reflects door
theorem lifts : Try.prog.liftsFinal = false := by
  obtain ⟨R, hR⟩ := behind
  exact lifts_of hR (strip R) isnt_gc isnt_spec isnt_carried is_cut
theorem makes : Try.prog.make = some .cut := by
  obtain ⟨R, hR⟩ := behind
  exact makes_of hR (strip R) isnt_gc isnt_spec isnt_carried is_cut
theorem enters' : Try.checked.prog.mayEnter = true := enters
theorem lifts' : Try.checked.prog.liftsFinal = false := lifts
theorem makes' : Try.checked.prog.make = some .cut := makes
end Go.Proofs.Ytbbinmplkbpcdaa.Hd
