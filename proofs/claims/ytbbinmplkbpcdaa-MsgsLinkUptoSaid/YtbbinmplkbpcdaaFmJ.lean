import Derived.Test.YtbbinmplkbpcdaaFmI
import Derived.Test.YtbbinmplkbpcdaaPl
import Derived.Test.YtbbinmplkbpcdaaOpm
/-! MsgsLink: what one end says the other end hears. -/
set_option linter.unusedVariables false
set_option linter.unusedSectionVars false
namespace Go.Proofs.Ytbbinmplkbpcdaa.Fm
open Go.RowKit Go.Proofs.Ytbbinmplkbpcdaa.Pm Go.Proofs.Ytbbinmplkbpcdaa.Wd Go.Proofs.YtbbinmplkbpcdaaW.PrintWords Go.Proofs.YtbbinmplkbpcdaaW.PrintLast Go.Proofs.YtbbinmplkbpcdaaW.PrintMore
theorem rd38 (xs : List S38) (i : Nat) (h : i < xs.length) : rd_T38 xs (i : Int) = xs[i] := by
  unfold rd_T38
  rw [Int.toNat_natCast, List.getD_eq_getElem?_getD, List.getElem?_eq_getElem h]
  rfl
theorem rd45 (xs : List S45) (i : Nat) (h : i < xs.length) : rd_T45 xs (i : Int) = xs[i] := by
  unfold rd_T45
  rw [Int.toNat_natCast, List.getD_eq_getElem?_getD, List.getElem?_eq_getElem h]
  rfl

/-! ### a list is the same as itself -/
theorem sameMsg_loop (a0 a1 : Int) (l : List Int) (hl : l.length < 4611686018427387904) (d : Nat) : ∀ i : Nat, i + d = l.length → Ev (fun k => windhoverref05_Same.l0 k (i : Int) a0 l a1 l) true := by
  induction d with
  | zero =>
    intro i hi
    refine Ev.step (fun k => ?_) (Ev.now _)
    rw [windhoverref05_Same.l0, if_neg (by omega)]
  | succ d ih =>
    intro i hi
    refine Ev.step (fun k => ?_) (ih (i + 1) (by omega))
    rw [windhoverref05_Same.l0, if_pos (by omega), if_pos (by omega), if_pos (by omega), if_pos rfl, wr1 (by omega)]
theorem sameMsg_eq (a0 : Int) (l : List Int) (hl : l.length < 4611686018427387904) : Ev (fun k => windhoverref05_Same.f k a0 l a0 l) true := by
  refine Ev.congr (fun k => ?_) (Ev.step (g := fun k => windhoverref05_Same.j0 k ((l.length : Int) != (l.length : Int)) a0 l a0 l) (fun k => ?_) (sameMsg_loop a0 a0 l hl l.length 0 (by omega)))
  · unfold windhoverref05_Same.f
    rw [if_pos rfl]
  · rw [windhoverref05_Same.j0, bne_self_eq_false, if_neg Bool.false_ne_true]
    rfl
theorem sameMsgs_loop (l : List S38) (hl : l.length < 4611686018427387904) (hx : ∀ x ∈ l, x.f1.length < 4611686018427387904) (d : Nat) : ∀ i : Nat, i + d = l.length → Ev (fun k => windhoverref05_SameList.l0 k l l (i : Int)) true := by
  induction d with
  | zero =>
    intro i hi
    refine Ev.step (fun k => ?_) (Ev.now _)
    rw [windhoverref05_SameList.l0, if_neg (by omega)]
  | succ d ih =>
    intro i hi
    have h : i < l.length := by omega
    obtain ⟨K1, h1⟩ := sameMsg_eq (l[i]).f0 (l[i]).f1 (hx _ (List.getElem_mem h))
    obtain ⟨K2, h2⟩ := ih (i + 1) (by omega)
    dsimp only at h1 h2
    refine ⟨K1 + K2 + 1, fun k hk => ?_⟩
    obtain ⟨k, rfl⟩ : ∃ m, k = m + 1 := ⟨k - 1, by omega⟩
    dsimp only
    rw [windhoverref05_SameList.l0, if_pos (by omega), if_pos (by omega), if_pos (by omega), rd38 l i h, h1 k (by omega)]
    simp only [Option.bind_some, if_true]
    rw [wr1 (by omega), h2 k (by omega)]
theorem sameMsgs_eq (l : List S38) (hl : l.length < 4611686018427387904) (hx : ∀ x ∈ l, x.f1.length < 4611686018427387904) : Ev (fun k => windhoverref05_SameList.f k l l) true := by
  refine Ev.congr (fun k => ?_) (sameMsgs_loop l hl hx l.length 0 (by omega))
  unfold windhoverref05_SameList.f
  rw [if_pos rfl]
  rfl

/-! ### a message on the wire -/
theorem tab_kind {k : Int} (h : tab k ≠ []) : 1 ≤ k ∧ k ≤ 11 := by
  rcases Int.lt_or_le k 1 with h1 | h1
  · exfalso
    apply h
    unfold tab
    rw [show k.toNat = 0 by omega]
    rfl
  · refine ⟨h1, ?_⟩
    rcases Int.lt_or_le 11 k with h2 | h2
    · exfalso
      apply h
      unfold tab
      rw [List.getD_eq_getElem?_getD, List.getElem?_eq_none (by show 12 ≤ k.toNat; omega)]
      rfl
    · exact h2
/-- The frame of a message. -/
def frame_ (seq : Int) (m : S38) : S45 := ⟨seq, m.f0, strOfNums (encF (tab m.f0) m.f1)⟩
def Link (p : S45 × S38) : Prop := Good p.2.f0 p.2.f1 ∧ ∃ seq : Int, 0 ≤ seq ∧ seq ≤ 255 ∧ p.1 = frame_ seq p.2
theorem enc_size {m : S38} (h : Good m.f0 m.f1) : (strOfNums (encF (tab m.f0) m.f1)).size ≤ 28 := by
  rw [strOfNums_size, enc_length h.2.length]
  exact (tab_small _).2
theorem frame_fits {seq : Int} {m : S38} (h0 : 0 ≤ seq) (h1 : seq ≤ 255) (h : Good m.f0 m.f1) : Fits (frame_ seq m) := by
  have hk := tab_kind h.1
  have := enc_size h
  exact ⟨h0, h1, by show 0 ≤ m.f0; omega, by show m.f0 ≤ 255; omega, by show (strOfNums (encF (tab m.f0) m.f1)).size ≤ 64; omega⟩
theorem good_len {m : S38} (h : Good m.f0 m.f1) : m.f1.length ≤ 7 := by
  rw [h.2.length]
  exact (tab_small _).1
theorem mn_le (a : Int) (n : Nat) : ∃ c : Nat, c ≤ n ∧ mn (mx a 0) (n : Int) = (c : Int) := by
  refine ⟨(mn (mx a 0) (n : Int)).toNat, ?_, ?_⟩ <;> unfold mn mx <;> split <;> split <;> omega

/-! ### what is heard -/
theorem hear_loop (x6 : List S38) (ps : List (S45 × S38)) (h6 : x6 = ps.map (·.2)) (hps : ∀ p ∈ ps, Link p) (hl : ps.length ≤ 1048576) (s : ByteArray) (d : Nat) : ∀ i : Nat, i + d = ps.length →
    Ev (fun k => windhoverlaw05_MsgsLink.l1 k x6 (ps.map (·.1)) ((ps.take i).map (·.2)) (i : Int) s 0) true := by
  induction d with
  | zero =>
    intro i hi
    obtain rfl : i = ps.length := by omega
    rw [List.take_length, ← h6]
    have hx : ∀ x ∈ x6, x.f1.length < 4611686018427387904 := by
      intro x hx
      rw [h6] at hx
      obtain ⟨p, hp, rfl⟩ := List.mem_map.1 hx
      have := good_len (hps p hp).1
      omega
    obtain ⟨K1, h1⟩ := sameMsgs_eq x6 (by rw [h6, List.length_map]; omega) hx
    dsimp only at h1
    refine ⟨K1 + 1, fun k hk => ?_⟩
    obtain ⟨k, rfl⟩ : ∃ m, k = m + 1 := ⟨k - 1, by omega⟩
    dsimp only
    rw [windhoverlaw05_MsgsLink.l1, if_neg (by rw [List.length_map]; omega)]
    show (some true).bind _ = _
    simp only [Option.bind_some, if_true]
    rw [h1 k (by omega)]
    simp only [Option.bind_some, if_true]
    rfl
  | succ d ih =>
    intro i hi
    have h : i < ps.length := by omega
    obtain ⟨hg, seq, s0, s1, he⟩ := hps _ (List.getElem_mem h)
    have hk := tab_kind hg.1
    obtain ⟨K1, h1⟩ := decode_good seq (ps[i]).2.f0 (ps[i]).2.f1 hk.1 hk.2 hg
    obtain ⟨K2, h2⟩ := ih (i + 1) (by omega)
    dsimp only at h1 h2
    rw [List.take_succ_eq_append_getElem h, List.map_append] at h2
    refine ⟨K1 + K2 + 1, fun k hk => ?_⟩
    obtain ⟨k, rfl⟩ : ∃ m, k = m + 1 := ⟨k - 1, by omega⟩
    have hf : (ps.map (·.1))[i]'(by rw [List.length_map]; exact h) = frame_ seq (ps[i]).2 := by rw [List.getElem_map, he]
    dsimp only
    rw [windhoverlaw05_MsgsLink.l1, if_pos (by rw [List.length_map]; omega), if_pos (by omega), rd45 _ i (by rw [List.length_map]; exact h), hf]
    have e : msgs_Decode.f k (frame_ seq (ps[i]).2).f0 (frame_ seq (ps[i]).2).f1 (frame_ seq (ps[i]).2).f2 = some ((ps[i]).2.f0, (ps[i]).2.f1, 0) := h1 k (by omega)
    rw [e]
    simp only [Option.bind_some, if_true]
    rw [if_pos (by rw [List.length_map, List.length_take]; omega), wr1 (by omega)]
    exact h2 k (by omega)
theorem hear_eq (x0 : List S38) (a1 : Int) (x5 : List Int) (ps : List (S45 × S38)) (x7 : Int) (hS : Scans (lb x5) (ps.map (·.1)) 0 []) (hps : ∀ p ∈ ps, Link p) (hl : ps.length ≤ 1048576) (h5 : x5.length ≤ 2000000) :
    Ev (fun k => windhoverlaw05_MsgsLink.j1 k x0 a1 x5 (ps.map (·.2)) x7 false) true := by
  obtain ⟨c, hc, hmn⟩ := mn_le a1 x5.length
  obtain ⟨fs1, n1, r1, hS1⟩ := Scans.total (lb (x5.take c))
  obtain ⟨fs2, n2, r2, hS2⟩ := Scans.total (r1 ++ lb (x5.drop c))
  have hS3 := hS1.more _ hS2
  rw [← lb_append, List.take_append_drop] at hS3
  obtain ⟨e1, e2, e3⟩ := hS3.det hS
  obtain ⟨rfl, rfl⟩ : n1 = 0 ∧ n2 = 0 := by omega
  subst e3
  have hr1 := hS1.rest.1
  have hll := congrArg List.length e1
  rw [List.length_append, List.length_map] at hll
  obtain ⟨K1, h1⟩ := feed_eq (d := ⟨#[]⟩) (a := strOfNums (x5.take c)) (n0 := 0) (fs := fs1) (n := 0) (r := r1) (by rw [show ls (⟨#[]⟩ : ByteArray) = [] from rfl, List.nil_append]; exact hS1) (by rw [show (⟨#[]⟩ : ByteArray).size = 0 from rfl, strOfNums_size, List.length_take]; omega)
  obtain ⟨K2, h2⟩ := feed_eq (d := str r1) (a := strOfNums (x5.drop c)) (n0 := 0) (fs := fs2) (n := 0) (r := []) (by rw [ls_strl]; exact hS2) (by rw [str_size, strOfNums_size, List.length_drop]; omega)
  obtain ⟨K3, h3⟩ := hear_loop (ps.map (·.2)) ps rfl hps hl (str []) ps.length 0 (by omega)
  rw [← e1] at h3
  dsimp only at h1 h2 h3
  refine ⟨K1 + K2 + K3 + 1, fun k hk => ?_⟩
  obtain ⟨k, rfl⟩ : ∃ m, k = m + 1 := ⟨k - 1, by omega⟩
  dsimp only
  rw [windhoverlaw05_MsgsLink.j1, if_neg Bool.false_ne_true]
  show (some ((⟨#[]⟩ : ByteArray), (0 : Int))).bind _ = _
  simp only [Option.bind_some]
  rw [hmn, if_pos (by omega), if_pos (by omega), Int.toNat_natCast]
  have h1' := h1 k (by omega)
  have h2' := h2 k (by omega)
  have h3' := h3 k (by omega)
  rw [show ((most 0 : Nat) : Int) = 0 from rfl] at h1'
  rw [h1']
  simp only [Option.bind_some]
  rw [show ((most 0 : Nat) : Int) = 0 from rfl] at h2'
  rw [h2']
  simp only [Option.bind_some]
  rw [if_pos (by omega)]
  exact h3'
theorem say_loop (x0 : List S38) (a1 : Int) (hx : ∀ x ∈ x0, 0 ≤ x.f0 ∧ x.f0 ≤ 255 ∧ x.f1.length ≤ 1048576) (hl : x0.length ≤ 1048576) (d : Nat) : ∀ (i : Nat) (x5 : List Int) (ps : List (S45 × S38)), i + d = x0.length → Scans (lb x5) (ps.map (·.1)) 0 [] → (∀ p ∈ ps, Link p) → ps.length ≤ i → x5.length ≤ 1048576 + 70 →
    Ev (fun k => windhoverlaw05_MsgsLink.l0 k x0 a1 x5 (ps.map (·.2)) (i : Int)) true := by
  induction d with
  | zero =>
    intro i x5 ps hi hS hps hpl h5
    refine Ev.step (fun k => ?_) (hear_eq x0 a1 x5 ps (i : Int) hS hps (by omega) (by omega))
    rw [windhoverlaw05_MsgsLink.l0, if_neg (by omega)]
  | succ d ih =>
    intro i x5 ps hi hS hps hpl h5
    by_cases hw : x5.length < 1048576
    · have h : i < x0.length := by omega
      obtain ⟨m0, m1, m2⟩ := hx _ (List.getElem_mem h)
      have hseq : Int.tmod (i : Int) 256 = ((i % 256 : Nat) : Int) := by
        rw [Int.tmod_eq_emod_of_nonneg (by omega)]
        omega
      have hlent : windhoverkeep_Lent.f (x0[i]).f1 = some (x0[i]).f1 := by
        unfold windhoverkeep_Lent.f
        rw [if_pos (by omega)]
      by_cases hg : Good (x0[i]).f0 (x0[i]).f1
      · have hF := frame_fits (seq := ((i % 256 : Nat) : Int)) (by omega) (by omega) hg
        obtain ⟨K1, h1⟩ := msg_good ((i % 256 : Nat) : Int) (x0[i]).f0 (x0[i]).f1 m0 m1 (by omega) (by omega) hg
        obtain ⟨K2, h2⟩ := encode_fits hF
        have hbl := bytes_length (frame_ ((i % 256 : Nat) : Int) x0[i])
        have hfl : (ls (frame_ ((i % 256 : Nat) : Int) x0[i]).f2).length ≤ 28 := by rw [ls_len]; exact enc_size hg
        have hbz : (bytesOf (str (bytes_ (frame_ ((i % 256 : Nat) : Int) x0[i])))).length = (bytes_ (frame_ ((i % 256 : Nat) : Int) x0[i])).length := by rw [bytesOf_length, str_size]
        have hS1 : Scans (lb (x5 ++ bytesOf (str (bytes_ (frame_ ((i % 256 : Nat) : Int) x0[i]))))) ((ps ++ [(frame_ ((i % 256 : Nat) : Int) x0[i], x0[i])]).map (·.1)) 0 [] := by
          have h1 : Scans (bytes_ (frame_ ((i % 256 : Nat) : Int) x0[i]) ++ []) [frame_ ((i % 256 : Nat) : Int) x0[i]] 0 [] := .wrote hF .nil
          rw [List.append_nil] at h1
          have := hS.more (bytes_ (frame_ ((i % 256 : Nat) : Int) x0[i])) (fs' := [frame_ ((i % 256 : Nat) : Int) x0[i]]) (n' := 0) (r' := []) (by rw [List.nil_append]; exact h1)
          rw [lb_append, lb_bytes, ls_strl, List.map_append]
          exact this
        obtain ⟨K3, h3⟩ := ih (i + 1) _ (ps ++ [(frame_ ((i % 256 : Nat) : Int) x0[i], x0[i])]) (by omega) hS1 (by
          intro p hp
          rcases List.mem_append.1 hp with hp | hp
          · exact hps p hp
          · rw [List.mem_singleton.1 hp]
            exact ⟨hg, _, by omega, by omega, rfl⟩) (by rw [List.length_append]; simp only [List.length_cons, List.length_nil]; omega) (by rw [List.length_append, hbz]; omega)
        dsimp only at h1 h2 h3
        rw [List.map_append] at h3
        refine ⟨K1 + K2 + K3 + 2, fun k hk => ?_⟩
        obtain ⟨k, rfl⟩ : ∃ m, k = m + 2 := ⟨k - 2, by omega⟩
        dsimp only
        rw [windhoverlaw05_MsgsLink.l0, if_pos (by omega), decide_eq_true (by omega), windhoverlaw05_MsgsLink.j1, if_pos rfl, if_pos (by omega), if_pos (by omega), rd38 x0 i h, hlent, hseq]
        simp only [Option.bind_some]
        rw [h1 k (by omega)]
        simp only [Option.bind_some, if_true]
        have h2' : frame_Encode.f k ((i % 256 : Nat) : Int) (x0[i]).f0 (strOfNums (encF (tab (x0[i]).f0) (x0[i]).f1)) = some (str (bytes_ (frame_ ((i % 256 : Nat) : Int) x0[i])), 0) := h2 k (by omega)
        rw [h2']
        simp only [Option.bind_some, if_true]
        rw [if_pos (by rw [str_size]; omega), if_pos (by rw [List.length_map]; omega), wr1 (by omega)]
        exact h3 k (by omega)
      · obtain ⟨e, he, K1, h1⟩ := msg_bad ((i % 256 : Nat) : Int) (x0[i]).f0 (x0[i]).f1 m0 m1 hg
        obtain ⟨K3, h3⟩ := ih (i + 1) x5 ps (by omega) hS hps (by omega) h5
        dsimp only at h1 h3
        refine ⟨K1 + K3 + 2, fun k hk => ?_⟩
        obtain ⟨k, rfl⟩ : ∃ m, k = m + 2 := ⟨k - 2, by omega⟩
        dsimp only
        rw [windhoverlaw05_MsgsLink.l0, if_pos (by omega), decide_eq_true (by omega), windhoverlaw05_MsgsLink.j1, if_pos rfl, if_pos (by omega), if_pos (by omega), rd38 x0 i h, hlent, hseq]
        simp only [Option.bind_some]
        rw [h1 k (by omega)]
        simp only [Option.bind_some]
        rw [if_neg he, wr1 (by omega)]
        exact h3 k (by omega)
    · refine Ev.step (fun k => ?_) (hear_eq x0 a1 x5 ps (i : Int) hS hps (by omega) (by omega))
      rw [windhoverlaw05_MsgsLink.l0, if_pos (by omega), decide_eq_false (by omega)]
theorem link_pure (x0 : List S38) (a1 : Int) (hx : ∀ x ∈ x0, 0 ≤ x.f0 ∧ x.f0 ≤ 255 ∧ x.f1.length ≤ 1048576) (hl : x0.length ≤ 1048576) : ∃ k, windhoverlaw05_MsgsLink.f k x0 a1 = some true :=
  Ev.rounds (say_loop x0 a1 hx hl x0.length 0 [] [] (by omega) .nil (by intro p hp; cases hp) (Nat.le_refl _) (by show 0 ≤ _; omega))
theorem all_len {α : Type} (m : α → Nat) (c : Nat) (hm : ∀ x, c ≤ m x) (l : List α) : c * l.length ≤ OpPm.all_ m l := by
  induction l with
  | nil => exact Nat.zero_le _
  | cons x l ih =>
    have := hm x
    rw [List.length_cons, Nat.mul_add, Nat.mul_one]
    show _ ≤ m x + OpPm.all_ m l
    omega
theorem all_mem {α : Type} (m : α → Nat) (l : List α) : ∀ x ∈ l, m x ≤ OpPm.all_ m l := by
  induction l with
  | nil => intro x hx; cases hx
  | cons y l ih =>
    intro x hx
    show _ ≤ m y + OpPm.all_ m l
    rcases List.mem_cons.1 hx with rfl | hx
    · omega
    · have := ih x hx
      omega
theorem u8_range {n : Int} (h : (Lit.int .u8 n).wf = true) : 0 ≤ n ∧ n ≤ 255 := by
  have h0 : IntKind.u8.min = 0 := by kernel_rfl
  have h1 : IntKind.u8.max = 255 := by kernel_rfl
  simp [Lit.wf] at h
  omega
/-- The walk of MsgsLink. -/
theorem link_walk (A : Option Addr) (c : Nat) (l : List S38) (a1 : Int) (w : World) {b : Nat} (hr : Kd.C k38 w A l.length l) (hc : l.length ≤ c) (g : ∀ x ∈ l, (Lit.int .u8 x.f0).wf = true ∧ ∀ n ∈ x.f1, (Lit.int .i64 n).wf = true) (m : OpPm.all_ (fun x : S38 => x.f1.length + 3) l + 1 ≤ b) (w1 : (Lit.int .i64 a1).wf = true) (hb : b + 1 ≤ 1048576) :
    Calls Try.prog 22 #[.slice A l.length c, .int .i64 a1] w fun e w' => e = .returned (.bool true) ∧ Below w.heap.size w w' := by
  have h1 := all_len (fun x : S38 => x.f1.length + 3) 1 (fun x => by omega) l
  obtain ⟨k, hk⟩ := link_pure l a1 (fun x hx => by
    have h2 := u8_range (g x hx).1
    have h3 := all_mem (fun x : S38 => x.f1.length + 3) l x hx
    exact ⟨h2.1, h2.2, by omega⟩) (by omega)
  exact windhoverlaw05_MsgsLink.calls k A c l a1 true w hr hc hk
end Go.Proofs.Ytbbinmplkbpcdaa.Fm
