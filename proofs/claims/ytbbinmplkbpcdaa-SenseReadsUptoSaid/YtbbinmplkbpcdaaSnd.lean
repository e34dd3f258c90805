import Derived.Test.YtbbinmplkbpcdaaSnc
set_option linter.unusedVariables false
set_option linter.constructorNameAsVariable false
namespace Go.Proofs.Ytbbinmplkbpcdaa.Ps
open Go.RowKit Go.Proofs.Ytbbinmplkbpcdaa.Wd Go.Proofs.YtbbinmplkbpcdaaW.PrintWords Go.Proofs.YtbbinmplkbpcdaaW.PrintLast Go.Proofs.YtbbinmplkbpcdaaW.PrintMore
/-- No frame. -/
def Out0 (w0 : World) (e : Ending) (w' : World) : Prop := e = .returned (.tuple #[.slice none 0 0, .int .i64 0, .bool false]) ∧ Below w0.heap.size w0 w'
/-- The variables of the three named results. -/
structure Vars (w0 W : World) (a b c : Nat) (v : Value) (x : Int) (t : Bool) : Prop where
  ha : W.heap[a]? = some (.cells #[v] 36 (0, 0))
  hb : W.heap[b]? = some (.cells #[.int .i64 x] 3 (0, 0))
  hc : W.heap[c]? = some (.cells #[.bool t] 4 (0, 0))
  la : w0.heap.size ≤ a
  lb : w0.heap.size ≤ b
  lc : w0.heap.size ≤ c
  bel : Below w0.heap.size w0 W
section
variable {w0 W : World} {a b c : Nat} {v : Value} {x : Int} {t : Bool} {tmps : Array Value}
set_option maxRecDepth 100000 in
theorem results_at (h4 : tmps.getD 4 undef = .pointer (some ⟨a, 0, none⟩)) (h5 : tmps.getD 5 undef = .pointer (some ⟨b, 0, none⟩)) (h6 : tmps.getD 6 undef = .pointer (some ⟨c, 0, none⟩)) (h : Vars w0 W a b c v x t) :
    (results Try.f90 tmps).run Try.prog W = .ok (.tuple #[v, .int .i64 x, .bool t]) W := by
  have ha0 : W.cell? ⟨a, 0, none⟩ = some v := (blk_cell h.ha 0).trans rfl
  have hb0 : W.cell? ⟨b, 0, none⟩ = some (.int .i64 x) := (blk_cell h.hb 0).trans rfl
  have hc0 : W.cell? ⟨c, 0, none⟩ = some (.bool t) := (blk_cell h.hc 0).trans rfl
  clear h
  simp only [Array.getD_eq_getD_getElem?] at h4 h5 h6
  simp [results, Try.results90, go_sem, h4, h5, h6, ha0, hb0, hc0]
theorem Vars.keep {W' : World} {g : Nat} {cs : Array Value} (h : Vars w0 W a b c v x t) (hk : Kp W W' g) (hg : W.heap[g]? = some (.cells cs 142 (0, 0))) (hl : w0.heap.size ≤ g) : Vars w0 W' a b c v x t :=
  ⟨hk.1.blk h.ha (blk_ne h.ha hg (by decide)) (by simp), hk.1.blk h.hb (blk_ne h.hb hg (by decide)) (by simp), hk.1.blk h.hc (blk_ne h.hc hg (by decide)) (by simp), h.la, h.lb, h.lc, hk.2 _ h.bel hl⟩
theorem Vars.below {W' : World} (h : Vars w0 W a b c v x t) (hb : Below W.heap.size W W') : Vars w0 W' a b c v x t :=
  ⟨blk_below h.ha hb, blk_below h.hb hb, blk_below h.hc hb, h.la, h.lb, h.lc, below_step h.bel hb⟩
theorem Vars.drewN (h : Vars w0 W a b c v x t) (n : Nat) : Vars w0 (W.drewN n) a b c v x t := h.below (pw_below_drewN (Below.refl _ _) n)
theorem Vars.cleared (h : Vars w0 W a b c v x t) : Vars w0 (((W.setCell ⟨a, 0, none⟩ (.slice none 0 0)).setCell ⟨b, 0, none⟩ (.int .i64 0)).setCell ⟨c, 0, none⟩ (.bool false)) a b c (.slice none 0 0) 0 false where
  ha := blk_far (blk_far (blk_put (cs := #[v]) h.ha 0 (.slice none 0 0) rfl) (p := ⟨b, 0, none⟩) (blk_ne h.ha h.hb (by decide)) _) (p := ⟨c, 0, none⟩) (blk_ne h.ha h.hc (by decide)) _
  hb := blk_far (blk_put (cs := #[.int .i64 x]) (blk_far h.hb (p := ⟨a, 0, none⟩) (blk_ne h.ha h.hb (by decide)).symm _) 0 (.int .i64 0) rfl) (p := ⟨c, 0, none⟩) (blk_ne h.hb h.hc (by decide)) _
  hc := blk_put (cs := #[.bool t]) (blk_far (blk_far h.hc (p := ⟨a, 0, none⟩) (blk_ne h.ha h.hc (by decide)).symm _) (p := ⟨b, 0, none⟩) (blk_ne h.hb h.hc (by decide)).symm _) 0 (.bool false) rfl
  la := h.la
  lb := h.lb
  lc := h.lc
  bel := below_set (below_set (below_set h.bel h.la) h.lb) h.lc
/-- The door, behind a panic: it is recovered. -/
theorem leaves_panic {R : Ending → World → Prop} (hR : ∀ W', Below w0.heap.size w0 W' → R (.returned (.tuple #[.slice none 0 0, .int .i64 0, .bool false])) W') (h4 : tmps.getD 4 undef = .pointer (some ⟨a, 0, none⟩)) (h5 : tmps.getD 5 undef = .pointer (some ⟨b, 0, none⟩)) (h6 : tmps.getD 6 undef = .pointer (some ⟨c, 0, none⟩)) (h : Vars w0 W a b c v x t) :
    Leaves Try.prog Try.f90 tmps R [{ target := .fn (.func 108) #[.pointer (some ⟨a, 0, none⟩), .pointer (some ⟨b, 0, none⟩), .pointer (some ⟨c, 0, none⟩)], args := #[] }] (.panicking early_) W := by
  refine leaves_cons (f := 108) (args := #[.pointer (some ⟨a, 0, none⟩), .pointer (some ⟨b, 0, none⟩), .pointer (some ⟨c, 0, none⟩)]) (by simp) (by simp [go_sem]) ?_
  refine (catch_panicking a b c v x t 151 (.agg #[]) [] W h.ha h.hb h.hc).mono ?_
  rintro e u' w'' ⟨rfl, rfl, rfl⟩
  have hr := results_at h4 h5 h6 h.cleared
  have hb := h.cleared.bel
  simp only [settle, List.dropWhile_nil]
  exact ⟨_, hr, hR _ hb⟩
/-- The door, behind a return. -/
theorem leaves_return {R : Ending → World → Prop} (h4 : tmps.getD 4 undef = .pointer (some ⟨a, 0, none⟩)) (h5 : tmps.getD 5 undef = .pointer (some ⟨b, 0, none⟩)) (h6 : tmps.getD 6 undef = .pointer (some ⟨c, 0, none⟩)) (h : Vars w0 W a b c v x t) (hR : R (.returned (.tuple #[v, .int .i64 x, .bool t])) W) :
    Leaves Try.prog Try.f90 tmps R [{ target := .fn (.func 108) #[.pointer (some ⟨a, 0, none⟩), .pointer (some ⟨b, 0, none⟩), .pointer (some ⟨c, 0, none⟩)], args := #[] }] .returning W := by
  refine leaves_cons (f := 108) (args := #[.pointer (some ⟨a, 0, none⟩), .pointer (some ⟨b, 0, none⟩), .pointer (some ⟨c, 0, none⟩)]) (by simp) (by simp [go_sem]) ?_
  refine (catch_idle a b c W).mono ?_
  rintro e u' w'' ⟨rfl, rfl, rfl⟩
  exact ⟨_, results_at h4 h5 h6 h, hR⟩
end
theorem Src.below {W W' : World} {g : Nat} {d : ByteArray} {i : Int} (h : Src W g d i) (hb : Below W.heap.size W W') : Src W' g d i := blk_below h hb
/-- What a frame says, behind its first byte. -/
def GoodF (s : Int) (ws : List Int) (d : ByteArray) : Prop :=
  3 + sumW ws ≤ d.size ∧ bt d 0 = s ∧ bt d ((1 + sumW ws : Nat) : Int) = ((Fs.sum (Fs.ls (d.extract 0 (1 + sumW ws))) % 256 : Nat) : Int) ∧ bt d ((2 + sumW ws : Nat) : Int) = ((Fs.sum (Fs.ls (d.extract 0 (1 + sumW ws))) / 256 : Nat) : Int)
def FrameOut (w0 : World) (s : Int) (ws : List Int) (d : ByteArray) (e : Ending) (w' : World) : Prop :=
  (GoodF s ws d ∧ ∃ v, e = .returned (.tuple #[v, .int .i64 ((3 + sumW ws : Nat) : Int), .bool true]) ∧ Kd.R (Kd.int .i64) 3 w' w0.heap.size (fun _ => True) v (decF ws ((bytesOf d).drop 1)) ∧ Below w0.heap.size w0 w') ∨
  (¬ GoodF s ws d ∧ Out0 w0 e w')
theorem len_sum : ∀ (ws : List Int), (∀ x ∈ ws, SWidth x) → ws.length ≤ sumW ws
  | [], _ => Nat.le_refl _
  | w :: ws, h => by
    have h1 := len_sum ws (fun x hx => h x (List.mem_cons_of_mem _ hx))
    have h2 : 1 ≤ lenOf w := by
      rcases h w List.mem_cons_self with rfl | rfl | rfl | rfl <;> decide
    show ws.length + 1 ≤ lenOf w + sumW ws
    omega
/-- A call in a region that draws, whose callee panics. -/
theorem falls_ {P : Program} {ops : Array Oper} {Q : Exit → Act → World → Prop} {oi : Oper} {N : Option Tmp} {a : Act} {w : World} {K : Act → World → Prop} {f : FuncId} {fn : Func} {xs : Array Operand} {ts : Array TypeId} (hf : P.funcs[f]? = some fn) (hname : (fn.name == "runtime.NumGoroutine") = false) (hb : fn.body.isSome = true) (args : Array Value)
    (hw : Region.wanted oi (yielded ops a.tmps) = true) (hop : oi.op = .call { callee := .value (.func f), args := xs, argTypes := ts }) (hargs : xs.map a.eval = args)
    (h : Calls P f args w fun e w' => ∃ chain, e = .panicked chain ∧ Q (.panic chain) a w') : if Region.wanted oi (yielded ops a.tmps) = true then Oper.wp P oi a w K Q else K (a.put N undef) w := by
  rw [if_pos hw]
  have he := enters_ hf hname hb args w
  have hrun : (execOp a.eval oi).run P w = .ok (.enter f args) w := by
    unfold execOp
    simp [hop, resolve, Deferred.ofValue, invoke, Act.eval, hargs, he]
  unfold Oper.wp
  rw [hrun, Oper.upon_enter]
  refine h.mono fun e w'' hh => ?_
  obtain ⟨v, rfl, hk⟩ := hh
  exact hk
set_option maxRecDepth 100000 in
theorem results_put {tmps : Array Value} {n : Nat} (v : Value) (h4 : n ≠ 4) (h5 : n ≠ 5) (h6 : n ≠ 6) : results Try.f90 (tmps.setIfInBounds n v) = results Try.f90 tmps := by
  have e4 : (tmps.setIfInBounds n v)[4]? = tmps[4]? := by rw [Array.getElem?_setIfInBounds, if_neg h4]
  have e5 : (tmps.setIfInBounds n v)[5]? = tmps[5]? := by rw [Array.getElem?_setIfInBounds, if_neg h5]
  have e6 : (tmps.setIfInBounds n v)[6]? = tmps[6]? := by rw [Array.getElem?_setIfInBounds, if_neg h6]
  simp [results, Try.results90, e4, e5, e6]
theorem leaves_tmps {R : Ending → World → Prop} {t t' : Array Value} (h : results Try.f90 t = results Try.f90 t') : ∀ (ds : List Deferred) (u : FrameMode) (w : World), Leaves Try.prog Try.f90 t R ds u w → Leaves Try.prog Try.f90 t' R ds u w
  | [], .returning, w, ⟨v, hr, hR⟩ => ⟨v, h ▸ hr, hR⟩
  | [], .panicking chain, w, hR => hR
  | [], .run, w, hf => hf.elim
  | d :: ds, u, w, ⟨h1, fv, cap, f, args, h2, h3, h4⟩ => ⟨h1, fv, cap, f, args, h2, h3, h4.mono fun e u' w' hr => by
      cases e with
      | returned v => exact leaves_tmps h ds (settle u') w' hr
      | panicked chain => exact leaves_tmps h ds (raised u' chain) w' hr
      | outgrown => exact hr⟩
theorem post_put {R : Ending → World → Prop} {c : List PanicEntry} {a : Act} {w : World} {n : Nat} {v : Value} (h4 : n ≠ 4) (h5 : n ≠ 5) (h6 : n ≠ 6) (h : bodyPostD Try.prog Try.f90 R (.panic c) (a.put (some n) v) w) : bodyPostD Try.prog Try.f90 R (.panic c) a w :=
  leaves_tmps (results_put v h4 h5 h6) a.defers (.panicking c) w h
/-- Where the three variables and the source are made. -/
theorem made_vars (w : World) (d : ByteArray) : Vars w ((((w.alloc (.cells #[.slice none 0 0] 36)).alloc (.cells #[.int .i64 0] 3)).alloc (.cells #[.bool false] 4)).alloc (.cells #[.string d, .int .i64 0] 142)) w.heap.size (w.heap.size + 1) (w.heap.size + 1 + 1) (.slice none 0 0) 0 false := by
  refine ⟨?_, ?_, ?_, by omega, by omega, by omega, by repeat (first | exact Below.refl _ _ | apply below_alloc)⟩
  · exact blk_alloc (blk_alloc (blk_alloc (blk_new w _) _) _) _
  · have := blk_alloc (blk_alloc (blk_new (w.alloc (.cells #[.slice none 0 0] 36)) (.cells #[.int .i64 0] 3)) (.cells #[.bool false] 4)) (.cells #[.string d, .int .i64 0] 142)
    simpa using this
  · have := blk_alloc (blk_new ((w.alloc (.cells #[.slice none 0 0] 36)).alloc (.cells #[.int .i64 0] 3)) (.cells #[.bool false] 4)) (.cells #[.string d, .int .i64 0] 142)
    simpa using this
theorem made_src (w : World) (d : ByteArray) : Src ((((w.alloc (.cells #[.slice none 0 0] 36)).alloc (.cells #[.int .i64 0] 3)).alloc (.cells #[.bool false] 4)).alloc (.cells #[.string d, .int .i64 0] 142)) (w.heap.size + 1 + 1 + 1) d 0 := by
  have := blk_new (((w.alloc (.cells #[.slice none 0 0] 36)).alloc (.cells #[.int .i64 0] 3)).alloc (.cells #[.bool false] 4)) (.cells #[.string d, .int .i64 0] 142)
  unfold Src
  simpa using this
set_option maxRecDepth 100000 in
set_option maxHeartbeats 8000000 in
theorem frame_walk (s : Int) (ws : List Int) (hws : sense_widths.f s = some ws) (hW : ∀ x ∈ ws, SWidth x) (hL : ws.length ≤ 100) (d : ByteArray) (hd : d.size ≤ 1099511627776) (w : World) :
    Calls Try.prog 90 #[.int .u8 s, .string d] w (FrameOut w s ws d) := by
  have hmf : ∀ (fn : Fn) (first cap : Array Value) (w : World), (Instr.makeFunc fn first cap).run Try.prog w = .ok (.func fn first cap) w := fun _ _ _ _ => rfl
  have HD := Aside0.mk hd
  have HW := Aside0.mk hW
  have HL := Aside0.mk hL
  have HWS := Aside0.mk hws
  clear hd hW hws hL
  go_enter_defers Try.func90, Try.ntmps90
  go_wp2_with fail
  have HV := made_vars w d
  have HS := made_src w d
  have hgl : w.heap.size ≤ w.heap.size + 1 + 1 + 1 := by omega
  generalize (((w.alloc (.cells #[.slice none 0 0] 36)).alloc (.cells #[.int .i64 0] 3)).alloc (.cells #[.bool false] 4)).alloc (.cells #[.string d, .int .i64 0] 142) = w1 at HV HS ⊢
  have HG := Aside0.mk hgl
  clear hgl
  generalize w.heap.size + 1 + 1 + 1 = g at HS HG ⊢
  generalize w.heap.size + 1 + 1 = c at HV ⊢
  generalize w.heap.size + 1 = b at HV ⊢
  obtain ⟨a, ha⟩ : ∃ a, w.heap.size = a := ⟨_, rfl⟩
  rw [ha] at HV ⊢
  clear ha
  by_cases h0 : d.size = 0
  · refine (next_early g d 0 _ HS (decide_eq_true (by omega))).mono ?_
    rintro e w2 ⟨rfl, nd, rfl⟩
    have HV2 := Aside0.mk (HV.drewN nd)
    have HN : Aside0 (¬ GoodF s ws d) := ⟨fun h => by have := h.1; omega⟩
    clear HV HS h0
    go_wp2_with fail
    exact leaves_panic (fun W' hb => .inr ⟨HN.out, rfl, hb⟩) rfl rfl rfl HV2.out
  · refine (next_ok g d 0 _ HS (by omega) (by have := HD.out; omega)).mono ?_
    rintro e w2 ⟨rfl, hs2, hk2⟩
    have HV2 := Aside0.mk (HV.keep hk2 HS HG.out)
    have HS2 := Aside0.mk hs2
    have H0 := Aside0.mk h0
    clear HV HS h0 hs2 hk2
    by_cases hs : bt d 0 = s
    · have c1 : (bt d 0 != s) = false := bne_eq_false_iff_eq.mpr hs
      have HB0 := Aside0.mk hs
      clear hs
      go_wp2_with fail
      refine (sense_widths.calls s ws _ HWS.out).mono ?_
      rintro e w3 ⟨vw, rfl, hr3, hb3⟩
      obtain ⟨Aw, cw, rfl, hcw, -⟩ := Kd.R_reads hr3
      have hC3 := Kd.R_apart_nil (Kd.R_lower (Kd.R_mono (ok' := fun k => k ≠ b) (Kd.R_bound hr3) (fun k hk => by have h1 := blk_lt HV2.out.hb; have h2 := hk.2.1; omega)) HV2.out.bel.size)
      have HV3 := Aside0.mk (HV2.out.below hb3)
      have HS3 := Aside0.mk (HS2.out.below hb3)
      have HC3 := Aside0.mk hC3
      clear HV2 HS2 hr3 hb3 hC3
      go_wp2_with fail
      go_loopg [22] ws.length (fun kq v22 w' => ∃ (x : Int), v22 = .int .i64 x ∧ Aside0 (∃ (i : Nat) (vf : Value), x = (i : Int) ∧ kq + i = ws.length ∧ Vars w w' a b c vf 0 false ∧ Src w' g d ((1 + sumW (ws.take i) : Nat) : Int) ∧ Kd.R (Kd.int .i64) 3 w' w.heap.size (fun k => k ≠ b) vf (decF (ws.take i) ((bytesOf d).drop 1)) ∧ Kd.R (Kd.int .i64) 3 w' w.heap.size (fun k => k ≠ b ∧ some k ≠ vf.ownBlock) (.slice Aw ws.length cw) ws ∧ 1 + sumW (ws.take i) ≤ d.size))
      case atStart => exact ⟨0, rfl, ⟨0, _, rfl, rfl, HV3.out, HS3.out, Kd.R_nil _ _ _ _ _, HC3.out, by have := H0.out; show 1 ≤ d.size; omega⟩⟩
      case round =>
        clear HV3 HS3 HC3
        obtain ⟨x, rfl, HR⟩ := hrel
        obtain ⟨i, vf, hx, hk, hV, hS, hRow, hC, hle⟩ := HR.out
        clear HR
        have HV := Aside0.mk hV
        have HS := Aside0.mk hS
        have HRow := Aside0.mk hRow
        have HC := Aside0.mk hC
        have HLE := Aside0.mk hle
        have HX := Aside0.mk hx
        have HKK := Aside0.mk hk
        clear hV hS hRow hC hle hx hk
        cases gk with
        | zero =>
          have c2 : decide (x < (ws.length : Int)) = false := decide_eq_false (by have := HX.out; have := HKK.out; omega)
          obtain rfl : i = ws.length := by have := HKK.out; omega
          have htk : ws.take ws.length = ws := List.take_length
          rw [htk] at HS HRow HLE
          clear HC HKK
          have g0 : wr.cell? ⟨g, 0, none⟩ = some (.string d) := (blk_cell HS.out 0).trans rfl
          have g1 : wr.cell? ⟨g, 1, none⟩ = some (.int .i64 ((1 + sumW ws : Nat) : Int)) := (blk_cell HS.out 1).trans rfl
          obtain ⟨m, hm⟩ : ∃ m : Nat, 1 + sumW ws = m := ⟨_, rfl⟩
          rw [hm] at g1
          have HM := Aside0.mk hm
          clear hm
          have b1 : (0 ≤ (m : Int)) = True := eq_true (Int.natCast_nonneg m)
          have b2 : ((m : Int) ≤ (d.size : Int)) = True := eq_true (by have := HLE.out; have := HM.out; omega)
          go_wp2_with fail
          obtain ⟨sm, hsm⟩ : ∃ sm : Nat, Fs.sum (Fs.ls (d.extract 0 m)) = sm := ⟨_, rfl⟩
          obtain ⟨K, hK⟩ := Fs.crcSum_eq (d.extract 0 m) (by rw [ByteArray.size_extract]; have := HD.out; omega)
          have hK := hK K (Nat.le_refl _)
          have hsl := Fs.sum_lt (Fs.ls (d.extract 0 m))
          rw [hsm] at hK hsl
          have HSM := Aside0.mk hsm
          have HSL := Aside0.mk hsl
          have HGD : Aside0 (GoodF s ws d ↔ m + 2 ≤ d.size ∧ bt d (m : Int) = ((sm % 256 : Nat) : Int) ∧ bt d ((m + 1 : Nat) : Int) = ((sm / 256 : Nat) : Int)) := ⟨by
            have e1 := HM.out
            unfold GoodF
            rw [e1, hsm, show 2 + sumW ws = m + 1 by omega]
            constructor
            · rintro ⟨h1, _, h3, h4⟩
              exact ⟨by omega, h3, h4⟩
            · rintro ⟨h1, h3, h4⟩
              exact ⟨by omega, HB0.out, h3, h4⟩⟩
          clear hsm hsl
          refine (crc_Sum.calls K _ _ _ hK).mono ?_
          rintro e w4 ⟨rfl, hb4⟩
          have HV4 := Aside0.mk (HV.out.below hb4)
          have HS4 : Aside0 (Src w4 g d (m : Int)) := ⟨by rw [← HM.out]; exact HS.out.below hb4⟩
          have HRow4 := Aside0.mk (Kd.R_below HRow.out hb4)
          clear HV HS HRow hb4 hK g0 g1 b1 b2
          go_wp2_with fail
          by_cases hn1 : d.size ≤ m
          · have HN : Aside0 (¬ GoodF s ws d) := ⟨fun h => by have := (HGD.out.1 h).1; omega⟩
            refine (next_early g d m _ HS4.out (decide_eq_true (by omega))).mono ?_
            rintro e w5 ⟨rfl, nd, rfl⟩
            have HV5 := Aside0.mk (HV4.out.drewN nd)
            clear hn1
            go_wp2_with fail
            exact leaves_panic (fun W' hb => .inr ⟨HN.out, rfl, hb⟩) rfl rfl rfl HV5.out
          · refine (next_ok g d m _ HS4.out (by omega) (by have := HD.out; omega)).mono ?_
            rintro e w5 ⟨rfl, hs5, hk5⟩
            have HV5 := Aside0.mk (HV4.out.keep hk5 HS4.out HG.out)
            have HRow5 := Aside0.mk (Kd.R_mono (Kd.R_keep (Kd.R_types HRow4.out HS4.out (by decide)) hk5.1 (fun _ h => h.2)) (fun _ h => h.1))
            have HS5 := Aside0.mk hs5
            have HN1 := Aside0.mk hn1
            clear HV4 HS4 HRow4 hs5 hk5 hn1
            by_cases hq : bt d (m : Int) = (sm : Int) % 256
            · have c3 : (bt d (m : Int) != (sm : Int) % 256) = false := bne_eq_false_iff_eq.mpr hq
              have HQ := Aside0.mk hq
              clear hq
              go_wp2_with fail
              by_cases hn2 : d.size ≤ m + 1
              · have HN : Aside0 (¬ GoodF s ws d) := ⟨fun h => by have := (HGD.out.1 h).1; omega⟩
                refine (next_early g d ((m + 1 : Nat) : Int) _ HS5.out (decide_eq_true (by omega))).mono ?_
                rintro e w6 ⟨rfl, nd, rfl⟩
                have HV6 := Aside0.mk (HV5.out.drewN nd)
                clear hn2
                go_wp2_with fail
                exact leaves_panic (fun W' hb => .inr ⟨HN.out, rfl, hb⟩) rfl rfl rfl HV6.out
              · refine (next_ok g d (m + 1) _ HS5.out (by omega) (by have := HD.out; omega)).mono ?_
                rintro e w6 ⟨rfl, hs6, hk6⟩
                have HV6 := Aside0.mk (HV5.out.keep hk6 HS5.out HG.out)
                have HRow6 := Aside0.mk (Kd.R_mono (Kd.R_keep (Kd.R_types HRow5.out HS5.out (by decide)) hk6.1 (fun _ h => h.2)) (fun _ h => h.1))
                have HS6 := Aside0.mk hs6
                have HN2 := Aside0.mk hn2
                clear HV5 HS5 HRow5 hs6 hk6 hn2
                obtain ⟨y, hy⟩ : ∃ y : Int, bt d ((m + 1 : Nat) : Int) = y := ⟨_, rfl⟩
                have HY := Aside0.mk hy
                rw [hy]
                clear hy
                by_cases hq2 : y = (sm : Int) / 256 % 256
                · have c4 : (y != (sm : Int) / 256 % 256) = false := bne_eq_false_iff_eq.mpr hq2
                  have HQ2 := Aside0.mk hq2
                  have HGG : Aside0 (GoodF s ws d) := ⟨HGD.out.2 ⟨by have := HN2.out; omega, by rw [HQ.out]; omega, by rw [HY.out, hq2]; have := HSL.out; omega⟩⟩
                  clear hq2
                  go_wp2_with fail
                  refine wp_region_noPanic ?_
                  have g1 : w6.drew.cell? ⟨g, 1, none⟩ = some (.int .i64 ((m + 1 + 1 : Nat) : Int)) := (blk_cell HS6.out 1).trans rfl
                  have hA : w6.drew.cell? ⟨a, 0, none⟩ = some vf := (blk_cell HV6.out.ha 0).trans rfl
                  obtain ⟨z, hz⟩ : ∃ z : Int, ((m + 1 + 1 : Nat) : Int) = z := ⟨_, rfl⟩
                  rw [hz] at g1
                  have HZ := Aside0.mk hz
                  have HVd : Aside0 (Vars w w6.drew a b c vf 0 false) := ⟨HV6.out.drewN 1⟩
                  have HRowd := Aside0.mk (Kd.R_drew HRow6.out)
                  refine start_ (n := 8) (S := fun w' => w'.cell? ⟨g, 1, none⟩ = some (.int .i64 z)) (ds := []) #[false, false, false, false, false, false, false, false] (by kernel_rfl) rfl rfl g1 (fun hHeld => ?_)
                  have HGd : Aside0 (w6.drew.heap[g]? = some (.cells #[.string d, .int .i64 z] 142 (0, 0))) := ⟨by rw [← hz]; exact HS6.out⟩
                  generalize w6.drew = w7 at hA g1 HVd HRowd hHeld HGd ⊢
                  clear HV6 HS6 HRow6 hz
                  obtain ⟨fl, hfl⟩ : ∃ fl, decF ws ((bytesOf d).drop 1) = fl := ⟨_, rfl⟩
                  rw [hfl] at HRowd
                  have HFL := Aside0.mk hfl
                  clear hfl
                  obtain ⟨Af, cf, hvf⟩ := Kd.R_slice HRowd.out
                  subst hvf
                  refine pure_ (i := 1) (N := some 54) (v := ?_) (a' := ?_) #[false, true, false, false, false, false, false, false] rfl rfl (by kernel_rfl) (fun _ _ _ h => h) (Or.inl ⟨by rfl, ?_⟩) ?_ ?_
                  rotate_left
                  · intro w'
                    go_simp
                    with_reducible rfl
                  rotate_left
                  · simp only [Act.put, List.setIfInBounds_toArray, List.set_cons_zero, List.set_cons_succ]
                    rfl
                  refine pure_ (i := 2) (N := some 55) (v := ?_) (a' := ?_) #[false, true, true, false, false, false, false, false] rfl rfl (by kernel_rfl) (fun _ _ _ h => h) (Or.inl ⟨by rfl, ?_⟩) ?_ ?_
                  rotate_left
                  · intro w'
                    go_simp
                    with_reducible rfl
                  rotate_left
                  · simp only [Act.put, List.setIfInBounds_toArray, List.set_cons_zero, List.set_cons_succ]
                    rfl
                  refine pure_ (i := 3) (N := some 56) (v := ?_) (a' := ?_) #[false, true, true, true, false, false, false, false] rfl rfl (by kernel_rfl) (fun _ _ _ h => h) (Or.inl ⟨by rfl, ?_⟩) ?_ ?_
                  rotate_left
                  · intro w'
                    go_simp
                    with_reducible rfl
                  rotate_left
                  · simp only [Act.put, List.setIfInBounds_toArray, List.set_cons_zero, List.set_cons_succ]
                    rfl
                  refine take_ (i := 4) (N := some 57) (v := ?_) (a' := ?_) #[false, true, true, true, true, false, false, false] rfl rfl (by kernel_rfl) (fun _ _ _ h => h) (Or.inl ⟨by rfl, ?_⟩) hHeld ?_ ?_
                  rotate_left
                  · intro w' s0
                    go_simp
                    with_reducible rfl
                  rotate_left
                  · simp only [Act.put, List.setIfInBounds_toArray, List.set_cons_zero, List.set_cons_succ]
                    rfl
                  refine one_ (i := 0) (N := some 53) #[true, true, true, true, true, false, false, false] rfl rfl (by kernel_rfl) (by decide) (fun K hK => ?_)
                  refine value_ (w1 := ?_) (v := ?_) (by rfl) rfl ?_ ?_
                  rotate_left 2
                  · go_simp
                    constructor
                    · rfl
                    · rfl
                  refine hK.out _ _ g1 (fun hHeld => ?_)
                  clear hK K
                  refine norm_ (a' := ?_) ?_ ?_
                  rotate_left
                  · show Act.put _ (some 53) _ = _
                    simp only [Act.put, List.setIfInBounds_toArray, List.set_cons_zero, List.set_cons_succ]
                    rfl
                  have hb' := blk_far HVd.out.hb (p := ⟨a, 0, none⟩) (blk_ne HVd.out.ha HVd.out.hb (by decide)).symm (.slice Af fl.length cf)
                  have hc' := blk_far (blk_far HVd.out.hc (p := ⟨a, 0, none⟩) (blk_ne HVd.out.ha HVd.out.hc (by decide)).symm (.slice Af fl.length cf)) (p := ⟨b, 0, none⟩) (blk_ne HVd.out.hb HVd.out.hc (by decide)).symm (.int .i64 z)
                  have hb0 : (w7.setCell ⟨a, 0, none⟩ (.slice Af fl.length cf)).cell? ⟨b, 0, none⟩ = some (.int .i64 0) := (blk_cell hb' 0).trans rfl
                  have hc0 : ((w7.setCell ⟨a, 0, none⟩ (.slice Af fl.length cf)).setCell ⟨b, 0, none⟩ (.int .i64 z)).cell? ⟨c, 0, none⟩ = some (.bool false) := (blk_cell hc' 0).trans rfl
                  have fa := blk_frozen HVd.out.ha 0
                  have fb := blk_frozen HVd.out.hb 0
                  have fc := blk_frozen HVd.out.hc 0
                  have HGa := Aside0.mk (blk_far HGd.out (p := ⟨a, 0, none⟩) (blk_ne HVd.out.ha HGd.out (by decide)).symm (.slice Af fl.length cf))
                  have HGb := Aside0.mk (blk_far HGa.out (p := ⟨b, 0, none⟩) (blk_ne hb' HGa.out (by decide)).symm (.int .i64 z))
                  have HGc := Aside0.mk (blk_far HGb.out (p := ⟨c, 0, none⟩) (blk_ne hc' HGb.out (by decide)).symm (.bool true))
                  have HVf : Aside0 (Vars w (((w7.setCell ⟨a, 0, none⟩ (.slice Af fl.length cf)).setCell ⟨b, 0, none⟩ (.int .i64 z)).setCell ⟨c, 0, none⟩ (.bool true)) a b c (.slice Af fl.length cf) z true) := ⟨{
                    ha := blk_far (blk_far (blk_put (cs := #[.slice Af fl.length cf]) HVd.out.ha 0 (.slice Af fl.length cf) rfl) (p := ⟨b, 0, none⟩) (blk_ne HVd.out.ha HVd.out.hb (by decide)) _) (p := ⟨c, 0, none⟩) (blk_ne HVd.out.ha HVd.out.hc (by decide)) _
                    hb := blk_far (blk_put (cs := #[.int .i64 0]) hb' 0 (.int .i64 z) rfl) (p := ⟨c, 0, none⟩) (blk_ne HVd.out.hb HVd.out.hc (by decide)) _
                    hc := blk_put (cs := #[.bool false]) hc' 0 (.bool true) rfl
                    la := HVd.out.la
                    lb := HVd.out.lb
                    lc := HVd.out.lc
                    bel := below_set (below_set (below_set HVd.out.bel HVd.out.la) HVd.out.lb) HVd.out.lc }⟩
                  have HRowf := Aside0.mk (Kd.R_mono (ok' := fun _ => True) (Kd.R_far (p := ⟨c, 0, none⟩) (Kd.R_far (p := ⟨b, 0, none⟩) (Kd.R_far (p := ⟨a, 0, none⟩) (Kd.R_types (Kd.R_types HRowd.out HVd.out.ha (by decide)) HVd.out.hc (by decide)) (fun _ h => h.1.2) (.slice Af fl.length cf)) (fun _ h => h.1.1) (.int .i64 z)) (fun _ h => h.2) (.bool true)) (fun _ _ => trivial))
                  clear hb' hc'
                  refine one_ (i := 5) (N := none) #[true, true, true, true, true, true, false, false] rfl rfl (by kernel_rfl) (by decide) (fun K hK => ?_)
                  refine skip_ (w1 := ?_) (by rfl) rfl ?_ ?_
                  rotate_left
                  · go_simp
                    rfl
                  refine hK.out _ _ ((blk_cell HGa.out 1).trans rfl) (fun hHeld => ?_)
                  clear hK K
                  refine one_ (i := 6) (N := none) #[true, true, true, true, true, true, true, false] rfl rfl (by kernel_rfl) (by decide) (fun K hK => ?_)
                  refine skip_ (w1 := ?_) (by rfl) rfl ?_ ?_
                  rotate_left
                  · go_simp
                    rfl
                  refine hK.out _ _ ((blk_cell HGb.out 1).trans rfl) (fun hHeld => ?_)
                  clear hK K
                  refine one_ (i := 7) (N := none) #[true, true, true, true, true, true, true, true] rfl rfl (by kernel_rfl) (by decide) (fun K hK => ?_)
                  refine skip_ (w1 := ?_) (by rfl) rfl ?_ ?_
                  rotate_left
                  · go_simp
                    rfl
                  refine hK.out _ _ ((blk_cell HGc.out 1).trans rfl) (fun hHeld => ?_)
                  clear hK K
                  refine done_ (by kernel_rfl) (NoPanic.normal ?_)
                  go_wp2_with fail
                  refine leaves_return rfl rfl rfl HVf.out (.inl ⟨HGG.out, _, ?_, by rw [HFL.out]; exact HRowf.out, HVf.out.bel⟩)
                  rw [← HZ.out, show 3 + sumW ws = m + 1 + 1 by have := HM.out; omega]
                · have c4 : (y != (sm : Int) / 256 % 256) = true := bne_iff_ne.mpr hq2
                  have HN : Aside0 (¬ GoodF s ws d) := ⟨fun h => hq2 (by have := (HGD.out.1 h).2.2; rw [← HY.out, this]; have := HSL.out; omega)⟩
                  clear hq2
                  have ha0 : w6.cell? ⟨a, 0, none⟩ = some vf := (blk_cell HV6.out.ha 0).trans rfl
                  have fa := blk_frozen HV6.out.ha 0
                  have hb' := blk_far HV6.out.hb (p := ⟨a, 0, none⟩) (blk_ne HV6.out.ha HV6.out.hb (by decide)).symm (.slice none 0 0)
                  have hc' := blk_far (blk_far HV6.out.hc (p := ⟨a, 0, none⟩) (blk_ne HV6.out.ha HV6.out.hc (by decide)).symm (.slice none 0 0)) (p := ⟨b, 0, none⟩) (blk_ne HV6.out.hb HV6.out.hc (by decide)).symm (.int .i64 0)
                  have hb0 : (w6.setCell ⟨a, 0, none⟩ (.slice none 0 0)).cell? ⟨b, 0, none⟩ = some (.int .i64 0) := (blk_cell hb' 0).trans rfl
                  have hc0 : ((w6.setCell ⟨a, 0, none⟩ (.slice none 0 0)).setCell ⟨b, 0, none⟩ (.int .i64 0)).cell? ⟨c, 0, none⟩ = some (.bool false) := (blk_cell hc' 0).trans rfl
                  have fb := blk_frozen hb' 0
                  have fc := blk_frozen hc' 0
                  clear hb' hc'
                  go_wp2_with fail
                  exact leaves_return rfl rfl rfl HV6.out.cleared (.inr ⟨HN.out, rfl, HV6.out.cleared.bel⟩)
            · have c3 : (bt d (m : Int) != (sm : Int) % 256) = true := bne_iff_ne.mpr hq
              have HN : Aside0 (¬ GoodF s ws d) := ⟨fun h => hq (by have := (HGD.out.1 h).2.1; rw [this]; omega)⟩
              clear hq
              have ha0 : w5.cell? ⟨a, 0, none⟩ = some vf := (blk_cell HV5.out.ha 0).trans rfl
              have fa := blk_frozen HV5.out.ha 0
              have hb' := blk_far HV5.out.hb (p := ⟨a, 0, none⟩) (blk_ne HV5.out.ha HV5.out.hb (by decide)).symm (.slice none 0 0)
              have hc' := blk_far (blk_far HV5.out.hc (p := ⟨a, 0, none⟩) (blk_ne HV5.out.ha HV5.out.hc (by decide)).symm (.slice none 0 0)) (p := ⟨b, 0, none⟩) (blk_ne HV5.out.hb HV5.out.hc (by decide)).symm (.int .i64 0)
              have hb0 : (w5.setCell ⟨a, 0, none⟩ (.slice none 0 0)).cell? ⟨b, 0, none⟩ = some (.int .i64 0) := (blk_cell hb' 0).trans rfl
              have hc0 : ((w5.setCell ⟨a, 0, none⟩ (.slice none 0 0)).setCell ⟨b, 0, none⟩ (.int .i64 0)).cell? ⟨c, 0, none⟩ = some (.bool false) := (blk_cell hc' 0).trans rfl
              have fb := blk_frozen hb' 0
              have fc := blk_frozen hc' 0
              clear hb' hc'
              go_wp2_with fail
              exact leaves_return rfl rfl rfl HV5.out.cleared (.inr ⟨HN.out, rfl, HV5.out.cleared.bel⟩)
        | succ k1 =>
          have c2 : decide (x < (ws.length : Int)) = true := decide_eq_true (by have := HX.out; have := HKK.out; omega)
          have p2 : 0 ≤ x := by have := HX.out; omega
          have q2 : x < (ws.length : Int) := of_decide_eq_true c2
          obtain ⟨ad, e2, hx0⟩ := Kd.at_int (Kd.R_reads' HC.out).2.2 x p2 q2
          cases e2
          have hil : i < ws.length := by have := HKK.out; omega
          have HWI := Aside0.mk (HW.out _ (List.getElem_mem hil))
          have HRD : Aside0 (rd ws x = ws[i]) := ⟨by
            unfold rd
            rw [HX.out, Int.toNat_natCast, List.getD_eq_getElem?_getD, List.getElem?_eq_getElem hil]
            rfl⟩
          rw [HRD.out] at hx0
          have HST : Aside0 (sumW (ws.take (i + 1)) = sumW (ws.take i) + lenOf ws[i]) := ⟨by
            rw [List.take_succ_eq_append_getElem hil, sumW_append]
            rfl⟩
          replace p2 := eq_true p2
          replace q2 := eq_true q2
          by_cases hen : 1 + sumW (ws.take i) + lenOf ws[i] ≤ d.size
          · have HEN := Aside0.mk hen
            clear hen
            go_wp2_with fail
            refine wp_region_noPanic ?_
            have hA : wr.drew.cell? ⟨a, 0, none⟩ = some vf := (blk_cell HV.out.ha 0).trans rfl
            have HVd : Aside0 (Vars w wr.drew a b c vf 0 false) := ⟨HV.out.drewN 1⟩
            have HSd : Aside0 (Src wr.drew g d ((1 + sumW (ws.take i) : Nat) : Int)) := ⟨HS.out⟩
            have HRowd := Aside0.mk (Kd.R_drew HRow.out)
            have HCd := Aside0.mk (Kd.R_drew HC.out)
            refine start_ (n := 7) (S := fun w' => w'.cell? ⟨a, 0, none⟩ = some vf) (ds := [6]) #[false, false, false, false, false, false, false] (by kernel_rfl) rfl rfl hA (fun hHeld => ?_)
            generalize wr.drew = w4 at hA HVd HSd HRowd HCd hHeld ⊢
            clear hA HV HS HRow HC hx0
            refine take_ (i := 0) (N := some 26) (v := ?_) (a' := ?_) #[true, false, false, false, false, false, false] rfl rfl (by kernel_rfl) (fun _ _ _ h => h) (Or.inl ⟨by rfl, ?_⟩) hHeld ?_ ?_
            rotate_left
            · rintro w' s0
              go_simp
              with_reducible rfl
            rotate_left
            · simp only [Act.put, List.setIfInBounds_toArray, List.set_cons_zero, List.set_cons_succ]
              rfl
            refine pure_ (i := 1) (N := some 27) (v := ?_) (a' := ?_) #[true, true, false, false, false, false, false] rfl rfl (by kernel_rfl) (fun _ _ _ h => h) (Or.inl ⟨by rfl, ?_⟩) ?_ ?_
            rotate_left
            · intro w'
              go_simp
              with_reducible rfl
            rotate_left
            · simp only [Act.put, List.setIfInBounds_toArray, List.set_cons_zero, List.set_cons_succ]
              rfl
            refine pure_ (i := 2) (N := some 28) (v := ?_) (a' := ?_) #[true, true, true, false, false, false, false] rfl rfl (by kernel_rfl) (fun _ _ _ h => h) (Or.inl ⟨by rfl, ?_⟩) ?_ ?_
            rotate_left
            · intro w'
              go_simp
              with_reducible rfl
            rotate_left
            · simp only [Act.put, List.setIfInBounds_toArray, List.set_cons_zero, List.set_cons_succ]
              rfl
            refine one_ (i := 3) (N := some 29) #[true, true, true, true, false, false, false] rfl rfl (by kernel_rfl) (by decide) (fun K hK => ?_)
            refine goes_ Try.func110 (by kernel_rfl) rfl #[.pointer (some ⟨g, 0, none⟩), .int .i64 ws[i]] (by rfl) rfl rfl (by simp only [List.map_toArray, List.map_cons, List.map_nil]; rfl) ?_
            refine (field_ok g d (1 + sumW (ws.take i)) ws[i] HWI.out _ HSd.out HEN.out HD.out).mono ?_
            rintro e w5 ⟨rfl, hs5, hk5⟩
            refine ⟨_, rfl, ?_⟩
            have HV5 := Aside0.mk (HVd.out.keep hk5 HSd.out HG.out)
            have HRow5 := Aside0.mk (Kd.R_mono (Kd.R_keep (Kd.R_types HRowd.out HSd.out (by decide)) hk5.1 (fun _ h => h.2)) (fun _ h => h.1))
            have HC5 := Aside0.mk (Kd.R_mono (Kd.R_keep (Kd.R_types HCd.out HSd.out (by decide)) hk5.1 (fun _ h => h.2)) (fun _ h => h.1))
            have HS5 := Aside0.mk hs5
            clear HVd HSd HRowd HCd hs5 hk5
            refine hK.out _ _ ((blk_cell HV5.out.ha 0).trans rfl) (fun hHeld => ?_)
            clear hK K
            refine norm_ (a' := ?_) ?_ ?_
            rotate_left
            · show Act.put _ (some 29) _ = _
              simp only [Act.put, List.setIfInBounds_toArray, List.set_cons_zero, List.set_cons_succ]
              rfl
            refine one_ (i := 4) (N := some 30) #[true, true, true, true, true, false, false] rfl rfl (by kernel_rfl) (by decide) (fun K hK => ?_)
            refine value_ (w1 := ?_) (v := ?_) (by rfl) rfl ?_ ?_
            rotate_left 2
            · go_simp
              constructor
              · rfl
              · rfl
            refine hK.out _ _ ((blk_cell (blk_alloc HV5.out.ha _) 0).trans rfl) (fun hHeld => ?_)
            clear hK K
            refine norm_ (a' := ?_) ?_ ?_
            rotate_left
            · show Act.put _ (some 30) _ = _
              simp only [Act.put, List.setIfInBounds_toArray, List.set_cons_zero, List.set_cons_succ]
              rfl
            refine one_ (i := 5) (N := some 31) #[true, true, true, true, true, true, false] rfl rfl (by kernel_rfl) (by decide) (fun K hK => ?_)
            refine Kd.R_append_step (Kd.int .i64) (w0 := w) w.heap.size (by rfl) (.tmp 26) (.tmp 30) 36 3 (.int .i64 0) 8 rfl Try.underlying36 info3 rfl (by decide) (by omega) vf (decF (ws.take i) ((bytesOf d).drop 1)) (val ws[i] (((bytesOf d).drop (1 + sumW (ws.take i))).take (lenOf ws[i]))) [.int .i64 (val ws[i] (((bytesOf d).drop (1 + sumW (ws.take i))).take (lenOf ws[i])))] (fun k => k ≠ b) (fun _ => False) rfl rfl ?aP (fun _ hk => hk.elim) ?aF ?aO ?aB ?aS ?aL ?_
            (case aP => exact rfl)
            (case aF => exact (fun k hk => by have h1 := blk_lt HV5.out.hb; omega))
            (case aO => exact HRow5.out)
            (case aB => exact HV5.out.bel)
            (case aS => exact HV5.out.bel.size)
            (case aL => rw [dec_length, List.length_take]; have := HLE.out; have := HD.out; have := len_sum (ws.take i) (fun x hx => HW.out x (List.mem_of_mem_take hx)); rw [List.length_take] at this; omega)
            intro v1 w6 ho hb hg hat
            have hne : ∀ {q t : Nat} {cs : Array Value}, w5.heap[q]? = some (.cells cs t (0, 0)) → 3 ≠ t → some q ≠ vf.ownBlock := fun hq ht => Kd.R_ne HRow5.out hq ht
            have HV6 : Aside0 (Vars w w6 a b c vf 0 false) := ⟨⟨blk_grown HV5.out.ha hg (hne HV5.out.ha (by decide)), blk_grown HV5.out.hb hg (fun e => HRow5.out.1 b e.symm rfl), blk_grown HV5.out.hc hg (hne HV5.out.hc (by decide)), HV5.out.la, HV5.out.lb, HV5.out.lc, hb⟩⟩
            have HS6 : Aside0 (Src w6 g d ((1 + sumW (ws.take i) + lenOf ws[i] : Nat) : Int)) := ⟨blk_grown HS5.out hg (hne HS5.out (by decide))⟩
            have HC6 := Aside0.mk (Kd.R_after HC5.out hg hat)
            obtain ⟨fl, hfl⟩ : ∃ fl, decF (ws.take (i + 1)) ((bytesOf d).drop 1) = fl := ⟨_, rfl⟩
            have hsn := dec_snoc (ws.take i) ws[i] ((bytesOf d).drop 1)
            rw [← List.take_succ_eq_append_getElem hil, hfl, List.drop_drop] at hsn
            rw [← hsn] at ho
            have HFL := Aside0.mk hfl
            clear hfl hsn
            obtain ⟨A1, cp1, hv1⟩ := Kd.R_slice ho
            subst hv1
            have HRow6 := Aside0.mk ho
            clear HV5 HS5 HC5 HRow5 ho hb hg hat hne
            refine hK.out _ _ ((blk_cell HV6.out.ha 0).trans rfl) (fun hHeld => ?_)
            clear hK K
            refine norm_ (a' := ?_) ?_ ?_
            rotate_left
            · show Act.put _ (some 31) _ = _
              simp only [Act.put, List.setIfInBounds_toArray, List.set_cons_zero, List.set_cons_succ]
              rfl
            have f6 := blk_frozen HV6.out.ha 0
            refine last_ (i := 6) (N := none) #[true, true, true, true, true, true, true] rfl rfl (by kernel_rfl) (by decide) (fun K hK => ?_)
            refine skip_ (w1 := ?_) (by rfl) rfl ?_ ?_
            rotate_left
            · go_simp
              rfl
            refine hK.out _ _ ?_
            clear hK K
            refine done_ (by kernel_rfl) (NoPanic.normal ?_)
            have HV7 : Aside0 (Vars w (w6.setCell ⟨a, 0, none⟩ (.slice A1 fl.length cp1)) a b c (.slice A1 fl.length cp1) 0 false) := ⟨⟨blk_put (cs := #[vf]) HV6.out.ha 0 (.slice A1 fl.length cp1) rfl, blk_far HV6.out.hb (p := ⟨a, 0, none⟩) (blk_ne HV6.out.ha HV6.out.hb (by decide)).symm _, blk_far HV6.out.hc (p := ⟨a, 0, none⟩) (blk_ne HV6.out.ha HV6.out.hc (by decide)).symm _, HV6.out.la, HV6.out.lb, HV6.out.lc, below_set HV6.out.bel HV6.out.la⟩⟩
            have HS7 : Aside0 (Src (w6.setCell ⟨a, 0, none⟩ (.slice A1 fl.length cp1)) g d ((1 + sumW (ws.take i) + lenOf ws[i] : Nat) : Int)) := ⟨blk_far HS6.out (p := ⟨a, 0, none⟩) (blk_ne HV6.out.ha HS6.out (by decide)).symm _⟩
            have HRow7 := Aside0.mk (Kd.R_mono (Kd.R_far (p := ⟨a, 0, none⟩) (Kd.R_types HRow6.out HV6.out.ha (by decide)) (fun _ h => h.2) (.slice A1 fl.length cp1)) (fun _ h => h.1))
            have HC7 := Aside0.mk (Kd.R_mono (Kd.R_far (p := ⟨a, 0, none⟩) (Kd.R_types HC6.out HV6.out.ha (by decide)) (fun _ h => h.2) (.slice A1 fl.length cp1)) (fun _ h => h.1))
            clear HV6 HS6 HRow6 HC6 f6 hHeld
            have E1 : Aside0 (wrap64 (x + 1) = ((i + 1 : Nat) : Int)) := ⟨by rw [HX.out, w64 (by omega) (by have := HL.out; have := HKK.out; omega)]; rfl⟩
            go_wp2_with fail
            go_roundg k1
            case measure => omega
            case rel => exact ⟨_, congrArg (Value.int .i64) E1.out, ⟨i + 1, _, rfl, by have := HKK.out; omega, HV7.out, by rw [HST.out, ← Nat.add_assoc]; exact HS7.out, by rw [HFL.out]; exact HRow7.out, HC7.out, by rw [HST.out]; have := HEN.out; omega⟩⟩
          · have HEN := Aside0.mk hen
            have HN : Aside0 (¬ GoodF s ws d) := ⟨fun h => hen (by
              have h1 := sum_take ws i
              have h2 := h.1
              rw [List.drop_eq_getElem_cons hil] at h1
              have h3 : sumW (ws.take i) + (lenOf ws[i] + sumW (ws.drop (i + 1))) = sumW ws := h1
              omega)⟩
            clear hen
            go_wp2_with fail
            have hA : wr.drew.cell? ⟨a, 0, none⟩ = some vf := (blk_cell HV.out.ha 0).trans rfl
            have HVd : Aside0 (Vars w wr.drew a b c vf 0 false) := ⟨HV.out.drewN 1⟩
            have HSd : Aside0 (Src wr.drew g d ((1 + sumW (ws.take i) : Nat) : Int)) := ⟨HS.out⟩
            refine start_ (n := 7) (S := fun w' => w'.cell? ⟨a, 0, none⟩ = some vf) (ds := [6]) #[false, false, false, false, false, false, false] (by kernel_rfl) rfl rfl hA (fun hHeld => ?_)
            generalize wr.drew = w4 at hA HVd HSd hHeld ⊢
            clear hA HV HS HRow HC hx0
            refine take_ (i := 0) (N := some 26) (v := ?_) (a' := ?_) #[true, false, false, false, false, false, false] rfl rfl (by kernel_rfl) (fun _ _ _ h => post_put (by decide) (by decide) (by decide) h) (Or.inl ⟨by rfl, ?_⟩) hHeld ?_ ?_
            rotate_left
            · rintro w' s0
              go_simp
              with_reducible rfl
            rotate_left
            · simp only [Act.put, List.setIfInBounds_toArray, List.set_cons_zero, List.set_cons_succ]
              rfl
            refine pure_ (i := 1) (N := some 27) (v := ?_) (a' := ?_) #[true, true, false, false, false, false, false] rfl rfl (by kernel_rfl) (fun _ _ _ h => post_put (by decide) (by decide) (by decide) h) (Or.inl ⟨by rfl, ?_⟩) ?_ ?_
            rotate_left
            · intro w'
              go_simp
              with_reducible rfl
            rotate_left
            · simp only [Act.put, List.setIfInBounds_toArray, List.set_cons_zero, List.set_cons_succ]
              rfl
            refine pure_ (i := 2) (N := some 28) (v := ?_) (a' := ?_) #[true, true, true, false, false, false, false] rfl rfl (by kernel_rfl) (fun _ _ _ h => post_put (by decide) (by decide) (by decide) h) (Or.inl ⟨by rfl, ?_⟩) ?_ ?_
            rotate_left
            · intro w'
              go_simp
              with_reducible rfl
            rotate_left
            · simp only [Act.put, List.setIfInBounds_toArray, List.set_cons_zero, List.set_cons_succ]
              rfl
            refine one_ (i := 3) (N := some 29) #[true, true, true, true, false, false, false] rfl rfl (by kernel_rfl) (by decide) (fun K hK => ?_)
            refine falls_ Try.func110 (by kernel_rfl) rfl #[.pointer (some ⟨g, 0, none⟩), .int .i64 ws[i]] (by rfl) rfl (by simp only [List.map_toArray, List.map_cons, List.map_nil]; rfl) ?_
            refine (field_early g d (1 + sumW (ws.take i)) ws[i] HWI.out _ HSd.out HLE.out (by have := HEN.out; omega) HD.out).mono ?_
            rintro e w5 ⟨rfl, hk5⟩
            refine ⟨_, rfl, ?_⟩
            have HV5 := Aside0.mk (HVd.out.keep hk5 HSd.out HG.out)
            exact leaves_panic (fun W' hb => .inr ⟨HN.out, rfl, hb⟩) rfl rfl rfl HV5.out
    · have c1 : (bt d 0 != s) = true := bne_iff_ne.mpr hs
      have HN : Aside0 (¬ GoodF s ws d) := ⟨fun h => hs h.2.1⟩
      have ha0 : w2.cell? ⟨a, 0, none⟩ = some (.slice none 0 0) := (blk_cell HV2.out.ha 0).trans rfl
      have fa := blk_frozen HV2.out.ha 0
      have hb' := blk_far HV2.out.hb (p := ⟨a, 0, none⟩) (blk_ne HV2.out.ha HV2.out.hb (by decide)).symm (.slice none 0 0)
      have hc' := blk_far (blk_far HV2.out.hc (p := ⟨a, 0, none⟩) (blk_ne HV2.out.ha HV2.out.hc (by decide)).symm (.slice none 0 0)) (p := ⟨b, 0, none⟩) (blk_ne HV2.out.hb HV2.out.hc (by decide)).symm (.int .i64 0)
      have hb0 : (w2.setCell ⟨a, 0, none⟩ (.slice none 0 0)).cell? ⟨b, 0, none⟩ = some (.int .i64 0) := (blk_cell hb' 0).trans rfl
      have hc0 : ((w2.setCell ⟨a, 0, none⟩ (.slice none 0 0)).setCell ⟨b, 0, none⟩ (.int .i64 0)).cell? ⟨c, 0, none⟩ = some (.bool false) := (blk_cell hc' 0).trans rfl
      have fb := blk_frozen hb' 0
      have fc := blk_frozen hc' 0
      clear hb' hc' hs
      go_wp2_with fail
      exact leaves_return rfl rfl rfl HV2.out.cleared (.inr ⟨HN.out, rfl, HV2.out.cleared.bel⟩)
end Go.Proofs.Ytbbinmplkbpcdaa.Ps
