/- Functions of the Go program as plain Lean functions, and the proofs that the code comes to just their answers; of a law, the row. Written by a program of this session (wip/myprint.py over the given print). No condition. -/
import Derived.Test.YtkbngfelegcplaaPAllx0
import Derived.Test.YtkbngfelegcplaaPAllx2
import Derived.Test.YtkbngfelegcplaaPAllx3
namespace Go.Proofs.Ytkbngfelegcplaa.PAll
open Go.RowKit Go.Proofs.YtkbngfelegcplaaW.PrintWords Go.Proofs.YtkbngfelegcplaaW.PrintLast Go.Proofs.YtkbngfelegcplaaW.PrintMore
attribute [local go_sem] max2_int min2_int max_two min_two max_three min_three max_four min_four   -- for this text's walks alone
set_option linter.unusedVariables false
set_option linter.unusedSimpArgs false

/-! ### lex_scanner_text: function 44 (by hand) -/
def lex_scanner_text.f (k : Nat) (s0_0 : ByteArray) (s0_1 : Int) : Option (Int × ByteArray × Int × Int × Int × ByteArray × Int) :=
  if 0 ≤ s0_1 ∧ s0_1 ≤ (s0_0.size : Int) ∧ s0_0.size ≤ 140737488351232 then
    (word_Unquote.f k (s0_0.extract s0_1.toNat s0_0.size)).bind fun u =>
      (if 0 ≤ u.2.1 ∧ u.2.1 ≤ 140737488351232 then (if u.2.2 = 0 then some (4, u.1, s0_1, s0_1 + u.2.1, 0, s0_0, s0_1 + u.2.1) else some (0, (⟨#[]⟩ : ByteArray), 0, s0_1 + u.2.1, u.2.2, s0_0, s0_1)) else none)
  else none
theorem lex_scanner_text.mono : ∀ a0 a1 k, LeO (lex_scanner_text.f k a0 a1) (lex_scanner_text.f (k + 1) a0 a1) := by
  intro a0 a1 k
  unfold lex_scanner_text.f
  exact LeO.ite (LeO.bind (word_Unquote.mono _ _) (fun _ => LeO.refl _)) (LeO.refl _)
set_option maxHeartbeats 8000000 in
set_option maxRecDepth 100000 in
theorem lex_scanner_text.calls (k : Nat) (g : Nat) (s0_0 : ByteArray) (s0_1 : Int) (r1 : Int) (r2 : ByteArray) (r3 : Int) (r4 : Int) (r5 : Int) (r6 : ByteArray) (r7 : Int) (w0 w : World) (hI : IsS60 w0 w g s0_0 s0_1) (hB : Below w0.heap.size w0 w) (h : lex_scanner_text.f k s0_0 s0_1 = some (r1, r2, r3, r4, r5, r6, r7)) :
    Calls Try.prog 44 #[.pointer (some ⟨g, 0, none⟩)] w fun e w' => e = .returned (.tuple #[.agg #[.int .i64 r1, .string r2, .int .i64 r3], .int .i64 r4, .int .i64 r5]) ∧ IsS60 w0 w' g r6 r7 ∧ Below w0.heap.size w0 w' ∧ KeepBut w w' g none := by
  unfold lex_scanner_text.f at h
  by_cases hg : 0 ≤ s0_1 ∧ s0_1 ≤ (s0_0.size : Int) ∧ s0_0.size ≤ 140737488351232
  · rw [if_pos hg] at h
    obtain ⟨h0, h1, h3⟩ := hg
    obtain ⟨x, hxe⟩ : ∃ x, x = s0_0.extract s0_1.toNat s0_0.size := ⟨_, rfl⟩
    rw [← hxe] at h
    obtain ⟨⟨t, n, e⟩, hu, h⟩ := Option.bind_eq_some_iff.1 h
    have HI := Aside0.mk hI
    have HB := Aside0.mk hB
    have HK := Aside0.mk (KeepBut.refl w g none)
    have UQ := Aside0.mk hu
    have RS : Aside0 (lex_scanner_rest.f s0_0 s0_1 = some (x, s0_0, s0_1)) := ⟨by unfold lex_scanner_rest.f; rw [if_pos h0, if_pos h1, hxe]⟩
    by_cases hn : 0 ≤ n ∧ n ≤ 140737488351232
    · replace h : (if e = 0 then some (4, t, s0_1, s0_1 + n, 0, s0_0, s0_1 + n) else some (0, (⟨#[]⟩ : ByteArray), 0, s0_1 + n, e, s0_0, s0_1)) = some (r1, r2, r3, r4, r5, r6, r7) := by
        dsimp only at h; rw [if_pos hn] at h; exact h
      have hwr : wrap64 (s0_1 + n) = s0_1 + n := by unfold wrap64; omega
      have H := Aside0.mk h
      clear h hu hI hB hxe
      go_enter Try.func44, Try.ntmps44
      go_upto_region 1 with (fail)
      have n1_ : Aside0 (IsS60 w0 (w.alloc (Obj.cells #[Value.int IntKind.i64 0, Value.string { data := #[] }, Value.int IntKind.i64 0] 32)) g s0_0 s0_1) := ⟨HI.out.alloc _⟩
      have n2_ : Aside0 (Below w0.heap.size w0 (w.alloc (Obj.cells #[Value.int IntKind.i64 0, Value.string { data := #[] }, Value.int IntKind.i64 0] 32))) := ⟨below_alloc HB.out _⟩
      have n3_ : Aside0 (KeepBut w (w.alloc (Obj.cells #[Value.int IntKind.i64 0, Value.string { data := #[] }, Value.int IntKind.i64 0] 32)) g none) := ⟨keep_alloc HK.out _⟩
      have HR := Aside0.mk (heap_alloc_new w (Obj.cells #[Value.int IntKind.i64 0, Value.string { data := #[] }, Value.int IntKind.i64 0] 32))
      obtain ⟨b2, hb2⟩ : ∃ b, b = w.heap.size := ⟨_, rfl⟩
      have HL6 : Aside0 (w.heap.size ≤ b2) := ⟨by omega⟩
      have HL7 : Aside0 (w0.heap.size ≤ b2) := ⟨by have := HI.out.ge; have := HI.out.lt; omega⟩
      have NE : Aside0 (b2 ≠ g) := ⟨by have := HI.out.lt; omega⟩
      have hgb : g ≠ b2 := by have := HI.out.lt; omega
      rw [← hb2] at HR ⊢
      clear HI HB HK hb2
      generalize (w.alloc (Obj.cells #[Value.int IntKind.i64 0, Value.string { data := #[] }, Value.int IntKind.i64 0] 32)) = W at n1_ n2_ n3_ HR ⊢
      have HI := n1_
      have HB := n2_
      have HK := n3_
      clear n1_ n2_ n3_
      by_cases he : e = 0
      · subst he
        have heb : ((0 : Int) == 0) = true := rfl
        rw [if_pos rfl] at H
        have H2 := H.out
        simp only [Option.some.injEq, Prod.mk.injEq] at H2
        obtain ⟨rfl, rfl, rfl, rfl, rfl, rfl, rfl⟩ := H2
        clear H
        go_upto_region 4 with (first | (go_at_call 61; (with_reducible refine (lex_scanner_rest.calls g s0_0 s0_1 _ _ _ w0 _ HI.out HB.out RS.out).mono ?_); rintro e w1 ⟨rfl, hI2, hB2, hK2⟩; have n1_ := Aside0.mk hI2; have n2_ := Aside0.mk hB2; have n3_ := Aside0.mk (KeepBut.blk hK2 HR.out NE.out (by simp)); have n4_ := Aside0.mk (KeepBut.trans HK.out hK2 (.inl rfl)); clear hI2 hB2 hK2 HI HB HK HR; have HI := n1_; have HB := n2_; have HR := n3_; have HK := n4_; clear n1_ n2_ n3_ n4_) | (go_at_call 60; (with_reducible refine (word_Unquote.calls k x _ _ _ _ UQ.out).mono ?_); rintro e w2 ⟨rfl, hb⟩; have n1_ := Aside0.mk (HI.out.below (hb)); have n2_ := Aside0.mk (HB.out.trans (hb.mono HB.out.size)); have n3_ := Aside0.mk (blk_below HR.out hb); have n4_ := Aside0.mk (KeepBut.trans HK.out (KeepBut.of_below hb g none) (.inl rfl)); clear hb HI HB HK HR; have HI := n1_; have HB := n2_; have HR := n3_; have HK := n4_; clear n1_ n2_ n3_ n4_; have e0 := blk_cell HR.out 0; have e1 := blk_cell HR.out 1; have e2 := blk_cell HR.out 2; have f0 := blk_frozen HR.out 0; have f1 := blk_frozen HR.out 1; have f2 := blk_frozen HR.out 2))
        have c1 := cellS60_1 HI.out.1
        clear e0 e1 e2 f0 f1 f2
        go_upto_region 5 with (fail)
        have hz : ∃ b8, b8 = w2.heap.size := ⟨_, rfl⟩
        obtain ⟨b8, hb8⟩ := hz
        have NG : Aside0 (b8 ≠ g) := ⟨by have := HI.out.lt; omega⟩
        have hk28 : b2 ≠ b8 := by have := blk_lt HR.out; omega
        have n1_ := Aside0.mk (HI.out.alloc (Obj.cells #[.int .i64 4, .string t, .int .i64 s0_1] 32))
        have n2_ := Aside0.mk (below_alloc HB.out (Obj.cells #[.int .i64 4, .string t, .int .i64 s0_1] 32))
        have n3_ := Aside0.mk (keep_alloc HK.out (Obj.cells #[.int .i64 4, .string t, .int .i64 s0_1] 32))
        have n4_ := Aside0.mk (blk_alloc HR.out (Obj.cells #[.int .i64 4, .string t, .int .i64 s0_1] 32))
        have n5_ := Aside0.mk (heap_alloc_new w2 (Obj.cells #[.int .i64 4, .string t, .int .i64 s0_1] 32))
        rw [← hb8] at n5_ ⊢
        clear HI HB HK HR hb8 c1
        generalize (w2.alloc (Obj.cells #[.int .i64 4, .string t, .int .i64 s0_1] 32)) = w3 at n1_ n2_ n3_ n4_ n5_ ⊢
        have HI := n1_
        have HB := n2_
        have HK := n3_
        have HR := n4_
        have HT := n5_
        clear n1_ n2_ n3_ n4_ n5_
        have c1 := cellS60_1 HI.out.1
        have g1 := blk_frozen HI.out.1 1
        go_upto_region 6 with (fail)
        clear c1 g1
        have n1_ := Aside0.mk (HI.out.set_1 (s0_1 + n))
        have n2_ := Aside0.mk (below_set (v := .int .i64 (s0_1 + n)) (j := 1) HB.out (IsS60.ge HI.out))
        have n3_ := Aside0.mk (KeepBut.set_ HK.out 1 (.int .i64 (s0_1 + n)))
        have n4_ := Aside0.mk ((Below.heap_setCell w3 ⟨g, 1, none⟩ (.int .i64 (s0_1 + n)) b2 NE.out).trans HR.out)
        have n5_ := Aside0.mk ((Below.heap_setCell w3 ⟨g, 1, none⟩ (.int .i64 (s0_1 + n)) b8 NG.out).trans HT.out)
        clear HI HB HK HR HT
        generalize (w3.setCell ⟨g, 1, none⟩ (.int .i64 (s0_1 + n))) = w4 at n1_ n2_ n3_ n4_ n5_ ⊢
        have HI := n1_
        have HB := n2_
        have HK := n3_
        have HR := n4_
        have HT := n5_
        clear n1_ n2_ n3_ n4_ n5_
        have c1 := cellS60_1 HI.out.1
        have e0 := blk_cell HR.out 0
        have e1 := blk_cell HR.out 1
        have e2 := blk_cell HR.out 2
        have f0 := blk_frozen HR.out 0
        have f1 := blk_frozen HR.out 1
        have f2 := blk_frozen HR.out 2
        have k0 := blk_cell HT.out 0
        have k1 := blk_cell HT.out 1
        have k2 := blk_cell HT.out 2
        go_big_region
        go_wp2
        (try simp only [Exit.inBlock, Exit.then])
        refine bodyPost_ret (results_ctt rfl _ _ b2 32 #[.int .i64 4, .string t, .int .i64 s0_1] (0, 0) _ rfl (by
          refine blk_drew ?_
          refine blk_put (cs := #[.int .i64 4, .string t, .int .i64 0]) ?_ 2 _ rfl
          refine blk_put (cs := #[.int .i64 4, .string { data := #[] }, .int .i64 0]) ?_ 1 _ rfl
          refine blk_put (cs := #[.int .i64 0, .string { data := #[] }, .int .i64 0]) ?_ 0 _ rfl
          exact HR.out) Try.underlying32 rfl (by kernel_rfl)) rfl ?_
        exact ⟨rfl, (((HI.out.far hgb _).far hgb _).far hgb _).drew, below_drew1 (below_set (below_set (below_set HB.out HL7.out) HL7.out) HL7.out), keep_drew (keep_far (keep_far (keep_far HK.out HL6.out _) HL6.out _) HL6.out _)⟩
      · have heb : (e == 0) = false := beq_eq_false_iff_ne.mpr he
        have heb2 : (e != 0) = true := bne_iff_ne.mpr he
        rw [if_neg he] at H
        have H2 := H.out
        simp only [Option.some.injEq, Prod.mk.injEq] at H2
        obtain ⟨rfl, rfl, rfl, rfl, rfl, rfl, rfl⟩ := H2
        clear H
        go_upto_region 3 with (first | (go_at_call 61; (with_reducible refine (lex_scanner_rest.calls g s0_0 s0_1 _ _ _ w0 _ HI.out HB.out RS.out).mono ?_); rintro e w1 ⟨rfl, hI2, hB2, hK2⟩; have n1_ := Aside0.mk hI2; have n2_ := Aside0.mk hB2; have n3_ := Aside0.mk (KeepBut.blk hK2 HR.out NE.out (by simp)); have n4_ := Aside0.mk (KeepBut.trans HK.out hK2 (.inl rfl)); clear hI2 hB2 hK2 HI HB HK HR; have HI := n1_; have HB := n2_; have HR := n3_; have HK := n4_; clear n1_ n2_ n3_ n4_) | (go_at_call 60; (with_reducible refine (word_Unquote.calls k x _ _ _ _ UQ.out).mono ?_); rintro e w2 ⟨rfl, hb⟩; have n1_ := Aside0.mk (HI.out.below (hb)); have n2_ := Aside0.mk (HB.out.trans (hb.mono HB.out.size)); have n3_ := Aside0.mk (blk_below HR.out hb); have n4_ := Aside0.mk (KeepBut.trans HK.out (KeepBut.of_below hb g none) (.inl rfl)); clear hb HI HB HK HR; have HI := n1_; have HB := n2_; have HR := n3_; have HK := n4_; clear n1_ n2_ n3_ n4_; have e0 := blk_cell HR.out 0; have e1 := blk_cell HR.out 1; have e2 := blk_cell HR.out 2; have f0 := blk_frozen HR.out 0; have f1 := blk_frozen HR.out 1; have f2 := blk_frozen HR.out 2))
        have c1 := cellS60_1 HI.out.1
        go_big_region
        go_wp2
        (try simp only [Exit.inBlock, Exit.then])
        refine bodyPost_ret (results_ctt rfl _ _ b2 32 #[.int .i64 0, .string { data := #[] }, .int .i64 0] (0, 0) _ rfl (by
          refine blk_drew ?_
          refine blk_put (cs := #[.int .i64 0, .string { data := #[] }, .int .i64 0]) ?_ 2 _ rfl
          refine blk_put (cs := #[.int .i64 0, .string { data := #[] }, .int .i64 0]) ?_ 1 _ rfl
          refine blk_put (cs := #[.int .i64 0, .string { data := #[] }, .int .i64 0]) ?_ 0 _ rfl
          exact HR.out) Try.underlying32 rfl (by kernel_rfl)) rfl ?_
        exact ⟨rfl, (((HI.out.far hgb _).far hgb _).far hgb _).drew, below_drew1 (below_set (below_set (below_set HB.out HL7.out) HL7.out) HL7.out), keep_drew (keep_far (keep_far (keep_far HK.out HL6.out _) HL6.out _) HL6.out _)⟩
    · dsimp only at h; rw [if_neg hn] at h; cases h
  · rw [if_neg hg] at h; cases h

/-! ### lex_isUpper: function 45 -/
def lex_isUpper.f (a0 : Int) : Option (Bool) := if a0 ≥ 65 then (some (decide (a0 ≤ 90))) else (some false)
set_option maxHeartbeats 8000000 in
set_option maxRecDepth 100000 in
theorem lex_isUpper.calls (a0 : Int) (r : Bool) (w : World) (h : lex_isUpper.f a0 = some r) :
    Calls Try.prog 45 #[.int .i32 a0] w fun e w' => e = .returned (.bool r) ∧ Drawn0 w w' := by
  have H : (if a0 ≥ 65 then (some (decide (a0 ≤ 90))) else (some false)) = some r := h
  clear h
  by_cases c2 : a0 ≥ 65
  · rw [if_pos c2] at H
    have c2b0 : decide (65 ≤ a0) = true := decide_eq_true c2
    clear c2
    obtain rfl := Option.some.inj H
    go_enter Try.func45, Try.ntmps45
    go_wp2
    go_ret
    exact ⟨by first | rfl | (simp; done) | (simp [*]; done), by repeat (first | exact Drawn0.refl _ | apply Drawn0.step)⟩
  · rw [if_neg c2] at H
    have c2b0 : decide (65 ≤ a0) = false := decide_eq_false c2
    clear c2
    obtain rfl := Option.some.inj H
    go_enter Try.func45, Try.ntmps45
    go_wp2
    go_ret
    exact ⟨by first | rfl | (simp; done) | (simp [*]; done), by repeat (first | exact Drawn0.refl _ | apply Drawn0.step)⟩

/-! ### lex_isLower: function 46 -/
def lex_isLower.f (a0 : Int) : Option (Bool) := if a0 ≥ 97 then (some (decide (a0 ≤ 122))) else (some false)
set_option maxHeartbeats 8000000 in
set_option maxRecDepth 100000 in
theorem lex_isLower.calls (a0 : Int) (r : Bool) (w : World) (h : lex_isLower.f a0 = some r) :
    Calls Try.prog 46 #[.int .i32 a0] w fun e w' => e = .returned (.bool r) ∧ Drawn0 w w' := by
  have H : (if a0 ≥ 97 then (some (decide (a0 ≤ 122))) else (some false)) = some r := h
  clear h
  by_cases c2 : a0 ≥ 97
  · rw [if_pos c2] at H
    have c2b0 : decide (97 ≤ a0) = true := decide_eq_true c2
    clear c2
    obtain rfl := Option.some.inj H
    go_enter Try.func46, Try.ntmps46
    go_wp2
    go_ret
    exact ⟨by first | rfl | (simp; done) | (simp [*]; done), by repeat (first | exact Drawn0.refl _ | apply Drawn0.step)⟩
  · rw [if_neg c2] at H
    have c2b0 : decide (97 ≤ a0) = false := decide_eq_false c2
    clear c2
    obtain rfl := Option.some.inj H
    go_enter Try.func46, Try.ntmps46
    go_wp2
    go_ret
    exact ⟨by first | rfl | (simp; done) | (simp [*]; done), by repeat (first | exact Drawn0.refl _ | apply Drawn0.step)⟩

/-! ### lex_isDigit: function 47 -/
def lex_isDigit.f (a0 : Int) : Option (Bool) := if a0 ≥ 48 then (some (decide (a0 ≤ 57))) else (some false)
set_option maxHeartbeats 8000000 in
set_option maxRecDepth 100000 in
theorem lex_isDigit.calls (a0 : Int) (r : Bool) (w : World) (h : lex_isDigit.f a0 = some r) :
    Calls Try.prog 47 #[.int .i32 a0] w fun e w' => e = .returned (.bool r) ∧ Drawn0 w w' := by
  have H : (if a0 ≥ 48 then (some (decide (a0 ≤ 57))) else (some false)) = some r := h
  clear h
  by_cases c2 : a0 ≥ 48
  · rw [if_pos c2] at H
    have c2b0 : decide (48 ≤ a0) = true := decide_eq_true c2
    clear c2
    obtain rfl := Option.some.inj H
    go_enter Try.func47, Try.ntmps47
    go_wp2
    go_ret
    exact ⟨by first | rfl | (simp; done) | (simp [*]; done), by repeat (first | exact Drawn0.refl _ | apply Drawn0.step)⟩
  · rw [if_neg c2] at H
    have c2b0 : decide (48 ≤ a0) = false := decide_eq_false c2
    clear c2
    obtain rfl := Option.some.inj H
    go_enter Try.func47, Try.ntmps47
    go_wp2
    go_ret
    exact ⟨by first | rfl | (simp; done) | (simp [*]; done), by repeat (first | exact Drawn0.refl _ | apply Drawn0.step)⟩

-- NOT PRINTED: function 62 (lex_run)

/-! ### lex_isSign: function 63 -/
def lex_isSign.f (a0 : Int) : Option (Bool) := (lex_isLower.f a0).bind fun t148 => (if t148 = true then (some true) else ((lex_isDigit.f a0).bind fun t149 => (if t149 = true then (some true) else (some (a0 == 95)))))
set_option maxHeartbeats 8000000 in
set_option maxRecDepth 100000 in
theorem lex_isSign.calls (a0 : Int) (r : Bool) (w : World) (h : lex_isSign.f a0 = some r) :
    Calls Try.prog 63 #[.int .i32 a0] w fun e w' => e = .returned (.bool r) ∧ Drawn0 w w' := by
  have H : ((lex_isLower.f a0).bind fun t148 => (if t148 = true then (some true) else ((lex_isDigit.f a0).bind fun t149 => (if t149 = true then (some true) else (some (a0 == 95)))))) = some r := h
  clear h
  replace H := Option.bind_eq_some_iff.mp H
  obtain ⟨t148, A20, H⟩ := H
  replace H : (if t148 = true then (some true) else ((lex_isDigit.f a0).bind fun t149 => (if t149 = true then (some true) else (some (a0 == 95))))) = some r := H
  have A2 := Aside0.mk A20
  clear A20
  by_cases c3 : t148 = true
  · subst c3
    have H1 : (some true) = some r := by rw [if_pos rfl] at H; exact H
    clear H
    have H := H1
    clear H1
    obtain rfl := Option.some.inj H
    go_enter Try.func63, Try.ntmps63
    go_wp2_with (first | ((with_reducible refine gate_callee (f := 46) rfl ?_); refine goesL_ (some 4) rfl rfl Try.func46 (by kernel_rfl) rfl #[.int .i32 a0] rfl (by (try simp only [List.map_toArray, List.map_cons, List.map_nil]); first | done | rfl | (simp only [List.length_drop, List.length_take]; rfl)) ?_; (with_reducible refine (lex_isLower.calls a0 true _ A2.out).mono ?_); rintro e w' ⟨rfl, ⟨nd, rfl⟩⟩; refine ⟨_, rfl, ?_⟩))
    go_ret
    exact ⟨by first | rfl | (simp; done) | (simp [*]; done), by repeat (first | exact Drawn0.refl _ | apply Drawn0.step)⟩
  · replace c3 := Bool.eq_false_iff.mpr c3
    subst c3
    have H1 : ((lex_isDigit.f a0).bind fun t149 => (if t149 = true then (some true) else (some (a0 == 95)))) = some r := by rw [if_neg (show ¬ (false = true) by decide)] at H; exact H
    clear H
    have H := H1
    clear H1
    replace H := Option.bind_eq_some_iff.mp H
    obtain ⟨t149, A40, H⟩ := H
    replace H : (if t149 = true then (some true) else (some (a0 == 95))) = some r := H
    have A4 := Aside0.mk A40
    clear A40
    by_cases c5 : t149 = true
    · subst c5
      have H1 : (some true) = some r := by rw [if_pos rfl] at H; exact H
      clear H
      have H := H1
      clear H1
      obtain rfl := Option.some.inj H
      go_enter Try.func63, Try.ntmps63
      go_wp2_with (first | ((with_reducible refine gate_callee (f := 46) rfl ?_); refine goesL_ (some 4) rfl rfl Try.func46 (by kernel_rfl) rfl #[.int .i32 a0] rfl (by (try simp only [List.map_toArray, List.map_cons, List.map_nil]); first | done | rfl | (simp only [List.length_drop, List.length_take]; rfl)) ?_; (with_reducible refine (lex_isLower.calls a0 false _ A2.out).mono ?_); rintro e w' ⟨rfl, ⟨nd, rfl⟩⟩; refine ⟨_, rfl, ?_⟩) | (go_at_call 47; (with_reducible refine (lex_isDigit.calls a0 true _ A4.out).mono ?_); rintro e w' ⟨rfl, ⟨nd, rfl⟩⟩))
      go_ret
      exact ⟨by first | rfl | (simp; done) | (simp [*]; done), by repeat (first | exact Drawn0.refl _ | apply Drawn0.step)⟩
    · replace c5 := Bool.eq_false_iff.mpr c5
      subst c5
      have H1 : (some (a0 == 95)) = some r := by rw [if_neg (show ¬ (false = true) by decide)] at H; exact H
      clear H
      have H := H1
      clear H1
      obtain rfl := Option.some.inj H
      go_enter Try.func63, Try.ntmps63
      go_wp2_with (first | ((with_reducible refine gate_callee (f := 46) rfl ?_); refine goesL_ (some 4) rfl rfl Try.func46 (by kernel_rfl) rfl #[.int .i32 a0] rfl (by (try simp only [List.map_toArray, List.map_cons, List.map_nil]); first | done | rfl | (simp only [List.length_drop, List.length_take]; rfl)) ?_; (with_reducible refine (lex_isLower.calls a0 false _ A2.out).mono ?_); rintro e w' ⟨rfl, ⟨nd, rfl⟩⟩; refine ⟨_, rfl, ?_⟩) | (go_at_call 47; (with_reducible refine (lex_isDigit.calls a0 false _ A4.out).mono ?_); rintro e w' ⟨rfl, ⟨nd, rfl⟩⟩))
      go_ret
      exact ⟨by first | rfl | (simp; done) | (simp [*]; done), by repeat (first | exact Drawn0.refl _ | apply Drawn0.step)⟩

/-! ### lex_scanner_token: function 64 (by hand) -/
def lex_scanner_token.f (s0_0 : ByteArray) (s0_1 : Int) (a1 : Int) (a2 : Int) : Option (Int × ByteArray × Int × ByteArray × Int) := if 0 ≤ s0_1 ∧ 0 ≤ a2 ∧ s0_1 + a2 ≤ (s0_0.size : Int) ∧ s0_0.size ≤ 140737488351232 then some (a1, s0_0.extract s0_1.toNat (s0_1 + a2).toNat, s0_1, s0_0, s0_1 + a2) else none
set_option maxHeartbeats 8000000 in
set_option maxRecDepth 100000 in
theorem lex_scanner_token.calls (g : Nat) (s0_0 : ByteArray) (s0_1 : Int) (a1 : Int) (a2 : Int) (r1 : Int) (r2 : ByteArray) (r3 : Int) (r4 : ByteArray) (r5 : Int) (w0 w : World) (hI : IsS60 w0 w g s0_0 s0_1) (hB : Below w0.heap.size w0 w) (h : lex_scanner_token.f s0_0 s0_1 a1 a2 = some (r1, r2, r3, r4, r5)) :
    Calls Try.prog 64 #[.pointer (some ⟨g, 0, none⟩), .int .i64 a1, .int .i64 a2] w fun e w' => e = .returned (.agg #[.int .i64 r1, .string r2, .int .i64 r3]) ∧ IsS60 w0 w' g r4 r5 ∧ Below w0.heap.size w0 w' ∧ KeepBut w w' g none := by
  unfold lex_scanner_token.f at h
  by_cases hg : 0 ≤ s0_1 ∧ 0 ≤ a2 ∧ s0_1 + a2 ≤ (s0_0.size : Int) ∧ s0_0.size ≤ 140737488351232
  · rw [if_pos hg] at h
    obtain ⟨h0, h1, h2, h3⟩ := hg
    simp only [Option.some.injEq, Prod.mk.injEq] at h
    obtain ⟨rfl, rfl, rfl, rfl, rfl⟩ := h
    have HI := Aside0.mk hI
    have HB := Aside0.mk hB
    have HK := Aside0.mk (KeepBut.refl w g none)
    obtain ⟨HG, hg⟩ := hI
    have hwr : wrap64 (s0_1 + a2) = s0_1 + a2 := by unfold wrap64; omega
    have p1 : s0_1 ≤ s0_1 + a2 := by omega
    clear HG hg hB
    go_enter Try.func64, Try.ntmps64
    go_upto_region 1 with (fail)
    have HI1 : Aside0 (IsS60 w0 (w.alloc (Obj.cells #[Value.int IntKind.i64 0, Value.string { data := #[] }, Value.int IntKind.i64 0] 32)) g s0_0 s0_1) := ⟨HI.out.alloc _⟩
    have HB1 : Aside0 (Below w0.heap.size w0 (w.alloc (Obj.cells #[Value.int IntKind.i64 0, Value.string { data := #[] }, Value.int IntKind.i64 0] 32))) := ⟨below_alloc HB.out _⟩
    have HK1 : Aside0 (KeepBut w (w.alloc (Obj.cells #[Value.int IntKind.i64 0, Value.string { data := #[] }, Value.int IntKind.i64 0] 32)) g none) := ⟨keep_alloc HK.out _⟩
    have HR := Aside0.mk (heap_alloc_new w (Obj.cells #[Value.int IntKind.i64 0, Value.string { data := #[] }, Value.int IntKind.i64 0] 32))
    obtain ⟨b6, hb6⟩ : ∃ b, b = w.heap.size := ⟨_, rfl⟩
    have hlt : g < b6 := by rw [hb6]; exact HI.out.lt
    have hz : (w.alloc (Obj.cells #[Value.int IntKind.i64 0, Value.string { data := #[] }, Value.int IntKind.i64 0] 32)).heap.size = b6 + 1 := by rw [hb6]; simp
    have HL6 : Aside0 (w.heap.size ≤ b6) := ⟨by omega⟩
    have HL7 : Aside0 (w0.heap.size ≤ b6) := ⟨by have := HI.out.ge; omega⟩
    rw [← hb6] at HR ⊢
    clear HI HB HK hb6
    generalize (w.alloc (Obj.cells #[Value.int IntKind.i64 0, Value.string { data := #[] }, Value.int IntKind.i64 0] 32)) = W at HI1 HB1 HK1 HR hz ⊢
    obtain ⟨HG, hg⟩ := HI1.out
    have c0 := cellS60_0 HG
    have c1 := cellS60_1 HG
    have f0 := blk_frozen HG 0
    have f1 := blk_frozen HG 1
    clear HG hg
    obtain ⟨HG, hg⟩ := (HI1.out.alloc (Obj.cells #[Value.int IntKind.i64 0, Value.string { data := #[] }, Value.int IntKind.i64 0] 32))
    have d0 := cellS60_0 HG
    have d1 := cellS60_1 HG
    clear HG hg
    go_big_region
    have HI2 : Aside0 (IsS60 w0 (W.alloc (Obj.cells #[Value.int IntKind.i64 a1, Value.string (s0_0.extract s0_1.toNat (s0_1 + a2).toNat), Value.int IntKind.i64 s0_1] 32)).drew g s0_0 s0_1) := ⟨(HI1.out.alloc _).drew⟩
    have HB2 : Aside0 (Below w0.heap.size w0 (W.alloc (Obj.cells #[Value.int IntKind.i64 a1, Value.string (s0_0.extract s0_1.toNat (s0_1 + a2).toNat), Value.int IntKind.i64 s0_1] 32)).drew) := ⟨below_drew1 (below_alloc HB1.out _)⟩
    have HK2 : Aside0 (KeepBut w (W.alloc (Obj.cells #[Value.int IntKind.i64 a1, Value.string (s0_0.extract s0_1.toNat (s0_1 + a2).toNat), Value.int IntKind.i64 s0_1] 32)).drew g none) := ⟨keep_drew (keep_alloc HK1.out _)⟩
    have HR2 : (W.alloc (Obj.cells #[Value.int IntKind.i64 a1, Value.string (s0_0.extract s0_1.toNat (s0_1 + a2).toNat), Value.int IntKind.i64 s0_1] 32)).drew.heap[b6]? = some (Obj.cells #[Value.int IntKind.i64 0, Value.string { data := #[] }, Value.int IntKind.i64 0] 32 (0, 0)) := (show (W.alloc (Obj.cells #[Value.int IntKind.i64 a1, Value.string (s0_0.extract s0_1.toNat (s0_1 + a2).toNat), Value.int IntKind.i64 s0_1] 32)).heap[b6]? = _ from blk_grown HR.out (World.grownBy_alloc W _ none) (by simp))
    have HS2 : (W.alloc (Obj.cells #[Value.int IntKind.i64 a1, Value.string (s0_0.extract s0_1.toNat (s0_1 + a2).toNat), Value.int IntKind.i64 s0_1] 32)).drew.heap[b6 + 1]? = some (Obj.cells #[Value.int IntKind.i64 a1, Value.string (s0_0.extract s0_1.toNat (s0_1 + a2).toNat), Value.int IntKind.i64 s0_1] 32 (0, 0)) := by rw [← hz]; exact heap_alloc_new W _
    have e0 := blk_cell HR2 0
    have e1 := blk_cell HR2 1
    have e2 := blk_cell HR2 2
    have k0 := blk_cell HS2 0
    have k1 := blk_cell HS2 1
    have k2 := blk_cell HS2 2
    have f6 := blk_frozen HR2 0
    have f7 := blk_frozen HR2 1
    have f8 := blk_frozen HR2 2
    clear c0 c1 d0 d1 f0 f1 HI1 HB1 HK1 HR hz
    generalize (W.alloc (Obj.cells #[Value.int IntKind.i64 a1, Value.string (s0_0.extract s0_1.toNat (s0_1 + a2).toNat), Value.int IntKind.i64 s0_1] 32)).drew = W2 at *
    obtain ⟨HG, hg⟩ := HI2.out
    have c1 := cellS60_1 HG
    have f1 := blk_frozen HG 1
    have HR3 := Aside0.mk HR2
    clear HG hg HR2 HS2
    go_wp2
    (try simp only [Exit.inBlock, Exit.then])
    refine bodyPost_ret (results_single rfl (.cell b6 32 #[.int .i64 a1, .string (s0_0.extract s0_1.toNat (s0_1 + a2).toNat), .int .i64 s0_1] (0, 0) _ rfl (by
      refine blk_put (cs := #[.int .i64 a1, .string (s0_0.extract s0_1.toNat (s0_1 + a2).toNat), .int .i64 0]) ?_ 2 _ rfl
      refine blk_put (cs := #[.int .i64 a1, .string { data := #[] }, .int .i64 0]) ?_ 1 _ rfl
      refine blk_put (cs := #[.int .i64 0, .string { data := #[] }, .int .i64 0]) ?_ 0 _ rfl
      exact (Below.heap_setCell W2 ⟨g, 1, none⟩ _ b6 (by simp; omega)).trans HR3.out) Try.underlying32 rfl (by kernel_rfl) .nil)) rfl ?_
    exact ⟨rfl, (((HI2.out.set_1 _).far (by simp; omega) _).far (by simp; omega) _).far (by simp; omega) _, below_set (below_set (below_set (below_set HB2.out (IsS60.ge HI2.out)) HL7.out) HL7.out) HL7.out, keep_far (keep_far (keep_far (KeepBut.set_ HK2.out _ _) HL6.out _) HL6.out _) HL6.out _⟩
  · rw [if_neg hg] at h; cases h

/-! ### lex_scanner_letters: function 48 (by hand) -/
def lex_scanner_letters.len (up : Int → Bool) (l : List Int) : Nat := (l.takeWhile up).length
theorem lex_scanner_letters.len_le (up : Int → Bool) (l : List Int) : lex_scanner_letters.len up l ≤ l.length := by
  unfold lex_scanner_letters.len
  exact (List.takeWhile_sublist up).length_le
theorem lex_scanner_letters.len_at (up : Int → Bool) (l : List Int) (k : Nat) (h : (l.take k).all up = true) (hk : k < l.length) (hn : up (rd l (k : Int)) = false) : lex_scanner_letters.len up l = k := by
  have hs : l = l.take k ++ (rd l (k : Int) :: l.drop (k + 1)) := by
    conv => lhs; rw [← List.take_append_drop k l, List.drop_eq_getElem_cons hk]
    congr 2
    unfold rd
    rw [Int.toNat_natCast, List.getD_eq_getElem?_getD, List.getElem?_eq_getElem hk]; rfl
  unfold lex_scanner_letters.len
  rw [hs, List.takeWhile_append_of_pos (by simpa using h)]
  rw [List.takeWhile_cons_of_neg (by simp [hn]), List.append_nil, List.length_take]
  omega
theorem lex_scanner_letters.len_all (up : Int → Bool) (l : List Int) (h : (l.take l.length).all up = true) : lex_scanner_letters.len up l = l.length := by
  rw [List.take_length] at h
  unfold lex_scanner_letters.len
  rw [show l.takeWhile up = l from by
    have := List.takeWhile_append_of_pos (l₂ := []) (show ∀ a ∈ l, up a = true by simpa using h)
    simpa using this]
theorem lex_scanner_letters.all_next (up : Int → Bool) (l : List Int) (k : Nat) (h : (l.take k).all up = true) (hk : k < l.length) (hs : up (rd l (k : Int)) = true) : (l.take (k + 1)).all up = true := by
  rw [List.take_add_one, List.getElem?_eq_getElem hk, List.all_append, h]
  have : rd l (k : Int) = l[k] := by
    unfold rd; rw [Int.toNat_natCast, List.getD_eq_getElem?_getD, List.getElem?_eq_getElem hk]; rfl
  rw [this] at hs
  simp [hs]
set_option maxHeartbeats 1000000 in
set_option maxRecDepth 100000 in
theorem lex_scanner_letters.run_calls (F : Nat) (eg : ∀ args W, (callFunc F args).run Try.prog W = .ok (.enter F args) W) (up : Int → Bool) (hh : ∀ c : Int, 128 ≤ c → up c = false)
    (hup : ∀ (c : Nat) (W : World), Calls Try.prog F #[.int .i32 (c : Int)] W fun e w' => e = .returned (.bool (up (c : Int))) ∧ Drawn0 W w') (a0 : ByteArray) (hs : a0.size ≤ 140737488351232) (w : World) :
    Calls Try.prog 62 #[.string a0, .func (.func F) #[] #[]] w fun e w' => e = .returned (.int .i64 (lex_scanner_letters.len up (bytesOf a0) : Nat)) ∧ Below w.heap.size w w' := by
  have HB := Aside0.mk (Below.refl w.heap.size w)
  have HH := Aside0.mk hh
  have HU := Aside0.mk hup
  clear hh hup
  go_enter Try.func62, Try.ntmps62
  go_wp2_with (first | ((with_reducible refine gate_dst (N := 8) rfl ?_); refine Go.Proofs.YtkbngfelegcplaaW.HandWords.hand_range w.heap.size rfl (N := 8) rfl 9 _ rfl Try.underlying9 a0 rfl HB.out (Nat.le_refl _) ?_; intro g w1 hbg hgl hg0 hb1; have n1_ := Aside0.mk hb1; have HG := Aside0.mk hg0; clear HB hg0 hb1; have HB := n1_; clear n1_))
  go_simp
  go_loopw [] (fun wr => ∃ k : Nat, k ≤ (bytesOf a0).length ∧ Aside0 (((bytesOf a0).take k).all up = true) ∧ Aside0 (wr.heap[g]? = some (.stringIter a0 k)) ∧ Aside0 (Below w.heap.size w wr)) (fun wr => a0.size - wr.iterPos g)
  case atStart => exact ⟨0, Nat.zero_le _, ⟨rfl⟩, HG, HB⟩
  case round =>
    clear HG HB
    obtain ⟨k, hkl0, HR, HG, HB⟩ := hrel
    have HM : Aside0 (wr.iterPos g = k) := ⟨by simp [World.iterPos, HG.out]⟩
    by_cases hp : k < a0.size
    · have hkl : k < (bytesOf a0).length := by rw [bytesOf_length]; exact hp
      have hrd : rd (bytesOf a0) (k : Int) = ((a0[k]'hp).toNat : Int) := by
        rw [rd_bytesOf]; unfold bt; rw [dif_pos (by simpa using hp)]; rfl
      obtain ⟨rn, hrn⟩ : ∃ rn : Nat, (Utf8.decode a0 k).1 = rn := ⟨_, rfl⟩
      obtain ⟨wd, hwd⟩ : ∃ wd : Nat, k + (Utf8.decode a0 k).2 = wd := ⟨_, rfl⟩
      have HE := Aside0.mk hrn
      have HW := Aside0.mk hwd
      have HC := Aside0.mk (HU.out rn)
      by_cases hsg : up (rn : Int) = true
      · have hasc : (a0[k]'hp).toNat < 128 := by
          rcases Nat.lt_or_ge (a0[k]'hp).toNat 128 with h1 | h1
          · exact h1
          · have hdec := decode_high a0 k hp h1
            rw [hrn] at hdec
            rw [HH.out _ (by omega)] at hsg; cases hsg
        have hdec := decode_ascii a0 k hp hasc
        have hrc : rd (bytesOf a0) (k : Int) = (rn : Int) := by rw [hrd, ← hrn, hdec]
        have hw1 : wd = k + 1 := by rw [← hwd, hdec]
        rw [hsg] at HC
        have HN := Aside0.mk (lex_scanner_letters.all_next up (bytesOf a0) k HR.out hkl (by rw [hrc]; exact hsg))
        subst hw1
        clear hrn hwd hdec hasc hrd hrc hsg HR
        go_wp2_with (first | ((with_reducible refine gate_dst (N := 9) rfl ?_); refine Go.Proofs.YtkbngfelegcplaaW.HandWords.hand_next (w0 := w) w.heap.size rfl (N := 9) rfl _ rfl g rfl a0 k HG.out hp hbg HB.out ?_; intro w1 hg1 hb1; rw [HW.out] at hg1; have n1_ := Aside0.mk hb1; have n2_ := Aside0.mk hg1; clear HB HG hg1 hb1; have HB := n1_; have HG := n2_; clear n1_ n2_; rw [HE.out]) | (go_at_fn F; refine (HC.out _).mono ?_; rintro e w' ⟨rfl, ⟨nd, rfl⟩⟩))
        go_roundw
        case rel => exact ⟨_, hkl, HN, HG, ⟨by repeat (first | exact HB.out | (with_reducible refine pw_below_drewN ?_ _))⟩⟩
        case measure =>
          have hm2 : w1.iterPos g = k + 1 := by simp [World.iterPos, HG.out]
          show a0.size - w1.iterPos g < a0.size - wr.iterPos g
          rw [hm2, HM.out]; omega
      · have hsg2 : up (rd (bytesOf a0) (k : Int)) = false := by
          rcases Nat.lt_or_ge (a0[k]'hp).toNat 128 with h1 | h1
          · have hdec := decode_ascii a0 k hp h1
            rw [hrd, show ((a0[k]'hp).toNat : Int) = (rn : Int) from by rw [← hrn, hdec]]
            exact Bool.eq_false_iff.2 hsg
          · rw [hrd]; exact HH.out _ (by omega)
        rw [Bool.eq_false_iff.2 hsg] at HC
        have HF : Aside0 (lex_scanner_letters.len up (bytesOf a0) = k) := ⟨lex_scanner_letters.len_at up (bytesOf a0) k HR.out hkl hsg2⟩
        clear hrn hwd hrd hsg hsg2 HR
        go_wp2_with (first | ((with_reducible refine gate_dst (N := 9) rfl ?_); refine Go.Proofs.YtkbngfelegcplaaW.HandWords.hand_next (w0 := w) w.heap.size rfl (N := 9) rfl _ rfl g rfl a0 k HG.out hp hbg HB.out ?_; intro w1 hg1 hb1; rw [HW.out] at hg1; have n1_ := Aside0.mk hb1; have n2_ := Aside0.mk hg1; clear HB HG hg1 hb1; have HB := n1_; have HG := n2_; clear n1_ n2_; rw [HE.out]) | (go_at_fn F; refine (HC.out _).mono ?_; rintro e w' ⟨rfl, ⟨nd, rfl⟩⟩))
        go_ret
        exact ⟨by rw [HF.out]; rfl, by repeat (first | exact HB.out | (with_reducible refine pw_below_drewN ?_ _))⟩
    · have hkl : k = (bytesOf a0).length := by rw [bytesOf_length] at hkl0 ⊢; omega
      have HF : Aside0 (lex_scanner_letters.len up (bytesOf a0) = a0.size) := ⟨by rw [lex_scanner_letters.len_all up _ (by have := HR.out; rw [hkl] at this; exact this), bytesOf_length]⟩
      clear hkl HR
      go_wp2_with (first | ((with_reducible refine gate_dst (N := 9) rfl ?_); refine Go.Proofs.YtkbngfelegcplaaW.HandWords.hand_next_end rfl (N := 9) rfl _ rfl g rfl a0 k HG.out hp ?_))
      go_ret
      exact ⟨by rw [HF.out]; rfl, HB.out⟩
def lex_scanner_letters.upper (c : Int) : Bool := decide (65 ≤ c) && decide (c ≤ 90)
def lex_scanner_letters.digit (c : Int) : Bool := decide (48 ≤ c) && decide (c ≤ 57)
def lex_scanner_letters.lower (c : Int) : Bool := decide (97 ≤ c) && decide (c ≤ 122)
def lex_scanner_letters.sign (c : Int) : Bool := lex_scanner_letters.lower c || lex_scanner_letters.digit c || c == 95
theorem lex_scanner_letters.upper_f (c : Int) : lex_isUpper.f c = some (lex_scanner_letters.upper c) := by
  unfold lex_isUpper.f lex_scanner_letters.upper
  by_cases h : c ≥ 65
  · rw [if_pos h, decide_eq_true (show 65 ≤ c from h), Bool.true_and]
  · rw [if_neg h, decide_eq_false (show ¬ 65 ≤ c from h), Bool.false_and]
theorem lex_scanner_letters.digit_f (c : Int) : lex_isDigit.f c = some (lex_scanner_letters.digit c) := by
  unfold lex_isDigit.f lex_scanner_letters.digit
  by_cases h : c ≥ 48
  · rw [if_pos h, decide_eq_true (show 48 ≤ c from h), Bool.true_and]
  · rw [if_neg h, decide_eq_false (show ¬ 48 ≤ c from h), Bool.false_and]
theorem lex_scanner_letters.lower_f (c : Int) : lex_isLower.f c = some (lex_scanner_letters.lower c) := by
  unfold lex_isLower.f lex_scanner_letters.lower
  by_cases h : c ≥ 97
  · rw [if_pos h, decide_eq_true (show 97 ≤ c from h), Bool.true_and]
  · rw [if_neg h, decide_eq_false (show ¬ 97 ≤ c from h), Bool.false_and]
theorem lex_scanner_letters.sign_f (c : Int) : lex_isSign.f c = some (lex_scanner_letters.sign c) := by
  unfold lex_isSign.f lex_scanner_letters.sign
  rw [lex_scanner_letters.lower_f, lex_scanner_letters.digit_f, Option.bind_some, Option.bind_some]
  cases lex_scanner_letters.lower c <;> cases lex_scanner_letters.digit c <;> rfl
theorem lex_scanner_letters.high {c : Int} (h : 128 ≤ c) : lex_scanner_letters.upper c = false ∧ lex_scanner_letters.digit c = false ∧ lex_scanner_letters.lower c = false ∧ lex_scanner_letters.sign c = false := by
  have h1 : lex_scanner_letters.upper c = false := by unfold lex_scanner_letters.upper; rw [decide_eq_false (show ¬ c ≤ 90 by omega)]; simp
  have h2 : lex_scanner_letters.digit c = false := by unfold lex_scanner_letters.digit; rw [decide_eq_false (show ¬ c ≤ 57 by omega)]; simp
  have h3 : lex_scanner_letters.lower c = false := by unfold lex_scanner_letters.lower; rw [decide_eq_false (show ¬ c ≤ 122 by omega)]; simp
  refine ⟨h1, h2, h3, ?_⟩
  unfold lex_scanner_letters.sign
  rw [h2, h3, beq_eq_false_iff_ne.mpr (show c ≠ 95 by omega)]; rfl
theorem lex_scanner_letters.run_upper (a0 : ByteArray) (hs : a0.size ≤ 140737488351232) (w : World) : Calls Try.prog 62 #[.string a0, .func (.func 45) #[] #[]] w fun e w' => e = .returned (.int .i64 (lex_scanner_letters.len lex_scanner_letters.upper (bytesOf a0) : Nat)) ∧ Below w.heap.size w w' :=
  lex_scanner_letters.run_calls 45 (enters_ Try.func45 (by kernel_rfl) rfl) lex_scanner_letters.upper (fun c h => (lex_scanner_letters.high h).1) (fun c W => lex_isUpper.calls _ _ W (lex_scanner_letters.upper_f _)) a0 hs w
theorem lex_scanner_letters.run_digit (a0 : ByteArray) (hs : a0.size ≤ 140737488351232) (w : World) : Calls Try.prog 62 #[.string a0, .func (.func 47) #[] #[]] w fun e w' => e = .returned (.int .i64 (lex_scanner_letters.len lex_scanner_letters.digit (bytesOf a0) : Nat)) ∧ Below w.heap.size w w' :=
  lex_scanner_letters.run_calls 47 (enters_ Try.func47 (by kernel_rfl) rfl) lex_scanner_letters.digit (fun c h => (lex_scanner_letters.high h).2.1) (fun c W => lex_isDigit.calls _ _ W (lex_scanner_letters.digit_f _)) a0 hs w
theorem lex_scanner_letters.run_sign (a0 : ByteArray) (hs : a0.size ≤ 140737488351232) (w : World) : Calls Try.prog 62 #[.string a0, .func (.func 63) #[] #[]] w fun e w' => e = .returned (.int .i64 (lex_scanner_letters.len lex_scanner_letters.sign (bytesOf a0) : Nat)) ∧ Below w.heap.size w w' :=
  lex_scanner_letters.run_calls 63 (enters_ Try.func63 (by kernel_rfl) rfl) lex_scanner_letters.sign (fun c h => (lex_scanner_letters.high h).2.2.2) (fun c W => lex_isSign.calls _ _ W (lex_scanner_letters.sign_f _)) a0 hs w

def lex_scanner_letters.kind (k : Int) : Int → Bool := if k = 1 then lex_scanner_letters.upper else if k = 2 then lex_scanner_letters.sign else lex_scanner_letters.digit
def lex_scanner_letters.bad (k : Int) (n : Nat) (c : Int) : Bool := if k = 1 then decide ((n : Int) > 32) else if k = 2 then decide ((n : Int) > 32) else (decide ((n : Int) > 19) || (decide ((n : Int) > 1) && c == 48))
def lex_scanner_letters.many (s : ByteArray) (at_ : Int) (k : Int) : Nat := lex_scanner_letters.len (lex_scanner_letters.kind k) (bytesOf (s.extract at_.toNat s.size))
def lex_scanner_letters.f (s0_0 : ByteArray) (s0_1 : Int) (a1 : Int) : Option (Int × ByteArray × Int × Bool × ByteArray × Int) :=
  if 0 ≤ s0_1 ∧ s0_1 ≤ (s0_0.size : Int) ∧ s0_0.size ≤ 140737488351232 then
    (if lex_scanner_letters.bad a1 (lex_scanner_letters.many s0_0 s0_1 a1) (bt s0_0 s0_1) = true then some (0, (⟨#[]⟩ : ByteArray), 0, false, s0_0, s0_1)
    else some (a1, s0_0.extract s0_1.toNat (s0_1 + (lex_scanner_letters.many s0_0 s0_1 a1 : Nat)).toNat, s0_1, true, s0_0, s0_1 + (lex_scanner_letters.many s0_0 s0_1 a1 : Nat))) else none
theorem lex_scanner_letters.many_le (s : ByteArray) (at_ k : Int) (h0 : 0 ≤ at_) (h1 : at_ ≤ (s.size : Int)) : at_ + (lex_scanner_letters.many s at_ k : Nat) ≤ (s.size : Int) := by
  have h := lex_scanner_letters.len_le (lex_scanner_letters.kind k) (bytesOf (s.extract at_.toNat s.size))
  rw [bytesOf_length] at h
  have h2 : (s.extract at_.toNat s.size).size = s.size - at_.toNat := by simp
  unfold lex_scanner_letters.many
  omega
set_option maxHeartbeats 8000000 in
set_option maxRecDepth 100000 in
theorem lex_scanner_letters.calls (g : Nat) (s0_0 : ByteArray) (s0_1 : Int) (a1 : Int) (r1 : Int) (r2 : ByteArray) (r3 : Int) (r4 : Bool) (r5 : ByteArray) (r6 : Int) (w0 w : World) (hI : IsS60 w0 w g s0_0 s0_1) (hB : Below w0.heap.size w0 w) (h : lex_scanner_letters.f s0_0 s0_1 a1 = some (r1, r2, r3, r4, r5, r6)) :
    Calls Try.prog 48 #[.pointer (some ⟨g, 0, none⟩), .int .i64 a1] w fun e w' => e = .returned (.tuple #[.agg #[.int .i64 r1, .string r2, .int .i64 r3], .bool r4]) ∧ IsS60 w0 w' g r5 r6 ∧ Below w0.heap.size w0 w' ∧ KeepBut w w' g none := by
  unfold lex_scanner_letters.f at h
  by_cases hg : 0 ≤ s0_1 ∧ s0_1 ≤ (s0_0.size : Int) ∧ s0_0.size ≤ 140737488351232
  · rw [if_pos hg] at h
    obtain ⟨h0, h1, h3⟩ := hg
    have H := Aside0.mk h
    have HI := Aside0.mk hI
    have HB := Aside0.mk hB
    have HK := Aside0.mk (KeepBut.refl w g none)
    obtain ⟨x, hxe⟩ : ∃ x, x = s0_0.extract s0_1.toNat s0_0.size := ⟨_, rfl⟩
    have RS : Aside0 (lex_scanner_rest.f s0_0 s0_1 = some (x, s0_0, s0_1)) := ⟨by unfold lex_scanner_rest.f; rw [if_pos h0, if_pos h1, hxe]⟩
    have hx : x.size ≤ 140737488351232 := by rw [hxe]; simp; omega
    have HML := Aside0.mk (lex_scanner_letters.many_le s0_0 s0_1 a1 h0 h1)
    obtain ⟨n, hn⟩ : ∃ n, n = lex_scanner_letters.many s0_0 s0_1 a1 := ⟨_, rfl⟩
    have HN : Aside0 (n = lex_scanner_letters.len (lex_scanner_letters.kind a1) (bytesOf x)) := ⟨by rw [hn, hxe]; rfl⟩
    have TK : Aside0 (lex_scanner_token.f s0_0 s0_1 a1 (n : Int) = some (a1, s0_0.extract s0_1.toNat (s0_1 + (n : Int)).toNat, s0_1, s0_0, s0_1 + (n : Int))) := ⟨by
      unfold lex_scanner_token.f
      rw [if_pos ⟨h0, by omega, by rw [hn]; exact HML.out, h3⟩]⟩
    rw [← hn] at H HML
    clear hn hxe h hI hB
    go_enter Try.func48, Try.ntmps48
    go_upto_region 1 with (fail)
    have n1_ : Aside0 (IsS60 w0 (w.alloc (Obj.cells #[Value.int IntKind.i64 0, Value.string { data := #[] }, Value.int IntKind.i64 0] 32)) g s0_0 s0_1) := ⟨HI.out.alloc _⟩
    have n2_ : Aside0 (Below w0.heap.size w0 (w.alloc (Obj.cells #[Value.int IntKind.i64 0, Value.string { data := #[] }, Value.int IntKind.i64 0] 32))) := ⟨below_alloc HB.out _⟩
    have n3_ : Aside0 (KeepBut w (w.alloc (Obj.cells #[Value.int IntKind.i64 0, Value.string { data := #[] }, Value.int IntKind.i64 0] 32)) g none) := ⟨keep_alloc HK.out _⟩
    have HR := Aside0.mk (heap_alloc_new w (Obj.cells #[Value.int IntKind.i64 0, Value.string { data := #[] }, Value.int IntKind.i64 0] 32))
    obtain ⟨b4, hb4⟩ : ∃ b, b = w.heap.size := ⟨_, rfl⟩
    have HL6 : Aside0 (w.heap.size ≤ b4) := ⟨by omega⟩
    have HL7 : Aside0 (w0.heap.size ≤ b4) := ⟨by have := HI.out.ge; have := HI.out.lt; omega⟩
    have NE : Aside0 (b4 ≠ g) := ⟨by have := HI.out.lt; omega⟩
    have hgb : g ≠ b4 := by have := HI.out.lt; omega
    rw [← hb4] at HR ⊢
    clear HI HB HK hb4
    generalize (w.alloc (Obj.cells #[Value.int IntKind.i64 0, Value.string { data := #[] }, Value.int IntKind.i64 0] 32)) = W at n1_ n2_ n3_ HR ⊢
    have HI := n1_
    have HB := n2_
    have HK := n3_
    clear n1_ n2_ n3_
    by_cases hk1 : a1 = 1
    · have hk1b : (a1 == 1) = true := beq_iff_eq.mpr hk1
      have HM : Aside0 (lex_scanner_letters.len lex_scanner_letters.upper (bytesOf x) = n) := ⟨by rw [HN.out]; unfold lex_scanner_letters.kind; rw [if_pos hk1]⟩
      have HBD : Aside0 (lex_scanner_letters.bad a1 n (bt s0_0 s0_1) = decide ((n : Int) > 32)) := ⟨by unfold lex_scanner_letters.bad; rw [if_pos hk1]⟩
      rw [HBD.out] at H
      clear HBD HN
      subst hk1
      by_cases hbad : (n : Int) > 32
      · have hbb : decide ((n : Int) > 32) = true := decide_eq_true hbad
        rw [if_pos hbb] at H
        have H2 := H.out
        simp only [Option.some.injEq, Prod.mk.injEq] at H2
        obtain ⟨rfl, rfl, rfl, rfl, rfl, rfl⟩ := H2
        clear H
        go_wp2_with (first | (go_at_call 61; (with_reducible refine (lex_scanner_rest.calls g s0_0 s0_1 _ _ _ w0 _ HI.out HB.out RS.out).mono ?_); rintro e w1 ⟨rfl, hI2, hB2, hK2⟩; have n1_ := Aside0.mk hI2; have n2_ := Aside0.mk hB2; have n3_ := Aside0.mk (KeepBut.blk hK2 HR.out NE.out (by simp)); have n4_ := Aside0.mk (KeepBut.trans HK.out hK2 (.inl rfl)); clear hI2 hB2 hK2 HI HB HK HR; have HI := n1_; have HB := n2_; have HR := n3_; have HK := n4_; clear n1_ n2_ n3_ n4_) | (go_at_call 62; (with_reducible refine (lex_scanner_letters.run_upper _ hx _).mono ?_); rintro e w2 ⟨rfl, hb⟩; have n1_ := Aside0.mk (HI.out.below (hb)); have n2_ := Aside0.mk (HB.out.trans (hb.mono HB.out.size)); have n3_ := Aside0.mk (blk_below HR.out hb); have n4_ := Aside0.mk (KeepBut.trans HK.out (KeepBut.of_below hb g none) (.inl rfl)); clear hb HI HB HK HR; have HI := n1_; have HB := n2_; have HR := n3_; have HK := n4_; clear n1_ n2_ n3_ n4_; rw [HM.out]; have e0 := blk_cell HR.out 0; have e1 := blk_cell HR.out 1; have e2 := blk_cell HR.out 2; have f0 := blk_frozen HR.out 0; have f1 := blk_frozen HR.out 1; have f2 := blk_frozen HR.out 2))
        (try simp only [Exit.inBlock, Exit.then])
        refine bodyPost_ret (results_ct rfl _ _ b4 32 #[.int .i64 0, .string { data := #[] }, .int .i64 0] (0, 0) _ rfl (by
          refine blk_put (cs := #[.int .i64 0, .string { data := #[] }, .int .i64 0]) ?_ 2 _ rfl
          refine blk_put (cs := #[.int .i64 0, .string { data := #[] }, .int .i64 0]) ?_ 1 _ rfl
          refine blk_put (cs := #[.int .i64 0, .string { data := #[] }, .int .i64 0]) ?_ 0 _ rfl
          exact HR.out) Try.underlying32 rfl (by kernel_rfl)) rfl ?_
        exact ⟨rfl, ((HI.out.far hgb _).far hgb _).far hgb _, below_set (below_set (below_set HB.out HL7.out) HL7.out) HL7.out, keep_far (keep_far (keep_far HK.out HL6.out _) HL6.out _) HL6.out _⟩
      · have hbb : decide ((n : Int) > 32) = false := decide_eq_false hbad
        rw [if_neg (by rw [hbb]; decide)] at H
        have H2 := H.out
        simp only [Option.some.injEq, Prod.mk.injEq] at H2
        obtain ⟨rfl, rfl, rfl, rfl, rfl, rfl⟩ := H2
        clear H
        go_wp2_with (first | (go_at_call 61; (with_reducible refine (lex_scanner_rest.calls g s0_0 s0_1 _ _ _ w0 _ HI.out HB.out RS.out).mono ?_); rintro e w1 ⟨rfl, hI2, hB2, hK2⟩; have n1_ := Aside0.mk hI2; have n2_ := Aside0.mk hB2; have n3_ := Aside0.mk (KeepBut.blk hK2 HR.out NE.out (by simp)); have n4_ := Aside0.mk (KeepBut.trans HK.out hK2 (.inl rfl)); clear hI2 hB2 hK2 HI HB HK HR; have HI := n1_; have HB := n2_; have HR := n3_; have HK := n4_; clear n1_ n2_ n3_ n4_) | (go_at_call 62; (with_reducible refine (lex_scanner_letters.run_upper _ hx _).mono ?_); rintro e w2 ⟨rfl, hb⟩; have n1_ := Aside0.mk (HI.out.below (hb)); have n2_ := Aside0.mk (HB.out.trans (hb.mono HB.out.size)); have n3_ := Aside0.mk (blk_below HR.out hb); have n4_ := Aside0.mk (KeepBut.trans HK.out (KeepBut.of_below hb g none) (.inl rfl)); clear hb HI HB HK HR; have HI := n1_; have HB := n2_; have HR := n3_; have HK := n4_; clear n1_ n2_ n3_ n4_; rw [HM.out]; have e0 := blk_cell HR.out 0; have e1 := blk_cell HR.out 1; have e2 := blk_cell HR.out 2; have f0 := blk_frozen HR.out 0; have f1 := blk_frozen HR.out 1; have f2 := blk_frozen HR.out 2) | (go_at_call 64; (with_reducible refine (lex_scanner_token.calls g s0_0 s0_1 1 _ _ _ _ _ _ w0 _ HI.out HB.out TK.out).mono ?_); rintro e w3 ⟨rfl, hI2, hB2, hK2⟩; have n1_ := Aside0.mk hI2; have n2_ := Aside0.mk hB2; have n3_ := Aside0.mk (KeepBut.blk hK2 HR.out NE.out (by simp)); have n4_ := Aside0.mk (KeepBut.trans HK.out hK2 (.inl rfl)); clear hI2 hB2 hK2 HI HB HK HR e0 e1 e2 f0 f1 f2; have HI := n1_; have HB := n2_; have HR := n3_; have HK := n4_; clear n1_ n2_ n3_ n4_; have e0 := blk_cell HR.out 0; have e1 := blk_cell HR.out 1; have e2 := blk_cell HR.out 2; have f0 := blk_frozen HR.out 0; have f1 := blk_frozen HR.out 1; have f2 := blk_frozen HR.out 2))
        (try simp only [Exit.inBlock, Exit.then])
        refine bodyPost_ret (results_ct rfl _ _ b4 32 #[.int .i64 1, .string (s0_0.extract s0_1.toNat (s0_1 + (n : Int)).toNat), .int .i64 s0_1] (0, 0) _ rfl (by
          refine blk_put (cs := #[.int .i64 1, .string (s0_0.extract s0_1.toNat (s0_1 + (n : Int)).toNat), .int .i64 0]) ?_ 2 _ rfl
          refine blk_put (cs := #[.int .i64 1, .string { data := #[] }, .int .i64 0]) ?_ 1 _ rfl
          refine blk_put (cs := #[.int .i64 0, .string { data := #[] }, .int .i64 0]) ?_ 0 _ rfl
          exact HR.out) Try.underlying32 rfl (by kernel_rfl)) rfl ?_
        exact ⟨rfl, ((HI.out.far hgb _).far hgb _).far hgb _, below_set (below_set (below_set HB.out HL7.out) HL7.out) HL7.out, keep_far (keep_far (keep_far HK.out HL6.out _) HL6.out _) HL6.out _⟩
    · have hk1b : (a1 == 1) = false := beq_eq_false_iff_ne.mpr hk1
      by_cases hk2 : a1 = 2
      · have hk2b : (a1 == 2) = true := beq_iff_eq.mpr hk2
        have HM : Aside0 (lex_scanner_letters.len lex_scanner_letters.sign (bytesOf x) = n) := ⟨by rw [HN.out]; unfold lex_scanner_letters.kind; rw [if_neg hk1, if_pos hk2]⟩
        have HBD : Aside0 (lex_scanner_letters.bad a1 n (bt s0_0 s0_1) = decide ((n : Int) > 32)) := ⟨by unfold lex_scanner_letters.bad; rw [if_neg hk1, if_pos hk2]⟩
        rw [HBD.out] at H
        clear HBD HN
        subst hk2
        by_cases hbad : (n : Int) > 32
        · have hbb : decide ((n : Int) > 32) = true := decide_eq_true hbad
          rw [if_pos hbb] at H
          have H2 := H.out
          simp only [Option.some.injEq, Prod.mk.injEq] at H2
          obtain ⟨rfl, rfl, rfl, rfl, rfl, rfl⟩ := H2
          clear H
          go_wp2_with (first | (go_at_call 61; (with_reducible refine (lex_scanner_rest.calls g s0_0 s0_1 _ _ _ w0 _ HI.out HB.out RS.out).mono ?_); rintro e w1 ⟨rfl, hI2, hB2, hK2⟩; have n1_ := Aside0.mk hI2; have n2_ := Aside0.mk hB2; have n3_ := Aside0.mk (KeepBut.blk hK2 HR.out NE.out (by simp)); have n4_ := Aside0.mk (KeepBut.trans HK.out hK2 (.inl rfl)); clear hI2 hB2 hK2 HI HB HK HR; have HI := n1_; have HB := n2_; have HR := n3_; have HK := n4_; clear n1_ n2_ n3_ n4_) | (go_at_call 62; (with_reducible refine (lex_scanner_letters.run_sign _ hx _).mono ?_); rintro e w2 ⟨rfl, hb⟩; have n1_ := Aside0.mk (HI.out.below (hb)); have n2_ := Aside0.mk (HB.out.trans (hb.mono HB.out.size)); have n3_ := Aside0.mk (blk_below HR.out hb); have n4_ := Aside0.mk (KeepBut.trans HK.out (KeepBut.of_below hb g none) (.inl rfl)); clear hb HI HB HK HR; have HI := n1_; have HB := n2_; have HR := n3_; have HK := n4_; clear n1_ n2_ n3_ n4_; rw [HM.out]; have e0 := blk_cell HR.out 0; have e1 := blk_cell HR.out 1; have e2 := blk_cell HR.out 2; have f0 := blk_frozen HR.out 0; have f1 := blk_frozen HR.out 1; have f2 := blk_frozen HR.out 2))
          (try simp only [Exit.inBlock, Exit.then])
          refine bodyPost_ret (results_ct rfl _ _ b4 32 #[.int .i64 0, .string { data := #[] }, .int .i64 0] (0, 0) _ rfl (by
            refine blk_put (cs := #[.int .i64 0, .string { data := #[] }, .int .i64 0]) ?_ 2 _ rfl
            refine blk_put (cs := #[.int .i64 0, .string { data := #[] }, .int .i64 0]) ?_ 1 _ rfl
            refine blk_put (cs := #[.int .i64 0, .string { data := #[] }, .int .i64 0]) ?_ 0 _ rfl
            exact HR.out) Try.underlying32 rfl (by kernel_rfl)) rfl ?_
          exact ⟨rfl, ((HI.out.far hgb _).far hgb _).far hgb _, below_set (below_set (below_set HB.out HL7.out) HL7.out) HL7.out, keep_far (keep_far (keep_far HK.out HL6.out _) HL6.out _) HL6.out _⟩
        · have hbb : decide ((n : Int) > 32) = false := decide_eq_false hbad
          rw [if_neg (by rw [hbb]; decide)] at H
          have H2 := H.out
          simp only [Option.some.injEq, Prod.mk.injEq] at H2
          obtain ⟨rfl, rfl, rfl, rfl, rfl, rfl⟩ := H2
          clear H
          go_wp2_with (first | (go_at_call 61; (with_reducible refine (lex_scanner_rest.calls g s0_0 s0_1 _ _ _ w0 _ HI.out HB.out RS.out).mono ?_); rintro e w1 ⟨rfl, hI2, hB2, hK2⟩; have n1_ := Aside0.mk hI2; have n2_ := Aside0.mk hB2; have n3_ := Aside0.mk (KeepBut.blk hK2 HR.out NE.out (by simp)); have n4_ := Aside0.mk (KeepBut.trans HK.out hK2 (.inl rfl)); clear hI2 hB2 hK2 HI HB HK HR; have HI := n1_; have HB := n2_; have HR := n3_; have HK := n4_; clear n1_ n2_ n3_ n4_) | (go_at_call 62; (with_reducible refine (lex_scanner_letters.run_sign _ hx _).mono ?_); rintro e w2 ⟨rfl, hb⟩; have n1_ := Aside0.mk (HI.out.below (hb)); have n2_ := Aside0.mk (HB.out.trans (hb.mono HB.out.size)); have n3_ := Aside0.mk (blk_below HR.out hb); have n4_ := Aside0.mk (KeepBut.trans HK.out (KeepBut.of_below hb g none) (.inl rfl)); clear hb HI HB HK HR; have HI := n1_; have HB := n2_; have HR := n3_; have HK := n4_; clear n1_ n2_ n3_ n4_; rw [HM.out]; have e0 := blk_cell HR.out 0; have e1 := blk_cell HR.out 1; have e2 := blk_cell HR.out 2; have f0 := blk_frozen HR.out 0; have f1 := blk_frozen HR.out 1; have f2 := blk_frozen HR.out 2) | (go_at_call 64; (with_reducible refine (lex_scanner_token.calls g s0_0 s0_1 2 _ _ _ _ _ _ w0 _ HI.out HB.out TK.out).mono ?_); rintro e w3 ⟨rfl, hI2, hB2, hK2⟩; have n1_ := Aside0.mk hI2; have n2_ := Aside0.mk hB2; have n3_ := Aside0.mk (KeepBut.blk hK2 HR.out NE.out (by simp)); have n4_ := Aside0.mk (KeepBut.trans HK.out hK2 (.inl rfl)); clear hI2 hB2 hK2 HI HB HK HR e0 e1 e2 f0 f1 f2; have HI := n1_; have HB := n2_; have HR := n3_; have HK := n4_; clear n1_ n2_ n3_ n4_; have e0 := blk_cell HR.out 0; have e1 := blk_cell HR.out 1; have e2 := blk_cell HR.out 2; have f0 := blk_frozen HR.out 0; have f1 := blk_frozen HR.out 1; have f2 := blk_frozen HR.out 2))
          (try simp only [Exit.inBlock, Exit.then])
          refine bodyPost_ret (results_ct rfl _ _ b4 32 #[.int .i64 2, .string (s0_0.extract s0_1.toNat (s0_1 + (n : Int)).toNat), .int .i64 s0_1] (0, 0) _ rfl (by
            refine blk_put (cs := #[.int .i64 2, .string (s0_0.extract s0_1.toNat (s0_1 + (n : Int)).toNat), .int .i64 0]) ?_ 2 _ rfl
            refine blk_put (cs := #[.int .i64 2, .string { data := #[] }, .int .i64 0]) ?_ 1 _ rfl
            refine blk_put (cs := #[.int .i64 0, .string { data := #[] }, .int .i64 0]) ?_ 0 _ rfl
            exact HR.out) Try.underlying32 rfl (by kernel_rfl)) rfl ?_
          exact ⟨rfl, ((HI.out.far hgb _).far hgb _).far hgb _, below_set (below_set (below_set HB.out HL7.out) HL7.out) HL7.out, keep_far (keep_far (keep_far HK.out HL6.out _) HL6.out _) HL6.out _⟩
      · have hk2b : (a1 == 2) = false := beq_eq_false_iff_ne.mpr hk2
        have HM : Aside0 (lex_scanner_letters.len lex_scanner_letters.digit (bytesOf x) = n) := ⟨by rw [HN.out]; unfold lex_scanner_letters.kind; rw [if_neg hk1, if_neg hk2]⟩
        have HBD : Aside0 (lex_scanner_letters.bad a1 n (bt s0_0 s0_1) = (decide ((n : Int) > 19) || (decide ((n : Int) > 1) && bt s0_0 s0_1 == 48))) := ⟨by unfold lex_scanner_letters.bad; rw [if_neg hk1, if_neg hk2]⟩
        rw [HBD.out] at H
        clear HBD HN
        by_cases hb19 : (n : Int) > 19
        · have hb19b : decide ((n : Int) > 19) = true := decide_eq_true hb19
          rw [hb19b, Bool.true_or, if_pos rfl] at H
          have H2 := H.out
          simp only [Option.some.injEq, Prod.mk.injEq] at H2
          obtain ⟨rfl, rfl, rfl, rfl, rfl, rfl⟩ := H2
          clear H
          go_upto_region 4 with (first | (go_at_call 61; (with_reducible refine (lex_scanner_rest.calls g s0_0 s0_1 _ _ _ w0 _ HI.out HB.out RS.out).mono ?_); rintro e w1 ⟨rfl, hI2, hB2, hK2⟩; have n1_ := Aside0.mk hI2; have n2_ := Aside0.mk hB2; have n3_ := Aside0.mk (KeepBut.blk hK2 HR.out NE.out (by simp)); have n4_ := Aside0.mk (KeepBut.trans HK.out hK2 (.inl rfl)); clear hI2 hB2 hK2 HI HB HK HR; have HI := n1_; have HB := n2_; have HR := n3_; have HK := n4_; clear n1_ n2_ n3_ n4_) | (go_at_call 62; (with_reducible refine (lex_scanner_letters.run_digit _ hx _).mono ?_); rintro e w2 ⟨rfl, hb⟩; have n1_ := Aside0.mk (HI.out.below (hb)); have n2_ := Aside0.mk (HB.out.trans (hb.mono HB.out.size)); have n3_ := Aside0.mk (blk_below HR.out hb); have n4_ := Aside0.mk (KeepBut.trans HK.out (KeepBut.of_below hb g none) (.inl rfl)); clear hb HI HB HK HR; have HI := n1_; have HB := n2_; have HR := n3_; have HK := n4_; clear n1_ n2_ n3_ n4_; rw [HM.out]; have e0 := blk_cell HR.out 0; have e1 := blk_cell HR.out 1; have e2 := blk_cell HR.out 2; have f0 := blk_frozen HR.out 0; have f1 := blk_frozen HR.out 1; have f2 := blk_frozen HR.out 2))
          have c0 := cellS60_0 HI.out.1
          have c1 := cellS60_1 HI.out.1
          go_quiet (fail)
          clear c0 c1
          have n1_ : Aside0 (IsS60 w0 (w2.drewN nq) g s0_0 s0_1) := ⟨HI.out.drewN _⟩
          have n2_ : Aside0 (Below w0.heap.size w0 (w2.drewN nq)) := ⟨pw_below_drewN HB.out _⟩
          have n3_ : Aside0 (KeepBut w (w2.drewN nq) g none) := ⟨keep_drewN HK.out _⟩
          have n4_ : (w2.drewN nq).heap[b4]? = some (Obj.cells #[Value.int IntKind.i64 0, Value.string { data := #[] }, Value.int IntKind.i64 0] 32 (0, 0)) := HR.out
          clear HI HB HK HR e0 e1 e2 f0 f1 f2
          generalize w2.drewN nq = w9 at n1_ n2_ n3_ n4_ ⊢
          have HI := n1_
          have HB := n2_
          have HK := n3_
          have HR := Aside0.mk n4_
          clear n1_ n2_ n3_ n4_
          have e0 := blk_cell HR.out 0
          have e1 := blk_cell HR.out 1
          have e2 := blk_cell HR.out 2
          have f0 := blk_frozen HR.out 0
          have f1 := blk_frozen HR.out 1
          have f2 := blk_frozen HR.out 2
          go_wp2
          (try simp only [Exit.inBlock, Exit.then])
          refine bodyPost_ret (results_ct rfl _ _ b4 32 #[.int .i64 0, .string { data := #[] }, .int .i64 0] (0, 0) _ rfl (by
            refine blk_put (cs := #[.int .i64 0, .string { data := #[] }, .int .i64 0]) ?_ 2 _ rfl
            refine blk_put (cs := #[.int .i64 0, .string { data := #[] }, .int .i64 0]) ?_ 1 _ rfl
            refine blk_put (cs := #[.int .i64 0, .string { data := #[] }, .int .i64 0]) ?_ 0 _ rfl
            exact HR.out) Try.underlying32 rfl (by kernel_rfl)) rfl ?_
          exact ⟨rfl, ((HI.out.far hgb _).far hgb _).far hgb _, below_set (below_set (below_set HB.out HL7.out) HL7.out) HL7.out, keep_far (keep_far (keep_far HK.out HL6.out _) HL6.out _) HL6.out _⟩
        · have hb19b : decide ((n : Int) > 19) = false := decide_eq_false hb19
          by_cases hb1 : (n : Int) > 1
          · have hb1b : decide ((n : Int) > 1) = true := decide_eq_true hb1
            have hat : s0_1 < (s0_0.size : Int) := by have := HML.out; omega
            have hix := bt_at s0_0 s0_1
            have p4 := eq_true h0
            have q4 := eq_true hat
            by_cases h48 : bt s0_0 s0_1 = 48
            · have h48b : (bt s0_0 s0_1 == 48) = true := beq_iff_eq.mpr h48
              rw [hb19b, hb1b, h48b, if_pos (by decide)] at H
              have H2 := H.out
              simp only [Option.some.injEq, Prod.mk.injEq] at H2
              obtain ⟨rfl, rfl, rfl, rfl, rfl, rfl⟩ := H2
              clear H
              go_upto_region 4 with (first | (go_at_call 61; (with_reducible refine (lex_scanner_rest.calls g s0_0 s0_1 _ _ _ w0 _ HI.out HB.out RS.out).mono ?_); rintro e w1 ⟨rfl, hI2, hB2, hK2⟩; have n1_ := Aside0.mk hI2; have n2_ := Aside0.mk hB2; have n3_ := Aside0.mk (KeepBut.blk hK2 HR.out NE.out (by simp)); have n4_ := Aside0.mk (KeepBut.trans HK.out hK2 (.inl rfl)); clear hI2 hB2 hK2 HI HB HK HR; have HI := n1_; have HB := n2_; have HR := n3_; have HK := n4_; clear n1_ n2_ n3_ n4_) | (go_at_call 62; (with_reducible refine (lex_scanner_letters.run_digit _ hx _).mono ?_); rintro e w2 ⟨rfl, hb⟩; have n1_ := Aside0.mk (HI.out.below (hb)); have n2_ := Aside0.mk (HB.out.trans (hb.mono HB.out.size)); have n3_ := Aside0.mk (blk_below HR.out hb); have n4_ := Aside0.mk (KeepBut.trans HK.out (KeepBut.of_below hb g none) (.inl rfl)); clear hb HI HB HK HR; have HI := n1_; have HB := n2_; have HR := n3_; have HK := n4_; clear n1_ n2_ n3_ n4_; rw [HM.out]; have e0 := blk_cell HR.out 0; have e1 := blk_cell HR.out 1; have e2 := blk_cell HR.out 2; have f0 := blk_frozen HR.out 0; have f1 := blk_frozen HR.out 1; have f2 := blk_frozen HR.out 2))
              have c0 := cellS60_0 HI.out.1
              have c1 := cellS60_1 HI.out.1
              go_quiet (fail)
              clear c0 c1
              have n1_ : Aside0 (IsS60 w0 (w2.drewN nq) g s0_0 s0_1) := ⟨HI.out.drewN _⟩
              have n2_ : Aside0 (Below w0.heap.size w0 (w2.drewN nq)) := ⟨pw_below_drewN HB.out _⟩
              have n3_ : Aside0 (KeepBut w (w2.drewN nq) g none) := ⟨keep_drewN HK.out _⟩
              have n4_ : (w2.drewN nq).heap[b4]? = some (Obj.cells #[Value.int IntKind.i64 0, Value.string { data := #[] }, Value.int IntKind.i64 0] 32 (0, 0)) := HR.out
              clear HI HB HK HR e0 e1 e2 f0 f1 f2
              generalize w2.drewN nq = w9 at n1_ n2_ n3_ n4_ ⊢
              have HI := n1_
              have HB := n2_
              have HK := n3_
              have HR := Aside0.mk n4_
              clear n1_ n2_ n3_ n4_
              have e0 := blk_cell HR.out 0
              have e1 := blk_cell HR.out 1
              have e2 := blk_cell HR.out 2
              have f0 := blk_frozen HR.out 0
              have f1 := blk_frozen HR.out 1
              have f2 := blk_frozen HR.out 2
              go_wp2
              (try simp only [Exit.inBlock, Exit.then])
              refine bodyPost_ret (results_ct rfl _ _ b4 32 #[.int .i64 0, .string { data := #[] }, .int .i64 0] (0, 0) _ rfl (by
                refine blk_put (cs := #[.int .i64 0, .string { data := #[] }, .int .i64 0]) ?_ 2 _ rfl
                refine blk_put (cs := #[.int .i64 0, .string { data := #[] }, .int .i64 0]) ?_ 1 _ rfl
                refine blk_put (cs := #[.int .i64 0, .string { data := #[] }, .int .i64 0]) ?_ 0 _ rfl
                exact HR.out) Try.underlying32 rfl (by kernel_rfl)) rfl ?_
              exact ⟨rfl, ((HI.out.far hgb _).far hgb _).far hgb _, below_set (below_set (below_set HB.out HL7.out) HL7.out) HL7.out, keep_far (keep_far (keep_far HK.out HL6.out _) HL6.out _) HL6.out _⟩
            · have h48b : (bt s0_0 s0_1 == 48) = false := beq_eq_false_iff_ne.mpr h48
              rw [hb19b, hb1b, h48b, if_neg (by decide)] at H
              have H2 := H.out
              simp only [Option.some.injEq, Prod.mk.injEq] at H2
              obtain ⟨rfl, rfl, rfl, rfl, rfl, rfl⟩ := H2
              clear H
              go_upto_region 4 with (first | (go_at_call 61; (with_reducible refine (lex_scanner_rest.calls g s0_0 s0_1 _ _ _ w0 _ HI.out HB.out RS.out).mono ?_); rintro e w1 ⟨rfl, hI2, hB2, hK2⟩; have n1_ := Aside0.mk hI2; have n2_ := Aside0.mk hB2; have n3_ := Aside0.mk (KeepBut.blk hK2 HR.out NE.out (by simp)); have n4_ := Aside0.mk (KeepBut.trans HK.out hK2 (.inl rfl)); clear hI2 hB2 hK2 HI HB HK HR; have HI := n1_; have HB := n2_; have HR := n3_; have HK := n4_; clear n1_ n2_ n3_ n4_) | (go_at_call 62; (with_reducible refine (lex_scanner_letters.run_digit _ hx _).mono ?_); rintro e w2 ⟨rfl, hb⟩; have n1_ := Aside0.mk (HI.out.below (hb)); have n2_ := Aside0.mk (HB.out.trans (hb.mono HB.out.size)); have n3_ := Aside0.mk (blk_below HR.out hb); have n4_ := Aside0.mk (KeepBut.trans HK.out (KeepBut.of_below hb g none) (.inl rfl)); clear hb HI HB HK HR; have HI := n1_; have HB := n2_; have HR := n3_; have HK := n4_; clear n1_ n2_ n3_ n4_; rw [HM.out]; have e0 := blk_cell HR.out 0; have e1 := blk_cell HR.out 1; have e2 := blk_cell HR.out 2; have f0 := blk_frozen HR.out 0; have f1 := blk_frozen HR.out 1; have f2 := blk_frozen HR.out 2))
              have c0 := cellS60_0 HI.out.1
              have c1 := cellS60_1 HI.out.1
              go_quiet (fail)
              clear c0 c1
              have n1_ : Aside0 (IsS60 w0 (w2.drewN nq) g s0_0 s0_1) := ⟨HI.out.drewN _⟩
              have n2_ : Aside0 (Below w0.heap.size w0 (w2.drewN nq)) := ⟨pw_below_drewN HB.out _⟩
              have n3_ : Aside0 (KeepBut w (w2.drewN nq) g none) := ⟨keep_drewN HK.out _⟩
              have n4_ : (w2.drewN nq).heap[b4]? = some (Obj.cells #[Value.int IntKind.i64 0, Value.string { data := #[] }, Value.int IntKind.i64 0] 32 (0, 0)) := HR.out
              clear HI HB HK HR e0 e1 e2 f0 f1 f2
              generalize w2.drewN nq = w9 at n1_ n2_ n3_ n4_ ⊢
              have HI := n1_
              have HB := n2_
              have HK := n3_
              have HR := Aside0.mk n4_
              clear n1_ n2_ n3_ n4_
              have e0 := blk_cell HR.out 0
              have e1 := blk_cell HR.out 1
              have e2 := blk_cell HR.out 2
              have f0 := blk_frozen HR.out 0
              have f1 := blk_frozen HR.out 1
              have f2 := blk_frozen HR.out 2
              go_wp2_with (first | (go_at_call 64; (with_reducible refine (lex_scanner_token.calls g s0_0 s0_1 a1 _ _ _ _ _ _ w0 _ HI.out HB.out TK.out).mono ?_); rintro e w3 ⟨rfl, hI2, hB2, hK2⟩; have n1_ := Aside0.mk hI2; have n2_ := Aside0.mk hB2; have n3_ := Aside0.mk (KeepBut.blk hK2 HR.out NE.out (by simp)); have n4_ := Aside0.mk (KeepBut.trans HK.out hK2 (.inl rfl)); clear hI2 hB2 hK2 HI HB HK HR e0 e1 e2 f0 f1 f2; have HI := n1_; have HB := n2_; have HR := n3_; have HK := n4_; clear n1_ n2_ n3_ n4_; have e0 := blk_cell HR.out 0; have e1 := blk_cell HR.out 1; have e2 := blk_cell HR.out 2; have f0 := blk_frozen HR.out 0; have f1 := blk_frozen HR.out 1; have f2 := blk_frozen HR.out 2))
              (try simp only [Exit.inBlock, Exit.then])
              refine bodyPost_ret (results_ct rfl _ _ b4 32 #[.int .i64 a1, .string (s0_0.extract s0_1.toNat (s0_1 + (n : Int)).toNat), .int .i64 s0_1] (0, 0) _ rfl (by
                refine blk_put (cs := #[.int .i64 a1, .string (s0_0.extract s0_1.toNat (s0_1 + (n : Int)).toNat), .int .i64 0]) ?_ 2 _ rfl
                refine blk_put (cs := #[.int .i64 a1, .string { data := #[] }, .int .i64 0]) ?_ 1 _ rfl
                refine blk_put (cs := #[.int .i64 0, .string { data := #[] }, .int .i64 0]) ?_ 0 _ rfl
                exact HR.out) Try.underlying32 rfl (by kernel_rfl)) rfl ?_
              exact ⟨rfl, ((HI.out.far hgb _).far hgb _).far hgb _, below_set (below_set (below_set HB.out HL7.out) HL7.out) HL7.out, keep_far (keep_far (keep_far HK.out HL6.out _) HL6.out _) HL6.out _⟩
          · have hb1b : decide ((n : Int) > 1) = false := decide_eq_false hb1
            rw [hb19b, hb1b, Bool.false_and, if_neg (by decide)] at H
            have H2 := H.out
            simp only [Option.some.injEq, Prod.mk.injEq] at H2
            obtain ⟨rfl, rfl, rfl, rfl, rfl, rfl⟩ := H2
            clear H
            go_upto_region 4 with (first | (go_at_call 61; (with_reducible refine (lex_scanner_rest.calls g s0_0 s0_1 _ _ _ w0 _ HI.out HB.out RS.out).mono ?_); rintro e w1 ⟨rfl, hI2, hB2, hK2⟩; have n1_ := Aside0.mk hI2; have n2_ := Aside0.mk hB2; have n3_ := Aside0.mk (KeepBut.blk hK2 HR.out NE.out (by simp)); have n4_ := Aside0.mk (KeepBut.trans HK.out hK2 (.inl rfl)); clear hI2 hB2 hK2 HI HB HK HR; have HI := n1_; have HB := n2_; have HR := n3_; have HK := n4_; clear n1_ n2_ n3_ n4_) | (go_at_call 62; (with_reducible refine (lex_scanner_letters.run_digit _ hx _).mono ?_); rintro e w2 ⟨rfl, hb⟩; have n1_ := Aside0.mk (HI.out.below (hb)); have n2_ := Aside0.mk (HB.out.trans (hb.mono HB.out.size)); have n3_ := Aside0.mk (blk_below HR.out hb); have n4_ := Aside0.mk (KeepBut.trans HK.out (KeepBut.of_below hb g none) (.inl rfl)); clear hb HI HB HK HR; have HI := n1_; have HB := n2_; have HR := n3_; have HK := n4_; clear n1_ n2_ n3_ n4_; rw [HM.out]; have e0 := blk_cell HR.out 0; have e1 := blk_cell HR.out 1; have e2 := blk_cell HR.out 2; have f0 := blk_frozen HR.out 0; have f1 := blk_frozen HR.out 1; have f2 := blk_frozen HR.out 2))
            have c0 := cellS60_0 HI.out.1
            have c1 := cellS60_1 HI.out.1
            go_quiet (fail)
            clear c0 c1
            have n1_ : Aside0 (IsS60 w0 (w2.drewN nq) g s0_0 s0_1) := ⟨HI.out.drewN _⟩
            have n2_ : Aside0 (Below w0.heap.size w0 (w2.drewN nq)) := ⟨pw_below_drewN HB.out _⟩
            have n3_ : Aside0 (KeepBut w (w2.drewN nq) g none) := ⟨keep_drewN HK.out _⟩
            have n4_ : (w2.drewN nq).heap[b4]? = some (Obj.cells #[Value.int IntKind.i64 0, Value.string { data := #[] }, Value.int IntKind.i64 0] 32 (0, 0)) := HR.out
            clear HI HB HK HR e0 e1 e2 f0 f1 f2
            generalize w2.drewN nq = w9 at n1_ n2_ n3_ n4_ ⊢
            have HI := n1_
            have HB := n2_
            have HK := n3_
            have HR := Aside0.mk n4_
            clear n1_ n2_ n3_ n4_
            have e0 := blk_cell HR.out 0
            have e1 := blk_cell HR.out 1
            have e2 := blk_cell HR.out 2
            have f0 := blk_frozen HR.out 0
            have f1 := blk_frozen HR.out 1
            have f2 := blk_frozen HR.out 2
            go_wp2_with (first | (go_at_call 64; (with_reducible refine (lex_scanner_token.calls g s0_0 s0_1 a1 _ _ _ _ _ _ w0 _ HI.out HB.out TK.out).mono ?_); rintro e w3 ⟨rfl, hI2, hB2, hK2⟩; have n1_ := Aside0.mk hI2; have n2_ := Aside0.mk hB2; have n3_ := Aside0.mk (KeepBut.blk hK2 HR.out NE.out (by simp)); have n4_ := Aside0.mk (KeepBut.trans HK.out hK2 (.inl rfl)); clear hI2 hB2 hK2 HI HB HK HR e0 e1 e2 f0 f1 f2; have HI := n1_; have HB := n2_; have HR := n3_; have HK := n4_; clear n1_ n2_ n3_ n4_; have e0 := blk_cell HR.out 0; have e1 := blk_cell HR.out 1; have e2 := blk_cell HR.out 2; have f0 := blk_frozen HR.out 0; have f1 := blk_frozen HR.out 1; have f2 := blk_frozen HR.out 2))
            (try simp only [Exit.inBlock, Exit.then])
            refine bodyPost_ret (results_ct rfl _ _ b4 32 #[.int .i64 a1, .string (s0_0.extract s0_1.toNat (s0_1 + (n : Int)).toNat), .int .i64 s0_1] (0, 0) _ rfl (by
              refine blk_put (cs := #[.int .i64 a1, .string (s0_0.extract s0_1.toNat (s0_1 + (n : Int)).toNat), .int .i64 0]) ?_ 2 _ rfl
              refine blk_put (cs := #[.int .i64 a1, .string { data := #[] }, .int .i64 0]) ?_ 1 _ rfl
              refine blk_put (cs := #[.int .i64 0, .string { data := #[] }, .int .i64 0]) ?_ 0 _ rfl
              exact HR.out) Try.underlying32 rfl (by kernel_rfl)) rfl ?_
            exact ⟨rfl, ((HI.out.far hgb _).far hgb _).far hgb _, below_set (below_set (below_set HB.out HL7.out) HL7.out) HL7.out, keep_far (keep_far (keep_far HK.out HL6.out _) HL6.out _) HL6.out _⟩
  · rw [if_neg hg] at h; cases h

-- NOT PRINTED: function 65 (lex_signs)

/-! ### lex_begins: function 66 -/
def lex_begins.f (a0 : ByteArray) (a1 : ByteArray) : Option (Bool) := if (a0.size : Int) ≥ (a1.size : Int) then (if 0 ≤ (a1.size : Int) then (if (a1.size : Int) ≤ (a0.size : Int) then (some ((a0.extract 0 ((a1.size : Int) : Int).toNat).toList == a1.toList)) else (none)) else (none)) else (some false)
set_option maxHeartbeats 8000000 in
set_option maxRecDepth 100000 in
theorem lex_begins.calls (a0 : ByteArray) (a1 : ByteArray) (r : Bool) (w : World) (h : lex_begins.f a0 a1 = some r) :
    Calls Try.prog 66 #[.string a0, .string a1] w fun e w' => e = .returned (.bool r) ∧ Drawn0 w w' := by
  have H : (if (a0.size : Int) ≥ (a1.size : Int) then (if 0 ≤ (a1.size : Int) then (if (a1.size : Int) ≤ (a0.size : Int) then (some ((a0.extract 0 ((a1.size : Int) : Int).toNat).toList == a1.toList)) else (none)) else (none)) else (some false)) = some r := h
  clear h
  by_cases c3 : (a0.size : Int) ≥ (a1.size : Int)
  · rw [if_pos c3] at H
    have c3b0 : decide ((a1.size : Int) ≤ (a0.size : Int)) = true := decide_eq_true c3
    have c3b1 : decide (a1.size ≤ a0.size) = true := decide_eq_true (Int.ofNat_le.mp c3)
    clear c3
    by_cases c4 : 0 ≤ (a1.size : Int)
    · rw [if_pos c4] at H
      have c4b0 := eq_true c4
      have c4b1 : decide (0 ≤ (a1.size : Int)) = true := decide_eq_true c4
      clear c4
      by_cases c5 : (a1.size : Int) ≤ (a0.size : Int)
      · rw [if_pos c5] at H
        have c5b0 := eq_true c5
        have c5b1 : decide ((a1.size : Int) ≤ (a0.size : Int)) = true := decide_eq_true c5
        clear c5
        obtain rfl := Option.some.inj H
        go_enter Try.func66, Try.ntmps66
        go_wp2
        go_ret
        exact ⟨by first | rfl | (simp; done) | (simp [*]; done), by repeat (first | exact Drawn0.refl _ | apply Drawn0.step)⟩
      · rw [if_neg c5] at H
        exact absurd H (by simp)
    · rw [if_neg c4] at H
      exact absurd H (by simp)
  · rw [if_neg c3] at H
    have c3b0 : decide ((a1.size : Int) ≤ (a0.size : Int)) = false := decide_eq_false c3
    have c3b1 : decide (a1.size ≤ a0.size) = false := decide_eq_false (fun h => c3 (Int.ofNat_le.mpr h))
    clear c3
    obtain rfl := Option.some.inj H
    go_enter Try.func66, Try.ntmps66
    go_wp2
    go_ret
    exact ⟨by first | rfl | (simp; done) | (simp [*]; done), by repeat (first | exact Drawn0.refl _ | apply Drawn0.step)⟩

end Go.Proofs.Ytkbngfelegcplaa.PAll
