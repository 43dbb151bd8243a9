/- Functions of the Go program as plain Lean functions, and the proofs that the code comes to just their answers; of a law, the row. Written by a program of this session (wip/myprint.py over the given print). No condition. -/
import Derived.Test.YtkbngfelegcplaaPAllx0
import Derived.Test.YtkbngfelegcplaaPAllx2
import Derived.Test.YtkbngfelegcplaaPAllx3
import Derived.Test.YtkbngfelegcplaaPAllx4
namespace Go.Proofs.Ytkbngfelegcplaa.PAll
open Go.RowKit Go.Proofs.YtkbngfelegcplaaW.PrintWords Go.Proofs.YtkbngfelegcplaaW.PrintLast Go.Proofs.YtkbngfelegcplaaW.PrintMore
attribute [local go_sem] max2_int min2_int max_two min_two max_three min_three max_four min_four   -- for this text's walks alone
set_option linter.unusedVariables false
set_option linter.unusedSimpArgs false

/-! ### lex_scanner_next: function 34 (by hand) -/
def lex_scanner_next.kind (c : Int) : Int := if lex_scanner_letters.upper c = true then 1 else if lex_scanner_letters.lower c = true then 2 else if lex_scanner_letters.digit c = true then 3 else 5
def lex_scanner_next.one (s : ByteArray) (at_ : Int) : Option (Int × ByteArray × Int × Bool × ByteArray × Int) := if lex_scanner_next.kind (bt s at_) = 5 then lex_scanner_sign.f s at_ else lex_scanner_letters.f s at_ (lex_scanner_next.kind (bt s at_))
def lex_scanner_next.f (k : Nat) (s0_0 : ByteArray) (s0_1 : Int) : Option (Int × ByteArray × Int × Int × Int × ByteArray × Int) :=
  if 0 ≤ s0_1 ∧ s0_1 < (s0_0.size : Int) then
    (if bt s0_0 s0_1 = 39 then lex_scanner_text.f k s0_0 s0_1
    else (lex_scanner_next.one s0_0 s0_1).bind fun t => (if t.2.2.2.1 = true then some (t.1, t.2.1, t.2.2.1, t.2.2.2.2.2, 0, t.2.2.2.2.1, t.2.2.2.2.2) else some (0, (⟨#[]⟩ : ByteArray), 0, s0_1, 4, t.2.2.2.2.1, t.2.2.2.2.2)))
  else none
theorem lex_scanner_next.mono : ∀ a0 a1 k, LeO (lex_scanner_next.f k a0 a1) (lex_scanner_next.f (k + 1) a0 a1) := by
  intro a0 a1 k
  unfold lex_scanner_next.f
  exact LeO.ite (LeO.ite (lex_scanner_text.mono _ _ _) (LeO.refl _)) (LeO.refl _)
set_option maxHeartbeats 16000000 in
set_option maxRecDepth 100000 in
theorem lex_scanner_next.calls (k : Nat) (g : Nat) (s0_0 : ByteArray) (s0_1 : Int) (r1 : Int) (r2 : ByteArray) (r3 : Int) (r4 : Int) (r5 : Int) (r6 : ByteArray) (r7 : Int) (w0 w : World) (hI : IsS60 w0 w g s0_0 s0_1) (hB : Below w0.heap.size w0 w) (h : lex_scanner_next.f k s0_0 s0_1 = some (r1, r2, r3, r4, r5, r6, r7)) :
    Calls Try.prog 34 #[.pointer (some ⟨g, 0, none⟩)] w fun e w' => e = .returned (.tuple #[.agg #[.int .i64 r1, .string r2, .int .i64 r3], .int .i64 r4, .int .i64 r5]) ∧ IsS60 w0 w' g r6 r7 ∧ Below w0.heap.size w0 w' ∧ KeepBut w w' g none := by
  unfold lex_scanner_next.f at h
  by_cases hg : 0 ≤ s0_1 ∧ s0_1 < (s0_0.size : Int)
  · rw [if_pos hg] at h
    obtain ⟨h0, h1⟩ := hg
    have H := Aside0.mk h
    have HI := Aside0.mk hI
    have HB := Aside0.mk hB
    have HK := Aside0.mk (KeepBut.refl w g none)
    have hw32 : wrap32 (bt s0_0 s0_1) = bt s0_0 s0_1 := by
      have hv := bt_range s0_0 s0_1.toNat
      rw [show ((s0_1.toNat : Nat) : Int) = s0_1 from by omega] at hv
      unfold wrap32; omega
    clear h hI hB
    go_enter Try.func34, Try.ntmps34
    go_upto_region 1 with (fail)
    have n1_ : Aside0 (IsS60 w0 (w.alloc (Obj.cells #[Value.int IntKind.i64 0, Value.string { data := #[] }, Value.int IntKind.i64 0] 32)) g s0_0 s0_1) := ⟨HI.out.alloc _⟩
    have n2_ : Aside0 (Below w0.heap.size w0 (w.alloc (Obj.cells #[Value.int IntKind.i64 0, Value.string { data := #[] }, Value.int IntKind.i64 0] 32))) := ⟨below_alloc HB.out _⟩
    have n3_ : Aside0 (KeepBut w (w.alloc (Obj.cells #[Value.int IntKind.i64 0, Value.string { data := #[] }, Value.int IntKind.i64 0] 32)) g none) := ⟨keep_alloc HK.out _⟩
    have HR := Aside0.mk (heap_alloc_new w (Obj.cells #[Value.int IntKind.i64 0, Value.string { data := #[] }, Value.int IntKind.i64 0] 32))
    obtain ⟨b2, hb2⟩ : ∃ b, b = w.heap.size := ⟨_, rfl⟩
    have HL6 : Aside0 (w.heap.size ≤ b2) := ⟨by omega⟩
    have HL7 : Aside0 (w0.heap.size ≤ b2) := ⟨by have := HI.out.ge; have := HI.out.lt; omega⟩
    have NE : Aside0 (b2 ≠ g) := ⟨by have := HI.out.lt; omega⟩
    have hgb : g ≠ b2 := by have := HI.out.lt; omega
    rw [← hb2] at HR ⊢
    clear HI HB HK hb2
    generalize (w.alloc (Obj.cells #[Value.int IntKind.i64 0, Value.string { data := #[] }, Value.int IntKind.i64 0] 32)) = W at n1_ n2_ n3_ HR ⊢
    have HI := n1_
    have HB := n2_
    have HK := n3_
    clear n1_ n2_ n3_
    have c0 := cellS60_0 HI.out.1
    have c1 := cellS60_1 HI.out.1
    have hix := bt_at s0_0 s0_1
    have p4 := eq_true h0
    have q4 := eq_true h1
    go_upto_region 2 with (fail)
    go_quiet (fail)
    clear c0 c1
    have n1_ : Aside0 (IsS60 w0 (W.drewN nq) g s0_0 s0_1) := ⟨HI.out.drewN _⟩
    have n2_ : Aside0 (Below w0.heap.size w0 (W.drewN nq)) := ⟨pw_below_drewN HB.out _⟩
    have n3_ : Aside0 (KeepBut w (W.drewN nq) g none) := ⟨keep_drewN HK.out _⟩
    have n4_ : Aside0 ((W.drewN nq).heap[b2]? = some (Obj.cells #[Value.int IntKind.i64 0, Value.string { data := #[] }, Value.int IntKind.i64 0] 32 (0, 0))) := ⟨HR.out⟩
    clear HI HB HK HR hix p4 q4
    generalize W.drewN nq = w4 at n1_ n2_ n3_ n4_ ⊢
    have HI := n1_
    have HB := n2_
    have HK := n3_
    have HR := n4_
    clear n1_ n2_ n3_ n4_
    by_cases h39 : bt s0_0 s0_1 = 39
    · have h39b : (bt s0_0 s0_1 == 39) = true := beq_iff_eq.mpr h39
      have TX : Aside0 (lex_scanner_text.f k s0_0 s0_1 = some (r1, r2, r3, r4, r5, r6, r7)) := ⟨by rw [← H.out, if_pos h39]⟩
      clear H h39
      go_wp2_with (first | (go_at_call 44; (with_reducible refine (lex_scanner_text.calls k g s0_0 s0_1 _ _ _ _ _ _ _ w0 _ HI.out HB.out TX.out).mono ?_); rintro e w7 ⟨rfl, hI2, hB2, hK2⟩; have n0_ := Aside0.mk (hI2); have n1_ := Aside0.mk (hB2); have n2_ := Aside0.mk (KeepBut.blk hK2 HR.out NE.out (by simp)); have n3_ := Aside0.mk (KeepBut.trans HK.out hK2 (.inl rfl)); clear hI2 hB2 hK2 HI HB HR HK; have HI := n0_; have HB := n1_; have HR := n2_; have HK := n3_; clear n0_ n1_ n2_ n3_; have e0 := blk_cell HR.out 0; have e1 := blk_cell HR.out 1; have e2 := blk_cell HR.out 2; have ef0 := blk_frozen HR.out 0; have ef1 := blk_frozen HR.out 1; have ef2 := blk_frozen HR.out 2))
      (try simp only [Exit.inBlock, Exit.then])
      refine bodyPost_ret (results_ctt rfl _ _ b2 32 #[.int .i64 r1, .string r2, .int .i64 r3] (0, 0) _ rfl (by
        refine blk_put (cs := #[.int .i64 r1, .string r2, .int .i64 0]) ?_ 2 _ rfl
        refine blk_put (cs := #[.int .i64 r1, .string { data := #[] }, .int .i64 0]) ?_ 1 _ rfl
        refine blk_put (cs := #[.int .i64 0, .string { data := #[] }, .int .i64 0]) ?_ 0 _ rfl
        exact HR.out) Try.underlying32 rfl (by kernel_rfl)) rfl ?_
      exact ⟨rfl, ((HI.out.far hgb _).far hgb _).far hgb _, below_set (below_set (below_set HB.out HL7.out) HL7.out) HL7.out, keep_far (keep_far (keep_far HK.out HL6.out _) HL6.out _) HL6.out _⟩
    · have h39b : (bt s0_0 s0_1 == 39) = false := beq_eq_false_iff_ne.mpr h39
      rw [if_neg h39] at H
      obtain ⟨⟨t1, t2, t3, ok, t5, t6⟩, ho, H1⟩ := Option.bind_eq_some_iff.1 H.out
      have HO := Aside0.mk ho
      replace H1 : (if ok = true then some (t1, t2, t3, t6, 0, t5, t6) else some (0, (⟨#[]⟩ : ByteArray), 0, s0_1, 4, t5, t6)) = some (r1, r2, r3, r4, r5, r6, r7) := H1
      clear H ho h39
      have H := Aside0.mk H1
      clear H1
      cases hu : lex_scanner_letters.upper (bt s0_0 s0_1)
      · cases hl : lex_scanner_letters.lower (bt s0_0 s0_1)
        · cases hd : lex_scanner_letters.digit (bt s0_0 s0_1)
          · have FisUpper : Aside0 (lex_isUpper.f (bt s0_0 s0_1) = some false) := ⟨by rw [lex_scanner_letters.upper_f, hu]⟩
            have FisLower : Aside0 (lex_isLower.f (bt s0_0 s0_1) = some false) := ⟨by rw [lex_scanner_letters.lower_f, hl]⟩
            have FisDigit : Aside0 (lex_isDigit.f (bt s0_0 s0_1) = some false) := ⟨by rw [lex_scanner_letters.digit_f, hd]⟩
            have HO2 : Aside0 (lex_scanner_sign.f s0_0 s0_1 = some (t1, t2, t3, ok, t5, t6)) := ⟨by
              have hk : lex_scanner_next.kind (bt s0_0 s0_1) = 5 := by unfold lex_scanner_next.kind; rw [if_neg (by rw [hu]; decide), if_neg (by rw [hl]; decide), if_neg (by rw [hd]; decide)]
              have := HO.out
              unfold lex_scanner_next.one at this
              rw [hk, if_pos rfl] at this
              exact this⟩
            clear HO
            have c1 := cellS60_1 HI.out.1
            go_upto_region 13 with (first | (go_at_call 45; (with_reducible refine (lex_isUpper.calls (bt s0_0 s0_1) false _ FisUpper.out).mono ?_); rintro e w5 ⟨rfl, ⟨nd, hnd⟩⟩; have n0_ := Aside0.mk (show IsS60 w0 w5 g s0_0 s0_1 by rw [hnd]; exact HI.out.drewN nd); have n1_ := Aside0.mk (show Below w0.heap.size w0 w5 by rw [hnd]; exact pw_below_drewN HB.out nd); have n2_ := Aside0.mk (show w5.heap[b2]? = some (Obj.cells #[Value.int IntKind.i64 0, Value.string { data := #[] }, Value.int IntKind.i64 0] 32 (0, 0)) by rw [hnd]; exact HR.out); have n3_ := Aside0.mk (show KeepBut w w5 g none by rw [hnd]; exact keep_drewN HK.out nd); clear hnd HI HB HR HK; have HI := n0_; have HB := n1_; have HR := n2_; have HK := n3_; clear n0_ n1_ n2_ n3_; have c1 := cellS60_1 HI.out.1) | (go_at_call 46; (with_reducible refine (lex_isLower.calls (bt s0_0 s0_1) false _ FisLower.out).mono ?_); rintro e w5 ⟨rfl, ⟨nd, hnd⟩⟩; have n0_ := Aside0.mk (show IsS60 w0 w5 g s0_0 s0_1 by rw [hnd]; exact HI.out.drewN nd); have n1_ := Aside0.mk (show Below w0.heap.size w0 w5 by rw [hnd]; exact pw_below_drewN HB.out nd); have n2_ := Aside0.mk (show w5.heap[b2]? = some (Obj.cells #[Value.int IntKind.i64 0, Value.string { data := #[] }, Value.int IntKind.i64 0] 32 (0, 0)) by rw [hnd]; exact HR.out); have n3_ := Aside0.mk (show KeepBut w w5 g none by rw [hnd]; exact keep_drewN HK.out nd); clear hnd HI HB HR HK; have HI := n0_; have HB := n1_; have HR := n2_; have HK := n3_; clear n0_ n1_ n2_ n3_; have c1 := cellS60_1 HI.out.1) | (go_at_call 47; (with_reducible refine (lex_isDigit.calls (bt s0_0 s0_1) false _ FisDigit.out).mono ?_); rintro e w5 ⟨rfl, ⟨nd, hnd⟩⟩; have n0_ := Aside0.mk (show IsS60 w0 w5 g s0_0 s0_1 by rw [hnd]; exact HI.out.drewN nd); have n1_ := Aside0.mk (show Below w0.heap.size w0 w5 by rw [hnd]; exact pw_below_drewN HB.out nd); have n2_ := Aside0.mk (show w5.heap[b2]? = some (Obj.cells #[Value.int IntKind.i64 0, Value.string { data := #[] }, Value.int IntKind.i64 0] 32 (0, 0)) by rw [hnd]; exact HR.out); have n3_ := Aside0.mk (show KeepBut w w5 g none by rw [hnd]; exact keep_drewN HK.out nd); clear hnd HI HB HR HK; have HI := n0_; have HB := n1_; have HR := n2_; have HK := n3_; clear n0_ n1_ n2_ n3_; have c1 := cellS60_1 HI.out.1))
            clear c1
            obtain ⟨wb, hwb⟩ : ∃ wb : World, wb = w5 := ⟨_, rfl⟩
            rw [← hwb] at HI HB HK HR ⊢
            clear hwb
            have hz : ∃ b8, b8 = wb.heap.size := ⟨_, rfl⟩
            obtain ⟨b8, hb8⟩ := hz
            have NG : Aside0 (b8 ≠ g) := ⟨by have := HI.out.lt; omega⟩
            have hgt : g ≠ b8 := by have := HI.out.lt; omega
            have hk28 : b2 ≠ b8 := by have := blk_lt HR.out; omega
            have HL8 : Aside0 (w.heap.size ≤ b8) := ⟨by have := HK.out.1; omega⟩
            have HL9 : Aside0 (w0.heap.size ≤ b8) := ⟨by have := HB.out.size; omega⟩
            have n1_ := Aside0.mk (HI.out.alloc (Obj.cells #[Value.int IntKind.i64 0, Value.string { data := #[] }, Value.int IntKind.i64 0] 32))
            have n2_ := Aside0.mk (below_alloc HB.out (Obj.cells #[Value.int IntKind.i64 0, Value.string { data := #[] }, Value.int IntKind.i64 0] 32))
            have n3_ := Aside0.mk (keep_alloc HK.out (Obj.cells #[Value.int IntKind.i64 0, Value.string { data := #[] }, Value.int IntKind.i64 0] 32))
            have n4_ := Aside0.mk (blk_alloc HR.out (Obj.cells #[Value.int IntKind.i64 0, Value.string { data := #[] }, Value.int IntKind.i64 0] 32))
            have n5_ := Aside0.mk (heap_alloc_new wb (Obj.cells #[Value.int IntKind.i64 0, Value.string { data := #[] }, Value.int IntKind.i64 0] 32))
            rw [← hb8] at n5_ ⊢
            clear HI HB HK HR hb8
            generalize (wb.alloc (Obj.cells #[Value.int IntKind.i64 0, Value.string { data := #[] }, Value.int IntKind.i64 0] 32)) = w6 at n1_ n2_ n3_ n4_ n5_ ⊢
            have HI := n1_
            have HB := n2_
            have HK := n3_
            have HR := n4_
            have HT := n5_
            clear n1_ n2_ n3_ n4_ n5_
            go_upto_region 20 with (first | (go_at_call 49; (with_reducible refine (lex_scanner_sign.calls g s0_0 s0_1 _ _ _ _ _ _ w0 _ HI.out HB.out HO2.out).mono ?_); rintro e w7 ⟨rfl, hI2, hB2, hK2⟩; have n0_ := Aside0.mk (hI2); have n1_ := Aside0.mk (hB2); have n2_ := Aside0.mk (KeepBut.blk hK2 HR.out NE.out (by simp)); have n3_ := Aside0.mk (KeepBut.blk hK2 HT.out NG.out (by simp)); have n4_ := Aside0.mk (KeepBut.trans HK.out hK2 (.inl rfl)); clear hI2 hB2 hK2 HI HB HR HT HK; have HI := n0_; have HB := n1_; have HR := n2_; have HT := n3_; have HK := n4_; clear n0_ n1_ n2_ n3_ n4_; have k0 := blk_cell HT.out 0; have k1 := blk_cell HT.out 1; have k2 := blk_cell HT.out 2; have kf0 := blk_frozen HT.out 0; have kf1 := blk_frozen HT.out 1; have kf2 := blk_frozen HT.out 2))
            clear k0 k1 k2 kf0 kf1 kf2
            have n1_ := Aside0.mk (((HI.out.far hgt (p := ⟨b8, 0, none⟩) (.int .i64 t1)).far hgt (p := ⟨b8, 1, none⟩) (.string t2)).far hgt (p := ⟨b8, 2, none⟩) (.int .i64 t3))
            have n2_ := Aside0.mk (below_set (v := .int .i64 t3) (j := 2) (below_set (v := .string t2) (j := 1) (below_set (v := .int .i64 t1) (j := 0) HB.out HL9.out) HL9.out) HL9.out)
            have n3_ := Aside0.mk (keep_far (p := ⟨b8, 2, none⟩) (keep_far (p := ⟨b8, 1, none⟩) (keep_far (p := ⟨b8, 0, none⟩) HK.out HL8.out (.int .i64 t1)) HL8.out (.string t2)) HL8.out (.int .i64 t3))
            have n4_ := Aside0.mk ((Below.heap_setCell _ ⟨b8, 2, none⟩ (.int .i64 t3) b2 hk28).trans ((Below.heap_setCell _ ⟨b8, 1, none⟩ (.string t2) b2 hk28).trans ((Below.heap_setCell w7 ⟨b8, 0, none⟩ (.int .i64 t1) b2 hk28).trans HR.out)))
            have n5_ : Aside0 ((((w7.setCell ⟨b8, 0, none⟩ (.int .i64 t1)).setCell ⟨b8, 1, none⟩ (.string t2)).setCell ⟨b8, 2, none⟩ (.int .i64 t3)).heap[b8]? = some (Obj.cells #[.int .i64 t1, .string t2, .int .i64 t3] 32 (0, 0))) := ⟨by
              refine blk_put (cs := #[.int .i64 t1, .string t2, .int .i64 0]) ?_ 2 _ rfl
              refine blk_put (cs := #[.int .i64 t1, .string { data := #[] }, .int .i64 0]) ?_ 1 _ rfl
              refine blk_put (cs := #[.int .i64 0, .string { data := #[] }, .int .i64 0]) ?_ 0 _ rfl
              exact HT.out⟩
            clear HI HB HK HR HT
            generalize (((w7.setCell ⟨b8, 0, none⟩ (.int .i64 t1)).setCell ⟨b8, 1, none⟩ (.string t2)).setCell ⟨b8, 2, none⟩ (.int .i64 t3)) = w8 at n1_ n2_ n3_ n4_ n5_ ⊢
            have HI := n1_
            have HB := n2_
            have HK := n3_
            have HR := n4_
            have HT := n5_
            clear n1_ n2_ n3_ n4_ n5_
            have e0 := blk_cell HR.out 0
            have e1 := blk_cell HR.out 1
            have e2 := blk_cell HR.out 2
            have f0 := blk_frozen HR.out 0
            have f1 := blk_frozen HR.out 1
            have f2 := blk_frozen HR.out 2
            cases ok with
            | false =>
              rw [if_neg (by decide)] at H
              have H2 := H.out
              simp only [Option.some.injEq, Prod.mk.injEq] at H2
              obtain ⟨rfl, rfl, rfl, rfl, rfl, rfl, rfl⟩ := H2
              clear H
              go_wp2
              (try simp only [Exit.inBlock, Exit.then])
              refine bodyPost_ret (results_ctt rfl _ _ b2 32 #[.int .i64 0, .string { data := #[] }, .int .i64 0] (0, 0) _ rfl (by
                refine blk_put (cs := #[.int .i64 0, .string { data := #[] }, .int .i64 0]) ?_ 2 _ rfl
                refine blk_put (cs := #[.int .i64 0, .string { data := #[] }, .int .i64 0]) ?_ 1 _ rfl
                refine blk_put (cs := #[.int .i64 0, .string { data := #[] }, .int .i64 0]) ?_ 0 _ rfl
                exact HR.out) Try.underlying32 rfl (by kernel_rfl)) rfl ?_
              exact ⟨rfl, ((HI.out.far hgb _).far hgb _).far hgb _, below_set (below_set (below_set HB.out HL7.out) HL7.out) HL7.out, keep_far (keep_far (keep_far HK.out HL6.out _) HL6.out _) HL6.out _⟩
            | true =>
              rw [if_pos rfl] at H
              have H2 := H.out
              simp only [Option.some.injEq, Prod.mk.injEq] at H2
              obtain ⟨rfl, rfl, rfl, rfl, rfl, rfl, rfl⟩ := H2
              clear H
              have c1 := cellS60_1 HI.out.1
              have k0 := blk_cell HT.out 0
              have k1 := blk_cell HT.out 1
              have k2 := blk_cell HT.out 2
              go_upto_region 22 with (fail)
              go_big_region
              go_wp2
              (try simp only [Exit.inBlock, Exit.then])
              refine bodyPost_ret (results_ctt rfl _ _ b2 32 #[.int .i64 t1, .string t2, .int .i64 t3] (0, 0) _ rfl (by
                refine blk_drew ?_
                refine blk_put (cs := #[.int .i64 t1, .string t2, .int .i64 0]) ?_ 2 _ rfl
                refine blk_put (cs := #[.int .i64 t1, .string { data := #[] }, .int .i64 0]) ?_ 1 _ rfl
                refine blk_put (cs := #[.int .i64 0, .string { data := #[] }, .int .i64 0]) ?_ 0 _ rfl
                exact HR.out) Try.underlying32 rfl (by kernel_rfl)) rfl ?_
              exact ⟨rfl, (((HI.out.far hgb _).far hgb _).far hgb _).drew, below_drew1 (below_set (below_set (below_set HB.out HL7.out) HL7.out) HL7.out), keep_drew (keep_far (keep_far (keep_far HK.out HL6.out _) HL6.out _) HL6.out _)⟩
          · have FisUpper : Aside0 (lex_isUpper.f (bt s0_0 s0_1) = some false) := ⟨by rw [lex_scanner_letters.upper_f, hu]⟩
            have FisLower : Aside0 (lex_isLower.f (bt s0_0 s0_1) = some false) := ⟨by rw [lex_scanner_letters.lower_f, hl]⟩
            have FisDigit : Aside0 (lex_isDigit.f (bt s0_0 s0_1) = some true) := ⟨by rw [lex_scanner_letters.digit_f, hd]⟩
            have HO2 : Aside0 (lex_scanner_letters.f s0_0 s0_1 3 = some (t1, t2, t3, ok, t5, t6)) := ⟨by
              have hk : lex_scanner_next.kind (bt s0_0 s0_1) = 3 := by unfold lex_scanner_next.kind; rw [if_neg (by rw [hu]; decide), if_neg (by rw [hl]; decide), if_pos hd]
              have := HO.out
              unfold lex_scanner_next.one at this
              rw [hk, if_neg (by decide)] at this
              exact this⟩
            clear HO
            have c1 := cellS60_1 HI.out.1
            go_upto_region 13 with (first | (go_at_call 45; (with_reducible refine (lex_isUpper.calls (bt s0_0 s0_1) false _ FisUpper.out).mono ?_); rintro e w5 ⟨rfl, ⟨nd, hnd⟩⟩; have n0_ := Aside0.mk (show IsS60 w0 w5 g s0_0 s0_1 by rw [hnd]; exact HI.out.drewN nd); have n1_ := Aside0.mk (show Below w0.heap.size w0 w5 by rw [hnd]; exact pw_below_drewN HB.out nd); have n2_ := Aside0.mk (show w5.heap[b2]? = some (Obj.cells #[Value.int IntKind.i64 0, Value.string { data := #[] }, Value.int IntKind.i64 0] 32 (0, 0)) by rw [hnd]; exact HR.out); have n3_ := Aside0.mk (show KeepBut w w5 g none by rw [hnd]; exact keep_drewN HK.out nd); clear hnd HI HB HR HK; have HI := n0_; have HB := n1_; have HR := n2_; have HK := n3_; clear n0_ n1_ n2_ n3_; have c1 := cellS60_1 HI.out.1) | (go_at_call 46; (with_reducible refine (lex_isLower.calls (bt s0_0 s0_1) false _ FisLower.out).mono ?_); rintro e w5 ⟨rfl, ⟨nd, hnd⟩⟩; have n0_ := Aside0.mk (show IsS60 w0 w5 g s0_0 s0_1 by rw [hnd]; exact HI.out.drewN nd); have n1_ := Aside0.mk (show Below w0.heap.size w0 w5 by rw [hnd]; exact pw_below_drewN HB.out nd); have n2_ := Aside0.mk (show w5.heap[b2]? = some (Obj.cells #[Value.int IntKind.i64 0, Value.string { data := #[] }, Value.int IntKind.i64 0] 32 (0, 0)) by rw [hnd]; exact HR.out); have n3_ := Aside0.mk (show KeepBut w w5 g none by rw [hnd]; exact keep_drewN HK.out nd); clear hnd HI HB HR HK; have HI := n0_; have HB := n1_; have HR := n2_; have HK := n3_; clear n0_ n1_ n2_ n3_; have c1 := cellS60_1 HI.out.1) | (go_at_call 47; (with_reducible refine (lex_isDigit.calls (bt s0_0 s0_1) true _ FisDigit.out).mono ?_); rintro e w5 ⟨rfl, ⟨nd, hnd⟩⟩; have n0_ := Aside0.mk (show IsS60 w0 w5 g s0_0 s0_1 by rw [hnd]; exact HI.out.drewN nd); have n1_ := Aside0.mk (show Below w0.heap.size w0 w5 by rw [hnd]; exact pw_below_drewN HB.out nd); have n2_ := Aside0.mk (show w5.heap[b2]? = some (Obj.cells #[Value.int IntKind.i64 0, Value.string { data := #[] }, Value.int IntKind.i64 0] 32 (0, 0)) by rw [hnd]; exact HR.out); have n3_ := Aside0.mk (show KeepBut w w5 g none by rw [hnd]; exact keep_drewN HK.out nd); clear hnd HI HB HR HK; have HI := n0_; have HB := n1_; have HR := n2_; have HK := n3_; clear n0_ n1_ n2_ n3_; have c1 := cellS60_1 HI.out.1))
            clear c1
            obtain ⟨wb, hwb⟩ : ∃ wb : World, wb = w5 := ⟨_, rfl⟩
            rw [← hwb] at HI HB HK HR ⊢
            clear hwb
            have hz : ∃ b8, b8 = wb.heap.size := ⟨_, rfl⟩
            obtain ⟨b8, hb8⟩ := hz
            have NG : Aside0 (b8 ≠ g) := ⟨by have := HI.out.lt; omega⟩
            have hgt : g ≠ b8 := by have := HI.out.lt; omega
            have hk28 : b2 ≠ b8 := by have := blk_lt HR.out; omega
            have HL8 : Aside0 (w.heap.size ≤ b8) := ⟨by have := HK.out.1; omega⟩
            have HL9 : Aside0 (w0.heap.size ≤ b8) := ⟨by have := HB.out.size; omega⟩
            have n1_ := Aside0.mk (HI.out.alloc (Obj.cells #[Value.int IntKind.i64 0, Value.string { data := #[] }, Value.int IntKind.i64 0] 32))
            have n2_ := Aside0.mk (below_alloc HB.out (Obj.cells #[Value.int IntKind.i64 0, Value.string { data := #[] }, Value.int IntKind.i64 0] 32))
            have n3_ := Aside0.mk (keep_alloc HK.out (Obj.cells #[Value.int IntKind.i64 0, Value.string { data := #[] }, Value.int IntKind.i64 0] 32))
            have n4_ := Aside0.mk (blk_alloc HR.out (Obj.cells #[Value.int IntKind.i64 0, Value.string { data := #[] }, Value.int IntKind.i64 0] 32))
            have n5_ := Aside0.mk (heap_alloc_new wb (Obj.cells #[Value.int IntKind.i64 0, Value.string { data := #[] }, Value.int IntKind.i64 0] 32))
            rw [← hb8] at n5_ ⊢
            clear HI HB HK HR hb8
            generalize (wb.alloc (Obj.cells #[Value.int IntKind.i64 0, Value.string { data := #[] }, Value.int IntKind.i64 0] 32)) = w6 at n1_ n2_ n3_ n4_ n5_ ⊢
            have HI := n1_
            have HB := n2_
            have HK := n3_
            have HR := n4_
            have HT := n5_
            clear n1_ n2_ n3_ n4_ n5_
            go_upto_region 20 with (first | (go_at_call 48; (with_reducible refine (lex_scanner_letters.calls g s0_0 s0_1 3 _ _ _ _ _ _ w0 _ HI.out HB.out HO2.out).mono ?_); rintro e w7 ⟨rfl, hI2, hB2, hK2⟩; have n0_ := Aside0.mk (hI2); have n1_ := Aside0.mk (hB2); have n2_ := Aside0.mk (KeepBut.blk hK2 HR.out NE.out (by simp)); have n3_ := Aside0.mk (KeepBut.blk hK2 HT.out NG.out (by simp)); have n4_ := Aside0.mk (KeepBut.trans HK.out hK2 (.inl rfl)); clear hI2 hB2 hK2 HI HB HR HT HK; have HI := n0_; have HB := n1_; have HR := n2_; have HT := n3_; have HK := n4_; clear n0_ n1_ n2_ n3_ n4_; have k0 := blk_cell HT.out 0; have k1 := blk_cell HT.out 1; have k2 := blk_cell HT.out 2; have kf0 := blk_frozen HT.out 0; have kf1 := blk_frozen HT.out 1; have kf2 := blk_frozen HT.out 2))
            clear k0 k1 k2 kf0 kf1 kf2
            have n1_ := Aside0.mk (((HI.out.far hgt (p := ⟨b8, 0, none⟩) (.int .i64 t1)).far hgt (p := ⟨b8, 1, none⟩) (.string t2)).far hgt (p := ⟨b8, 2, none⟩) (.int .i64 t3))
            have n2_ := Aside0.mk (below_set (v := .int .i64 t3) (j := 2) (below_set (v := .string t2) (j := 1) (below_set (v := .int .i64 t1) (j := 0) HB.out HL9.out) HL9.out) HL9.out)
            have n3_ := Aside0.mk (keep_far (p := ⟨b8, 2, none⟩) (keep_far (p := ⟨b8, 1, none⟩) (keep_far (p := ⟨b8, 0, none⟩) HK.out HL8.out (.int .i64 t1)) HL8.out (.string t2)) HL8.out (.int .i64 t3))
            have n4_ := Aside0.mk ((Below.heap_setCell _ ⟨b8, 2, none⟩ (.int .i64 t3) b2 hk28).trans ((Below.heap_setCell _ ⟨b8, 1, none⟩ (.string t2) b2 hk28).trans ((Below.heap_setCell w7 ⟨b8, 0, none⟩ (.int .i64 t1) b2 hk28).trans HR.out)))
            have n5_ : Aside0 ((((w7.setCell ⟨b8, 0, none⟩ (.int .i64 t1)).setCell ⟨b8, 1, none⟩ (.string t2)).setCell ⟨b8, 2, none⟩ (.int .i64 t3)).heap[b8]? = some (Obj.cells #[.int .i64 t1, .string t2, .int .i64 t3] 32 (0, 0))) := ⟨by
              refine blk_put (cs := #[.int .i64 t1, .string t2, .int .i64 0]) ?_ 2 _ rfl
              refine blk_put (cs := #[.int .i64 t1, .string { data := #[] }, .int .i64 0]) ?_ 1 _ rfl
              refine blk_put (cs := #[.int .i64 0, .string { data := #[] }, .int .i64 0]) ?_ 0 _ rfl
              exact HT.out⟩
            clear HI HB HK HR HT
            generalize (((w7.setCell ⟨b8, 0, none⟩ (.int .i64 t1)).setCell ⟨b8, 1, none⟩ (.string t2)).setCell ⟨b8, 2, none⟩ (.int .i64 t3)) = w8 at n1_ n2_ n3_ n4_ n5_ ⊢
            have HI := n1_
            have HB := n2_
            have HK := n3_
            have HR := n4_
            have HT := n5_
            clear n1_ n2_ n3_ n4_ n5_
            have e0 := blk_cell HR.out 0
            have e1 := blk_cell HR.out 1
            have e2 := blk_cell HR.out 2
            have f0 := blk_frozen HR.out 0
            have f1 := blk_frozen HR.out 1
            have f2 := blk_frozen HR.out 2
            cases ok with
            | false =>
              rw [if_neg (by decide)] at H
              have H2 := H.out
              simp only [Option.some.injEq, Prod.mk.injEq] at H2
              obtain ⟨rfl, rfl, rfl, rfl, rfl, rfl, rfl⟩ := H2
              clear H
              go_wp2
              (try simp only [Exit.inBlock, Exit.then])
              refine bodyPost_ret (results_ctt rfl _ _ b2 32 #[.int .i64 0, .string { data := #[] }, .int .i64 0] (0, 0) _ rfl (by
                refine blk_put (cs := #[.int .i64 0, .string { data := #[] }, .int .i64 0]) ?_ 2 _ rfl
                refine blk_put (cs := #[.int .i64 0, .string { data := #[] }, .int .i64 0]) ?_ 1 _ rfl
                refine blk_put (cs := #[.int .i64 0, .string { data := #[] }, .int .i64 0]) ?_ 0 _ rfl
                exact HR.out) Try.underlying32 rfl (by kernel_rfl)) rfl ?_
              exact ⟨rfl, ((HI.out.far hgb _).far hgb _).far hgb _, below_set (below_set (below_set HB.out HL7.out) HL7.out) HL7.out, keep_far (keep_far (keep_far HK.out HL6.out _) HL6.out _) HL6.out _⟩
            | true =>
              rw [if_pos rfl] at H
              have H2 := H.out
              simp only [Option.some.injEq, Prod.mk.injEq] at H2
              obtain ⟨rfl, rfl, rfl, rfl, rfl, rfl, rfl⟩ := H2
              clear H
              have c1 := cellS60_1 HI.out.1
              have k0 := blk_cell HT.out 0
              have k1 := blk_cell HT.out 1
              have k2 := blk_cell HT.out 2
              go_upto_region 22 with (fail)
              go_big_region
              go_wp2
              (try simp only [Exit.inBlock, Exit.then])
              refine bodyPost_ret (results_ctt rfl _ _ b2 32 #[.int .i64 t1, .string t2, .int .i64 t3] (0, 0) _ rfl (by
                refine blk_drew ?_
                refine blk_put (cs := #[.int .i64 t1, .string t2, .int .i64 0]) ?_ 2 _ rfl
                refine blk_put (cs := #[.int .i64 t1, .string { data := #[] }, .int .i64 0]) ?_ 1 _ rfl
                refine blk_put (cs := #[.int .i64 0, .string { data := #[] }, .int .i64 0]) ?_ 0 _ rfl
                exact HR.out) Try.underlying32 rfl (by kernel_rfl)) rfl ?_
              exact ⟨rfl, (((HI.out.far hgb _).far hgb _).far hgb _).drew, below_drew1 (below_set (below_set (below_set HB.out HL7.out) HL7.out) HL7.out), keep_drew (keep_far (keep_far (keep_far HK.out HL6.out _) HL6.out _) HL6.out _)⟩
        · have FisUpper : Aside0 (lex_isUpper.f (bt s0_0 s0_1) = some false) := ⟨by rw [lex_scanner_letters.upper_f, hu]⟩
          have FisLower : Aside0 (lex_isLower.f (bt s0_0 s0_1) = some true) := ⟨by rw [lex_scanner_letters.lower_f, hl]⟩
          have HO2 : Aside0 (lex_scanner_letters.f s0_0 s0_1 2 = some (t1, t2, t3, ok, t5, t6)) := ⟨by
            have hk : lex_scanner_next.kind (bt s0_0 s0_1) = 2 := by unfold lex_scanner_next.kind; rw [if_neg (by rw [hu]; decide), if_pos hl]
            have := HO.out
            unfold lex_scanner_next.one at this
            rw [hk, if_neg (by decide)] at this
            exact this⟩
          clear HO
          have c1 := cellS60_1 HI.out.1
          go_upto_region 13 with (first | (go_at_call 45; (with_reducible refine (lex_isUpper.calls (bt s0_0 s0_1) false _ FisUpper.out).mono ?_); rintro e w5 ⟨rfl, ⟨nd, hnd⟩⟩; have n0_ := Aside0.mk (show IsS60 w0 w5 g s0_0 s0_1 by rw [hnd]; exact HI.out.drewN nd); have n1_ := Aside0.mk (show Below w0.heap.size w0 w5 by rw [hnd]; exact pw_below_drewN HB.out nd); have n2_ := Aside0.mk (show w5.heap[b2]? = some (Obj.cells #[Value.int IntKind.i64 0, Value.string { data := #[] }, Value.int IntKind.i64 0] 32 (0, 0)) by rw [hnd]; exact HR.out); have n3_ := Aside0.mk (show KeepBut w w5 g none by rw [hnd]; exact keep_drewN HK.out nd); clear hnd HI HB HR HK; have HI := n0_; have HB := n1_; have HR := n2_; have HK := n3_; clear n0_ n1_ n2_ n3_; have c1 := cellS60_1 HI.out.1) | (go_at_call 46; (with_reducible refine (lex_isLower.calls (bt s0_0 s0_1) true _ FisLower.out).mono ?_); rintro e w5 ⟨rfl, ⟨nd, hnd⟩⟩; have n0_ := Aside0.mk (show IsS60 w0 w5 g s0_0 s0_1 by rw [hnd]; exact HI.out.drewN nd); have n1_ := Aside0.mk (show Below w0.heap.size w0 w5 by rw [hnd]; exact pw_below_drewN HB.out nd); have n2_ := Aside0.mk (show w5.heap[b2]? = some (Obj.cells #[Value.int IntKind.i64 0, Value.string { data := #[] }, Value.int IntKind.i64 0] 32 (0, 0)) by rw [hnd]; exact HR.out); have n3_ := Aside0.mk (show KeepBut w w5 g none by rw [hnd]; exact keep_drewN HK.out nd); clear hnd HI HB HR HK; have HI := n0_; have HB := n1_; have HR := n2_; have HK := n3_; clear n0_ n1_ n2_ n3_; have c1 := cellS60_1 HI.out.1))
          clear c1
          obtain ⟨wb, hwb⟩ : ∃ wb : World, wb = w5 := ⟨_, rfl⟩
          rw [← hwb] at HI HB HK HR ⊢
          clear hwb
          have hz : ∃ b8, b8 = wb.heap.size := ⟨_, rfl⟩
          obtain ⟨b8, hb8⟩ := hz
          have NG : Aside0 (b8 ≠ g) := ⟨by have := HI.out.lt; omega⟩
          have hgt : g ≠ b8 := by have := HI.out.lt; omega
          have hk28 : b2 ≠ b8 := by have := blk_lt HR.out; omega
          have HL8 : Aside0 (w.heap.size ≤ b8) := ⟨by have := HK.out.1; omega⟩
          have HL9 : Aside0 (w0.heap.size ≤ b8) := ⟨by have := HB.out.size; omega⟩
          have n1_ := Aside0.mk (HI.out.alloc (Obj.cells #[Value.int IntKind.i64 0, Value.string { data := #[] }, Value.int IntKind.i64 0] 32))
          have n2_ := Aside0.mk (below_alloc HB.out (Obj.cells #[Value.int IntKind.i64 0, Value.string { data := #[] }, Value.int IntKind.i64 0] 32))
          have n3_ := Aside0.mk (keep_alloc HK.out (Obj.cells #[Value.int IntKind.i64 0, Value.string { data := #[] }, Value.int IntKind.i64 0] 32))
          have n4_ := Aside0.mk (blk_alloc HR.out (Obj.cells #[Value.int IntKind.i64 0, Value.string { data := #[] }, Value.int IntKind.i64 0] 32))
          have n5_ := Aside0.mk (heap_alloc_new wb (Obj.cells #[Value.int IntKind.i64 0, Value.string { data := #[] }, Value.int IntKind.i64 0] 32))
          rw [← hb8] at n5_ ⊢
          clear HI HB HK HR hb8
          generalize (wb.alloc (Obj.cells #[Value.int IntKind.i64 0, Value.string { data := #[] }, Value.int IntKind.i64 0] 32)) = w6 at n1_ n2_ n3_ n4_ n5_ ⊢
          have HI := n1_
          have HB := n2_
          have HK := n3_
          have HR := n4_
          have HT := n5_
          clear n1_ n2_ n3_ n4_ n5_
          go_upto_region 20 with (first | (go_at_call 48; (with_reducible refine (lex_scanner_letters.calls g s0_0 s0_1 2 _ _ _ _ _ _ w0 _ HI.out HB.out HO2.out).mono ?_); rintro e w7 ⟨rfl, hI2, hB2, hK2⟩; have n0_ := Aside0.mk (hI2); have n1_ := Aside0.mk (hB2); have n2_ := Aside0.mk (KeepBut.blk hK2 HR.out NE.out (by simp)); have n3_ := Aside0.mk (KeepBut.blk hK2 HT.out NG.out (by simp)); have n4_ := Aside0.mk (KeepBut.trans HK.out hK2 (.inl rfl)); clear hI2 hB2 hK2 HI HB HR HT HK; have HI := n0_; have HB := n1_; have HR := n2_; have HT := n3_; have HK := n4_; clear n0_ n1_ n2_ n3_ n4_; have k0 := blk_cell HT.out 0; have k1 := blk_cell HT.out 1; have k2 := blk_cell HT.out 2; have kf0 := blk_frozen HT.out 0; have kf1 := blk_frozen HT.out 1; have kf2 := blk_frozen HT.out 2))
          clear k0 k1 k2 kf0 kf1 kf2
          have n1_ := Aside0.mk (((HI.out.far hgt (p := ⟨b8, 0, none⟩) (.int .i64 t1)).far hgt (p := ⟨b8, 1, none⟩) (.string t2)).far hgt (p := ⟨b8, 2, none⟩) (.int .i64 t3))
          have n2_ := Aside0.mk (below_set (v := .int .i64 t3) (j := 2) (below_set (v := .string t2) (j := 1) (below_set (v := .int .i64 t1) (j := 0) HB.out HL9.out) HL9.out) HL9.out)
          have n3_ := Aside0.mk (keep_far (p := ⟨b8, 2, none⟩) (keep_far (p := ⟨b8, 1, none⟩) (keep_far (p := ⟨b8, 0, none⟩) HK.out HL8.out (.int .i64 t1)) HL8.out (.string t2)) HL8.out (.int .i64 t3))
          have n4_ := Aside0.mk ((Below.heap_setCell _ ⟨b8, 2, none⟩ (.int .i64 t3) b2 hk28).trans ((Below.heap_setCell _ ⟨b8, 1, none⟩ (.string t2) b2 hk28).trans ((Below.heap_setCell w7 ⟨b8, 0, none⟩ (.int .i64 t1) b2 hk28).trans HR.out)))
          have n5_ : Aside0 ((((w7.setCell ⟨b8, 0, none⟩ (.int .i64 t1)).setCell ⟨b8, 1, none⟩ (.string t2)).setCell ⟨b8, 2, none⟩ (.int .i64 t3)).heap[b8]? = some (Obj.cells #[.int .i64 t1, .string t2, .int .i64 t3] 32 (0, 0))) := ⟨by
            refine blk_put (cs := #[.int .i64 t1, .string t2, .int .i64 0]) ?_ 2 _ rfl
            refine blk_put (cs := #[.int .i64 t1, .string { data := #[] }, .int .i64 0]) ?_ 1 _ rfl
            refine blk_put (cs := #[.int .i64 0, .string { data := #[] }, .int .i64 0]) ?_ 0 _ rfl
            exact HT.out⟩
          clear HI HB HK HR HT
          generalize (((w7.setCell ⟨b8, 0, none⟩ (.int .i64 t1)).setCell ⟨b8, 1, none⟩ (.string t2)).setCell ⟨b8, 2, none⟩ (.int .i64 t3)) = w8 at n1_ n2_ n3_ n4_ n5_ ⊢
          have HI := n1_
          have HB := n2_
          have HK := n3_
          have HR := n4_
          have HT := n5_
          clear n1_ n2_ n3_ n4_ n5_
          have e0 := blk_cell HR.out 0
          have e1 := blk_cell HR.out 1
          have e2 := blk_cell HR.out 2
          have f0 := blk_frozen HR.out 0
          have f1 := blk_frozen HR.out 1
          have f2 := blk_frozen HR.out 2
          cases ok with
          | false =>
            rw [if_neg (by decide)] at H
            have H2 := H.out
            simp only [Option.some.injEq, Prod.mk.injEq] at H2
            obtain ⟨rfl, rfl, rfl, rfl, rfl, rfl, rfl⟩ := H2
            clear H
            go_wp2
            (try simp only [Exit.inBlock, Exit.then])
            refine bodyPost_ret (results_ctt rfl _ _ b2 32 #[.int .i64 0, .string { data := #[] }, .int .i64 0] (0, 0) _ rfl (by
              refine blk_put (cs := #[.int .i64 0, .string { data := #[] }, .int .i64 0]) ?_ 2 _ rfl
              refine blk_put (cs := #[.int .i64 0, .string { data := #[] }, .int .i64 0]) ?_ 1 _ rfl
              refine blk_put (cs := #[.int .i64 0, .string { data := #[] }, .int .i64 0]) ?_ 0 _ rfl
              exact HR.out) Try.underlying32 rfl (by kernel_rfl)) rfl ?_
            exact ⟨rfl, ((HI.out.far hgb _).far hgb _).far hgb _, below_set (below_set (below_set HB.out HL7.out) HL7.out) HL7.out, keep_far (keep_far (keep_far HK.out HL6.out _) HL6.out _) HL6.out _⟩
          | true =>
            rw [if_pos rfl] at H
            have H2 := H.out
            simp only [Option.some.injEq, Prod.mk.injEq] at H2
            obtain ⟨rfl, rfl, rfl, rfl, rfl, rfl, rfl⟩ := H2
            clear H
            have c1 := cellS60_1 HI.out.1
            have k0 := blk_cell HT.out 0
            have k1 := blk_cell HT.out 1
            have k2 := blk_cell HT.out 2
            go_upto_region 22 with (fail)
            go_big_region
            go_wp2
            (try simp only [Exit.inBlock, Exit.then])
            refine bodyPost_ret (results_ctt rfl _ _ b2 32 #[.int .i64 t1, .string t2, .int .i64 t3] (0, 0) _ rfl (by
              refine blk_drew ?_
              refine blk_put (cs := #[.int .i64 t1, .string t2, .int .i64 0]) ?_ 2 _ rfl
              refine blk_put (cs := #[.int .i64 t1, .string { data := #[] }, .int .i64 0]) ?_ 1 _ rfl
              refine blk_put (cs := #[.int .i64 0, .string { data := #[] }, .int .i64 0]) ?_ 0 _ rfl
              exact HR.out) Try.underlying32 rfl (by kernel_rfl)) rfl ?_
            exact ⟨rfl, (((HI.out.far hgb _).far hgb _).far hgb _).drew, below_drew1 (below_set (below_set (below_set HB.out HL7.out) HL7.out) HL7.out), keep_drew (keep_far (keep_far (keep_far HK.out HL6.out _) HL6.out _) HL6.out _)⟩
      · have FisUpper : Aside0 (lex_isUpper.f (bt s0_0 s0_1) = some true) := ⟨by rw [lex_scanner_letters.upper_f, hu]⟩
        have HO2 : Aside0 (lex_scanner_letters.f s0_0 s0_1 1 = some (t1, t2, t3, ok, t5, t6)) := ⟨by
          have hk : lex_scanner_next.kind (bt s0_0 s0_1) = 1 := by unfold lex_scanner_next.kind; rw [if_pos hu]
          have := HO.out
          unfold lex_scanner_next.one at this
          rw [hk, if_neg (by decide)] at this
          exact this⟩
        clear HO
        have c1 := cellS60_1 HI.out.1
        go_upto_region 13 with (first | (go_at_call 45; (with_reducible refine (lex_isUpper.calls (bt s0_0 s0_1) true _ FisUpper.out).mono ?_); rintro e w5 ⟨rfl, ⟨nd, hnd⟩⟩; have n0_ := Aside0.mk (show IsS60 w0 w5 g s0_0 s0_1 by rw [hnd]; exact HI.out.drewN nd); have n1_ := Aside0.mk (show Below w0.heap.size w0 w5 by rw [hnd]; exact pw_below_drewN HB.out nd); have n2_ := Aside0.mk (show w5.heap[b2]? = some (Obj.cells #[Value.int IntKind.i64 0, Value.string { data := #[] }, Value.int IntKind.i64 0] 32 (0, 0)) by rw [hnd]; exact HR.out); have n3_ := Aside0.mk (show KeepBut w w5 g none by rw [hnd]; exact keep_drewN HK.out nd); clear hnd HI HB HR HK; have HI := n0_; have HB := n1_; have HR := n2_; have HK := n3_; clear n0_ n1_ n2_ n3_; have c1 := cellS60_1 HI.out.1))
        clear c1
        obtain ⟨wb, hwb⟩ : ∃ wb : World, wb = w5 := ⟨_, rfl⟩
        rw [← hwb] at HI HB HK HR ⊢
        clear hwb
        have hz : ∃ b8, b8 = wb.heap.size := ⟨_, rfl⟩
        obtain ⟨b8, hb8⟩ := hz
        have NG : Aside0 (b8 ≠ g) := ⟨by have := HI.out.lt; omega⟩
        have hgt : g ≠ b8 := by have := HI.out.lt; omega
        have hk28 : b2 ≠ b8 := by have := blk_lt HR.out; omega
        have HL8 : Aside0 (w.heap.size ≤ b8) := ⟨by have := HK.out.1; omega⟩
        have HL9 : Aside0 (w0.heap.size ≤ b8) := ⟨by have := HB.out.size; omega⟩
        have n1_ := Aside0.mk (HI.out.alloc (Obj.cells #[Value.int IntKind.i64 0, Value.string { data := #[] }, Value.int IntKind.i64 0] 32))
        have n2_ := Aside0.mk (below_alloc HB.out (Obj.cells #[Value.int IntKind.i64 0, Value.string { data := #[] }, Value.int IntKind.i64 0] 32))
        have n3_ := Aside0.mk (keep_alloc HK.out (Obj.cells #[Value.int IntKind.i64 0, Value.string { data := #[] }, Value.int IntKind.i64 0] 32))
        have n4_ := Aside0.mk (blk_alloc HR.out (Obj.cells #[Value.int IntKind.i64 0, Value.string { data := #[] }, Value.int IntKind.i64 0] 32))
        have n5_ := Aside0.mk (heap_alloc_new wb (Obj.cells #[Value.int IntKind.i64 0, Value.string { data := #[] }, Value.int IntKind.i64 0] 32))
        rw [← hb8] at n5_ ⊢
        clear HI HB HK HR hb8
        generalize (wb.alloc (Obj.cells #[Value.int IntKind.i64 0, Value.string { data := #[] }, Value.int IntKind.i64 0] 32)) = w6 at n1_ n2_ n3_ n4_ n5_ ⊢
        have HI := n1_
        have HB := n2_
        have HK := n3_
        have HR := n4_
        have HT := n5_
        clear n1_ n2_ n3_ n4_ n5_
        go_upto_region 20 with (first | (go_at_call 48; (with_reducible refine (lex_scanner_letters.calls g s0_0 s0_1 1 _ _ _ _ _ _ w0 _ HI.out HB.out HO2.out).mono ?_); rintro e w7 ⟨rfl, hI2, hB2, hK2⟩; have n0_ := Aside0.mk (hI2); have n1_ := Aside0.mk (hB2); have n2_ := Aside0.mk (KeepBut.blk hK2 HR.out NE.out (by simp)); have n3_ := Aside0.mk (KeepBut.blk hK2 HT.out NG.out (by simp)); have n4_ := Aside0.mk (KeepBut.trans HK.out hK2 (.inl rfl)); clear hI2 hB2 hK2 HI HB HR HT HK; have HI := n0_; have HB := n1_; have HR := n2_; have HT := n3_; have HK := n4_; clear n0_ n1_ n2_ n3_ n4_; have k0 := blk_cell HT.out 0; have k1 := blk_cell HT.out 1; have k2 := blk_cell HT.out 2; have kf0 := blk_frozen HT.out 0; have kf1 := blk_frozen HT.out 1; have kf2 := blk_frozen HT.out 2))
        clear k0 k1 k2 kf0 kf1 kf2
        have n1_ := Aside0.mk (((HI.out.far hgt (p := ⟨b8, 0, none⟩) (.int .i64 t1)).far hgt (p := ⟨b8, 1, none⟩) (.string t2)).far hgt (p := ⟨b8, 2, none⟩) (.int .i64 t3))
        have n2_ := Aside0.mk (below_set (v := .int .i64 t3) (j := 2) (below_set (v := .string t2) (j := 1) (below_set (v := .int .i64 t1) (j := 0) HB.out HL9.out) HL9.out) HL9.out)
        have n3_ := Aside0.mk (keep_far (p := ⟨b8, 2, none⟩) (keep_far (p := ⟨b8, 1, none⟩) (keep_far (p := ⟨b8, 0, none⟩) HK.out HL8.out (.int .i64 t1)) HL8.out (.string t2)) HL8.out (.int .i64 t3))
        have n4_ := Aside0.mk ((Below.heap_setCell _ ⟨b8, 2, none⟩ (.int .i64 t3) b2 hk28).trans ((Below.heap_setCell _ ⟨b8, 1, none⟩ (.string t2) b2 hk28).trans ((Below.heap_setCell w7 ⟨b8, 0, none⟩ (.int .i64 t1) b2 hk28).trans HR.out)))
        have n5_ : Aside0 ((((w7.setCell ⟨b8, 0, none⟩ (.int .i64 t1)).setCell ⟨b8, 1, none⟩ (.string t2)).setCell ⟨b8, 2, none⟩ (.int .i64 t3)).heap[b8]? = some (Obj.cells #[.int .i64 t1, .string t2, .int .i64 t3] 32 (0, 0))) := ⟨by
          refine blk_put (cs := #[.int .i64 t1, .string t2, .int .i64 0]) ?_ 2 _ rfl
          refine blk_put (cs := #[.int .i64 t1, .string { data := #[] }, .int .i64 0]) ?_ 1 _ rfl
          refine blk_put (cs := #[.int .i64 0, .string { data := #[] }, .int .i64 0]) ?_ 0 _ rfl
          exact HT.out⟩
        clear HI HB HK HR HT
        generalize (((w7.setCell ⟨b8, 0, none⟩ (.int .i64 t1)).setCell ⟨b8, 1, none⟩ (.string t2)).setCell ⟨b8, 2, none⟩ (.int .i64 t3)) = w8 at n1_ n2_ n3_ n4_ n5_ ⊢
        have HI := n1_
        have HB := n2_
        have HK := n3_
        have HR := n4_
        have HT := n5_
        clear n1_ n2_ n3_ n4_ n5_
        have e0 := blk_cell HR.out 0
        have e1 := blk_cell HR.out 1
        have e2 := blk_cell HR.out 2
        have f0 := blk_frozen HR.out 0
        have f1 := blk_frozen HR.out 1
        have f2 := blk_frozen HR.out 2
        cases ok with
        | false =>
          rw [if_neg (by decide)] at H
          have H2 := H.out
          simp only [Option.some.injEq, Prod.mk.injEq] at H2
          obtain ⟨rfl, rfl, rfl, rfl, rfl, rfl, rfl⟩ := H2
          clear H
          go_wp2
          (try simp only [Exit.inBlock, Exit.then])
          refine bodyPost_ret (results_ctt rfl _ _ b2 32 #[.int .i64 0, .string { data := #[] }, .int .i64 0] (0, 0) _ rfl (by
            refine blk_put (cs := #[.int .i64 0, .string { data := #[] }, .int .i64 0]) ?_ 2 _ rfl
            refine blk_put (cs := #[.int .i64 0, .string { data := #[] }, .int .i64 0]) ?_ 1 _ rfl
            refine blk_put (cs := #[.int .i64 0, .string { data := #[] }, .int .i64 0]) ?_ 0 _ rfl
            exact HR.out) Try.underlying32 rfl (by kernel_rfl)) rfl ?_
          exact ⟨rfl, ((HI.out.far hgb _).far hgb _).far hgb _, below_set (below_set (below_set HB.out HL7.out) HL7.out) HL7.out, keep_far (keep_far (keep_far HK.out HL6.out _) HL6.out _) HL6.out _⟩
        | true =>
          rw [if_pos rfl] at H
          have H2 := H.out
          simp only [Option.some.injEq, Prod.mk.injEq] at H2
          obtain ⟨rfl, rfl, rfl, rfl, rfl, rfl, rfl⟩ := H2
          clear H
          have c1 := cellS60_1 HI.out.1
          have k0 := blk_cell HT.out 0
          have k1 := blk_cell HT.out 1
          have k2 := blk_cell HT.out 2
          go_upto_region 22 with (fail)
          go_big_region
          go_wp2
          (try simp only [Exit.inBlock, Exit.then])
          refine bodyPost_ret (results_ctt rfl _ _ b2 32 #[.int .i64 t1, .string t2, .int .i64 t3] (0, 0) _ rfl (by
            refine blk_drew ?_
            refine blk_put (cs := #[.int .i64 t1, .string t2, .int .i64 0]) ?_ 2 _ rfl
            refine blk_put (cs := #[.int .i64 t1, .string { data := #[] }, .int .i64 0]) ?_ 1 _ rfl
            refine blk_put (cs := #[.int .i64 0, .string { data := #[] }, .int .i64 0]) ?_ 0 _ rfl
            exact HR.out) Try.underlying32 rfl (by kernel_rfl)) rfl ?_
          exact ⟨rfl, (((HI.out.far hgb _).far hgb _).far hgb _).drew, below_drew1 (below_set (below_set (below_set HB.out HL7.out) HL7.out) HL7.out), keep_drew (keep_far (keep_far (keep_far HK.out HL6.out _) HL6.out _) HL6.out _)⟩
  · rw [if_neg hg] at h; cases h

/-! ### lex_All: function 17 -/
def lex_All.l0 : Nat → ByteArray → List (S32) → ByteArray → Int → Option ((List (S32)) × Int × Int)
  | 0, _, _, _, _ => none
  | k + 1, x0, x6, x130000, x130001 => if x130001 < (x0.size : Int) then ((lex_scanner_next.f k x130000 x130001).bind fun bt135 => (if bt135.2.2.2.2.1 = 0 then (if x6.length < 4398046511104 then ((lex_scanner_blanks.f k bt135.2.2.2.2.2.1 bt135.2.2.2.2.2.2).bind fun bt146 => (lex_All.l0 k x0 (x6 ++ [(⟨bt135.1, bt135.2.1, bt135.2.2.1⟩ : S32)]) bt146.1 bt146.2)) else (none)) else (some (([] : List (S32)), bt135.2.2.2.1, bt135.2.2.2.2.1)))) else (if x6.length < 4398046511104 then (some ((x6 ++ [(⟨6, (⟨#[]⟩ : ByteArray), (x0.size : Int)⟩ : S32)]), (x0.size : Int), 0)) else (none))
def lex_All.f (k : Nat) (a0 : ByteArray) : Option ((List (S32)) × Int × Int) := if (a0.size : Int) > 8192 then (some (([] : List (S32)), 0, 2)) else ((lex_scanner_blanks.f k a0 0).bind fun bt130 => (lex_All.l0 k a0 ([] : List (S32)) bt130.1 bt130.2))
theorem lex_All.mono_l : ∀ k, (∀ y0 y1 y2 y3, LeO (lex_All.l0 k y0 y1 y2 y3) (lex_All.l0 (k + 1) y0 y1 y2 y3))
  | 0 => fun _ _ _ _ r h => by simp [lex_All.l0] at h
  | k + 1 => by
    have ih0 := lex_All.mono_l k
    · intro y0 y1 y2 y3
      unfold lex_All.l0
      repeat' first
      | (with_reducible exact ih0 _ _ _ _)
      | (with_reducible exact lex_scanner_blanks.mono _ _ _)
      | (with_reducible exact lex_scanner_next.mono _ _ _)
      | (with_reducible exact LeO.refl _)
      | (with_reducible exact LeO.none _)
      | (with_reducible refine LeO.ite ?_ ?_)
      | (with_reducible refine LeO.bind ?_ (fun _ => ?_))
      | exact ih0 _ _ _ _
      | exact lex_scanner_blanks.mono _ _ _
      | exact lex_scanner_next.mono _ _ _
      | exact LeO.none _
      | refine LeO.ite ?_ ?_
      | refine LeO.bind ?_ (fun _ => ?_)
theorem lex_All.mono : ∀ a0 k, LeO (lex_All.f k a0) (lex_All.f (k + 1) a0) := by
  intro a0 k
  have ih0 := lex_All.mono_l k
  unfold lex_All.f
  repeat' first
      | (with_reducible exact ih0 _ _ _ _)
      | (with_reducible exact lex_scanner_blanks.mono _ _ _)
      | (with_reducible exact lex_scanner_next.mono _ _ _)
      | (with_reducible exact LeO.refl _)
      | (with_reducible exact LeO.none _)
      | (with_reducible refine LeO.ite ?_ ?_)
      | (with_reducible refine LeO.bind ?_ (fun _ => ?_))
      | exact ih0 _ _ _ _
      | exact lex_scanner_blanks.mono _ _ _
      | exact lex_scanner_next.mono _ _ _
      | exact LeO.none _
      | refine LeO.ite ?_ ?_
      | refine LeO.bind ?_ (fun _ => ?_)
set_option maxHeartbeats 8000000 in
set_option maxRecDepth 100000 in
theorem lex_All.calls (k : Nat) (a0 : ByteArray) (r1 : List (S32)) (r2 : Int) (r3 : Int) (w : World) (h : lex_All.f k a0 = some (r1, r2, r3)) :
    Calls Try.prog 17 #[.string a0] w fun e w' => ∃ v0_ : Value, e = .returned (.tuple #[v0_, .int .i64 r2, .int .i64 r3]) ∧ Kd.R k32 32 w' w.heap.size (fun _ => True) v0_ r1 ∧ Below w.heap.size w w' := by
  have hu60 := Try.underlying60
  have hu32 := Try.underlying32
  have HB := Aside0.mk (Below.refl w.heap.size w)
  have H : (if (a0.size : Int) > 8192 then (some (([] : List (S32)), 0, 2)) else ((lex_scanner_blanks.f k a0 0).bind fun bt130 => (lex_All.l0 k a0 ([] : List (S32)) bt130.1 bt130.2))) = some (r1, r2, r3) := h
  clear h
  by_cases c2 : (a0.size : Int) > 8192
  · rw [if_pos c2] at H
    have c2b0 : decide (8192 < (a0.size : Int)) = true := decide_eq_true c2
    have c2b1 : decide (8192 < a0.size) = true := decide_eq_true (by omega)
    clear c2
    simp only [Option.some.injEq, Prod.mk.injEq] at H
    obtain ⟨rfl, rfl, rfl⟩ := H
    go_enter Try.func17, Try.ntmps17
    go_wp2
    go_ret3
    exact ⟨_, by first | rfl | (simp [errW_none, errW_some] <;> rfl) | (simp [*, errW_none, errW_some] <;> rfl), by first | exact Kd.R_nil _ _ _ _ _ | exact Kd.N_nil _ _ _ _ _ | exact Kd.V_nil _ _ _ _ _ | exact Kd.Q_nil _ _ _ _ _ | exact Kd.S_nil _ _ _ _ _, by repeat (first | (with_reducible first | exact HB.out | apply below_alloc | apply pw_below_drewN | apply below_drew1) | exact HB.out)⟩
  · rw [if_neg c2] at H
    have c2b0 : decide (8192 < (a0.size : Int)) = false := decide_eq_false c2
    have c2b1 : decide (8192 < a0.size) = false := decide_eq_false (by omega)
    clear c2
    replace H := Option.bind_eq_some_iff.mp H
    obtain ⟨⟨t130, t131⟩, A30, H⟩ := H
    replace H : (lex_All.l0 k a0 ([] : List (S32)) t130 t131) = some (r1, r2, r3) := H
    have A3 := Aside0.mk A30
    clear A30
    have H' := Aside0.mk H
    clear H
    go_enter Try.func17, Try.ntmps17
    go_wp2_with (first | ((with_reducible refine gate_dst (N := 15) rfl ?_); refine box_event ?hg (N := 15) ?hd (cs := #[.string a0, .int .i64 0]) (t := 60) ?hr ?_; (case hd => rfl); (case hg => rfl); (case hr => first | (go_simp; done) | (go_simp; rfl)); intro gb129 hg w4 hbox hb; have n0_ := Aside0.mk (below_step (by repeat (first | (with_reducible first | exact HB.out | apply below_alloc | apply pw_below_drewN | apply below_drew1) | exact HB.out)) hb); have n1_ := Aside0.mk ((by rw [hg]; exact (below_size (by repeat (first | (with_reducible first | exact HB.out | apply below_alloc | apply pw_below_drewN | apply below_drew1) | exact HB.out))) : w.heap.size ≤ gb129)); have n2_ := Aside0.mk ((by rw [hg]; exact (below_size (by repeat (first | (with_reducible first | exact HB.out | apply below_alloc | apply pw_below_drewN | apply below_drew1) | exact HB.out))) : w.heap.size ≤ gb129)); have n3_ := Aside0.mk ((show IsS60 w _ gb129 a0 0 from ⟨hbox, (by rw [hg]; exact (below_size (by repeat (first | (with_reducible first | exact HB.out | apply below_alloc | apply pw_below_drewN | apply below_drew1) | exact HB.out))) : w.heap.size ≤ gb129)⟩)); clear HB; have HB := n0_; have GW129 := n1_; have GE129 := n2_; have HI129 := n3_; clear n0_ n1_ n2_ n3_; clear hb hbox hg) | ((with_reducible refine gate_callee (f := 33) rfl ?_); refine goesL_ (some 17) rfl rfl Try.func33 (by kernel_rfl) rfl #[.pointer (some ⟨gb129, 0, none⟩)] rfl (by (try simp only [List.map_toArray, List.map_cons, List.map_nil]); first | done | rfl | (simp only [List.length_drop, List.length_take]; rfl)) ?_; (with_reducible refine (lex_scanner_blanks.calls k gb129 a0 0 t130 t131 w _ ?side1 ?side2 A3.out).mono ?_); (case side1 => repeat (first | (with_reducible first | exact HI129.out | apply IsS60.alloc | apply IsS60.drewN | apply IsS60.drew | apply IsS60.set_0 | apply IsS60.set_1) | exact HI129.out)); (case side2 => repeat (first | (with_reducible first | exact HB.out | apply below_alloc | apply pw_below_drewN | apply below_drew1 | refine below_set ?_ (IsS60.ge HI129.out)) | exact HB.out)); rintro e w5 ⟨rfl, hi, hb, hk⟩; refine ⟨_, rfl, ?_⟩; have n0_ := Aside0.mk (hb); have n1_ := Aside0.mk (hi); clear HB; clear HI129; have HB := n0_; have HI129 := n1_; clear n0_ n1_; (try clear hb); (try clear hb2); (try clear hk); (try clear hi)))
    (try go_simp)
    go_loopg [6] k (fun kq v6 w' => ∃ (x6_1 : List (S32)) (x130000_1 : ByteArray) (x130001_1 : Int), Aside0 (lex_All.l0 kq a0 x6_1 x130000_1 x130001_1 = some (r1, r2, r3)) ∧ Aside0 (kq ≤ k) ∧ Aside0 (Kd.R k32 32 w' w.heap.size (fun _ => True) v6 x6_1) ∧ Aside0 (IsS60 w w' gb129 x130000_1 x130001_1) ∧ Aside0 (Below w.heap.size w w'))
    case atStart => exact ⟨(([] : List (S32))), (t130), (t131), H', ⟨Nat.le_refl _⟩, ⟨by first | exact Kd.R_nil _ _ _ _ _ | exact Kd.N_nil _ _ _ _ _ | exact Kd.V_nil _ _ _ _ _ | exact Kd.Q_nil _ _ _ _ _ | exact Kd.S_nil _ _ _ _ _⟩, ⟨by repeat (first | (with_reducible first | exact HI129.out | apply IsS60.alloc | apply IsS60.drewN | apply IsS60.drew | apply IsS60.set_0 | apply IsS60.set_1) | exact HI129.out)⟩, ⟨by repeat (first | (with_reducible first | exact HB.out | apply below_alloc | apply pw_below_drewN | apply below_drew1 | refine below_set ?_ (IsS60.ge HI129.out)) | exact HB.out)⟩⟩
    case round =>
      clear H'
      try clear c1
      try clear c2
      try clear c2b0
      try clear c2b1
      try clear p2
      try clear c3
      obtain ⟨x6_1, x130000_1, x130001_1, HA, HK1, HO_6, HI129, HB⟩ := hrel
      cases gk with
      | zero => exact absurd HA.out (by simp [lex_All.l0])
      | succ k1 =>
        have H := HA.out
        clear HA
        simp only [lex_All.l0] at H
        by_cases c6 : x130001_1 < (a0.size : Int)
        · rw [if_pos c6] at H
          have c6b0 : decide (x130001_1 < (a0.size : Int)) = true := decide_eq_true c6
          clear c6
          replace H := Option.bind_eq_some_iff.mp H
          obtain ⟨⟨t135, t136, t137, t138, t139, t140, t141⟩, A70, H⟩ := H
          replace H : (if t139 = 0 then (if x6_1.length < 4398046511104 then ((lex_scanner_blanks.f k1 t140 t141).bind fun bt146 => (lex_All.l0 k1 a0 (x6_1 ++ [(⟨t135, t136, t137⟩ : S32)]) bt146.1 bt146.2)) else (none)) else (some (([] : List (S32)), t138, t139))) = some (r1, r2, r3) := H
          have A7 := Aside0.mk A70
          clear A70
          by_cases c8 : t139 = 0
          · rw [if_pos c8] at H
            have c8b0 : (t139 == 0) = true := beq_iff_eq.mpr c8
            have c8b1 : (t139 != 0) = false := bne_eq_false_iff_eq.mpr c8
            clear c8
            by_cases c9 : x6_1.length < 4398046511104
            · rw [if_pos c9] at H
              have LMc9 := Aside0.mk c9
              clear c9
              obtain ⟨y143, hy143⟩ : ∃ y_ : List (S32), y_ = (x6_1 ++ [(⟨t135, t136, t137⟩ : S32)]) := ⟨_, rfl⟩
              replace H : ((lex_scanner_blanks.f k1 t140 t141).bind fun bt146 => (lex_All.l0 k1 a0 y143 bt146.1 bt146.2)) = some (r1, r2, r3) := by first | (rw [hy143]; with_reducible exact H) | (have H2_ := (Option.bind_some _ _).symm.trans H; rw [hy143]; with_reducible exact H2_) | (have H2_ := (Option.bind_some _ _).symm.trans H; with_reducible exact H2_) | with_reducible exact H | (rw [hy143]; exact H) | exact H
              have Ny143 := Aside0.mk hy143
              clear hy143
              replace H := Option.bind_eq_some_iff.mp H
              obtain ⟨⟨t146, t147⟩, A100, H⟩ := H
              replace H : (lex_All.l0 k1 a0 y143 t146 t147) = some (r1, r2, r3) := H
              have A10 := Aside0.mk A100
              clear A100
              have H' := Aside0.mk H
              clear H
              obtain ⟨HGz11, hgz11⟩ := HI129.out
              have hcz11_0 := cellS60_0 HGz11
              have hcz11_1 := cellS60_1 HGz11
              have hfz11_0 := blk_frozen HGz11 0
              have hfz11_1 := blk_frozen HGz11 1
              clear HGz11 hgz11
              go_wp2_with (first | ((with_reducible refine gate_callee (f := 34) rfl ?_); refine goesL_ (some 29) rfl rfl Try.func34 (by kernel_rfl) rfl #[.pointer (some ⟨gb129, 0, none⟩)] rfl (by (try simp only [List.map_toArray, List.map_cons, List.map_nil]); first | done | rfl | (simp only [List.length_drop, List.length_take]; rfl)) ?_; (with_reducible refine (lex_scanner_next.calls k1 gb129 x130000_1 x130001_1 t135 t136 t137 t138 t139 t140 t141 w _ ?side1 ?side2 A7.out).mono ?_); (case side1 => repeat (first | (with_reducible first | exact HI129.out | apply IsS60.alloc | apply IsS60.drewN | apply IsS60.drew | apply IsS60.set_0 | apply IsS60.set_1) | exact HI129.out)); (case side2 => repeat (first | (with_reducible first | exact HB.out | apply below_alloc | apply pw_below_drewN | apply below_drew1 | refine below_set ?_ (IsS60.ge HI129.out)) | exact HB.out)); rintro e w12 ⟨rfl, hi, hb, hk⟩; refine ⟨_, rfl, ?_⟩; have n0_ := Aside0.mk (Kd.R_mono (Kd.R_keep (IsS60.apart (show IsS60 w _ gb129 x130000_1 x130001_1 from by repeat (first | (with_reducible first | exact HI129.out | apply IsS60.alloc | apply IsS60.drewN | apply IsS60.drew | apply IsS60.set_0 | apply IsS60.set_1) | exact HI129.out)) (by (with_reducible repeat (first | apply Kd.R_alloc | apply Kd.R_drewN | apply Kd.R_drew)); exact HO_6.out) (by decide)) hk (fun _ h => h.2)) (fun _ h => h.1)); have n1_ := Aside0.mk (hb); have n2_ := Aside0.mk (hi); clear HO_6; clear HB; clear HI129; have HO_6 := n0_; have HB := n1_; have HI129 := n2_; clear n0_ n1_ n2_; (try clear hb); (try clear hb2); (try clear hk); (try clear hi)) | ((with_reducible refine gate_dst (N := 7) rfl ?_); refine box_event ?hg (N := 7) ?hd (cs := #[.int .i64 0, .string (⟨#[]⟩ : ByteArray), .int .i64 0]) (t := 32) ?hr ?_; (case hd => rfl); (case hg => rfl); (case hr => first | (go_simp; done) | (go_simp; rfl)); intro gb142 hg w13 hbox hb; have n0_ := Aside0.mk (Kd.R_below (Kd.R_elderB (by (with_reducible repeat (first | apply Kd.R_alloc | apply Kd.R_drewN | apply Kd.R_drew)); exact HO_6.out) gb142 (Nat.le_of_eq hg.symm)) hb); have n1_ := Aside0.mk (IsS60.below (by repeat (first | (with_reducible first | exact HI129.out | apply IsS60.alloc | apply IsS60.drewN | apply IsS60.drew | apply IsS60.set_0 | apply IsS60.set_1) | exact HI129.out)) hb); have n2_ := Aside0.mk (below_step (by repeat (first | (with_reducible first | exact HB.out | apply below_alloc | apply pw_below_drewN | apply below_drew1 | refine below_set ?_ (IsS60.ge HI129.out)) | exact HB.out)) hb); have n3_ := Aside0.mk (hbox); have n4_ := Aside0.mk ((by rw [hg]; exact (below_size (by repeat (first | (with_reducible first | exact HB.out | apply below_alloc | apply pw_below_drewN | apply below_drew1 | refine below_set ?_ (IsS60.ge HI129.out)) | exact HB.out))) : w.heap.size ≤ gb142)); have n5_ := Aside0.mk ((by rw [hg]; exact (below_size (by repeat (first | (with_reducible first | exact HB.out | apply below_alloc | apply pw_below_drewN | apply below_drew1 | refine below_set ?_ (IsS60.ge HI129.out)) | exact HB.out))) : w.heap.size ≤ gb142)); have n6_ := Aside0.mk ((by rw [hg]; exact Nat.ne_of_lt (IsS60.lt (show IsS60 w _ gb129 t140 t141 from by repeat (first | (with_reducible first | exact HI129.out | apply IsS60.alloc | apply IsS60.drewN | apply IsS60.drew | apply IsS60.set_0 | apply IsS60.set_1) | exact HI129.out))) : gb129 ≠ gb142)); have n7_ := Aside0.mk ((by rw [hg]; exact Nat.ne_of_gt (IsS60.lt (show IsS60 w _ gb129 t140 t141 from by repeat (first | (with_reducible first | exact HI129.out | apply IsS60.alloc | apply IsS60.drewN | apply IsS60.drew | apply IsS60.set_0 | apply IsS60.set_1) | exact HI129.out))) : gb142 ≠ gb129)); clear HO_6; clear HI129; clear HB; have HO_6 := n0_; have HI129 := n1_; have HB := n2_; have BK142 := n3_; have GW142 := n4_; have GE142 := n5_; have NB129_142 := n6_; have NB142_129 := n7_; clear n0_ n1_ n2_ n3_ n4_ n5_ n6_ n7_; clear hb hbox hg; have hnb14 := NB142_129.out; have hnc14 := NB129_142.out; have hcz15_0 : w13.cell? ⟨gb142, 0, none⟩ = some (.int .i64 0) := (blk_cell BK142.out 0).trans rfl; have hcz15_1 : w13.cell? ⟨gb142, 1, none⟩ = some (.string (⟨#[]⟩ : ByteArray)) := (blk_cell BK142.out 1).trans rfl; have hcz15_2 : w13.cell? ⟨gb142, 2, none⟩ = some (.int .i64 0) := (blk_cell BK142.out 2).trans rfl; have hfz15_0 := blk_frozen BK142.out 0; have hfz15_1 := blk_frozen BK142.out 1; have hfz15_2 := blk_frozen BK142.out 2) | ((with_reducible refine gate_builtin (b := .append) (xs := #[.tmp 37, .tmp 39]) rfl ?_); at_builtin; refine Kd.R_append k32 (w0 := w) w.heap.size rfl (.tmp 37) (.tmp 39) 23 32 (.agg #[(.int .i64 0), (.string ⟨#[]⟩), (.int .i64 0)]) 32 rfl Try.underlying23 info32 rfl (by decide) (by omega) u6 x6_1 (⟨t135, t136, t137⟩ : S32) [.int .i64 t135, .string t136, .int .i64 t137] (fun k_ => k_ ≠ gb142) (fun _ => False) rfl (by first | (go_simp; done) | (go_simp; rfl)) ?aP (fun _ hk => hk.elim) ?aF ?aO ?aB ?aS ?aL ?_; (case aP => exact k32_mkM _ _ _ (⟨t135, t136, t137⟩ : S32)); (case aB => exact (by repeat (first | (with_reducible first | exact HB.out | apply below_alloc | apply pw_below_drewN | apply below_drew1 | refine below_set ?_ (IsS60.ge HI129.out) | refine below_set ?_ GE142.out) | exact HB.out))); (case aF => exact (fun k_ hk => Kd.freshB (g := gb142) (o := .cells #[.int .i64 t135, .string t136, .int .i64 t137] 32 (0, 0)) (by (with_reducible repeat (first | refine blk_drewN ?_ _ | refine blk_drew ?_ | refine blk_alloc ?_ _)); refine blk_put (cs := #[.int .i64 t135, .string t136, .int .i64 0]) ?_ 2 _ rfl; (with_reducible repeat (first | refine blk_drewN ?_ _ | refine blk_drew ?_ | refine blk_alloc ?_ _)); refine blk_put (cs := #[.int .i64 t135, .string (⟨#[]⟩ : ByteArray), .int .i64 0]) ?_ 1 _ rfl; (with_reducible repeat (first | refine blk_drewN ?_ _ | refine blk_drew ?_ | refine blk_alloc ?_ _)); refine blk_put (cs := #[.int .i64 0, .string (⟨#[]⟩ : ByteArray), .int .i64 0]) ?_ 0 _ rfl; (with_reducible repeat (first | refine blk_drewN ?_ _ | refine blk_drew ?_ | refine blk_alloc ?_ _)); exact BK142.out) k_ hk)); (case aO => exact (by (with_reducible repeat (first | apply Kd.R_alloc | apply Kd.R_drewN | apply Kd.R_drew)); exact Kd.R_mono (Kd.R_far (p := ⟨gb142, 2, none⟩) (Kd.R_far (p := ⟨gb142, 1, none⟩) (Kd.R_far (p := ⟨gb142, 0, none⟩) (Kd.R_mono HO_6.out (fun k_ hk => (⟨hk, hk.2⟩ : _ ∧ k_ ≠ gb142))) (fun _ hk => hk.2) (.int .i64 t135)) (fun _ hk => hk.2) (.string t136)) (fun _ hk => hk.2) (.int .i64 t137)) (fun _ hk => hk.1.2))); (case aS => exact (below_size (by repeat (first | (with_reducible first | exact HB.out | apply below_alloc | apply pw_below_drewN | apply below_drew1 | refine below_set ?_ (IsS60.ge HI129.out) | refine below_set ?_ GE142.out) | exact HB.out)))); (case aL => have := LMc9.out; omega); intro v144 w16 ho hb hg hat; rw [← Ny143.out] at ho; have n0_ := Aside0.mk (IsS60.grown (show IsS60 w _ gb129 t140 t141 from by repeat (first | (with_reducible first | exact HI129.out | apply IsS60.alloc | apply IsS60.drewN | apply IsS60.drew | apply IsS60.set_0 | apply IsS60.set_1 | refine IsS60.far ?_ NB129_142.out _) | exact HI129.out)) hg (IsS60.own_ne HI129.out HO_6.out (by decide))); have n1_ := Aside0.mk (blk_grown (g := gb142) (o := .cells #[.int .i64 t135, .string t136, .int .i64 t137] 32 (0, 0)) (by (with_reducible repeat (first | refine blk_drewN ?_ _ | refine blk_drew ?_ | refine blk_alloc ?_ _)); refine blk_put (cs := #[.int .i64 t135, .string t136, .int .i64 0]) ?_ 2 _ rfl; (with_reducible repeat (first | refine blk_drewN ?_ _ | refine blk_drew ?_ | refine blk_alloc ?_ _)); refine blk_put (cs := #[.int .i64 t135, .string (⟨#[]⟩ : ByteArray), .int .i64 0]) ?_ 1 _ rfl; (with_reducible repeat (first | refine blk_drewN ?_ _ | refine blk_drew ?_ | refine blk_alloc ?_ _)); refine blk_put (cs := #[.int .i64 0, .string (⟨#[]⟩ : ByteArray), .int .i64 0]) ?_ 0 _ rfl; (with_reducible repeat (first | refine blk_drewN ?_ _ | refine blk_drew ?_ | refine blk_alloc ?_ _)); exact BK142.out) hg (Kd.R_away HO_6.out (fun _ hk => hk.2))); have n2_ := Aside0.mk (hb); have n3_ := Aside0.mk (ho); clear HI129; clear BK142; clear HB; clear HO_6; have HI129 := n0_; have BK142 := n1_; have HB := n2_; have HO145 := n3_; clear n0_ n1_ n2_ n3_; clear ho hb hg hat) | ((with_reducible refine gate_callee (f := 33) rfl ?_); refine goesL_ (some 26) rfl rfl Try.func33 (by kernel_rfl) rfl #[.pointer (some ⟨gb129, 0, none⟩)] rfl (by (try simp only [List.map_toArray, List.map_cons, List.map_nil]); first | done | rfl | (simp only [List.length_drop, List.length_take]; rfl)) ?_; (with_reducible refine (lex_scanner_blanks.calls k1 gb129 t140 t141 t146 t147 w _ ?side1 ?side2 A10.out).mono ?_); (case side1 => repeat (first | (with_reducible first | exact HI129.out | apply IsS60.alloc | apply IsS60.drewN | apply IsS60.drew | apply IsS60.set_0 | apply IsS60.set_1 | refine IsS60.far ?_ NB129_142.out _) | exact HI129.out)); (case side2 => repeat (first | (with_reducible first | exact HB.out | apply below_alloc | apply pw_below_drewN | apply below_drew1 | refine below_set ?_ (IsS60.ge HI129.out) | refine below_set ?_ GE142.out) | exact HB.out)); rintro e w17 ⟨rfl, hi, hb, hk⟩; refine ⟨_, rfl, ?_⟩; have n0_ := Aside0.mk (KeepBut.blk hk (g' := gb142) (o := .cells #[.int .i64 t135, .string t136, .int .i64 t137] 32 (0, 0)) (by (with_reducible repeat (first | refine blk_drewN ?_ _ | refine blk_drew ?_ | refine blk_alloc ?_ _)); exact BK142.out) NB142_129.out (by simp)); have n1_ := Aside0.mk (Kd.R_mono (Kd.R_keep (IsS60.apart (show IsS60 w _ gb129 t140 t141 from by repeat (first | (with_reducible first | exact HI129.out | apply IsS60.alloc | apply IsS60.drewN | apply IsS60.drew | apply IsS60.set_0 | apply IsS60.set_1 | refine IsS60.far ?_ NB129_142.out _) | exact HI129.out)) (by (with_reducible repeat (first | apply Kd.R_alloc | apply Kd.R_drewN | apply Kd.R_drew)); exact HO145.out) (by decide)) hk (fun _ h => h.2)) (fun _ h => h.1)); have n2_ := Aside0.mk (hb); have n3_ := Aside0.mk (hi); clear BK142; clear HO145; clear HB; clear HI129; have BK142 := n0_; have HO145 := n1_; have HB := n2_; have HI129 := n3_; clear n0_ n1_ n2_ n3_; (try clear hb); (try clear hb2); (try clear hk); (try clear hi)))
              go_roundg k1
              case measure => have := HK1.out; omega
              case rel => exact ⟨(y143), (t146), (t147), H', ⟨by have := HK1.out; omega⟩, ⟨by (with_reducible repeat (first | apply Kd.R_alloc | apply Kd.R_drewN | apply Kd.R_drew)); exact Kd.R_mono HO145.out (fun _ hk => trivial)⟩, ⟨by repeat (first | (with_reducible first | exact HI129.out | apply IsS60.alloc | apply IsS60.drewN | apply IsS60.drew | apply IsS60.set_0 | apply IsS60.set_1 | refine IsS60.far ?_ NB129_142.out _) | exact HI129.out)⟩, ⟨by repeat (first | (with_reducible first | exact HB.out | apply below_alloc | apply pw_below_drewN | apply below_drew1 | refine below_set ?_ (IsS60.ge HI129.out) | refine below_set ?_ GE142.out) | exact HB.out)⟩⟩
            · rw [if_neg c9] at H
              exact absurd H (by simp)
          · rw [if_neg c8] at H
            have c8b0 : (t139 == 0) = false := beq_eq_false_iff_ne.mpr c8
            have c8b1 : (t139 != 0) = true := bne_iff_ne.mpr c8
            simp only [Option.some.injEq, Prod.mk.injEq] at H
            obtain ⟨rfl, rfl, rfl⟩ := H
            obtain ⟨HGz18, hgz18⟩ := HI129.out
            have hcz18_0 := cellS60_0 HGz18
            have hcz18_1 := cellS60_1 HGz18
            have hfz18_0 := blk_frozen HGz18 0
            have hfz18_1 := blk_frozen HGz18 1
            clear HGz18 hgz18
            go_wp2_with (first | ((with_reducible refine gate_callee (f := 34) rfl ?_); refine goesL_ (some 29) rfl rfl Try.func34 (by kernel_rfl) rfl #[.pointer (some ⟨gb129, 0, none⟩)] rfl (by (try simp only [List.map_toArray, List.map_cons, List.map_nil]); first | done | rfl | (simp only [List.length_drop, List.length_take]; rfl)) ?_; (with_reducible refine (lex_scanner_next.calls k1 gb129 x130000_1 x130001_1 t135 t136 t137 t138 t139 t140 t141 w _ ?side1 ?side2 A7.out).mono ?_); (case side1 => repeat (first | (with_reducible first | exact HI129.out | apply IsS60.alloc | apply IsS60.drewN | apply IsS60.drew | apply IsS60.set_0 | apply IsS60.set_1) | exact HI129.out)); (case side2 => repeat (first | (with_reducible first | exact HB.out | apply below_alloc | apply pw_below_drewN | apply below_drew1 | refine below_set ?_ (IsS60.ge HI129.out)) | exact HB.out)); rintro e w19 ⟨rfl, hi, hb, hk⟩; refine ⟨_, rfl, ?_⟩; have n0_ := Aside0.mk (Kd.R_mono (Kd.R_keep (IsS60.apart (show IsS60 w _ gb129 x130000_1 x130001_1 from by repeat (first | (with_reducible first | exact HI129.out | apply IsS60.alloc | apply IsS60.drewN | apply IsS60.drew | apply IsS60.set_0 | apply IsS60.set_1) | exact HI129.out)) (by (with_reducible repeat (first | apply Kd.R_alloc | apply Kd.R_drewN | apply Kd.R_drew)); exact HO_6.out) (by decide)) hk (fun _ h => h.2)) (fun _ h => h.1)); have n1_ := Aside0.mk (hb); have n2_ := Aside0.mk (hi); clear HO_6; clear HB; clear HI129; have HO_6 := n0_; have HB := n1_; have HI129 := n2_; clear n0_ n1_ n2_; (try clear hb); (try clear hb2); (try clear hk); (try clear hi)) | ((with_reducible refine gate_dst (N := 7) rfl ?_); refine box_event ?hg (N := 7) ?hd (cs := #[.int .i64 0, .string (⟨#[]⟩ : ByteArray), .int .i64 0]) (t := 32) ?hr ?_; (case hd => rfl); (case hg => rfl); (case hr => first | (go_simp; done) | (go_simp; rfl)); intro gb142 hg w20 hbox hb; have n0_ := Aside0.mk (Kd.R_below (Kd.R_elderB (by (with_reducible repeat (first | apply Kd.R_alloc | apply Kd.R_drewN | apply Kd.R_drew)); exact HO_6.out) gb142 (Nat.le_of_eq hg.symm)) hb); have n1_ := Aside0.mk (IsS60.below (by repeat (first | (with_reducible first | exact HI129.out | apply IsS60.alloc | apply IsS60.drewN | apply IsS60.drew | apply IsS60.set_0 | apply IsS60.set_1) | exact HI129.out)) hb); have n2_ := Aside0.mk (below_step (by repeat (first | (with_reducible first | exact HB.out | apply below_alloc | apply pw_below_drewN | apply below_drew1 | refine below_set ?_ (IsS60.ge HI129.out)) | exact HB.out)) hb); have n3_ := Aside0.mk (hbox); have n4_ := Aside0.mk ((by rw [hg]; exact (below_size (by repeat (first | (with_reducible first | exact HB.out | apply below_alloc | apply pw_below_drewN | apply below_drew1 | refine below_set ?_ (IsS60.ge HI129.out)) | exact HB.out))) : w.heap.size ≤ gb142)); have n5_ := Aside0.mk ((by rw [hg]; exact (below_size (by repeat (first | (with_reducible first | exact HB.out | apply below_alloc | apply pw_below_drewN | apply below_drew1 | refine below_set ?_ (IsS60.ge HI129.out)) | exact HB.out))) : w.heap.size ≤ gb142)); have n6_ := Aside0.mk ((by rw [hg]; exact Nat.ne_of_lt (IsS60.lt (show IsS60 w _ gb129 t140 t141 from by repeat (first | (with_reducible first | exact HI129.out | apply IsS60.alloc | apply IsS60.drewN | apply IsS60.drew | apply IsS60.set_0 | apply IsS60.set_1) | exact HI129.out))) : gb129 ≠ gb142)); have n7_ := Aside0.mk ((by rw [hg]; exact Nat.ne_of_gt (IsS60.lt (show IsS60 w _ gb129 t140 t141 from by repeat (first | (with_reducible first | exact HI129.out | apply IsS60.alloc | apply IsS60.drewN | apply IsS60.drew | apply IsS60.set_0 | apply IsS60.set_1) | exact HI129.out))) : gb142 ≠ gb129)); clear HO_6; clear HI129; clear HB; have HO_6 := n0_; have HI129 := n1_; have HB := n2_; have BK142 := n3_; have GW142 := n4_; have GE142 := n5_; have NB129_142 := n6_; have NB142_129 := n7_; clear n0_ n1_ n2_ n3_ n4_ n5_ n6_ n7_; clear hb hbox hg; have hnb21 := NB142_129.out; have hnc21 := NB129_142.out; have hcz22_0 : w20.cell? ⟨gb142, 0, none⟩ = some (.int .i64 0) := (blk_cell BK142.out 0).trans rfl; have hcz22_1 : w20.cell? ⟨gb142, 1, none⟩ = some (.string (⟨#[]⟩ : ByteArray)) := (blk_cell BK142.out 1).trans rfl; have hcz22_2 : w20.cell? ⟨gb142, 2, none⟩ = some (.int .i64 0) := (blk_cell BK142.out 2).trans rfl; have hfz22_0 := blk_frozen BK142.out 0; have hfz22_1 := blk_frozen BK142.out 1; have hfz22_2 := blk_frozen BK142.out 2))
            go_ret3
            exact ⟨_, by first | rfl | (simp [errW_none, errW_some] <;> rfl) | (simp [*, errW_none, errW_some] <;> rfl), by first | exact Kd.R_nil _ _ _ _ _ | exact Kd.N_nil _ _ _ _ _ | exact Kd.V_nil _ _ _ _ _ | exact Kd.Q_nil _ _ _ _ _ | exact Kd.S_nil _ _ _ _ _, by repeat (first | (with_reducible first | exact HB.out | apply below_alloc | apply pw_below_drewN | apply below_drew1 | refine below_set ?_ (IsS60.ge HI129.out) | refine below_set ?_ GE142.out) | exact HB.out)⟩
        · rw [if_neg c6] at H
          have c6b0 : decide (x130001_1 < (a0.size : Int)) = false := decide_eq_false c6
          clear c6
          by_cases c23 : x6_1.length < 4398046511104
          · rw [if_pos c23] at H
            have LMc23 := Aside0.mk c23
            clear c23
            obtain ⟨y132, hy132⟩ : ∃ y_ : List (S32), y_ = (x6_1 ++ [(⟨6, (⟨#[]⟩ : ByteArray), (a0.size : Int)⟩ : S32)]) := ⟨_, rfl⟩
            replace H : (some (y132, (a0.size : Int), 0)) = some (r1, r2, r3) := by first | (rw [hy132]; with_reducible exact H) | (have H2_ := (Option.bind_some _ _).symm.trans H; rw [hy132]; with_reducible exact H2_) | (have H2_ := (Option.bind_some _ _).symm.trans H; with_reducible exact H2_) | with_reducible exact H | (rw [hy132]; exact H) | exact H
            have Ny132 := Aside0.mk hy132
            clear hy132
            simp only [Option.some.injEq, Prod.mk.injEq] at H
            obtain ⟨rfl, rfl, rfl⟩ := H
            obtain ⟨HGz24, hgz24⟩ := HI129.out
            have hcz24_0 := cellS60_0 HGz24
            have hcz24_1 := cellS60_1 HGz24
            have hfz24_0 := blk_frozen HGz24 0
            have hfz24_1 := blk_frozen HGz24 1
            clear HGz24 hgz24
            go_wp2_with (first | ((with_reducible refine gate_builtin (b := .append) (xs := #[.tmp 41, .tmp 45]) rfl ?_); at_builtin; refine Kd.R_append k32 (w0 := w) w.heap.size rfl (.tmp 41) (.tmp 45) 23 32 (.agg #[(.int .i64 0), (.string ⟨#[]⟩), (.int .i64 0)]) 32 rfl Try.underlying23 info32 rfl (by decide) (by omega) u6 x6_1 (⟨6, (⟨#[]⟩ : ByteArray), (a0.size : Int)⟩ : S32) [.int .i64 6, .string (⟨#[]⟩ : ByteArray), .int .i64 (a0.size : Int)] (fun _ => True) (fun _ => False) rfl rfl ?aP (fun _ hk => hk.elim) ?aF ?aO ?aB ?aS ?aL ?_; (case aP => exact k32_mkM _ _ _ (⟨6, (⟨#[]⟩ : ByteArray), (a0.size : Int)⟩ : S32)); (case aB => exact (by repeat (first | (with_reducible first | exact HB.out | apply below_alloc | apply pw_below_drewN | apply below_drew1 | refine below_set ?_ (IsS60.ge HI129.out)) | exact HB.out))); (case aF => exact (fun _ _ => trivial)); (case aO => exact (by (with_reducible repeat (first | apply Kd.R_alloc | apply Kd.R_drewN | apply Kd.R_drew)); exact HO_6.out)); (case aS => exact (below_size (by repeat (first | (with_reducible first | exact HB.out | apply below_alloc | apply pw_below_drewN | apply below_drew1 | refine below_set ?_ (IsS60.ge HI129.out)) | exact HB.out)))); (case aL => have := LMc23.out; omega); intro v133 w25 ho hb hg hat; rw [← Ny132.out] at ho; have n0_ := Aside0.mk (IsS60.grown (show IsS60 w _ gb129 x130000_1 x130001_1 from by repeat (first | (with_reducible first | exact HI129.out | apply IsS60.alloc | apply IsS60.drewN | apply IsS60.drew | apply IsS60.set_0 | apply IsS60.set_1) | exact HI129.out)) hg (IsS60.own_ne HI129.out HO_6.out (by decide))); have n1_ := Aside0.mk (hb); have n2_ := Aside0.mk (ho); clear HI129; clear HB; clear HO_6; have HI129 := n0_; have HB := n1_; have HO134 := n2_; clear n0_ n1_ n2_; clear ho hb hg hat))
            go_ret3
            exact ⟨_, by first | rfl | (simp [errW_none, errW_some] <;> rfl) | (simp [*, errW_none, errW_some] <;> rfl), by (with_reducible repeat (first | apply Kd.R_alloc | apply Kd.R_drewN | apply Kd.R_drew)); exact HO134.out, by repeat (first | (with_reducible first | exact HB.out | apply below_alloc | apply pw_below_drewN | apply below_drew1 | refine below_set ?_ (IsS60.ge HI129.out)) | exact HB.out)⟩
          · rw [if_neg c23] at H
            exact absurd H (by simp)

/-! ### haruspexref17_blank: function 35 -/
def haruspexref17_blank.f (a0 : Int) : Option (Bool) := if a0 = 32 then (some true) else (if a0 = 9 then (some true) else (some (a0 == 10)))
set_option maxHeartbeats 8000000 in
set_option maxRecDepth 100000 in
theorem haruspexref17_blank.calls (a0 : Int) (r : Bool) (w : World) (h : haruspexref17_blank.f a0 = some r) :
    Calls Try.prog 35 #[.int .u8 a0] w fun e w' => e = .returned (.bool r) ∧ Drawn0 w w' := by
  have H : (if a0 = 32 then (some true) else (if a0 = 9 then (some true) else (some (a0 == 10)))) = some r := h
  clear h
  by_cases c2 : a0 = 32
  · rw [if_pos c2] at H
    have c2b0 : (a0 == 32) = true := beq_iff_eq.mpr c2
    have c2b1 : (a0 != 32) = false := bne_eq_false_iff_eq.mpr c2
    clear c2
    obtain rfl := Option.some.inj H
    go_enter Try.func35, Try.ntmps35
    go_wp2
    go_ret
    exact ⟨by first | rfl | (simp; done) | (simp [*]; done), by repeat (first | exact Drawn0.refl _ | apply Drawn0.step)⟩
  · rw [if_neg c2] at H
    have c2b0 : (a0 == 32) = false := beq_eq_false_iff_ne.mpr c2
    have c2b1 : (a0 != 32) = true := bne_iff_ne.mpr c2
    by_cases c3 : a0 = 9
    · rw [if_pos c3] at H
      have c3b0 : (a0 == 9) = true := beq_iff_eq.mpr c3
      have c3b1 : (a0 != 9) = false := bne_eq_false_iff_eq.mpr c3
      clear c3
      obtain rfl := Option.some.inj H
      go_enter Try.func35, Try.ntmps35
      go_wp2
      go_ret
      exact ⟨by first | rfl | (simp; done) | (simp [*]; done), by repeat (first | exact Drawn0.refl _ | apply Drawn0.step)⟩
    · rw [if_neg c3] at H
      have c3b0 : (a0 == 9) = false := beq_eq_false_iff_ne.mpr c3
      have c3b1 : (a0 != 9) = true := bne_iff_ne.mpr c3
      obtain rfl := Option.some.inj H
      go_enter Try.func35, Try.ntmps35
      go_wp2
      go_ret
      exact ⟨by first | rfl | (simp; done) | (simp [*]; done), by repeat (first | exact Drawn0.refl _ | apply Drawn0.step)⟩

/-! ### haruspexref17_upper: function 50 -/
def haruspexref17_upper.f (a0 : Int) : Option (Bool) := if a0 ≥ 65 then (some (decide (a0 ≤ 90))) else (some false)
set_option maxHeartbeats 8000000 in
set_option maxRecDepth 100000 in
theorem haruspexref17_upper.calls (a0 : Int) (r : Bool) (w : World) (h : haruspexref17_upper.f a0 = some r) :
    Calls Try.prog 50 #[.int .u8 a0] w fun e w' => e = .returned (.bool r) ∧ Drawn0 w w' := by
  have H : (if a0 ≥ 65 then (some (decide (a0 ≤ 90))) else (some false)) = some r := h
  clear h
  by_cases c2 : a0 ≥ 65
  · rw [if_pos c2] at H
    have c2b0 : decide (65 ≤ a0) = true := decide_eq_true c2
    clear c2
    obtain rfl := Option.some.inj H
    go_enter Try.func50, Try.ntmps50
    go_wp2
    go_ret
    exact ⟨by first | rfl | (simp; done) | (simp [*]; done), by repeat (first | exact Drawn0.refl _ | apply Drawn0.step)⟩
  · rw [if_neg c2] at H
    have c2b0 : decide (65 ≤ a0) = false := decide_eq_false c2
    clear c2
    obtain rfl := Option.some.inj H
    go_enter Try.func50, Try.ntmps50
    go_wp2
    go_ret
    exact ⟨by first | rfl | (simp; done) | (simp [*]; done), by repeat (first | exact Drawn0.refl _ | apply Drawn0.step)⟩

/-! ### haruspexref17_lower: function 51 -/
def haruspexref17_lower.f (a0 : Int) : Option (Bool) := if a0 ≥ 97 then (some (decide (a0 ≤ 122))) else (some false)
set_option maxHeartbeats 8000000 in
set_option maxRecDepth 100000 in
theorem haruspexref17_lower.calls (a0 : Int) (r : Bool) (w : World) (h : haruspexref17_lower.f a0 = some r) :
    Calls Try.prog 51 #[.int .u8 a0] w fun e w' => e = .returned (.bool r) ∧ Drawn0 w w' := by
  have H : (if a0 ≥ 97 then (some (decide (a0 ≤ 122))) else (some false)) = some r := h
  clear h
  by_cases c2 : a0 ≥ 97
  · rw [if_pos c2] at H
    have c2b0 : decide (97 ≤ a0) = true := decide_eq_true c2
    clear c2
    obtain rfl := Option.some.inj H
    go_enter Try.func51, Try.ntmps51
    go_wp2
    go_ret
    exact ⟨by first | rfl | (simp; done) | (simp [*]; done), by repeat (first | exact Drawn0.refl _ | apply Drawn0.step)⟩
  · rw [if_neg c2] at H
    have c2b0 : decide (97 ≤ a0) = false := decide_eq_false c2
    clear c2
    obtain rfl := Option.some.inj H
    go_enter Try.func51, Try.ntmps51
    go_wp2
    go_ret
    exact ⟨by first | rfl | (simp; done) | (simp [*]; done), by repeat (first | exact Drawn0.refl _ | apply Drawn0.step)⟩

/-! ### haruspexref17_digit: function 52 -/
def haruspexref17_digit.f (a0 : Int) : Option (Bool) := if a0 ≥ 48 then (some (decide (a0 ≤ 57))) else (some false)
set_option maxHeartbeats 8000000 in
set_option maxRecDepth 100000 in
theorem haruspexref17_digit.calls (a0 : Int) (r : Bool) (w : World) (h : haruspexref17_digit.f a0 = some r) :
    Calls Try.prog 52 #[.int .u8 a0] w fun e w' => e = .returned (.bool r) ∧ Drawn0 w w' := by
  have H : (if a0 ≥ 48 then (some (decide (a0 ≤ 57))) else (some false)) = some r := h
  clear h
  by_cases c2 : a0 ≥ 48
  · rw [if_pos c2] at H
    have c2b0 : decide (48 ≤ a0) = true := decide_eq_true c2
    clear c2
    obtain rfl := Option.some.inj H
    go_enter Try.func52, Try.ntmps52
    go_wp2
    go_ret
    exact ⟨by first | rfl | (simp; done) | (simp [*]; done), by repeat (first | exact Drawn0.refl _ | apply Drawn0.step)⟩
  · rw [if_neg c2] at H
    have c2b0 : decide (48 ≤ a0) = false := decide_eq_false c2
    clear c2
    obtain rfl := Option.some.inj H
    go_enter Try.func52, Try.ntmps52
    go_wp2
    go_ret
    exact ⟨by first | rfl | (simp; done) | (simp [*]; done), by repeat (first | exact Drawn0.refl _ | apply Drawn0.step)⟩

/-! ### haruspexref05_plain: function 67 -/
def haruspexref05_plain.f (a0 : Int) : Option (Bool) := if a0 ≥ 32 then (some (decide (a0 ≤ 126))) else (some false)
set_option maxHeartbeats 8000000 in
set_option maxRecDepth 100000 in
theorem haruspexref05_plain.calls (a0 : Int) (r : Bool) (w : World) (h : haruspexref05_plain.f a0 = some r) :
    Calls Try.prog 67 #[.int .u8 a0] w fun e w' => e = .returned (.bool r) ∧ Drawn0 w w' := by
  have H : (if a0 ≥ 32 then (some (decide (a0 ≤ 126))) else (some false)) = some r := h
  clear h
  by_cases c2 : a0 ≥ 32
  · rw [if_pos c2] at H
    have c2b0 : decide (32 ≤ a0) = true := decide_eq_true c2
    clear c2
    obtain rfl := Option.some.inj H
    go_enter Try.func67, Try.ntmps67
    go_wp2
    go_ret
    exact ⟨by first | rfl | (simp; done) | (simp [*]; done), by repeat (first | exact Drawn0.refl _ | apply Drawn0.step)⟩
  · rw [if_neg c2] at H
    have c2b0 : decide (32 ≤ a0) = false := decide_eq_false c2
    clear c2
    obtain rfl := Option.some.inj H
    go_enter Try.func67, Try.ntmps67
    go_wp2
    go_ret
    exact ⟨by first | rfl | (simp; done) | (simp [*]; done), by repeat (first | exact Drawn0.refl _ | apply Drawn0.step)⟩

/-! ### haruspexref05_hex: function 68 -/
def haruspexref05_hex.l0 : Nat → Int → Int → Option (Int)
  | 0, _, _ => none
  | k + 1, x0, x3 => if x3 < 16 then (if 0 ≤ x3 then (if (bt (⟨#[48, 49, 50, 51, 52, 53, 54, 55, 56, 57, 97, 98, 99, 100, 101, 102]⟩ : ByteArray) x3) = x0 then (some x3) else (haruspexref05_hex.l0 k x0 (wrap64 (x3 + 1)))) else (none)) else (some (-1))
def haruspexref05_hex.f (k : Nat) (a0 : Int) : Option (Int) := haruspexref05_hex.l0 k a0 0
theorem haruspexref05_hex.mono_l : ∀ k, (∀ y0 y1, LeO (haruspexref05_hex.l0 k y0 y1) (haruspexref05_hex.l0 (k + 1) y0 y1))
  | 0 => fun _ _ r h => by simp [haruspexref05_hex.l0] at h
  | k + 1 => by
    have ih0 := haruspexref05_hex.mono_l k
    · intro y0 y1
      unfold haruspexref05_hex.l0
      repeat' first
      | (with_reducible exact ih0 _ _)
      | (with_reducible exact LeO.refl _)
      | (with_reducible exact LeO.none _)
      | (with_reducible refine LeO.ite ?_ ?_)
      | (with_reducible refine LeO.bind ?_ (fun _ => ?_))
      | exact ih0 _ _
      | exact LeO.none _
      | refine LeO.ite ?_ ?_
      | refine LeO.bind ?_ (fun _ => ?_)
theorem haruspexref05_hex.mono : ∀ a0 k, LeO (haruspexref05_hex.f k a0) (haruspexref05_hex.f (k + 1) a0) := by
  intro a0 k
  have ih0 := haruspexref05_hex.mono_l k
  unfold haruspexref05_hex.f
  repeat' first
      | (with_reducible exact ih0 _ _)
      | (with_reducible exact LeO.refl _)
      | (with_reducible exact LeO.none _)
      | (with_reducible refine LeO.ite ?_ ?_)
      | (with_reducible refine LeO.bind ?_ (fun _ => ?_))
      | exact ih0 _ _
      | exact LeO.none _
      | refine LeO.ite ?_ ?_
      | refine LeO.bind ?_ (fun _ => ?_)
set_option maxHeartbeats 8000000 in
set_option maxRecDepth 100000 in
theorem haruspexref05_hex.calls (k : Nat) (a0 : Int) (r : Int) (w : World) (h : haruspexref05_hex.f k a0 = some r) :
    Calls Try.prog 68 #[.int .u8 a0] w fun e w' => e = .returned (.int .i64 r) ∧ Drawn0 w w' := by
  have H : (haruspexref05_hex.l0 k a0 0) = some r := h
  clear h
  have H' := Aside0.mk H
  clear H
  go_enter Try.func68, Try.ntmps68
  go_wp2
  go_loopg [3] k (fun kq v3 w' => ∃ (x3_1 : Int), v3 = .int .i64 x3_1 ∧ Aside0 (haruspexref05_hex.l0 kq a0 x3_1 = some r) ∧ Aside0 (kq ≤ k) ∧ Drawn0 w w')
  case atStart => exact ⟨(0), (by first | rfl | (simp; done) | (simp [*]; done)), H', ⟨Nat.le_refl _⟩, by repeat (first | exact Drawn0.refl _ | apply Drawn0.step)⟩
  case round =>
    clear H'
    obtain ⟨x3_1, rfl, HA, HK1, ⟨m1, rfl⟩⟩ := hrel
    cases gk with
    | zero => exact absurd HA.out (by simp [haruspexref05_hex.l0])
    | succ k1 =>
      have H := HA.out
      clear HA
      simp only [haruspexref05_hex.l0] at H
      by_cases c2 : x3_1 < 16
      · rw [if_pos c2] at H
        have c2b0 : decide (x3_1 < 16) = true := decide_eq_true c2
        clear c2
        by_cases c3 : 0 ≤ x3_1
        · rw [if_pos c3] at H
          have c3b0 : decide (0 ≤ x3_1) = true := decide_eq_true c3
          clear c3
          by_cases c5 : (bt (⟨#[48, 49, 50, 51, 52, 53, 54, 55, 56, 57, 97, 98, 99, 100, 101, 102]⟩ : ByteArray) x3_1) = a0
          · rw [if_pos c5] at H
            have c5b0 : ((bt (⟨#[48, 49, 50, 51, 52, 53, 54, 55, 56, 57, 97, 98, 99, 100, 101, 102]⟩ : ByteArray) x3_1) == a0) = true := beq_iff_eq.mpr c5
            have c5b1 : ((bt (⟨#[48, 49, 50, 51, 52, 53, 54, 55, 56, 57, 97, 98, 99, 100, 101, 102]⟩ : ByteArray) x3_1) != a0) = false := bne_eq_false_iff_eq.mpr c5
            clear c5
            obtain rfl := Option.some.inj H
            have p4 : 0 ≤ (x3_1 : Int) := of_decide_eq_true (by first | (with_reducible assumption) | assumption)
            have q4 : x3_1 < (16 : Int) := of_decide_eq_true (by first | (with_reducible assumption) | assumption)
            have hx4 := bt_at (⟨#[48, 49, 50, 51, 52, 53, 54, 55, 56, 57, 97, 98, 99, 100, 101, 102]⟩ : ByteArray) x3_1
            replace p4 := eq_true p4
            replace q4 := eq_true q4
            go_wp2
            go_ret
            exact ⟨by first | rfl | (simp; done) | (simp [*]; done), by repeat (first | exact Drawn0.refl _ | apply Drawn0.step)⟩
          · rw [if_neg c5] at H
            have c5b0 : ((bt (⟨#[48, 49, 50, 51, 52, 53, 54, 55, 56, 57, 97, 98, 99, 100, 101, 102]⟩ : ByteArray) x3_1) == a0) = false := beq_eq_false_iff_ne.mpr c5
            have c5b1 : ((bt (⟨#[48, 49, 50, 51, 52, 53, 54, 55, 56, 57, 97, 98, 99, 100, 101, 102]⟩ : ByteArray) x3_1) != a0) = true := bne_iff_ne.mpr c5
            have H' := Aside0.mk H
            clear H
            have p4 : 0 ≤ (x3_1 : Int) := of_decide_eq_true (by first | (with_reducible assumption) | assumption)
            have q4 : x3_1 < (16 : Int) := of_decide_eq_true (by first | (with_reducible assumption) | assumption)
            have hx4 := bt_at (⟨#[48, 49, 50, 51, 52, 53, 54, 55, 56, 57, 97, 98, 99, 100, 101, 102]⟩ : ByteArray) x3_1
            replace p4 := eq_true p4
            replace q4 := eq_true q4
            go_wp2
            go_roundg k1
            case measure => have := HK1.out; omega
            case rel => exact ⟨(wrap64 (x3_1 + 1)), (by first | rfl | (simp; done) | (simp [*]; done)), H', ⟨by have := HK1.out; omega⟩, by repeat (first | exact Drawn0.refl _ | apply Drawn0.step)⟩
        · rw [if_neg c3] at H
          exact absurd H (by simp)
      · rw [if_neg c2] at H
        have c2b0 : decide (x3_1 < 16) = false := decide_eq_false c2
        clear c2
        obtain rfl := Option.some.inj H
        go_wp2
        go_ret
        exact ⟨by first | rfl | (simp; done) | (simp [*]; done), by repeat (first | exact Drawn0.refl _ | apply Drawn0.step)⟩

end Go.Proofs.Ytkbngfelegcplaa.PAll
