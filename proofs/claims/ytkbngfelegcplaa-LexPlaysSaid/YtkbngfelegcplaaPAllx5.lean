/- Functions of the Go program as plain Lean functions, and the proofs that the code comes to just their answers; of a law, the row. Written by a program of this session (wip/myprint.py over the given print). No condition. -/
import Derived.Test.YtkbngfelegcplaaPAllx0
import Derived.Test.YtkbngfelegcplaaPAllx2
import Derived.Test.YtkbngfelegcplaaPAllx3
import Derived.Test.YtkbngfelegcplaaPAllx4
namespace Go.Proofs.Ytkbngfelegcplaa.PAll
open Go.RowKit Go.Proofs.YtkbngfelegcplaaW.PrintWords Go.Proofs.YtkbngfelegcplaaW.PrintLast Go.Proofs.YtkbngfelegcplaaW.PrintMore
attribute [local go_sem] max2_int min2_int max_two min_two max_three min_three max_four min_four   -- for this text's walks alone
set_option linter.unusedVariables false
set_option linter.unusedSimpArgs false

/-! ### lex_scanner_sign: function 49 (by hand) -/
def lex_scanner_sign.all : Array ByteArray := #[⟨#[60, 61]⟩, ⟨#[62, 61]⟩, ⟨#[60, 62]⟩, ⟨#[45, 62]⟩, ⟨#[40]⟩, ⟨#[41]⟩, ⟨#[44]⟩, ⟨#[46]⟩, ⟨#[43]⟩, ⟨#[45]⟩, ⟨#[42]⟩, ⟨#[47]⟩, ⟨#[37]⟩, ⟨#[61]⟩, ⟨#[60]⟩, ⟨#[62]⟩, ⟨#[33]⟩, ⟨#[124]⟩, ⟨#[123]⟩, ⟨#[125]⟩, ⟨#[91]⟩, ⟨#[93]⟩]
def lex_scanner_sign.sg (k : Nat) : ByteArray := lex_scanner_sign.all.getD k ⟨#[]⟩
def lex_scanner_sign.hit (x : ByteArray) (k : Nat) : Bool := decide (x.size ≥ (lex_scanner_sign.sg k).size) && ((x.extract 0 (lex_scanner_sign.sg k).size).toList == (lex_scanner_sign.sg k).toList)
def lex_scanner_sign.find (x : ByteArray) : Nat → Nat → Option Nat
  | 0, _ => none
  | n + 1, k => if lex_scanner_sign.hit x k = true then some k else lex_scanner_sign.find x n (k + 1)
def lex_scanner_sign.f (s0_0 : ByteArray) (s0_1 : Int) : Option (Int × ByteArray × Int × Bool × ByteArray × Int) :=
  if 0 ≤ s0_1 ∧ s0_1 ≤ (s0_0.size : Int) ∧ s0_0.size ≤ 140737488351232 then
    (match lex_scanner_sign.find (s0_0.extract s0_1.toNat s0_0.size) 22 0 with
      | some k => some (5, s0_0.extract s0_1.toNat (s0_1 + ((lex_scanner_sign.sg k).size : Nat)).toNat, s0_1, true, s0_0, s0_1 + ((lex_scanner_sign.sg k).size : Nat))
      | none => some (0, (⟨#[]⟩ : ByteArray), 0, false, s0_0, s0_1)) else none
theorem lex_scanner_sign.begins_f (x : ByteArray) (k : Nat) : lex_begins.f x (lex_scanner_sign.sg k) = some (lex_scanner_sign.hit x k) := by
  unfold lex_begins.f lex_scanner_sign.hit
  by_cases h : x.size ≥ (lex_scanner_sign.sg k).size
  · rw [if_pos (by omega), if_pos (by omega), if_pos (by omega), decide_eq_true h, Bool.true_and, Int.toNat_natCast]
  · rw [if_neg (by omega), decide_eq_false h, Bool.false_and]
set_option maxRecDepth 100000 in
theorem lex_scanner_sign.index_at (k : Nat) (hk : k < 22) : ∀ W, (Instr.index 88 (.agg #[.string ⟨#[60, 61]⟩, .string ⟨#[62, 61]⟩, .string ⟨#[60, 62]⟩, .string ⟨#[45, 62]⟩, .string ⟨#[40]⟩, .string ⟨#[41]⟩, .string ⟨#[44]⟩, .string ⟨#[46]⟩, .string ⟨#[43]⟩, .string ⟨#[45]⟩, .string ⟨#[42]⟩, .string ⟨#[47]⟩, .string ⟨#[37]⟩, .string ⟨#[61]⟩, .string ⟨#[60]⟩, .string ⟨#[62]⟩, .string ⟨#[33]⟩, .string ⟨#[124]⟩, .string ⟨#[123]⟩, .string ⟨#[125]⟩, .string ⟨#[91]⟩, .string ⟨#[93]⟩]) (.int .i64 (k : Int))).run Try.prog W = .ok (.string (lex_scanner_sign.sg k)) W := by
  intro W
  have h : k = 0 ∨ k = 1 ∨ k = 2 ∨ k = 3 ∨ k = 4 ∨ k = 5 ∨ k = 6 ∨ k = 7 ∨ k = 8 ∨ k = 9 ∨ k = 10 ∨ k = 11 ∨ k = 12 ∨ k = 13 ∨ k = 14 ∨ k = 15 ∨ k = 16 ∨ k = 17 ∨ k = 18 ∨ k = 19 ∨ k = 20 ∨ k = 21 := by omega
  rcases h with rfl | rfl | rfl | rfl | rfl | rfl | rfl | rfl | rfl | rfl | rfl | rfl | rfl | rfl | rfl | rfl | rfl | rfl | rfl | rfl | rfl | rfl <;> (show _ = _; kernel_rfl)
set_option maxHeartbeats 1000000 in
set_option maxRecDepth 100000 in
theorem lex_scanner_sign.signs_calls (w : World) :
    Calls Try.prog 65 #[] w fun e w' => e = .returned (.agg #[.string ⟨#[60, 61]⟩, .string ⟨#[62, 61]⟩, .string ⟨#[60, 62]⟩, .string ⟨#[45, 62]⟩, .string ⟨#[40]⟩, .string ⟨#[41]⟩, .string ⟨#[44]⟩, .string ⟨#[46]⟩, .string ⟨#[43]⟩, .string ⟨#[45]⟩, .string ⟨#[42]⟩, .string ⟨#[47]⟩, .string ⟨#[37]⟩, .string ⟨#[61]⟩, .string ⟨#[60]⟩, .string ⟨#[62]⟩, .string ⟨#[33]⟩, .string ⟨#[124]⟩, .string ⟨#[123]⟩, .string ⟨#[125]⟩, .string ⟨#[91]⟩, .string ⟨#[93]⟩]) ∧ Below w.heap.size w w' := by
  go_enter Try.func65, Try.ntmps65
  go_upto_region 1 with (fail)
  have HG := Aside0.mk (heap_alloc_new w (Obj.cells #[.string { data := #[] }, .string { data := #[] }, .string { data := #[] }, .string { data := #[] }, .string { data := #[] }, .string { data := #[] }, .string { data := #[] }, .string { data := #[] }, .string { data := #[] }, .string { data := #[] }, .string { data := #[] }, .string { data := #[] }, .string { data := #[] }, .string { data := #[] }, .string { data := #[] }, .string { data := #[] }, .string { data := #[] }, .string { data := #[] }, .string { data := #[] }, .string { data := #[] }, .string { data := #[] }, .string { data := #[] }] 88))
  have HB : Aside0 (Below w.heap.size w (w.alloc (Obj.cells #[.string { data := #[] }, .string { data := #[] }, .string { data := #[] }, .string { data := #[] }, .string { data := #[] }, .string { data := #[] }, .string { data := #[] }, .string { data := #[] }, .string { data := #[] }, .string { data := #[] }, .string { data := #[] }, .string { data := #[] }, .string { data := #[] }, .string { data := #[] }, .string { data := #[] }, .string { data := #[] }, .string { data := #[] }, .string { data := #[] }, .string { data := #[] }, .string { data := #[] }, .string { data := #[] }, .string { data := #[] }] 88))) := ⟨below_alloc (Below.refl _ _) _⟩
  generalize (w.alloc (Obj.cells #[.string { data := #[] }, .string { data := #[] }, .string { data := #[] }, .string { data := #[] }, .string { data := #[] }, .string { data := #[] }, .string { data := #[] }, .string { data := #[] }, .string { data := #[] }, .string { data := #[] }, .string { data := #[] }, .string { data := #[] }, .string { data := #[] }, .string { data := #[] }, .string { data := #[] }, .string { data := #[] }, .string { data := #[] }, .string { data := #[] }, .string { data := #[] }, .string { data := #[] }, .string { data := #[] }, .string { data := #[] }] 88)) = W at HG HB ⊢
  go_wp2_with (first | (refine wpList_store_row rfl 88 (.tmp 0) (.tmp 1) rfl w.heap.size #[.string ⟨#[60, 61]⟩, .string ⟨#[62, 61]⟩, .string ⟨#[60, 62]⟩, .string ⟨#[45, 62]⟩, .string ⟨#[40]⟩, .string ⟨#[41]⟩, .string ⟨#[44]⟩, .string ⟨#[46]⟩, .string ⟨#[43]⟩, .string ⟨#[45]⟩, .string ⟨#[42]⟩, .string ⟨#[47]⟩, .string ⟨#[37]⟩, .string ⟨#[61]⟩, .string ⟨#[60]⟩, .string ⟨#[62]⟩, .string ⟨#[33]⟩, .string ⟨#[124]⟩, .string ⟨#[123]⟩, .string ⟨#[125]⟩, .string ⟨#[91]⟩, .string ⟨#[93]⟩] rfl rfl 88 #[.string { data := #[] }, .string { data := #[] }, .string { data := #[] }, .string { data := #[] }, .string { data := #[] }, .string { data := #[] }, .string { data := #[] }, .string { data := #[] }, .string { data := #[] }, .string { data := #[] }, .string { data := #[] }, .string { data := #[] }, .string { data := #[] }, .string { data := #[] }, .string { data := #[] }, .string { data := #[] }, .string { data := #[] }, .string { data := #[] }, .string { data := #[] }, .string { data := #[] }, .string { data := #[] }, .string { data := #[] }] HG.out (by as_aux_lemma => kernel_rfl) (by as_aux_lemma => kernel_rfl) (by as_aux_lemma => kernel_rfl) ?_))
  (try simp only [Exit.inBlock, Exit.then])
  refine bodyPost_ret (results_single rfl (.cell w.heap.size 88 #[.string ⟨#[60, 61]⟩, .string ⟨#[62, 61]⟩, .string ⟨#[60, 62]⟩, .string ⟨#[45, 62]⟩, .string ⟨#[40]⟩, .string ⟨#[41]⟩, .string ⟨#[44]⟩, .string ⟨#[46]⟩, .string ⟨#[43]⟩, .string ⟨#[45]⟩, .string ⟨#[42]⟩, .string ⟨#[47]⟩, .string ⟨#[37]⟩, .string ⟨#[61]⟩, .string ⟨#[60]⟩, .string ⟨#[62]⟩, .string ⟨#[33]⟩, .string ⟨#[124]⟩, .string ⟨#[123]⟩, .string ⟨#[125]⟩, .string ⟨#[91]⟩, .string ⟨#[93]⟩] (0, 0) _ rfl (setRow_heap W w.heap.size _ _ _ _ HG.out) Try.underlying88 rfl (by kernel_rfl) .nil)) rfl ?_
  exact ⟨rfl, HB.out.trans ⟨rfl, rfl, rfl, by simp, fun k hk => setRow_other W _ k _ (by omega)⟩⟩
set_option maxHeartbeats 8000000 in
set_option maxRecDepth 100000 in
theorem lex_scanner_sign.calls (g : Nat) (s0_0 : ByteArray) (s0_1 : Int) (r1 : Int) (r2 : ByteArray) (r3 : Int) (r4 : Bool) (r5 : ByteArray) (r6 : Int) (w0 w : World) (hI : IsS60 w0 w g s0_0 s0_1) (hB : Below w0.heap.size w0 w) (h : lex_scanner_sign.f s0_0 s0_1 = some (r1, r2, r3, r4, r5, r6)) :
    Calls Try.prog 49 #[.pointer (some ⟨g, 0, none⟩)] w fun e w' => e = .returned (.tuple #[.agg #[.int .i64 r1, .string r2, .int .i64 r3], .bool r4]) ∧ IsS60 w0 w' g r5 r6 ∧ Below w0.heap.size w0 w' ∧ KeepBut w w' g none := by
  unfold lex_scanner_sign.f at h
  by_cases hg : 0 ≤ s0_1 ∧ s0_1 ≤ (s0_0.size : Int) ∧ s0_0.size ≤ 140737488351232
  · rw [if_pos hg] at h
    obtain ⟨h0, h1, h3⟩ := hg
    have HI := Aside0.mk hI
    have HB := Aside0.mk hB
    have HK := Aside0.mk (KeepBut.refl w g none)
    obtain ⟨x, hxe⟩ : ∃ x, x = s0_0.extract s0_1.toNat s0_0.size := ⟨_, rfl⟩
    have RS : Aside0 (lex_scanner_rest.f s0_0 s0_1 = some (x, s0_0, s0_1)) := ⟨by unfold lex_scanner_rest.f; rw [if_pos h0, if_pos h1, hxe]⟩
    have hx : Aside0 (s0_1 + (x.size : Nat) = (s0_0.size : Int)) := ⟨by rw [hxe]; simp; omega⟩
    rw [← hxe] at h
    have H := Aside0.mk h
    clear hxe h hI hB
    go_enter Try.func49, Try.ntmps49
    go_upto_region 1 with (fail)
    have n1_ : Aside0 (IsS60 w0 (w.alloc (Obj.cells #[Value.int IntKind.i64 0, Value.string { data := #[] }, Value.int IntKind.i64 0] 32)) g s0_0 s0_1) := ⟨HI.out.alloc _⟩
    have n2_ : Aside0 (Below w0.heap.size w0 (w.alloc (Obj.cells #[Value.int IntKind.i64 0, Value.string { data := #[] }, Value.int IntKind.i64 0] 32))) := ⟨below_alloc HB.out _⟩
    have n3_ : Aside0 (KeepBut w (w.alloc (Obj.cells #[Value.int IntKind.i64 0, Value.string { data := #[] }, Value.int IntKind.i64 0] 32)) g none) := ⟨keep_alloc HK.out _⟩
    have HR := Aside0.mk (heap_alloc_new w (Obj.cells #[Value.int IntKind.i64 0, Value.string { data := #[] }, Value.int IntKind.i64 0] 32))
    obtain ⟨b2, hb2⟩ : ∃ b, b = w.heap.size := ⟨_, rfl⟩
    have HL6 : Aside0 (w.heap.size ≤ b2) := ⟨by omega⟩
    have HL7 : Aside0 (w0.heap.size ≤ b2) := ⟨by have := HI.out.ge; have := HI.out.lt; omega⟩
    have NE : Aside0 (b2 ≠ g) := ⟨by have := HI.out.lt; omega⟩
    have hgb : g ≠ b2 := by have := HI.out.lt; omega
    rw [← hb2] at HR ⊢
    clear HI HB HK hb2
    generalize (w.alloc (Obj.cells #[Value.int IntKind.i64 0, Value.string { data := #[] }, Value.int IntKind.i64 0] 32)) = W at n1_ n2_ n3_ HR ⊢
    have HI := n1_
    have HB := n2_
    have HK := n3_
    clear n1_ n2_ n3_
    go_upto_block 2 with (first | (go_at_call 65; refine (lex_scanner_sign.signs_calls _).mono ?_; rintro e w' ⟨rfl, hb⟩; have n1_ := Aside0.mk (HI.out.below (hb)); have n2_ := Aside0.mk (HB.out.trans (hb.mono HB.out.size)); have n3_ := Aside0.mk (blk_below HR.out hb); have n4_ := Aside0.mk (KeepBut.trans HK.out (KeepBut.of_below hb g none) (.inl rfl)); clear hb HI HB HK HR; have HI := n1_; have HB := n2_; have HR := n3_; have HK := n4_; clear n1_ n2_ n3_ n4_))
    go_loopw [7] (fun v7 wr => ∃ k n : Nat, v7 = .int .i64 k ∧ k + n = 22 ∧ Aside0 ((match lex_scanner_sign.find x n k with | some k => some (5, s0_0.extract s0_1.toNat (s0_1 + ((lex_scanner_sign.sg k).size : Nat)).toNat, s0_1, true, s0_0, s0_1 + ((lex_scanner_sign.sg k).size : Nat)) | none => some (0, (⟨#[]⟩ : ByteArray), 0, false, s0_0, s0_1)) = some (r1, r2, r3, r4, r5, r6)) ∧ Aside0 (IsS60 w0 wr g s0_0 s0_1) ∧ Aside0 (Below w0.heap.size w0 wr) ∧ Aside0 (KeepBut w wr g none) ∧ Aside0 (wr.heap[b2]? = some (Obj.cells #[Value.int IntKind.i64 0, Value.string { data := #[] }, Value.int IntKind.i64 0] 32 (0, 0)))) (fun v7 _ => (22 - intOf v7).toNat)
    case atStart => exact ⟨0, 22, rfl, rfl, H, HI, HB, HK, HR⟩
    case round =>
      clear HI HB HK HR H
      obtain ⟨k, n, rfl, hkn, H, HI, HB, HK, HR⟩ := hrel
      rcases Nat.lt_or_ge k 22 with hlt | hge
      · obtain ⟨n, rfl⟩ : ∃ m, n = m + 1 := ⟨n - 1, by omega⟩
        have hix := lex_scanner_sign.index_at k hlt
        have H1 := H.out
        rw [lex_scanner_sign.find] at H1
        by_cases hh : lex_scanner_sign.hit x k = true
        · rw [if_pos hh] at H1
          have BG : Aside0 (lex_begins.f x (lex_scanner_sign.sg k) = some true) := ⟨by rw [lex_scanner_sign.begins_f, hh]⟩
          have hsz : (lex_scanner_sign.sg k).size ≤ x.size := of_decide_eq_true (Bool.and_eq_true_iff.1 hh).1
          have TK : Aside0 (lex_scanner_token.f s0_0 s0_1 5 ((lex_scanner_sign.sg k).size : Int) = some (5, s0_0.extract s0_1.toNat (s0_1 + ((lex_scanner_sign.sg k).size : Int)).toNat, s0_1, s0_0, s0_1 + ((lex_scanner_sign.sg k).size : Int))) := ⟨by
            unfold lex_scanner_token.f
            rw [if_pos ⟨h0, by omega, by have := hx.out; omega, h3⟩]⟩
          simp only [Option.some.injEq, Prod.mk.injEq] at H1
          obtain ⟨rfl, rfl, rfl, rfl, rfl, rfl⟩ := H1
          clear H hh hsz
          go_wp2_with (first | (go_at_call 61; (with_reducible refine (lex_scanner_rest.calls g s0_0 s0_1 _ _ _ w0 _ HI.out HB.out RS.out).mono ?_); rintro e w1 ⟨rfl, hI2, hB2, hK2⟩; have n1_ := Aside0.mk hI2; have n2_ := Aside0.mk hB2; have n3_ := Aside0.mk (KeepBut.blk hK2 HR.out NE.out (by simp)); have n4_ := Aside0.mk (KeepBut.trans HK.out hK2 (.inl rfl)); clear hI2 hB2 hK2 HI HB HK HR; have HI := n1_; have HB := n2_; have HR := n3_; have HK := n4_; clear n1_ n2_ n3_ n4_) | (go_at_call 66; (with_reducible refine (lex_begins.calls x (lex_scanner_sign.sg k) _ _ BG.out).mono ?_); rintro e w2 ⟨rfl, ⟨nd, rfl⟩⟩) | (go_at_call 64; (with_reducible refine (lex_scanner_token.calls g s0_0 s0_1 5 _ _ _ _ _ _ w0 _ (HI.out.drewN nd) (pw_below_drewN HB.out nd) TK.out).mono ?_); rintro e w3 ⟨rfl, hI2, hB2, hK2⟩; have n1_ := Aside0.mk hI2; have n2_ := Aside0.mk hB2; have n3_ := Aside0.mk (KeepBut.blk hK2 HR.out NE.out (by simp)); have n4_ := Aside0.mk (KeepBut.trans (keep_drewN HK.out nd) hK2 (.inl rfl)); clear hI2 hB2 hK2 HI HB HK HR; have HI := n1_; have HB := n2_; have HR := n3_; have HK := n4_; clear n1_ n2_ n3_ n4_; have e0 := blk_cell HR.out 0; have e1 := blk_cell HR.out 1; have e2 := blk_cell HR.out 2; have f0 := blk_frozen HR.out 0; have f1 := blk_frozen HR.out 1; have f2 := blk_frozen HR.out 2))
          (try simp only [Exit.inBlock, Exit.then])
          refine bodyPost_ret (results_ct rfl _ _ b2 32 #[.int .i64 5, .string (s0_0.extract s0_1.toNat (s0_1 + ((lex_scanner_sign.sg k).size : Int)).toNat), .int .i64 s0_1] (0, 0) _ rfl (by
            refine blk_put (cs := #[.int .i64 5, .string (s0_0.extract s0_1.toNat (s0_1 + ((lex_scanner_sign.sg k).size : Int)).toNat), .int .i64 0]) ?_ 2 _ rfl
            refine blk_put (cs := #[.int .i64 5, .string { data := #[] }, .int .i64 0]) ?_ 1 _ rfl
            refine blk_put (cs := #[.int .i64 0, .string { data := #[] }, .int .i64 0]) ?_ 0 _ rfl
            exact HR.out) Try.underlying32 rfl (by kernel_rfl)) rfl ?_
          exact ⟨rfl, ((HI.out.far hgb _).far hgb _).far hgb _, below_set (below_set (below_set HB.out HL7.out) HL7.out) HL7.out, keep_far (keep_far (keep_far HK.out HL6.out _) HL6.out _) HL6.out _⟩
        · rw [if_neg hh] at H1
          have BG : Aside0 (lex_begins.f x (lex_scanner_sign.sg k) = some false) := ⟨by rw [lex_scanner_sign.begins_f, Bool.eq_false_iff.2 hh]⟩
          have HF := Aside0.mk H1
          clear H H1 hh
          go_wp2_with (first | (go_at_call 61; (with_reducible refine (lex_scanner_rest.calls g s0_0 s0_1 _ _ _ w0 _ HI.out HB.out RS.out).mono ?_); rintro e w1 ⟨rfl, hI2, hB2, hK2⟩; have n1_ := Aside0.mk hI2; have n2_ := Aside0.mk hB2; have n3_ := Aside0.mk (KeepBut.blk hK2 HR.out NE.out (by simp)); have n4_ := Aside0.mk (KeepBut.trans HK.out hK2 (.inl rfl)); clear hI2 hB2 hK2 HI HB HK HR; have HI := n1_; have HB := n2_; have HR := n3_; have HK := n4_; clear n1_ n2_ n3_ n4_) | (go_at_call 66; (with_reducible refine (lex_begins.calls x (lex_scanner_sign.sg k) _ _ BG.out).mono ?_); rintro e w2 ⟨rfl, ⟨nd, rfl⟩⟩))
          go_roundw
          case rel => exact ⟨k + 1, n, by first | go_num | (congr 1; omega), by omega, HF, ⟨HI.out.drewN _⟩, ⟨pw_below_drewN HB.out _⟩, ⟨keep_drewN HK.out _⟩, HR⟩
          case measure => simp [intOf]; omega
      · obtain rfl : n = 0 := by omega
        have H1 := H.out
        rw [lex_scanner_sign.find] at H1
        simp only [Option.some.injEq, Prod.mk.injEq] at H1
        obtain ⟨rfl, rfl, rfl, rfl, rfl, rfl⟩ := H1
        have e0 := blk_cell HR.out 0
        have e1 := blk_cell HR.out 1
        have e2 := blk_cell HR.out 2
        have f0 := blk_frozen HR.out 0
        have f1 := blk_frozen HR.out 1
        have f2 := blk_frozen HR.out 2
        go_wp2
        (try simp only [Exit.inBlock, Exit.then])
        refine bodyPost_ret (results_ct rfl _ _ b2 32 #[.int .i64 0, .string { data := #[] }, .int .i64 0] (0, 0) _ rfl (by
          refine blk_put (cs := #[.int .i64 0, .string { data := #[] }, .int .i64 0]) ?_ 2 _ rfl
          refine blk_put (cs := #[.int .i64 0, .string { data := #[] }, .int .i64 0]) ?_ 1 _ rfl
          refine blk_put (cs := #[.int .i64 0, .string { data := #[] }, .int .i64 0]) ?_ 0 _ rfl
          exact HR.out) Try.underlying32 rfl (by kernel_rfl)) rfl ?_
        exact ⟨rfl, ((HI.out.far hgb _).far hgb _).far hgb _, below_set (below_set (below_set HB.out HL7.out) HL7.out) HL7.out, keep_far (keep_far (keep_far HK.out HL6.out _) HL6.out _) HL6.out _⟩
  · rw [if_neg hg] at h; cases h

/-! ### lex_scanner_next: function 34 (by hand) -/
def lex_scanner_next.kind (c : Int) : Int := if lex_scanner_letters.upper c = true then 1 else if lex_scanner_letters.lower c = true then 2 else if lex_scanner_letters.digit c = true then 3 else 5
def lex_scanner_next.one (s : ByteArray) (at_ : Int) : Option (Int × ByteArray × Int × Bool × ByteArray × Int) := if lex_scanner_next.kind (bt s at_) = 5 then lex_scanner_sign.f s at_ else lex_scanner_letters.f s at_ (lex_scanner_next.kind (bt s at_))
def lex_scanner_next.f (k : Nat) (s0_0 : ByteArray) (s0_1 : Int) : Option (Int × ByteArray × Int × Int × Int × ByteArray × Int) :=
  if 0 ≤ s0_1 ∧ s0_1 < (s0_0.size : Int) then
    (if bt s0_0 s0_1 = 39 then lex_scanner_text.f k s0_0 s0_1
    else (lex_scanner_next.one s0_0 s0_1).bind fun t => (if t.2.2.2.1 = true then some (t.1, t.2.1, t.2.2.1, t.2.2.2.2.2, 0, t.2.2.2.2.1, t.2.2.2.2.2) else some (0, (⟨#[]⟩ : ByteArray), 0, s0_1, 4, t.2.2.2.2.1, t.2.2.2.2.2)))
  else none
theorem lex_scanner_next.mono : ∀ a0 a1 k, LeO (lex_scanner_next.f k a0 a1) (lex_scanner_next.f (k + 1) a0 a1) := by
  intro a0 a1 k
  unfold lex_scanner_next.f
  exact LeO.ite (LeO.ite (lex_scanner_text.mono _ _ _) (LeO.refl _)) (LeO.refl _)
set_option maxHeartbeats 16000000 in
set_option maxRecDepth 100000 in
theorem lex_scanner_next.calls (k : Nat) (g : Nat) (s0_0 : ByteArray) (s0_1 : Int) (r1 : Int) (r2 : ByteArray) (r3 : Int) (r4 : Int) (r5 : Int) (r6 : ByteArray) (r7 : Int) (w0 w : World) (hI : IsS60 w0 w g s0_0 s0_1) (hB : Below w0.heap.size w0 w) (h : lex_scanner_next.f k s0_0 s0_1 = some (r1, r2, r3, r4, r5, r6, r7)) :
    Calls Try.prog 34 #[.pointer (some ⟨g, 0, none⟩)] w fun e w' => e = .returned (.tuple #[.agg #[.int .i64 r1, .string r2, .int .i64 r3], .int .i64 r4, .int .i64 r5]) ∧ IsS60 w0 w' g r6 r7 ∧ Below w0.heap.size w0 w' ∧ KeepBut w w' g none := by
  unfold lex_scanner_next.f at h
  by_cases hg : 0 ≤ s0_1 ∧ s0_1 < (s0_0.size : Int)
  · rw [if_pos hg] at h
    obtain ⟨h0, h1⟩ := hg
    have H := Aside0.mk h
    have HI := Aside0.mk hI
    have HB := Aside0.mk hB
    have HK := Aside0.mk (KeepBut.refl w g none)
    have hw32 : wrap32 (bt s0_0 s0_1) = bt s0_0 s0_1 := by
      have hv := bt_range s0_0 s0_1.toNat
      rw [show ((s0_1.toNat : Nat) : Int) = s0_1 from by omega] at hv
      unfold wrap32; omega
    clear h hI hB
    go_enter Try.func34, Try.ntmps34
    go_upto_region 1 with (fail)
    have n1_ : Aside0 (IsS60 w0 (w.alloc (Obj.cells #[Value.int IntKind.i64 0, Value.string { data := #[] }, Value.int IntKind.i64 0] 32)) g s0_0 s0_1) := ⟨HI.out.alloc _⟩
    have n2_ : Aside0 (Below w0.heap.size w0 (w.alloc (Obj.cells #[Value.int IntKind.i64 0, Value.string { data := #[] }, Value.int IntKind.i64 0] 32))) := ⟨below_alloc HB.out _⟩
    have n3_ : Aside0 (KeepBut w (w.alloc (Obj.cells #[Value.int IntKind.i64 0, Value.string { data := #[] }, Value.int IntKind.i64 0] 32)) g none) := ⟨keep_alloc HK.out _⟩
    have HR := Aside0.mk (heap_alloc_new w (Obj.cells #[Value.int IntKind.i64 0, Value.string { data := #[] }, Value.int IntKind.i64 0] 32))
    obtain ⟨b2, hb2⟩ : ∃ b, b = w.heap.size := ⟨_, rfl⟩
    have HL6 : Aside0 (w.heap.size ≤ b2) := ⟨by omega⟩
    have HL7 : Aside0 (w0.heap.size ≤ b2) := ⟨by have := HI.out.ge; have := HI.out.lt; omega⟩
    have NE : Aside0 (b2 ≠ g) := ⟨by have := HI.out.lt; omega⟩
    have hgb : g ≠ b2 := by have := HI.out.lt; omega
    rw [← hb2] at HR ⊢
    clear HI HB HK hb2
    generalize (w.alloc (Obj.cells #[Value.int IntKind.i64 0, Value.string { data := #[] }, Value.int IntKind.i64 0] 32)) = W at n1_ n2_ n3_ HR ⊢
    have HI := n1_
    have HB := n2_
    have HK := n3_
    clear n1_ n2_ n3_
    have c0 := cellS60_0 HI.out.1
    have c1 := cellS60_1 HI.out.1
    have hix := bt_at s0_0 s0_1
    have p4 := eq_true h0
    have q4 := eq_true h1
    go_upto_region 2 with (fail)
    go_quiet (fail)
    clear c0 c1
    have n1_ : Aside0 (IsS60 w0 (W.drewN nq) g s0_0 s0_1) := ⟨HI.out.drewN _⟩
    have n2_ : Aside0 (Below w0.heap.size w0 (W.drewN nq)) := ⟨pw_below_drewN HB.out _⟩
    have n3_ : Aside0 (KeepBut w (W.drewN nq) g none) := ⟨keep_drewN HK.out _⟩
    have n4_ : Aside0 ((W.drewN nq).heap[b2]? = some (Obj.cells #[Value.int IntKind.i64 0, Value.string { data := #[] }, Value.int IntKind.i64 0] 32 (0, 0))) := ⟨HR.out⟩
    clear HI HB HK HR hix p4 q4
    generalize W.drewN nq = w4 at n1_ n2_ n3_ n4_ ⊢
    have HI := n1_
    have HB := n2_
    have HK := n3_
    have HR := n4_
    clear n1_ n2_ n3_ n4_
    by_cases h39 : bt s0_0 s0_1 = 39
    · have h39b : (bt s0_0 s0_1 == 39) = true := beq_iff_eq.mpr h39
      have TX : Aside0 (lex_scanner_text.f k s0_0 s0_1 = some (r1, r2, r3, r4, r5, r6, r7)) := ⟨by rw [← H.out, if_pos h39]⟩
      clear H h39
      go_wp2_with (first | (go_at_call 44; (with_reducible refine (lex_scanner_text.calls k g s0_0 s0_1 _ _ _ _ _ _ _ w0 _ HI.out HB.out TX.out).mono ?_); rintro e w7 ⟨rfl, hI2, hB2, hK2⟩; have n0_ := Aside0.mk (hI2); have n1_ := Aside0.mk (hB2); have n2_ := Aside0.mk (KeepBut.blk hK2 HR.out NE.out (by simp)); have n3_ := Aside0.mk (KeepBut.trans HK.out hK2 (.inl rfl)); clear hI2 hB2 hK2 HI HB HR HK; have HI := n0_; have HB := n1_; have HR := n2_; have HK := n3_; clear n0_ n1_ n2_ n3_; have e0 := blk_cell HR.out 0; have e1 := blk_cell HR.out 1; have e2 := blk_cell HR.out 2; have ef0 := blk_frozen HR.out 0; have ef1 := blk_frozen HR.out 1; have ef2 := blk_frozen HR.out 2))
      (try simp only [Exit.inBlock, Exit.then])
      refine bodyPost_ret (results_ctt rfl _ _ b2 32 #[.int .i64 r1, .string r2, .int .i64 r3] (0, 0) _ rfl (by
        refine blk_put (cs := #[.int .i64 r1, .string r2, .int .i64 0]) ?_ 2 _ rfl
        refine blk_put (cs := #[.int .i64 r1, .string { data := #[] }, .int .i64 0]) ?_ 1 _ rfl
        refine blk_put (cs := #[.int .i64 0, .string { data := #[] }, .int .i64 0]) ?_ 0 _ rfl
        exact HR.out) Try.underlying32 rfl (by kernel_rfl)) rfl ?_
      exact ⟨rfl, ((HI.out.far hgb _).far hgb _).far hgb _, below_set (below_set (below_set HB.out HL7.out) HL7.out) HL7.out, keep_far (keep_far (keep_far HK.out HL6.out _) HL6.out _) HL6.out _⟩
    · have h39b : (bt s0_0 s0_1 == 39) = false := beq_eq_false_iff_ne.mpr h39
      rw [if_neg h39] at H
      obtain ⟨⟨t1, t2, t3, ok, t5, t6⟩, ho, H1⟩ := Option.bind_eq_some_iff.1 H.out
      have HO := Aside0.mk ho
      replace H1 : (if ok = true then some (t1, t2, t3, t6, 0, t5, t6) else some (0, (⟨#[]⟩ : ByteArray), 0, s0_1, 4, t5, t6)) = some (r1, r2, r3, r4, r5, r6, r7) := H1
      clear H ho h39
      have H := Aside0.mk H1
      clear H1
      cases hu : lex_scanner_letters.upper (bt s0_0 s0_1)
      · cases hl : lex_scanner_letters.lower (bt s0_0 s0_1)
        · cases hd : lex_scanner_letters.digit (bt s0_0 s0_1)
          · have FisUpper : Aside0 (lex_isUpper.f (bt s0_0 s0_1) = some false) := ⟨by rw [lex_scanner_letters.upper_f, hu]⟩
            have FisLower : Aside0 (lex_isLower.f (bt s0_0 s0_1) = some false) := ⟨by rw [lex_scanner_letters.lower_f, hl]⟩
            have FisDigit : Aside0 (lex_isDigit.f (bt s0_0 s0_1) = some false) := ⟨by rw [lex_scanner_letters.digit_f, hd]⟩
            have HO2 : Aside0 (lex_scanner_sign.f s0_0 s0_1 = some (t1, t2, t3, ok, t5, t6)) := ⟨by
              have hk : lex_scanner_next.kind (bt s0_0 s0_1) = 5 := by unfold lex_scanner_next.kind; rw [if_neg (by rw [hu]; decide), if_neg (by rw [hl]; decide), if_neg (by rw [hd]; decide)]
              have := HO.out
              unfold lex_scanner_next.one at this
              rw [hk, if_pos rfl] at this
              exact this⟩
            clear HO
            have c1 := cellS60_1 HI.out.1
            go_upto_region 13 with (first | (go_at_call 45; (with_reducible refine (lex_isUpper.calls (bt s0_0 s0_1) false _ FisUpper.out).mono ?_); rintro e w5 ⟨rfl, ⟨nd, hnd⟩⟩; have n0_ := Aside0.mk (show IsS60 w0 w5 g s0_0 s0_1 by rw [hnd]; exact HI.out.drewN nd); have n1_ := Aside0.mk (show Below w0.heap.size w0 w5 by rw [hnd]; exact pw_below_drewN HB.out nd); have n2_ := Aside0.mk (show w5.heap[b2]? = some (Obj.cells #[Value.int IntKind.i64 0, Value.string { data := #[] }, Value.int IntKind.i64 0] 32 (0, 0)) by rw [hnd]; exact HR.out); have n3_ := Aside0.mk (show KeepBut w w5 g none by rw [hnd]; exact keep_drewN HK.out nd); clear hnd HI HB HR HK; have HI := n0_; have HB := n1_; have HR := n2_; have HK := n3_; clear n0_ n1_ n2_ n3_; have c1 := cellS60_1 HI.out.1) | (go_at_call 46; (with_reducible refine (lex_isLower.calls (bt s0_0 s0_1) false _ FisLower.out).mono ?_); rintro e w5 ⟨rfl, ⟨nd, hnd⟩⟩; have n0_ := Aside0.mk (show IsS60 w0 w5 g s0_0 s0_1 by rw [hnd]; exact HI.out.drewN nd); have n1_ := Aside0.mk (show Below w0.heap.size w0 w5 by rw [hnd]; exact pw_below_drewN HB.out nd); have n2_ := Aside0.mk (show w5.heap[b2]? = some (Obj.cells #[Value.int IntKind.i64 0, Value.string { data := #[] }, Value.int IntKind.i64 0] 32 (0, 0)) by rw [hnd]; exact HR.out); have n3_ := Aside0.mk (show KeepBut w w5 g none by rw [hnd]; exact keep_drewN HK.out nd); clear hnd HI HB HR HK; have HI := n0_; have HB := n1_; have HR := n2_; have HK := n3_; clear n0_ n1_ n2_ n3_; have c1 := cellS60_1 HI.out.1) | (go_at_call 47; (with_reducible refine (lex_isDigit.calls (bt s0_0 s0_1) false _ FisDigit.out).mono ?_); rintro e w5 ⟨rfl, ⟨nd, hnd⟩⟩; have n0_ := Aside0.mk (show IsS60 w0 w5 g s0_0 s0_1 by rw [hnd]; exact HI.out.drewN nd); have n1_ := Aside0.mk (show Below w0.heap.size w0 w5 by rw [hnd]; exact pw_below_drewN HB.out nd); have n2_ := Aside0.mk (show w5.heap[b2]? = some (Obj.cells #[Value.int IntKind.i64 0, Value.string { data := #[] }, Value.int IntKind.i64 0] 32 (0, 0)) by rw [hnd]; exact HR.out); have n3_ := Aside0.mk (show KeepBut w w5 g none by rw [hnd]; exact keep_drewN HK.out nd); clear hnd HI HB HR HK; have HI := n0_; have HB := n1_; have HR := n2_; have HK := n3_; clear n0_ n1_ n2_ n3_; have c1 := cellS60_1 HI.out.1))
            clear c1
            obtain ⟨wb, hwb⟩ : ∃ wb : World, wb = w5 := ⟨_, rfl⟩
            rw [← hwb] at HI HB HK HR ⊢
            clear hwb
            have hz : ∃ b8, b8 = wb.heap.size := ⟨_, rfl⟩
            obtain ⟨b8, hb8⟩ := hz
            have NG : Aside0 (b8 ≠ g) := ⟨by have := HI.out.lt; omega⟩
            have hgt : g ≠ b8 := by have := HI.out.lt; omega
            have hk28 : b2 ≠ b8 := by have := blk_lt HR.out; omega
            have HL8 : Aside0 (w.heap.size ≤ b8) := ⟨by have := HK.out.1; omega⟩
            have HL9 : Aside0 (w0.heap.size ≤ b8) := ⟨by have := HB.out.size; omega⟩
            have n1_ := Aside0.mk (HI.out.alloc (Obj.cells #[Value.int IntKind.i64 0, Value.string { data := #[] }, Value.int IntKind.i64 0] 32))
            have n2_ := Aside0.mk (below_alloc HB.out (Obj.cells #[Value.int IntKind.i64 0, Value.string { data := #[] }, Value.int IntKind.i64 0] 32))
            have n3_ := Aside0.mk (keep_alloc HK.out (Obj.cells #[Value.int IntKind.i64 0, Value.string { data := #[] }, Value.int IntKind.i64 0] 32))
            have n4_ := Aside0.mk (blk_alloc HR.out (Obj.cells #[Value.int IntKind.i64 0, Value.string { data := #[] }, Value.int IntKind.i64 0] 32))
            have n5_ := Aside0.mk (heap_alloc_new wb (Obj.cells #[Value.int IntKind.i64 0, Value.string { data := #[] }, Value.int IntKind.i64 0] 32))
            rw [← hb8] at n5_ ⊢
            clear HI HB HK HR hb8
            generalize (wb.alloc (Obj.cells #[Value.int IntKind.i64 0, Value.string { data := #[] }, Value.int IntKind.i64 0] 32)) = w6 at n1_ n2_ n3_ n4_ n5_ ⊢
            have HI := n1_
            have HB := n2_
            have HK := n3_
            have HR := n4_
            have HT := n5_
            clear n1_ n2_ n3_ n4_ n5_
            go_upto_region 20 with (first | (go_at_call 49; (with_reducible refine (lex_scanner_sign.calls g s0_0 s0_1 _ _ _ _ _ _ w0 _ HI.out HB.out HO2.out).mono ?_); rintro e w7 ⟨rfl, hI2, hB2, hK2⟩; have n0_ := Aside0.mk (hI2); have n1_ := Aside0.mk (hB2); have n2_ := Aside0.mk (KeepBut.blk hK2 HR.out NE.out (by simp)); have n3_ := Aside0.mk (KeepBut.blk hK2 HT.out NG.out (by simp)); have n4_ := Aside0.mk (KeepBut.trans HK.out hK2 (.inl rfl)); clear hI2 hB2 hK2 HI HB HR HT HK; have HI := n0_; have HB := n1_; have HR := n2_; have HT := n3_; have HK := n4_; clear n0_ n1_ n2_ n3_ n4_; have k0 := blk_cell HT.out 0; have k1 := blk_cell HT.out 1; have k2 := blk_cell HT.out 2; have kf0 := blk_frozen HT.out 0; have kf1 := blk_frozen HT.out 1; have kf2 := blk_frozen HT.out 2))
            clear k0 k1 k2 kf0 kf1 kf2
            have n1_ := Aside0.mk (((HI.out.far hgt (p := ⟨b8, 0, none⟩) (.int .i64 t1)).far hgt (p := ⟨b8, 1, none⟩) (.string t2)).far hgt (p := ⟨b8, 2, none⟩) (.int .i64 t3))
            have n2_ := Aside0.mk (below_set (v := .int .i64 t3) (j := 2) (below_set (v := .string t2) (j := 1) (below_set (v := .int .i64 t1) (j := 0) HB.out HL9.out) HL9.out) HL9.out)
            have n3_ := Aside0.mk (keep_far (p := ⟨b8, 2, none⟩) (keep_far (p := ⟨b8, 1, none⟩) (keep_far (p := ⟨b8, 0, none⟩) HK.out HL8.out (.int .i64 t1)) HL8.out (.string t2)) HL8.out (.int .i64 t3))
            have n4_ := Aside0.mk ((Below.heap_setCell _ ⟨b8, 2, none⟩ (.int .i64 t3) b2 hk28).trans ((Below.heap_setCell _ ⟨b8, 1, none⟩ (.string t2) b2 hk28).trans ((Below.heap_setCell w7 ⟨b8, 0, none⟩ (.int .i64 t1) b2 hk28).trans HR.out)))
            have n5_ : Aside0 ((((w7.setCell ⟨b8, 0, none⟩ (.int .i64 t1)).setCell ⟨b8, 1, none⟩ (.string t2)).setCell ⟨b8, 2, none⟩ (.int .i64 t3)).heap[b8]? = some (Obj.cells #[.int .i64 t1, .string t2, .int .i64 t3] 32 (0, 0))) := ⟨by
              refine blk_put (cs := #[.int .i64 t1, .string t2, .int .i64 0]) ?_ 2 _ rfl
              refine blk_put (cs := #[.int .i64 t1, .string { data := #[] }, .int .i64 0]) ?_ 1 _ rfl
              refine blk_put (cs := #[.int .i64 0, .string { data := #[] }, .int .i64 0]) ?_ 0 _ rfl
              exact HT.out⟩
            clear HI HB HK HR HT
            generalize (((w7.setCell ⟨b8, 0, none⟩ (.int .i64 t1)).setCell ⟨b8, 1, none⟩ (.string t2)).setCell ⟨b8, 2, none⟩ (.int .i64 t3)) = w8 at n1_ n2_ n3_ n4_ n5_ ⊢
            have HI := n1_
            have HB := n2_
            have HK := n3_
            have HR := n4_
            have HT := n5_
            clear n1_ n2_ n3_ n4_ n5_
            have e0 := blk_cell HR.out 0
            have e1 := blk_cell HR.out 1
            have e2 := blk_cell HR.out 2
            have f0 := blk_frozen HR.out 0
            have f1 := blk_frozen HR.out 1
            have f2 := blk_frozen HR.out 2
            cases ok with
            | false =>
              rw [if_neg (by decide)] at H
              have H2 := H.out
              simp only [Option.some.injEq, Prod.mk.injEq] at H2
              obtain ⟨rfl, rfl, rfl, rfl, rfl, rfl, rfl⟩ := H2
              clear H
              go_wp2
              (try simp only [Exit.inBlock, Exit.then])
              refine bodyPost_ret (results_ctt rfl _ _ b2 32 #[.int .i64 0, .string { data := #[] }, .int .i64 0] (0, 0) _ rfl (by
                refine blk_put (cs := #[.int .i64 0, .string { data := #[] }, .int .i64 0]) ?_ 2 _ rfl
                refine blk_put (cs := #[.int .i64 0, .string { data := #[] }, .int .i64 0]) ?_ 1 _ rfl
                refine blk_put (cs := #[.int .i64 0, .string { data := #[] }, .int .i64 0]) ?_ 0 _ rfl
                exact HR.out) Try.underlying32 rfl (by kernel_rfl)) rfl ?_
              exact ⟨rfl, ((HI.out.far hgb _).far hgb _).far hgb _, below_set (below_set (below_set HB.out HL7.out) HL7.out) HL7.out, keep_far (keep_far (keep_far HK.out HL6.out _) HL6.out _) HL6.out _⟩
            | true =>
              rw [if_pos rfl] at H
              have H2 := H.out
              simp only [Option.some.injEq, Prod.mk.injEq] at H2
              obtain ⟨rfl, rfl, rfl, rfl, rfl, rfl, rfl⟩ := H2
              clear H
              have c1 := cellS60_1 HI.out.1
              have k0 := blk_cell HT.out 0
              have k1 := blk_cell HT.out 1
              have k2 := blk_cell HT.out 2
              go_upto_region 22 with (fail)
              go_big_region
              go_wp2
              (try simp only [Exit.inBlock, Exit.then])
              refine bodyPost_ret (results_ctt rfl _ _ b2 32 #[.int .i64 t1, .string t2, .int .i64 t3] (0, 0) _ rfl (by
                refine blk_drew ?_
                refine blk_put (cs := #[.int .i64 t1, .string t2, .int .i64 0]) ?_ 2 _ rfl
                refine blk_put (cs := #[.int .i64 t1, .string { data := #[] }, .int .i64 0]) ?_ 1 _ rfl
                refine blk_put (cs := #[.int .i64 0, .string { data := #[] }, .int .i64 0]) ?_ 0 _ rfl
                exact HR.out) Try.underlying32 rfl (by kernel_rfl)) rfl ?_
              exact ⟨rfl, (((HI.out.far hgb _).far hgb _).far hgb _).drew, below_drew1 (below_set (below_set (below_set HB.out HL7.out) HL7.out) HL7.out), keep_drew (keep_far (keep_far (keep_far HK.out HL6.out _) HL6.out _) HL6.out _)⟩
          · have FisUpper : Aside0 (lex_isUpper.f (bt s0_0 s0_1) = some false) := ⟨by rw [lex_scanner_letters.upper_f, hu]⟩
            have FisLower : Aside0 (lex_isLower.f (bt s0_0 s0_1) = some false) := ⟨by rw [lex_scanner_letters.lower_f, hl]⟩
            have FisDigit : Aside0 (lex_isDigit.f (bt s0_0 s0_1) = some true) := ⟨by rw [lex_scanner_letters.digit_f, hd]⟩
            have HO2 : Aside0 (lex_scanner_letters.f s0_0 s0_1 3 = some (t1, t2, t3, ok, t5, t6)) := ⟨by
              have hk : lex_scanner_next.kind (bt s0_0 s0_1) = 3 := by unfold lex_scanner_next.kind; rw [if_neg (by rw [hu]; decide), if_neg (by rw [hl]; decide), if_pos hd]
              have := HO.out
              unfold lex_scanner_next.one at this
              rw [hk, if_neg (by decide)] at this
              exact this⟩
            clear HO
            have c1 := cellS60_1 HI.out.1
            go_upto_region 13 with (first | (go_at_call 45; (with_reducible refine (lex_isUpper.calls (bt s0_0 s0_1) false _ FisUpper.out).mono ?_); rintro e w5 ⟨rfl, ⟨nd, hnd⟩⟩; have n0_ := Aside0.mk (show IsS60 w0 w5 g s0_0 s0_1 by rw [hnd]; exact HI.out.drewN nd); have n1_ := Aside0.mk (show Below w0.heap.size w0 w5 by rw [hnd]; exact pw_below_drewN HB.out nd); have n2_ := Aside0.mk (show w5.heap[b2]? = some (Obj.cells #[Value.int IntKind.i64 0, Value.string { data := #[] }, Value.int IntKind.i64 0] 32 (0, 0)) by rw [hnd]; exact HR.out); have n3_ := Aside0.mk (show KeepBut w w5 g none by rw [hnd]; exact keep_drewN HK.out nd); clear hnd HI HB HR HK; have HI := n0_; have HB := n1_; have HR := n2_; have HK := n3_; clear n0_ n1_ n2_ n3_; have c1 := cellS60_1 HI.out.1) | (go_at_call 46; (with_reducible refine (lex_isLower.calls (bt s0_0 s0_1) false _ FisLower.out).mono ?_); rintro e w5 ⟨rfl, ⟨nd, hnd⟩⟩; have n0_ := Aside0.mk (show IsS60 w0 w5 g s0_0 s0_1 by rw [hnd]; exact HI.out.drewN nd); have n1_ := Aside0.mk (show Below w0.heap.size w0 w5 by rw [hnd]; exact pw_below_drewN HB.out nd); have n2_ := Aside0.mk (show w5.heap[b2]? = some (Obj.cells #[Value.int IntKind.i64 0, Value.string { data := #[] }, Value.int IntKind.i64 0] 32 (0, 0)) by rw [hnd]; exact HR.out); have n3_ := Aside0.mk (show KeepBut w w5 g none by rw [hnd]; exact keep_drewN HK.out nd); clear hnd HI HB HR HK; have HI := n0_; have HB := n1_; have HR := n2_; have HK := n3_; clear n0_ n1_ n2_ n3_; have c1 := cellS60_1 HI.out.1) | (go_at_call 47; (with_reducible refine (lex_isDigit.calls (bt s0_0 s0_1) true _ FisDigit.out).mono ?_); rintro e w5 ⟨rfl, ⟨nd, hnd⟩⟩; have n0_ := Aside0.mk (show IsS60 w0 w5 g s0_0 s0_1 by rw [hnd]; exact HI.out.drewN nd); have n1_ := Aside0.mk (show Below w0.heap.size w0 w5 by rw [hnd]; exact pw_below_drewN HB.out nd); have n2_ := Aside0.mk (show w5.heap[b2]? = some (Obj.cells #[Value.int IntKind.i64 0, Value.string { data := #[] }, Value.int IntKind.i64 0] 32 (0, 0)) by rw [hnd]; exact HR.out); have n3_ := Aside0.mk (show KeepBut w w5 g none by rw [hnd]; exact keep_drewN HK.out nd); clear hnd HI HB HR HK; have HI := n0_; have HB := n1_; have HR := n2_; have HK := n3_; clear n0_ n1_ n2_ n3_; have c1 := cellS60_1 HI.out.1))
            clear c1
            obtain ⟨wb, hwb⟩ : ∃ wb : World, wb = w5 := ⟨_, rfl⟩
            rw [← hwb] at HI HB HK HR ⊢
            clear hwb
            have hz : ∃ b8, b8 = wb.heap.size := ⟨_, rfl⟩
            obtain ⟨b8, hb8⟩ := hz
            have NG : Aside0 (b8 ≠ g) := ⟨by have := HI.out.lt; omega⟩
            have hgt : g ≠ b8 := by have := HI.out.lt; omega
            have hk28 : b2 ≠ b8 := by have := blk_lt HR.out; omega
            have HL8 : Aside0 (w.heap.size ≤ b8) := ⟨by have := HK.out.1; omega⟩
            have HL9 : Aside0 (w0.heap.size ≤ b8) := ⟨by have := HB.out.size; omega⟩
            have n1_ := Aside0.mk (HI.out.alloc (Obj.cells #[Value.int IntKind.i64 0, Value.string { data := #[] }, Value.int IntKind.i64 0] 32))
            have n2_ := Aside0.mk (below_alloc HB.out (Obj.cells #[Value.int IntKind.i64 0, Value.string { data := #[] }, Value.int IntKind.i64 0] 32))
            have n3_ := Aside0.mk (keep_alloc HK.out (Obj.cells #[Value.int IntKind.i64 0, Value.string { data := #[] }, Value.int IntKind.i64 0] 32))
            have n4_ := Aside0.mk (blk_alloc HR.out (Obj.cells #[Value.int IntKind.i64 0, Value.string { data := #[] }, Value.int IntKind.i64 0] 32))
            have n5_ := Aside0.mk (heap_alloc_new wb (Obj.cells #[Value.int IntKind.i64 0, Value.string { data := #[] }, Value.int IntKind.i64 0] 32))
            rw [← hb8] at n5_ ⊢
            clear HI HB HK HR hb8
            generalize (wb.alloc (Obj.cells #[Value.int IntKind.i64 0, Value.string { data := #[] }, Value.int IntKind.i64 0] 32)) = w6 at n1_ n2_ n3_ n4_ n5_ ⊢
            have HI := n1_
            have HB := n2_
            have HK := n3_
            have HR := n4_
            have HT := n5_
            clear n1_ n2_ n3_ n4_ n5_
            go_upto_region 20 with (first | (go_at_call 48; (with_reducible refine (lex_scanner_letters.calls g s0_0 s0_1 3 _ _ _ _ _ _ w0 _ HI.out HB.out HO2.out).mono ?_); rintro e w7 ⟨rfl, hI2, hB2, hK2⟩; have n0_ := Aside0.mk (hI2); have n1_ := Aside0.mk (hB2); have n2_ := Aside0.mk (KeepBut.blk hK2 HR.out NE.out (by simp)); have n3_ := Aside0.mk (KeepBut.blk hK2 HT.out NG.out (by simp)); have n4_ := Aside0.mk (KeepBut.trans HK.out hK2 (.inl rfl)); clear hI2 hB2 hK2 HI HB HR HT HK; have HI := n0_; have HB := n1_; have HR := n2_; have HT := n3_; have HK := n4_; clear n0_ n1_ n2_ n3_ n4_; have k0 := blk_cell HT.out 0; have k1 := blk_cell HT.out 1; have k2 := blk_cell HT.out 2; have kf0 := blk_frozen HT.out 0; have kf1 := blk_frozen HT.out 1; have kf2 := blk_frozen HT.out 2))
            clear k0 k1 k2 kf0 kf1 kf2
            have n1_ := Aside0.mk (((HI.out.far hgt (p := ⟨b8, 0, none⟩) (.int .i64 t1)).far hgt (p := ⟨b8, 1, none⟩) (.string t2)).far hgt (p := ⟨b8, 2, none⟩) (.int .i64 t3))
            have n2_ := Aside0.mk (below_set (v := .int .i64 t3) (j := 2) (below_set (v := .string t2) (j := 1) (below_set (v := .int .i64 t1) (j := 0) HB.out HL9.out) HL9.out) HL9.out)
            have n3_ := Aside0.mk (keep_far (p := ⟨b8, 2, none⟩) (keep_far (p := ⟨b8, 1, none⟩) (keep_far (p := ⟨b8, 0, none⟩) HK.out HL8.out (.int .i64 t1)) HL8.out (.string t2)) HL8.out (.int .i64 t3))
            have n4_ := Aside0.mk ((Below.heap_setCell _ ⟨b8, 2, none⟩ (.int .i64 t3) b2 hk28).trans ((Below.heap_setCell _ ⟨b8, 1, none⟩ (.string t2) b2 hk28).trans ((Below.heap_setCell w7 ⟨b8, 0, none⟩ (.int .i64 t1) b2 hk28).trans HR.out)))
            have n5_ : Aside0 ((((w7.setCell ⟨b8, 0, none⟩ (.int .i64 t1)).setCell ⟨b8, 1, none⟩ (.string t2)).setCell ⟨b8, 2, none⟩ (.int .i64 t3)).heap[b8]? = some (Obj.cells #[.int .i64 t1, .string t2, .int .i64 t3] 32 (0, 0))) := ⟨by
              refine blk_put (cs := #[.int .i64 t1, .string t2, .int .i64 0]) ?_ 2 _ rfl
              refine blk_put (cs := #[.int .i64 t1, .string { data := #[] }, .int .i64 0]) ?_ 1 _ rfl
              refine blk_put (cs := #[.int .i64 0, .string { data := #[] }, .int .i64 0]) ?_ 0 _ rfl
              exact HT.out⟩
            clear HI HB HK HR HT
            generalize (((w7.setCell ⟨b8, 0, none⟩ (.int .i64 t1)).setCell ⟨b8, 1, none⟩ (.string t2)).setCell ⟨b8, 2, none⟩ (.int .i64 t3)) = w8 at n1_ n2_ n3_ n4_ n5_ ⊢
            have HI := n1_
            have HB := n2_
            have HK := n3_
            have HR := n4_
            have HT := n5_
            clear n1_ n2_ n3_ n4_ n5_
            have e0 := blk_cell HR.out 0
            have e1 := blk_cell HR.out 1
            have e2 := blk_cell HR.out 2
            have f0 := blk_frozen HR.out 0
            have f1 := blk_frozen HR.out 1
            have f2 := blk_frozen HR.out 2
            cases ok with
            | false =>
              rw [if_neg (by decide)] at H
              have H2 := H.out
              simp only [Option.some.injEq, Prod.mk.injEq] at H2
              obtain ⟨rfl, rfl, rfl, rfl, rfl, rfl, rfl⟩ := H2
              clear H
              go_wp2
              (try simp only [Exit.inBlock, Exit.then])
              refine bodyPost_ret (results_ctt rfl _ _ b2 32 #[.int .i64 0, .string { data := #[] }, .int .i64 0] (0, 0) _ rfl (by
                refine blk_put (cs := #[.int .i64 0, .string { data := #[] }, .int .i64 0]) ?_ 2 _ rfl
                refine blk_put (cs := #[.int .i64 0, .string { data := #[] }, .int .i64 0]) ?_ 1 _ rfl
                refine blk_put (cs := #[.int .i64 0, .string { data := #[] }, .int .i64 0]) ?_ 0 _ rfl
                exact HR.out) Try.underlying32 rfl (by kernel_rfl)) rfl ?_
              exact ⟨rfl, ((HI.out.far hgb _).far hgb _).far hgb _, below_set (below_set (below_set HB.out HL7.out) HL7.out) HL7.out, keep_far (keep_far (keep_far HK.out HL6.out _) HL6.out _) HL6.out _⟩
            | true =>
              rw [if_pos rfl] at H
              have H2 := H.out
              simp only [Option.some.injEq, Prod.mk.injEq] at H2
              obtain ⟨rfl, rfl, rfl, rfl, rfl, rfl, rfl⟩ := H2
              clear H
              have c1 := cellS60_1 HI.out.1
              have k0 := blk_cell HT.out 0
              have k1 := blk_cell HT.out 1
              have k2 := blk_cell HT.out 2
              go_upto_region 22 with (fail)
              go_big_region
              go_wp2
              (try simp only [Exit.inBlock, Exit.then])
              refine bodyPost_ret (results_ctt rfl _ _ b2 32 #[.int .i64 t1, .string t2, .int .i64 t3] (0, 0) _ rfl (by
                refine blk_drew ?_
                refine blk_put (cs := #[.int .i64 t1, .string t2, .int .i64 0]) ?_ 2 _ rfl
                refine blk_put (cs := #[.int .i64 t1, .string { data := #[] }, .int .i64 0]) ?_ 1 _ rfl
                refine blk_put (cs := #[.int .i64 0, .string { data := #[] }, .int .i64 0]) ?_ 0 _ rfl
                exact HR.out) Try.underlying32 rfl (by kernel_rfl)) rfl ?_
              exact ⟨rfl, (((HI.out.far hgb _).far hgb _).far hgb _).drew, below_drew1 (below_set (below_set (below_set HB.out HL7.out) HL7.out) HL7.out), keep_drew (keep_far (keep_far (keep_far HK.out HL6.out _) HL6.out _) HL6.out _)⟩
        · have FisUpper : Aside0 (lex_isUpper.f (bt s0_0 s0_1) = some false) := ⟨by rw [lex_scanner_letters.upper_f, hu]⟩
          have FisLower : Aside0 (lex_isLower.f (bt s0_0 s0_1) = some true) := ⟨by rw [lex_scanner_letters.lower_f, hl]⟩
          have HO2 : Aside0 (lex_scanner_letters.f s0_0 s0_1 2 = some (t1, t2, t3, ok, t5, t6)) := ⟨by
            have hk : lex_scanner_next.kind (bt s0_0 s0_1) = 2 := by unfold lex_scanner_next.kind; rw [if_neg (by rw [hu]; decide), if_pos hl]
            have := HO.out
            unfold lex_scanner_next.one at this
            rw [hk, if_neg (by decide)] at this
            exact this⟩
          clear HO
          have c1 := cellS60_1 HI.out.1
          go_upto_region 13 with (first | (go_at_call 45; (with_reducible refine (lex_isUpper.calls (bt s0_0 s0_1) false _ FisUpper.out).mono ?_); rintro e w5 ⟨rfl, ⟨nd, hnd⟩⟩; have n0_ := Aside0.mk (show IsS60 w0 w5 g s0_0 s0_1 by rw [hnd]; exact HI.out.drewN nd); have n1_ := Aside0.mk (show Below w0.heap.size w0 w5 by rw [hnd]; exact pw_below_drewN HB.out nd); have n2_ := Aside0.mk (show w5.heap[b2]? = some (Obj.cells #[Value.int IntKind.i64 0, Value.string { data := #[] }, Value.int IntKind.i64 0] 32 (0, 0)) by rw [hnd]; exact HR.out); have n3_ := Aside0.mk (show KeepBut w w5 g none by rw [hnd]; exact keep_drewN HK.out nd); clear hnd HI HB HR HK; have HI := n0_; have HB := n1_; have HR := n2_; have HK := n3_; clear n0_ n1_ n2_ n3_; have c1 := cellS60_1 HI.out.1) | (go_at_call 46; (with_reducible refine (lex_isLower.calls (bt s0_0 s0_1) true _ FisLower.out).mono ?_); rintro e w5 ⟨rfl, ⟨nd, hnd⟩⟩; have n0_ := Aside0.mk (show IsS60 w0 w5 g s0_0 s0_1 by rw [hnd]; exact HI.out.drewN nd); have n1_ := Aside0.mk (show Below w0.heap.size w0 w5 by rw [hnd]; exact pw_below_drewN HB.out nd); have n2_ := Aside0.mk (show w5.heap[b2]? = some (Obj.cells #[Value.int IntKind.i64 0, Value.string { data := #[] }, Value.int IntKind.i64 0] 32 (0, 0)) by rw [hnd]; exact HR.out); have n3_ := Aside0.mk (show KeepBut w w5 g none by rw [hnd]; exact keep_drewN HK.out nd); clear hnd HI HB HR HK; have HI := n0_; have HB := n1_; have HR := n2_; have HK := n3_; clear n0_ n1_ n2_ n3_; have c1 := cellS60_1 HI.out.1))
          clear c1
          obtain ⟨wb, hwb⟩ : ∃ wb : World, wb = w5 := ⟨_, rfl⟩
          rw [← hwb] at HI HB HK HR ⊢
          clear hwb
          have hz : ∃ b8, b8 = wb.heap.size := ⟨_, rfl⟩
          obtain ⟨b8, hb8⟩ := hz
          have NG : Aside0 (b8 ≠ g) := ⟨by have := HI.out.lt; omega⟩
          have hgt : g ≠ b8 := by have := HI.out.lt; omega
          have hk28 : b2 ≠ b8 := by have := blk_lt HR.out; omega
          have HL8 : Aside0 (w.heap.size ≤ b8) := ⟨by have := HK.out.1; omega⟩
          have HL9 : Aside0 (w0.heap.size ≤ b8) := ⟨by have := HB.out.size; omega⟩
          have n1_ := Aside0.mk (HI.out.alloc (Obj.cells #[Value.int IntKind.i64 0, Value.string { data := #[] }, Value.int IntKind.i64 0] 32))
          have n2_ := Aside0.mk (below_alloc HB.out (Obj.cells #[Value.int IntKind.i64 0, Value.string { data := #[] }, Value.int IntKind.i64 0] 32))
          have n3_ := Aside0.mk (keep_alloc HK.out (Obj.cells #[Value.int IntKind.i64 0, Value.string { data := #[] }, Value.int IntKind.i64 0] 32))
          have n4_ := Aside0.mk (blk_alloc HR.out (Obj.cells #[Value.int IntKind.i64 0, Value.string { data := #[] }, Value.int IntKind.i64 0] 32))
          have n5_ := Aside0.mk (heap_alloc_new wb (Obj.cells #[Value.int IntKind.i64 0, Value.string { data := #[] }, Value.int IntKind.i64 0] 32))
          rw [← hb8] at n5_ ⊢
          clear HI HB HK HR hb8
          generalize (wb.alloc (Obj.cells #[Value.int IntKind.i64 0, Value.string { data := #[] }, Value.int IntKind.i64 0] 32)) = w6 at n1_ n2_ n3_ n4_ n5_ ⊢
          have HI := n1_
          have HB := n2_
          have HK := n3_
          have HR := n4_
          have HT := n5_
          clear n1_ n2_ n3_ n4_ n5_
          go_upto_region 20 with (first | (go_at_call 48; (with_reducible refine (lex_scanner_letters.calls g s0_0 s0_1 2 _ _ _ _ _ _ w0 _ HI.out HB.out HO2.out).mono ?_); rintro e w7 ⟨rfl, hI2, hB2, hK2⟩; have n0_ := Aside0.mk (hI2); have n1_ := Aside0.mk (hB2); have n2_ := Aside0.mk (KeepBut.blk hK2 HR.out NE.out (by simp)); have n3_ := Aside0.mk (KeepBut.blk hK2 HT.out NG.out (by simp)); have n4_ := Aside0.mk (KeepBut.trans HK.out hK2 (.inl rfl)); clear hI2 hB2 hK2 HI HB HR HT HK; have HI := n0_; have HB := n1_; have HR := n2_; have HT := n3_; have HK := n4_; clear n0_ n1_ n2_ n3_ n4_; have k0 := blk_cell HT.out 0; have k1 := blk_cell HT.out 1; have k2 := blk_cell HT.out 2; have kf0 := blk_frozen HT.out 0; have kf1 := blk_frozen HT.out 1; have kf2 := blk_frozen HT.out 2))
          clear k0 k1 k2 kf0 kf1 kf2
          have n1_ := Aside0.mk (((HI.out.far hgt (p := ⟨b8, 0, none⟩) (.int .i64 t1)).far hgt (p := ⟨b8, 1, none⟩) (.string t2)).far hgt (p := ⟨b8, 2, none⟩) (.int .i64 t3))
          have n2_ := Aside0.mk (below_set (v := .int .i64 t3) (j := 2) (below_set (v := .string t2) (j := 1) (below_set (v := .int .i64 t1) (j := 0) HB.out HL9.out) HL9.out) HL9.out)
          have n3_ := Aside0.mk (keep_far (p := ⟨b8, 2, none⟩) (keep_far (p := ⟨b8, 1, none⟩) (keep_far (p := ⟨b8, 0, none⟩) HK.out HL8.out (.int .i64 t1)) HL8.out (.string t2)) HL8.out (.int .i64 t3))
          have n4_ := Aside0.mk ((Below.heap_setCell _ ⟨b8, 2, none⟩ (.int .i64 t3) b2 hk28).trans ((Below.heap_setCell _ ⟨b8, 1, none⟩ (.string t2) b2 hk28).trans ((Below.heap_setCell w7 ⟨b8, 0, none⟩ (.int .i64 t1) b2 hk28).trans HR.out)))
          have n5_ : Aside0 ((((w7.setCell ⟨b8, 0, none⟩ (.int .i64 t1)).setCell ⟨b8, 1, none⟩ (.string t2)).setCell ⟨b8, 2, none⟩ (.int .i64 t3)).heap[b8]? = some (Obj.cells #[.int .i64 t1, .string t2, .int .i64 t3] 32 (0, 0))) := ⟨by
            refine blk_put (cs := #[.int .i64 t1, .string t2, .int .i64 0]) ?_ 2 _ rfl
            refine blk_put (cs := #[.int .i64 t1, .string { data := #[] }, .int .i64 0]) ?_ 1 _ rfl
            refine blk_put (cs := #[.int .i64 0, .string { data := #[] }, .int .i64 0]) ?_ 0 _ rfl
            exact HT.out⟩
          clear HI HB HK HR HT
          generalize (((w7.setCell ⟨b8, 0, none⟩ (.int .i64 t1)).setCell ⟨b8, 1, none⟩ (.string t2)).setCell ⟨b8, 2, none⟩ (.int .i64 t3)) = w8 at n1_ n2_ n3_ n4_ n5_ ⊢
          have HI := n1_
          have HB := n2_
          have HK := n3_
          have HR := n4_
          have HT := n5_
          clear n1_ n2_ n3_ n4_ n5_
          have e0 := blk_cell HR.out 0
          have e1 := blk_cell HR.out 1
          have e2 := blk_cell HR.out 2
          have f0 := blk_frozen HR.out 0
          have f1 := blk_frozen HR.out 1
          have f2 := blk_frozen HR.out 2
          cases ok with
          | false =>
            rw [if_neg (by decide)] at H
            have H2 := H.out
            simp only [Option.some.injEq, Prod.mk.injEq] at H2
            obtain ⟨rfl, rfl, rfl, rfl, rfl, rfl, rfl⟩ := H2
            clear H
            go_wp2
            (try simp only [Exit.inBlock, Exit.then])
            refine bodyPost_ret (results_ctt rfl _ _ b2 32 #[.int .i64 0, .string { data := #[] }, .int .i64 0] (0, 0) _ rfl (by
              refine blk_put (cs := #[.int .i64 0, .string { data := #[] }, .int .i64 0]) ?_ 2 _ rfl
              refine blk_put (cs := #[.int .i64 0, .string { data := #[] }, .int .i64 0]) ?_ 1 _ rfl
              refine blk_put (cs := #[.int .i64 0, .string { data := #[] }, .int .i64 0]) ?_ 0 _ rfl
              exact HR.out) Try.underlying32 rfl (by kernel_rfl)) rfl ?_
            exact ⟨rfl, ((HI.out.far hgb _).far hgb _).far hgb _, below_set (below_set (below_set HB.out HL7.out) HL7.out) HL7.out, keep_far (keep_far (keep_far HK.out HL6.out _) HL6.out _) HL6.out _⟩
          | true =>
            rw [if_pos rfl] at H
            have H2 := H.out
            simp only [Option.some.injEq, Prod.mk.injEq] at H2
            obtain ⟨rfl, rfl, rfl, rfl, rfl, rfl, rfl⟩ := H2
            clear H
            have c1 := cellS60_1 HI.out.1
            have k0 := blk_cell HT.out 0
            have k1 := blk_cell HT.out 1
            have k2 := blk_cell HT.out 2
            go_upto_region 22 with (fail)
            go_big_region
            go_wp2
            (try simp only [Exit.inBlock, Exit.then])
            refine bodyPost_ret (results_ctt rfl _ _ b2 32 #[.int .i64 t1, .string t2, .int .i64 t3] (0, 0) _ rfl (by
              refine blk_drew ?_
              refine blk_put (cs := #[.int .i64 t1, .string t2, .int .i64 0]) ?_ 2 _ rfl
              refine blk_put (cs := #[.int .i64 t1, .string { data := #[] }, .int .i64 0]) ?_ 1 _ rfl
              refine blk_put (cs := #[.int .i64 0, .string { data := #[] }, .int .i64 0]) ?_ 0 _ rfl
              exact HR.out) Try.underlying32 rfl (by kernel_rfl)) rfl ?_
            exact ⟨rfl, (((HI.out.far hgb _).far hgb _).far hgb _).drew, below_drew1 (below_set (below_set (below_set HB.out HL7.out) HL7.out) HL7.out), keep_drew (keep_far (keep_far (keep_far HK.out HL6.out _) HL6.out _) HL6.out _)⟩
      · have FisUpper : Aside0 (lex_isUpper.f (bt s0_0 s0_1) = some true) := ⟨by rw [lex_scanner_letters.upper_f, hu]⟩
        have HO2 : Aside0 (lex_scanner_letters.f s0_0 s0_1 1 = some (t1, t2, t3, ok, t5, t6)) := ⟨by
          have hk : lex_scanner_next.kind (bt s0_0 s0_1) = 1 := by unfold lex_scanner_next.kind; rw [if_pos hu]
          have := HO.out
          unfold lex_scanner_next.one at this
          rw [hk, if_neg (by decide)] at this
          exact this⟩
        clear HO
        have c1 := cellS60_1 HI.out.1
        go_upto_region 13 with (first | (go_at_call 45; (with_reducible refine (lex_isUpper.calls (bt s0_0 s0_1) true _ FisUpper.out).mono ?_); rintro e w5 ⟨rfl, ⟨nd, hnd⟩⟩; have n0_ := Aside0.mk (show IsS60 w0 w5 g s0_0 s0_1 by rw [hnd]; exact HI.out.drewN nd); have n1_ := Aside0.mk (show Below w0.heap.size w0 w5 by rw [hnd]; exact pw_below_drewN HB.out nd); have n2_ := Aside0.mk (show w5.heap[b2]? = some (Obj.cells #[Value.int IntKind.i64 0, Value.string { data := #[] }, Value.int IntKind.i64 0] 32 (0, 0)) by rw [hnd]; exact HR.out); have n3_ := Aside0.mk (show KeepBut w w5 g none by rw [hnd]; exact keep_drewN HK.out nd); clear hnd HI HB HR HK; have HI := n0_; have HB := n1_; have HR := n2_; have HK := n3_; clear n0_ n1_ n2_ n3_; have c1 := cellS60_1 HI.out.1))
        clear c1
        obtain ⟨wb, hwb⟩ : ∃ wb : World, wb = w5 := ⟨_, rfl⟩
        rw [← hwb] at HI HB HK HR ⊢
        clear hwb
        have hz : ∃ b8, b8 = wb.heap.size := ⟨_, rfl⟩
        obtain ⟨b8, hb8⟩ := hz
        have NG : Aside0 (b8 ≠ g) := ⟨by have := HI.out.lt; omega⟩
        have hgt : g ≠ b8 := by have := HI.out.lt; omega
        have hk28 : b2 ≠ b8 := by have := blk_lt HR.out; omega
        have HL8 : Aside0 (w.heap.size ≤ b8) := ⟨by have := HK.out.1; omega⟩
        have HL9 : Aside0 (w0.heap.size ≤ b8) := ⟨by have := HB.out.size; omega⟩
        have n1_ := Aside0.mk (HI.out.alloc (Obj.cells #[Value.int IntKind.i64 0, Value.string { data := #[] }, Value.int IntKind.i64 0] 32))
        have n2_ := Aside0.mk (below_alloc HB.out (Obj.cells #[Value.int IntKind.i64 0, Value.string { data := #[] }, Value.int IntKind.i64 0] 32))
        have n3_ := Aside0.mk (keep_alloc HK.out (Obj.cells #[Value.int IntKind.i64 0, Value.string { data := #[] }, Value.int IntKind.i64 0] 32))
        have n4_ := Aside0.mk (blk_alloc HR.out (Obj.cells #[Value.int IntKind.i64 0, Value.string { data := #[] }, Value.int IntKind.i64 0] 32))
        have n5_ := Aside0.mk (heap_alloc_new wb (Obj.cells #[Value.int IntKind.i64 0, Value.string { data := #[] }, Value.int IntKind.i64 0] 32))
        rw [← hb8] at n5_ ⊢
        clear HI HB HK HR hb8
        generalize (wb.alloc (Obj.cells #[Value.int IntKind.i64 0, Value.string { data := #[] }, Value.int IntKind.i64 0] 32)) = w6 at n1_ n2_ n3_ n4_ n5_ ⊢
        have HI := n1_
        have HB := n2_
        have HK := n3_
        have HR := n4_
        have HT := n5_
        clear n1_ n2_ n3_ n4_ n5_
        go_upto_region 20 with (first | (go_at_call 48; (with_reducible refine (lex_scanner_letters.calls g s0_0 s0_1 1 _ _ _ _ _ _ w0 _ HI.out HB.out HO2.out).mono ?_); rintro e w7 ⟨rfl, hI2, hB2, hK2⟩; have n0_ := Aside0.mk (hI2); have n1_ := Aside0.mk (hB2); have n2_ := Aside0.mk (KeepBut.blk hK2 HR.out NE.out (by simp)); have n3_ := Aside0.mk (KeepBut.blk hK2 HT.out NG.out (by simp)); have n4_ := Aside0.mk (KeepBut.trans HK.out hK2 (.inl rfl)); clear hI2 hB2 hK2 HI HB HR HT HK; have HI := n0_; have HB := n1_; have HR := n2_; have HT := n3_; have HK := n4_; clear n0_ n1_ n2_ n3_ n4_; have k0 := blk_cell HT.out 0; have k1 := blk_cell HT.out 1; have k2 := blk_cell HT.out 2; have kf0 := blk_frozen HT.out 0; have kf1 := blk_frozen HT.out 1; have kf2 := blk_frozen HT.out 2))
        clear k0 k1 k2 kf0 kf1 kf2
        have n1_ := Aside0.mk (((HI.out.far hgt (p := ⟨b8, 0, none⟩) (.int .i64 t1)).far hgt (p := ⟨b8, 1, none⟩) (.string t2)).far hgt (p := ⟨b8, 2, none⟩) (.int .i64 t3))
        have n2_ := Aside0.mk (below_set (v := .int .i64 t3) (j := 2) (below_set (v := .string t2) (j := 1) (below_set (v := .int .i64 t1) (j := 0) HB.out HL9.out) HL9.out) HL9.out)
        have n3_ := Aside0.mk (keep_far (p := ⟨b8, 2, none⟩) (keep_far (p := ⟨b8, 1, none⟩) (keep_far (p := ⟨b8, 0, none⟩) HK.out HL8.out (.int .i64 t1)) HL8.out (.string t2)) HL8.out (.int .i64 t3))
        have n4_ := Aside0.mk ((Below.heap_setCell _ ⟨b8, 2, none⟩ (.int .i64 t3) b2 hk28).trans ((Below.heap_setCell _ ⟨b8, 1, none⟩ (.string t2) b2 hk28).trans ((Below.heap_setCell w7 ⟨b8, 0, none⟩ (.int .i64 t1) b2 hk28).trans HR.out)))
        have n5_ : Aside0 ((((w7.setCell ⟨b8, 0, none⟩ (.int .i64 t1)).setCell ⟨b8, 1, none⟩ (.string t2)).setCell ⟨b8, 2, none⟩ (.int .i64 t3)).heap[b8]? = some (Obj.cells #[.int .i64 t1, .string t2, .int .i64 t3] 32 (0, 0))) := ⟨by
          refine blk_put (cs := #[.int .i64 t1, .string t2, .int .i64 0]) ?_ 2 _ rfl
          refine blk_put (cs := #[.int .i64 t1, .string { data := #[] }, .int .i64 0]) ?_ 1 _ rfl
          refine blk_put (cs := #[.int .i64 0, .string { data := #[] }, .int .i64 0]) ?_ 0 _ rfl
          exact HT.out⟩
        clear HI HB HK HR HT
        generalize (((w7.setCell ⟨b8, 0, none⟩ (.int .i64 t1)).setCell ⟨b8, 1, none⟩ (.string t2)).setCell ⟨b8, 2, none⟩ (.int .i64 t3)) = w8 at n1_ n2_ n3_ n4_ n5_ ⊢
        have HI := n1_
        have HB := n2_
        have HK := n3_
        have HR := n4_
        have HT := n5_
        clear n1_ n2_ n3_ n4_ n5_
        have e0 := blk_cell HR.out 0
        have e1 := blk_cell HR.out 1
        have e2 := blk_cell HR.out 2
        have f0 := blk_frozen HR.out 0
        have f1 := blk_frozen HR.out 1
        have f2 := blk_frozen HR.out 2
        cases ok with
        | false =>
          rw [if_neg (by decide)] at H
          have H2 := H.out
          simp only [Option.some.injEq, Prod.mk.injEq] at H2
          obtain ⟨rfl, rfl, rfl, rfl, rfl, rfl, rfl⟩ := H2
          clear H
          go_wp2
          (try simp only [Exit.inBlock, Exit.then])
          refine bodyPost_ret (results_ctt rfl _ _ b2 32 #[.int .i64 0, .string { data := #[] }, .int .i64 0] (0, 0) _ rfl (by
            refine blk_put (cs := #[.int .i64 0, .string { data := #[] }, .int .i64 0]) ?_ 2 _ rfl
            refine blk_put (cs := #[.int .i64 0, .string { data := #[] }, .int .i64 0]) ?_ 1 _ rfl
            refine blk_put (cs := #[.int .i64 0, .string { data := #[] }, .int .i64 0]) ?_ 0 _ rfl
            exact HR.out) Try.underlying32 rfl (by kernel_rfl)) rfl ?_
          exact ⟨rfl, ((HI.out.far hgb _).far hgb _).far hgb _, below_set (below_set (below_set HB.out HL7.out) HL7.out) HL7.out, keep_far (keep_far (keep_far HK.out HL6.out _) HL6.out _) HL6.out _⟩
        | true =>
          rw [if_pos rfl] at H
          have H2 := H.out
          simp only [Option.some.injEq, Prod.mk.injEq] at H2
          obtain ⟨rfl, rfl, rfl, rfl, rfl, rfl, rfl⟩ := H2
          clear H
          have c1 := cellS60_1 HI.out.1
          have k0 := blk_cell HT.out 0
          have k1 := blk_cell HT.out 1
          have k2 := blk_cell HT.out 2
          go_upto_region 22 with (fail)
          go_big_region
          go_wp2
          (try simp only [Exit.inBlock, Exit.then])
          refine bodyPost_ret (results_ctt rfl _ _ b2 32 #[.int .i64 t1, .string t2, .int .i64 t3] (0, 0) _ rfl (by
            refine blk_drew ?_
            refine blk_put (cs := #[.int .i64 t1, .string t2, .int .i64 0]) ?_ 2 _ rfl
            refine blk_put (cs := #[.int .i64 t1, .string { data := #[] }, .int .i64 0]) ?_ 1 _ rfl
            refine blk_put (cs := #[.int .i64 0, .string { data := #[] }, .int .i64 0]) ?_ 0 _ rfl
            exact HR.out) Try.underlying32 rfl (by kernel_rfl)) rfl ?_
          exact ⟨rfl, (((HI.out.far hgb _).far hgb _).far hgb _).drew, below_drew1 (below_set (below_set (below_set HB.out HL7.out) HL7.out) HL7.out), keep_drew (keep_far (keep_far (keep_far HK.out HL6.out _) HL6.out _) HL6.out _)⟩
  · rw [if_neg hg] at h; cases h

/-! ### lex_All: function 17 -/
def lex_All.l0 : Nat → ByteArray → List (S32) → ByteArray → Int → Option ((List (S32)) × Int × Int)
  | 0, _, _, _, _ => none
  | k + 1, x0, x6, x151000, x151001 => if x151001 < (x0.size : Int) then ((lex_scanner_next.f k x151000 x151001).bind fun bt156 => (if bt156.2.2.2.2.1 = 0 then (if x6.length < 4398046511104 then ((lex_scanner_blanks.f k bt156.2.2.2.2.2.1 bt156.2.2.2.2.2.2).bind fun bt167 => (lex_All.l0 k x0 (x6 ++ [(⟨bt156.1, bt156.2.1, bt156.2.2.1⟩ : S32)]) bt167.1 bt167.2)) else (none)) else (some (([] : List (S32)), bt156.2.2.2.1, bt156.2.2.2.2.1)))) else (if x6.length < 4398046511104 then (some ((x6 ++ [(⟨6, (⟨#[]⟩ : ByteArray), (x0.size : Int)⟩ : S32)]), (x0.size : Int), 0)) else (none))
def lex_All.f (k : Nat) (a0 : ByteArray) : Option ((List (S32)) × Int × Int) := if (a0.size : Int) > 8192 then (some (([] : List (S32)), 0, 2)) else ((lex_scanner_blanks.f k a0 0).bind fun bt151 => (lex_All.l0 k a0 ([] : List (S32)) bt151.1 bt151.2))
theorem lex_All.mono_l : ∀ k, (∀ y0 y1 y2 y3, LeO (lex_All.l0 k y0 y1 y2 y3) (lex_All.l0 (k + 1) y0 y1 y2 y3))
  | 0 => fun _ _ _ _ r h => by simp [lex_All.l0] at h
  | k + 1 => by
    have ih0 := lex_All.mono_l k
    · intro y0 y1 y2 y3
      unfold lex_All.l0
      repeat' first
      | (with_reducible exact ih0 _ _ _ _)
      | (with_reducible exact lex_scanner_blanks.mono _ _ _)
      | (with_reducible exact lex_scanner_next.mono _ _ _)
      | (with_reducible exact LeO.refl _)
      | (with_reducible exact LeO.none _)
      | (with_reducible refine LeO.ite ?_ ?_)
      | (with_reducible refine LeO.bind ?_ (fun _ => ?_))
      | exact ih0 _ _ _ _
      | exact lex_scanner_blanks.mono _ _ _
      | exact lex_scanner_next.mono _ _ _
      | exact LeO.none _
      | refine LeO.ite ?_ ?_
      | refine LeO.bind ?_ (fun _ => ?_)
theorem lex_All.mono : ∀ a0 k, LeO (lex_All.f k a0) (lex_All.f (k + 1) a0) := by
  intro a0 k
  have ih0 := lex_All.mono_l k
  unfold lex_All.f
  repeat' first
      | (with_reducible exact ih0 _ _ _ _)
      | (with_reducible exact lex_scanner_blanks.mono _ _ _)
      | (with_reducible exact lex_scanner_next.mono _ _ _)
      | (with_reducible exact LeO.refl _)
      | (with_reducible exact LeO.none _)
      | (with_reducible refine LeO.ite ?_ ?_)
      | (with_reducible refine LeO.bind ?_ (fun _ => ?_))
      | exact ih0 _ _ _ _
      | exact lex_scanner_blanks.mono _ _ _
      | exact lex_scanner_next.mono _ _ _
      | exact LeO.none _
      | refine LeO.ite ?_ ?_
      | refine LeO.bind ?_ (fun _ => ?_)
set_option maxHeartbeats 8000000 in
set_option maxRecDepth 100000 in
theorem lex_All.calls (k : Nat) (a0 : ByteArray) (r1 : List (S32)) (r2 : Int) (r3 : Int) (w : World) (h : lex_All.f k a0 = some (r1, r2, r3)) :
    Calls Try.prog 17 #[.string a0] w fun e w' => ∃ v0_ : Value, e = .returned (.tuple #[v0_, .int .i64 r2, .int .i64 r3]) ∧ Kd.R k32 32 w' w.heap.size (fun _ => True) v0_ r1 ∧ Below w.heap.size w w' := by
  have hu60 := Try.underlying60
  have hu32 := Try.underlying32
  have HB := Aside0.mk (Below.refl w.heap.size w)
  have H : (if (a0.size : Int) > 8192 then (some (([] : List (S32)), 0, 2)) else ((lex_scanner_blanks.f k a0 0).bind fun bt151 => (lex_All.l0 k a0 ([] : List (S32)) bt151.1 bt151.2))) = some (r1, r2, r3) := h
  clear h
  by_cases c2 : (a0.size : Int) > 8192
  · rw [if_pos c2] at H
    have c2b0 : decide (8192 < (a0.size : Int)) = true := decide_eq_true c2
    have c2b1 : decide (8192 < a0.size) = true := decide_eq_true (by omega)
    clear c2
    simp only [Option.some.injEq, Prod.mk.injEq] at H
    obtain ⟨rfl, rfl, rfl⟩ := H
    go_enter Try.func17, Try.ntmps17
    go_wp2
    go_ret3
    exact ⟨_, by first | rfl | (simp [errW_none, errW_some] <;> rfl) | (simp [*, errW_none, errW_some] <;> rfl), by first | exact Kd.R_nil _ _ _ _ _ | exact Kd.N_nil _ _ _ _ _ | exact Kd.V_nil _ _ _ _ _ | exact Kd.Q_nil _ _ _ _ _ | exact Kd.S_nil _ _ _ _ _, by repeat (first | (with_reducible first | exact HB.out | apply below_alloc | apply pw_below_drewN | apply below_drew1) | exact HB.out)⟩
  · rw [if_neg c2] at H
    have c2b0 : decide (8192 < (a0.size : Int)) = false := decide_eq_false c2
    have c2b1 : decide (8192 < a0.size) = false := decide_eq_false (by omega)
    clear c2
    replace H := Option.bind_eq_some_iff.mp H
    obtain ⟨⟨t151, t152⟩, A30, H⟩ := H
    replace H : (lex_All.l0 k a0 ([] : List (S32)) t151 t152) = some (r1, r2, r3) := H
    have A3 := Aside0.mk A30
    clear A30
    have H' := Aside0.mk H
    clear H
    go_enter Try.func17, Try.ntmps17
    go_wp2_with (first | ((with_reducible refine gate_dst (N := 15) rfl ?_); refine box_event ?hg (N := 15) ?hd (cs := #[.string a0, .int .i64 0]) (t := 60) ?hr ?_; (case hd => rfl); (case hg => rfl); (case hr => first | (go_simp; done) | (go_simp; rfl)); intro gb150 hg w4 hbox hb; have n0_ := Aside0.mk (below_step (by repeat (first | (with_reducible first | exact HB.out | apply below_alloc | apply pw_below_drewN | apply below_drew1) | exact HB.out)) hb); have n1_ := Aside0.mk ((by rw [hg]; exact (below_size (by repeat (first | (with_reducible first | exact HB.out | apply below_alloc | apply pw_below_drewN | apply below_drew1) | exact HB.out))) : w.heap.size ≤ gb150)); have n2_ := Aside0.mk ((by rw [hg]; exact (below_size (by repeat (first | (with_reducible first | exact HB.out | apply below_alloc | apply pw_below_drewN | apply below_drew1) | exact HB.out))) : w.heap.size ≤ gb150)); have n3_ := Aside0.mk ((show IsS60 w _ gb150 a0 0 from ⟨hbox, (by rw [hg]; exact (below_size (by repeat (first | (with_reducible first | exact HB.out | apply below_alloc | apply pw_below_drewN | apply below_drew1) | exact HB.out))) : w.heap.size ≤ gb150)⟩)); clear HB; have HB := n0_; have GW150 := n1_; have GE150 := n2_; have HI150 := n3_; clear n0_ n1_ n2_ n3_; clear hb hbox hg) | ((with_reducible refine gate_callee (f := 33) rfl ?_); refine goesL_ (some 17) rfl rfl Try.func33 (by kernel_rfl) rfl #[.pointer (some ⟨gb150, 0, none⟩)] rfl (by (try simp only [List.map_toArray, List.map_cons, List.map_nil]); first | done | rfl | (simp only [List.length_drop, List.length_take]; rfl)) ?_; (with_reducible refine (lex_scanner_blanks.calls k gb150 a0 0 t151 t152 w _ ?side1 ?side2 A3.out).mono ?_); (case side1 => repeat (first | (with_reducible first | exact HI150.out | apply IsS60.alloc | apply IsS60.drewN | apply IsS60.drew | apply IsS60.set_0 | apply IsS60.set_1) | exact HI150.out)); (case side2 => repeat (first | (with_reducible first | exact HB.out | apply below_alloc | apply pw_below_drewN | apply below_drew1 | refine below_set ?_ (IsS60.ge HI150.out)) | exact HB.out)); rintro e w5 ⟨rfl, hi, hb, hk⟩; refine ⟨_, rfl, ?_⟩; have n0_ := Aside0.mk (hb); have n1_ := Aside0.mk (hi); clear HB; clear HI150; have HB := n0_; have HI150 := n1_; clear n0_ n1_; (try clear hb); (try clear hb2); (try clear hk); (try clear hi)))
    (try go_simp)
    go_loopg [6] k (fun kq v6 w' => ∃ (x6_1 : List (S32)) (x151000_1 : ByteArray) (x151001_1 : Int), Aside0 (lex_All.l0 kq a0 x6_1 x151000_1 x151001_1 = some (r1, r2, r3)) ∧ Aside0 (kq ≤ k) ∧ Aside0 (Kd.R k32 32 w' w.heap.size (fun _ => True) v6 x6_1) ∧ Aside0 (IsS60 w w' gb150 x151000_1 x151001_1) ∧ Aside0 (Below w.heap.size w w'))
    case atStart => exact ⟨(([] : List (S32))), (t151), (t152), H', ⟨Nat.le_refl _⟩, ⟨by first | exact Kd.R_nil _ _ _ _ _ | exact Kd.N_nil _ _ _ _ _ | exact Kd.V_nil _ _ _ _ _ | exact Kd.Q_nil _ _ _ _ _ | exact Kd.S_nil _ _ _ _ _⟩, ⟨by repeat (first | (with_reducible first | exact HI150.out | apply IsS60.alloc | apply IsS60.drewN | apply IsS60.drew | apply IsS60.set_0 | apply IsS60.set_1) | exact HI150.out)⟩, ⟨by repeat (first | (with_reducible first | exact HB.out | apply below_alloc | apply pw_below_drewN | apply below_drew1 | refine below_set ?_ (IsS60.ge HI150.out)) | exact HB.out)⟩⟩
    case round =>
      clear H'
      try clear c1
      try clear c2
      try clear c2b0
      try clear c2b1
      try clear p2
      try clear c3
      obtain ⟨x6_1, x151000_1, x151001_1, HA, HK1, HO_6, HI150, HB⟩ := hrel
      cases gk with
      | zero => exact absurd HA.out (by simp [lex_All.l0])
      | succ k1 =>
        have H := HA.out
        clear HA
        simp only [lex_All.l0] at H
        by_cases c6 : x151001_1 < (a0.size : Int)
        · rw [if_pos c6] at H
          have c6b0 : decide (x151001_1 < (a0.size : Int)) = true := decide_eq_true c6
          clear c6
          replace H := Option.bind_eq_some_iff.mp H
          obtain ⟨⟨t156, t157, t158, t159, t160, t161, t162⟩, A70, H⟩ := H
          replace H : (if t160 = 0 then (if x6_1.length < 4398046511104 then ((lex_scanner_blanks.f k1 t161 t162).bind fun bt167 => (lex_All.l0 k1 a0 (x6_1 ++ [(⟨t156, t157, t158⟩ : S32)]) bt167.1 bt167.2)) else (none)) else (some (([] : List (S32)), t159, t160))) = some (r1, r2, r3) := H
          have A7 := Aside0.mk A70
          clear A70
          by_cases c8 : t160 = 0
          · rw [if_pos c8] at H
            have c8b0 : (t160 == 0) = true := beq_iff_eq.mpr c8
            have c8b1 : (t160 != 0) = false := bne_eq_false_iff_eq.mpr c8
            clear c8
            by_cases c9 : x6_1.length < 4398046511104
            · rw [if_pos c9] at H
              have LMc9 := Aside0.mk c9
              clear c9
              obtain ⟨y164, hy164⟩ : ∃ y_ : List (S32), y_ = (x6_1 ++ [(⟨t156, t157, t158⟩ : S32)]) := ⟨_, rfl⟩
              replace H : ((lex_scanner_blanks.f k1 t161 t162).bind fun bt167 => (lex_All.l0 k1 a0 y164 bt167.1 bt167.2)) = some (r1, r2, r3) := by first | (rw [hy164]; with_reducible exact H) | (have H2_ := (Option.bind_some _ _).symm.trans H; rw [hy164]; with_reducible exact H2_) | (have H2_ := (Option.bind_some _ _).symm.trans H; with_reducible exact H2_) | with_reducible exact H | (rw [hy164]; exact H) | exact H
              have Ny164 := Aside0.mk hy164
              clear hy164
              replace H := Option.bind_eq_some_iff.mp H
              obtain ⟨⟨t167, t168⟩, A100, H⟩ := H
              replace H : (lex_All.l0 k1 a0 y164 t167 t168) = some (r1, r2, r3) := H
              have A10 := Aside0.mk A100
              clear A100
              have H' := Aside0.mk H
              clear H
              obtain ⟨HGz11, hgz11⟩ := HI150.out
              have hcz11_0 := cellS60_0 HGz11
              have hcz11_1 := cellS60_1 HGz11
              have hfz11_0 := blk_frozen HGz11 0
              have hfz11_1 := blk_frozen HGz11 1
              clear HGz11 hgz11
              go_wp2_with (first | ((with_reducible refine gate_callee (f := 34) rfl ?_); refine goesL_ (some 29) rfl rfl Try.func34 (by kernel_rfl) rfl #[.pointer (some ⟨gb150, 0, none⟩)] rfl (by (try simp only [List.map_toArray, List.map_cons, List.map_nil]); first | done | rfl | (simp only [List.length_drop, List.length_take]; rfl)) ?_; (with_reducible refine (lex_scanner_next.calls k1 gb150 x151000_1 x151001_1 t156 t157 t158 t159 t160 t161 t162 w _ ?side1 ?side2 A7.out).mono ?_); (case side1 => repeat (first | (with_reducible first | exact HI150.out | apply IsS60.alloc | apply IsS60.drewN | apply IsS60.drew | apply IsS60.set_0 | apply IsS60.set_1) | exact HI150.out)); (case side2 => repeat (first | (with_reducible first | exact HB.out | apply below_alloc | apply pw_below_drewN | apply below_drew1 | refine below_set ?_ (IsS60.ge HI150.out)) | exact HB.out)); rintro e w12 ⟨rfl, hi, hb, hk⟩; refine ⟨_, rfl, ?_⟩; have n0_ := Aside0.mk (Kd.R_mono (Kd.R_keep (IsS60.apart (show IsS60 w _ gb150 x151000_1 x151001_1 from by repeat (first | (with_reducible first | exact HI150.out | apply IsS60.alloc | apply IsS60.drewN | apply IsS60.drew | apply IsS60.set_0 | apply IsS60.set_1) | exact HI150.out)) (by (with_reducible repeat (first | apply Kd.R_alloc | apply Kd.R_drewN | apply Kd.R_drew)); exact HO_6.out) (by decide)) hk (fun _ h => h.2)) (fun _ h => h.1)); have n1_ := Aside0.mk (hb); have n2_ := Aside0.mk (hi); clear HO_6; clear HB; clear HI150; have HO_6 := n0_; have HB := n1_; have HI150 := n2_; clear n0_ n1_ n2_; (try clear hb); (try clear hb2); (try clear hk); (try clear hi)) | ((with_reducible refine gate_dst (N := 7) rfl ?_); refine box_event ?hg (N := 7) ?hd (cs := #[.int .i64 0, .string (⟨#[]⟩ : ByteArray), .int .i64 0]) (t := 32) ?hr ?_; (case hd => rfl); (case hg => rfl); (case hr => first | (go_simp; done) | (go_simp; rfl)); intro gb163 hg w13 hbox hb; have n0_ := Aside0.mk (Kd.R_below (Kd.R_elderB (by (with_reducible repeat (first | apply Kd.R_alloc | apply Kd.R_drewN | apply Kd.R_drew)); exact HO_6.out) gb163 (Nat.le_of_eq hg.symm)) hb); have n1_ := Aside0.mk (IsS60.below (by repeat (first | (with_reducible first | exact HI150.out | apply IsS60.alloc | apply IsS60.drewN | apply IsS60.drew | apply IsS60.set_0 | apply IsS60.set_1) | exact HI150.out)) hb); have n2_ := Aside0.mk (below_step (by repeat (first | (with_reducible first | exact HB.out | apply below_alloc | apply pw_below_drewN | apply below_drew1 | refine below_set ?_ (IsS60.ge HI150.out)) | exact HB.out)) hb); have n3_ := Aside0.mk (hbox); have n4_ := Aside0.mk ((by rw [hg]; exact (below_size (by repeat (first | (with_reducible first | exact HB.out | apply below_alloc | apply pw_below_drewN | apply below_drew1 | refine below_set ?_ (IsS60.ge HI150.out)) | exact HB.out))) : w.heap.size ≤ gb163)); have n5_ := Aside0.mk ((by rw [hg]; exact (below_size (by repeat (first | (with_reducible first | exact HB.out | apply below_alloc | apply pw_below_drewN | apply below_drew1 | refine below_set ?_ (IsS60.ge HI150.out)) | exact HB.out))) : w.heap.size ≤ gb163)); have n6_ := Aside0.mk ((by rw [hg]; exact Nat.ne_of_lt (IsS60.lt (show IsS60 w _ gb150 t161 t162 from by repeat (first | (with_reducible first | exact HI150.out | apply IsS60.alloc | apply IsS60.drewN | apply IsS60.drew | apply IsS60.set_0 | apply IsS60.set_1) | exact HI150.out))) : gb150 ≠ gb163)); have n7_ := Aside0.mk ((by rw [hg]; exact Nat.ne_of_gt (IsS60.lt (show IsS60 w _ gb150 t161 t162 from by repeat (first | (with_reducible first | exact HI150.out | apply IsS60.alloc | apply IsS60.drewN | apply IsS60.drew | apply IsS60.set_0 | apply IsS60.set_1) | exact HI150.out))) : gb163 ≠ gb150)); clear HO_6; clear HI150; clear HB; have HO_6 := n0_; have HI150 := n1_; have HB := n2_; have BK163 := n3_; have GW163 := n4_; have GE163 := n5_; have NB150_163 := n6_; have NB163_150 := n7_; clear n0_ n1_ n2_ n3_ n4_ n5_ n6_ n7_; clear hb hbox hg; have hnb14 := NB163_150.out; have hnc14 := NB150_163.out; have hcz15_0 : w13.cell? ⟨gb163, 0, none⟩ = some (.int .i64 0) := (blk_cell BK163.out 0).trans rfl; have hcz15_1 : w13.cell? ⟨gb163, 1, none⟩ = some (.string (⟨#[]⟩ : ByteArray)) := (blk_cell BK163.out 1).trans rfl; have hcz15_2 : w13.cell? ⟨gb163, 2, none⟩ = some (.int .i64 0) := (blk_cell BK163.out 2).trans rfl; have hfz15_0 := blk_frozen BK163.out 0; have hfz15_1 := blk_frozen BK163.out 1; have hfz15_2 := blk_frozen BK163.out 2) | ((with_reducible refine gate_builtin (b := .append) (xs := #[.tmp 37, .tmp 39]) rfl ?_); at_builtin; refine Kd.R_append k32 (w0 := w) w.heap.size rfl (.tmp 37) (.tmp 39) 23 32 (.agg #[(.int .i64 0), (.string ⟨#[]⟩), (.int .i64 0)]) 32 rfl Try.underlying23 info32 rfl (by decide) (by omega) u6 x6_1 (⟨t156, t157, t158⟩ : S32) [.int .i64 t156, .string t157, .int .i64 t158] (fun k_ => k_ ≠ gb163) (fun _ => False) rfl (by first | (go_simp; done) | (go_simp; rfl)) ?aP (fun _ hk => hk.elim) ?aF ?aO ?aB ?aS ?aL ?_; (case aP => exact k32_mkM _ _ _ (⟨t156, t157, t158⟩ : S32)); (case aB => exact (by repeat (first | (with_reducible first | exact HB.out | apply below_alloc | apply pw_below_drewN | apply below_drew1 | refine below_set ?_ (IsS60.ge HI150.out) | refine below_set ?_ GE163.out) | exact HB.out))); (case aF => exact (fun k_ hk => Kd.freshB (g := gb163) (o := .cells #[.int .i64 t156, .string t157, .int .i64 t158] 32 (0, 0)) (by (with_reducible repeat (first | refine blk_drewN ?_ _ | refine blk_drew ?_ | refine blk_alloc ?_ _)); refine blk_put (cs := #[.int .i64 t156, .string t157, .int .i64 0]) ?_ 2 _ rfl; (with_reducible repeat (first | refine blk_drewN ?_ _ | refine blk_drew ?_ | refine blk_alloc ?_ _)); refine blk_put (cs := #[.int .i64 t156, .string (⟨#[]⟩ : ByteArray), .int .i64 0]) ?_ 1 _ rfl; (with_reducible repeat (first | refine blk_drewN ?_ _ | refine blk_drew ?_ | refine blk_alloc ?_ _)); refine blk_put (cs := #[.int .i64 0, .string (⟨#[]⟩ : ByteArray), .int .i64 0]) ?_ 0 _ rfl; (with_reducible repeat (first | refine blk_drewN ?_ _ | refine blk_drew ?_ | refine blk_alloc ?_ _)); exact BK163.out) k_ hk)); (case aO => exact (by (with_reducible repeat (first | apply Kd.R_alloc | apply Kd.R_drewN | apply Kd.R_drew)); exact Kd.R_mono (Kd.R_far (p := ⟨gb163, 2, none⟩) (Kd.R_far (p := ⟨gb163, 1, none⟩) (Kd.R_far (p := ⟨gb163, 0, none⟩) (Kd.R_mono HO_6.out (fun k_ hk => (⟨hk, hk.2⟩ : _ ∧ k_ ≠ gb163))) (fun _ hk => hk.2) (.int .i64 t156)) (fun _ hk => hk.2) (.string t157)) (fun _ hk => hk.2) (.int .i64 t158)) (fun _ hk => hk.1.2))); (case aS => exact (below_size (by repeat (first | (with_reducible first | exact HB.out | apply below_alloc | apply pw_below_drewN | apply below_drew1 | refine below_set ?_ (IsS60.ge HI150.out) | refine below_set ?_ GE163.out) | exact HB.out)))); (case aL => have := LMc9.out; omega); intro v165 w16 ho hb hg hat; rw [← Ny164.out] at ho; have n0_ := Aside0.mk (IsS60.grown (show IsS60 w _ gb150 t161 t162 from by repeat (first | (with_reducible first | exact HI150.out | apply IsS60.alloc | apply IsS60.drewN | apply IsS60.drew | apply IsS60.set_0 | apply IsS60.set_1 | refine IsS60.far ?_ NB150_163.out _) | exact HI150.out)) hg (IsS60.own_ne HI150.out HO_6.out (by decide))); have n1_ := Aside0.mk (blk_grown (g := gb163) (o := .cells #[.int .i64 t156, .string t157, .int .i64 t158] 32 (0, 0)) (by (with_reducible repeat (first | refine blk_drewN ?_ _ | refine blk_drew ?_ | refine blk_alloc ?_ _)); refine blk_put (cs := #[.int .i64 t156, .string t157, .int .i64 0]) ?_ 2 _ rfl; (with_reducible repeat (first | refine blk_drewN ?_ _ | refine blk_drew ?_ | refine blk_alloc ?_ _)); refine blk_put (cs := #[.int .i64 t156, .string (⟨#[]⟩ : ByteArray), .int .i64 0]) ?_ 1 _ rfl; (with_reducible repeat (first | refine blk_drewN ?_ _ | refine blk_drew ?_ | refine blk_alloc ?_ _)); refine blk_put (cs := #[.int .i64 0, .string (⟨#[]⟩ : ByteArray), .int .i64 0]) ?_ 0 _ rfl; (with_reducible repeat (first | refine blk_drewN ?_ _ | refine blk_drew ?_ | refine blk_alloc ?_ _)); exact BK163.out) hg (Kd.R_away HO_6.out (fun _ hk => hk.2))); have n2_ := Aside0.mk (hb); have n3_ := Aside0.mk (ho); clear HI150; clear BK163; clear HB; clear HO_6; have HI150 := n0_; have BK163 := n1_; have HB := n2_; have HO166 := n3_; clear n0_ n1_ n2_ n3_; clear ho hb hg hat) | ((with_reducible refine gate_callee (f := 33) rfl ?_); refine goesL_ (some 26) rfl rfl Try.func33 (by kernel_rfl) rfl #[.pointer (some ⟨gb150, 0, none⟩)] rfl (by (try simp only [List.map_toArray, List.map_cons, List.map_nil]); first | done | rfl | (simp only [List.length_drop, List.length_take]; rfl)) ?_; (with_reducible refine (lex_scanner_blanks.calls k1 gb150 t161 t162 t167 t168 w _ ?side1 ?side2 A10.out).mono ?_); (case side1 => repeat (first | (with_reducible first | exact HI150.out | apply IsS60.alloc | apply IsS60.drewN | apply IsS60.drew | apply IsS60.set_0 | apply IsS60.set_1 | refine IsS60.far ?_ NB150_163.out _) | exact HI150.out)); (case side2 => repeat (first | (with_reducible first | exact HB.out | apply below_alloc | apply pw_below_drewN | apply below_drew1 | refine below_set ?_ (IsS60.ge HI150.out) | refine below_set ?_ GE163.out) | exact HB.out)); rintro e w17 ⟨rfl, hi, hb, hk⟩; refine ⟨_, rfl, ?_⟩; have n0_ := Aside0.mk (KeepBut.blk hk (g' := gb163) (o := .cells #[.int .i64 t156, .string t157, .int .i64 t158] 32 (0, 0)) (by (with_reducible repeat (first | refine blk_drewN ?_ _ | refine blk_drew ?_ | refine blk_alloc ?_ _)); exact BK163.out) NB163_150.out (by simp)); have n1_ := Aside0.mk (Kd.R_mono (Kd.R_keep (IsS60.apart (show IsS60 w _ gb150 t161 t162 from by repeat (first | (with_reducible first | exact HI150.out | apply IsS60.alloc | apply IsS60.drewN | apply IsS60.drew | apply IsS60.set_0 | apply IsS60.set_1 | refine IsS60.far ?_ NB150_163.out _) | exact HI150.out)) (by (with_reducible repeat (first | apply Kd.R_alloc | apply Kd.R_drewN | apply Kd.R_drew)); exact HO166.out) (by decide)) hk (fun _ h => h.2)) (fun _ h => h.1)); have n2_ := Aside0.mk (hb); have n3_ := Aside0.mk (hi); clear BK163; clear HO166; clear HB; clear HI150; have BK163 := n0_; have HO166 := n1_; have HB := n2_; have HI150 := n3_; clear n0_ n1_ n2_ n3_; (try clear hb); (try clear hb2); (try clear hk); (try clear hi)))
              go_roundg k1
              case measure => have := HK1.out; omega
              case rel => exact ⟨(y164), (t167), (t168), H', ⟨by have := HK1.out; omega⟩, ⟨by (with_reducible repeat (first | apply Kd.R_alloc | apply Kd.R_drewN | apply Kd.R_drew)); exact Kd.R_mono HO166.out (fun _ hk => trivial)⟩, ⟨by repeat (first | (with_reducible first | exact HI150.out | apply IsS60.alloc | apply IsS60.drewN | apply IsS60.drew | apply IsS60.set_0 | apply IsS60.set_1 | refine IsS60.far ?_ NB150_163.out _) | exact HI150.out)⟩, ⟨by repeat (first | (with_reducible first | exact HB.out | apply below_alloc | apply pw_below_drewN | apply below_drew1 | refine below_set ?_ (IsS60.ge HI150.out) | refine below_set ?_ GE163.out) | exact HB.out)⟩⟩
            · rw [if_neg c9] at H
              exact absurd H (by simp)
          · rw [if_neg c8] at H
            have c8b0 : (t160 == 0) = false := beq_eq_false_iff_ne.mpr c8
            have c8b1 : (t160 != 0) = true := bne_iff_ne.mpr c8
            simp only [Option.some.injEq, Prod.mk.injEq] at H
            obtain ⟨rfl, rfl, rfl⟩ := H
            obtain ⟨HGz18, hgz18⟩ := HI150.out
            have hcz18_0 := cellS60_0 HGz18
            have hcz18_1 := cellS60_1 HGz18
            have hfz18_0 := blk_frozen HGz18 0
            have hfz18_1 := blk_frozen HGz18 1
            clear HGz18 hgz18
            go_wp2_with (first | ((with_reducible refine gate_callee (f := 34) rfl ?_); refine goesL_ (some 29) rfl rfl Try.func34 (by kernel_rfl) rfl #[.pointer (some ⟨gb150, 0, none⟩)] rfl (by (try simp only [List.map_toArray, List.map_cons, List.map_nil]); first | done | rfl | (simp only [List.length_drop, List.length_take]; rfl)) ?_; (with_reducible refine (lex_scanner_next.calls k1 gb150 x151000_1 x151001_1 t156 t157 t158 t159 t160 t161 t162 w _ ?side1 ?side2 A7.out).mono ?_); (case side1 => repeat (first | (with_reducible first | exact HI150.out | apply IsS60.alloc | apply IsS60.drewN | apply IsS60.drew | apply IsS60.set_0 | apply IsS60.set_1) | exact HI150.out)); (case side2 => repeat (first | (with_reducible first | exact HB.out | apply below_alloc | apply pw_below_drewN | apply below_drew1 | refine below_set ?_ (IsS60.ge HI150.out)) | exact HB.out)); rintro e w19 ⟨rfl, hi, hb, hk⟩; refine ⟨_, rfl, ?_⟩; have n0_ := Aside0.mk (Kd.R_mono (Kd.R_keep (IsS60.apart (show IsS60 w _ gb150 x151000_1 x151001_1 from by repeat (first | (with_reducible first | exact HI150.out | apply IsS60.alloc | apply IsS60.drewN | apply IsS60.drew | apply IsS60.set_0 | apply IsS60.set_1) | exact HI150.out)) (by (with_reducible repeat (first | apply Kd.R_alloc | apply Kd.R_drewN | apply Kd.R_drew)); exact HO_6.out) (by decide)) hk (fun _ h => h.2)) (fun _ h => h.1)); have n1_ := Aside0.mk (hb); have n2_ := Aside0.mk (hi); clear HO_6; clear HB; clear HI150; have HO_6 := n0_; have HB := n1_; have HI150 := n2_; clear n0_ n1_ n2_; (try clear hb); (try clear hb2); (try clear hk); (try clear hi)) | ((with_reducible refine gate_dst (N := 7) rfl ?_); refine box_event ?hg (N := 7) ?hd (cs := #[.int .i64 0, .string (⟨#[]⟩ : ByteArray), .int .i64 0]) (t := 32) ?hr ?_; (case hd => rfl); (case hg => rfl); (case hr => first | (go_simp; done) | (go_simp; rfl)); intro gb163 hg w20 hbox hb; have n0_ := Aside0.mk (Kd.R_below (Kd.R_elderB (by (with_reducible repeat (first | apply Kd.R_alloc | apply Kd.R_drewN | apply Kd.R_drew)); exact HO_6.out) gb163 (Nat.le_of_eq hg.symm)) hb); have n1_ := Aside0.mk (IsS60.below (by repeat (first | (with_reducible first | exact HI150.out | apply IsS60.alloc | apply IsS60.drewN | apply IsS60.drew | apply IsS60.set_0 | apply IsS60.set_1) | exact HI150.out)) hb); have n2_ := Aside0.mk (below_step (by repeat (first | (with_reducible first | exact HB.out | apply below_alloc | apply pw_below_drewN | apply below_drew1 | refine below_set ?_ (IsS60.ge HI150.out)) | exact HB.out)) hb); have n3_ := Aside0.mk (hbox); have n4_ := Aside0.mk ((by rw [hg]; exact (below_size (by repeat (first | (with_reducible first | exact HB.out | apply below_alloc | apply pw_below_drewN | apply below_drew1 | refine below_set ?_ (IsS60.ge HI150.out)) | exact HB.out))) : w.heap.size ≤ gb163)); have n5_ := Aside0.mk ((by rw [hg]; exact (below_size (by repeat (first | (with_reducible first | exact HB.out | apply below_alloc | apply pw_below_drewN | apply below_drew1 | refine below_set ?_ (IsS60.ge HI150.out)) | exact HB.out))) : w.heap.size ≤ gb163)); have n6_ := Aside0.mk ((by rw [hg]; exact Nat.ne_of_lt (IsS60.lt (show IsS60 w _ gb150 t161 t162 from by repeat (first | (with_reducible first | exact HI150.out | apply IsS60.alloc | apply IsS60.drewN | apply IsS60.drew | apply IsS60.set_0 | apply IsS60.set_1) | exact HI150.out))) : gb150 ≠ gb163)); have n7_ := Aside0.mk ((by rw [hg]; exact Nat.ne_of_gt (IsS60.lt (show IsS60 w _ gb150 t161 t162 from by repeat (first | (with_reducible first | exact HI150.out | apply IsS60.alloc | apply IsS60.drewN | apply IsS60.drew | apply IsS60.set_0 | apply IsS60.set_1) | exact HI150.out))) : gb163 ≠ gb150)); clear HO_6; clear HI150; clear HB; have HO_6 := n0_; have HI150 := n1_; have HB := n2_; have BK163 := n3_; have GW163 := n4_; have GE163 := n5_; have NB150_163 := n6_; have NB163_150 := n7_; clear n0_ n1_ n2_ n3_ n4_ n5_ n6_ n7_; clear hb hbox hg; have hnb21 := NB163_150.out; have hnc21 := NB150_163.out; have hcz22_0 : w20.cell? ⟨gb163, 0, none⟩ = some (.int .i64 0) := (blk_cell BK163.out 0).trans rfl; have hcz22_1 : w20.cell? ⟨gb163, 1, none⟩ = some (.string (⟨#[]⟩ : ByteArray)) := (blk_cell BK163.out 1).trans rfl; have hcz22_2 : w20.cell? ⟨gb163, 2, none⟩ = some (.int .i64 0) := (blk_cell BK163.out 2).trans rfl; have hfz22_0 := blk_frozen BK163.out 0; have hfz22_1 := blk_frozen BK163.out 1; have hfz22_2 := blk_frozen BK163.out 2))
            go_ret3
            exact ⟨_, by first | rfl | (simp [errW_none, errW_some] <;> rfl) | (simp [*, errW_none, errW_some] <;> rfl), by first | exact Kd.R_nil _ _ _ _ _ | exact Kd.N_nil _ _ _ _ _ | exact Kd.V_nil _ _ _ _ _ | exact Kd.Q_nil _ _ _ _ _ | exact Kd.S_nil _ _ _ _ _, by repeat (first | (with_reducible first | exact HB.out | apply below_alloc | apply pw_below_drewN | apply below_drew1 | refine below_set ?_ (IsS60.ge HI150.out) | refine below_set ?_ GE163.out) | exact HB.out)⟩
        · rw [if_neg c6] at H
          have c6b0 : decide (x151001_1 < (a0.size : Int)) = false := decide_eq_false c6
          clear c6
          by_cases c23 : x6_1.length < 4398046511104
          · rw [if_pos c23] at H
            have LMc23 := Aside0.mk c23
            clear c23
            obtain ⟨y153, hy153⟩ : ∃ y_ : List (S32), y_ = (x6_1 ++ [(⟨6, (⟨#[]⟩ : ByteArray), (a0.size : Int)⟩ : S32)]) := ⟨_, rfl⟩
            replace H : (some (y153, (a0.size : Int), 0)) = some (r1, r2, r3) := by first | (rw [hy153]; with_reducible exact H) | (have H2_ := (Option.bind_some _ _).symm.trans H; rw [hy153]; with_reducible exact H2_) | (have H2_ := (Option.bind_some _ _).symm.trans H; with_reducible exact H2_) | with_reducible exact H | (rw [hy153]; exact H) | exact H
            have Ny153 := Aside0.mk hy153
            clear hy153
            simp only [Option.some.injEq, Prod.mk.injEq] at H
            obtain ⟨rfl, rfl, rfl⟩ := H
            obtain ⟨HGz24, hgz24⟩ := HI150.out
            have hcz24_0 := cellS60_0 HGz24
            have hcz24_1 := cellS60_1 HGz24
            have hfz24_0 := blk_frozen HGz24 0
            have hfz24_1 := blk_frozen HGz24 1
            clear HGz24 hgz24
            go_wp2_with (first | ((with_reducible refine gate_builtin (b := .append) (xs := #[.tmp 41, .tmp 45]) rfl ?_); at_builtin; refine Kd.R_append k32 (w0 := w) w.heap.size rfl (.tmp 41) (.tmp 45) 23 32 (.agg #[(.int .i64 0), (.string ⟨#[]⟩), (.int .i64 0)]) 32 rfl Try.underlying23 info32 rfl (by decide) (by omega) u6 x6_1 (⟨6, (⟨#[]⟩ : ByteArray), (a0.size : Int)⟩ : S32) [.int .i64 6, .string (⟨#[]⟩ : ByteArray), .int .i64 (a0.size : Int)] (fun _ => True) (fun _ => False) rfl rfl ?aP (fun _ hk => hk.elim) ?aF ?aO ?aB ?aS ?aL ?_; (case aP => exact k32_mkM _ _ _ (⟨6, (⟨#[]⟩ : ByteArray), (a0.size : Int)⟩ : S32)); (case aB => exact (by repeat (first | (with_reducible first | exact HB.out | apply below_alloc | apply pw_below_drewN | apply below_drew1 | refine below_set ?_ (IsS60.ge HI150.out)) | exact HB.out))); (case aF => exact (fun _ _ => trivial)); (case aO => exact (by (with_reducible repeat (first | apply Kd.R_alloc | apply Kd.R_drewN | apply Kd.R_drew)); exact HO_6.out)); (case aS => exact (below_size (by repeat (first | (with_reducible first | exact HB.out | apply below_alloc | apply pw_below_drewN | apply below_drew1 | refine below_set ?_ (IsS60.ge HI150.out)) | exact HB.out)))); (case aL => have := LMc23.out; omega); intro v154 w25 ho hb hg hat; rw [← Ny153.out] at ho; have n0_ := Aside0.mk (IsS60.grown (show IsS60 w _ gb150 x151000_1 x151001_1 from by repeat (first | (with_reducible first | exact HI150.out | apply IsS60.alloc | apply IsS60.drewN | apply IsS60.drew | apply IsS60.set_0 | apply IsS60.set_1) | exact HI150.out)) hg (IsS60.own_ne HI150.out HO_6.out (by decide))); have n1_ := Aside0.mk (hb); have n2_ := Aside0.mk (ho); clear HI150; clear HB; clear HO_6; have HI150 := n0_; have HB := n1_; have HO155 := n2_; clear n0_ n1_ n2_; clear ho hb hg hat))
            go_ret3
            exact ⟨_, by first | rfl | (simp [errW_none, errW_some] <;> rfl) | (simp [*, errW_none, errW_some] <;> rfl), by (with_reducible repeat (first | apply Kd.R_alloc | apply Kd.R_drewN | apply Kd.R_drew)); exact HO155.out, by repeat (first | (with_reducible first | exact HB.out | apply below_alloc | apply pw_below_drewN | apply below_drew1 | refine below_set ?_ (IsS60.ge HI150.out)) | exact HB.out)⟩
          · rw [if_neg c23] at H
            exact absurd H (by simp)

/-! ### haruspexlaw17_awake: function 19 -/
def haruspexlaw17_awake.f (k : Nat)  : Option (Bool) := (lex_All.f k (⟨#[97, 45, 62, 98]⟩ : ByteArray)).bind fun bt169 => (if bt169.2.2 = 0 then (if bt169.2.1 = 4 then (if (bt169.1.length : Int) = 4 then (if 1 < (bt169.1.length : Int) then (some (((rd_T32 bt169.1 1).f1).toList == ([45, 62] : List UInt8))) else (none)) else (some false)) else (some false)) else (some false))
theorem haruspexlaw17_awake.mono : ∀ k, LeO (haruspexlaw17_awake.f k ) (haruspexlaw17_awake.f (k + 1) ) := by
  intro  k
  unfold haruspexlaw17_awake.f
  repeat' first
      | (with_reducible exact lex_All.mono _ _)
      | (with_reducible exact LeO.refl _)
      | (with_reducible exact LeO.none _)
      | (with_reducible refine LeO.ite ?_ ?_)
      | (with_reducible refine LeO.bind ?_ (fun _ => ?_))
      | exact lex_All.mono _ _
      | exact LeO.none _
      | refine LeO.ite ?_ ?_
      | refine LeO.bind ?_ (fun _ => ?_)
set_option maxHeartbeats 8000000 in
set_option maxRecDepth 100000 in
theorem haruspexlaw17_awake.calls (k : Nat)  (r : Bool) (w : World) (h : haruspexlaw17_awake.f k  = some r) :
    Calls Try.prog 19 #[] w fun e w' => e = .returned (.bool r) ∧ Below w.heap.size w w' := by
  have HB := Aside0.mk (Below.refl w.heap.size w)
  have H : ((lex_All.f k (⟨#[97, 45, 62, 98]⟩ : ByteArray)).bind fun bt169 => (if bt169.2.2 = 0 then (if bt169.2.1 = 4 then (if (bt169.1.length : Int) = 4 then (if 1 < (bt169.1.length : Int) then (some (((rd_T32 bt169.1 1).f1).toList == ([45, 62] : List UInt8))) else (none)) else (some false)) else (some false)) else (some false))) = some r := h
  clear h
  replace H := Option.bind_eq_some_iff.mp H
  obtain ⟨⟨t169, t170, t171⟩, A10, H⟩ := H
  replace H : (if t171 = 0 then (if t170 = 4 then (if (t169.length : Int) = 4 then (if 1 < (t169.length : Int) then (some (((rd_T32 t169 1).f1).toList == ([45, 62] : List UInt8))) else (none)) else (some false)) else (some false)) else (some false)) = some r := H
  have A1 := Aside0.mk A10
  clear A10
  by_cases c2 : t171 = 0
  · rw [if_pos c2] at H
    have c2b0 : (t171 == 0) = true := beq_iff_eq.mpr c2
    have c2b1 : (t171 != 0) = false := bne_eq_false_iff_eq.mpr c2
    clear c2
    by_cases c3 : t170 = 4
    · rw [if_pos c3] at H
      have c3b0 : (t170 == 4) = true := beq_iff_eq.mpr c3
      have c3b1 : (t170 != 4) = false := bne_eq_false_iff_eq.mpr c3
      clear c3
      by_cases c4 : (t169.length : Int) = 4
      · rw [if_pos c4] at H
        have c4b0 : ((t169.length : Int) == 4) = true := beq_iff_eq.mpr c4
        have c4b1 : ((t169.length : Int) != 4) = false := bne_eq_false_iff_eq.mpr c4
        clear c4
        by_cases c5 : 1 < (t169.length : Int)
        · rw [if_pos c5] at H
          have c5b0 : decide (1 < (t169.length : Int)) = true := decide_eq_true c5
          have c5b1 : decide (1 < t169.length) = true := decide_eq_true (by omega)
          clear c5
          obtain rfl := Option.some.inj H
          go_enter Try.func19, Try.ntmps19
          go_wp2_with (first | ((with_reducible refine gate_callee (f := 17) rfl ?_); refine goesL_ (some 5) rfl rfl Try.func17 (by kernel_rfl) rfl #[.string (⟨#[97, 45, 62, 98]⟩ : ByteArray)] rfl (by (try simp only [List.map_toArray, List.map_cons, List.map_nil]); first | done | rfl | (simp only [List.length_drop, List.length_take]; rfl)) ?_; (with_reducible refine (lex_All.calls k (⟨#[97, 45, 62, 98]⟩ : ByteArray) t169 t170 t171 _ A1.out).mono ?_); rintro e w6 ⟨v172, rfl, ho0, hb⟩; refine ⟨_, rfl, ?_⟩; have n0_ := Aside0.mk (Kd.R_lower ho0 (below_size (by repeat (first | (with_reducible first | exact HB.out | apply below_alloc | apply pw_below_drewN | apply below_drew1) | exact HB.out)))); have n1_ := Aside0.mk (below_step (by repeat (first | (with_reducible first | exact HB.out | apply below_alloc | apply pw_below_drewN | apply below_drew1) | exact HB.out)) hb); clear HB; have HO173 := n0_; have HB := n1_; clear n0_ n1_; (try clear hb); (try clear hb2); (try clear hk); (try clear hi); (try clear ho0); obtain ⟨Ao7, co7, eo7⟩ := Kd.R_slice HO173.out; subst eo7; have p174 : 0 ≤ (1 : Int) := (by omega); have q174 : 1 < (t169.length : Int) := of_decide_eq_true (by first | (with_reducible assumption) | assumption); obtain ⟨ad174, e174, hx174_0, hx174_1, hx174_2⟩ := at_T32 (Kd.R_reads' HO173.out).2.2 1 p174 q174; cases e174; (try simp only [show (1 : Int).toNat = 1 from rfl, Nat.reduceMul, Nat.reduceEqDiff, Go.Addr.add, ↓reduceIte] at hx174_0); (try simp only [show (1 : Int).toNat = 1 from rfl, Nat.reduceMul, Nat.reduceEqDiff, Go.Addr.add, ↓reduceIte] at hx174_1); (try simp only [show (1 : Int).toNat = 1 from rfl, Nat.reduceMul, Nat.reduceEqDiff, Go.Addr.add, ↓reduceIte] at hx174_2); have qi174 : (1 < t169.length) = True := eq_true (by omega); (try rw [show ((1 : Int)).toNat = 1 from rfl] at hx174_0); (try rw [show 1 * 3 = 3 from rfl] at hx174_0); (try rw [show ((1 : Int)).toNat = 1 from rfl] at hx174_1); (try rw [show 1 * 3 = 3 from rfl] at hx174_1); (try rw [show ((1 : Int)).toNat = 1 from rfl] at hx174_2); (try rw [show 1 * 3 = 3 from rfl] at hx174_2); replace p174 := eq_true p174; replace q174 := eq_true q174))
          go_ret
          exact ⟨by first | rfl | (simp [errW_none, errW_some] <;> rfl) | (simp [*, errW_none, errW_some] <;> rfl), by repeat (first | (with_reducible first | exact HB.out | apply below_alloc | apply pw_below_drewN | apply below_drew1) | exact HB.out)⟩
        · rw [if_neg c5] at H
          exact absurd H (by simp)
      · rw [if_neg c4] at H
        have c4b0 : ((t169.length : Int) == 4) = false := beq_eq_false_iff_ne.mpr c4
        have c4b1 : ((t169.length : Int) != 4) = true := bne_iff_ne.mpr c4
        obtain rfl := Option.some.inj H
        go_enter Try.func19, Try.ntmps19
        go_wp2_with (first | ((with_reducible refine gate_callee (f := 17) rfl ?_); refine goesL_ (some 5) rfl rfl Try.func17 (by kernel_rfl) rfl #[.string (⟨#[97, 45, 62, 98]⟩ : ByteArray)] rfl (by (try simp only [List.map_toArray, List.map_cons, List.map_nil]); first | done | rfl | (simp only [List.length_drop, List.length_take]; rfl)) ?_; (with_reducible refine (lex_All.calls k (⟨#[97, 45, 62, 98]⟩ : ByteArray) t169 t170 t171 _ A1.out).mono ?_); rintro e w8 ⟨v172, rfl, ho0, hb⟩; refine ⟨_, rfl, ?_⟩; have n0_ := Aside0.mk (Kd.R_lower ho0 (below_size (by repeat (first | (with_reducible first | exact HB.out | apply below_alloc | apply pw_below_drewN | apply below_drew1) | exact HB.out)))); have n1_ := Aside0.mk (below_step (by repeat (first | (with_reducible first | exact HB.out | apply below_alloc | apply pw_below_drewN | apply below_drew1) | exact HB.out)) hb); clear HB; have HO173 := n0_; have HB := n1_; clear n0_ n1_; (try clear hb); (try clear hb2); (try clear hk); (try clear hi); (try clear ho0); obtain ⟨Ao9, co9, eo9⟩ := Kd.R_slice HO173.out; subst eo9))
        go_ret
        exact ⟨by first | rfl | (simp [errW_none, errW_some] <;> rfl) | (simp [*, errW_none, errW_some] <;> rfl), by repeat (first | (with_reducible first | exact HB.out | apply below_alloc | apply pw_below_drewN | apply below_drew1) | exact HB.out)⟩
    · rw [if_neg c3] at H
      have c3b0 : (t170 == 4) = false := beq_eq_false_iff_ne.mpr c3
      have c3b1 : (t170 != 4) = true := bne_iff_ne.mpr c3
      obtain rfl := Option.some.inj H
      go_enter Try.func19, Try.ntmps19
      go_wp2_with (first | ((with_reducible refine gate_callee (f := 17) rfl ?_); refine goesL_ (some 5) rfl rfl Try.func17 (by kernel_rfl) rfl #[.string (⟨#[97, 45, 62, 98]⟩ : ByteArray)] rfl (by (try simp only [List.map_toArray, List.map_cons, List.map_nil]); first | done | rfl | (simp only [List.length_drop, List.length_take]; rfl)) ?_; (with_reducible refine (lex_All.calls k (⟨#[97, 45, 62, 98]⟩ : ByteArray) t169 t170 t171 _ A1.out).mono ?_); rintro e w10 ⟨v172, rfl, ho0, hb⟩; refine ⟨_, rfl, ?_⟩; have n0_ := Aside0.mk (Kd.R_lower ho0 (below_size (by repeat (first | (with_reducible first | exact HB.out | apply below_alloc | apply pw_below_drewN | apply below_drew1) | exact HB.out)))); have n1_ := Aside0.mk (below_step (by repeat (first | (with_reducible first | exact HB.out | apply below_alloc | apply pw_below_drewN | apply below_drew1) | exact HB.out)) hb); clear HB; have HO173 := n0_; have HB := n1_; clear n0_ n1_; (try clear hb); (try clear hb2); (try clear hk); (try clear hi); (try clear ho0)))
      go_ret
      exact ⟨by first | rfl | (simp [errW_none, errW_some] <;> rfl) | (simp [*, errW_none, errW_some] <;> rfl), by repeat (first | (with_reducible first | exact HB.out | apply below_alloc | apply pw_below_drewN | apply below_drew1) | exact HB.out)⟩
  · rw [if_neg c2] at H
    have c2b0 : (t171 == 0) = false := beq_eq_false_iff_ne.mpr c2
    have c2b1 : (t171 != 0) = true := bne_iff_ne.mpr c2
    obtain rfl := Option.some.inj H
    go_enter Try.func19, Try.ntmps19
    go_wp2_with (first | ((with_reducible refine gate_callee (f := 17) rfl ?_); refine goesL_ (some 5) rfl rfl Try.func17 (by kernel_rfl) rfl #[.string (⟨#[97, 45, 62, 98]⟩ : ByteArray)] rfl (by (try simp only [List.map_toArray, List.map_cons, List.map_nil]); first | done | rfl | (simp only [List.length_drop, List.length_take]; rfl)) ?_; (with_reducible refine (lex_All.calls k (⟨#[97, 45, 62, 98]⟩ : ByteArray) t169 t170 t171 _ A1.out).mono ?_); rintro e w11 ⟨v172, rfl, ho0, hb⟩; refine ⟨_, rfl, ?_⟩; have n0_ := Aside0.mk (Kd.R_lower ho0 (below_size (by repeat (first | (with_reducible first | exact HB.out | apply below_alloc | apply pw_below_drewN | apply below_drew1) | exact HB.out)))); have n1_ := Aside0.mk (below_step (by repeat (first | (with_reducible first | exact HB.out | apply below_alloc | apply pw_below_drewN | apply below_drew1) | exact HB.out)) hb); clear HB; have HO173 := n0_; have HB := n1_; clear n0_ n1_; (try clear hb); (try clear hb2); (try clear hk); (try clear hi); (try clear ho0)))
    go_ret
    exact ⟨by first | rfl | (simp [errW_none, errW_some] <;> rfl) | (simp [*, errW_none, errW_some] <;> rfl), by repeat (first | (with_reducible first | exact HB.out | apply below_alloc | apply pw_below_drewN | apply below_drew1) | exact HB.out)⟩

-- NOT PRINTED: function 20 (lex_New)

/-! ### haruspexref17_blank: function 35 -/
def haruspexref17_blank.f (a0 : Int) : Option (Bool) := if a0 = 32 then (some true) else (if a0 = 9 then (some true) else (some (a0 == 10)))
set_option maxHeartbeats 8000000 in
set_option maxRecDepth 100000 in
theorem haruspexref17_blank.calls (a0 : Int) (r : Bool) (w : World) (h : haruspexref17_blank.f a0 = some r) :
    Calls Try.prog 35 #[.int .u8 a0] w fun e w' => e = .returned (.bool r) ∧ Drawn0 w w' := by
  have H : (if a0 = 32 then (some true) else (if a0 = 9 then (some true) else (some (a0 == 10)))) = some r := h
  clear h
  by_cases c2 : a0 = 32
  · rw [if_pos c2] at H
    have c2b0 : (a0 == 32) = true := beq_iff_eq.mpr c2
    have c2b1 : (a0 != 32) = false := bne_eq_false_iff_eq.mpr c2
    clear c2
    obtain rfl := Option.some.inj H
    go_enter Try.func35, Try.ntmps35
    go_wp2
    go_ret
    exact ⟨by first | rfl | (simp; done) | (simp [*]; done), by repeat (first | exact Drawn0.refl _ | apply Drawn0.step)⟩
  · rw [if_neg c2] at H
    have c2b0 : (a0 == 32) = false := beq_eq_false_iff_ne.mpr c2
    have c2b1 : (a0 != 32) = true := bne_iff_ne.mpr c2
    by_cases c3 : a0 = 9
    · rw [if_pos c3] at H
      have c3b0 : (a0 == 9) = true := beq_iff_eq.mpr c3
      have c3b1 : (a0 != 9) = false := bne_eq_false_iff_eq.mpr c3
      clear c3
      obtain rfl := Option.some.inj H
      go_enter Try.func35, Try.ntmps35
      go_wp2
      go_ret
      exact ⟨by first | rfl | (simp; done) | (simp [*]; done), by repeat (first | exact Drawn0.refl _ | apply Drawn0.step)⟩
    · rw [if_neg c3] at H
      have c3b0 : (a0 == 9) = false := beq_eq_false_iff_ne.mpr c3
      have c3b1 : (a0 != 9) = true := bne_iff_ne.mpr c3
      obtain rfl := Option.some.inj H
      go_enter Try.func35, Try.ntmps35
      go_wp2
      go_ret
      exact ⟨by first | rfl | (simp; done) | (simp [*]; done), by repeat (first | exact Drawn0.refl _ | apply Drawn0.step)⟩

end Go.Proofs.Ytkbngfelegcplaa.PAll
