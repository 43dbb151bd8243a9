/- A reader that nobody made: what its methods hand back, the reader being nil or of no tokens; and what the law LexZero comes to. No condition. -/
import Derived.Test.YtkbngfelegcplaaPAllx8
set_option linter.unusedVariables false
set_option linter.unusedSimpArgs false
namespace Go.Proofs.Ytkbngfelegcplaa.PAll
open Go.RowKit Go.Proofs.YtkbngfelegcplaaW.PrintWords Go.Proofs.YtkbngfelegcplaaW.PrintLast Go.Proofs.YtkbngfelegcplaaW.PrintMore
attribute [local go_sem] max2_int min2_int max_two min_two max_three min_three max_four min_four
namespace Zero

/-- a reader of no tokens: nil, or one of zeros -/
def Em (W : World) (p : Value) : Prop := p = .pointer none ∨ ∃ g, p = .pointer (some ⟨g, 0, none⟩) ∧ W.heap[g]? = some (.cells #[.slice none 0 0, .int .i64 0] 25 (0, 0))
theorem Em.below {W W1 : World} {p : Value} (h : Em W p) (hb : Below W.heap.size W W1) : Em W1 p := by
  rcases h with rfl | ⟨g, rfl, hg⟩
  · exact .inl rfl
  · exact .inr ⟨g, rfl, blk_below hg hb⟩
theorem fld0 (a b c : Value) : ∀ W, (Instr.field 32 (.agg #[a, b, c]) 0).run Try.prog W = .ok a W := fun W => by show _ = _; kernel_rfl
theorem fld2 (a b c : Value) : ∀ W, (Instr.field 32 (.agg #[a, b, c]) 2).run Try.prog W = .ok c W := fun W => by show _ = _; kernel_rfl
theorem none_em (p : Value) (w : World) (h : Em w p) : Calls Try.prog 31 #[p] w fun e w' => e = .returned (.bool true) ∧ Below w.heap.size w w' := by
  rcases h with rfl | ⟨g, rfl, hg⟩
  · go_enter Try.func31, Try.ntmps31
    go_wp2
    go_ret
    exact ⟨rfl, Below.refl _ _⟩
  · have c0 := blk_cell hg 0
    go_enter Try.func31, Try.ntmps31
    go_wp2
    go_ret
    exact ⟨rfl, Below.refl _ _⟩
set_option maxHeartbeats 4000000 in
set_option maxRecDepth 100000 in
theorem peek_em (p : Value) (w : World) (h : Em w p) : Calls Try.prog 11 #[p] w fun e w' => e = .returned (.agg #[.int .i64 6, .string ⟨#[]⟩, .int .i64 0]) ∧ Below w.heap.size w w' := by
  have HE := Aside0.mk h
  clear h
  go_enter Try.func11, Try.ntmps11
  go_upto_region 1 with (fail)
  have HR := Aside0.mk (heap_alloc_new w (Obj.cells #[Value.int IntKind.i64 0, Value.string { data := #[] }, Value.int IntKind.i64 0] 32))
  have HB : Aside0 (Below w.heap.size w (w.alloc (Obj.cells #[Value.int IntKind.i64 0, Value.string { data := #[] }, Value.int IntKind.i64 0] 32))) := ⟨below_alloc (Below.refl _ _) _⟩
  obtain ⟨b, hb⟩ : ∃ b, b = w.heap.size := ⟨_, rfl⟩
  have HL : Aside0 (w.heap.size ≤ b) := ⟨by omega⟩
  rw [← hb] at HR ⊢
  clear hb
  generalize (w.alloc (Obj.cells #[Value.int IntKind.i64 0, Value.string { data := #[] }, Value.int IntKind.i64 0] 32)) = W at HR HB ⊢
  go_wp2_with (first | (go_at_call 31; refine (none_em p W (HE.out.below HB.out)).mono ?_; rintro e w1 ⟨rfl, hb1⟩; have n1_ := Aside0.mk (blk_below HR.out hb1); have n2_ := Aside0.mk (HB.out.trans (hb1.mono HB.out.size)); clear HB hb1 HR; have HR := n1_; have HB := n2_; clear n2_ n1_; have e0 := blk_cell HR.out 0; have e1 := blk_cell HR.out 1; have e2 := blk_cell HR.out 2; have ef0 := blk_frozen HR.out 0; have ef1 := blk_frozen HR.out 1; have ef2 := blk_frozen HR.out 2))
  (try simp only [Exit.inBlock, Exit.then])
  refine bodyPost_ret (results_single rfl (.cell b 32 #[.int .i64 6, .string ⟨#[]⟩, .int .i64 0] (0, 0) _ rfl (by
    refine blk_put (cs := #[.int .i64 6, .string ⟨#[]⟩, .int .i64 0]) ?_ 2 _ rfl
    refine blk_put (cs := #[.int .i64 6, .string ⟨#[]⟩, .int .i64 0]) ?_ 1 _ rfl
    refine blk_put (cs := #[.int .i64 0, .string ⟨#[]⟩, .int .i64 0]) ?_ 0 _ rfl
    exact HR.out) Try.underlying32 rfl (by kernel_rfl) .nil)) rfl ?_
  exact ⟨rfl, below_set (below_set (below_set HB.out HL.out) HL.out) HL.out⟩
set_option maxHeartbeats 4000000 in
set_option maxRecDepth 100000 in
theorem next_em (p : Value) (w : World) (h : Em w p) : Calls Try.prog 12 #[p] w fun e w' => e = .returned (.agg #[.int .i64 6, .string ⟨#[]⟩, .int .i64 0]) ∧ Below w.heap.size w w' := by
  have HE := Aside0.mk h
  clear h
  go_enter Try.func12, Try.ntmps12
  go_upto_region 1 with (fail)
  have HR := Aside0.mk (heap_alloc_new w (Obj.cells #[Value.int IntKind.i64 0, Value.string { data := #[] }, Value.int IntKind.i64 0] 32))
  have HB : Aside0 (Below w.heap.size w (w.alloc (Obj.cells #[Value.int IntKind.i64 0, Value.string { data := #[] }, Value.int IntKind.i64 0] 32))) := ⟨below_alloc (Below.refl _ _) _⟩
  obtain ⟨b, hb⟩ : ∃ b, b = w.heap.size := ⟨_, rfl⟩
  have HL : Aside0 (w.heap.size ≤ b) := ⟨by omega⟩
  rw [← hb] at HR ⊢
  clear hb
  generalize (w.alloc (Obj.cells #[Value.int IntKind.i64 0, Value.string { data := #[] }, Value.int IntKind.i64 0] 32)) = W at HR HB ⊢
  go_upto_region 2 with (first | (go_at_call 11; refine (peek_em p W (HE.out.below HB.out)).mono ?_; rintro e w1 ⟨rfl, hb1⟩; have n1_ := Aside0.mk (blk_below HR.out hb1); have n2_ := Aside0.mk (HB.out.trans (hb1.mono HB.out.size)); clear HB hb1 HR; have HR := n1_; have HB := n2_; clear n2_ n1_))
  obtain ⟨b3, hb3⟩ : ∃ b3, b3 = w1.heap.size := ⟨_, rfl⟩
  have HL3 : Aside0 (w.heap.size ≤ b3) := ⟨by have := HB.out.size; omega⟩
  have n1_ := Aside0.mk (below_alloc HB.out (Obj.cells #[Value.int IntKind.i64 6, Value.string { data := #[] }, Value.int IntKind.i64 0] 32))
  have n2_ := Aside0.mk (heap_alloc_new w1 (Obj.cells #[Value.int IntKind.i64 6, Value.string { data := #[] }, Value.int IntKind.i64 0] 32))
  have n3_ := Aside0.mk (blk_alloc HR.out (Obj.cells #[Value.int IntKind.i64 6, Value.string { data := #[] }, Value.int IntKind.i64 0] 32))
  rw [← hb3] at n2_ ⊢
  clear HB hb3 HR
  generalize (w1.alloc (Obj.cells #[Value.int IntKind.i64 6, Value.string { data := #[] }, Value.int IntKind.i64 0] 32)) = w2 at n1_ n2_ n3_ ⊢
  have HB := n1_
  have HT := n2_
  have HR := n3_
  clear n1_ n2_ n3_
  have e0 := blk_cell HR.out 0
  have e1 := blk_cell HR.out 1
  have e2 := blk_cell HR.out 2
  have ef0 := blk_frozen HR.out 0
  have ef1 := blk_frozen HR.out 1
  have ef2 := blk_frozen HR.out 2
  have k0 := blk_cell HT.out 0
  have k1 := blk_cell HT.out 1
  have k2 := blk_cell HT.out 2
  have kf0 := blk_frozen HT.out 0
  have kf1 := blk_frozen HT.out 1
  have kf2 := blk_frozen HT.out 2
  go_wp2
  (try simp only [Exit.inBlock, Exit.then])
  refine bodyPost_ret (results_single rfl (.cell b 32 #[.int .i64 6, .string ⟨#[]⟩, .int .i64 0] (0, 0) _ rfl (by
    refine blk_put (cs := #[.int .i64 6, .string ⟨#[]⟩, .int .i64 0]) ?_ 2 _ rfl
    refine blk_put (cs := #[.int .i64 6, .string ⟨#[]⟩, .int .i64 0]) ?_ 1 _ rfl
    refine blk_put (cs := #[.int .i64 0, .string ⟨#[]⟩, .int .i64 0]) ?_ 0 _ rfl
    exact HR.out) Try.underlying32 rfl (by kernel_rfl) .nil)) rfl ?_
  exact ⟨rfl, below_set (below_set (below_set HB.out HL.out) HL.out) HL.out⟩
set_option maxHeartbeats 4000000 in
set_option maxRecDepth 100000 in
theorem take_em (p : Value) (k : Int) (s : ByteArray) (hk : k ≠ 6) (w : World) (h : Em w p) : Calls Try.prog 32 #[p, .int .i64 k, .string s] w fun e w' => e = .returned (.bool false) ∧ Below w.heap.size w w' := by
  have hkb : (6 == k) = false := beq_eq_false_iff_ne.mpr (Ne.symm hk)
  have hkb2 : ((6 : Int) != k) = true := bne_iff_ne.mpr (Ne.symm hk)
  have HE := Aside0.mk h
  clear h
  go_enter Try.func32, Try.ntmps32
  have HB : Aside0 (Below w.heap.size w w) := ⟨Below.refl _ _⟩
  go_upto_region 2 with (first | (go_at_call 11; refine (peek_em p w (HE.out.below HB.out)).mono ?_; rintro e w1 ⟨rfl, hb1⟩; have n2_ := Aside0.mk (HB.out.trans (hb1.mono HB.out.size)); clear HB hb1; have HB := n2_; clear n2_))
  obtain ⟨b3, hb3⟩ : ∃ b3, b3 = w1.heap.size := ⟨_, rfl⟩
  have HL3 : Aside0 (w.heap.size ≤ b3) := ⟨by have := HB.out.size; omega⟩
  have n1_ := Aside0.mk (below_alloc HB.out (Obj.cells #[Value.int IntKind.i64 6, Value.string { data := #[] }, Value.int IntKind.i64 0] 32))
  have n2_ := Aside0.mk (heap_alloc_new w1 (Obj.cells #[Value.int IntKind.i64 6, Value.string { data := #[] }, Value.int IntKind.i64 0] 32))
  rw [← hb3] at n2_ ⊢
  clear HB hb3
  generalize (w1.alloc (Obj.cells #[Value.int IntKind.i64 6, Value.string { data := #[] }, Value.int IntKind.i64 0] 32)) = w2 at n1_ n2_ ⊢
  have HB := n1_
  have HT := n2_
  clear n1_ n2_
  have k0 := blk_cell HT.out 0
  have k1 := blk_cell HT.out 1
  have k2 := blk_cell HT.out 2
  have kf0 := blk_frozen HT.out 0
  have kf1 := blk_frozen HT.out 1
  have kf2 := blk_frozen HT.out 2
  go_wp2
  go_ret
  exact ⟨rfl, HB.out⟩
set_option maxHeartbeats 4000000 in
set_option maxRecDepth 100000 in
theorem sign_em (p : Value) (s : ByteArray) (w : World) (h : Em w p) : Calls Try.prog 13 #[p, .string s] w fun e w' => e = .returned (.bool false) ∧ Below w.heap.size w w' := by
  have HE := Aside0.mk h
  clear h
  go_enter Try.func13, Try.ntmps13
  go_wp2_with (first | (go_at_call 32; refine (take_em p 5 s (by decide) w HE.out).mono ?_; rintro e w1 ⟨rfl, hb1⟩))
  go_ret
  exact ⟨rfl, hb1⟩
set_option maxHeartbeats 4000000 in
set_option maxRecDepth 100000 in
theorem word_em (p : Value) (s : ByteArray) (w : World) (h : Em w p) : Calls Try.prog 14 #[p, .string s] w fun e w' => e = .returned (.bool false) ∧ Below w.heap.size w w' := by
  have HE := Aside0.mk h
  clear h
  go_enter Try.func14, Try.ntmps14
  go_wp2_with (first | (go_at_call 32; refine (take_em p 1 s (by decide) w HE.out).mono ?_; rintro e w1 ⟨rfl, hb1⟩))
  go_ret
  exact ⟨rfl, hb1⟩
set_option maxHeartbeats 4000000 in
set_option maxRecDepth 100000 in
theorem name_em (p : Value) (w : World) (h : Em w p) : Calls Try.prog 8 #[p] w fun e w' => e = .returned (.tuple #[.string ⟨#[]⟩, .bool false]) ∧ Below w.heap.size w w' := by
  have HE := Aside0.mk h
  clear h
  go_enter Try.func8, Try.ntmps8
  have HB : Aside0 (Below w.heap.size w w) := ⟨Below.refl _ _⟩
  go_upto_region 2 with (first | (go_at_call 11; refine (peek_em p w (HE.out.below HB.out)).mono ?_; rintro e w1 ⟨rfl, hb1⟩; have n2_ := Aside0.mk (HB.out.trans (hb1.mono HB.out.size)); clear HB hb1; have HB := n2_; clear n2_))
  obtain ⟨b3, hb3⟩ : ∃ b3, b3 = w1.heap.size := ⟨_, rfl⟩
  have HL3 : Aside0 (w.heap.size ≤ b3) := ⟨by have := HB.out.size; omega⟩
  have n1_ := Aside0.mk (below_alloc HB.out (Obj.cells #[Value.int IntKind.i64 6, Value.string { data := #[] }, Value.int IntKind.i64 0] 32))
  have n2_ := Aside0.mk (heap_alloc_new w1 (Obj.cells #[Value.int IntKind.i64 6, Value.string { data := #[] }, Value.int IntKind.i64 0] 32))
  rw [← hb3] at n2_ ⊢
  clear HB hb3
  generalize (w1.alloc (Obj.cells #[Value.int IntKind.i64 6, Value.string { data := #[] }, Value.int IntKind.i64 0] 32)) = w2 at n1_ n2_ ⊢
  have HB := n1_
  have HT := n2_
  clear n1_ n2_
  have k0 := blk_cell HT.out 0
  have k1 := blk_cell HT.out 1
  have k2 := blk_cell HT.out 2
  have kf0 := blk_frozen HT.out 0
  have kf1 := blk_frozen HT.out 1
  have kf2 := blk_frozen HT.out 2
  go_wp2
  go_ret2
  exact ⟨rfl, HB.out⟩
set_option maxHeartbeats 4000000 in
set_option maxRecDepth 100000 in
theorem int_em (p : Value) (n : Int) (w : World) (h : Em w p) : Calls Try.prog 9 #[p, .int .i64 n] w fun e w' => e = .returned (.tuple #[.int .i64 0, .bool false]) ∧ Below w.heap.size w w' := by
  have HE := Aside0.mk h
  clear h
  go_enter Try.func9, Try.ntmps9
  have HB : Aside0 (Below w.heap.size w w) := ⟨Below.refl _ _⟩
  go_upto_region 2 with (first | (go_at_call 11; refine (peek_em p w (HE.out.below HB.out)).mono ?_; rintro e w1 ⟨rfl, hb1⟩; have n2_ := Aside0.mk (HB.out.trans (hb1.mono HB.out.size)); clear HB hb1; have HB := n2_; clear n2_))
  obtain ⟨b3, hb3⟩ : ∃ b3, b3 = w1.heap.size := ⟨_, rfl⟩
  have HL3 : Aside0 (w.heap.size ≤ b3) := ⟨by have := HB.out.size; omega⟩
  have n1_ := Aside0.mk (below_alloc HB.out (Obj.cells #[Value.int IntKind.i64 6, Value.string { data := #[] }, Value.int IntKind.i64 0] 32))
  have n2_ := Aside0.mk (heap_alloc_new w1 (Obj.cells #[Value.int IntKind.i64 6, Value.string { data := #[] }, Value.int IntKind.i64 0] 32))
  rw [← hb3] at n2_ ⊢
  clear HB hb3
  generalize (w1.alloc (Obj.cells #[Value.int IntKind.i64 6, Value.string { data := #[] }, Value.int IntKind.i64 0] 32)) = w2 at n1_ n2_ ⊢
  have HB := n1_
  have HT := n2_
  clear n1_ n2_
  have k0 := blk_cell HT.out 0
  have k1 := blk_cell HT.out 1
  have k2 := blk_cell HT.out 2
  have kf0 := blk_frozen HT.out 0
  have kf1 := blk_frozen HT.out 1
  have kf2 := blk_frozen HT.out 2
  go_wp2
  go_ret2
  exact ⟨rfl, HB.out⟩
set_option maxHeartbeats 4000000 in
set_option maxRecDepth 100000 in
theorem back_em (p : Value) (n : Int) (w : World) (h : Em w p) : Calls Try.prog 10 #[p, .int .i64 n] w fun e w' => e = .returned (.tuple #[]) ∧ Below w.heap.size w w' := by
  have HE := Aside0.mk h
  clear h
  go_enter Try.func10, Try.ntmps10
  go_wp2_with (first | (go_at_call 31; refine (none_em p w HE.out).mono ?_; rintro e w1 ⟨rfl, hb1⟩))
  go_end0
  exact ⟨rfl, hb1⟩
set_option maxHeartbeats 4000000 in
set_option maxRecDepth 100000 in
theorem mark_em (p : Value) (w : World) (h : Em w p) : Calls Try.prog 16 #[p] w fun e w' => e = .returned (.int .i64 0) ∧ Below w.heap.size w w' := by
  have HE := Aside0.mk h
  clear h
  go_enter Try.func16, Try.ntmps16
  go_wp2_with (first | (go_at_call 31; refine (none_em p w HE.out).mono ?_; rintro e w1 ⟨rfl, hb1⟩))
  go_ret
  exact ⟨rfl, hb1⟩
set_option maxHeartbeats 4000000 in
set_option maxRecDepth 100000 in
theorem at_em (p : Value) (w : World) (h : Em w p) : Calls Try.prog 15 #[p] w fun e w' => e = .returned (.int .i64 0) ∧ Below w.heap.size w w' := by
  have HE := Aside0.mk h
  clear h
  go_enter Try.func15, Try.ntmps15
  have hf := fld2 (.int .i64 6) (.string ⟨#[]⟩) (.int .i64 0)
  go_wp2_with (first | (go_at_call 11; refine (peek_em p w HE.out).mono ?_; rintro e w1 ⟨rfl, hb1⟩))
  go_ret
  exact ⟨rfl, hb1⟩
set_option maxHeartbeats 4000000 in
set_option maxRecDepth 100000 in
theorem calls (s : ByteArray) (n : Int) (w : World) : Calls Try.prog 3 #[.string s, .int .i64 n] w fun e w' => e = .returned (.bool true) ∧ Below w.heap.size w w' := by
  go_enter Try.func3, Try.ntmps3
  go_upto_region 3 with (fail)
  have HB : Aside0 (Below w.heap.size w (w.alloc (Obj.cells #[.slice none 0 0, .int .i64 0] 25))) := ⟨below_alloc (Below.refl _ _) _⟩
  have HV : Aside0 (Em (w.alloc (Obj.cells #[.slice none 0 0, .int .i64 0] 25)) (.pointer (some ⟨w.heap.size, 0, none⟩))) := ⟨.inr ⟨_, rfl, heap_alloc_new w _⟩⟩
  generalize (w.alloc (Obj.cells #[.slice none 0 0, .int .i64 0] 25)) = W at HB HV ⊢
  have hf := fld0 (.int .i64 6) (.string ⟨#[]⟩) (.int .i64 0)
  have HN : ∀ W, Em W (.pointer none) := fun W => .inl rfl
  go_wp2_with (first | (go_at_call 8; (with_reducible refine (name_em (.pointer none)  _ (HN _)).mono ?_); rintro e w1 ⟨rfl, hb1⟩; have n1_ := Aside0.mk (HB.out.trans (hb1.mono HB.out.size)); have n2_ := Aside0.mk (HV.out.below hb1); clear HB HV hb1; have HB := n1_; have HV := n2_; clear n1_ n2_) | (go_at_call 9; (with_reducible refine (int_em (.pointer (some ⟨w.heap.size, 0, none⟩)) n _ HV.out).mono ?_); rintro e w1 ⟨rfl, hb1⟩; have n1_ := Aside0.mk (HB.out.trans (hb1.mono HB.out.size)); have n2_ := Aside0.mk (HV.out.below hb1); clear HB HV hb1; have HB := n1_; have HV := n2_; clear n1_ n2_) | (go_at_call 10; (with_reducible refine (back_em (.pointer none) n _ (HN _)).mono ?_); rintro e w1 ⟨rfl, hb1⟩; have n1_ := Aside0.mk (HB.out.trans (hb1.mono HB.out.size)); have n2_ := Aside0.mk (HV.out.below hb1); clear HB HV hb1; have HB := n1_; have HV := n2_; clear n1_ n2_) | (go_at_call 10; (with_reducible refine (back_em (.pointer (some ⟨w.heap.size, 0, none⟩)) n _ HV.out).mono ?_); rintro e w1 ⟨rfl, hb1⟩; have n1_ := Aside0.mk (HB.out.trans (hb1.mono HB.out.size)); have n2_ := Aside0.mk (HV.out.below hb1); clear HB HV hb1; have HB := n1_; have HV := n2_; clear n1_ n2_) | (go_at_call 11; (with_reducible refine (peek_em (.pointer none)  _ (HN _)).mono ?_); rintro e w1 ⟨rfl, hb1⟩; have n1_ := Aside0.mk (HB.out.trans (hb1.mono HB.out.size)); have n2_ := Aside0.mk (HV.out.below hb1); clear HB HV hb1; have HB := n1_; have HV := n2_; clear n1_ n2_) | (go_at_call 12; (with_reducible refine (next_em (.pointer (some ⟨w.heap.size, 0, none⟩))  _ HV.out).mono ?_); rintro e w1 ⟨rfl, hb1⟩; have n1_ := Aside0.mk (HB.out.trans (hb1.mono HB.out.size)); have n2_ := Aside0.mk (HV.out.below hb1); clear HB HV hb1; have HB := n1_; have HV := n2_; clear n1_ n2_) | (go_at_call 13; (with_reducible refine (sign_em (.pointer none) s _ (HN _)).mono ?_); rintro e w1 ⟨rfl, hb1⟩; have n1_ := Aside0.mk (HB.out.trans (hb1.mono HB.out.size)); have n2_ := Aside0.mk (HV.out.below hb1); clear HB HV hb1; have HB := n1_; have HV := n2_; clear n1_ n2_) | (go_at_call 14; (with_reducible refine (word_em (.pointer (some ⟨w.heap.size, 0, none⟩)) s _ HV.out).mono ?_); rintro e w1 ⟨rfl, hb1⟩; have n1_ := Aside0.mk (HB.out.trans (hb1.mono HB.out.size)); have n2_ := Aside0.mk (HV.out.below hb1); clear HB HV hb1; have HB := n1_; have HV := n2_; clear n1_ n2_) | (go_at_call 15; (with_reducible refine (at_em (.pointer none)  _ (HN _)).mono ?_); rintro e w1 ⟨rfl, hb1⟩; have n1_ := Aside0.mk (HB.out.trans (hb1.mono HB.out.size)); have n2_ := Aside0.mk (HV.out.below hb1); clear HB HV hb1; have HB := n1_; have HV := n2_; clear n1_ n2_) | (go_at_call 16; (with_reducible refine (mark_em (.pointer (some ⟨w.heap.size, 0, none⟩))  _ HV.out).mono ?_); rintro e w1 ⟨rfl, hb1⟩; have n1_ := Aside0.mk (HB.out.trans (hb1.mono HB.out.size)); have n2_ := Aside0.mk (HV.out.below hb1); clear HB HV hb1; have HB := n1_; have HV := n2_; clear n1_ n2_))
  go_ret
  exact ⟨rfl, HB.out⟩
end Zero
end Go.Proofs.Ytkbngfelegcplaa.PAll
