/- The document's reader of tokens: what each of its methods hands back and how it leaves the reader. No condition. -/
import Derived.Test.YtkbngfelegcplaaLexReader
import Derived.Test.YtkbngfelegcplaaPAllx11
set_option linter.unusedVariables false
set_option linter.unusedSimpArgs false
namespace Go.Proofs.Ytkbngfelegcplaa.PAll
open Go.RowKit Go.Proofs.YtkbngfelegcplaaW.PrintWords Go.Proofs.YtkbngfelegcplaaW.PrintLast Go.Proofs.YtkbngfelegcplaaW.PrintMore
attribute [local go_sem] max2_int min2_int max_two min_two max_three min_three max_four min_four
namespace Reader
set_option maxHeartbeats 8000000 in
set_option maxRecDepth 100000 in
theorem peek_rf {w0 : World} {g : Nat} {A : Addr} {c : Nat} {l : List S32} {i : Nat} (w : World) (h : Rd 53 w0 w g A c l i) : Calls Try.prog 28 #[.pointer (some ⟨g, 0, none⟩)] w fun e w' => e = .returned (.agg #[.int .i64 (now l i).f0, .string (now l i).f1, .int .i64 (now l i).f2]) ∧ Below w.heap.size w w' := by
  have HE := Aside0.mk h
  clear h
  go_enter Try.func28, Try.ntmps28
  go_upto_region 1 with (fail)
  have HR := Aside0.mk (heap_alloc_new w (Obj.cells #[Value.int IntKind.i64 0, Value.string { data := #[] }, Value.int IntKind.i64 0] 32))
  have HB : Aside0 (Below w.heap.size w (w.alloc (Obj.cells #[Value.int IntKind.i64 0, Value.string { data := #[] }, Value.int IntKind.i64 0] 32))) := ⟨below_alloc (Below.refl _ _) _⟩
  obtain ⟨b, hb⟩ : ∃ b, b = w.heap.size := ⟨_, rfl⟩
  have HL : Aside0 (w.heap.size ≤ b) := ⟨by omega⟩
  rw [← hb] at HR ⊢
  clear hb
  generalize (w.alloc (Obj.cells #[Value.int IntKind.i64 0, Value.string { data := #[] }, Value.int IntKind.i64 0] 32)) = w1 at HR HB ⊢
  have HD := Aside0.mk (HE.out.below HB.out)
  obtain ⟨c0, c1, f1⟩ := HD.out.cells
  have hl := HD.out.fit
  have hfew := HD.out.few
  obtain ⟨ad, ea, x0, x1, x2⟩ := at_T32 HD.out.row (i : Int) (by omega) (by omega)
  obtain rfl : A = ad := by injection ea
  simp only [Int.toNat_natCast] at x0 x1 x2
  have hAb : A.block ≠ b := by
    have h1 := Kd.C_lt HE.out.row (by omega) (by decide)
    have := HL.out
    omega
  have e0 := blk_cell HR.out 0
  have e1 := blk_cell HR.out 1
  have e2 := blk_cell HR.out 2
  have ef0 := blk_frozen HR.out 0
  have ef1 := blk_frozen HR.out 1
  have ef2 := blk_frozen HR.out 2
  have hsub : wrap64 ((l.length : Int) - 1) = (l.length : Int) - 1 := by unfold wrap64; omega
  have hmin : mn (i : Int) ((l.length : Int) - 1) = (i : Int) := by unfold mn; omega
  go_big_region
  go_wp2
  (try simp only [Exit.inBlock, Exit.then])
  refine bodyPost_ret (results_single rfl (.cell b 32 #[.int .i64 (now l i).f0, .string (now l i).f1, .int .i64 (now l i).f2] (0, 0) _ rfl (by
    refine blk_drew ?_
    refine blk_put (cs := #[.int .i64 (now l i).f0, .string (now l i).f1, .int .i64 0]) ?_ 2 _ rfl
    refine blk_put (cs := #[.int .i64 (now l i).f0, .string ⟨#[]⟩, .int .i64 0]) ?_ 1 _ rfl
    refine blk_put (cs := #[.int .i64 0, .string ⟨#[]⟩, .int .i64 0]) ?_ 0 _ rfl
    exact HR.out) Try.underlying32 rfl (by kernel_rfl) .nil)) rfl ?_
  exact ⟨rfl, below_drew1 (below_set (below_set (below_set HB.out HL.out) HL.out) HL.out)⟩
set_option maxHeartbeats 8000000 in
set_option maxRecDepth 100000 in
theorem next_rf {w0 : World} {g : Nat} {A : Addr} {c : Nat} {l : List S32} {i : Nat} (w : World) (h : Rd 53 w0 w g A c l i) : Calls Try.prog 22 #[.pointer (some ⟨g, 0, none⟩)] w fun e w' => e = .returned (.agg #[.int .i64 (now l i).f0, .string (now l i).f1, .int .i64 (now l i).f2]) ∧ Rd 53 w0 w' g A c l (nx l i) ∧ KeepBut w w' g none := by
  have HE := Aside0.mk h
  have HF := Aside0.mk h.nx_fit
  clear h
  go_enter Try.func22, Try.ntmps22
  go_upto_region 1 with (fail)
  have HR := Aside0.mk (heap_alloc_new w (Obj.cells #[Value.int IntKind.i64 0, Value.string { data := #[] }, Value.int IntKind.i64 0] 32))
  have HB : Aside0 (Below w.heap.size w (w.alloc (Obj.cells #[Value.int IntKind.i64 0, Value.string { data := #[] }, Value.int IntKind.i64 0] 32))) := ⟨below_alloc (Below.refl _ _) _⟩
  obtain ⟨b, hb⟩ : ∃ b, b = w.heap.size := ⟨_, rfl⟩
  have HL : Aside0 (w.heap.size ≤ b) := ⟨by omega⟩
  rw [← hb] at HR ⊢
  clear hb
  generalize (w.alloc (Obj.cells #[Value.int IntKind.i64 0, Value.string { data := #[] }, Value.int IntKind.i64 0] 32)) = W at HR HB ⊢
  go_upto_region 2 with (first | (go_at_call 28; (with_reducible refine (peek_rf W (HE.out.below HB.out)).mono ?_); rintro e w1 ⟨rfl, hb1⟩; have n1_ := Aside0.mk (blk_below HR.out hb1); have n2_ := Aside0.mk (HB.out.trans (hb1.mono HB.out.size)); clear HB hb1 HR; have HR := n1_; have HB := n2_; clear n2_ n1_))
  obtain ⟨b3, hb3⟩ : ∃ b3, b3 = w1.heap.size := ⟨_, rfl⟩
  have HL3 : Aside0 (w.heap.size ≤ b3) := ⟨by have := HB.out.size; omega⟩
  have n1_ := Aside0.mk (below_alloc HB.out (Obj.cells #[Value.int IntKind.i64 (now l i).f0, Value.string (now l i).f1, Value.int IntKind.i64 (now l i).f2] 32))
  have n2_ := Aside0.mk (heap_alloc_new w1 (Obj.cells #[Value.int IntKind.i64 (now l i).f0, Value.string (now l i).f1, Value.int IntKind.i64 (now l i).f2] 32))
  have n3_ := Aside0.mk (blk_alloc HR.out (Obj.cells #[Value.int IntKind.i64 (now l i).f0, Value.string (now l i).f1, Value.int IntKind.i64 (now l i).f2] 32))
  have hbb : b ≠ b3 := by have := blk_lt HR.out; omega
  rw [← hb3] at n2_ ⊢
  clear HB hb3 HR
  generalize (w1.alloc (Obj.cells #[Value.int IntKind.i64 (now l i).f0, Value.string (now l i).f1, Value.int IntKind.i64 (now l i).f2] 32)) = w2 at n1_ n2_ n3_ ⊢
  have HB := n1_
  have HT := n2_
  have HR := n3_
  clear n1_ n2_ n3_
  have HD := Aside0.mk (HE.out.below HB.out)
  obtain ⟨c0, c1, f1⟩ := HD.out.cells
  have hfit := HD.out.fit
  have hfew := HD.out.few
  have hw1 : wrap64 ((i : Int) + 1) = (i : Int) + 1 := by unfold wrap64; omega
  have hgb : g ≠ b := by have := HE.out.lt; have := HL.out; omega
  have hgb3 : g ≠ b3 := by have := HE.out.lt; have := HL3.out; omega
  have HL0 : Aside0 (w0.heap.size ≤ b) := ⟨by have := HE.out.old.size; have := HL.out; omega⟩
  have e0 := blk_cell HR.out 0
  have e1 := blk_cell HR.out 1
  have e2 := blk_cell HR.out 2
  have ef0 := blk_frozen HR.out 0
  have ef1 := blk_frozen HR.out 1
  have ef2 := blk_frozen HR.out 2
  have k0 := blk_cell HT.out 0
  have k1 := blk_cell HT.out 1
  have k2 := blk_cell HT.out 2
  have kf0 := blk_frozen HT.out 0
  have kf1 := blk_frozen HT.out 1
  have kf2 := blk_frozen HT.out 2
  by_cases h6 : (now l i).f0 = 6
  · have h6b : ((now l i).f0 != 6) = false := bne_eq_false_iff_eq.mpr h6
    have h6c : ((now l i).f0 == 6) = true := beq_iff_eq.mpr h6
    have HX : Aside0 (nx l i = i) := ⟨by unfold nx; rw [if_pos h6]⟩
    clear h6
    go_wp2
    (try simp only [Exit.inBlock, Exit.then])
    refine bodyPost_ret (results_single rfl (.cell b 32 #[.int .i64 (now l i).f0, .string (now l i).f1, .int .i64 (now l i).f2] (0, 0) _ rfl (by
      refine blk_put (cs := #[.int .i64 (now l i).f0, .string (now l i).f1, .int .i64 0]) ?_ 2 _ rfl
      refine blk_put (cs := #[.int .i64 (now l i).f0, .string ⟨#[]⟩, .int .i64 0]) ?_ 1 _ rfl
      refine blk_put (cs := #[.int .i64 0, .string ⟨#[]⟩, .int .i64 0]) ?_ 0 _ rfl
      exact HR.out) Try.underlying32 rfl (by kernel_rfl) .nil)) rfl ?_
    have hb := below_set (v := .int .i64 (now l i).f2) (j := 2) (below_set (v := .string (now l i).f1) (j := 1) (below_set (v := .int .i64 (now l i).f0) (j := 0) HB.out HL.out) HL.out) HL.out
    rw [HX.out]
    exact ⟨rfl, HE.out.below hb, KeepBut.of_below hb g none⟩
  · have h6b : ((now l i).f0 != 6) = true := bne_iff_ne.mpr h6
    have h6c : ((now l i).f0 == 6) = false := beq_eq_false_iff_ne.mpr h6
    have HX : Aside0 (nx l i = i + 1) := ⟨by unfold nx; rw [if_neg h6]⟩
    clear h6
    go_wp2
    (try simp only [Exit.inBlock, Exit.then])
    refine bodyPost_ret (results_single rfl (.cell b 32 #[.int .i64 (now l i).f0, .string (now l i).f1, .int .i64 (now l i).f2] (0, 0) _ rfl (by
      refine blk_put (cs := #[.int .i64 (now l i).f0, .string (now l i).f1, .int .i64 0]) ?_ 2 _ rfl
      refine blk_put (cs := #[.int .i64 (now l i).f0, .string ⟨#[]⟩, .int .i64 0]) ?_ 1 _ rfl
      refine blk_put (cs := #[.int .i64 0, .string ⟨#[]⟩, .int .i64 0]) ?_ 0 _ rfl
      exact (Below.heap_setCell w2 ⟨g, 1, none⟩ _ b (Ne.symm hgb)).trans HR.out) Try.underlying32 rfl (by kernel_rfl) .nil)) rfl ?_
    have hk := keep_far (p := ⟨b, 2, none⟩) (keep_far (p := ⟨b, 1, none⟩) (keep_far (p := ⟨b, 0, none⟩) (KeepBut.set_ (KeepBut.of_below HB.out g none) 1 (.int .i64 ((i : Int) + 1))) HL.out (.int .i64 (now l i).f0)) HL.out (.string (now l i).f1)) HL.out (.int .i64 (now l i).f2)
    refine ⟨rfl, ?_, hk⟩
    have hfn := HF.out
    rw [HX.out] at hfn ⊢
    refine HE.out.moved hk ?_ (below_set (below_set (below_set (below_set HD.out.old HD.out.ge) HL0.out) HL0.out) HL0.out) hfn
    rw [Below.heap_setCell _ ⟨b, 2, none⟩ _ g hgb, Below.heap_setCell _ ⟨b, 1, none⟩ _ g hgb, Below.heap_setCell _ ⟨b, 0, none⟩ _ g hgb]
    exact blk_put HD.out.blk 1 _ rfl
set_option maxHeartbeats 8000000 in
set_option maxRecDepth 100000 in
theorem take_rf {w0 : World} {g : Nat} {A : Addr} {c : Nat} {l : List S32} {i : Nat} (kk : Int) (s : ByteArray) (h6 : kk ≠ 6) (w : World) (h : Rd 53 w0 w g A c l i) :
    Calls Try.prog 37 #[.pointer (some ⟨g, 0, none⟩), .int .i64 kk, .string s] w fun e w' => e = .returned (.bool (tkB l i kk s)) ∧ Rd 53 w0 w' g A c l (tkN l i kk s) ∧ KeepBut w w' g none := by
  have HE := Aside0.mk h
  clear h
  go_enter Try.func37, Try.ntmps37
  have HB : Aside0 (Below w.heap.size w w) := ⟨Below.refl _ _⟩
  go_upto_region 2 with (first | (go_at_call 28; (with_reducible refine (peek_rf w (HE.out.below HB.out)).mono ?_); rintro e w1 ⟨rfl, hb1⟩; have n2_ := Aside0.mk (HB.out.trans (hb1.mono HB.out.size)); clear HB hb1; have HB := n2_; clear n2_))
  obtain ⟨b3, hb3⟩ : ∃ b3, b3 = w1.heap.size := ⟨_, rfl⟩
  have HL3 : Aside0 (w.heap.size ≤ b3) := ⟨by have := HB.out.size; omega⟩
  have n1_ := Aside0.mk (below_alloc HB.out (Obj.cells #[Value.int IntKind.i64 (now l i).f0, Value.string (now l i).f1, Value.int IntKind.i64 (now l i).f2] 32))
  have n2_ := Aside0.mk (heap_alloc_new w1 (Obj.cells #[Value.int IntKind.i64 (now l i).f0, Value.string (now l i).f1, Value.int IntKind.i64 (now l i).f2] 32))
  rw [← hb3] at n2_ ⊢
  clear HB hb3
  generalize (w1.alloc (Obj.cells #[Value.int IntKind.i64 (now l i).f0, Value.string (now l i).f1, Value.int IntKind.i64 (now l i).f2] 32)) = w2 at n1_ n2_ ⊢
  have HB := n1_
  have HT := n2_
  clear n1_ n2_
  have k0 := blk_cell HT.out 0
  have k1 := blk_cell HT.out 1
  have k2 := blk_cell HT.out 2
  have kf0 := blk_frozen HT.out 0
  have kf1 := blk_frozen HT.out 1
  have kf2 := blk_frozen HT.out 2
  by_cases hk0 : (now l i).f0 = kk
  · have hkb : ((now l i).f0 != kk) = false := bne_eq_false_iff_eq.mpr hk0
    have hkc : ((now l i).f0 == kk) = true := beq_iff_eq.mpr hk0
    by_cases hs : (now l i).f1.toList = s.toList
    · have hsb : ((now l i).f1.toList != s.toList) = false := bne_eq_false_iff_eq.mpr hs
      have hsc : ((now l i).f1.toList == s.toList) = true := beq_iff_eq.mpr hs
      have HX : Aside0 ((now l i).f0 = kk ∧ (now l i).f1.toList = s.toList) := ⟨hk0, hs⟩
      clear hk0 hs
      go_wp2_with (first | (go_at_call 22; (with_reducible refine (next_rf w2 (HE.out.below HB.out)).mono ?_); rintro e w3 ⟨rfl, hi, hk⟩; have HI := Aside0.mk hi; have HK := Aside0.mk (KeepBut.trans (KeepBut.of_below HB.out g none) hk (.inl rfl)); clear hi hk))
      go_ret
      exact ⟨by unfold tkB; rw [decide_eq_true HX.out]; rfl, by unfold tkN; rw [if_pos HX.out]; exact HI.out, HK.out⟩
    · have hsb : ((now l i).f1.toList != s.toList) = true := bne_iff_ne.mpr hs
      have hsc : ((now l i).f1.toList == s.toList) = false := beq_eq_false_iff_ne.mpr hs
      have HX : Aside0 (¬ ((now l i).f0 = kk ∧ (now l i).f1.toList = s.toList)) := ⟨fun h => hs h.2⟩
      clear hk0 hs
      go_wp2
      go_ret
      exact ⟨by unfold tkB; rw [decide_eq_false HX.out]; rfl, by unfold tkN; rw [if_neg HX.out]; exact HE.out.below HB.out, KeepBut.of_below HB.out g none⟩
  · have hkb : ((now l i).f0 != kk) = true := bne_iff_ne.mpr hk0
    have hkc : ((now l i).f0 == kk) = false := beq_eq_false_iff_ne.mpr hk0
    have HX : Aside0 (¬ ((now l i).f0 = kk ∧ (now l i).f1.toList = s.toList)) := ⟨fun h => hk0 h.1⟩
    clear hk0
    go_wp2
    go_ret
    exact ⟨by unfold tkB; rw [decide_eq_false HX.out]; rfl, by unfold tkN; rw [if_neg HX.out]; exact HE.out.below HB.out, KeepBut.of_below HB.out g none⟩
set_option maxHeartbeats 8000000 in
set_option maxRecDepth 100000 in
theorem sign_rf {w0 : World} {g : Nat} {A : Addr} {c : Nat} {l : List S32} {i : Nat} (s : ByteArray) (w : World) (h : Rd 53 w0 w g A c l i) :
    Calls Try.prog 23 #[.pointer (some ⟨g, 0, none⟩), .string s] w fun e w' => e = .returned (.bool (tkB l i 5 s)) ∧ Rd 53 w0 w' g A c l (tkN l i 5 s) ∧ KeepBut w w' g none := by
  have HE := Aside0.mk h
  clear h
  go_enter Try.func23, Try.ntmps23
  go_wp2_with (first | (go_at_call 37; (with_reducible refine (take_rf 5 s (by decide) w HE.out).mono ?_); rintro e w3 ⟨rfl, hi, hk⟩; have HI := Aside0.mk hi; have HK := Aside0.mk hk; clear hi hk))
  go_ret
  exact ⟨rfl, HI.out, HK.out⟩
set_option maxHeartbeats 8000000 in
set_option maxRecDepth 100000 in
theorem word_rf {w0 : World} {g : Nat} {A : Addr} {c : Nat} {l : List S32} {i : Nat} (s : ByteArray) (w : World) (h : Rd 53 w0 w g A c l i) :
    Calls Try.prog 24 #[.pointer (some ⟨g, 0, none⟩), .string s] w fun e w' => e = .returned (.bool (tkB l i 1 s)) ∧ Rd 53 w0 w' g A c l (tkN l i 1 s) ∧ KeepBut w w' g none := by
  have HE := Aside0.mk h
  clear h
  go_enter Try.func24, Try.ntmps24
  go_wp2_with (first | (go_at_call 37; (with_reducible refine (take_rf 1 s (by decide) w HE.out).mono ?_); rintro e w3 ⟨rfl, hi, hk⟩; have HI := Aside0.mk hi; have HK := Aside0.mk hk; clear hi hk))
  go_ret
  exact ⟨rfl, HI.out, HK.out⟩
set_option maxHeartbeats 8000000 in
set_option maxRecDepth 100000 in
theorem name_rf {w0 : World} {g : Nat} {A : Addr} {c : Nat} {l : List S32} {i : Nat} (w : World) (h : Rd 53 w0 w g A c l i) : Calls Try.prog 25 #[.pointer (some ⟨g, 0, none⟩)] w fun e w' => e = .returned (nmV l i) ∧ Rd 53 w0 w' g A c l (nmN l i) ∧ KeepBut w w' g none := by
  have HE := Aside0.mk h
  clear h
  go_enter Try.func25, Try.ntmps25
  have HB : Aside0 (Below w.heap.size w w) := ⟨Below.refl _ _⟩
  go_upto_region 2 with (first | (go_at_call 28; (with_reducible refine (peek_rf w (HE.out.below HB.out)).mono ?_); rintro e w1 ⟨rfl, hb1⟩; have n2_ := Aside0.mk (HB.out.trans (hb1.mono HB.out.size)); clear HB hb1; have HB := n2_; clear n2_))
  obtain ⟨b3, hb3⟩ : ∃ b3, b3 = w1.heap.size := ⟨_, rfl⟩
  have HL3 : Aside0 (w.heap.size ≤ b3) := ⟨by have := HB.out.size; omega⟩
  have n1_ := Aside0.mk (below_alloc HB.out (Obj.cells #[Value.int IntKind.i64 (now l i).f0, Value.string (now l i).f1, Value.int IntKind.i64 (now l i).f2] 32))
  have n2_ := Aside0.mk (heap_alloc_new w1 (Obj.cells #[Value.int IntKind.i64 (now l i).f0, Value.string (now l i).f1, Value.int IntKind.i64 (now l i).f2] 32))
  rw [← hb3] at n2_ ⊢
  clear HB hb3
  generalize (w1.alloc (Obj.cells #[Value.int IntKind.i64 (now l i).f0, Value.string (now l i).f1, Value.int IntKind.i64 (now l i).f2] 32)) = w2 at n1_ n2_ ⊢
  have HB := n1_
  have HT := n2_
  clear n1_ n2_
  have k0 := blk_cell HT.out 0
  have k1 := blk_cell HT.out 1
  have k2 := blk_cell HT.out 2
  have kf0 := blk_frozen HT.out 0
  have kf1 := blk_frozen HT.out 1
  have kf2 := blk_frozen HT.out 2
  by_cases hk0 : (now l i).f0 = 2
  · have hkb : ((now l i).f0 != 2) = false := bne_eq_false_iff_eq.mpr hk0
    have HX := Aside0.mk hk0
    have hg3 : b3 ≠ g := by have := HE.out.lt; have := HL3.out; omega
    clear hk0
    go_wp2_with (first | (go_at_call 22; (with_reducible refine (next_rf w2 (HE.out.below HB.out)).mono ?_); rintro e w3 ⟨rfl, hi, hk⟩; have HT3 := Aside0.mk (KeepBut.blk hk HT.out hg3 (by simp)); have HI := Aside0.mk hi; have HK := Aside0.mk (KeepBut.trans (KeepBut.of_below HB.out g none) hk (.inl rfl)); clear hi hk; have m1 := blk_cell HT3.out 1))
    go_ret2
    exact ⟨by unfold nmV; rw [if_pos HX.out]; rfl, by unfold nmN; rw [if_pos HX.out]; exact HI.out, HK.out⟩
  · have hkb : ((now l i).f0 != 2) = true := bne_iff_ne.mpr hk0
    have HX := Aside0.mk hk0
    clear hk0
    go_wp2
    go_ret2
    exact ⟨by unfold nmV; rw [if_neg HX.out]; rfl, by unfold nmN; rw [if_neg HX.out]; exact HE.out.below HB.out, KeepBut.of_below HB.out g none⟩
set_option maxHeartbeats 8000000 in
set_option maxRecDepth 100000 in
theorem at_rf {w0 : World} {g : Nat} {A : Addr} {c : Nat} {l : List S32} {i : Nat} (w : World) (h : Rd 53 w0 w g A c l i) : Calls Try.prog 29 #[.pointer (some ⟨g, 0, none⟩)] w fun e w' => e = .returned (.int .i64 (now l i).f2) ∧ Below w.heap.size w w' := by
  have HE := Aside0.mk h
  clear h
  have hf := fld2 (.int .i64 (now l i).f0) (.string (now l i).f1) (.int .i64 (now l i).f2)
  go_enter Try.func29, Try.ntmps29
  go_wp2_with (first | (go_at_call 28; (with_reducible refine (peek_rf w HE.out).mono ?_); rintro e w1 ⟨rfl, hb1⟩))
  go_ret
  exact ⟨rfl, hb1⟩
theorem drawn_below {w w1 : World} (h : Drawn0 w w1) : Below w.heap.size w w1 := by
  obtain ⟨n, rfl⟩ := h
  exact pw_below_drewN (Below.refl _ _) n
set_option maxHeartbeats 8000000 in
set_option maxRecDepth 100000 in
theorem int_rf {w0 : World} {g : Nat} {A : Addr} {c : Nat} {l : List S32} {i : Nat} (most : Int) (K : Nat) (n er : Int) (hp : haruspexref04_Parse.f K (now l i).f1 = some (n, er)) (w : World) (h : Rd 53 w0 w g A c l i) :
    Calls Try.prog 26 #[.pointer (some ⟨g, 0, none⟩), .int .i64 most] w fun e w' => e = .returned (inV l i n er most) ∧ Rd 53 w0 w' g A c l (inN l i n er most) ∧ KeepBut w w' g none := by
  have HE := Aside0.mk h
  have PN := Aside0.mk hp
  clear h hp
  go_enter Try.func26, Try.ntmps26
  have HB : Aside0 (Below w.heap.size w w) := ⟨Below.refl _ _⟩
  go_upto_region 2 with (first | (go_at_call 28; (with_reducible refine (peek_rf w (HE.out.below HB.out)).mono ?_); rintro e w1 ⟨rfl, hb1⟩; have n2_ := Aside0.mk (HB.out.trans (hb1.mono HB.out.size)); clear HB hb1; have HB := n2_; clear n2_))
  obtain ⟨b3, hb3⟩ : ∃ b3, b3 = w1.heap.size := ⟨_, rfl⟩
  have HL3 : Aside0 (w.heap.size ≤ b3) := ⟨by have := HB.out.size; omega⟩
  have n1_ := Aside0.mk (below_alloc HB.out (Obj.cells #[Value.int IntKind.i64 (now l i).f0, Value.string (now l i).f1, Value.int IntKind.i64 (now l i).f2] 32))
  have n2_ := Aside0.mk (heap_alloc_new w1 (Obj.cells #[Value.int IntKind.i64 (now l i).f0, Value.string (now l i).f1, Value.int IntKind.i64 (now l i).f2] 32))
  rw [← hb3] at n2_ ⊢
  clear HB hb3
  generalize (w1.alloc (Obj.cells #[Value.int IntKind.i64 (now l i).f0, Value.string (now l i).f1, Value.int IntKind.i64 (now l i).f2] 32)) = w2 at n1_ n2_ ⊢
  have HB := n1_
  have HT := n2_
  clear n1_ n2_
  have k0 := blk_cell HT.out 0
  have k1 := blk_cell HT.out 1
  have k2 := blk_cell HT.out 2
  have kf0 := blk_frozen HT.out 0
  have kf1 := blk_frozen HT.out 1
  have kf2 := blk_frozen HT.out 2
  by_cases hk0 : (now l i).f0 = 3
  · have hkb : ((now l i).f0 != 3) = false := bne_eq_false_iff_eq.mpr hk0
    by_cases he : er = 0
    · have heb : (er != 0) = false := bne_eq_false_iff_eq.mpr he
      by_cases hm : n > most
      · have hmb : decide (n > most) = true := decide_eq_true hm
        have hmc : decide (most < n) = true := decide_eq_true hm
        have HX : Aside0 (¬ ((now l i).f0 = 3 ∧ er = 0 ∧ n ≤ most)) := ⟨fun h => by have := h.2.2; omega⟩
        clear hk0 he
        go_wp2_with (first | (go_at_call 38; (with_reducible refine (haruspexref04_Parse.calls K (now l i).f1 n er _ PN.out).mono ?_); rintro e w4 ⟨rfl, hd⟩; have n1_ := Aside0.mk (HB.out.trans ((drawn_below hd).mono HB.out.size)); have n2_ := Aside0.mk (blk_below HT.out (drawn_below hd)); clear HB HT hd k0 k1 k2 kf0 kf1 kf2; have HB := n1_; have HT := n2_; clear n1_ n2_; have k0 := blk_cell HT.out 0; have k1 := blk_cell HT.out 1; have k2 := blk_cell HT.out 2))
        go_ret2
        exact ⟨by unfold inV; rw [if_neg HX.out]; rfl, by unfold inN; rw [if_neg HX.out]; exact HE.out.below HB.out, KeepBut.of_below HB.out g none⟩

      · have hmb : decide (n > most) = false := decide_eq_false hm
        have hmc : decide (most < n) = false := decide_eq_false hm
        have HX : Aside0 ((now l i).f0 = 3 ∧ er = 0 ∧ n ≤ most) := ⟨hk0, he, by omega⟩
        clear hk0 he
        go_wp2_with (first | (go_at_call 38; (with_reducible refine (haruspexref04_Parse.calls K (now l i).f1 n er _ PN.out).mono ?_); rintro e w4 ⟨rfl, hd⟩; have n1_ := Aside0.mk (HB.out.trans ((drawn_below hd).mono HB.out.size)); have n2_ := Aside0.mk (blk_below HT.out (drawn_below hd)); clear HB HT hd k0 k1 k2 kf0 kf1 kf2; have HB := n1_; have HT := n2_; clear n1_ n2_; have k0 := blk_cell HT.out 0; have k1 := blk_cell HT.out 1; have k2 := blk_cell HT.out 2) | (go_at_call 22; (with_reducible refine (next_rf w4 (HE.out.below HB.out)).mono ?_); rintro e w3 ⟨rfl, hi, hk⟩; have HI := Aside0.mk hi; have HK := Aside0.mk (KeepBut.trans (KeepBut.of_below HB.out g none) hk (.inl rfl)); clear hi hk))
        go_ret2
        exact ⟨by unfold inV; rw [if_pos HX.out]; rfl, by unfold inN; rw [if_pos HX.out]; exact HI.out, HK.out⟩
    · have heb : (er != 0) = true := bne_iff_ne.mpr he
      have HX : Aside0 (¬ ((now l i).f0 = 3 ∧ er = 0 ∧ n ≤ most)) := ⟨fun h => he h.2.1⟩
      clear hk0 he
      go_wp2_with (first | (go_at_call 38; (with_reducible refine (haruspexref04_Parse.calls K (now l i).f1 n er _ PN.out).mono ?_); rintro e w4 ⟨rfl, hd⟩; have n1_ := Aside0.mk (HB.out.trans ((drawn_below hd).mono HB.out.size)); have n2_ := Aside0.mk (blk_below HT.out (drawn_below hd)); clear HB HT hd k0 k1 k2 kf0 kf1 kf2; have HB := n1_; have HT := n2_; clear n1_ n2_; have k0 := blk_cell HT.out 0; have k1 := blk_cell HT.out 1; have k2 := blk_cell HT.out 2))
      go_ret2
      exact ⟨by unfold inV; rw [if_neg HX.out]; rfl, by unfold inN; rw [if_neg HX.out]; exact HE.out.below HB.out, KeepBut.of_below HB.out g none⟩

  · have hkb : ((now l i).f0 != 3) = true := bne_iff_ne.mpr hk0
    have HX : Aside0 (¬ ((now l i).f0 = 3 ∧ er = 0 ∧ n ≤ most)) := ⟨fun h => hk0 h.1⟩
    clear hk0
    go_wp2_with (first | (go_at_call 38; (with_reducible refine (haruspexref04_Parse.calls K (now l i).f1 n er _ PN.out).mono ?_); rintro e w4 ⟨rfl, hd⟩; have n1_ := Aside0.mk (HB.out.trans ((drawn_below hd).mono HB.out.size)); have n2_ := Aside0.mk (blk_below HT.out (drawn_below hd)); clear HB HT hd k0 k1 k2 kf0 kf1 kf2; have HB := n1_; have HT := n2_; clear n1_ n2_; have k0 := blk_cell HT.out 0; have k1 := blk_cell HT.out 1; have k2 := blk_cell HT.out 2))
    go_ret2
    exact ⟨by unfold inV; rw [if_neg HX.out]; rfl, by unfold inN; rw [if_neg HX.out]; exact HE.out.below HB.out, KeepBut.of_below HB.out g none⟩

set_option maxHeartbeats 8000000 in
set_option maxRecDepth 100000 in
theorem back_rf {w0 : World} {g : Nat} {A : Addr} {c : Nat} {l : List S32} {i : Nat} (n : Int) (w : World) (h : Rd 53 w0 w g A c l i) :
    Calls Try.prog 27 #[.pointer (some ⟨g, 0, none⟩), .int .i64 n] w fun e w' => e = .returned (.tuple #[]) ∧ Rd 53 w0 w' g A c l (bkN i n) ∧ KeepBut w w' g none := by
  have HE := Aside0.mk h
  have hl := h.fit
  clear h
  go_enter Try.func27, Try.ntmps27
  by_cases h0 : n ≥ 0
  · have h0b : decide (n ≥ 0) = true := decide_eq_true h0
    have h0c : decide (0 ≤ n) = true := decide_eq_true h0
    by_cases h1 : n ≤ (i : Int)
    · have h1b : decide (n ≤ (i : Int)) = true := decide_eq_true h1
      have HX : Aside0 (0 ≤ n ∧ n ≤ (i : Int)) := ⟨h0, h1⟩
      obtain ⟨c0, c1, f1⟩ := HE.out.cells
      go_wp2
      go_end0
      have hk := KeepBut.set_ (KeepBut.refl w g none) 1 (.int .i64 n)
      refine ⟨rfl, ?_, hk⟩
      unfold bkN
      rw [if_pos HX.out]
      refine HE.out.moved hk ?_ (below_set HE.out.old HE.out.ge) (by have := HX.out; omega)
      have hb := blk_put HE.out.blk 1 (.int .i64 n) rfl
      rw [show ((n.toNat : Nat) : Int) = n from by omega]
      exact hb
    · have h1b : decide (n ≤ (i : Int)) = false := decide_eq_false h1
      have HX : Aside0 (¬ (0 ≤ n ∧ n ≤ (i : Int))) := ⟨fun h => h1 h.2⟩
      obtain ⟨c0, c1, f1⟩ := HE.out.cells
      go_wp2
      go_end0
      exact ⟨rfl, by unfold bkN; rw [if_neg HX.out]; exact HE.out, KeepBut.refl w g none⟩
  · have h0b : decide (n ≥ 0) = false := decide_eq_false h0
    have h0c : decide (0 ≤ n) = false := decide_eq_false h0
    have HX : Aside0 (¬ (0 ≤ n ∧ n ≤ (i : Int))) := ⟨fun h => h0 h.1⟩
    obtain ⟨c0, c1, f1⟩ := HE.out.cells
    go_wp2
    go_end0
    exact ⟨rfl, by unfold bkN; rw [if_neg HX.out]; exact HE.out, KeepBut.refl w g none⟩
set_option maxHeartbeats 8000000 in
set_option maxRecDepth 100000 in
theorem new_rd (s : ByteArray) (K : Nat) (l : List S32) (n er : Int) (hf : lex_All.f K s = some (l, n, er)) (hl : er = 0 → l.length ≤ 100000 ∧ 0 < l.length ∧ ∀ j, j + 1 = l.length → (rd_T32 l (j : Int)).f0 = 6) (w : World) :
    Calls Try.prog 20 #[.string s] w fun e w' => Below w.heap.size w w' ∧ ((er ≠ 0 ∧ e = .returned (.tuple #[.pointer none, .int .i64 n, .int .i64 er])) ∨
      (er = 0 ∧ ∃ g A c, e = .returned (.tuple #[.pointer (some ⟨g, 0, none⟩), .int .i64 n, .int .i64 0]) ∧ Rd 25 w w' g A c l 0 ∧ w.heap.size ≤ A.block ∧ A.block < w'.heap.size)) := by
  have HF := Aside0.mk hf
  have HL := Aside0.mk hl
  clear hf hl
  go_enter Try.func20, Try.ntmps20
  by_cases he : er = 0
  · have heb : (er != 0) = false := bne_eq_false_iff_eq.mpr he
    have hec : (er == 0) = true := beq_iff_eq.mpr he
    have HX := Aside0.mk he
    clear he
    go_upto_region 4 with (first | (go_at_call 17; (with_reducible refine (lex_All.calls K s l n er w HF.out).mono ?_); rintro e w1 ⟨v, rfl, ho, hb1⟩))
    obtain ⟨hlen, hpos, hlast⟩ := HL.out HX.out
    obtain ⟨A0, c, rfl, hc, hC⟩ := Kd.R_reads ho
    obtain ⟨A, rfl⟩ : ∃ A, A0 = some A := by
      cases A0 with
      | some A => exact ⟨A, rfl⟩
      | none =>
        obtain ⟨ad, e, _⟩ := at_T32 hC 0 (by omega) (by omega)
        cases e
    have hA1 : A.block < w1.heap.size := Kd.C_lt hC hpos (by decide)
    have hA0 : w.heap.size ≤ A.block := Kd.R_base ho _ rfl
    have n1_ := Aside0.mk (below_alloc hb1 (Obj.cells #[.slice (some A) l.length c, .int .i64 0] 25))
    have n2_ := Aside0.mk (heap_alloc_new w1 (Obj.cells #[.slice (some A) l.length c, .int .i64 0] 25))
    have n3_ := Aside0.mk (Kd.C_below hC (below_alloc (Below.refl w1.heap.size w1) (Obj.cells #[.slice (some A) l.length c, .int .i64 0] 25)))
    have n4_ := Aside0.mk hlast
    have hs1 := hb1.size
    have hz : (w1.alloc (Obj.cells #[.slice (some A) l.length c, .int .i64 0] 25)).heap.size = w1.heap.size + 1 := by simp
    clear ho hC hlast hb1
    go_wp2
    go_ret3
    refine ⟨n1_.out, .inr ⟨HX.out, _, A, c, by rw [HX.out]; rfl, ⟨n2_.out, n3_.out, by omega, by omega, n1_.out, hpos, hlen, n4_.out⟩, hA0, by omega⟩⟩
  · have heb : (er != 0) = true := bne_iff_ne.mpr he
    have hec : (er == 0) = false := beq_eq_false_iff_ne.mpr he
    have HX := Aside0.mk he
    clear he
    go_wp2_with (first | (go_at_call 17; (with_reducible refine (lex_All.calls K s l n er w HF.out).mono ?_); rintro e w1 ⟨v, rfl, ho, hb1⟩))
    go_ret3
    exact ⟨hb1, .inl ⟨HX.out, rfl⟩⟩
set_option maxHeartbeats 8000000 in
set_option maxRecDepth 100000 in
theorem new_rf (s : ByteArray) (K : Nat) (l : List S32) (n er : Int) (hf : haruspexref17_All.f K s = some (l, n, er)) (hl : er = 0 → l.length ≤ 100000 ∧ 0 < l.length ∧ ∀ j, j + 1 = l.length → (rd_T32 l (j : Int)).f0 = 6) (w : World) :
    Calls Try.prog 21 #[.string s] w fun e w' => Below w.heap.size w w' ∧ ((er ≠ 0 ∧ e = .returned (.tuple #[.pointer none, .int .i64 n, .int .i64 er])) ∨
      (er = 0 ∧ ∃ g A c, e = .returned (.tuple #[.pointer (some ⟨g, 0, none⟩), .int .i64 n, .int .i64 0]) ∧ Rd 53 w w' g A c l 0 ∧ w.heap.size ≤ A.block ∧ A.block < w'.heap.size)) := by
  have HF := Aside0.mk hf
  have HL := Aside0.mk hl
  clear hf hl
  go_enter Try.func21, Try.ntmps21
  by_cases he : er = 0
  · have heb : (er != 0) = false := bne_eq_false_iff_eq.mpr he
    have hec : (er == 0) = true := beq_iff_eq.mpr he
    have HX := Aside0.mk he
    clear he
    go_upto_region 4 with (first | (go_at_call 18; (with_reducible refine (haruspexref17_All.calls K s l n er w HF.out).mono ?_); rintro e w1 ⟨v, rfl, ho, hb1⟩))
    obtain ⟨hlen, hpos, hlast⟩ := HL.out HX.out
    obtain ⟨A0, c, rfl, hc, hC⟩ := Kd.R_reads ho
    obtain ⟨A, rfl⟩ : ∃ A, A0 = some A := by
      cases A0 with
      | some A => exact ⟨A, rfl⟩
      | none =>
        obtain ⟨ad, e, _⟩ := at_T32 hC 0 (by omega) (by omega)
        cases e
    have hA1 : A.block < w1.heap.size := Kd.C_lt hC hpos (by decide)
    have hA0 : w.heap.size ≤ A.block := Kd.R_base ho _ rfl
    have n1_ := Aside0.mk (below_alloc hb1 (Obj.cells #[.slice (some A) l.length c, .int .i64 0] 53))
    have n2_ := Aside0.mk (heap_alloc_new w1 (Obj.cells #[.slice (some A) l.length c, .int .i64 0] 53))
    have n3_ := Aside0.mk (Kd.C_below hC (below_alloc (Below.refl w1.heap.size w1) (Obj.cells #[.slice (some A) l.length c, .int .i64 0] 53)))
    have n4_ := Aside0.mk hlast
    have hs1 := hb1.size
    have hz : (w1.alloc (Obj.cells #[.slice (some A) l.length c, .int .i64 0] 53)).heap.size = w1.heap.size + 1 := by simp
    clear ho hC hlast hb1
    go_wp2
    go_ret3
    refine ⟨n1_.out, .inr ⟨HX.out, _, A, c, by rw [HX.out]; rfl, ⟨n2_.out, n3_.out, by omega, by omega, n1_.out, hpos, hlen, n4_.out⟩, hA0, by omega⟩⟩
  · have heb : (er != 0) = true := bne_iff_ne.mpr he
    have hec : (er == 0) = false := beq_eq_false_iff_ne.mpr he
    have HX := Aside0.mk he
    clear he
    go_wp2_with (first | (go_at_call 18; (with_reducible refine (haruspexref17_All.calls K s l n er w HF.out).mono ?_); rintro e w1 ⟨v, rfl, ho, hb1⟩))
    go_ret3
    exact ⟨hb1, .inl ⟨HX.out, rfl⟩⟩
end Reader
end Go.Proofs.Ytkbngfelegcplaa.PAll
