/- A reader of tokens: what each of its methods hands back and how it leaves the reader. No condition. -/
import Derived.Test.YtkbngfelegcplaaPAllx9
import Derived.Test.YtkbngfelegcplaaPAllx2
set_option linter.unusedVariables false
set_option linter.unusedSimpArgs false
namespace Go.Proofs.Ytkbngfelegcplaa.PAll
open Go.RowKit Go.Proofs.YtkbngfelegcplaaW.PrintWords Go.Proofs.YtkbngfelegcplaaW.PrintLast Go.Proofs.YtkbngfelegcplaaW.PrintMore
attribute [local go_sem] max2_int min2_int max_two min_two max_three min_three max_four min_four
namespace Reader

theorem hd32 {W W' : World} {x : S32} {cs : List Value} (h : k32.K W x cs) : k32.K W' x cs := by
  obtain rfl := k32_open h
  exact k32_mk _ _
/-- a reader of type ty at block g: its tokens l, their row, the place i -/
structure Rd (ty : Nat) (w0 W : World) (g : Nat) (A : Addr) (c : Nat) (l : List S32) (i : Nat) : Prop where
  blk : W.heap[g]? = some (.cells #[.slice (some A) l.length c, .int .i64 (i : Int)] ty (0, 0))
  row : Kd.C k32 W (some A) l.length l
  ne : A.block ≠ g
  ge : w0.heap.size ≤ g
  old : Below w0.heap.size w0 W
  fit : i < l.length
  few : l.length ≤ 100000
  last : ∀ j, j + 1 = l.length → (rd_T32 l (j : Int)).f0 = 6
section
variable {ty : Nat} {w0 W W1 : World} {g : Nat} {A : Addr} {c : Nat} {l : List S32} {i : Nat}
theorem Rd.lt (h : Rd ty w0 W g A c l i) : g < W.heap.size := blk_lt h.blk
theorem Rd.below (h : Rd ty w0 W g A c l i) (hb : Below W.heap.size W W1) : Rd ty w0 W1 g A c l i :=
  ⟨blk_below h.blk hb, Kd.C_below h.row hb, h.ne, h.ge, h.old.trans (hb.mono h.old.size), h.fit, h.few, h.last⟩
/-- the reader's own block may have been written, nothing else of the old -/
theorem Rd.moved {j : Nat} (h : Rd ty w0 W g A c l i) (hk : KeepBut W W1 g none) (hb : W1.heap[g]? = some (.cells #[.slice (some A) l.length c, .int .i64 (j : Int)] ty (0, 0))) (ho : Below w0.heap.size w0 W1) (hj : j < l.length) : Rd ty w0 W1 g A c l j :=
  ⟨hb, Kd.C_foot_ne hd32 h.row (fun ad e _ => by injection e with e; subst e; exact h.ne) W1 hk, h.ne, h.ge, ho, hj, h.few, h.last⟩
/-- another reader's block may have been written -/
theorem Rd.other {g' : Nat} (h : Rd ty w0 W g A c l i) (hk : KeepBut W W1 g' none) (hg : g ≠ g') (hA : A.block ≠ g') (ho : Below w0.heap.size w0 W1) : Rd ty w0 W1 g A c l i :=
  ⟨KeepBut.blk hk h.blk hg (by simp), Kd.C_foot_ne hd32 h.row (fun ad e _ => by injection e with e; subst e; exact hA) W1 hk, h.ne, h.ge, ho, h.fit, h.few, h.last⟩
theorem Rd.cells (h : Rd ty w0 W g A c l i) : W.cell? ⟨g, 0, none⟩ = some (.slice (some A) l.length c) ∧ W.cell? ⟨g, 1, none⟩ = some (.int .i64 (i : Int)) ∧ W.frozen? ⟨g, 1, none⟩ = false := ⟨blk_cell h.blk 0, blk_cell h.blk 1, blk_frozen h.blk 1⟩
end
def now (l : List S32) (i : Nat) : S32 := rd_T32 l (i : Int)
theorem fld0 (a b c : Value) : ∀ W, (Instr.field 32 (.agg #[a, b, c]) 0).run Try.prog W = .ok a W := fun W => by show _ = _; kernel_rfl
theorem fld2 (a b c : Value) : ∀ W, (Instr.field 32 (.agg #[a, b, c]) 2).run Try.prog W = .ok c W := fun W => by show _ = _; kernel_rfl
set_option maxHeartbeats 8000000 in
set_option maxRecDepth 100000 in
theorem none_rd {w0 : World} {g : Nat} {A : Addr} {c : Nat} {l : List S32} {i : Nat} (w : World) (h : Rd 25 w0 w g A c l i) : Calls Try.prog 31 #[.pointer (some ⟨g, 0, none⟩)] w fun e w' => e = .returned (.bool false) ∧ Below w.heap.size w w' := by
  obtain ⟨c0, c1, f1⟩ := h.cells
  have hl := h.fit
  have hlb : ((l.length : Int) == 0) = false := beq_eq_false_iff_ne.mpr (by omega)
  clear h
  go_enter Try.func31, Try.ntmps31
  go_wp2
  go_ret
  exact ⟨rfl, Below.refl _ _⟩
set_option maxHeartbeats 8000000 in
set_option maxRecDepth 100000 in
theorem peek_rd {w0 : World} {g : Nat} {A : Addr} {c : Nat} {l : List S32} {i : Nat} (w : World) (h : Rd 25 w0 w g A c l i) : Calls Try.prog 11 #[.pointer (some ⟨g, 0, none⟩)] w fun e w' => e = .returned (.agg #[.int .i64 (now l i).f0, .string (now l i).f1, .int .i64 (now l i).f2]) ∧ Below w.heap.size w w' := by
  have HE := Aside0.mk h
  clear h
  go_enter Try.func11, Try.ntmps11
  go_upto_region 1 with (fail)
  have HR := Aside0.mk (heap_alloc_new w (Obj.cells #[Value.int IntKind.i64 0, Value.string { data := #[] }, Value.int IntKind.i64 0] 32))
  have HB : Aside0 (Below w.heap.size w (w.alloc (Obj.cells #[Value.int IntKind.i64 0, Value.string { data := #[] }, Value.int IntKind.i64 0] 32))) := ⟨below_alloc (Below.refl _ _) _⟩
  obtain ⟨b, hb⟩ : ∃ b, b = w.heap.size := ⟨_, rfl⟩
  have HL : Aside0 (w.heap.size ≤ b) := ⟨by omega⟩
  rw [← hb] at HR ⊢
  clear hb
  generalize (w.alloc (Obj.cells #[Value.int IntKind.i64 0, Value.string { data := #[] }, Value.int IntKind.i64 0] 32)) = W at HR HB ⊢
  go_upto_region 3 with (first | (go_at_call 31; (with_reducible refine (none_rd W (HE.out.below HB.out)).mono ?_); rintro e w1 ⟨rfl, hb1⟩; have n1_ := Aside0.mk (blk_below HR.out hb1); have n2_ := Aside0.mk (HB.out.trans (hb1.mono HB.out.size)); clear HB hb1 HR; have HR := n1_; have HB := n2_; clear n1_ n2_))
  have HD := Aside0.mk (HE.out.below HB.out)
  obtain ⟨c0, c1, f1⟩ := HD.out.cells
  have hl := HD.out.fit
  have hfew := HD.out.few
  obtain ⟨ad, ea, x0, x1, x2⟩ := at_T32 HD.out.row (i : Int) (by omega) (by omega)
  obtain rfl : A = ad := by injection ea
  simp only [Int.toNat_natCast] at x0 x1 x2
  have hAb : A.block ≠ b := by
    have h1 := Kd.C_lt HE.out.row (by omega) (by decide)
    have := HL.out
    omega
  have e0 := blk_cell HR.out 0
  have e1 := blk_cell HR.out 1
  have e2 := blk_cell HR.out 2
  have ef0 := blk_frozen HR.out 0
  have ef1 := blk_frozen HR.out 1
  have ef2 := blk_frozen HR.out 2
  go_big_region
  go_wp2
  (try simp only [Exit.inBlock, Exit.then])
  refine bodyPost_ret (results_single rfl (.cell b 32 #[.int .i64 (now l i).f0, .string (now l i).f1, .int .i64 (now l i).f2] (0, 0) _ rfl (by
    refine blk_drew ?_
    refine blk_put (cs := #[.int .i64 (now l i).f0, .string (now l i).f1, .int .i64 0]) ?_ 2 _ rfl
    refine blk_put (cs := #[.int .i64 (now l i).f0, .string ⟨#[]⟩, .int .i64 0]) ?_ 1 _ rfl
    refine blk_put (cs := #[.int .i64 0, .string ⟨#[]⟩, .int .i64 0]) ?_ 0 _ rfl
    exact HR.out) Try.underlying32 rfl (by kernel_rfl) .nil)) rfl ?_
  exact ⟨rfl, below_drew1 (below_set (below_set (below_set HB.out HL.out) HL.out) HL.out)⟩
/-- the place behind the next token, if it is none -/
def nx (l : List S32) (i : Nat) : Nat := if (now l i).f0 = 6 then i else i + 1
theorem Rd.nx_fit {ty : Nat} {w0 W : World} {g : Nat} {A : Addr} {c : Nat} {l : List S32} {i : Nat} (h : Rd ty w0 W g A c l i) : nx l i < l.length := by
  unfold nx
  by_cases h6 : (now l i).f0 = 6
  · rw [if_pos h6]; exact h.fit
  · rw [if_neg h6]
    have := h.fit
    rcases Nat.lt_or_ge (i + 1) l.length with g | g
    · exact g
    · exact absurd (h.last i (by omega)) h6
set_option maxHeartbeats 8000000 in
set_option maxRecDepth 100000 in
theorem next_rd {w0 : World} {g : Nat} {A : Addr} {c : Nat} {l : List S32} {i : Nat} (w : World) (h : Rd 25 w0 w g A c l i) : Calls Try.prog 12 #[.pointer (some ⟨g, 0, none⟩)] w fun e w' => e = .returned (.agg #[.int .i64 (now l i).f0, .string (now l i).f1, .int .i64 (now l i).f2]) ∧ Rd 25 w0 w' g A c l (nx l i) ∧ KeepBut w w' g none := by
  have HE := Aside0.mk h
  have HF := Aside0.mk h.nx_fit
  clear h
  go_enter Try.func12, Try.ntmps12
  go_upto_region 1 with (fail)
  have HR := Aside0.mk (heap_alloc_new w (Obj.cells #[Value.int IntKind.i64 0, Value.string { data := #[] }, Value.int IntKind.i64 0] 32))
  have HB : Aside0 (Below w.heap.size w (w.alloc (Obj.cells #[Value.int IntKind.i64 0, Value.string { data := #[] }, Value.int IntKind.i64 0] 32))) := ⟨below_alloc (Below.refl _ _) _⟩
  obtain ⟨b, hb⟩ : ∃ b, b = w.heap.size := ⟨_, rfl⟩
  have HL : Aside0 (w.heap.size ≤ b) := ⟨by omega⟩
  rw [← hb] at HR ⊢
  clear hb
  generalize (w.alloc (Obj.cells #[Value.int IntKind.i64 0, Value.string { data := #[] }, Value.int IntKind.i64 0] 32)) = W at HR HB ⊢
  go_upto_region 2 with (first | (go_at_call 11; (with_reducible refine (peek_rd W (HE.out.below HB.out)).mono ?_); rintro e w1 ⟨rfl, hb1⟩; have n1_ := Aside0.mk (blk_below HR.out hb1); have n2_ := Aside0.mk (HB.out.trans (hb1.mono HB.out.size)); clear HB hb1 HR; have HR := n1_; have HB := n2_; clear n2_ n1_))
  obtain ⟨b3, hb3⟩ : ∃ b3, b3 = w1.heap.size := ⟨_, rfl⟩
  have HL3 : Aside0 (w.heap.size ≤ b3) := ⟨by have := HB.out.size; omega⟩
  have n1_ := Aside0.mk (below_alloc HB.out (Obj.cells #[Value.int IntKind.i64 (now l i).f0, Value.string (now l i).f1, Value.int IntKind.i64 (now l i).f2] 32))
  have n2_ := Aside0.mk (heap_alloc_new w1 (Obj.cells #[Value.int IntKind.i64 (now l i).f0, Value.string (now l i).f1, Value.int IntKind.i64 (now l i).f2] 32))
  have n3_ := Aside0.mk (blk_alloc HR.out (Obj.cells #[Value.int IntKind.i64 (now l i).f0, Value.string (now l i).f1, Value.int IntKind.i64 (now l i).f2] 32))
  have hbb : b ≠ b3 := by have := blk_lt HR.out; omega
  rw [← hb3] at n2_ ⊢
  clear HB hb3 HR
  generalize (w1.alloc (Obj.cells #[Value.int IntKind.i64 (now l i).f0, Value.string (now l i).f1, Value.int IntKind.i64 (now l i).f2] 32)) = w2 at n1_ n2_ n3_ ⊢
  have HB := n1_
  have HT := n2_
  have HR := n3_
  clear n1_ n2_ n3_
  have HD := Aside0.mk (HE.out.below HB.out)
  obtain ⟨c0, c1, f1⟩ := HD.out.cells
  have hfit := HD.out.fit
  have hfew := HD.out.few
  have hw1 : wrap64 ((i : Int) + 1) = (i : Int) + 1 := by unfold wrap64; omega
  have hgb : g ≠ b := by have := HE.out.lt; have := HL.out; omega
  have hgb3 : g ≠ b3 := by have := HE.out.lt; have := HL3.out; omega
  have HL0 : Aside0 (w0.heap.size ≤ b) := ⟨by have := HE.out.old.size; have := HL.out; omega⟩
  have e0 := blk_cell HR.out 0
  have e1 := blk_cell HR.out 1
  have e2 := blk_cell HR.out 2
  have ef0 := blk_frozen HR.out 0
  have ef1 := blk_frozen HR.out 1
  have ef2 := blk_frozen HR.out 2
  have k0 := blk_cell HT.out 0
  have k1 := blk_cell HT.out 1
  have k2 := blk_cell HT.out 2
  have kf0 := blk_frozen HT.out 0
  have kf1 := blk_frozen HT.out 1
  have kf2 := blk_frozen HT.out 2
  by_cases h6 : (now l i).f0 = 6
  · have h6b : ((now l i).f0 != 6) = false := bne_eq_false_iff_eq.mpr h6
    have h6c : ((now l i).f0 == 6) = true := beq_iff_eq.mpr h6
    have HX : Aside0 (nx l i = i) := ⟨by unfold nx; rw [if_pos h6]⟩
    clear h6
    go_wp2
    (try simp only [Exit.inBlock, Exit.then])
    refine bodyPost_ret (results_single rfl (.cell b 32 #[.int .i64 (now l i).f0, .string (now l i).f1, .int .i64 (now l i).f2] (0, 0) _ rfl (by
      refine blk_put (cs := #[.int .i64 (now l i).f0, .string (now l i).f1, .int .i64 0]) ?_ 2 _ rfl
      refine blk_put (cs := #[.int .i64 (now l i).f0, .string ⟨#[]⟩, .int .i64 0]) ?_ 1 _ rfl
      refine blk_put (cs := #[.int .i64 0, .string ⟨#[]⟩, .int .i64 0]) ?_ 0 _ rfl
      exact HR.out) Try.underlying32 rfl (by kernel_rfl) .nil)) rfl ?_
    have hb := below_set (v := .int .i64 (now l i).f2) (j := 2) (below_set (v := .string (now l i).f1) (j := 1) (below_set (v := .int .i64 (now l i).f0) (j := 0) HB.out HL.out) HL.out) HL.out
    rw [HX.out]
    exact ⟨rfl, HE.out.below hb, KeepBut.of_below hb g none⟩
  · have h6b : ((now l i).f0 != 6) = true := bne_iff_ne.mpr h6
    have h6c : ((now l i).f0 == 6) = false := beq_eq_false_iff_ne.mpr h6
    have HX : Aside0 (nx l i = i + 1) := ⟨by unfold nx; rw [if_neg h6]⟩
    clear h6
    go_wp2
    (try simp only [Exit.inBlock, Exit.then])
    refine bodyPost_ret (results_single rfl (.cell b 32 #[.int .i64 (now l i).f0, .string (now l i).f1, .int .i64 (now l i).f2] (0, 0) _ rfl (by
      refine blk_put (cs := #[.int .i64 (now l i).f0, .string (now l i).f1, .int .i64 0]) ?_ 2 _ rfl
      refine blk_put (cs := #[.int .i64 (now l i).f0, .string ⟨#[]⟩, .int .i64 0]) ?_ 1 _ rfl
      refine blk_put (cs := #[.int .i64 0, .string ⟨#[]⟩, .int .i64 0]) ?_ 0 _ rfl
      exact (Below.heap_setCell w2 ⟨g, 1, none⟩ _ b (Ne.symm hgb)).trans HR.out) Try.underlying32 rfl (by kernel_rfl) .nil)) rfl ?_
    have hk := keep_far (p := ⟨b, 2, none⟩) (keep_far (p := ⟨b, 1, none⟩) (keep_far (p := ⟨b, 0, none⟩) (KeepBut.set_ (KeepBut.of_below HB.out g none) 1 (.int .i64 ((i : Int) + 1))) HL.out (.int .i64 (now l i).f0)) HL.out (.string (now l i).f1)) HL.out (.int .i64 (now l i).f2)
    refine ⟨rfl, ?_, hk⟩
    have hfn := HF.out
    rw [HX.out] at hfn ⊢
    refine HE.out.moved hk ?_ (below_set (below_set (below_set (below_set HD.out.old HD.out.ge) HL0.out) HL0.out) HL0.out) hfn
    rw [Below.heap_setCell _ ⟨b, 2, none⟩ _ g hgb, Below.heap_setCell _ ⟨b, 1, none⟩ _ g hgb, Below.heap_setCell _ ⟨b, 0, none⟩ _ g hgb]
    exact blk_put HD.out.blk 1 _ rfl
def tkB (l : List S32) (i : Nat) (kk : Int) (s : ByteArray) : Bool := decide ((now l i).f0 = kk ∧ (now l i).f1.toList = s.toList)
def tkN (l : List S32) (i : Nat) (kk : Int) (s : ByteArray) : Nat := if (now l i).f0 = kk ∧ (now l i).f1.toList = s.toList then nx l i else i
def nmV (l : List S32) (i : Nat) : Value := if (now l i).f0 = 2 then .tuple #[.string (now l i).f1, .bool true] else .tuple #[.string ⟨#[]⟩, .bool false]
def nmN (l : List S32) (i : Nat) : Nat := if (now l i).f0 = 2 then nx l i else i
def inV (l : List S32) (i : Nat) (n er most : Int) : Value := if (now l i).f0 = 3 ∧ er = 0 ∧ n ≤ most then .tuple #[.int .i64 n, .bool true] else .tuple #[.int .i64 0, .bool false]
def inN (l : List S32) (i : Nat) (n er most : Int) : Nat := if (now l i).f0 = 3 ∧ er = 0 ∧ n ≤ most then nx l i else i
def bkN (i : Nat) (n : Int) : Nat := if 0 ≤ n ∧ n ≤ (i : Int) then n.toNat else i
set_option maxHeartbeats 8000000 in
set_option maxRecDepth 100000 in
theorem take_rd {w0 : World} {g : Nat} {A : Addr} {c : Nat} {l : List S32} {i : Nat} (kk : Int) (s : ByteArray) (h6 : kk ≠ 6) (w : World) (h : Rd 25 w0 w g A c l i) :
    Calls Try.prog 32 #[.pointer (some ⟨g, 0, none⟩), .int .i64 kk, .string s] w fun e w' => e = .returned (.bool (tkB l i kk s)) ∧ Rd 25 w0 w' g A c l (tkN l i kk s) ∧ KeepBut w w' g none := by
  have HE := Aside0.mk h
  clear h
  go_enter Try.func32, Try.ntmps32
  have HB : Aside0 (Below w.heap.size w w) := ⟨Below.refl _ _⟩
  go_upto_region 2 with (first | (go_at_call 11; (with_reducible refine (peek_rd w (HE.out.below HB.out)).mono ?_); rintro e w1 ⟨rfl, hb1⟩; have n2_ := Aside0.mk (HB.out.trans (hb1.mono HB.out.size)); clear HB hb1; have HB := n2_; clear n2_))
  obtain ⟨b3, hb3⟩ : ∃ b3, b3 = w1.heap.size := ⟨_, rfl⟩
  have HL3 : Aside0 (w.heap.size ≤ b3) := ⟨by have := HB.out.size; omega⟩
  have n1_ := Aside0.mk (below_alloc HB.out (Obj.cells #[Value.int IntKind.i64 (now l i).f0, Value.string (now l i).f1, Value.int IntKind.i64 (now l i).f2] 32))
  have n2_ := Aside0.mk (heap_alloc_new w1 (Obj.cells #[Value.int IntKind.i64 (now l i).f0, Value.string (now l i).f1, Value.int IntKind.i64 (now l i).f2] 32))
  rw [← hb3] at n2_ ⊢
  clear HB hb3
  generalize (w1.alloc (Obj.cells #[Value.int IntKind.i64 (now l i).f0, Value.string (now l i).f1, Value.int IntKind.i64 (now l i).f2] 32)) = w2 at n1_ n2_ ⊢
  have HB := n1_
  have HT := n2_
  clear n1_ n2_
  have k0 := blk_cell HT.out 0
  have k1 := blk_cell HT.out 1
  have k2 := blk_cell HT.out 2
  have kf0 := blk_frozen HT.out 0
  have kf1 := blk_frozen HT.out 1
  have kf2 := blk_frozen HT.out 2
  by_cases hk0 : (now l i).f0 = kk
  · have hkb : ((now l i).f0 != kk) = false := bne_eq_false_iff_eq.mpr hk0
    have hkc : ((now l i).f0 == kk) = true := beq_iff_eq.mpr hk0
    by_cases hs : (now l i).f1.toList = s.toList
    · have hsb : ((now l i).f1.toList != s.toList) = false := bne_eq_false_iff_eq.mpr hs
      have hsc : ((now l i).f1.toList == s.toList) = true := beq_iff_eq.mpr hs
      have HX : Aside0 ((now l i).f0 = kk ∧ (now l i).f1.toList = s.toList) := ⟨hk0, hs⟩
      clear hk0 hs
      go_wp2_with (first | (go_at_call 12; (with_reducible refine (next_rd w2 (HE.out.below HB.out)).mono ?_); rintro e w3 ⟨rfl, hi, hk⟩; have HI := Aside0.mk hi; have HK := Aside0.mk (KeepBut.trans (KeepBut.of_below HB.out g none) hk (.inl rfl)); clear hi hk))
      go_ret
      exact ⟨by unfold tkB; rw [decide_eq_true HX.out]; rfl, by unfold tkN; rw [if_pos HX.out]; exact HI.out, HK.out⟩
    · have hsb : ((now l i).f1.toList != s.toList) = true := bne_iff_ne.mpr hs
      have hsc : ((now l i).f1.toList == s.toList) = false := beq_eq_false_iff_ne.mpr hs
      have HX : Aside0 (¬ ((now l i).f0 = kk ∧ (now l i).f1.toList = s.toList)) := ⟨fun h => hs h.2⟩
      clear hk0 hs
      go_wp2
      go_ret
      exact ⟨by unfold tkB; rw [decide_eq_false HX.out]; rfl, by unfold tkN; rw [if_neg HX.out]; exact HE.out.below HB.out, KeepBut.of_below HB.out g none⟩
  · have hkb : ((now l i).f0 != kk) = true := bne_iff_ne.mpr hk0
    have hkc : ((now l i).f0 == kk) = false := beq_eq_false_iff_ne.mpr hk0
    have HX : Aside0 (¬ ((now l i).f0 = kk ∧ (now l i).f1.toList = s.toList)) := ⟨fun h => hk0 h.1⟩
    clear hk0
    go_wp2
    go_ret
    exact ⟨by unfold tkB; rw [decide_eq_false HX.out]; rfl, by unfold tkN; rw [if_neg HX.out]; exact HE.out.below HB.out, KeepBut.of_below HB.out g none⟩
set_option maxHeartbeats 8000000 in
set_option maxRecDepth 100000 in
theorem sign_rd {w0 : World} {g : Nat} {A : Addr} {c : Nat} {l : List S32} {i : Nat} (s : ByteArray) (w : World) (h : Rd 25 w0 w g A c l i) :
    Calls Try.prog 13 #[.pointer (some ⟨g, 0, none⟩), .string s] w fun e w' => e = .returned (.bool (tkB l i 5 s)) ∧ Rd 25 w0 w' g A c l (tkN l i 5 s) ∧ KeepBut w w' g none := by
  have HE := Aside0.mk h
  clear h
  go_enter Try.func13, Try.ntmps13
  go_wp2_with (first | (go_at_call 32; (with_reducible refine (take_rd 5 s (by decide) w HE.out).mono ?_); rintro e w3 ⟨rfl, hi, hk⟩; have HI := Aside0.mk hi; have HK := Aside0.mk hk; clear hi hk))
  go_ret
  exact ⟨rfl, HI.out, HK.out⟩
set_option maxHeartbeats 8000000 in
set_option maxRecDepth 100000 in
theorem word_rd {w0 : World} {g : Nat} {A : Addr} {c : Nat} {l : List S32} {i : Nat} (s : ByteArray) (w : World) (h : Rd 25 w0 w g A c l i) :
    Calls Try.prog 14 #[.pointer (some ⟨g, 0, none⟩), .string s] w fun e w' => e = .returned (.bool (tkB l i 1 s)) ∧ Rd 25 w0 w' g A c l (tkN l i 1 s) ∧ KeepBut w w' g none := by
  have HE := Aside0.mk h
  clear h
  go_enter Try.func14, Try.ntmps14
  go_wp2_with (first | (go_at_call 32; (with_reducible refine (take_rd 1 s (by decide) w HE.out).mono ?_); rintro e w3 ⟨rfl, hi, hk⟩; have HI := Aside0.mk hi; have HK := Aside0.mk hk; clear hi hk))
  go_ret
  exact ⟨rfl, HI.out, HK.out⟩
set_option maxHeartbeats 8000000 in
set_option maxRecDepth 100000 in
theorem name_rd {w0 : World} {g : Nat} {A : Addr} {c : Nat} {l : List S32} {i : Nat} (w : World) (h : Rd 25 w0 w g A c l i) : Calls Try.prog 8 #[.pointer (some ⟨g, 0, none⟩)] w fun e w' => e = .returned (nmV l i) ∧ Rd 25 w0 w' g A c l (nmN l i) ∧ KeepBut w w' g none := by
  have HE := Aside0.mk h
  clear h
  go_enter Try.func8, Try.ntmps8
  have HB : Aside0 (Below w.heap.size w w) := ⟨Below.refl _ _⟩
  go_upto_region 2 with (first | (go_at_call 11; (with_reducible refine (peek_rd w (HE.out.below HB.out)).mono ?_); rintro e w1 ⟨rfl, hb1⟩; have n2_ := Aside0.mk (HB.out.trans (hb1.mono HB.out.size)); clear HB hb1; have HB := n2_; clear n2_))
  obtain ⟨b3, hb3⟩ : ∃ b3, b3 = w1.heap.size := ⟨_, rfl⟩
  have HL3 : Aside0 (w.heap.size ≤ b3) := ⟨by have := HB.out.size; omega⟩
  have n1_ := Aside0.mk (below_alloc HB.out (Obj.cells #[Value.int IntKind.i64 (now l i).f0, Value.string (now l i).f1, Value.int IntKind.i64 (now l i).f2] 32))
  have n2_ := Aside0.mk (heap_alloc_new w1 (Obj.cells #[Value.int IntKind.i64 (now l i).f0, Value.string (now l i).f1, Value.int IntKind.i64 (now l i).f2] 32))
  rw [← hb3] at n2_ ⊢
  clear HB hb3
  generalize (w1.alloc (Obj.cells #[Value.int IntKind.i64 (now l i).f0, Value.string (now l i).f1, Value.int IntKind.i64 (now l i).f2] 32)) = w2 at n1_ n2_ ⊢
  have HB := n1_
  have HT := n2_
  clear n1_ n2_
  have k0 := blk_cell HT.out 0
  have k1 := blk_cell HT.out 1
  have k2 := blk_cell HT.out 2
  have kf0 := blk_frozen HT.out 0
  have kf1 := blk_frozen HT.out 1
  have kf2 := blk_frozen HT.out 2
  by_cases hk0 : (now l i).f0 = 2
  · have hkb : ((now l i).f0 != 2) = false := bne_eq_false_iff_eq.mpr hk0
    have HX := Aside0.mk hk0
    have hg3 : b3 ≠ g := by have := HE.out.lt; have := HL3.out; omega
    clear hk0
    go_wp2_with (first | (go_at_call 12; (with_reducible refine (next_rd w2 (HE.out.below HB.out)).mono ?_); rintro e w3 ⟨rfl, hi, hk⟩; have HT3 := Aside0.mk (KeepBut.blk hk HT.out hg3 (by simp)); have HI := Aside0.mk hi; have HK := Aside0.mk (KeepBut.trans (KeepBut.of_below HB.out g none) hk (.inl rfl)); clear hi hk; have m1 := blk_cell HT3.out 1))
    go_ret2
    exact ⟨by unfold nmV; rw [if_pos HX.out]; rfl, by unfold nmN; rw [if_pos HX.out]; exact HI.out, HK.out⟩
  · have hkb : ((now l i).f0 != 2) = true := bne_iff_ne.mpr hk0
    have HX := Aside0.mk hk0
    clear hk0
    go_wp2
    go_ret2
    exact ⟨by unfold nmV; rw [if_neg HX.out]; rfl, by unfold nmN; rw [if_neg HX.out]; exact HE.out.below HB.out, KeepBut.of_below HB.out g none⟩
set_option maxHeartbeats 8000000 in
set_option maxRecDepth 100000 in
theorem int_rd {w0 : World} {g : Nat} {A : Addr} {c : Nat} {l : List S32} {i : Nat} (most : Int) (K : Nat) (n er : Int) (hp : num_Parse.f K (now l i).f1 = some (n, er)) (w : World) (h : Rd 25 w0 w g A c l i) :
    Calls Try.prog 9 #[.pointer (some ⟨g, 0, none⟩), .int .i64 most] w fun e w' => e = .returned (inV l i n er most) ∧ Rd 25 w0 w' g A c l (inN l i n er most) ∧ KeepBut w w' g none := by
  have HE := Aside0.mk h
  have PN := Aside0.mk hp
  clear h hp
  go_enter Try.func9, Try.ntmps9
  have HB : Aside0 (Below w.heap.size w w) := ⟨Below.refl _ _⟩
  go_upto_region 2 with (first | (go_at_call 11; (with_reducible refine (peek_rd w (HE.out.below HB.out)).mono ?_); rintro e w1 ⟨rfl, hb1⟩; have n2_ := Aside0.mk (HB.out.trans (hb1.mono HB.out.size)); clear HB hb1; have HB := n2_; clear n2_))
  obtain ⟨b3, hb3⟩ : ∃ b3, b3 = w1.heap.size := ⟨_, rfl⟩
  have HL3 : Aside0 (w.heap.size ≤ b3) := ⟨by have := HB.out.size; omega⟩
  have n1_ := Aside0.mk (below_alloc HB.out (Obj.cells #[Value.int IntKind.i64 (now l i).f0, Value.string (now l i).f1, Value.int IntKind.i64 (now l i).f2] 32))
  have n2_ := Aside0.mk (heap_alloc_new w1 (Obj.cells #[Value.int IntKind.i64 (now l i).f0, Value.string (now l i).f1, Value.int IntKind.i64 (now l i).f2] 32))
  rw [← hb3] at n2_ ⊢
  clear HB hb3
  generalize (w1.alloc (Obj.cells #[Value.int IntKind.i64 (now l i).f0, Value.string (now l i).f1, Value.int IntKind.i64 (now l i).f2] 32)) = w2 at n1_ n2_ ⊢
  have HB := n1_
  have HT := n2_
  clear n1_ n2_
  have k0 := blk_cell HT.out 0
  have k1 := blk_cell HT.out 1
  have k2 := blk_cell HT.out 2
  have kf0 := blk_frozen HT.out 0
  have kf1 := blk_frozen HT.out 1
  have kf2 := blk_frozen HT.out 2
  by_cases hk0 : (now l i).f0 = 3
  · have hkb : ((now l i).f0 != 3) = false := bne_eq_false_iff_eq.mpr hk0
    by_cases he : er = 0
    · have heb : (er != 0) = false := bne_eq_false_iff_eq.mpr he
      by_cases hm : n > most
      · have hmb : decide (n > most) = true := decide_eq_true hm
        have hmc : decide (most < n) = true := decide_eq_true hm
        have HX : Aside0 (¬ ((now l i).f0 = 3 ∧ er = 0 ∧ n ≤ most)) := ⟨fun h => by have := h.2.2; omega⟩
        clear hk0 he
        go_wp2_with (first | (go_at_call 30; (with_reducible refine (num_Parse.calls K (now l i).f1 n er _ PN.out).mono ?_); rintro e w4 ⟨rfl, hb1⟩; have n1_ := Aside0.mk (HB.out.trans (hb1.mono HB.out.size)); clear HB hb1; have HB := n1_; clear n1_))
        go_ret2
        exact ⟨by unfold inV; rw [if_neg HX.out]; rfl, by unfold inN; rw [if_neg HX.out]; exact HE.out.below HB.out, KeepBut.of_below HB.out g none⟩

      · have hmb : decide (n > most) = false := decide_eq_false hm
        have hmc : decide (most < n) = false := decide_eq_false hm
        have HX : Aside0 ((now l i).f0 = 3 ∧ er = 0 ∧ n ≤ most) := ⟨hk0, he, by omega⟩
        clear hk0 he
        go_wp2_with (first | (go_at_call 30; (with_reducible refine (num_Parse.calls K (now l i).f1 n er _ PN.out).mono ?_); rintro e w4 ⟨rfl, hb1⟩; have n1_ := Aside0.mk (HB.out.trans (hb1.mono HB.out.size)); clear HB hb1; have HB := n1_; clear n1_) | (go_at_call 12; (with_reducible refine (next_rd w4 (HE.out.below HB.out)).mono ?_); rintro e w3 ⟨rfl, hi, hk⟩; have HI := Aside0.mk hi; have HK := Aside0.mk (KeepBut.trans (KeepBut.of_below HB.out g none) hk (.inl rfl)); clear hi hk))
        go_ret2
        exact ⟨by unfold inV; rw [if_pos HX.out]; rfl, by unfold inN; rw [if_pos HX.out]; exact HI.out, HK.out⟩
    · have heb : (er != 0) = true := bne_iff_ne.mpr he
      have HX : Aside0 (¬ ((now l i).f0 = 3 ∧ er = 0 ∧ n ≤ most)) := ⟨fun h => he h.2.1⟩
      clear hk0 he
      go_wp2_with (first | (go_at_call 30; (with_reducible refine (num_Parse.calls K (now l i).f1 n er _ PN.out).mono ?_); rintro e w4 ⟨rfl, hb1⟩; have n1_ := Aside0.mk (HB.out.trans (hb1.mono HB.out.size)); clear HB hb1; have HB := n1_; clear n1_))
      go_ret2
      exact ⟨by unfold inV; rw [if_neg HX.out]; rfl, by unfold inN; rw [if_neg HX.out]; exact HE.out.below HB.out, KeepBut.of_below HB.out g none⟩

  · have hkb : ((now l i).f0 != 3) = true := bne_iff_ne.mpr hk0
    have HX : Aside0 (¬ ((now l i).f0 = 3 ∧ er = 0 ∧ n ≤ most)) := ⟨fun h => hk0 h.1⟩
    clear hk0
    go_wp2
    go_ret2
    exact ⟨by unfold inV; rw [if_neg HX.out]; rfl, by unfold inN; rw [if_neg HX.out]; exact HE.out.below HB.out, KeepBut.of_below HB.out g none⟩

set_option maxHeartbeats 8000000 in
set_option maxRecDepth 100000 in
theorem at_rd {w0 : World} {g : Nat} {A : Addr} {c : Nat} {l : List S32} {i : Nat} (w : World) (h : Rd 25 w0 w g A c l i) : Calls Try.prog 15 #[.pointer (some ⟨g, 0, none⟩)] w fun e w' => e = .returned (.int .i64 (now l i).f2) ∧ Below w.heap.size w w' := by
  have HE := Aside0.mk h
  clear h
  have hf := fld2 (.int .i64 (now l i).f0) (.string (now l i).f1) (.int .i64 (now l i).f2)
  go_enter Try.func15, Try.ntmps15
  go_wp2_with (first | (go_at_call 11; (with_reducible refine (peek_rd w HE.out).mono ?_); rintro e w1 ⟨rfl, hb1⟩))
  go_ret
  exact ⟨rfl, hb1⟩
set_option maxHeartbeats 8000000 in
set_option maxRecDepth 100000 in
theorem mark_rd {w0 : World} {g : Nat} {A : Addr} {c : Nat} {l : List S32} {i : Nat} (w : World) (h : Rd 25 w0 w g A c l i) : Calls Try.prog 16 #[.pointer (some ⟨g, 0, none⟩)] w fun e w' => e = .returned (.int .i64 (i : Int)) ∧ Below w.heap.size w w' := by
  have HE := Aside0.mk h
  clear h
  go_enter Try.func16, Try.ntmps16
  go_wp2_with (first | (go_at_call 31; (with_reducible refine (none_rd w HE.out).mono ?_); rintro e w1 ⟨rfl, hb1⟩; obtain ⟨c0, c1, f1⟩ := (HE.out.below hb1).cells))
  go_ret
  exact ⟨rfl, hb1⟩
set_option maxHeartbeats 8000000 in
set_option maxRecDepth 100000 in
theorem back_rd {w0 : World} {g : Nat} {A : Addr} {c : Nat} {l : List S32} {i : Nat} (n : Int) (w : World) (h : Rd 25 w0 w g A c l i) :
    Calls Try.prog 10 #[.pointer (some ⟨g, 0, none⟩), .int .i64 n] w fun e w' => e = .returned (.tuple #[]) ∧ Rd 25 w0 w' g A c l (bkN i n) ∧ KeepBut w w' g none := by
  have HE := Aside0.mk h
  have hl := h.fit
  clear h
  go_enter Try.func10, Try.ntmps10
  by_cases h0 : n ≥ 0
  · have h0b : decide (n ≥ 0) = true := decide_eq_true h0
    have h0c : decide (0 ≤ n) = true := decide_eq_true h0
    by_cases h1 : n ≤ (i : Int)
    · have h1b : decide (n ≤ (i : Int)) = true := decide_eq_true h1
      have HX : Aside0 (0 ≤ n ∧ n ≤ (i : Int)) := ⟨h0, h1⟩
      go_wp2_with (first | (go_at_call 31; (with_reducible refine (none_rd w HE.out).mono ?_); rintro e w1 ⟨rfl, hb1⟩; obtain ⟨c0, c1, f1⟩ := (HE.out.below hb1).cells; have HD := Aside0.mk (HE.out.below hb1)))
      go_end0
      have hk := KeepBut.set_ (KeepBut.of_below hb1 g none) 1 (.int .i64 n)
      refine ⟨rfl, ?_, hk⟩
      unfold bkN
      rw [if_pos HX.out]
      refine HE.out.moved hk ?_ (below_set HD.out.old HD.out.ge) (by have := HX.out; omega)
      have hb := blk_put HD.out.blk 1 (.int .i64 n) rfl
      rw [show ((n.toNat : Nat) : Int) = n from by omega]
      exact hb
    · have h1b : decide (n ≤ (i : Int)) = false := decide_eq_false h1
      have HX : Aside0 (¬ (0 ≤ n ∧ n ≤ (i : Int))) := ⟨fun h => h1 h.2⟩
      go_wp2_with (first | (go_at_call 31; (with_reducible refine (none_rd w HE.out).mono ?_); rintro e w1 ⟨rfl, hb1⟩; obtain ⟨c0, c1, f1⟩ := (HE.out.below hb1).cells; have HD := Aside0.mk (HE.out.below hb1)))
      go_end0
      exact ⟨rfl, by unfold bkN; rw [if_neg HX.out]; exact HD.out, KeepBut.of_below hb1 g none⟩
  · have h0b : decide (n ≥ 0) = false := decide_eq_false h0
    have h0c : decide (0 ≤ n) = false := decide_eq_false h0
    have HX : Aside0 (¬ (0 ≤ n ∧ n ≤ (i : Int))) := ⟨fun h => h0 h.1⟩
    go_wp2_with (first | (go_at_call 31; (with_reducible refine (none_rd w HE.out).mono ?_); rintro e w1 ⟨rfl, hb1⟩; obtain ⟨c0, c1, f1⟩ := (HE.out.below hb1).cells; have HD := Aside0.mk (HE.out.below hb1)))
    go_end0
    exact ⟨rfl, by unfold bkN; rw [if_neg HX.out]; exact HD.out, KeepBut.of_below hb1 g none⟩
end Reader
end Go.Proofs.Ytkbngfelegcplaa.PAll
