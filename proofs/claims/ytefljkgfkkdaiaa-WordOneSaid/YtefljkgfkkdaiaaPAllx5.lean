/- Functions of the Go program as plain Lean functions, and the proofs that the code comes to just their answers; of a law, the row. Written by a program of this session (wip/myprint.py over the given print). No condition. -/
import Derived.Test.YtefljkgfkkdaiaaPAllx0
import Derived.Test.YtefljkgfkkdaiaaPAllx1
import Derived.Test.YtefljkgfkkdaiaaPAllx2
import Derived.Test.YtefljkgfkkdaiaaPAllx3
import Derived.Test.YtefljkgfkkdaiaaPAllx4
namespace Go.Proofs.Ytefljkgfkkdaiaa.PAll
open Go.RowKit Go.Proofs.YtefljkgfkkdaiaaW.PrintWords Go.Proofs.YtefljkgfkkdaiaaW.PrintLast Go.Proofs.YtefljkgfkkdaiaaW.PrintMore
attribute [local go_sem] max2_int min2_int max_two min_two max_three min_three max_four min_four   -- for this text's walks alone
set_option linter.unusedVariables false
set_option linter.unusedSimpArgs false

/-! ### haruspexlaw05_WordQuotes: function 5 -/
def haruspexlaw05_WordQuotes.f (k : Nat) (a0 : ByteArray) (a1 : ByteArray) : Option (Bool) := (word_Quote.f a0).bind fun bt154 => ((haruspexref05_Quote.f k a0).bind fun bt156 => ((word_Unquote.f k a1).bind fun bt158 => ((haruspexref05_Unquote.f k a1).bind fun bt161 => (if bt154.1.toList = bt156.1.toList then (if bt154.2 = bt156.2 then (if bt158.1.toList = bt161.1.toList then (if bt158.2.1 = bt161.2.1 then (if bt158.2.2 = bt161.2.2 then ((haruspexlaw05_awake.f).bind fun t164 => (some t164)) else (none)) else (none)) else (none)) else (none)) else (none)))))
theorem haruspexlaw05_WordQuotes.mono : ∀ a0 a1 k, LeO (haruspexlaw05_WordQuotes.f k a0 a1) (haruspexlaw05_WordQuotes.f (k + 1) a0 a1) := by
  intro a0 a1 k
  unfold haruspexlaw05_WordQuotes.f
  repeat' first
      | (with_reducible exact haruspexref05_Quote.mono _ _)
      | (with_reducible exact haruspexref05_Unquote.mono _ _)
      | (with_reducible exact word_Unquote.mono _ _)
      | (with_reducible exact LeO.refl _)
      | (with_reducible exact LeO.none _)
      | (with_reducible refine LeO.ite ?_ ?_)
      | (with_reducible refine LeO.bind ?_ (fun _ => ?_))
      | exact haruspexref05_Quote.mono _ _
      | exact haruspexref05_Unquote.mono _ _
      | exact word_Unquote.mono _ _
      | exact LeO.none _
      | refine LeO.ite ?_ ?_
      | refine LeO.bind ?_ (fun _ => ?_)
set_option maxHeartbeats 8000000 in
set_option maxRecDepth 100000 in
theorem haruspexlaw05_WordQuotes.calls (k : Nat) (a0 : ByteArray) (a1 : ByteArray) (r : Bool) (w : World) (h : haruspexlaw05_WordQuotes.f k a0 a1 = some r) :
    Calls Try.prog 5 #[.string a0, .string a1] w fun e w' => e = .returned (.bool r) ∧ Below w.heap.size w w' := by
  have HB := Aside0.mk (Below.refl w.heap.size w)
  have H : ((word_Quote.f a0).bind fun bt154 => ((haruspexref05_Quote.f k a0).bind fun bt156 => ((word_Unquote.f k a1).bind fun bt158 => ((haruspexref05_Unquote.f k a1).bind fun bt161 => (if bt154.1.toList = bt156.1.toList then (if bt154.2 = bt156.2 then (if bt158.1.toList = bt161.1.toList then (if bt158.2.1 = bt161.2.1 then (if bt158.2.2 = bt161.2.2 then ((haruspexlaw05_awake.f).bind fun t164 => (some t164)) else (none)) else (none)) else (none)) else (none)) else (none)))))) = some r := h
  clear h
  replace H := Option.bind_eq_some_iff.mp H
  obtain ⟨⟨t154, t155⟩, A30, H⟩ := H
  replace H : ((haruspexref05_Quote.f k a0).bind fun bt156 => ((word_Unquote.f k a1).bind fun bt158 => ((haruspexref05_Unquote.f k a1).bind fun bt161 => (if t154.toList = bt156.1.toList then (if t155 = bt156.2 then (if bt158.1.toList = bt161.1.toList then (if bt158.2.1 = bt161.2.1 then (if bt158.2.2 = bt161.2.2 then ((haruspexlaw05_awake.f).bind fun t164 => (some t164)) else (none)) else (none)) else (none)) else (none)) else (none))))) = some r := H
  have A3 := Aside0.mk A30
  clear A30
  replace H := Option.bind_eq_some_iff.mp H
  obtain ⟨⟨t156, t157⟩, A40, H⟩ := H
  replace H : ((word_Unquote.f k a1).bind fun bt158 => ((haruspexref05_Unquote.f k a1).bind fun bt161 => (if t154.toList = t156.toList then (if t155 = t157 then (if bt158.1.toList = bt161.1.toList then (if bt158.2.1 = bt161.2.1 then (if bt158.2.2 = bt161.2.2 then ((haruspexlaw05_awake.f).bind fun t164 => (some t164)) else (none)) else (none)) else (none)) else (none)) else (none)))) = some r := H
  have A4 := Aside0.mk A40
  clear A40
  replace H := Option.bind_eq_some_iff.mp H
  obtain ⟨⟨t158, t159, t160⟩, A50, H⟩ := H
  replace H : ((haruspexref05_Unquote.f k a1).bind fun bt161 => (if t154.toList = t156.toList then (if t155 = t157 then (if t158.toList = bt161.1.toList then (if t159 = bt161.2.1 then (if t160 = bt161.2.2 then ((haruspexlaw05_awake.f).bind fun t164 => (some t164)) else (none)) else (none)) else (none)) else (none)) else (none))) = some r := H
  have A5 := Aside0.mk A50
  clear A50
  replace H := Option.bind_eq_some_iff.mp H
  obtain ⟨⟨t161, t162, t163⟩, A60, H⟩ := H
  replace H : (if t154.toList = t156.toList then (if t155 = t157 then (if t158.toList = t161.toList then (if t159 = t162 then (if t160 = t163 then ((haruspexlaw05_awake.f).bind fun t164 => (some t164)) else (none)) else (none)) else (none)) else (none)) else (none)) = some r := H
  have A6 := Aside0.mk A60
  clear A60
  by_cases c7 : t154.toList = t156.toList
  · rw [if_pos c7] at H
    have c7b0 : (t154.toList == t156.toList) = true := beq_iff_eq.mpr c7
    have c7b1 : (t154.toList != t156.toList) = false := bne_eq_false_iff_eq.mpr c7
    clear c7
    by_cases c8 : t155 = t157
    · rw [if_pos c8] at H
      have c8b0 : (t155 == t157) = true := beq_iff_eq.mpr c8
      have c8b1 : (t155 != t157) = false := bne_eq_false_iff_eq.mpr c8
      clear c8
      by_cases c9 : t158.toList = t161.toList
      · rw [if_pos c9] at H
        have c9b0 : (t158.toList == t161.toList) = true := beq_iff_eq.mpr c9
        have c9b1 : (t158.toList != t161.toList) = false := bne_eq_false_iff_eq.mpr c9
        clear c9
        by_cases c10 : t159 = t162
        · rw [if_pos c10] at H
          have c10b0 : (t159 == t162) = true := beq_iff_eq.mpr c10
          have c10b1 : (t159 != t162) = false := bne_eq_false_iff_eq.mpr c10
          clear c10
          by_cases c11 : t160 = t163
          · rw [if_pos c11] at H
            have c11b0 : (t160 == t163) = true := beq_iff_eq.mpr c11
            have c11b1 : (t160 != t163) = false := bne_eq_false_iff_eq.mpr c11
            clear c11
            replace H := Option.bind_eq_some_iff.mp H
            obtain ⟨t164, A120, H⟩ := H
            replace H : (some t164) = some r := H
            have A12 := Aside0.mk A120
            clear A120
            obtain rfl := Option.some.inj H
            go_enter Try.func5, Try.ntmps5
            go_wp2_with (first | ((with_reducible refine gate_callee (f := 16) rfl ?_); refine goesL_ (some 17) rfl rfl Try.func16 (by kernel_rfl) rfl #[.string a0] rfl (by (try simp only [List.map_toArray, List.map_cons, List.map_nil]); first | done | rfl | (simp only [List.length_drop, List.length_take]; rfl)) ?_; (with_reducible refine (word_Quote.calls a0 t154 t155 _ A3.out).mono ?_); rintro e w13 ⟨rfl, hb⟩; refine ⟨_, rfl, ?_⟩; have n0_ := Aside0.mk (below_step (by repeat (first | (with_reducible first | exact HB.out | apply below_alloc | apply pw_below_drewN | apply below_drew1) | exact HB.out)) hb); clear HB; have HB := n0_; clear n0_; (try clear hb); (try clear hb2); (try clear hk); (try clear hi)) | ((with_reducible refine gate_callee (f := 17) rfl ?_); refine goesL_ (some 22) rfl rfl Try.func17 (by kernel_rfl) rfl #[.string a0] rfl (by (try simp only [List.map_toArray, List.map_cons, List.map_nil]); first | done | rfl | (simp only [List.length_drop, List.length_take]; rfl)) ?_; (with_reducible refine (haruspexref05_Quote.calls k a0 t156 t157 _ A4.out).mono ?_); rintro e w14 ⟨rfl, hb⟩; refine ⟨_, rfl, ?_⟩; have n0_ := Aside0.mk (below_step (by repeat (first | (with_reducible first | exact HB.out | apply below_alloc | apply pw_below_drewN | apply below_drew1) | exact HB.out)) hb); clear HB; have HB := n0_; clear n0_; (try clear hb); (try clear hb2); (try clear hk); (try clear hi)) | ((with_reducible refine gate_callee (f := 18) rfl ?_); refine goesL_ (some 27) rfl rfl Try.func18 (by kernel_rfl) rfl #[.string a1] rfl (by (try simp only [List.map_toArray, List.map_cons, List.map_nil]); first | done | rfl | (simp only [List.length_drop, List.length_take]; rfl)) ?_; (with_reducible refine (word_Unquote.calls k a1 t158 t159 t160 _ A5.out).mono ?_); rintro e w15 ⟨rfl, hb⟩; refine ⟨_, rfl, ?_⟩; have n0_ := Aside0.mk (below_step (by repeat (first | (with_reducible first | exact HB.out | apply below_alloc | apply pw_below_drewN | apply below_drew1) | exact HB.out)) hb); clear HB; have HB := n0_; clear n0_; (try clear hb); (try clear hb2); (try clear hk); (try clear hi)) | ((with_reducible refine gate_callee (f := 19) rfl ?_); refine goesL_ (some 33) rfl rfl Try.func19 (by kernel_rfl) rfl #[.string a1] rfl (by (try simp only [List.map_toArray, List.map_cons, List.map_nil]); first | done | rfl | (simp only [List.length_drop, List.length_take]; rfl)) ?_; (with_reducible refine (haruspexref05_Unquote.calls k a1 t161 t162 t163 _ A6.out).mono ?_); rintro e w16 ⟨rfl, hb⟩; refine ⟨_, rfl, ?_⟩; have n0_ := Aside0.mk (below_step (by repeat (first | (with_reducible first | exact HB.out | apply below_alloc | apply pw_below_drewN | apply below_drew1) | exact HB.out)) hb); clear HB; have HB := n0_; clear n0_; (try clear hb); (try clear hb2); (try clear hk); (try clear hi)) | (go_at_call 11; (with_reducible refine (haruspexlaw05_awake.calls  t164 _ A12.out).mono ?_); rintro e w17 ⟨rfl, hb⟩; have n0_ := Aside0.mk (below_step (by repeat (first | (with_reducible first | exact HB.out | apply below_alloc | apply pw_below_drewN | apply below_drew1) | exact HB.out)) hb); clear HB; have HB := n0_; clear n0_; (try clear hb); (try clear hb2); (try clear hk); (try clear hi)))
            go_ret
            exact ⟨by first | rfl | (simp [errW_none, errW_some] <;> rfl) | (simp [*, errW_none, errW_some] <;> rfl), by repeat (first | (with_reducible first | exact HB.out | apply below_alloc | apply pw_below_drewN | apply below_drew1) | exact HB.out)⟩
          · rw [if_neg c11] at H
            exact absurd H (by simp)
        · rw [if_neg c10] at H
          exact absurd H (by simp)
      · rw [if_neg c9] at H
        exact absurd H (by simp)
    · rw [if_neg c8] at H
      exact absurd H (by simp)
  · rw [if_neg c7] at H
    exact absurd H (by simp)

/-- THE ONE PURE STATEMENT of haruspexlaw05_WordQuotes: yours. -/
def haruspexlaw05_WordQuotes.Pure : Prop := ∀ (a0 : ByteArray) (a1 : ByteArray), a0.size ≤ 140737488351232 → a1.size ≤ 140737488351232 → ∃ k, haruspexlaw05_WordQuotes.f k a0 a1 = some true
theorem haruspexlaw05_WordQuotes.walk (P : haruspexlaw05_WordQuotes.Pure) (a0 : ByteArray) (a1 : ByteArray) (w : World) (w0 : a0.size ≤ 140737488351232) (w1 : a1.size ≤ 140737488351232) :
    Calls Try.prog 5 #[.string a0, .string a1] w fun e w' => e = .returned (.bool true) ∧ Below w.heap.size w w' := by
  obtain ⟨k, h⟩ := P a0 a1 w0 w1
  refine (haruspexlaw05_WordQuotes.calls k a0 a1 true w h).mono ?_
  rintro e w' ⟨rfl, hd⟩
  exact ⟨rfl, hd⟩

/-! ### haruspexlaw05_WordBack: function 6 -/
def haruspexlaw05_WordBack.f (k : Nat) (a0 : ByteArray) (a1 : ByteArray) : Option (Bool) := (word_Quote.f a0).bind fun bt165 => (if bt165.2 = 0 then (if bt165.1.size + a1.size ≤ 9223372036854775807 then ((word_Unquote.f k (bt165.1 ++ a1)).bind fun bt167 => (if bt167.2.2 = 0 then (if bt167.1.toList = a0.toList then (if bt167.2.1 = (bt165.1.size : Int) then ((haruspexlaw05_awake.f).bind fun t170 => (some t170)) else (none)) else (none)) else (none))) else (none)) else (if bt165.2 = 2 then (if (a0.size : Int) > 256 then ((haruspexlaw05_awake.f).bind fun t171 => (some t171)) else (none)) else (none)))
theorem haruspexlaw05_WordBack.mono : ∀ a0 a1 k, LeO (haruspexlaw05_WordBack.f k a0 a1) (haruspexlaw05_WordBack.f (k + 1) a0 a1) := by
  intro a0 a1 k
  unfold haruspexlaw05_WordBack.f
  repeat' first
      | (with_reducible exact word_Unquote.mono _ _)
      | (with_reducible exact LeO.refl _)
      | (with_reducible exact LeO.none _)
      | (with_reducible refine LeO.ite ?_ ?_)
      | (with_reducible refine LeO.bind ?_ (fun _ => ?_))
      | exact word_Unquote.mono _ _
      | exact LeO.none _
      | refine LeO.ite ?_ ?_
      | refine LeO.bind ?_ (fun _ => ?_)
set_option maxHeartbeats 8000000 in
set_option maxRecDepth 100000 in
theorem haruspexlaw05_WordBack.calls (k : Nat) (a0 : ByteArray) (a1 : ByteArray) (r : Bool) (w : World) (h : haruspexlaw05_WordBack.f k a0 a1 = some r) :
    Calls Try.prog 6 #[.string a0, .string a1] w fun e w' => e = .returned (.bool r) ∧ Below w.heap.size w w' := by
  have HB := Aside0.mk (Below.refl w.heap.size w)
  have H : ((word_Quote.f a0).bind fun bt165 => (if bt165.2 = 0 then (if bt165.1.size + a1.size ≤ 9223372036854775807 then ((word_Unquote.f k (bt165.1 ++ a1)).bind fun bt167 => (if bt167.2.2 = 0 then (if bt167.1.toList = a0.toList then (if bt167.2.1 = (bt165.1.size : Int) then ((haruspexlaw05_awake.f).bind fun t170 => (some t170)) else (none)) else (none)) else (none))) else (none)) else (if bt165.2 = 2 then (if (a0.size : Int) > 256 then ((haruspexlaw05_awake.f).bind fun t171 => (some t171)) else (none)) else (none)))) = some r := h
  clear h
  replace H := Option.bind_eq_some_iff.mp H
  obtain ⟨⟨t165, t166⟩, A30, H⟩ := H
  replace H : (if t166 = 0 then (if t165.size + a1.size ≤ 9223372036854775807 then ((word_Unquote.f k (t165 ++ a1)).bind fun bt167 => (if bt167.2.2 = 0 then (if bt167.1.toList = a0.toList then (if bt167.2.1 = (t165.size : Int) then ((haruspexlaw05_awake.f).bind fun t170 => (some t170)) else (none)) else (none)) else (none))) else (none)) else (if t166 = 2 then (if (a0.size : Int) > 256 then ((haruspexlaw05_awake.f).bind fun t171 => (some t171)) else (none)) else (none))) = some r := H
  have A3 := Aside0.mk A30
  clear A30
  by_cases c4 : t166 = 0
  · rw [if_pos c4] at H
    have c4b0 : (t166 == 0) = true := beq_iff_eq.mpr c4
    have c4b1 : (t166 != 0) = false := bne_eq_false_iff_eq.mpr c4
    clear c4
    by_cases c5 : t165.size + a1.size ≤ 9223372036854775807
    · rw [if_pos c5] at H
      have c5b0 := eq_true c5
      have c5b1 : decide (t165.size + a1.size ≤ 9223372036854775807) = true := decide_eq_true c5
      try have c5b2 : (9223372036854775807 < t165.size + a1.size) = False := eq_false (Nat.not_lt.2 c5)
      replace H := Option.bind_eq_some_iff.mp H
      obtain ⟨⟨t167, t168, t169⟩, A60, H⟩ := H
      replace H : (if t169 = 0 then (if t167.toList = a0.toList then (if t168 = (t165.size : Int) then ((haruspexlaw05_awake.f).bind fun t170 => (some t170)) else (none)) else (none)) else (none)) = some r := H
      have A6 := Aside0.mk A60
      clear A60
      by_cases c7 : t169 = 0
      · rw [if_pos c7] at H
        have c7b0 : (t169 == 0) = true := beq_iff_eq.mpr c7
        have c7b1 : (t169 != 0) = false := bne_eq_false_iff_eq.mpr c7
        clear c7
        by_cases c8 : t167.toList = a0.toList
        · rw [if_pos c8] at H
          have c8b0 : (t167.toList == a0.toList) = true := beq_iff_eq.mpr c8
          have c8b1 : (t167.toList != a0.toList) = false := bne_eq_false_iff_eq.mpr c8
          clear c8
          by_cases c9 : t168 = (t165.size : Int)
          · rw [if_pos c9] at H
            have c9b0 : (t168 == (t165.size : Int)) = true := beq_iff_eq.mpr c9
            have c9b1 : (t168 != (t165.size : Int)) = false := bne_eq_false_iff_eq.mpr c9
            clear c9
            replace H := Option.bind_eq_some_iff.mp H
            obtain ⟨t170, A100, H⟩ := H
            replace H : (some t170) = some r := H
            have A10 := Aside0.mk A100
            clear A100
            obtain rfl := Option.some.inj H
            go_enter Try.func6, Try.ntmps6
            go_wp2_with (first | ((with_reducible refine gate_callee (f := 16) rfl ?_); refine goesL_ (some 12) rfl rfl Try.func16 (by kernel_rfl) rfl #[.string a0] rfl (by (try simp only [List.map_toArray, List.map_cons, List.map_nil]); first | done | rfl | (simp only [List.length_drop, List.length_take]; rfl)) ?_; (with_reducible refine (word_Quote.calls a0 t165 t166 _ A3.out).mono ?_); rintro e w11 ⟨rfl, hb⟩; refine ⟨_, rfl, ?_⟩; have n0_ := Aside0.mk (below_step (by repeat (first | (with_reducible first | exact HB.out | apply below_alloc | apply pw_below_drewN | apply below_drew1) | exact HB.out)) hb); clear HB; have HB := n0_; clear n0_; (try clear hb); (try clear hb2); (try clear hk); (try clear hi)) | ((with_reducible refine gate_callee (f := 18) rfl ?_); refine goesL_ (some 31) rfl rfl Try.func18 (by kernel_rfl) rfl #[.string (t165 ++ a1)] rfl (by (try simp only [List.map_toArray, List.map_cons, List.map_nil]); first | done | rfl | (simp only [List.length_drop, List.length_take]; rfl)) ?_; (with_reducible refine (word_Unquote.calls k (t165 ++ a1) t167 t168 t169 _ A6.out).mono ?_); rintro e w12 ⟨rfl, hb⟩; refine ⟨_, rfl, ?_⟩; have n0_ := Aside0.mk (below_step (by repeat (first | (with_reducible first | exact HB.out | apply below_alloc | apply pw_below_drewN | apply below_drew1) | exact HB.out)) hb); clear HB; have HB := n0_; clear n0_; (try clear hb); (try clear hb2); (try clear hk); (try clear hi)) | (go_at_call 11; (with_reducible refine (haruspexlaw05_awake.calls  t170 _ A10.out).mono ?_); rintro e w13 ⟨rfl, hb⟩; have n0_ := Aside0.mk (below_step (by repeat (first | (with_reducible first | exact HB.out | apply below_alloc | apply pw_below_drewN | apply below_drew1) | exact HB.out)) hb); clear HB; have HB := n0_; clear n0_; (try clear hb); (try clear hb2); (try clear hk); (try clear hi)))
            go_ret
            exact ⟨by first | rfl | (simp [errW_none, errW_some] <;> rfl) | (simp [*, errW_none, errW_some] <;> rfl), by repeat (first | (with_reducible first | exact HB.out | apply below_alloc | apply pw_below_drewN | apply below_drew1) | exact HB.out)⟩
          · rw [if_neg c9] at H
            exact absurd H (by simp)
        · rw [if_neg c8] at H
          exact absurd H (by simp)
      · rw [if_neg c7] at H
        exact absurd H (by simp)
    · rw [if_neg c5] at H
      exact absurd H (by simp)
  · rw [if_neg c4] at H
    have c4b0 : (t166 == 0) = false := beq_eq_false_iff_ne.mpr c4
    have c4b1 : (t166 != 0) = true := bne_iff_ne.mpr c4
    by_cases c14 : t166 = 2
    · rw [if_pos c14] at H
      have c14b0 : (t166 == 2) = true := beq_iff_eq.mpr c14
      have c14b1 : (t166 != 2) = false := bne_eq_false_iff_eq.mpr c14
      clear c14
      by_cases c15 : (a0.size : Int) > 256
      · rw [if_pos c15] at H
        have c15b0 : decide (256 < (a0.size : Int)) = true := decide_eq_true c15
        have c15b1 : decide (256 < a0.size) = true := decide_eq_true (by omega)
        clear c15
        replace H := Option.bind_eq_some_iff.mp H
        obtain ⟨t171, A160, H⟩ := H
        replace H : (some t171) = some r := H
        have A16 := Aside0.mk A160
        clear A160
        obtain rfl := Option.some.inj H
        go_enter Try.func6, Try.ntmps6
        go_wp2_with (first | ((with_reducible refine gate_callee (f := 16) rfl ?_); refine goesL_ (some 12) rfl rfl Try.func16 (by kernel_rfl) rfl #[.string a0] rfl (by (try simp only [List.map_toArray, List.map_cons, List.map_nil]); first | done | rfl | (simp only [List.length_drop, List.length_take]; rfl)) ?_; (with_reducible refine (word_Quote.calls a0 t165 t166 _ A3.out).mono ?_); rintro e w17 ⟨rfl, hb⟩; refine ⟨_, rfl, ?_⟩; have n0_ := Aside0.mk (below_step (by repeat (first | (with_reducible first | exact HB.out | apply below_alloc | apply pw_below_drewN | apply below_drew1) | exact HB.out)) hb); clear HB; have HB := n0_; clear n0_; (try clear hb); (try clear hb2); (try clear hk); (try clear hi)) | (go_at_call 11; (with_reducible refine (haruspexlaw05_awake.calls  t171 _ A16.out).mono ?_); rintro e w18 ⟨rfl, hb⟩; have n0_ := Aside0.mk (below_step (by repeat (first | (with_reducible first | exact HB.out | apply below_alloc | apply pw_below_drewN | apply below_drew1) | exact HB.out)) hb); clear HB; have HB := n0_; clear n0_; (try clear hb); (try clear hb2); (try clear hk); (try clear hi)))
        go_ret
        exact ⟨by first | rfl | (simp [errW_none, errW_some] <;> rfl) | (simp [*, errW_none, errW_some] <;> rfl), by repeat (first | (with_reducible first | exact HB.out | apply below_alloc | apply pw_below_drewN | apply below_drew1) | exact HB.out)⟩
      · rw [if_neg c15] at H
        exact absurd H (by simp)
    · rw [if_neg c14] at H
      exact absurd H (by simp)

/-- THE ONE PURE STATEMENT of haruspexlaw05_WordBack: yours. -/
def haruspexlaw05_WordBack.Pure : Prop := ∀ (a0 : ByteArray) (a1 : ByteArray), a0.size ≤ 140737488351232 → a1.size ≤ 140737488351232 → ∃ k, haruspexlaw05_WordBack.f k a0 a1 = some true
theorem haruspexlaw05_WordBack.walk (P : haruspexlaw05_WordBack.Pure) (a0 : ByteArray) (a1 : ByteArray) (w : World) (w0 : a0.size ≤ 140737488351232) (w1 : a1.size ≤ 140737488351232) :
    Calls Try.prog 6 #[.string a0, .string a1] w fun e w' => e = .returned (.bool true) ∧ Below w.heap.size w w' := by
  obtain ⟨k, h⟩ := P a0 a1 w0 w1
  refine (haruspexlaw05_WordBack.calls k a0 a1 true w h).mono ?_
  rintro e w' ⟨rfl, hd⟩
  exact ⟨rfl, hd⟩

/-! ### haruspexlaw05_WordOne: function 7 -/
mutual
def haruspexlaw05_WordOne.j0 : Nat → ByteArray → Bool → Option (Bool)
  | 0, _, _ => none
  | k + 1, x6, x55 => if x55 = true then (none) else (haruspexlaw05_WordOne.l0 k x6 0)
def haruspexlaw05_WordOne.l0 : Nat → ByteArray → Int → Option (Bool)
  | 0, _, _ => none
  | k + 1, x6, x8 => if x8 < (x6.size : Int) then (if 0 ≤ x8 then (if (bt x6 x8) < 32 then (none) else (if (bt x6 x8) > 126 then (none) else (haruspexlaw05_WordOne.l0 k x6 (wrap64 (x8 + 1))))) else (none)) else ((haruspexlaw05_awake.f).bind fun t178 => (some t178))
end
def haruspexlaw05_WordOne.f (k : Nat) (a0 : ByteArray) : Option (Bool) := (word_Unquote.f k a0).bind fun bt172 => (if bt172.2.2 = 0 then ((word_Quote.f bt172.1).bind fun bt176 => (if bt176.2 = 0 then (if bt172.2.1 < 2 then (haruspexlaw05_WordOne.j0 k bt176.1 true) else (if bt172.2.1 > (a0.size : Int) then (haruspexlaw05_WordOne.j0 k bt176.1 true) else (if 0 ≤ bt172.2.1 then (if bt172.2.1 ≤ (a0.size : Int) then (haruspexlaw05_WordOne.j0 k bt176.1 (bt176.1.toList != (a0.extract 0 (bt172.2.1 : Int).toNat).toList)) else (none)) else (none)))) else (haruspexlaw05_WordOne.j0 k bt176.1 true))) else (if bt172.1.toList = ([] : List UInt8) then (if bt172.2.1 ≥ 0 then (if bt172.2.1 ≤ (a0.size : Int) then ((haruspexlaw05_awake.f).bind fun t175 => (some t175)) else (none)) else (none)) else (none)))
theorem haruspexlaw05_WordOne.mono_l : ∀ k, (∀ y0 y1, LeO (haruspexlaw05_WordOne.j0 k y0 y1) (haruspexlaw05_WordOne.j0 (k + 1) y0 y1)) ∧ (∀ y0 y1, LeO (haruspexlaw05_WordOne.l0 k y0 y1) (haruspexlaw05_WordOne.l0 (k + 1) y0 y1))
  | 0 => ⟨fun _ _ r h => by simp [haruspexlaw05_WordOne.j0] at h, fun _ _ r h => by simp [haruspexlaw05_WordOne.l0] at h⟩
  | k + 1 => by
    obtain ⟨ih0, ih1⟩ := haruspexlaw05_WordOne.mono_l k
    refine ⟨?_, ?_⟩
    · intro y0 y1
      unfold haruspexlaw05_WordOne.j0
      repeat' first
      | (with_reducible exact ih0 _ _)
      | (with_reducible exact ih1 _ _)
      | (with_reducible exact word_Unquote.mono _ _)
      | (with_reducible exact LeO.refl _)
      | (with_reducible exact LeO.none _)
      | (with_reducible refine LeO.ite ?_ ?_)
      | (with_reducible refine LeO.bind ?_ (fun _ => ?_))
      | exact ih0 _ _
      | exact ih1 _ _
      | exact word_Unquote.mono _ _
      | exact LeO.none _
      | refine LeO.ite ?_ ?_
      | refine LeO.bind ?_ (fun _ => ?_)
    · intro y0 y1
      unfold haruspexlaw05_WordOne.l0
      repeat' first
      | (with_reducible exact ih0 _ _)
      | (with_reducible exact ih1 _ _)
      | (with_reducible exact word_Unquote.mono _ _)
      | (with_reducible exact LeO.refl _)
      | (with_reducible exact LeO.none _)
      | (with_reducible refine LeO.ite ?_ ?_)
      | (with_reducible refine LeO.bind ?_ (fun _ => ?_))
      | exact ih0 _ _
      | exact ih1 _ _
      | exact word_Unquote.mono _ _
      | exact LeO.none _
      | refine LeO.ite ?_ ?_
      | refine LeO.bind ?_ (fun _ => ?_)
theorem haruspexlaw05_WordOne.mono : ∀ a0 k, LeO (haruspexlaw05_WordOne.f k a0) (haruspexlaw05_WordOne.f (k + 1) a0) := by
  intro a0 k
  obtain ⟨ih0, ih1⟩ := haruspexlaw05_WordOne.mono_l k
  unfold haruspexlaw05_WordOne.f
  repeat' first
      | (with_reducible exact ih0 _ _)
      | (with_reducible exact ih1 _ _)
      | (with_reducible exact word_Unquote.mono _ _)
      | (with_reducible exact LeO.refl _)
      | (with_reducible exact LeO.none _)
      | (with_reducible refine LeO.ite ?_ ?_)
      | (with_reducible refine LeO.bind ?_ (fun _ => ?_))
      | exact ih0 _ _
      | exact ih1 _ _
      | exact word_Unquote.mono _ _
      | exact LeO.none _
      | refine LeO.ite ?_ ?_
      | refine LeO.bind ?_ (fun _ => ?_)
set_option maxHeartbeats 8000000 in
set_option maxRecDepth 100000 in
theorem haruspexlaw05_WordOne.calls (k : Nat) (a0 : ByteArray) (r : Bool) (w : World) (h : haruspexlaw05_WordOne.f k a0 = some r) :
    Calls Try.prog 7 #[.string a0] w fun e w' => e = .returned (.bool r) ∧ Below w.heap.size w w' := by
  have HB := Aside0.mk (Below.refl w.heap.size w)
  have H : ((word_Unquote.f k a0).bind fun bt172 => (if bt172.2.2 = 0 then ((word_Quote.f bt172.1).bind fun bt176 => (if bt176.2 = 0 then (if bt172.2.1 < 2 then (haruspexlaw05_WordOne.j0 k bt176.1 true) else (if bt172.2.1 > (a0.size : Int) then (haruspexlaw05_WordOne.j0 k bt176.1 true) else (if 0 ≤ bt172.2.1 then (if bt172.2.1 ≤ (a0.size : Int) then (haruspexlaw05_WordOne.j0 k bt176.1 (bt176.1.toList != (a0.extract 0 (bt172.2.1 : Int).toNat).toList)) else (none)) else (none)))) else (haruspexlaw05_WordOne.j0 k bt176.1 true))) else (if bt172.1.toList = ([] : List UInt8) then (if bt172.2.1 ≥ 0 then (if bt172.2.1 ≤ (a0.size : Int) then ((haruspexlaw05_awake.f).bind fun t175 => (some t175)) else (none)) else (none)) else (none)))) = some r := h
  clear h
  replace H := Option.bind_eq_some_iff.mp H
  obtain ⟨⟨t172, t173, t174⟩, A20, H⟩ := H
  replace H : (if t174 = 0 then ((word_Quote.f t172).bind fun bt176 => (if bt176.2 = 0 then (if t173 < 2 then (haruspexlaw05_WordOne.j0 k bt176.1 true) else (if t173 > (a0.size : Int) then (haruspexlaw05_WordOne.j0 k bt176.1 true) else (if 0 ≤ t173 then (if t173 ≤ (a0.size : Int) then (haruspexlaw05_WordOne.j0 k bt176.1 (bt176.1.toList != (a0.extract 0 (t173 : Int).toNat).toList)) else (none)) else (none)))) else (haruspexlaw05_WordOne.j0 k bt176.1 true))) else (if t172.toList = ([] : List UInt8) then (if t173 ≥ 0 then (if t173 ≤ (a0.size : Int) then ((haruspexlaw05_awake.f).bind fun t175 => (some t175)) else (none)) else (none)) else (none))) = some r := H
  have A2 := Aside0.mk A20
  clear A20
  by_cases c3 : t174 = 0
  · rw [if_pos c3] at H
    have c3b0 : (t174 == 0) = true := beq_iff_eq.mpr c3
    have c3b1 : (t174 != 0) = false := bne_eq_false_iff_eq.mpr c3
    clear c3
    replace H := Option.bind_eq_some_iff.mp H
    obtain ⟨⟨t176, t177⟩, A40, H⟩ := H
    replace H : (if t177 = 0 then (if t173 < 2 then (haruspexlaw05_WordOne.j0 k t176 true) else (if t173 > (a0.size : Int) then (haruspexlaw05_WordOne.j0 k t176 true) else (if 0 ≤ t173 then (if t173 ≤ (a0.size : Int) then (haruspexlaw05_WordOne.j0 k t176 (t176.toList != (a0.extract 0 (t173 : Int).toNat).toList)) else (none)) else (none)))) else (haruspexlaw05_WordOne.j0 k t176 true)) = some r := H
    have A4 := Aside0.mk A40
    clear A40
    have HC5 := Aside0.mk H
    clear H
    go_enter Try.func7, Try.ntmps7
    go_upto_region 5 with (first | ((with_reducible refine gate_callee (f := 18) rfl ?_); refine goesL_ (some 11) rfl rfl Try.func18 (by kernel_rfl) rfl #[.string a0] rfl (by (try simp only [List.map_toArray, List.map_cons, List.map_nil]); first | done | rfl | (simp only [List.length_drop, List.length_take]; rfl)) ?_; (with_reducible refine (word_Unquote.calls k a0 t172 t173 t174 _ A2.out).mono ?_); rintro e w6 ⟨rfl, hb⟩; refine ⟨_, rfl, ?_⟩; have n0_ := Aside0.mk (below_step (by repeat (first | (with_reducible first | exact HB.out | apply below_alloc | apply pw_below_drewN | apply below_drew1) | exact HB.out)) hb); clear HB; have HB := n0_; clear n0_; (try clear hb); (try clear hb2); (try clear hk); (try clear hi)) | ((with_reducible refine gate_callee (f := 16) rfl ?_); refine goesL_ (some 34) rfl rfl Try.func16 (by kernel_rfl) rfl #[.string t172] rfl (by (try simp only [List.map_toArray, List.map_cons, List.map_nil]); first | done | rfl | (simp only [List.length_drop, List.length_take]; rfl)) ?_; (with_reducible refine (word_Quote.calls t172 t176 t177 _ A4.out).mono ?_); rintro e w7 ⟨rfl, hb⟩; refine ⟨_, rfl, ?_⟩; have n0_ := Aside0.mk (below_step (by repeat (first | (with_reducible first | exact HB.out | apply below_alloc | apply pw_below_drewN | apply below_drew1) | exact HB.out)) hb); clear HB; have HB := n0_; clear n0_; (try clear hb); (try clear hb2); (try clear hk); (try clear hi)))
    (try simp only [Act.put, List.setIfInBounds_toArray, List.set_cons_zero, List.set_cons_succ])
    go_cut [55] (fun v55 wc => ∃ (kq : Nat) (x55_4 : Bool), v55 = .bool x55_4 ∧ Aside0 (haruspexlaw05_WordOne.j0 kq t176 x55_4 = some r) ∧ Aside0 (kq ≤ k) ∧ Aside0 (Below w.heap.size w wc))
    case first =>
      have H := HC5.out
      clear HC5
      by_cases c8 : t177 = 0
      · rw [if_pos c8] at H
        have c8b0 : (t177 == 0) = true := beq_iff_eq.mpr c8
        have c8b1 : (t177 != 0) = false := bne_eq_false_iff_eq.mpr c8
        clear c8
        (first | rw [c8b0] | (simp only [i64_w, i32_w]; rw [c8b0]) | skip)
        by_cases c9 : t173 < 2
        · rw [if_pos c9] at H
          have c9b0 : decide (t173 < 2) = true := decide_eq_true c9
          clear c9
          have H' := Aside0.mk H
          clear H
          go_wp2
          go_meet
          case rel => exact ⟨_, (true), (by first | rfl | (simp; done) | (simp [*]; done)), H', ⟨by first | omega | exact Nat.le_refl _⟩, ⟨by repeat (first | (with_reducible first | exact HB.out | apply below_alloc | apply pw_below_drewN | apply below_drew1) | exact HB.out)⟩⟩
        · rw [if_neg c9] at H
          have c9b0 : decide (t173 < 2) = false := decide_eq_false c9
          clear c9
          by_cases c10 : t173 > (a0.size : Int)
          · rw [if_pos c10] at H
            have c10b0 : decide ((a0.size : Int) < t173) = true := decide_eq_true c10
            clear c10
            have H' := Aside0.mk H
            clear H
            go_wp2
            go_meet
            case rel => exact ⟨_, (true), (by first | rfl | (simp; done) | (simp [*]; done)), H', ⟨by first | omega | exact Nat.le_refl _⟩, ⟨by repeat (first | (with_reducible first | exact HB.out | apply below_alloc | apply pw_below_drewN | apply below_drew1) | exact HB.out)⟩⟩
          · rw [if_neg c10] at H
            have c10b0 : decide ((a0.size : Int) < t173) = false := decide_eq_false c10
            clear c10
            by_cases c11 : 0 ≤ t173
            · rw [if_pos c11] at H
              have c11b0 := eq_true c11
              have c11b1 : decide (0 ≤ t173) = true := decide_eq_true c11
              clear c11
              by_cases c12 : t173 ≤ (a0.size : Int)
              · rw [if_pos c12] at H
                have c12b0 := eq_true c12
                have c12b1 : decide (t173 ≤ (a0.size : Int)) = true := decide_eq_true c12
                clear c12
                have H' := Aside0.mk H
                clear H
                go_wp2
                go_meet
                case rel => exact ⟨_, ((t176.toList != (a0.extract 0 (t173 : Int).toNat).toList)), (by first | rfl | (simp; done) | (simp [*]; done)), H', ⟨by first | omega | exact Nat.le_refl _⟩, ⟨by repeat (first | (with_reducible first | exact HB.out | apply below_alloc | apply pw_below_drewN | apply below_drew1) | exact HB.out)⟩⟩
              · rw [if_neg c12] at H
                exact absurd H (by simp)
            · rw [if_neg c11] at H
              exact absurd H (by simp)
      · rw [if_neg c8] at H
        have c8b0 : (t177 == 0) = false := beq_eq_false_iff_ne.mpr c8
        have c8b1 : (t177 != 0) = true := bne_iff_ne.mpr c8
        (first | rw [c8b0] | (simp only [i64_w, i32_w]; rw [c8b0]) | skip)
        have H' := Aside0.mk H
        clear H
        go_wp2
        go_meet
        case rel => exact ⟨_, (true), (by first | rfl | (simp; done) | (simp [*]; done)), H', ⟨by first | omega | exact Nat.le_refl _⟩, ⟨by repeat (first | (with_reducible first | exact HB.out | apply below_alloc | apply pw_below_drewN | apply below_drew1) | exact HB.out)⟩⟩
    case rest =>
      clear HC5
      try clear c1
      try clear p2
      try clear c3
      try clear c3b0
      try clear c3b1
      try clear c7
      try clear c8
      try clear c8b0
      try clear c8b1
      try clear c9
      try clear c9b0
      try clear c10
      try clear c10b0
      try clear c11
      try clear c11b0
      try clear c11b1
      try clear c12
      try clear c12b0
      try clear c12b1
      obtain ⟨kq, x55_4, rfl, HA, HJ4, HB⟩ := hcut
      cases kq with
      | zero => exact absurd HA.out (by simp [haruspexlaw05_WordOne.j0])
      | succ kj4 =>
        have H := HA.out
        clear HA
        simp only [haruspexlaw05_WordOne.j0] at H
        by_cases c13 : x55_4 = true
        · subst c13
          have H1 : (none) = some r := by rw [if_pos rfl] at H; exact H
          clear H
          have H := H1
          clear H1
          exact absurd H (by simp)
        · replace c13 := Bool.eq_false_iff.mpr c13
          subst c13
          have H1 : (haruspexlaw05_WordOne.l0 kj4 t176 0) = some r := by rw [if_neg (show ¬ (false = true) by decide)] at H; exact H
          clear H
          have H := H1
          clear H1
          have H' := Aside0.mk H
          clear H
          go_wp2
          go_loopg [8] kj4 (fun kq v8 w' => ∃ (x8_2 : Int), v8 = .int .i64 x8_2 ∧ Aside0 (haruspexlaw05_WordOne.l0 kq t176 x8_2 = some r) ∧ Aside0 (kq ≤ kj4) ∧ Aside0 (Below w.heap.size w w'))
          case atStart => exact ⟨(0), (by first | rfl | (simp; done) | (simp [*]; done)), H', ⟨Nat.le_refl _⟩, ⟨by repeat (first | (with_reducible first | exact HB.out | apply below_alloc | apply pw_below_drewN | apply below_drew1) | exact HB.out)⟩⟩
          case round =>
            clear H'
            try clear c1
            try clear p2
            try clear c3
            try clear c3b0
            try clear c3b1
            try clear c7
            try clear c8
            try clear c8b0
            try clear c8b1
            try clear c9
            try clear c9b0
            try clear c10
            try clear c10b0
            try clear c11
            try clear c11b0
            try clear c11b1
            try clear c12
            try clear c12b0
            try clear c12b1
            try clear c13
            try clear p2
            obtain ⟨x8_2, rfl, HA, HK2, HB⟩ := hrel
            cases gk with
            | zero => exact absurd HA.out (by simp [haruspexlaw05_WordOne.l0])
            | succ k2 =>
              have H := HA.out
              clear HA
              simp only [haruspexlaw05_WordOne.l0] at H
              by_cases c14 : x8_2 < (t176.size : Int)
              · rw [if_pos c14] at H
                have c14b0 : decide (x8_2 < (t176.size : Int)) = true := decide_eq_true c14
                clear c14
                by_cases c15 : 0 ≤ x8_2
                · rw [if_pos c15] at H
                  have c15b0 : decide (0 ≤ x8_2) = true := decide_eq_true c15
                  clear c15
                  by_cases c17 : (bt t176 x8_2) < 32
                  · rw [if_pos c17] at H
                    exact absurd H (by simp)
                  · rw [if_neg c17] at H
                    have c17b0 : decide ((bt t176 x8_2) < 32) = false := decide_eq_false c17
                    clear c17
                    by_cases c19 : (bt t176 x8_2) > 126
                    · rw [if_pos c19] at H
                      exact absurd H (by simp)
                    · rw [if_neg c19] at H
                      have c19b0 : decide (126 < (bt t176 x8_2)) = false := decide_eq_false c19
                      clear c19
                      have H' := Aside0.mk H
                      clear H
                      have p16 : 0 ≤ (x8_2 : Int) := of_decide_eq_true (by first | (with_reducible assumption) | assumption)
                      have q16 : x8_2 < (t176.size : Int) := of_decide_eq_true (by first | (with_reducible assumption) | assumption)
                      have hx16 := bt_at t176 x8_2
                      replace p16 := eq_true p16
                      replace q16 := eq_true q16
                      have p18 : 0 ≤ (x8_2 : Int) := of_decide_eq_true (by first | (with_reducible assumption) | assumption)
                      have q18 : x8_2 < (t176.size : Int) := of_decide_eq_true (by first | (with_reducible assumption) | assumption)
                      have hx18 := bt_at t176 x8_2
                      replace p18 := eq_true p18
                      replace q18 := eq_true q18
                      go_wp2
                      go_roundg k2
                      case measure => have := HJ4.out; have := HK2.out; omega
                      case rel => exact ⟨(wrap64 (x8_2 + 1)), (by first | rfl | (simp; done) | (simp [*]; done)), H', ⟨by have := HJ4.out; have := HK2.out; omega⟩, ⟨by repeat (first | (with_reducible first | exact HB.out | apply below_alloc | apply pw_below_drewN | apply below_drew1) | exact HB.out)⟩⟩
                · rw [if_neg c15] at H
                  exact absurd H (by simp)
              · rw [if_neg c14] at H
                have c14b0 : decide (x8_2 < (t176.size : Int)) = false := decide_eq_false c14
                clear c14
                replace H := Option.bind_eq_some_iff.mp H
                obtain ⟨t178, A200, H⟩ := H
                replace H : (some t178) = some r := H
                have A20 := Aside0.mk A200
                clear A200
                obtain rfl := Option.some.inj H
                go_wp2_with (first | ((with_reducible refine gate_callee (f := 11) rfl ?_); refine goesL_ (some 72) rfl rfl Try.func11 (by kernel_rfl) rfl #[] rfl (by (try simp only [List.map_toArray, List.map_cons, List.map_nil]); first | done | rfl | (simp only [List.length_drop, List.length_take]; rfl)) ?_; (with_reducible refine (haruspexlaw05_awake.calls  t178 _ A20.out).mono ?_); rintro e w21 ⟨rfl, hb⟩; refine ⟨_, rfl, ?_⟩; have n0_ := Aside0.mk (below_step (by repeat (first | (with_reducible first | exact HB.out | apply below_alloc | apply pw_below_drewN | apply below_drew1) | exact HB.out)) hb); clear HB; have HB := n0_; clear n0_; (try clear hb); (try clear hb2); (try clear hk); (try clear hi)))
                go_ret
                exact ⟨by first | rfl | (simp [errW_none, errW_some] <;> rfl) | (simp [*, errW_none, errW_some] <;> rfl), by repeat (first | (with_reducible first | exact HB.out | apply below_alloc | apply pw_below_drewN | apply below_drew1) | exact HB.out)⟩
  · rw [if_neg c3] at H
    have c3b0 : (t174 == 0) = false := beq_eq_false_iff_ne.mpr c3
    have c3b1 : (t174 != 0) = true := bne_iff_ne.mpr c3
    by_cases c22 : t172.toList = ([] : List UInt8)
    · rw [if_pos c22] at H
      have c22b0 : (t172.toList == ([] : List UInt8)) = true := beq_iff_eq.mpr c22
      have c22b1 : (t172.toList != ([] : List UInt8)) = false := bne_eq_false_iff_eq.mpr c22
      clear c22
      by_cases c23 : t173 ≥ 0
      · rw [if_pos c23] at H
        have c23b0 : decide (0 ≤ t173) = true := decide_eq_true c23
        clear c23
        by_cases c24 : t173 ≤ (a0.size : Int)
        · rw [if_pos c24] at H
          have c24b0 : decide (t173 ≤ (a0.size : Int)) = true := decide_eq_true c24
          clear c24
          replace H := Option.bind_eq_some_iff.mp H
          obtain ⟨t175, A250, H⟩ := H
          replace H : (some t175) = some r := H
          have A25 := Aside0.mk A250
          clear A250
          obtain rfl := Option.some.inj H
          go_enter Try.func7, Try.ntmps7
          go_wp2_with (first | ((with_reducible refine gate_callee (f := 18) rfl ?_); refine goesL_ (some 11) rfl rfl Try.func18 (by kernel_rfl) rfl #[.string a0] rfl (by (try simp only [List.map_toArray, List.map_cons, List.map_nil]); first | done | rfl | (simp only [List.length_drop, List.length_take]; rfl)) ?_; (with_reducible refine (word_Unquote.calls k a0 t172 t173 t174 _ A2.out).mono ?_); rintro e w26 ⟨rfl, hb⟩; refine ⟨_, rfl, ?_⟩; have n0_ := Aside0.mk (below_step (by repeat (first | (with_reducible first | exact HB.out | apply below_alloc | apply pw_below_drewN | apply below_drew1) | exact HB.out)) hb); clear HB; have HB := n0_; clear n0_; (try clear hb); (try clear hb2); (try clear hk); (try clear hi)) | (go_at_call 11; (with_reducible refine (haruspexlaw05_awake.calls  t175 _ A25.out).mono ?_); rintro e w27 ⟨rfl, hb⟩; have n0_ := Aside0.mk (below_step (by repeat (first | (with_reducible first | exact HB.out | apply below_alloc | apply pw_below_drewN | apply below_drew1) | exact HB.out)) hb); clear HB; have HB := n0_; clear n0_; (try clear hb); (try clear hb2); (try clear hk); (try clear hi)))
          go_ret
          exact ⟨by first | rfl | (simp [errW_none, errW_some] <;> rfl) | (simp [*, errW_none, errW_some] <;> rfl), by repeat (first | (with_reducible first | exact HB.out | apply below_alloc | apply pw_below_drewN | apply below_drew1) | exact HB.out)⟩
        · rw [if_neg c24] at H
          exact absurd H (by simp)
      · rw [if_neg c23] at H
        exact absurd H (by simp)
    · rw [if_neg c22] at H
      exact absurd H (by simp)

/-- THE ONE PURE STATEMENT of haruspexlaw05_WordOne: yours. -/
def haruspexlaw05_WordOne.Pure : Prop := ∀ (a0 : ByteArray), a0.size ≤ 140737488351232 → ∃ k, haruspexlaw05_WordOne.f k a0 = some true
theorem haruspexlaw05_WordOne.walk (P : haruspexlaw05_WordOne.Pure) (a0 : ByteArray) (w : World) (w0 : a0.size ≤ 140737488351232) :
    Calls Try.prog 7 #[.string a0] w fun e w' => e = .returned (.bool true) ∧ Below w.heap.size w w' := by
  obtain ⟨k, h⟩ := P a0 w0
  refine (haruspexlaw05_WordOne.calls k a0 true w h).mono ?_
  rintro e w' ⟨rfl, hd⟩
  exact ⟨rfl, hd⟩

/-! ### word_isUpper: function 20 -/
def word_isUpper.f (a0 : Int) : Option (Bool) := if a0 ≥ 65 then (some (decide (a0 ≤ 90))) else (some false)
set_option maxHeartbeats 8000000 in
set_option maxRecDepth 100000 in
theorem word_isUpper.calls (a0 : Int) (r : Bool) (w : World) (h : word_isUpper.f a0 = some r) :
    Calls Try.prog 20 #[.int .i32 a0] w fun e w' => e = .returned (.bool r) ∧ Drawn0 w w' := by
  have H : (if a0 ≥ 65 then (some (decide (a0 ≤ 90))) else (some false)) = some r := h
  clear h
  by_cases c2 : a0 ≥ 65
  · rw [if_pos c2] at H
    have c2b0 : decide (65 ≤ a0) = true := decide_eq_true c2
    clear c2
    obtain rfl := Option.some.inj H
    go_enter Try.func20, Try.ntmps20
    go_wp2
    go_ret
    exact ⟨by first | rfl | (simp; done) | (simp [*]; done), by repeat (first | exact Drawn0.refl _ | apply Drawn0.step)⟩
  · rw [if_neg c2] at H
    have c2b0 : decide (65 ≤ a0) = false := decide_eq_false c2
    clear c2
    obtain rfl := Option.some.inj H
    go_enter Try.func20, Try.ntmps20
    go_wp2
    go_ret
    exact ⟨by first | rfl | (simp; done) | (simp [*]; done), by repeat (first | exact Drawn0.refl _ | apply Drawn0.step)⟩

/-! ### word_Fold: function 8 (by hand) -/
def word_Fold.f (a0 : ByteArray) : Option (ByteArray) := if a0.size ≤ 140737488351232 then some (strOfNums ((bytesOf a0).map Go.Proofs.YtefljkgfkkdaiaaW.HandWords.fold1)) else none
set_option maxHeartbeats 1000000 in
set_option maxRecDepth 100000 in
theorem word_Fold.calls (a0 : ByteArray) (r : ByteArray) (w : World) (h : word_Fold.f a0 = some r) :
    Calls Try.prog 8 #[.string a0] w fun e w' => e = .returned (.string r) ∧ Below w.heap.size w w' := by
  unfold word_Fold.f at h
  by_cases hs : a0.size ≤ 140737488351232
  · rw [if_pos hs] at h
    have H := Aside0.mk (Option.some.inj h)
    clear h
    have HB := Aside0.mk (Below.refl w.heap.size w)
    obtain ⟨xs, hxs⟩ : ∃ xs, xs = bytesOf a0 := ⟨_, rfl⟩
    have hn : xs.length ≤ 140737488351232 := by rw [hxs, bytesOf_length]; exact hs
    have hby : Aside0 (∀ k, k < xs.length → 0 ≤ rd xs (k : Int) ∧ rd xs (k : Int) ≤ 255) := ⟨fun k _ => by rw [hxs, rd_bytesOf]; exact bt_range a0 k⟩
    have HX := Aside0.mk hxs
    clear hxs hs
    go_enter Try.func8, Try.ntmps8
    go_wp2_with (first | ((with_reducible refine gate_dst (N := 7) rfl ?_); refine Go.Proofs.YtefljkgfkkdaiaaW.HandWords.hand_bytes w.heap.size 5 rfl (N := 7) rfl 9 35 _ rfl a0 rfl Try.underlying9 Try.underlying35 Try.underlying5 HB.out (Nat.le_refl _) ?_; intro g c0 w1 hbg hgl hcl hrow hb1; rw [← HX.out] at hrow hcl ⊢; have n1_ := Aside0.mk hb1; have HR := Aside0.mk hrow; have HC := Aside0.mk hcl; clear HB hrow hb1 hcl; have HB := n1_; clear n1_))
    go_loopw [10] (fun v10 wr => ∃ k : Nat, k ≤ xs.length ∧ v10 = .int .i64 k ∧ Aside0 (Go.Proofs.YtefljkgfkkdaiaaW.HandWords.Row8 wr g 5 (Go.Proofs.YtefljkgfkkdaiaaW.HandWords.foldTo xs k)) ∧ Aside0 (Below w.heap.size w wr)) (fun v10 _ => xs.length - (intOf v10).toNat)
    case atStart => exact ⟨0, by omega, rfl, ⟨by rw [Go.Proofs.YtefljkgfkkdaiaaW.HandWords.foldTo_zero]; exact HR.out⟩, HB⟩
    case round =>
      clear HR HB
      obtain ⟨k, hk, rfl, HR, HB⟩ := hrel
      by_cases hlt : k < xs.length
      · have hcell := HR.out.cell (j := k) (by rw [Go.Proofs.YtefljkgfkkdaiaaW.HandWords.foldTo_len]; exact hlt)
        have hfree := HR.out.free (j := k) (by rw [Go.Proofs.YtefljkgfkkdaiaaW.HandWords.foldTo_len]; exact hlt)
        rw [Go.Proofs.YtefljkgfkkdaiaaW.HandWords.foldTo_rd xs k hlt] at hcell
        obtain ⟨b1, b2⟩ := hby.out k hlt
        have HN := Aside0.mk (Go.Proofs.YtefljkgfkkdaiaaW.HandWords.foldTo_next xs k hlt)
        have HS := Aside0.mk (Go.Proofs.YtefljkgfkkdaiaaW.HandWords.foldTo_same xs k hlt)
        obtain ⟨c, hc⟩ : ∃ c, c = rd xs (k : Int) := ⟨_, rfl⟩
        rw [← hc] at hcell b1 b2 HN HS
        clear hc
        by_cases hup : 65 ≤ c ∧ c ≤ 90
        · have HU : Aside0 (word_isUpper.f c = some true) := ⟨by unfold word_isUpper.f; rw [if_pos hup.1, decide_eq_true hup.2]⟩
          have HO : Aside0 (Go.Proofs.YtefljkgfkkdaiaaW.HandWords.fold1 c = c + 32) := ⟨by unfold Go.Proofs.YtefljkgfkkdaiaaW.HandWords.fold1; rw [if_pos hup]⟩
          obtain ⟨u1, u2⟩ := hup
          go_wp2_with (first | ((with_reducible refine gate_callee (f := 20) rfl ?_); refine goesL_ (some 17) rfl rfl Try.func20 (by kernel_rfl) rfl #[.int .i32 c] rfl (by (try simp only [List.map_toArray, List.map_cons, List.map_nil]); first | done | rfl) ?_; (with_reducible refine (word_isUpper.calls c true _ HU.out).mono ?_); rintro e w' ⟨rfl, ⟨nd, rfl⟩⟩; refine ⟨_, rfl, ?_⟩))
          go_roundw
          case rel => exact ⟨k + 1, by omega, by go_num, ⟨by rw [← HN.out, HO.out, show c + 32 = c - 65 + 97 from by omega]; first | exact (HR.out.drewN _).set _ _ | exact (HR.out.set _ _).drewN _⟩, ⟨by first | exact (pw_below_drewN HB.out _).setCell hbg _ | exact pw_below_drewN (HB.out.setCell hbg _) _⟩⟩
          case measure => simp [intOf]; omega
        · have HU : Aside0 (word_isUpper.f c = some false) := ⟨by
            unfold word_isUpper.f
            by_cases h1 : c ≥ 65
            · rw [if_pos h1, decide_eq_false (by omega)]
            · rw [if_neg h1]⟩
          have HO : Aside0 (Go.Proofs.YtefljkgfkkdaiaaW.HandWords.fold1 c = c) := ⟨by unfold Go.Proofs.YtefljkgfkkdaiaaW.HandWords.fold1; rw [if_neg hup]⟩
          clear hup
          go_wp2_with (first | ((with_reducible refine gate_callee (f := 20) rfl ?_); refine goesL_ (some 17) rfl rfl Try.func20 (by kernel_rfl) rfl #[.int .i32 c] rfl (by (try simp only [List.map_toArray, List.map_cons, List.map_nil]); first | done | rfl) ?_; (with_reducible refine (word_isUpper.calls c false _ HU.out).mono ?_); rintro e w' ⟨rfl, ⟨nd, rfl⟩⟩; refine ⟨_, rfl, ?_⟩))
          go_roundw
          case rel => exact ⟨k + 1, by omega, by go_num, ⟨by rw [← HS.out HO.out]; exact HR.out.drewN _⟩, ⟨pw_below_drewN HB.out _⟩⟩
          case measure => simp [intOf]; omega
      · have hkk : k = xs.length := by omega
        have hl := Go.Proofs.YtefljkgfkkdaiaaW.HandWords.foldTo_len xs k
        have hcv := Kd.C_string (P := Try.prog) (c := c0) Try.underlying35 Try.underlying5 Try.underlying9 (HR.out.C (by omega))
        rw [hl] at hcv
        clear hl
        go_wp2
        go_ret
        exact ⟨by rw [Go.Proofs.YtefljkgfkkdaiaaW.HandWords.foldTo_all xs xs.length (Nat.le_refl _), ← H.out, HX.out]; rfl, HB.out⟩
  · exact absurd ((if_neg hs).symm.trans h) (by simp)


/-! ### word_Upper: function 9 (by hand) -/
def word_Upper.up (c : Int) : Bool := decide (65 ≤ c) && decide (c ≤ 90)
/-- is it of A to Z, byte by byte -/
def word_Upper.is (l : List Int) : Bool := l.all word_Upper.up && decide (1 ≤ l.length) && decide (l.length ≤ 32)
def word_Upper.f (a0 : ByteArray) : Option (Bool) := if a0.size ≤ 140737488351232 then some (word_Upper.is (bytesOf a0)) else none
theorem word_Upper.up_f (c : Int) : word_isUpper.f c = some (word_Upper.up c) := by
  unfold word_isUpper.f word_Upper.up
  by_cases h : c ≥ 65
  · rw [if_pos h, decide_eq_true (show 65 ≤ c from h), Bool.true_and]
  · rw [if_neg h, decide_eq_false (show ¬ 65 ≤ c from h), Bool.false_and]
theorem word_Upper.up_high {c : Int} (h : 128 ≤ c) : word_Upper.up c = false := by
  unfold word_Upper.up
  rw [decide_eq_false (show ¬ c ≤ 90 by omega)]; simp
structure word_Upper.Rel (l : List Int) (k : Nat) : Prop where
  le : k ≤ l.length
  all : (l.take k).all word_Upper.up = true
theorem word_Upper.no_up {l : List Int} {k : Nat} (hk : k < l.length) (h : word_Upper.up (rd l (k : Int)) = false) : word_Upper.is l = false := by
  have : l.all word_Upper.up = false := by
    rw [List.all_eq_false]
    refine ⟨rd l (k : Int), ?_, by simpa using h⟩
    unfold rd
    rw [Int.toNat_natCast, List.getD_eq_getElem?_getD, List.getElem?_eq_getElem hk]
    exact List.getElem_mem hk
  unfold word_Upper.is
  rw [this]; rfl
theorem word_Upper.next {l : List Int} {k : Nat} (h : word_Upper.Rel l k) (hk : k < l.length) (hs : word_Upper.up (rd l (k : Int)) = true) : word_Upper.Rel l (k + 1) := by
  refine ⟨by omega, ?_⟩
  rw [List.take_add_one, List.getElem?_eq_getElem hk, List.all_append, h.all]
  have : rd l (k : Int) = l[k] := by
    unfold rd; rw [Int.toNat_natCast, List.getD_eq_getElem?_getD, List.getElem?_eq_getElem hk]; rfl
  rw [this] at hs
  simp [hs]
theorem word_Upper.done {l : List Int} (h : word_Upper.Rel l l.length) (h0 : 1 ≤ l.length) : word_Upper.is l = decide (l.length ≤ 32) := by
  unfold word_Upper.is
  have := h.all
  rw [List.take_length] at this
  rw [this, decide_eq_true h0]; rfl
set_option maxHeartbeats 1000000 in
set_option maxRecDepth 100000 in
theorem word_Upper.calls (a0 : ByteArray) (r : Bool) (w : World) (h : word_Upper.f a0 = some r) :
    Calls Try.prog 9 #[.string a0] w fun e w' => e = .returned (.bool r) ∧ Below w.heap.size w w' := by
  unfold word_Upper.f at h
  by_cases hs : a0.size ≤ 140737488351232
  · rw [if_pos hs] at h
    have H := Aside0.mk (Option.some.inj h)
    clear h
    have HB := Aside0.mk (Below.refl w.heap.size w)
    go_enter Try.func9, Try.ntmps9
    go_wp2_with (first | ((with_reducible refine gate_dst (N := 6) rfl ?_); refine Go.Proofs.YtefljkgfkkdaiaaW.HandWords.hand_range w.heap.size rfl (N := 6) rfl 9 _ rfl Try.underlying9 a0 rfl HB.out (Nat.le_refl _) ?_; intro g w1 hbg hgl hg0 hb1; have n1_ := Aside0.mk hb1; have HG := Aside0.mk hg0; clear HB hg0 hb1; have HB := n1_; clear n1_))
    go_simp
    go_loopw [4] (fun _ wr => ∃ k : Nat, Aside0 (word_Upper.Rel (bytesOf a0) k) ∧ Aside0 (wr.heap[g]? = some (.stringIter a0 k)) ∧ Aside0 (Below w.heap.size w wr)) (fun _ wr => a0.size - wr.iterPos g)
    case atStart => exact ⟨0, ⟨⟨Nat.zero_le _, rfl⟩⟩, HG, HB⟩
    case round =>
      clear HG HB
      obtain ⟨k, HR, HG, HB⟩ := hrel
      have HM : Aside0 (wr.iterPos g = k) := ⟨by simp [World.iterPos, HG.out]⟩
      by_cases hp : k < a0.size
      · have hkl : k < (bytesOf a0).length := by rw [bytesOf_length]; exact hp
        have hrd : rd (bytesOf a0) (k : Int) = ((a0[k]'hp).toNat : Int) := by
          rw [rd_bytesOf]; unfold bt; rw [dif_pos (by simpa using hp)]; rfl
        obtain ⟨rn, hrn⟩ : ∃ rn : Nat, (Utf8.decode a0 k).1 = rn := ⟨_, rfl⟩
        obtain ⟨wd, hwd⟩ : ∃ wd : Nat, k + (Utf8.decode a0 k).2 = wd := ⟨_, rfl⟩
        have HE := Aside0.mk hrn
        have HW := Aside0.mk hwd
        by_cases hsg : word_Upper.up (rn : Int) = true
        · have hasc : (a0[k]'hp).toNat < 128 := by
            rcases Nat.lt_or_ge (a0[k]'hp).toNat 128 with h1 | h1
            · exact h1
            · have hdec := decode_high a0 k hp h1
              rw [hrn] at hdec
              rw [word_Upper.up_high (by omega)] at hsg; cases hsg
          have hdec := decode_ascii a0 k hp hasc
          have hrc : rd (bytesOf a0) (k : Int) = (rn : Int) := by rw [hrd, ← hrn, hdec]
          have hw1 : wd = k + 1 := by rw [← hwd, hdec]
          have HS : Aside0 (word_isUpper.f (rn : Int) = some true) := ⟨by rw [word_Upper.up_f, hsg]⟩
          have HN := Aside0.mk (word_Upper.next HR.out hkl (by rw [hrc]; exact hsg))
          subst hw1
          clear hrn hwd hdec hasc hrd hrc hsg HR
          go_wp2_with (first | ((with_reducible refine gate_dst (N := 7) rfl ?_); refine Go.Proofs.YtefljkgfkkdaiaaW.HandWords.hand_next (w0 := w) w.heap.size rfl (N := 7) rfl _ rfl g rfl a0 k HG.out hp hbg HB.out ?_; intro w1 hg1 hb1; rw [HW.out] at hg1; have n1_ := Aside0.mk hb1; have n2_ := Aside0.mk hg1; clear HB HG hg1 hb1; have HB := n1_; have HG := n2_; clear n1_ n2_; rw [HE.out]) | ((with_reducible refine gate_callee (f := 20) rfl ?_); refine goesL_ (some 11) rfl rfl Try.func20 (by kernel_rfl) rfl #[.int .i32 (rn : Int)] rfl (by (try simp only [List.map_toArray, List.map_cons, List.map_nil]); first | done | rfl) ?_; (with_reducible refine (word_isUpper.calls (rn : Int) _ _ HS.out).mono ?_); rintro e w' ⟨rfl, ⟨nd, rfl⟩⟩; refine ⟨_, rfl, ?_⟩))
          go_roundw
          case rel => exact ⟨_, HN, HG, ⟨by repeat (first | exact HB.out | (with_reducible refine pw_below_drewN ?_ _))⟩⟩
          case measure =>
            have hm2 : w1.iterPos g = k + 1 := by simp [World.iterPos, HG.out]
            show a0.size - w1.iterPos g < a0.size - wr.iterPos g
            rw [hm2, HM.out]; omega
        · have hsg2 : word_Upper.up (rd (bytesOf a0) (k : Int)) = false := by
            rcases Nat.lt_or_ge (a0[k]'hp).toNat 128 with h1 | h1
            · have hdec := decode_ascii a0 k hp h1
              rw [hrd, show ((a0[k]'hp).toNat : Int) = (rn : Int) from by rw [← hrn, hdec]]
              exact Bool.eq_false_iff.2 hsg
            · rw [hrd]; exact word_Upper.up_high (by omega)
          have HS : Aside0 (word_isUpper.f (rn : Int) = some false) := ⟨by rw [word_Upper.up_f, Bool.eq_false_iff.2 hsg]⟩
          have HF : Aside0 (word_Upper.is (bytesOf a0) = false) := ⟨word_Upper.no_up hkl hsg2⟩
          clear hrn hwd hrd hsg hsg2 HR
          go_wp2_with (first | ((with_reducible refine gate_dst (N := 7) rfl ?_); refine Go.Proofs.YtefljkgfkkdaiaaW.HandWords.hand_next (w0 := w) w.heap.size rfl (N := 7) rfl _ rfl g rfl a0 k HG.out hp hbg HB.out ?_; intro w1 hg1 hb1; rw [HW.out] at hg1; have n1_ := Aside0.mk hb1; have n2_ := Aside0.mk hg1; clear HB HG hg1 hb1; have HB := n1_; have HG := n2_; clear n1_ n2_; rw [HE.out]) | ((with_reducible refine gate_callee (f := 20) rfl ?_); refine goesL_ (some 11) rfl rfl Try.func20 (by kernel_rfl) rfl #[.int .i32 (rn : Int)] rfl (by (try simp only [List.map_toArray, List.map_cons, List.map_nil]); first | done | rfl) ?_; (with_reducible refine (word_isUpper.calls (rn : Int) _ _ HS.out).mono ?_); rintro e w' ⟨rfl, ⟨nd, rfl⟩⟩; refine ⟨_, rfl, ?_⟩))
          go_ret
          exact ⟨by rw [← H.out, HF.out]; rfl, by repeat (first | exact HB.out | (with_reducible refine pw_below_drewN ?_ _))⟩
      · have hkl : k = (bytesOf a0).length := by have := HR.out.le; rw [bytesOf_length] at this ⊢; omega
        have HR2 : Aside0 (word_Upper.Rel (bytesOf a0) (bytesOf a0).length) := ⟨by have := HR.out; rw [hkl] at this; exact this⟩
        clear hkl HR
        by_cases hz : a0.size = 0
        · have hnil : a0.toList = [] := by rw [ByteArray.toList_eq]; exact List.eq_nil_of_length_eq_zero (by rw [data_length]; exact hz)
          have hnb : (a0.toList != ([] : List UInt8)) = false := bne_eq_false_iff_eq.mpr hnil
          have hnb2 : (a0.toList == ([] : List UInt8)) = true := beq_iff_eq.mpr hnil
          have HF : Aside0 (word_Upper.is (bytesOf a0) = false) := ⟨by unfold word_Upper.is; rw [bytesOf_length, hz]; simp⟩
          clear hnil hz HR2
          go_wp2_with (first | ((with_reducible refine gate_dst (N := 7) rfl ?_); refine Go.Proofs.YtefljkgfkkdaiaaW.HandWords.hand_next_end rfl (N := 7) rfl _ rfl g rfl a0 k HG.out hp ?_))
          go_ret
          exact ⟨by rw [← H.out, HF.out]; rfl, by repeat (first | exact HB.out | (with_reducible refine pw_below_drewN ?_ _))⟩
        · have hnn : a0.toList ≠ [] := by
            rw [ByteArray.toList_eq]; intro h1
            have := data_length a0
            rw [h1] at this; simp at this; omega
          have hnb : (a0.toList != ([] : List UInt8)) = true := bne_iff_ne.mpr hnn
          have hnb2 : (a0.toList == ([] : List UInt8)) = false := beq_eq_false_iff_ne.mpr hnn
          have HF : Aside0 (word_Upper.is (bytesOf a0) = decide ((a0.size : Int) ≤ 32)) := ⟨by rw [word_Upper.done HR2.out (by rw [bytesOf_length]; omega), bytesOf_length]; exact decide_eq_decide.2 (by omega)⟩
          clear hnn HR2
          go_wp2_with (first | ((with_reducible refine gate_dst (N := 7) rfl ?_); refine Go.Proofs.YtefljkgfkkdaiaaW.HandWords.hand_next_end rfl (N := 7) rfl _ rfl g rfl a0 k HG.out hp ?_))
          go_ret
          exact ⟨by rw [← H.out, HF.out]; rfl, HB.out⟩
  · exact absurd ((if_neg hs).symm.trans h) (by simp)

/-! ### haruspexref05_lower: function 24 -/
def haruspexref05_lower.f (a0 : Int) : Option (Bool) := if a0 ≥ 97 then (some (decide (a0 ≤ 122))) else (some false)
set_option maxHeartbeats 8000000 in
set_option maxRecDepth 100000 in
theorem haruspexref05_lower.calls (a0 : Int) (r : Bool) (w : World) (h : haruspexref05_lower.f a0 = some r) :
    Calls Try.prog 24 #[.int .u8 a0] w fun e w' => e = .returned (.bool r) ∧ Drawn0 w w' := by
  have H : (if a0 ≥ 97 then (some (decide (a0 ≤ 122))) else (some false)) = some r := h
  clear h
  by_cases c2 : a0 ≥ 97
  · rw [if_pos c2] at H
    have c2b0 : decide (97 ≤ a0) = true := decide_eq_true c2
    clear c2
    obtain rfl := Option.some.inj H
    go_enter Try.func24, Try.ntmps24
    go_wp2
    go_ret
    exact ⟨by first | rfl | (simp; done) | (simp [*]; done), by repeat (first | exact Drawn0.refl _ | apply Drawn0.step)⟩
  · rw [if_neg c2] at H
    have c2b0 : decide (97 ≤ a0) = false := decide_eq_false c2
    clear c2
    obtain rfl := Option.some.inj H
    go_enter Try.func24, Try.ntmps24
    go_wp2
    go_ret
    exact ⟨by first | rfl | (simp; done) | (simp [*]; done), by repeat (first | exact Drawn0.refl _ | apply Drawn0.step)⟩

/-! ### haruspexref05_digit: function 33 -/
def haruspexref05_digit.f (a0 : Int) : Option (Bool) := if a0 ≥ 48 then (some (decide (a0 ≤ 57))) else (some false)
set_option maxHeartbeats 8000000 in
set_option maxRecDepth 100000 in
theorem haruspexref05_digit.calls (a0 : Int) (r : Bool) (w : World) (h : haruspexref05_digit.f a0 = some r) :
    Calls Try.prog 33 #[.int .u8 a0] w fun e w' => e = .returned (.bool r) ∧ Drawn0 w w' := by
  have H : (if a0 ≥ 48 then (some (decide (a0 ≤ 57))) else (some false)) = some r := h
  clear h
  by_cases c2 : a0 ≥ 48
  · rw [if_pos c2] at H
    have c2b0 : decide (48 ≤ a0) = true := decide_eq_true c2
    clear c2
    obtain rfl := Option.some.inj H
    go_enter Try.func33, Try.ntmps33
    go_wp2
    go_ret
    exact ⟨by first | rfl | (simp; done) | (simp [*]; done), by repeat (first | exact Drawn0.refl _ | apply Drawn0.step)⟩
  · rw [if_neg c2] at H
    have c2b0 : decide (48 ≤ a0) = false := decide_eq_false c2
    clear c2
    obtain rfl := Option.some.inj H
    go_enter Try.func33, Try.ntmps33
    go_wp2
    go_ret
    exact ⟨by first | rfl | (simp; done) | (simp [*]; done), by repeat (first | exact Drawn0.refl _ | apply Drawn0.step)⟩

/-! ### haruspexref05_Sign: function 23 -/
def haruspexref05_Sign.f (a0 : Int) : Option (Bool) := (haruspexref05_lower.f a0).bind fun t179 => (if t179 = true then (some true) else ((haruspexref05_digit.f a0).bind fun t180 => (if t180 = true then (some true) else (some (a0 == 95)))))
set_option maxHeartbeats 8000000 in
set_option maxRecDepth 100000 in
theorem haruspexref05_Sign.calls (a0 : Int) (r : Bool) (w : World) (h : haruspexref05_Sign.f a0 = some r) :
    Calls Try.prog 23 #[.int .u8 a0] w fun e w' => e = .returned (.bool r) ∧ Drawn0 w w' := by
  have H : ((haruspexref05_lower.f a0).bind fun t179 => (if t179 = true then (some true) else ((haruspexref05_digit.f a0).bind fun t180 => (if t180 = true then (some true) else (some (a0 == 95)))))) = some r := h
  clear h
  replace H := Option.bind_eq_some_iff.mp H
  obtain ⟨t179, A20, H⟩ := H
  replace H : (if t179 = true then (some true) else ((haruspexref05_digit.f a0).bind fun t180 => (if t180 = true then (some true) else (some (a0 == 95))))) = some r := H
  have A2 := Aside0.mk A20
  clear A20
  by_cases c3 : t179 = true
  · subst c3
    have H1 : (some true) = some r := by rw [if_pos rfl] at H; exact H
    clear H
    have H := H1
    clear H1
    obtain rfl := Option.some.inj H
    go_enter Try.func23, Try.ntmps23
    go_wp2_with (first | ((with_reducible refine gate_callee (f := 24) rfl ?_); refine goesL_ (some 4) rfl rfl Try.func24 (by kernel_rfl) rfl #[.int .u8 a0] rfl (by (try simp only [List.map_toArray, List.map_cons, List.map_nil]); first | done | rfl | (simp only [List.length_drop, List.length_take]; rfl)) ?_; (with_reducible refine (haruspexref05_lower.calls a0 true _ A2.out).mono ?_); rintro e w' ⟨rfl, ⟨nd, rfl⟩⟩; refine ⟨_, rfl, ?_⟩))
    go_ret
    exact ⟨by first | rfl | (simp; done) | (simp [*]; done), by repeat (first | exact Drawn0.refl _ | apply Drawn0.step)⟩
  · replace c3 := Bool.eq_false_iff.mpr c3
    subst c3
    have H1 : ((haruspexref05_digit.f a0).bind fun t180 => (if t180 = true then (some true) else (some (a0 == 95)))) = some r := by rw [if_neg (show ¬ (false = true) by decide)] at H; exact H
    clear H
    have H := H1
    clear H1
    replace H := Option.bind_eq_some_iff.mp H
    obtain ⟨t180, A40, H⟩ := H
    replace H : (if t180 = true then (some true) else (some (a0 == 95))) = some r := H
    have A4 := Aside0.mk A40
    clear A40
    by_cases c5 : t180 = true
    · subst c5
      have H1 : (some true) = some r := by rw [if_pos rfl] at H; exact H
      clear H
      have H := H1
      clear H1
      obtain rfl := Option.some.inj H
      go_enter Try.func23, Try.ntmps23
      go_wp2_with (first | ((with_reducible refine gate_callee (f := 24) rfl ?_); refine goesL_ (some 4) rfl rfl Try.func24 (by kernel_rfl) rfl #[.int .u8 a0] rfl (by (try simp only [List.map_toArray, List.map_cons, List.map_nil]); first | done | rfl | (simp only [List.length_drop, List.length_take]; rfl)) ?_; (with_reducible refine (haruspexref05_lower.calls a0 false _ A2.out).mono ?_); rintro e w' ⟨rfl, ⟨nd, rfl⟩⟩; refine ⟨_, rfl, ?_⟩) | (go_at_call 33; (with_reducible refine (haruspexref05_digit.calls a0 true _ A4.out).mono ?_); rintro e w' ⟨rfl, ⟨nd, rfl⟩⟩))
      go_ret
      exact ⟨by first | rfl | (simp; done) | (simp [*]; done), by repeat (first | exact Drawn0.refl _ | apply Drawn0.step)⟩
    · replace c5 := Bool.eq_false_iff.mpr c5
      subst c5
      have H1 : (some (a0 == 95)) = some r := by rw [if_neg (show ¬ (false = true) by decide)] at H; exact H
      clear H
      have H := H1
      clear H1
      obtain rfl := Option.some.inj H
      go_enter Try.func23, Try.ntmps23
      go_wp2_with (first | ((with_reducible refine gate_callee (f := 24) rfl ?_); refine goesL_ (some 4) rfl rfl Try.func24 (by kernel_rfl) rfl #[.int .u8 a0] rfl (by (try simp only [List.map_toArray, List.map_cons, List.map_nil]); first | done | rfl | (simp only [List.length_drop, List.length_take]; rfl)) ?_; (with_reducible refine (haruspexref05_lower.calls a0 false _ A2.out).mono ?_); rintro e w' ⟨rfl, ⟨nd, rfl⟩⟩; refine ⟨_, rfl, ?_⟩) | (go_at_call 33; (with_reducible refine (haruspexref05_digit.calls a0 false _ A4.out).mono ?_); rintro e w' ⟨rfl, ⟨nd, rfl⟩⟩))
      go_ret
      exact ⟨by first | rfl | (simp; done) | (simp [*]; done), by repeat (first | exact Drawn0.refl _ | apply Drawn0.step)⟩

end Go.Proofs.Ytefljkgfkkdaiaa.PAll
