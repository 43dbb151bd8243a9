/- Functions of the Go program as plain Lean functions, and the proofs that the code comes to just their answers; of a law, the row. Written by a program of this session (wip/myprint.py over the given print). No condition. -/
import Derived.Test.YtbjfhchlngiboaaPAllx0
import Derived.Test.YtbjfhchlngiboaaPAllx2
namespace Go.Proofs.Ytbjfhchlngiboaa.PAll
open Go.RowKit Go.Proofs.YtbjfhchlngiboaaW.PrintWords Go.Proofs.YtbjfhchlngiboaaW.PrintLast Go.Proofs.YtbjfhchlngiboaaW.PrintMore
attribute [local go_sem] max2_int min2_int max_two min_two max_three min_three max_four min_four   -- for this text's walks alone
set_option linter.unusedVariables false
set_option linter.unusedSimpArgs false

/-! ### num_Mul: function 15 -/
def num_Mul.j0 : Nat → Int → Int → Bool → Option (Int × Int)
  | 0, _, _, _ => none
  | k + 1, x0, x1, x34 => if x34 = true then (some (0, 10)) else (some (wrap64 (x0 * x1), 0))
def num_Mul.f (k : Nat) (a0 : Int) (a1 : Int) : Option (Int × Int) := (num_sign.f a0).bind fun t147 => ((num_sign.f a1).bind fun t148 => (if (wrap64 (t147 * t148)) = 1 then (if a0 > 0 then (if a0 = 0 then (none) else (if a1 > (wrap64 (Int.tdiv 9223372036854775807 a0)) then (num_Mul.j0 k a0 a1 true) else (if a0 < 0 then (num_Mul.j0 k a0 a1 (decide (a1 < (wrap64 (Int.tdiv 9223372036854775807 a0))))) else (num_Mul.j0 k a0 a1 false)))) else (if a0 < 0 then (if a0 = 0 then (none) else (num_Mul.j0 k a0 a1 (decide (a1 < (wrap64 (Int.tdiv 9223372036854775807 a0)))))) else (num_Mul.j0 k a0 a1 false))) else (if (wrap64 (t147 * t148)) = (-1) then (if a0 > 0 then (if a0 = 0 then (none) else (if a1 < (wrap64 (-Int.tdiv 9223372036854775808 a0)) then (some (0, 10)) else (if a1 > 0 then (if a1 = 0 then (none) else (if a0 < (wrap64 (-Int.tdiv 9223372036854775808 a1)) then (some (0, 10)) else (some (wrap64 (a0 * a1), 0)))) else (some (wrap64 (a0 * a1), 0))))) else (if a1 > 0 then (if a1 = 0 then (none) else (if a0 < (wrap64 (-Int.tdiv 9223372036854775808 a1)) then (some (0, 10)) else (some (wrap64 (a0 * a1), 0)))) else (some (wrap64 (a0 * a1), 0)))) else (if (wrap64 (t147 * t148)) = 0 then (some (0, 0)) else (some (0, 0))))))
theorem num_Mul.mono_l : ∀ k, (∀ y0 y1 y2, LeO (num_Mul.j0 k y0 y1 y2) (num_Mul.j0 (k + 1) y0 y1 y2))
  | 0 => fun _ _ _ r h => by simp [num_Mul.j0] at h
  | k + 1 => by
    have ih0 := num_Mul.mono_l k
    · intro y0 y1 y2
      unfold num_Mul.j0
      repeat' first
      | (with_reducible exact ih0 _ _ _)
      | (with_reducible exact LeO.refl _)
      | (with_reducible exact LeO.none _)
      | (with_reducible refine LeO.ite ?_ ?_)
      | (with_reducible refine LeO.bind ?_ (fun _ => ?_))
      | exact ih0 _ _ _
      | exact LeO.none _
      | refine LeO.ite ?_ ?_
      | refine LeO.bind ?_ (fun _ => ?_)
theorem num_Mul.mono : ∀ a0 a1 k, LeO (num_Mul.f k a0 a1) (num_Mul.f (k + 1) a0 a1) := by
  intro a0 a1 k
  have ih0 := num_Mul.mono_l k
  unfold num_Mul.f
  repeat' first
      | (with_reducible exact ih0 _ _ _)
      | (with_reducible exact LeO.refl _)
      | (with_reducible exact LeO.none _)
      | (with_reducible refine LeO.ite ?_ ?_)
      | (with_reducible refine LeO.bind ?_ (fun _ => ?_))
      | exact ih0 _ _ _
      | exact LeO.none _
      | refine LeO.ite ?_ ?_
      | refine LeO.bind ?_ (fun _ => ?_)
set_option maxHeartbeats 8000000 in
set_option maxRecDepth 100000 in
theorem num_Mul.calls (k : Nat) (a0 : Int) (a1 : Int) (r1 : Int) (r2 : Int) (w : World) (h : num_Mul.f k a0 a1 = some (r1, r2)) :
    Calls Try.prog 15 #[.int .i64 a0, .int .i64 a1] w fun e w' => e = .returned (.tuple #[.int .i64 r1, .int .i64 r2]) ∧ Drawn0 w w' := by
  have H : ((num_sign.f a0).bind fun t147 => ((num_sign.f a1).bind fun t148 => (if (wrap64 (t147 * t148)) = 1 then (if a0 > 0 then (if a0 = 0 then (none) else (if a1 > (wrap64 (Int.tdiv 9223372036854775807 a0)) then (num_Mul.j0 k a0 a1 true) else (if a0 < 0 then (num_Mul.j0 k a0 a1 (decide (a1 < (wrap64 (Int.tdiv 9223372036854775807 a0))))) else (num_Mul.j0 k a0 a1 false)))) else (if a0 < 0 then (if a0 = 0 then (none) else (num_Mul.j0 k a0 a1 (decide (a1 < (wrap64 (Int.tdiv 9223372036854775807 a0)))))) else (num_Mul.j0 k a0 a1 false))) else (if (wrap64 (t147 * t148)) = (-1) then (if a0 > 0 then (if a0 = 0 then (none) else (if a1 < (wrap64 (-Int.tdiv 9223372036854775808 a0)) then (some (0, 10)) else (if a1 > 0 then (if a1 = 0 then (none) else (if a0 < (wrap64 (-Int.tdiv 9223372036854775808 a1)) then (some (0, 10)) else (some (wrap64 (a0 * a1), 0)))) else (some (wrap64 (a0 * a1), 0))))) else (if a1 > 0 then (if a1 = 0 then (none) else (if a0 < (wrap64 (-Int.tdiv 9223372036854775808 a1)) then (some (0, 10)) else (some (wrap64 (a0 * a1), 0)))) else (some (wrap64 (a0 * a1), 0)))) else (if (wrap64 (t147 * t148)) = 0 then (some (0, 0)) else (some (0, 0))))))) = some (r1, r2) := h
  clear h
  replace H := Option.bind_eq_some_iff.mp H
  obtain ⟨t147, A30, H⟩ := H
  replace H : ((num_sign.f a1).bind fun t148 => (if (wrap64 (t147 * t148)) = 1 then (if a0 > 0 then (if a0 = 0 then (none) else (if a1 > (wrap64 (Int.tdiv 9223372036854775807 a0)) then (num_Mul.j0 k a0 a1 true) else (if a0 < 0 then (num_Mul.j0 k a0 a1 (decide (a1 < (wrap64 (Int.tdiv 9223372036854775807 a0))))) else (num_Mul.j0 k a0 a1 false)))) else (if a0 < 0 then (if a0 = 0 then (none) else (num_Mul.j0 k a0 a1 (decide (a1 < (wrap64 (Int.tdiv 9223372036854775807 a0)))))) else (num_Mul.j0 k a0 a1 false))) else (if (wrap64 (t147 * t148)) = (-1) then (if a0 > 0 then (if a0 = 0 then (none) else (if a1 < (wrap64 (-Int.tdiv 9223372036854775808 a0)) then (some (0, 10)) else (if a1 > 0 then (if a1 = 0 then (none) else (if a0 < (wrap64 (-Int.tdiv 9223372036854775808 a1)) then (some (0, 10)) else (some (wrap64 (a0 * a1), 0)))) else (some (wrap64 (a0 * a1), 0))))) else (if a1 > 0 then (if a1 = 0 then (none) else (if a0 < (wrap64 (-Int.tdiv 9223372036854775808 a1)) then (some (0, 10)) else (some (wrap64 (a0 * a1), 0)))) else (some (wrap64 (a0 * a1), 0)))) else (if (wrap64 (t147 * t148)) = 0 then (some (0, 0)) else (some (0, 0)))))) = some (r1, r2) := H
  have A3 := Aside0.mk A30
  clear A30
  replace H := Option.bind_eq_some_iff.mp H
  obtain ⟨t148, A40, H⟩ := H
  replace H : (if (wrap64 (t147 * t148)) = 1 then (if a0 > 0 then (if a0 = 0 then (none) else (if a1 > (wrap64 (Int.tdiv 9223372036854775807 a0)) then (num_Mul.j0 k a0 a1 true) else (if a0 < 0 then (num_Mul.j0 k a0 a1 (decide (a1 < (wrap64 (Int.tdiv 9223372036854775807 a0))))) else (num_Mul.j0 k a0 a1 false)))) else (if a0 < 0 then (if a0 = 0 then (none) else (num_Mul.j0 k a0 a1 (decide (a1 < (wrap64 (Int.tdiv 9223372036854775807 a0)))))) else (num_Mul.j0 k a0 a1 false))) else (if (wrap64 (t147 * t148)) = (-1) then (if a0 > 0 then (if a0 = 0 then (none) else (if a1 < (wrap64 (-Int.tdiv 9223372036854775808 a0)) then (some (0, 10)) else (if a1 > 0 then (if a1 = 0 then (none) else (if a0 < (wrap64 (-Int.tdiv 9223372036854775808 a1)) then (some (0, 10)) else (some (wrap64 (a0 * a1), 0)))) else (some (wrap64 (a0 * a1), 0))))) else (if a1 > 0 then (if a1 = 0 then (none) else (if a0 < (wrap64 (-Int.tdiv 9223372036854775808 a1)) then (some (0, 10)) else (some (wrap64 (a0 * a1), 0)))) else (some (wrap64 (a0 * a1), 0)))) else (if (wrap64 (t147 * t148)) = 0 then (some (0, 0)) else (some (0, 0))))) = some (r1, r2) := H
  have A4 := Aside0.mk A40
  clear A40
  by_cases c5 : (wrap64 (t147 * t148)) = 1
  · rw [if_pos c5] at H
    have c5b0 : ((wrap64 (t147 * t148)) == 1) = true := beq_iff_eq.mpr c5
    have c5b1 : ((wrap64 (t147 * t148)) != 1) = false := bne_eq_false_iff_eq.mpr c5
    clear c5
    have HC6 := Aside0.mk H
    clear H
    go_enter Try.func15, Try.ntmps15
    go_upto_region 5 with (first | ((with_reducible refine gate_callee (f := 29) rfl ?_); refine goesL_ (some 7) rfl rfl Try.func29 (by kernel_rfl) rfl #[.int .i64 a0] rfl (by (try simp only [List.map_toArray, List.map_cons, List.map_nil]); first | done | rfl | (simp only [List.length_drop, List.length_take]; rfl)) ?_; (with_reducible refine (num_sign.calls a0 t147 _ A3.out).mono ?_); rintro e w' ⟨rfl, ⟨nd, rfl⟩⟩; refine ⟨_, rfl, ?_⟩) | ((with_reducible refine gate_callee (f := 29) rfl ?_); refine goesL_ (some 9) rfl rfl Try.func29 (by kernel_rfl) rfl #[.int .i64 a1] rfl (by (try simp only [List.map_toArray, List.map_cons, List.map_nil]); first | done | rfl | (simp only [List.length_drop, List.length_take]; rfl)) ?_; (with_reducible refine (num_sign.calls a1 t148 _ A4.out).mono ?_); rintro e w' ⟨rfl, ⟨nd, rfl⟩⟩; refine ⟨_, rfl, ?_⟩))
    (try simp only [Act.put, List.setIfInBounds_toArray, List.set_cons_zero, List.set_cons_succ])
    go_cut [34] (fun v34 wc => ∃ (kq : Nat) (x34_5 : Bool), v34 = .bool x34_5 ∧ Aside0 (num_Mul.j0 kq a0 a1 x34_5 = some (r1, r2)) ∧ Aside0 (kq ≤ k) ∧ Drawn0 w wc)
    case first =>
      have H := HC6.out
      clear HC6
      by_cases c7 : a0 > 0
      · rw [if_pos c7] at H
        have c7b0 : decide (0 < a0) = true := decide_eq_true c7
        clear c7
        (first | rw [c7b0] | (simp only [i64_w, i32_w]; rw [c7b0]) | skip)
        by_cases c8 : a0 = 0
        · rw [if_pos c8] at H
          exact absurd H (by simp)
        · rw [if_neg c8] at H
          have c8b0 : (a0 == 0) = false := beq_eq_false_iff_ne.mpr c8
          have c8b1 : (a0 != 0) = true := bne_iff_ne.mpr c8
          by_cases c9 : a1 > (wrap64 (Int.tdiv 9223372036854775807 a0))
          · rw [if_pos c9] at H
            have c9b0 : decide ((wrap64 (Int.tdiv 9223372036854775807 a0)) < a1) = true := decide_eq_true c9
            clear c9
            have H' := Aside0.mk H
            clear H
            go_wp2
            go_meet
            case rel => exact ⟨_, (true), (by first | rfl | (simp; done) | (simp [*]; done)), H', ⟨by first | omega | exact Nat.le_refl _⟩, by repeat (first | exact Drawn0.refl _ | apply Drawn0.step)⟩
          · rw [if_neg c9] at H
            have c9b0 : decide ((wrap64 (Int.tdiv 9223372036854775807 a0)) < a1) = false := decide_eq_false c9
            clear c9
            by_cases c10 : a0 < 0
            · rw [if_pos c10] at H
              have c10b0 : decide (a0 < 0) = true := decide_eq_true c10
              clear c10
              have H' := Aside0.mk H
              clear H
              go_wp2
              go_meet
              case rel => exact ⟨_, (decide (a1 < (wrap64 (Int.tdiv 9223372036854775807 a0)))), (by first | rfl | (simp; done) | (simp [*]; done)), H', ⟨by first | omega | exact Nat.le_refl _⟩, by repeat (first | exact Drawn0.refl _ | apply Drawn0.step)⟩
            · rw [if_neg c10] at H
              have c10b0 : decide (a0 < 0) = false := decide_eq_false c10
              clear c10
              have H' := Aside0.mk H
              clear H
              go_wp2
              go_meet
              case rel => exact ⟨_, (false), (by first | rfl | (simp; done) | (simp [*]; done)), H', ⟨by first | omega | exact Nat.le_refl _⟩, by repeat (first | exact Drawn0.refl _ | apply Drawn0.step)⟩
      · rw [if_neg c7] at H
        have c7b0 : decide (0 < a0) = false := decide_eq_false c7
        clear c7
        (first | rw [c7b0] | (simp only [i64_w, i32_w]; rw [c7b0]) | skip)
        by_cases c11 : a0 < 0
        · rw [if_pos c11] at H
          have c11b0 : decide (a0 < 0) = true := decide_eq_true c11
          clear c11
          by_cases c12 : a0 = 0
          · rw [if_pos c12] at H
            exact absurd H (by simp)
          · rw [if_neg c12] at H
            have c12b0 : (a0 == 0) = false := beq_eq_false_iff_ne.mpr c12
            have c12b1 : (a0 != 0) = true := bne_iff_ne.mpr c12
            have H' := Aside0.mk H
            clear H
            go_wp2
            go_meet
            case rel => exact ⟨_, (decide (a1 < (wrap64 (Int.tdiv 9223372036854775807 a0)))), (by first | rfl | (simp; done) | (simp [*]; done)), H', ⟨by first | omega | exact Nat.le_refl _⟩, by repeat (first | exact Drawn0.refl _ | apply Drawn0.step)⟩
        · rw [if_neg c11] at H
          have c11b0 : decide (a0 < 0) = false := decide_eq_false c11
          clear c11
          have H' := Aside0.mk H
          clear H
          go_wp2
          go_meet
          case rel => exact ⟨_, (false), (by first | rfl | (simp; done) | (simp [*]; done)), H', ⟨by first | omega | exact Nat.le_refl _⟩, by repeat (first | exact Drawn0.refl _ | apply Drawn0.step)⟩
    case rest =>
      clear HC6
      try clear c1
      try clear c2
      try clear p2
      try clear c5
      try clear c5b0
      try clear c5b1
      try clear p6
      try clear c7
      try clear c7b0
      try clear c8
      try clear c8b0
      try clear c8b1
      try clear c9
      try clear c9b0
      try clear c10
      try clear c10b0
      try clear c11
      try clear c11b0
      try clear c12
      try clear c12b0
      try clear c12b1
      obtain ⟨kq, x34_5, rfl, HA, HJ5, ⟨mc5, rfl⟩⟩ := hcut
      cases kq with
      | zero => exact absurd HA.out (by simp [num_Mul.j0])
      | succ kj5 =>
        have H := HA.out
        clear HA
        simp only [num_Mul.j0] at H
        by_cases c13 : x34_5 = true
        · subst c13
          have H1 : (some (0, 10)) = some (r1, r2) := by rw [if_pos rfl] at H; exact H
          clear H
          have H := H1
          clear H1
          simp only [Option.some.injEq, Prod.mk.injEq] at H
          obtain ⟨rfl, rfl⟩ := H
          go_wp2
          go_ret2
          exact ⟨by first | rfl | (simp; done) | (simp [*]; done), by repeat (first | exact Drawn0.refl _ | apply Drawn0.step)⟩
        · replace c13 := Bool.eq_false_iff.mpr c13
          subst c13
          have H1 : (some (wrap64 (a0 * a1), 0)) = some (r1, r2) := by rw [if_neg (show ¬ (false = true) by decide)] at H; exact H
          clear H
          have H := H1
          clear H1
          simp only [Option.some.injEq, Prod.mk.injEq] at H
          obtain ⟨rfl, rfl⟩ := H
          go_wp2
          go_ret2
          exact ⟨by first | rfl | (simp; done) | (simp [*]; done), by repeat (first | exact Drawn0.refl _ | apply Drawn0.step)⟩
  · rw [if_neg c5] at H
    have c5b0 : ((wrap64 (t147 * t148)) == 1) = false := beq_eq_false_iff_ne.mpr c5
    have c5b1 : ((wrap64 (t147 * t148)) != 1) = true := bne_iff_ne.mpr c5
    by_cases c14 : (wrap64 (t147 * t148)) = (-1)
    · rw [if_pos c14] at H
      have c14b0 : ((wrap64 (t147 * t148)) == (-1)) = true := beq_iff_eq.mpr c14
      have c14b1 : ((wrap64 (t147 * t148)) != (-1)) = false := bne_eq_false_iff_eq.mpr c14
      clear c14
      by_cases c15 : a0 > 0
      · rw [if_pos c15] at H
        have c15b0 : decide (0 < a0) = true := decide_eq_true c15
        clear c15
        by_cases c16 : a0 = 0
        · rw [if_pos c16] at H
          exact absurd H (by simp)
        · rw [if_neg c16] at H
          have c16b0 : (a0 == 0) = false := beq_eq_false_iff_ne.mpr c16
          have c16b1 : (a0 != 0) = true := bne_iff_ne.mpr c16
          by_cases c17 : a1 < (wrap64 (-Int.tdiv 9223372036854775808 a0))
          · rw [if_pos c17] at H
            have c17b0 : decide (a1 < (wrap64 (-Int.tdiv 9223372036854775808 a0))) = true := decide_eq_true c17
            clear c17
            simp only [Option.some.injEq, Prod.mk.injEq] at H
            obtain ⟨rfl, rfl⟩ := H
            go_enter Try.func15, Try.ntmps15
            go_wp2_with (first | ((with_reducible refine gate_callee (f := 29) rfl ?_); refine goesL_ (some 7) rfl rfl Try.func29 (by kernel_rfl) rfl #[.int .i64 a0] rfl (by (try simp only [List.map_toArray, List.map_cons, List.map_nil]); first | done | rfl | (simp only [List.length_drop, List.length_take]; rfl)) ?_; (with_reducible refine (num_sign.calls a0 t147 _ A3.out).mono ?_); rintro e w' ⟨rfl, ⟨nd, rfl⟩⟩; refine ⟨_, rfl, ?_⟩) | ((with_reducible refine gate_callee (f := 29) rfl ?_); refine goesL_ (some 9) rfl rfl Try.func29 (by kernel_rfl) rfl #[.int .i64 a1] rfl (by (try simp only [List.map_toArray, List.map_cons, List.map_nil]); first | done | rfl | (simp only [List.length_drop, List.length_take]; rfl)) ?_; (with_reducible refine (num_sign.calls a1 t148 _ A4.out).mono ?_); rintro e w' ⟨rfl, ⟨nd, rfl⟩⟩; refine ⟨_, rfl, ?_⟩))
            go_ret2
            exact ⟨by first | rfl | (simp; done) | (simp [*]; done), by repeat (first | exact Drawn0.refl _ | apply Drawn0.step)⟩
          · rw [if_neg c17] at H
            have c17b0 : decide (a1 < (wrap64 (-Int.tdiv 9223372036854775808 a0))) = false := decide_eq_false c17
            clear c17
            by_cases c18 : a1 > 0
            · rw [if_pos c18] at H
              have c18b0 : decide (0 < a1) = true := decide_eq_true c18
              clear c18
              by_cases c19 : a1 = 0
              · rw [if_pos c19] at H
                exact absurd H (by simp)
              · rw [if_neg c19] at H
                have c19b0 : (a1 == 0) = false := beq_eq_false_iff_ne.mpr c19
                have c19b1 : (a1 != 0) = true := bne_iff_ne.mpr c19
                by_cases c20 : a0 < (wrap64 (-Int.tdiv 9223372036854775808 a1))
                · rw [if_pos c20] at H
                  have c20b0 : decide (a0 < (wrap64 (-Int.tdiv 9223372036854775808 a1))) = true := decide_eq_true c20
                  clear c20
                  simp only [Option.some.injEq, Prod.mk.injEq] at H
                  obtain ⟨rfl, rfl⟩ := H
                  go_enter Try.func15, Try.ntmps15
                  go_wp2_with (first | ((with_reducible refine gate_callee (f := 29) rfl ?_); refine goesL_ (some 7) rfl rfl Try.func29 (by kernel_rfl) rfl #[.int .i64 a0] rfl (by (try simp only [List.map_toArray, List.map_cons, List.map_nil]); first | done | rfl | (simp only [List.length_drop, List.length_take]; rfl)) ?_; (with_reducible refine (num_sign.calls a0 t147 _ A3.out).mono ?_); rintro e w' ⟨rfl, ⟨nd, rfl⟩⟩; refine ⟨_, rfl, ?_⟩) | ((with_reducible refine gate_callee (f := 29) rfl ?_); refine goesL_ (some 9) rfl rfl Try.func29 (by kernel_rfl) rfl #[.int .i64 a1] rfl (by (try simp only [List.map_toArray, List.map_cons, List.map_nil]); first | done | rfl | (simp only [List.length_drop, List.length_take]; rfl)) ?_; (with_reducible refine (num_sign.calls a1 t148 _ A4.out).mono ?_); rintro e w' ⟨rfl, ⟨nd, rfl⟩⟩; refine ⟨_, rfl, ?_⟩))
                  go_ret2
                  exact ⟨by first | rfl | (simp; done) | (simp [*]; done), by repeat (first | exact Drawn0.refl _ | apply Drawn0.step)⟩
                · rw [if_neg c20] at H
                  have c20b0 : decide (a0 < (wrap64 (-Int.tdiv 9223372036854775808 a1))) = false := decide_eq_false c20
                  clear c20
                  simp only [Option.some.injEq, Prod.mk.injEq] at H
                  obtain ⟨rfl, rfl⟩ := H
                  go_enter Try.func15, Try.ntmps15
                  go_wp2_with (first | ((with_reducible refine gate_callee (f := 29) rfl ?_); refine goesL_ (some 7) rfl rfl Try.func29 (by kernel_rfl) rfl #[.int .i64 a0] rfl (by (try simp only [List.map_toArray, List.map_cons, List.map_nil]); first | done | rfl | (simp only [List.length_drop, List.length_take]; rfl)) ?_; (with_reducible refine (num_sign.calls a0 t147 _ A3.out).mono ?_); rintro e w' ⟨rfl, ⟨nd, rfl⟩⟩; refine ⟨_, rfl, ?_⟩) | ((with_reducible refine gate_callee (f := 29) rfl ?_); refine goesL_ (some 9) rfl rfl Try.func29 (by kernel_rfl) rfl #[.int .i64 a1] rfl (by (try simp only [List.map_toArray, List.map_cons, List.map_nil]); first | done | rfl | (simp only [List.length_drop, List.length_take]; rfl)) ?_; (with_reducible refine (num_sign.calls a1 t148 _ A4.out).mono ?_); rintro e w' ⟨rfl, ⟨nd, rfl⟩⟩; refine ⟨_, rfl, ?_⟩))
                  go_ret2
                  exact ⟨by first | rfl | (simp; done) | (simp [*]; done), by repeat (first | exact Drawn0.refl _ | apply Drawn0.step)⟩
            · rw [if_neg c18] at H
              have c18b0 : decide (0 < a1) = false := decide_eq_false c18
              clear c18
              simp only [Option.some.injEq, Prod.mk.injEq] at H
              obtain ⟨rfl, rfl⟩ := H
              go_enter Try.func15, Try.ntmps15
              go_wp2_with (first | ((with_reducible refine gate_callee (f := 29) rfl ?_); refine goesL_ (some 7) rfl rfl Try.func29 (by kernel_rfl) rfl #[.int .i64 a0] rfl (by (try simp only [List.map_toArray, List.map_cons, List.map_nil]); first | done | rfl | (simp only [List.length_drop, List.length_take]; rfl)) ?_; (with_reducible refine (num_sign.calls a0 t147 _ A3.out).mono ?_); rintro e w' ⟨rfl, ⟨nd, rfl⟩⟩; refine ⟨_, rfl, ?_⟩) | ((with_reducible refine gate_callee (f := 29) rfl ?_); refine goesL_ (some 9) rfl rfl Try.func29 (by kernel_rfl) rfl #[.int .i64 a1] rfl (by (try simp only [List.map_toArray, List.map_cons, List.map_nil]); first | done | rfl | (simp only [List.length_drop, List.length_take]; rfl)) ?_; (with_reducible refine (num_sign.calls a1 t148 _ A4.out).mono ?_); rintro e w' ⟨rfl, ⟨nd, rfl⟩⟩; refine ⟨_, rfl, ?_⟩))
              go_ret2
              exact ⟨by first | rfl | (simp; done) | (simp [*]; done), by repeat (first | exact Drawn0.refl _ | apply Drawn0.step)⟩
      · rw [if_neg c15] at H
        have c15b0 : decide (0 < a0) = false := decide_eq_false c15
        clear c15
        by_cases c21 : a1 > 0
        · rw [if_pos c21] at H
          have c21b0 : decide (0 < a1) = true := decide_eq_true c21
          clear c21
          by_cases c22 : a1 = 0
          · rw [if_pos c22] at H
            exact absurd H (by simp)
          · rw [if_neg c22] at H
            have c22b0 : (a1 == 0) = false := beq_eq_false_iff_ne.mpr c22
            have c22b1 : (a1 != 0) = true := bne_iff_ne.mpr c22
            by_cases c23 : a0 < (wrap64 (-Int.tdiv 9223372036854775808 a1))
            · rw [if_pos c23] at H
              have c23b0 : decide (a0 < (wrap64 (-Int.tdiv 9223372036854775808 a1))) = true := decide_eq_true c23
              clear c23
              simp only [Option.some.injEq, Prod.mk.injEq] at H
              obtain ⟨rfl, rfl⟩ := H
              go_enter Try.func15, Try.ntmps15
              go_wp2_with (first | ((with_reducible refine gate_callee (f := 29) rfl ?_); refine goesL_ (some 7) rfl rfl Try.func29 (by kernel_rfl) rfl #[.int .i64 a0] rfl (by (try simp only [List.map_toArray, List.map_cons, List.map_nil]); first | done | rfl | (simp only [List.length_drop, List.length_take]; rfl)) ?_; (with_reducible refine (num_sign.calls a0 t147 _ A3.out).mono ?_); rintro e w' ⟨rfl, ⟨nd, rfl⟩⟩; refine ⟨_, rfl, ?_⟩) | ((with_reducible refine gate_callee (f := 29) rfl ?_); refine goesL_ (some 9) rfl rfl Try.func29 (by kernel_rfl) rfl #[.int .i64 a1] rfl (by (try simp only [List.map_toArray, List.map_cons, List.map_nil]); first | done | rfl | (simp only [List.length_drop, List.length_take]; rfl)) ?_; (with_reducible refine (num_sign.calls a1 t148 _ A4.out).mono ?_); rintro e w' ⟨rfl, ⟨nd, rfl⟩⟩; refine ⟨_, rfl, ?_⟩))
              go_ret2
              exact ⟨by first | rfl | (simp; done) | (simp [*]; done), by repeat (first | exact Drawn0.refl _ | apply Drawn0.step)⟩
            · rw [if_neg c23] at H
              have c23b0 : decide (a0 < (wrap64 (-Int.tdiv 9223372036854775808 a1))) = false := decide_eq_false c23
              clear c23
              simp only [Option.some.injEq, Prod.mk.injEq] at H
              obtain ⟨rfl, rfl⟩ := H
              go_enter Try.func15, Try.ntmps15
              go_wp2_with (first | ((with_reducible refine gate_callee (f := 29) rfl ?_); refine goesL_ (some 7) rfl rfl Try.func29 (by kernel_rfl) rfl #[.int .i64 a0] rfl (by (try simp only [List.map_toArray, List.map_cons, List.map_nil]); first | done | rfl | (simp only [List.length_drop, List.length_take]; rfl)) ?_; (with_reducible refine (num_sign.calls a0 t147 _ A3.out).mono ?_); rintro e w' ⟨rfl, ⟨nd, rfl⟩⟩; refine ⟨_, rfl, ?_⟩) | ((with_reducible refine gate_callee (f := 29) rfl ?_); refine goesL_ (some 9) rfl rfl Try.func29 (by kernel_rfl) rfl #[.int .i64 a1] rfl (by (try simp only [List.map_toArray, List.map_cons, List.map_nil]); first | done | rfl | (simp only [List.length_drop, List.length_take]; rfl)) ?_; (with_reducible refine (num_sign.calls a1 t148 _ A4.out).mono ?_); rintro e w' ⟨rfl, ⟨nd, rfl⟩⟩; refine ⟨_, rfl, ?_⟩))
              go_ret2
              exact ⟨by first | rfl | (simp; done) | (simp [*]; done), by repeat (first | exact Drawn0.refl _ | apply Drawn0.step)⟩
        · rw [if_neg c21] at H
          have c21b0 : decide (0 < a1) = false := decide_eq_false c21
          clear c21
          simp only [Option.some.injEq, Prod.mk.injEq] at H
          obtain ⟨rfl, rfl⟩ := H
          go_enter Try.func15, Try.ntmps15
          go_wp2_with (first | ((with_reducible refine gate_callee (f := 29) rfl ?_); refine goesL_ (some 7) rfl rfl Try.func29 (by kernel_rfl) rfl #[.int .i64 a0] rfl (by (try simp only [List.map_toArray, List.map_cons, List.map_nil]); first | done | rfl | (simp only [List.length_drop, List.length_take]; rfl)) ?_; (with_reducible refine (num_sign.calls a0 t147 _ A3.out).mono ?_); rintro e w' ⟨rfl, ⟨nd, rfl⟩⟩; refine ⟨_, rfl, ?_⟩) | ((with_reducible refine gate_callee (f := 29) rfl ?_); refine goesL_ (some 9) rfl rfl Try.func29 (by kernel_rfl) rfl #[.int .i64 a1] rfl (by (try simp only [List.map_toArray, List.map_cons, List.map_nil]); first | done | rfl | (simp only [List.length_drop, List.length_take]; rfl)) ?_; (with_reducible refine (num_sign.calls a1 t148 _ A4.out).mono ?_); rintro e w' ⟨rfl, ⟨nd, rfl⟩⟩; refine ⟨_, rfl, ?_⟩))
          go_ret2
          exact ⟨by first | rfl | (simp; done) | (simp [*]; done), by repeat (first | exact Drawn0.refl _ | apply Drawn0.step)⟩
    · rw [if_neg c14] at H
      have c14b0 : ((wrap64 (t147 * t148)) == (-1)) = false := beq_eq_false_iff_ne.mpr c14
      have c14b1 : ((wrap64 (t147 * t148)) != (-1)) = true := bne_iff_ne.mpr c14
      by_cases c24 : (wrap64 (t147 * t148)) = 0
      · rw [if_pos c24] at H
        have c24b0 : ((wrap64 (t147 * t148)) == 0) = true := beq_iff_eq.mpr c24
        have c24b1 : ((wrap64 (t147 * t148)) != 0) = false := bne_eq_false_iff_eq.mpr c24
        clear c24
        simp only [Option.some.injEq, Prod.mk.injEq] at H
        obtain ⟨rfl, rfl⟩ := H
        go_enter Try.func15, Try.ntmps15
        go_wp2_with (first | ((with_reducible refine gate_callee (f := 29) rfl ?_); refine goesL_ (some 7) rfl rfl Try.func29 (by kernel_rfl) rfl #[.int .i64 a0] rfl (by (try simp only [List.map_toArray, List.map_cons, List.map_nil]); first | done | rfl | (simp only [List.length_drop, List.length_take]; rfl)) ?_; (with_reducible refine (num_sign.calls a0 t147 _ A3.out).mono ?_); rintro e w' ⟨rfl, ⟨nd, rfl⟩⟩; refine ⟨_, rfl, ?_⟩) | ((with_reducible refine gate_callee (f := 29) rfl ?_); refine goesL_ (some 9) rfl rfl Try.func29 (by kernel_rfl) rfl #[.int .i64 a1] rfl (by (try simp only [List.map_toArray, List.map_cons, List.map_nil]); first | done | rfl | (simp only [List.length_drop, List.length_take]; rfl)) ?_; (with_reducible refine (num_sign.calls a1 t148 _ A4.out).mono ?_); rintro e w' ⟨rfl, ⟨nd, rfl⟩⟩; refine ⟨_, rfl, ?_⟩))
        go_ret2
        exact ⟨by first | rfl | (simp; done) | (simp [*]; done), by repeat (first | exact Drawn0.refl _ | apply Drawn0.step)⟩
      · rw [if_neg c24] at H
        have c24b0 : ((wrap64 (t147 * t148)) == 0) = false := beq_eq_false_iff_ne.mpr c24
        have c24b1 : ((wrap64 (t147 * t148)) != 0) = true := bne_iff_ne.mpr c24
        simp only [Option.some.injEq, Prod.mk.injEq] at H
        obtain ⟨rfl, rfl⟩ := H
        go_enter Try.func15, Try.ntmps15
        go_wp2_with (first | ((with_reducible refine gate_callee (f := 29) rfl ?_); refine goesL_ (some 7) rfl rfl Try.func29 (by kernel_rfl) rfl #[.int .i64 a0] rfl (by (try simp only [List.map_toArray, List.map_cons, List.map_nil]); first | done | rfl | (simp only [List.length_drop, List.length_take]; rfl)) ?_; (with_reducible refine (num_sign.calls a0 t147 _ A3.out).mono ?_); rintro e w' ⟨rfl, ⟨nd, rfl⟩⟩; refine ⟨_, rfl, ?_⟩) | ((with_reducible refine gate_callee (f := 29) rfl ?_); refine goesL_ (some 9) rfl rfl Try.func29 (by kernel_rfl) rfl #[.int .i64 a1] rfl (by (try simp only [List.map_toArray, List.map_cons, List.map_nil]); first | done | rfl | (simp only [List.length_drop, List.length_take]; rfl)) ?_; (with_reducible refine (num_sign.calls a1 t148 _ A4.out).mono ?_); rintro e w' ⟨rfl, ⟨nd, rfl⟩⟩; refine ⟨_, rfl, ?_⟩))
        go_ret2
        exact ⟨by first | rfl | (simp; done) | (simp [*]; done), by repeat (first | exact Drawn0.refl _ | apply Drawn0.step)⟩

end Go.Proofs.Ytbjfhchlngiboaa.PAll
