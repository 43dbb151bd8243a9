/- Functions of the Go program as plain Lean functions, and the proofs that the code comes to just their answers; of a law, the row. Written by a program of this session (wip/myprint.py over the given print). No condition. -/
import Derived.Test.YtbjfhchlngiboaaPAllx0
import Derived.Test.YtbjfhchlngiboaaPAllx1
import Derived.Test.YtbjfhchlngiboaaPAllx2
import Derived.Test.YtbjfhchlngiboaaPAllx3
namespace Go.Proofs.Ytbjfhchlngiboaa.PAll
open Go.RowKit Go.Proofs.YtbjfhchlngiboaaW.PrintWords Go.Proofs.YtbjfhchlngiboaaW.PrintLast Go.Proofs.YtbjfhchlngiboaaW.PrintMore
attribute [local go_sem] max2_int min2_int max_two min_two max_three min_three max_four min_four   -- for this text's walks alone
set_option linter.unusedVariables false
set_option linter.unusedSimpArgs false

/-! ### haruspexref04_Sub: function 17 -/
def haruspexref04_Sub.f (a0 : Int) (a1 : Int) : Option (Int × Int) := if a1 = (-9223372036854775808) then (if a0 ≥ 0 then (some (0, 10)) else (some (wrap64 (a0 - a1), 0))) else ((haruspexref04_Add.f a0 (wrap64 (-a1))).bind fun bt173 => (some (bt173.1, bt173.2)))
set_option maxHeartbeats 8000000 in
set_option maxRecDepth 100000 in
theorem haruspexref04_Sub.calls (a0 : Int) (a1 : Int) (r1 : Int) (r2 : Int) (w : World) (h : haruspexref04_Sub.f a0 a1 = some (r1, r2)) :
    Calls Try.prog 17 #[.int .i64 a0, .int .i64 a1] w fun e w' => e = .returned (.tuple #[.int .i64 r1, .int .i64 r2]) ∧ Drawn0 w w' := by
  have H : (if a1 = (-9223372036854775808) then (if a0 ≥ 0 then (some (0, 10)) else (some (wrap64 (a0 - a1), 0))) else ((haruspexref04_Add.f a0 (wrap64 (-a1))).bind fun bt173 => (some (bt173.1, bt173.2)))) = some (r1, r2) := h
  clear h
  by_cases c3 : a1 = (-9223372036854775808)
  · rw [if_pos c3] at H
    have c3b0 : (a1 == (-9223372036854775808)) = true := beq_iff_eq.mpr c3
    have c3b1 : (a1 != (-9223372036854775808)) = false := bne_eq_false_iff_eq.mpr c3
    clear c3
    by_cases c4 : a0 ≥ 0
    · rw [if_pos c4] at H
      have c4b0 : decide (0 ≤ a0) = true := decide_eq_true c4
      clear c4
      simp only [Option.some.injEq, Prod.mk.injEq] at H
      obtain ⟨rfl, rfl⟩ := H
      go_enter Try.func17, Try.ntmps17
      go_wp2
      go_ret2
      exact ⟨by first | rfl | (simp; done) | (simp [*]; done), by repeat (first | exact Drawn0.refl _ | apply Drawn0.step)⟩
    · rw [if_neg c4] at H
      have c4b0 : decide (0 ≤ a0) = false := decide_eq_false c4
      clear c4
      simp only [Option.some.injEq, Prod.mk.injEq] at H
      obtain ⟨rfl, rfl⟩ := H
      go_enter Try.func17, Try.ntmps17
      go_wp2
      go_ret2
      exact ⟨by first | rfl | (simp; done) | (simp [*]; done), by repeat (first | exact Drawn0.refl _ | apply Drawn0.step)⟩
  · rw [if_neg c3] at H
    have c3b0 : (a1 == (-9223372036854775808)) = false := beq_eq_false_iff_ne.mpr c3
    have c3b1 : (a1 != (-9223372036854775808)) = true := bne_iff_ne.mpr c3
    replace H := Option.bind_eq_some_iff.mp H
    obtain ⟨⟨t173, t174⟩, A50, H⟩ := H
    replace H : (some (t173, t174)) = some (r1, r2) := H
    have A5 := Aside0.mk A50
    clear A50
    simp only [Option.some.injEq, Prod.mk.injEq] at H
    obtain ⟨rfl, rfl⟩ := H
    go_enter Try.func17, Try.ntmps17
    go_wp2_with (first | ((with_reducible refine gate_callee (f := 16) rfl ?_); refine goesL_ (some 16) rfl rfl Try.func16 (by kernel_rfl) rfl #[.int .i64 a0, .int .i64 (wrap64 (-a1))] rfl (by (try simp only [List.map_toArray, List.map_cons, List.map_nil]); first | done | rfl | (simp only [List.length_drop, List.length_take]; rfl)) ?_; (with_reducible refine (haruspexref04_Add.calls a0 (wrap64 (-a1)) t173 t174 _ A5.out).mono ?_); rintro e w' ⟨rfl, ⟨nd, rfl⟩⟩; refine ⟨_, rfl, ?_⟩))
    go_ret2
    exact ⟨by first | rfl | (simp; done) | (simp [*]; done), by repeat (first | exact Drawn0.refl _ | apply Drawn0.step)⟩

/-! ### haruspexref04_Mul: function 18 -/
mutual
def haruspexref04_Mul.j0 : Nat → Int → Int → Bool → Option (Int × Int)
  | 0, _, _, _ => none
  | k + 1, x0, x1, x12 => if x12 = true then (some (0, 0)) else (if x0 = (-9223372036854775808) then (if x1 = (-1) then (haruspexref04_Mul.j1 k x0 x1 true) else (if x1 = (-9223372036854775808) then (haruspexref04_Mul.j1 k x0 x1 (x0 == (-1))) else (haruspexref04_Mul.j1 k x0 x1 false))) else (if x1 = (-9223372036854775808) then (haruspexref04_Mul.j1 k x0 x1 (x0 == (-1))) else (haruspexref04_Mul.j1 k x0 x1 false)))
def haruspexref04_Mul.j1 : Nat → Int → Int → Bool → Option (Int × Int)
  | 0, _, _, _ => none
  | k + 1, x0, x1, x26 => if x26 = true then (some (0, 10)) else (if x1 = 0 then (none) else (if (wrap64 (Int.tdiv (wrap64 (x0 * x1)) x1)) = x0 then (if x0 = (-9223372036854775808) then (if x1 = 1 then (some (wrap64 (x0 * x1), 0)) else (if x0 = 0 then (none) else (if (wrap64 (Int.tdiv (wrap64 (x0 * x1)) x0)) = x1 then (some (wrap64 (x0 * x1), 0)) else (some (0, 10))))) else (some (wrap64 (x0 * x1), 0))) else (some (0, 10))))
end
def haruspexref04_Mul.f (k : Nat) (a0 : Int) (a1 : Int) : Option (Int × Int) := if a0 = 0 then (haruspexref04_Mul.j0 k a0 a1 true) else (haruspexref04_Mul.j0 k a0 a1 (a1 == 0))
theorem haruspexref04_Mul.mono_l : ∀ k, (∀ y0 y1 y2, LeO (haruspexref04_Mul.j0 k y0 y1 y2) (haruspexref04_Mul.j0 (k + 1) y0 y1 y2)) ∧ (∀ y0 y1 y2, LeO (haruspexref04_Mul.j1 k y0 y1 y2) (haruspexref04_Mul.j1 (k + 1) y0 y1 y2))
  | 0 => ⟨fun _ _ _ r h => by simp [haruspexref04_Mul.j0] at h, fun _ _ _ r h => by simp [haruspexref04_Mul.j1] at h⟩
  | k + 1 => by
    obtain ⟨ih0, ih1⟩ := haruspexref04_Mul.mono_l k
    refine ⟨?_, ?_⟩
    · intro y0 y1 y2
      unfold haruspexref04_Mul.j0
      repeat' first
      | (with_reducible exact ih0 _ _ _)
      | (with_reducible exact ih1 _ _ _)
      | (with_reducible exact LeO.refl _)
      | (with_reducible exact LeO.none _)
      | (with_reducible refine LeO.ite ?_ ?_)
      | (with_reducible refine LeO.bind ?_ (fun _ => ?_))
      | exact ih0 _ _ _
      | exact ih1 _ _ _
      | exact LeO.none _
      | refine LeO.ite ?_ ?_
      | refine LeO.bind ?_ (fun _ => ?_)
    · intro y0 y1 y2
      unfold haruspexref04_Mul.j1
      repeat' first
      | (with_reducible exact ih0 _ _ _)
      | (with_reducible exact ih1 _ _ _)
      | (with_reducible exact LeO.refl _)
      | (with_reducible exact LeO.none _)
      | (with_reducible refine LeO.ite ?_ ?_)
      | (with_reducible refine LeO.bind ?_ (fun _ => ?_))
      | exact ih0 _ _ _
      | exact ih1 _ _ _
      | exact LeO.none _
      | refine LeO.ite ?_ ?_
      | refine LeO.bind ?_ (fun _ => ?_)
theorem haruspexref04_Mul.mono : ∀ a0 a1 k, LeO (haruspexref04_Mul.f k a0 a1) (haruspexref04_Mul.f (k + 1) a0 a1) := by
  intro a0 a1 k
  obtain ⟨ih0, ih1⟩ := haruspexref04_Mul.mono_l k
  unfold haruspexref04_Mul.f
  repeat' first
      | (with_reducible exact ih0 _ _ _)
      | (with_reducible exact ih1 _ _ _)
      | (with_reducible exact LeO.refl _)
      | (with_reducible exact LeO.none _)
      | (with_reducible refine LeO.ite ?_ ?_)
      | (with_reducible refine LeO.bind ?_ (fun _ => ?_))
      | exact ih0 _ _ _
      | exact ih1 _ _ _
      | exact LeO.none _
      | refine LeO.ite ?_ ?_
      | refine LeO.bind ?_ (fun _ => ?_)
set_option maxHeartbeats 8000000 in
set_option maxRecDepth 100000 in
theorem haruspexref04_Mul.calls (k : Nat) (a0 : Int) (a1 : Int) (r1 : Int) (r2 : Int) (w : World) (h : haruspexref04_Mul.f k a0 a1 = some (r1, r2)) :
    Calls Try.prog 18 #[.int .i64 a0, .int .i64 a1] w fun e w' => e = .returned (.tuple #[.int .i64 r1, .int .i64 r2]) ∧ Drawn0 w w' := by
  have H : (if a0 = 0 then (haruspexref04_Mul.j0 k a0 a1 true) else (haruspexref04_Mul.j0 k a0 a1 (a1 == 0))) = some (r1, r2) := h
  clear h
  have HC3 := Aside0.mk H
  clear H
  go_enter Try.func18, Try.ntmps18
  go_upto_region 1 with (fail)
  go_cut [12] (fun v12 wc => ∃ (kq : Nat) (x12_2 : Bool), v12 = .bool x12_2 ∧ Aside0 (haruspexref04_Mul.j0 kq a0 a1 x12_2 = some (r1, r2)) ∧ Aside0 (kq ≤ k) ∧ Drawn0 w wc)
  case first =>
    have H := HC3.out
    clear HC3
    by_cases c4 : a0 = 0
    · rw [if_pos c4] at H
      have c4b0 : (a0 == 0) = true := beq_iff_eq.mpr c4
      have c4b1 : (a0 != 0) = false := bne_eq_false_iff_eq.mpr c4
      clear c4
      (first | rw [c4b0] | (simp only [i64_w, i32_w]; rw [c4b0]) | skip)
      have H' := Aside0.mk H
      clear H
      go_wp2
      go_meet
      case rel => exact ⟨_, (true), (by first | rfl | (simp; done) | (simp [*]; done)), H', ⟨by first | omega | exact Nat.le_refl _⟩, by repeat (first | exact Drawn0.refl _ | apply Drawn0.step)⟩
    · rw [if_neg c4] at H
      have c4b0 : (a0 == 0) = false := beq_eq_false_iff_ne.mpr c4
      have c4b1 : (a0 != 0) = true := bne_iff_ne.mpr c4
      (first | rw [c4b0] | (simp only [i64_w, i32_w]; rw [c4b0]) | skip)
      have H' := Aside0.mk H
      clear H
      go_wp2
      go_meet
      case rel => exact ⟨_, ((a1 == 0)), (by first | rfl | (simp; done) | (simp [*]; done)), H', ⟨by first | omega | exact Nat.le_refl _⟩, by repeat (first | exact Drawn0.refl _ | apply Drawn0.step)⟩
  case rest =>
    clear HC3
    try clear c1
    try clear p2
    try clear c4
    try clear c4b0
    try clear c4b1
    obtain ⟨kq, x12_2, rfl, HA, HJ2, ⟨mc2, rfl⟩⟩ := hcut
    cases kq with
    | zero => exact absurd HA.out (by simp [haruspexref04_Mul.j0])
    | succ kj2 =>
      have H := HA.out
      clear HA
      simp only [haruspexref04_Mul.j0] at H
      by_cases c5 : x12_2 = true
      · subst c5
        have H1 : (some (0, 0)) = some (r1, r2) := by rw [if_pos rfl] at H; exact H
        clear H
        have H := H1
        clear H1
        simp only [Option.some.injEq, Prod.mk.injEq] at H
        obtain ⟨rfl, rfl⟩ := H
        go_wp2
        go_ret2
        exact ⟨by first | rfl | (simp; done) | (simp [*]; done), by repeat (first | exact Drawn0.refl _ | apply Drawn0.step)⟩
      · replace c5 := Bool.eq_false_iff.mpr c5
        subst c5
        have H1 : (if a0 = (-9223372036854775808) then (if a1 = (-1) then (haruspexref04_Mul.j1 kj2 a0 a1 true) else (if a1 = (-9223372036854775808) then (haruspexref04_Mul.j1 kj2 a0 a1 (a0 == (-1))) else (haruspexref04_Mul.j1 kj2 a0 a1 false))) else (if a1 = (-9223372036854775808) then (haruspexref04_Mul.j1 kj2 a0 a1 (a0 == (-1))) else (haruspexref04_Mul.j1 kj2 a0 a1 false))) = some (r1, r2) := by rw [if_neg (show ¬ (false = true) by decide)] at H; exact H
        clear H
        have H := H1
        clear H1
        have HC6 := Aside0.mk H
        clear H
        go_upto_region 3 with (fail)
        go_cut [26] (fun v26 wc => ∃ (kq : Nat) (x26_5 : Bool), v26 = .bool x26_5 ∧ Aside0 (haruspexref04_Mul.j1 kq a0 a1 x26_5 = some (r1, r2)) ∧ Aside0 (kq ≤ kj2) ∧ Drawn0 w wc)
        case first =>
          have H := HC6.out
          clear HC6
          by_cases c7 : a0 = (-9223372036854775808)
          · rw [if_pos c7] at H
            have c7b0 : (a0 == (-9223372036854775808)) = true := beq_iff_eq.mpr c7
            have c7b1 : (a0 != (-9223372036854775808)) = false := bne_eq_false_iff_eq.mpr c7
            clear c7
            (first | rw [c7b0] | (simp only [i64_w, i32_w]; rw [c7b0]) | skip)
            by_cases c8 : a1 = (-1)
            · rw [if_pos c8] at H
              have c8b0 : (a1 == (-1)) = true := beq_iff_eq.mpr c8
              have c8b1 : (a1 != (-1)) = false := bne_eq_false_iff_eq.mpr c8
              clear c8
              have H' := Aside0.mk H
              clear H
              go_wp2
              go_meet
              case rel => exact ⟨_, (true), (by first | rfl | (simp; done) | (simp [*]; done)), H', ⟨by have := HJ2.out; first | omega | exact Nat.le_refl _⟩, by repeat (first | exact Drawn0.refl _ | apply Drawn0.step)⟩
            · rw [if_neg c8] at H
              have c8b0 : (a1 == (-1)) = false := beq_eq_false_iff_ne.mpr c8
              have c8b1 : (a1 != (-1)) = true := bne_iff_ne.mpr c8
              by_cases c9 : a1 = (-9223372036854775808)
              · rw [if_pos c9] at H
                have c9b0 : (a1 == (-9223372036854775808)) = true := beq_iff_eq.mpr c9
                have c9b1 : (a1 != (-9223372036854775808)) = false := bne_eq_false_iff_eq.mpr c9
                clear c9
                have H' := Aside0.mk H
                clear H
                go_wp2
                go_meet
                case rel => exact ⟨_, ((a0 == (-1))), (by first | rfl | (simp; done) | (simp [*]; done)), H', ⟨by have := HJ2.out; first | omega | exact Nat.le_refl _⟩, by repeat (first | exact Drawn0.refl _ | apply Drawn0.step)⟩
              · rw [if_neg c9] at H
                have c9b0 : (a1 == (-9223372036854775808)) = false := beq_eq_false_iff_ne.mpr c9
                have c9b1 : (a1 != (-9223372036854775808)) = true := bne_iff_ne.mpr c9
                have H' := Aside0.mk H
                clear H
                go_wp2
                go_meet
                case rel => exact ⟨_, (false), (by first | rfl | (simp; done) | (simp [*]; done)), H', ⟨by have := HJ2.out; first | omega | exact Nat.le_refl _⟩, by repeat (first | exact Drawn0.refl _ | apply Drawn0.step)⟩
          · rw [if_neg c7] at H
            have c7b0 : (a0 == (-9223372036854775808)) = false := beq_eq_false_iff_ne.mpr c7
            have c7b1 : (a0 != (-9223372036854775808)) = true := bne_iff_ne.mpr c7
            (first | rw [c7b0] | (simp only [i64_w, i32_w]; rw [c7b0]) | skip)
            by_cases c10 : a1 = (-9223372036854775808)
            · rw [if_pos c10] at H
              have c10b0 : (a1 == (-9223372036854775808)) = true := beq_iff_eq.mpr c10
              have c10b1 : (a1 != (-9223372036854775808)) = false := bne_eq_false_iff_eq.mpr c10
              clear c10
              have H' := Aside0.mk H
              clear H
              go_wp2
              go_meet
              case rel => exact ⟨_, ((a0 == (-1))), (by first | rfl | (simp; done) | (simp [*]; done)), H', ⟨by have := HJ2.out; first | omega | exact Nat.le_refl _⟩, by repeat (first | exact Drawn0.refl _ | apply Drawn0.step)⟩
            · rw [if_neg c10] at H
              have c10b0 : (a1 == (-9223372036854775808)) = false := beq_eq_false_iff_ne.mpr c10
              have c10b1 : (a1 != (-9223372036854775808)) = true := bne_iff_ne.mpr c10
              have H' := Aside0.mk H
              clear H
              go_wp2
              go_meet
              case rel => exact ⟨_, (false), (by first | rfl | (simp; done) | (simp [*]; done)), H', ⟨by have := HJ2.out; first | omega | exact Nat.le_refl _⟩, by repeat (first | exact Drawn0.refl _ | apply Drawn0.step)⟩
        case rest =>
          clear HC6
          try clear c1
          try clear c2
          try clear p2
          try clear c4
          try clear c4b0
          try clear c4b1
          try clear c5
          try clear c7
          try clear c7b0
          try clear c7b1
          try clear c8
          try clear c8b0
          try clear c8b1
          try clear c9
          try clear c9b0
          try clear c9b1
          try clear c10
          try clear c10b0
          try clear c10b1
          try clear p2
          obtain ⟨kq, x26_5, rfl, HA, HJ5, ⟨mc5, rfl⟩⟩ := hcut
          cases kq with
          | zero => exact absurd HA.out (by simp [haruspexref04_Mul.j1])
          | succ kj5 =>
            have H := HA.out
            clear HA
            simp only [haruspexref04_Mul.j1] at H
            by_cases c11 : x26_5 = true
            · subst c11
              have H1 : (some (0, 10)) = some (r1, r2) := by rw [if_pos rfl] at H; exact H
              clear H
              have H := H1
              clear H1
              simp only [Option.some.injEq, Prod.mk.injEq] at H
              obtain ⟨rfl, rfl⟩ := H
              go_wp2
              go_ret2
              exact ⟨by first | rfl | (simp; done) | (simp [*]; done), by repeat (first | exact Drawn0.refl _ | apply Drawn0.step)⟩
            · replace c11 := Bool.eq_false_iff.mpr c11
              subst c11
              have H1 : (if a1 = 0 then (none) else (if (wrap64 (Int.tdiv (wrap64 (a0 * a1)) a1)) = a0 then (if a0 = (-9223372036854775808) then (if a1 = 1 then (some (wrap64 (a0 * a1), 0)) else (if a0 = 0 then (none) else (if (wrap64 (Int.tdiv (wrap64 (a0 * a1)) a0)) = a1 then (some (wrap64 (a0 * a1), 0)) else (some (0, 10))))) else (some (wrap64 (a0 * a1), 0))) else (some (0, 10)))) = some (r1, r2) := by rw [if_neg (show ¬ (false = true) by decide)] at H; exact H
              clear H
              have H := H1
              clear H1
              by_cases c12 : a1 = 0
              · rw [if_pos c12] at H
                exact absurd H (by simp)
              · rw [if_neg c12] at H
                have c12b0 : (a1 == 0) = false := beq_eq_false_iff_ne.mpr c12
                have c12b1 : (a1 != 0) = true := bne_iff_ne.mpr c12
                by_cases c13 : (wrap64 (Int.tdiv (wrap64 (a0 * a1)) a1)) = a0
                · rw [if_pos c13] at H
                  have c13b0 : ((wrap64 (Int.tdiv (wrap64 (a0 * a1)) a1)) == a0) = true := beq_iff_eq.mpr c13
                  have c13b1 : ((wrap64 (Int.tdiv (wrap64 (a0 * a1)) a1)) != a0) = false := bne_eq_false_iff_eq.mpr c13
                  clear c13
                  by_cases c14 : a0 = (-9223372036854775808)
                  · rw [if_pos c14] at H
                    have c14b0 : (a0 == (-9223372036854775808)) = true := beq_iff_eq.mpr c14
                    have c14b1 : (a0 != (-9223372036854775808)) = false := bne_eq_false_iff_eq.mpr c14
                    clear c14
                    by_cases c15 : a1 = 1
                    · rw [if_pos c15] at H
                      have c15b0 : (a1 == 1) = true := beq_iff_eq.mpr c15
                      have c15b1 : (a1 != 1) = false := bne_eq_false_iff_eq.mpr c15
                      clear c15
                      simp only [Option.some.injEq, Prod.mk.injEq] at H
                      obtain ⟨rfl, rfl⟩ := H
                      go_wp2
                      go_ret2
                      exact ⟨by first | rfl | (simp; done) | (simp [*]; done), by repeat (first | exact Drawn0.refl _ | apply Drawn0.step)⟩
                    · rw [if_neg c15] at H
                      have c15b0 : (a1 == 1) = false := beq_eq_false_iff_ne.mpr c15
                      have c15b1 : (a1 != 1) = true := bne_iff_ne.mpr c15
                      by_cases c16 : a0 = 0
                      · rw [if_pos c16] at H
                        exact absurd H (by simp)
                      · rw [if_neg c16] at H
                        have c16b0 : (a0 == 0) = false := beq_eq_false_iff_ne.mpr c16
                        have c16b1 : (a0 != 0) = true := bne_iff_ne.mpr c16
                        by_cases c17 : (wrap64 (Int.tdiv (wrap64 (a0 * a1)) a0)) = a1
                        · rw [if_pos c17] at H
                          have c17b0 : ((wrap64 (Int.tdiv (wrap64 (a0 * a1)) a0)) == a1) = true := beq_iff_eq.mpr c17
                          have c17b1 : ((wrap64 (Int.tdiv (wrap64 (a0 * a1)) a0)) != a1) = false := bne_eq_false_iff_eq.mpr c17
                          clear c17
                          simp only [Option.some.injEq, Prod.mk.injEq] at H
                          obtain ⟨rfl, rfl⟩ := H
                          go_wp2
                          go_ret2
                          exact ⟨by first | rfl | (simp; done) | (simp [*]; done), by repeat (first | exact Drawn0.refl _ | apply Drawn0.step)⟩
                        · rw [if_neg c17] at H
                          have c17b0 : ((wrap64 (Int.tdiv (wrap64 (a0 * a1)) a0)) == a1) = false := beq_eq_false_iff_ne.mpr c17
                          have c17b1 : ((wrap64 (Int.tdiv (wrap64 (a0 * a1)) a0)) != a1) = true := bne_iff_ne.mpr c17
                          simp only [Option.some.injEq, Prod.mk.injEq] at H
                          obtain ⟨rfl, rfl⟩ := H
                          go_wp2
                          go_ret2
                          exact ⟨by first | rfl | (simp; done) | (simp [*]; done), by repeat (first | exact Drawn0.refl _ | apply Drawn0.step)⟩
                  · rw [if_neg c14] at H
                    have c14b0 : (a0 == (-9223372036854775808)) = false := beq_eq_false_iff_ne.mpr c14
                    have c14b1 : (a0 != (-9223372036854775808)) = true := bne_iff_ne.mpr c14
                    simp only [Option.some.injEq, Prod.mk.injEq] at H
                    obtain ⟨rfl, rfl⟩ := H
                    go_wp2
                    go_ret2
                    exact ⟨by first | rfl | (simp; done) | (simp [*]; done), by repeat (first | exact Drawn0.refl _ | apply Drawn0.step)⟩
                · rw [if_neg c13] at H
                  have c13b0 : ((wrap64 (Int.tdiv (wrap64 (a0 * a1)) a1)) == a0) = false := beq_eq_false_iff_ne.mpr c13
                  have c13b1 : ((wrap64 (Int.tdiv (wrap64 (a0 * a1)) a1)) != a0) = true := bne_iff_ne.mpr c13
                  simp only [Option.some.injEq, Prod.mk.injEq] at H
                  obtain ⟨rfl, rfl⟩ := H
                  go_wp2
                  go_ret2
                  exact ⟨by first | rfl | (simp; done) | (simp [*]; done), by repeat (first | exact Drawn0.refl _ | apply Drawn0.step)⟩

/-! ### haruspexref04_Div: function 19 -/
def haruspexref04_Div.f (a0 : Int) (a1 : Int) : Option (Int × Int) := if a1 = 0 then (some (0, 10)) else (if a0 = (-9223372036854775808) then (if a1 = (-1) then (some (0, 10)) else (some (wrap64 (Int.tdiv a0 a1), 0))) else (some (wrap64 (Int.tdiv a0 a1), 0)))
set_option maxHeartbeats 8000000 in
set_option maxRecDepth 100000 in
theorem haruspexref04_Div.calls (a0 : Int) (a1 : Int) (r1 : Int) (r2 : Int) (w : World) (h : haruspexref04_Div.f a0 a1 = some (r1, r2)) :
    Calls Try.prog 19 #[.int .i64 a0, .int .i64 a1] w fun e w' => e = .returned (.tuple #[.int .i64 r1, .int .i64 r2]) ∧ Drawn0 w w' := by
  have H : (if a1 = 0 then (some (0, 10)) else (if a0 = (-9223372036854775808) then (if a1 = (-1) then (some (0, 10)) else (some (wrap64 (Int.tdiv a0 a1), 0))) else (some (wrap64 (Int.tdiv a0 a1), 0)))) = some (r1, r2) := h
  clear h
  by_cases c3 : a1 = 0
  · rw [if_pos c3] at H
    have c3b0 : (a1 == 0) = true := beq_iff_eq.mpr c3
    have c3b1 : (a1 != 0) = false := bne_eq_false_iff_eq.mpr c3
    clear c3
    simp only [Option.some.injEq, Prod.mk.injEq] at H
    obtain ⟨rfl, rfl⟩ := H
    go_enter Try.func19, Try.ntmps19
    go_wp2
    go_ret2
    exact ⟨by first | rfl | (simp; done) | (simp [*]; done), by repeat (first | exact Drawn0.refl _ | apply Drawn0.step)⟩
  · rw [if_neg c3] at H
    have c3b0 : (a1 == 0) = false := beq_eq_false_iff_ne.mpr c3
    have c3b1 : (a1 != 0) = true := bne_iff_ne.mpr c3
    by_cases c4 : a0 = (-9223372036854775808)
    · rw [if_pos c4] at H
      have c4b0 : (a0 == (-9223372036854775808)) = true := beq_iff_eq.mpr c4
      have c4b1 : (a0 != (-9223372036854775808)) = false := bne_eq_false_iff_eq.mpr c4
      clear c4
      by_cases c5 : a1 = (-1)
      · rw [if_pos c5] at H
        have c5b0 : (a1 == (-1)) = true := beq_iff_eq.mpr c5
        have c5b1 : (a1 != (-1)) = false := bne_eq_false_iff_eq.mpr c5
        clear c5
        simp only [Option.some.injEq, Prod.mk.injEq] at H
        obtain ⟨rfl, rfl⟩ := H
        go_enter Try.func19, Try.ntmps19
        go_wp2
        go_ret2
        exact ⟨by first | rfl | (simp; done) | (simp [*]; done), by repeat (first | exact Drawn0.refl _ | apply Drawn0.step)⟩
      · rw [if_neg c5] at H
        have c5b0 : (a1 == (-1)) = false := beq_eq_false_iff_ne.mpr c5
        have c5b1 : (a1 != (-1)) = true := bne_iff_ne.mpr c5
        simp only [Option.some.injEq, Prod.mk.injEq] at H
        obtain ⟨rfl, rfl⟩ := H
        go_enter Try.func19, Try.ntmps19
        go_wp2
        go_ret2
        exact ⟨by first | rfl | (simp; done) | (simp [*]; done), by repeat (first | exact Drawn0.refl _ | apply Drawn0.step)⟩
    · rw [if_neg c4] at H
      have c4b0 : (a0 == (-9223372036854775808)) = false := beq_eq_false_iff_ne.mpr c4
      have c4b1 : (a0 != (-9223372036854775808)) = true := bne_iff_ne.mpr c4
      simp only [Option.some.injEq, Prod.mk.injEq] at H
      obtain ⟨rfl, rfl⟩ := H
      go_enter Try.func19, Try.ntmps19
      go_wp2
      go_ret2
      exact ⟨by first | rfl | (simp; done) | (simp [*]; done), by repeat (first | exact Drawn0.refl _ | apply Drawn0.step)⟩

/-! ### haruspexref04_Mod: function 20 -/
def haruspexref04_Mod.f (a0 : Int) (a1 : Int) : Option (Int × Int) := if a1 = 0 then (some (0, 10)) else (if a1 = (-1) then (some (0, 0)) else (some (Int.tmod a0 a1, 0)))
set_option maxHeartbeats 8000000 in
set_option maxRecDepth 100000 in
theorem haruspexref04_Mod.calls (a0 : Int) (a1 : Int) (r1 : Int) (r2 : Int) (w : World) (h : haruspexref04_Mod.f a0 a1 = some (r1, r2)) :
    Calls Try.prog 20 #[.int .i64 a0, .int .i64 a1] w fun e w' => e = .returned (.tuple #[.int .i64 r1, .int .i64 r2]) ∧ Drawn0 w w' := by
  have H : (if a1 = 0 then (some (0, 10)) else (if a1 = (-1) then (some (0, 0)) else (some (Int.tmod a0 a1, 0)))) = some (r1, r2) := h
  clear h
  by_cases c3 : a1 = 0
  · rw [if_pos c3] at H
    have c3b0 : (a1 == 0) = true := beq_iff_eq.mpr c3
    have c3b1 : (a1 != 0) = false := bne_eq_false_iff_eq.mpr c3
    clear c3
    simp only [Option.some.injEq, Prod.mk.injEq] at H
    obtain ⟨rfl, rfl⟩ := H
    go_enter Try.func20, Try.ntmps20
    go_wp2
    go_ret2
    exact ⟨by first | rfl | (simp; done) | (simp [*]; done), by repeat (first | exact Drawn0.refl _ | apply Drawn0.step)⟩
  · rw [if_neg c3] at H
    have c3b0 : (a1 == 0) = false := beq_eq_false_iff_ne.mpr c3
    have c3b1 : (a1 != 0) = true := bne_iff_ne.mpr c3
    by_cases c4 : a1 = (-1)
    · rw [if_pos c4] at H
      have c4b0 : (a1 == (-1)) = true := beq_iff_eq.mpr c4
      have c4b1 : (a1 != (-1)) = false := bne_eq_false_iff_eq.mpr c4
      clear c4
      simp only [Option.some.injEq, Prod.mk.injEq] at H
      obtain ⟨rfl, rfl⟩ := H
      go_enter Try.func20, Try.ntmps20
      go_wp2
      go_ret2
      exact ⟨by first | rfl | (simp; done) | (simp [*]; done), by repeat (first | exact Drawn0.refl _ | apply Drawn0.step)⟩
    · rw [if_neg c4] at H
      have c4b0 : (a1 == (-1)) = false := beq_eq_false_iff_ne.mpr c4
      have c4b1 : (a1 != (-1)) = true := bne_iff_ne.mpr c4
      simp only [Option.some.injEq, Prod.mk.injEq] at H
      obtain ⟨rfl, rfl⟩ := H
      go_enter Try.func20, Try.ntmps20
      go_wp2
      go_ret2
      exact ⟨by first | rfl | (simp; done) | (simp [*]; done), by repeat (first | exact Drawn0.refl _ | apply Drawn0.step)⟩

/-! ### num_Neg: function 21 -/
def num_Neg.f (a0 : Int) : Option (Int × Int) := if a0 = (-9223372036854775808) then (some (0, 10)) else (some (wrap64 (-a0), 0))
set_option maxHeartbeats 8000000 in
set_option maxRecDepth 100000 in
theorem num_Neg.calls (a0 : Int) (r1 : Int) (r2 : Int) (w : World) (h : num_Neg.f a0 = some (r1, r2)) :
    Calls Try.prog 21 #[.int .i64 a0] w fun e w' => e = .returned (.tuple #[.int .i64 r1, .int .i64 r2]) ∧ Drawn0 w w' := by
  have H : (if a0 = (-9223372036854775808) then (some (0, 10)) else (some (wrap64 (-a0), 0))) = some (r1, r2) := h
  clear h
  by_cases c2 : a0 = (-9223372036854775808)
  · rw [if_pos c2] at H
    have c2b0 : (a0 == (-9223372036854775808)) = true := beq_iff_eq.mpr c2
    have c2b1 : (a0 != (-9223372036854775808)) = false := bne_eq_false_iff_eq.mpr c2
    clear c2
    simp only [Option.some.injEq, Prod.mk.injEq] at H
    obtain ⟨rfl, rfl⟩ := H
    go_enter Try.func21, Try.ntmps21
    go_wp2
    go_ret2
    exact ⟨by first | rfl | (simp; done) | (simp [*]; done), by repeat (first | exact Drawn0.refl _ | apply Drawn0.step)⟩
  · rw [if_neg c2] at H
    have c2b0 : (a0 == (-9223372036854775808)) = false := beq_eq_false_iff_ne.mpr c2
    have c2b1 : (a0 != (-9223372036854775808)) = true := bne_iff_ne.mpr c2
    simp only [Option.some.injEq, Prod.mk.injEq] at H
    obtain ⟨rfl, rfl⟩ := H
    go_enter Try.func21, Try.ntmps21
    go_wp2
    go_ret2
    exact ⟨by first | rfl | (simp; done) | (simp [*]; done), by repeat (first | exact Drawn0.refl _ | apply Drawn0.step)⟩

/-! ### haruspexref04_Neg: function 22 -/
def haruspexref04_Neg.f (a0 : Int) : Option (Int × Int) := if a0 = (-9223372036854775808) then (some (0, 10)) else (some (wrap64 (-a0), 0))
set_option maxHeartbeats 8000000 in
set_option maxRecDepth 100000 in
theorem haruspexref04_Neg.calls (a0 : Int) (r1 : Int) (r2 : Int) (w : World) (h : haruspexref04_Neg.f a0 = some (r1, r2)) :
    Calls Try.prog 22 #[.int .i64 a0] w fun e w' => e = .returned (.tuple #[.int .i64 r1, .int .i64 r2]) ∧ Drawn0 w w' := by
  have H : (if a0 = (-9223372036854775808) then (some (0, 10)) else (some (wrap64 (-a0), 0))) = some (r1, r2) := h
  clear h
  by_cases c2 : a0 = (-9223372036854775808)
  · rw [if_pos c2] at H
    have c2b0 : (a0 == (-9223372036854775808)) = true := beq_iff_eq.mpr c2
    have c2b1 : (a0 != (-9223372036854775808)) = false := bne_eq_false_iff_eq.mpr c2
    clear c2
    simp only [Option.some.injEq, Prod.mk.injEq] at H
    obtain ⟨rfl, rfl⟩ := H
    go_enter Try.func22, Try.ntmps22
    go_wp2
    go_ret2
    exact ⟨by first | rfl | (simp; done) | (simp [*]; done), by repeat (first | exact Drawn0.refl _ | apply Drawn0.step)⟩
  · rw [if_neg c2] at H
    have c2b0 : (a0 == (-9223372036854775808)) = false := beq_eq_false_iff_ne.mpr c2
    have c2b1 : (a0 != (-9223372036854775808)) = true := bne_iff_ne.mpr c2
    simp only [Option.some.injEq, Prod.mk.injEq] at H
    obtain ⟨rfl, rfl⟩ := H
    go_enter Try.func22, Try.ntmps22
    go_wp2
    go_ret2
    exact ⟨by first | rfl | (simp; done) | (simp [*]; done), by repeat (first | exact Drawn0.refl _ | apply Drawn0.step)⟩

/-! ### haruspexlaw04_NumAll: function 5 -/
def haruspexlaw04_NumAll.f (k : Nat) (a0 : Int) (a1 : Int) : Option (Bool) := (num_Add.f a0 a1).bind fun bt175 => ((haruspexref04_Add.f a0 a1).bind fun bt177 => ((num_Sub.f a0 a1).bind fun bt179 => ((haruspexref04_Sub.f a0 a1).bind fun bt181 => ((num_Mul.f k a0 a1).bind fun bt183 => ((haruspexref04_Mul.f k a0 a1).bind fun bt185 => ((num_Div.f a0 a1).bind fun bt187 => ((haruspexref04_Div.f a0 a1).bind fun bt189 => ((num_Mod.f a0 a1).bind fun bt191 => ((haruspexref04_Mod.f a0 a1).bind fun bt193 => ((num_Neg.f a0).bind fun bt195 => ((haruspexref04_Neg.f a0).bind fun bt197 => (if bt175.1 = bt177.1 then (if bt175.2 = bt177.2 then (if bt179.1 = bt181.1 then (if bt179.2 = bt181.2 then (if bt183.1 = bt185.1 then (if bt183.2 = bt185.2 then (if bt187.1 = bt189.1 then (if bt187.2 = bt189.2 then (if bt191.1 = bt193.1 then (if bt191.2 = bt193.2 then (if bt195.1 = bt197.1 then (if bt195.2 = bt197.2 then ((haruspexlaw04_awake.f).bind fun t199 => (some t199)) else (none)) else (none)) else (none)) else (none)) else (none)) else (none)) else (none)) else (none)) else (none)) else (none)) else (none)) else (none)))))))))))))
theorem haruspexlaw04_NumAll.mono : ∀ a0 a1 k, LeO (haruspexlaw04_NumAll.f k a0 a1) (haruspexlaw04_NumAll.f (k + 1) a0 a1) := by
  intro a0 a1 k
  unfold haruspexlaw04_NumAll.f
  repeat' first
      | (with_reducible exact haruspexref04_Mul.mono _ _ _)
      | (with_reducible exact num_Mul.mono _ _ _)
      | (with_reducible exact LeO.refl _)
      | (with_reducible exact LeO.none _)
      | (with_reducible refine LeO.ite ?_ ?_)
      | (with_reducible refine LeO.bind ?_ (fun _ => ?_))
      | exact haruspexref04_Mul.mono _ _ _
      | exact num_Mul.mono _ _ _
      | exact LeO.none _
      | refine LeO.ite ?_ ?_
      | refine LeO.bind ?_ (fun _ => ?_)
set_option maxHeartbeats 8000000 in
set_option maxRecDepth 100000 in
theorem haruspexlaw04_NumAll.calls (k : Nat) (a0 : Int) (a1 : Int) (r : Bool) (w : World) (h : haruspexlaw04_NumAll.f k a0 a1 = some r) :
    Calls Try.prog 5 #[.int .i64 a0, .int .i64 a1] w fun e w' => e = .returned (.bool r) ∧ Drawn0 w w' := by
  have H : ((num_Add.f a0 a1).bind fun bt175 => ((haruspexref04_Add.f a0 a1).bind fun bt177 => ((num_Sub.f a0 a1).bind fun bt179 => ((haruspexref04_Sub.f a0 a1).bind fun bt181 => ((num_Mul.f k a0 a1).bind fun bt183 => ((haruspexref04_Mul.f k a0 a1).bind fun bt185 => ((num_Div.f a0 a1).bind fun bt187 => ((haruspexref04_Div.f a0 a1).bind fun bt189 => ((num_Mod.f a0 a1).bind fun bt191 => ((haruspexref04_Mod.f a0 a1).bind fun bt193 => ((num_Neg.f a0).bind fun bt195 => ((haruspexref04_Neg.f a0).bind fun bt197 => (if bt175.1 = bt177.1 then (if bt175.2 = bt177.2 then (if bt179.1 = bt181.1 then (if bt179.2 = bt181.2 then (if bt183.1 = bt185.1 then (if bt183.2 = bt185.2 then (if bt187.1 = bt189.1 then (if bt187.2 = bt189.2 then (if bt191.1 = bt193.1 then (if bt191.2 = bt193.2 then (if bt195.1 = bt197.1 then (if bt195.2 = bt197.2 then ((haruspexlaw04_awake.f).bind fun t199 => (some t199)) else (none)) else (none)) else (none)) else (none)) else (none)) else (none)) else (none)) else (none)) else (none)) else (none)) else (none)) else (none)))))))))))))) = some r := h
  clear h
  replace H := Option.bind_eq_some_iff.mp H
  obtain ⟨⟨t175, t176⟩, A30, H⟩ := H
  replace H : ((haruspexref04_Add.f a0 a1).bind fun bt177 => ((num_Sub.f a0 a1).bind fun bt179 => ((haruspexref04_Sub.f a0 a1).bind fun bt181 => ((num_Mul.f k a0 a1).bind fun bt183 => ((haruspexref04_Mul.f k a0 a1).bind fun bt185 => ((num_Div.f a0 a1).bind fun bt187 => ((haruspexref04_Div.f a0 a1).bind fun bt189 => ((num_Mod.f a0 a1).bind fun bt191 => ((haruspexref04_Mod.f a0 a1).bind fun bt193 => ((num_Neg.f a0).bind fun bt195 => ((haruspexref04_Neg.f a0).bind fun bt197 => (if t175 = bt177.1 then (if t176 = bt177.2 then (if bt179.1 = bt181.1 then (if bt179.2 = bt181.2 then (if bt183.1 = bt185.1 then (if bt183.2 = bt185.2 then (if bt187.1 = bt189.1 then (if bt187.2 = bt189.2 then (if bt191.1 = bt193.1 then (if bt191.2 = bt193.2 then (if bt195.1 = bt197.1 then (if bt195.2 = bt197.2 then ((haruspexlaw04_awake.f).bind fun t199 => (some t199)) else (none)) else (none)) else (none)) else (none)) else (none)) else (none)) else (none)) else (none)) else (none)) else (none)) else (none)) else (none))))))))))))) = some r := H
  have A3 := Aside0.mk A30
  clear A30
  replace H := Option.bind_eq_some_iff.mp H
  obtain ⟨⟨t177, t178⟩, A40, H⟩ := H
  replace H : ((num_Sub.f a0 a1).bind fun bt179 => ((haruspexref04_Sub.f a0 a1).bind fun bt181 => ((num_Mul.f k a0 a1).bind fun bt183 => ((haruspexref04_Mul.f k a0 a1).bind fun bt185 => ((num_Div.f a0 a1).bind fun bt187 => ((haruspexref04_Div.f a0 a1).bind fun bt189 => ((num_Mod.f a0 a1).bind fun bt191 => ((haruspexref04_Mod.f a0 a1).bind fun bt193 => ((num_Neg.f a0).bind fun bt195 => ((haruspexref04_Neg.f a0).bind fun bt197 => (if t175 = t177 then (if t176 = t178 then (if bt179.1 = bt181.1 then (if bt179.2 = bt181.2 then (if bt183.1 = bt185.1 then (if bt183.2 = bt185.2 then (if bt187.1 = bt189.1 then (if bt187.2 = bt189.2 then (if bt191.1 = bt193.1 then (if bt191.2 = bt193.2 then (if bt195.1 = bt197.1 then (if bt195.2 = bt197.2 then ((haruspexlaw04_awake.f).bind fun t199 => (some t199)) else (none)) else (none)) else (none)) else (none)) else (none)) else (none)) else (none)) else (none)) else (none)) else (none)) else (none)) else (none)))))))))))) = some r := H
  have A4 := Aside0.mk A40
  clear A40
  replace H := Option.bind_eq_some_iff.mp H
  obtain ⟨⟨t179, t180⟩, A50, H⟩ := H
  replace H : ((haruspexref04_Sub.f a0 a1).bind fun bt181 => ((num_Mul.f k a0 a1).bind fun bt183 => ((haruspexref04_Mul.f k a0 a1).bind fun bt185 => ((num_Div.f a0 a1).bind fun bt187 => ((haruspexref04_Div.f a0 a1).bind fun bt189 => ((num_Mod.f a0 a1).bind fun bt191 => ((haruspexref04_Mod.f a0 a1).bind fun bt193 => ((num_Neg.f a0).bind fun bt195 => ((haruspexref04_Neg.f a0).bind fun bt197 => (if t175 = t177 then (if t176 = t178 then (if t179 = bt181.1 then (if t180 = bt181.2 then (if bt183.1 = bt185.1 then (if bt183.2 = bt185.2 then (if bt187.1 = bt189.1 then (if bt187.2 = bt189.2 then (if bt191.1 = bt193.1 then (if bt191.2 = bt193.2 then (if bt195.1 = bt197.1 then (if bt195.2 = bt197.2 then ((haruspexlaw04_awake.f).bind fun t199 => (some t199)) else (none)) else (none)) else (none)) else (none)) else (none)) else (none)) else (none)) else (none)) else (none)) else (none)) else (none)) else (none))))))))))) = some r := H
  have A5 := Aside0.mk A50
  clear A50
  replace H := Option.bind_eq_some_iff.mp H
  obtain ⟨⟨t181, t182⟩, A60, H⟩ := H
  replace H : ((num_Mul.f k a0 a1).bind fun bt183 => ((haruspexref04_Mul.f k a0 a1).bind fun bt185 => ((num_Div.f a0 a1).bind fun bt187 => ((haruspexref04_Div.f a0 a1).bind fun bt189 => ((num_Mod.f a0 a1).bind fun bt191 => ((haruspexref04_Mod.f a0 a1).bind fun bt193 => ((num_Neg.f a0).bind fun bt195 => ((haruspexref04_Neg.f a0).bind fun bt197 => (if t175 = t177 then (if t176 = t178 then (if t179 = t181 then (if t180 = t182 then (if bt183.1 = bt185.1 then (if bt183.2 = bt185.2 then (if bt187.1 = bt189.1 then (if bt187.2 = bt189.2 then (if bt191.1 = bt193.1 then (if bt191.2 = bt193.2 then (if bt195.1 = bt197.1 then (if bt195.2 = bt197.2 then ((haruspexlaw04_awake.f).bind fun t199 => (some t199)) else (none)) else (none)) else (none)) else (none)) else (none)) else (none)) else (none)) else (none)) else (none)) else (none)) else (none)) else (none)))))))))) = some r := H
  have A6 := Aside0.mk A60
  clear A60
  replace H := Option.bind_eq_some_iff.mp H
  obtain ⟨⟨t183, t184⟩, A70, H⟩ := H
  replace H : ((haruspexref04_Mul.f k a0 a1).bind fun bt185 => ((num_Div.f a0 a1).bind fun bt187 => ((haruspexref04_Div.f a0 a1).bind fun bt189 => ((num_Mod.f a0 a1).bind fun bt191 => ((haruspexref04_Mod.f a0 a1).bind fun bt193 => ((num_Neg.f a0).bind fun bt195 => ((haruspexref04_Neg.f a0).bind fun bt197 => (if t175 = t177 then (if t176 = t178 then (if t179 = t181 then (if t180 = t182 then (if t183 = bt185.1 then (if t184 = bt185.2 then (if bt187.1 = bt189.1 then (if bt187.2 = bt189.2 then (if bt191.1 = bt193.1 then (if bt191.2 = bt193.2 then (if bt195.1 = bt197.1 then (if bt195.2 = bt197.2 then ((haruspexlaw04_awake.f).bind fun t199 => (some t199)) else (none)) else (none)) else (none)) else (none)) else (none)) else (none)) else (none)) else (none)) else (none)) else (none)) else (none)) else (none))))))))) = some r := H
  have A7 := Aside0.mk A70
  clear A70
  replace H := Option.bind_eq_some_iff.mp H
  obtain ⟨⟨t185, t186⟩, A80, H⟩ := H
  replace H : ((num_Div.f a0 a1).bind fun bt187 => ((haruspexref04_Div.f a0 a1).bind fun bt189 => ((num_Mod.f a0 a1).bind fun bt191 => ((haruspexref04_Mod.f a0 a1).bind fun bt193 => ((num_Neg.f a0).bind fun bt195 => ((haruspexref04_Neg.f a0).bind fun bt197 => (if t175 = t177 then (if t176 = t178 then (if t179 = t181 then (if t180 = t182 then (if t183 = t185 then (if t184 = t186 then (if bt187.1 = bt189.1 then (if bt187.2 = bt189.2 then (if bt191.1 = bt193.1 then (if bt191.2 = bt193.2 then (if bt195.1 = bt197.1 then (if bt195.2 = bt197.2 then ((haruspexlaw04_awake.f).bind fun t199 => (some t199)) else (none)) else (none)) else (none)) else (none)) else (none)) else (none)) else (none)) else (none)) else (none)) else (none)) else (none)) else (none)))))))) = some r := H
  have A8 := Aside0.mk A80
  clear A80
  replace H := Option.bind_eq_some_iff.mp H
  obtain ⟨⟨t187, t188⟩, A90, H⟩ := H
  replace H : ((haruspexref04_Div.f a0 a1).bind fun bt189 => ((num_Mod.f a0 a1).bind fun bt191 => ((haruspexref04_Mod.f a0 a1).bind fun bt193 => ((num_Neg.f a0).bind fun bt195 => ((haruspexref04_Neg.f a0).bind fun bt197 => (if t175 = t177 then (if t176 = t178 then (if t179 = t181 then (if t180 = t182 then (if t183 = t185 then (if t184 = t186 then (if t187 = bt189.1 then (if t188 = bt189.2 then (if bt191.1 = bt193.1 then (if bt191.2 = bt193.2 then (if bt195.1 = bt197.1 then (if bt195.2 = bt197.2 then ((haruspexlaw04_awake.f).bind fun t199 => (some t199)) else (none)) else (none)) else (none)) else (none)) else (none)) else (none)) else (none)) else (none)) else (none)) else (none)) else (none)) else (none))))))) = some r := H
  have A9 := Aside0.mk A90
  clear A90
  replace H := Option.bind_eq_some_iff.mp H
  obtain ⟨⟨t189, t190⟩, A100, H⟩ := H
  replace H : ((num_Mod.f a0 a1).bind fun bt191 => ((haruspexref04_Mod.f a0 a1).bind fun bt193 => ((num_Neg.f a0).bind fun bt195 => ((haruspexref04_Neg.f a0).bind fun bt197 => (if t175 = t177 then (if t176 = t178 then (if t179 = t181 then (if t180 = t182 then (if t183 = t185 then (if t184 = t186 then (if t187 = t189 then (if t188 = t190 then (if bt191.1 = bt193.1 then (if bt191.2 = bt193.2 then (if bt195.1 = bt197.1 then (if bt195.2 = bt197.2 then ((haruspexlaw04_awake.f).bind fun t199 => (some t199)) else (none)) else (none)) else (none)) else (none)) else (none)) else (none)) else (none)) else (none)) else (none)) else (none)) else (none)) else (none)))))) = some r := H
  have A10 := Aside0.mk A100
  clear A100
  replace H := Option.bind_eq_some_iff.mp H
  obtain ⟨⟨t191, t192⟩, A110, H⟩ := H
  replace H : ((haruspexref04_Mod.f a0 a1).bind fun bt193 => ((num_Neg.f a0).bind fun bt195 => ((haruspexref04_Neg.f a0).bind fun bt197 => (if t175 = t177 then (if t176 = t178 then (if t179 = t181 then (if t180 = t182 then (if t183 = t185 then (if t184 = t186 then (if t187 = t189 then (if t188 = t190 then (if t191 = bt193.1 then (if t192 = bt193.2 then (if bt195.1 = bt197.1 then (if bt195.2 = bt197.2 then ((haruspexlaw04_awake.f).bind fun t199 => (some t199)) else (none)) else (none)) else (none)) else (none)) else (none)) else (none)) else (none)) else (none)) else (none)) else (none)) else (none)) else (none))))) = some r := H
  have A11 := Aside0.mk A110
  clear A110
  replace H := Option.bind_eq_some_iff.mp H
  obtain ⟨⟨t193, t194⟩, A120, H⟩ := H
  replace H : ((num_Neg.f a0).bind fun bt195 => ((haruspexref04_Neg.f a0).bind fun bt197 => (if t175 = t177 then (if t176 = t178 then (if t179 = t181 then (if t180 = t182 then (if t183 = t185 then (if t184 = t186 then (if t187 = t189 then (if t188 = t190 then (if t191 = t193 then (if t192 = t194 then (if bt195.1 = bt197.1 then (if bt195.2 = bt197.2 then ((haruspexlaw04_awake.f).bind fun t199 => (some t199)) else (none)) else (none)) else (none)) else (none)) else (none)) else (none)) else (none)) else (none)) else (none)) else (none)) else (none)) else (none)))) = some r := H
  have A12 := Aside0.mk A120
  clear A120
  replace H := Option.bind_eq_some_iff.mp H
  obtain ⟨⟨t195, t196⟩, A130, H⟩ := H
  replace H : ((haruspexref04_Neg.f a0).bind fun bt197 => (if t175 = t177 then (if t176 = t178 then (if t179 = t181 then (if t180 = t182 then (if t183 = t185 then (if t184 = t186 then (if t187 = t189 then (if t188 = t190 then (if t191 = t193 then (if t192 = t194 then (if t195 = bt197.1 then (if t196 = bt197.2 then ((haruspexlaw04_awake.f).bind fun t199 => (some t199)) else (none)) else (none)) else (none)) else (none)) else (none)) else (none)) else (none)) else (none)) else (none)) else (none)) else (none)) else (none))) = some r := H
  have A13 := Aside0.mk A130
  clear A130
  replace H := Option.bind_eq_some_iff.mp H
  obtain ⟨⟨t197, t198⟩, A140, H⟩ := H
  replace H : (if t175 = t177 then (if t176 = t178 then (if t179 = t181 then (if t180 = t182 then (if t183 = t185 then (if t184 = t186 then (if t187 = t189 then (if t188 = t190 then (if t191 = t193 then (if t192 = t194 then (if t195 = t197 then (if t196 = t198 then ((haruspexlaw04_awake.f).bind fun t199 => (some t199)) else (none)) else (none)) else (none)) else (none)) else (none)) else (none)) else (none)) else (none)) else (none)) else (none)) else (none)) else (none)) = some r := H
  have A14 := Aside0.mk A140
  clear A140
  by_cases c15 : t175 = t177
  · rw [if_pos c15] at H
    have c15b0 : (t175 == t177) = true := beq_iff_eq.mpr c15
    have c15b1 : (t175 != t177) = false := bne_eq_false_iff_eq.mpr c15
    clear c15
    by_cases c16 : t176 = t178
    · rw [if_pos c16] at H
      have c16b0 : (t176 == t178) = true := beq_iff_eq.mpr c16
      have c16b1 : (t176 != t178) = false := bne_eq_false_iff_eq.mpr c16
      clear c16
      by_cases c17 : t179 = t181
      · rw [if_pos c17] at H
        have c17b0 : (t179 == t181) = true := beq_iff_eq.mpr c17
        have c17b1 : (t179 != t181) = false := bne_eq_false_iff_eq.mpr c17
        clear c17
        by_cases c18 : t180 = t182
        · rw [if_pos c18] at H
          have c18b0 : (t180 == t182) = true := beq_iff_eq.mpr c18
          have c18b1 : (t180 != t182) = false := bne_eq_false_iff_eq.mpr c18
          clear c18
          by_cases c19 : t183 = t185
          · rw [if_pos c19] at H
            have c19b0 : (t183 == t185) = true := beq_iff_eq.mpr c19
            have c19b1 : (t183 != t185) = false := bne_eq_false_iff_eq.mpr c19
            clear c19
            by_cases c20 : t184 = t186
            · rw [if_pos c20] at H
              have c20b0 : (t184 == t186) = true := beq_iff_eq.mpr c20
              have c20b1 : (t184 != t186) = false := bne_eq_false_iff_eq.mpr c20
              clear c20
              by_cases c21 : t187 = t189
              · rw [if_pos c21] at H
                have c21b0 : (t187 == t189) = true := beq_iff_eq.mpr c21
                have c21b1 : (t187 != t189) = false := bne_eq_false_iff_eq.mpr c21
                clear c21
                by_cases c22 : t188 = t190
                · rw [if_pos c22] at H
                  have c22b0 : (t188 == t190) = true := beq_iff_eq.mpr c22
                  have c22b1 : (t188 != t190) = false := bne_eq_false_iff_eq.mpr c22
                  clear c22
                  by_cases c23 : t191 = t193
                  · rw [if_pos c23] at H
                    have c23b0 : (t191 == t193) = true := beq_iff_eq.mpr c23
                    have c23b1 : (t191 != t193) = false := bne_eq_false_iff_eq.mpr c23
                    clear c23
                    by_cases c24 : t192 = t194
                    · rw [if_pos c24] at H
                      have c24b0 : (t192 == t194) = true := beq_iff_eq.mpr c24
                      have c24b1 : (t192 != t194) = false := bne_eq_false_iff_eq.mpr c24
                      clear c24
                      by_cases c25 : t195 = t197
                      · rw [if_pos c25] at H
                        have c25b0 : (t195 == t197) = true := beq_iff_eq.mpr c25
                        have c25b1 : (t195 != t197) = false := bne_eq_false_iff_eq.mpr c25
                        clear c25
                        by_cases c26 : t196 = t198
                        · rw [if_pos c26] at H
                          have c26b0 : (t196 == t198) = true := beq_iff_eq.mpr c26
                          have c26b1 : (t196 != t198) = false := bne_eq_false_iff_eq.mpr c26
                          clear c26
                          replace H := Option.bind_eq_some_iff.mp H
                          obtain ⟨t199, A270, H⟩ := H
                          replace H : (some t199) = some r := H
                          have A27 := Aside0.mk A270
                          clear A270
                          obtain rfl := Option.some.inj H
                          go_enter Try.func5, Try.ntmps5
                          go_wp2_with (first | ((with_reducible refine gate_callee (f := 11) rfl ?_); refine goesL_ (some 32) rfl rfl Try.func11 (by kernel_rfl) rfl #[.int .i64 a0, .int .i64 a1] rfl (by (try simp only [List.map_toArray, List.map_cons, List.map_nil]); first | done | rfl | (simp only [List.length_drop, List.length_take]; rfl)) ?_; (with_reducible refine (num_Add.calls a0 a1 t175 t176 _ A3.out).mono ?_); rintro e w' ⟨rfl, ⟨nd, rfl⟩⟩; refine ⟨_, rfl, ?_⟩) | ((with_reducible refine gate_callee (f := 16) rfl ?_); refine goesL_ (some 38) rfl rfl Try.func16 (by kernel_rfl) rfl #[.int .i64 a0, .int .i64 a1] rfl (by (try simp only [List.map_toArray, List.map_cons, List.map_nil]); first | done | rfl | (simp only [List.length_drop, List.length_take]; rfl)) ?_; (with_reducible refine (haruspexref04_Add.calls a0 a1 t177 t178 _ A4.out).mono ?_); rintro e w' ⟨rfl, ⟨nd, rfl⟩⟩; refine ⟨_, rfl, ?_⟩) | ((with_reducible refine gate_callee (f := 12) rfl ?_); refine goesL_ (some 44) rfl rfl Try.func12 (by kernel_rfl) rfl #[.int .i64 a0, .int .i64 a1] rfl (by (try simp only [List.map_toArray, List.map_cons, List.map_nil]); first | done | rfl | (simp only [List.length_drop, List.length_take]; rfl)) ?_; (with_reducible refine (num_Sub.calls a0 a1 t179 t180 _ A5.out).mono ?_); rintro e w' ⟨rfl, ⟨nd, rfl⟩⟩; refine ⟨_, rfl, ?_⟩) | ((with_reducible refine gate_callee (f := 17) rfl ?_); refine goesL_ (some 50) rfl rfl Try.func17 (by kernel_rfl) rfl #[.int .i64 a0, .int .i64 a1] rfl (by (try simp only [List.map_toArray, List.map_cons, List.map_nil]); first | done | rfl | (simp only [List.length_drop, List.length_take]; rfl)) ?_; (with_reducible refine (haruspexref04_Sub.calls a0 a1 t181 t182 _ A6.out).mono ?_); rintro e w' ⟨rfl, ⟨nd, rfl⟩⟩; refine ⟨_, rfl, ?_⟩) | ((with_reducible refine gate_callee (f := 15) rfl ?_); refine goesL_ (some 56) rfl rfl Try.func15 (by kernel_rfl) rfl #[.int .i64 a0, .int .i64 a1] rfl (by (try simp only [List.map_toArray, List.map_cons, List.map_nil]); first | done | rfl | (simp only [List.length_drop, List.length_take]; rfl)) ?_; (with_reducible refine (num_Mul.calls k a0 a1 t183 t184 _ A7.out).mono ?_); rintro e w' ⟨rfl, ⟨nd, rfl⟩⟩; refine ⟨_, rfl, ?_⟩) | ((with_reducible refine gate_callee (f := 18) rfl ?_); refine goesL_ (some 62) rfl rfl Try.func18 (by kernel_rfl) rfl #[.int .i64 a0, .int .i64 a1] rfl (by (try simp only [List.map_toArray, List.map_cons, List.map_nil]); first | done | rfl | (simp only [List.length_drop, List.length_take]; rfl)) ?_; (with_reducible refine (haruspexref04_Mul.calls k a0 a1 t185 t186 _ A8.out).mono ?_); rintro e w' ⟨rfl, ⟨nd, rfl⟩⟩; refine ⟨_, rfl, ?_⟩) | ((with_reducible refine gate_callee (f := 13) rfl ?_); refine goesL_ (some 68) rfl rfl Try.func13 (by kernel_rfl) rfl #[.int .i64 a0, .int .i64 a1] rfl (by (try simp only [List.map_toArray, List.map_cons, List.map_nil]); first | done | rfl | (simp only [List.length_drop, List.length_take]; rfl)) ?_; (with_reducible refine (num_Div.calls a0 a1 t187 t188 _ A9.out).mono ?_); rintro e w' ⟨rfl, ⟨nd, rfl⟩⟩; refine ⟨_, rfl, ?_⟩) | ((with_reducible refine gate_callee (f := 19) rfl ?_); refine goesL_ (some 74) rfl rfl Try.func19 (by kernel_rfl) rfl #[.int .i64 a0, .int .i64 a1] rfl (by (try simp only [List.map_toArray, List.map_cons, List.map_nil]); first | done | rfl | (simp only [List.length_drop, List.length_take]; rfl)) ?_; (with_reducible refine (haruspexref04_Div.calls a0 a1 t189 t190 _ A10.out).mono ?_); rintro e w' ⟨rfl, ⟨nd, rfl⟩⟩; refine ⟨_, rfl, ?_⟩) | ((with_reducible refine gate_callee (f := 14) rfl ?_); refine goesL_ (some 80) rfl rfl Try.func14 (by kernel_rfl) rfl #[.int .i64 a0, .int .i64 a1] rfl (by (try simp only [List.map_toArray, List.map_cons, List.map_nil]); first | done | rfl | (simp only [List.length_drop, List.length_take]; rfl)) ?_; (with_reducible refine (num_Mod.calls a0 a1 t191 t192 _ A11.out).mono ?_); rintro e w' ⟨rfl, ⟨nd, rfl⟩⟩; refine ⟨_, rfl, ?_⟩) | ((with_reducible refine gate_callee (f := 20) rfl ?_); refine goesL_ (some 86) rfl rfl Try.func20 (by kernel_rfl) rfl #[.int .i64 a0, .int .i64 a1] rfl (by (try simp only [List.map_toArray, List.map_cons, List.map_nil]); first | done | rfl | (simp only [List.length_drop, List.length_take]; rfl)) ?_; (with_reducible refine (haruspexref04_Mod.calls a0 a1 t193 t194 _ A12.out).mono ?_); rintro e w' ⟨rfl, ⟨nd, rfl⟩⟩; refine ⟨_, rfl, ?_⟩) | ((with_reducible refine gate_callee (f := 21) rfl ?_); refine goesL_ (some 91) rfl rfl Try.func21 (by kernel_rfl) rfl #[.int .i64 a0] rfl (by (try simp only [List.map_toArray, List.map_cons, List.map_nil]); first | done | rfl | (simp only [List.length_drop, List.length_take]; rfl)) ?_; (with_reducible refine (num_Neg.calls a0 t195 t196 _ A13.out).mono ?_); rintro e w' ⟨rfl, ⟨nd, rfl⟩⟩; refine ⟨_, rfl, ?_⟩) | ((with_reducible refine gate_callee (f := 22) rfl ?_); refine goesL_ (some 96) rfl rfl Try.func22 (by kernel_rfl) rfl #[.int .i64 a0] rfl (by (try simp only [List.map_toArray, List.map_cons, List.map_nil]); first | done | rfl | (simp only [List.length_drop, List.length_take]; rfl)) ?_; (with_reducible refine (haruspexref04_Neg.calls a0 t197 t198 _ A14.out).mono ?_); rintro e w' ⟨rfl, ⟨nd, rfl⟩⟩; refine ⟨_, rfl, ?_⟩) | (go_at_call 8; (with_reducible refine (haruspexlaw04_awake.calls  t199 _ A27.out).mono ?_); rintro e w' ⟨rfl, ⟨nd, rfl⟩⟩))
                          go_ret
                          exact ⟨by first | rfl | (simp; done) | (simp [*]; done), by repeat (first | exact Drawn0.refl _ | apply Drawn0.step)⟩
                        · rw [if_neg c26] at H
                          exact absurd H (by simp)
                      · rw [if_neg c25] at H
                        exact absurd H (by simp)
                    · rw [if_neg c24] at H
                      exact absurd H (by simp)
                  · rw [if_neg c23] at H
                    exact absurd H (by simp)
                · rw [if_neg c22] at H
                  exact absurd H (by simp)
              · rw [if_neg c21] at H
                exact absurd H (by simp)
            · rw [if_neg c20] at H
              exact absurd H (by simp)
          · rw [if_neg c19] at H
            exact absurd H (by simp)
        · rw [if_neg c18] at H
          exact absurd H (by simp)
      · rw [if_neg c17] at H
        exact absurd H (by simp)
    · rw [if_neg c16] at H
      exact absurd H (by simp)
  · rw [if_neg c15] at H
    exact absurd H (by simp)

/-- THE ONE PURE STATEMENT of haruspexlaw04_NumAll: yours. -/
def haruspexlaw04_NumAll.Pure : Prop := ∀ (a0 : Int) (a1 : Int), (Lit.int .i64 a0).wf = true → (Lit.int .i64 a1).wf = true → ∃ k, haruspexlaw04_NumAll.f k a0 a1 = some true
theorem haruspexlaw04_NumAll.walk (P : haruspexlaw04_NumAll.Pure) (a0 : Int) (a1 : Int) (w : World) (w0 : (Lit.int .i64 a0).wf = true) (w1 : (Lit.int .i64 a1).wf = true) :
    Calls Try.prog 5 #[.int .i64 a0, .int .i64 a1] w fun e w' => e = .returned (.bool true) ∧ Below w.heap.size w w' := by
  obtain ⟨k, h⟩ := P a0 a1 w0 w1
  refine (haruspexlaw04_NumAll.calls k a0 a1 true w h).mono ?_
  rintro e w' ⟨rfl, hd⟩
  exact ⟨rfl, hd.below⟩

end Go.Proofs.Ytbjfhchlngiboaa.PAll
