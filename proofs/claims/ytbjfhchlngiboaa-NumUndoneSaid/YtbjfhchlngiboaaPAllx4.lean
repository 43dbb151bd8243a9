/- Functions of the Go program as plain Lean functions, and the proofs that the code comes to just their answers; of a law, the row. Written by a program of this session (wip/myprint.py over the given print). No condition. -/
import Derived.Test.YtbjfhchlngiboaaPAllx0
import Derived.Test.YtbjfhchlngiboaaPAllx1
import Derived.Test.YtbjfhchlngiboaaPAllx2
import Derived.Test.YtbjfhchlngiboaaPAllx3
namespace Go.Proofs.Ytbjfhchlngiboaa.PAll
open Go.RowKit Go.Proofs.YtbjfhchlngiboaaW.PrintWords Go.Proofs.YtbjfhchlngiboaaW.PrintLast Go.Proofs.YtbjfhchlngiboaaW.PrintMore
attribute [local go_sem] max2_int min2_int max_two min_two max_three min_three max_four min_four   -- for this text's walks alone
set_option linter.unusedVariables false
set_option linter.unusedSimpArgs false

/-! ### haruspexlaw04_NumUndone: function 4 -/
def haruspexlaw04_NumUndone.j0 : Nat → Int → Int → Option (Bool)
  | 0, _, _ => none
  | k + 1, x0, x1 => (num_Div.f x0 x1).bind fun bt153 => ((num_Mod.f x0 x1).bind fun bt155 => (if bt153.2 = 0 then ((num_Mul.f k bt153.1 x1).bind fun bt157 => ((num_Add.f bt157.1 bt155.1).bind fun bt159 => (if x1 > 0 then (if bt155.1 < x1 then (if bt155.1 > (wrap64 (-x1)) then (if bt155.2 = 0 then (if bt157.2 = 0 then (if bt159.2 = 0 then (if bt159.1 = x0 then ((haruspexlaw04_awake.f).bind fun t161 => (some t161)) else (none)) else (none)) else (none)) else (none)) else (if x1 < 0 then (if bt155.1 < 0 then (if bt155.1 > x1 then (if bt155.2 = 0 then (if bt157.2 = 0 then (if bt159.2 = 0 then (if bt159.1 = x0 then ((haruspexlaw04_awake.f).bind fun t162 => (some t162)) else (none)) else (none)) else (none)) else (none)) else (if bt155.1 ≥ 0 then (if bt155.2 = 0 then (if bt157.2 = 0 then (if bt159.2 = 0 then (if bt159.1 = x0 then (if (wrap64 (-bt155.1)) > x1 then ((haruspexlaw04_awake.f).bind fun t163 => (some t163)) else (none)) else (none)) else (none)) else (none)) else (none)) else (if bt155.2 = 0 then (if bt157.2 = 0 then (if bt159.2 = 0 then (if bt159.1 = x0 then (none) else (none)) else (none)) else (none)) else (none)))) else (if bt155.1 ≥ 0 then (if bt155.2 = 0 then (if bt157.2 = 0 then (if bt159.2 = 0 then (if bt159.1 = x0 then (if (wrap64 (-bt155.1)) > x1 then ((haruspexlaw04_awake.f).bind fun t164 => (some t164)) else (none)) else (none)) else (none)) else (none)) else (none)) else (if bt155.2 = 0 then (if bt157.2 = 0 then (if bt159.2 = 0 then (if bt159.1 = x0 then (none) else (none)) else (none)) else (none)) else (none)))) else (if bt155.2 = 0 then (if bt157.2 = 0 then (if bt159.2 = 0 then (if bt159.1 = x0 then (none) else (none)) else (none)) else (none)) else (none)))) else (if x1 < 0 then (if bt155.1 < 0 then (if bt155.1 > x1 then (if bt155.2 = 0 then (if bt157.2 = 0 then (if bt159.2 = 0 then (if bt159.1 = x0 then ((haruspexlaw04_awake.f).bind fun t165 => (some t165)) else (none)) else (none)) else (none)) else (none)) else (if bt155.1 ≥ 0 then (if bt155.2 = 0 then (if bt157.2 = 0 then (if bt159.2 = 0 then (if bt159.1 = x0 then (if (wrap64 (-bt155.1)) > x1 then ((haruspexlaw04_awake.f).bind fun t166 => (some t166)) else (none)) else (none)) else (none)) else (none)) else (none)) else (if bt155.2 = 0 then (if bt157.2 = 0 then (if bt159.2 = 0 then (if bt159.1 = x0 then (none) else (none)) else (none)) else (none)) else (none)))) else (if bt155.1 ≥ 0 then (if bt155.2 = 0 then (if bt157.2 = 0 then (if bt159.2 = 0 then (if bt159.1 = x0 then (if (wrap64 (-bt155.1)) > x1 then ((haruspexlaw04_awake.f).bind fun t167 => (some t167)) else (none)) else (none)) else (none)) else (none)) else (none)) else (if bt155.2 = 0 then (if bt157.2 = 0 then (if bt159.2 = 0 then (if bt159.1 = x0 then (none) else (none)) else (none)) else (none)) else (none)))) else (if bt155.2 = 0 then (if bt157.2 = 0 then (if bt159.2 = 0 then (if bt159.1 = x0 then (none) else (none)) else (none)) else (none)) else (none)))) else (if x1 < 0 then (if bt155.1 < 0 then (if bt155.1 > x1 then (if bt155.2 = 0 then (if bt157.2 = 0 then (if bt159.2 = 0 then (if bt159.1 = x0 then ((haruspexlaw04_awake.f).bind fun t168 => (some t168)) else (none)) else (none)) else (none)) else (none)) else (if bt155.1 ≥ 0 then (if bt155.2 = 0 then (if bt157.2 = 0 then (if bt159.2 = 0 then (if bt159.1 = x0 then (if (wrap64 (-bt155.1)) > x1 then ((haruspexlaw04_awake.f).bind fun t169 => (some t169)) else (none)) else (none)) else (none)) else (none)) else (none)) else (if bt155.2 = 0 then (if bt157.2 = 0 then (if bt159.2 = 0 then (if bt159.1 = x0 then (none) else (none)) else (none)) else (none)) else (none)))) else (if bt155.1 ≥ 0 then (if bt155.2 = 0 then (if bt157.2 = 0 then (if bt159.2 = 0 then (if bt159.1 = x0 then (if (wrap64 (-bt155.1)) > x1 then ((haruspexlaw04_awake.f).bind fun t170 => (some t170)) else (none)) else (none)) else (none)) else (none)) else (none)) else (if bt155.2 = 0 then (if bt157.2 = 0 then (if bt159.2 = 0 then (if bt159.1 = x0 then (none) else (none)) else (none)) else (none)) else (none)))) else (if bt155.2 = 0 then (if bt157.2 = 0 then (if bt159.2 = 0 then (if bt159.1 = x0 then (none) else (none)) else (none)) else (none)) else (none)))))) else (if x1 = 0 then ((haruspexlaw04_awake.f).bind fun t171 => (some t171)) else (if x1 = (-1) then (if bt155.1 = 0 then ((haruspexlaw04_awake.f).bind fun t172 => (some t172)) else (none)) else (none)))))
def haruspexlaw04_NumUndone.f (k : Nat) (a0 : Int) (a1 : Int) : Option (Bool) := (num_Add.f a0 a1).bind fun bt149 => (if bt149.2 = 0 then ((num_Sub.f bt149.1 a1).bind fun bt151 => (if bt151.2 = 0 then (if bt151.1 = a0 then (haruspexlaw04_NumUndone.j0 k a0 a1) else (none)) else (none))) else (haruspexlaw04_NumUndone.j0 k a0 a1))
theorem haruspexlaw04_NumUndone.mono_l : ∀ k, (∀ y0 y1, LeO (haruspexlaw04_NumUndone.j0 k y0 y1) (haruspexlaw04_NumUndone.j0 (k + 1) y0 y1))
  | 0 => fun _ _ r h => by simp [haruspexlaw04_NumUndone.j0] at h
  | k + 1 => by
    have ih0 := haruspexlaw04_NumUndone.mono_l k
    · intro y0 y1
      unfold haruspexlaw04_NumUndone.j0
      repeat' first
      | (with_reducible exact ih0 _ _)
      | (with_reducible exact num_Mul.mono _ _ _)
      | (with_reducible exact LeO.refl _)
      | (with_reducible exact LeO.none _)
      | (with_reducible refine LeO.ite ?_ ?_)
      | (with_reducible refine LeO.bind ?_ (fun _ => ?_))
      | exact ih0 _ _
      | exact num_Mul.mono _ _ _
      | exact LeO.none _
      | refine LeO.ite ?_ ?_
      | refine LeO.bind ?_ (fun _ => ?_)
theorem haruspexlaw04_NumUndone.mono : ∀ a0 a1 k, LeO (haruspexlaw04_NumUndone.f k a0 a1) (haruspexlaw04_NumUndone.f (k + 1) a0 a1) := by
  intro a0 a1 k
  have ih0 := haruspexlaw04_NumUndone.mono_l k
  unfold haruspexlaw04_NumUndone.f
  repeat' first
      | (with_reducible exact ih0 _ _)
      | (with_reducible exact num_Mul.mono _ _ _)
      | (with_reducible exact LeO.refl _)
      | (with_reducible exact LeO.none _)
      | (with_reducible refine LeO.ite ?_ ?_)
      | (with_reducible refine LeO.bind ?_ (fun _ => ?_))
      | exact ih0 _ _
      | exact num_Mul.mono _ _ _
      | exact LeO.none _
      | refine LeO.ite ?_ ?_
      | refine LeO.bind ?_ (fun _ => ?_)
set_option maxHeartbeats 8000000 in
set_option maxRecDepth 100000 in
theorem haruspexlaw04_NumUndone.calls (k : Nat) (a0 : Int) (a1 : Int) (r : Bool) (w : World) (h : haruspexlaw04_NumUndone.f k a0 a1 = some r) :
    Calls Try.prog 4 #[.int .i64 a0, .int .i64 a1] w fun e w' => e = .returned (.bool r) ∧ Drawn0 w w' := by
  have H : ((num_Add.f a0 a1).bind fun bt149 => (if bt149.2 = 0 then ((num_Sub.f bt149.1 a1).bind fun bt151 => (if bt151.2 = 0 then (if bt151.1 = a0 then (haruspexlaw04_NumUndone.j0 k a0 a1) else (none)) else (none))) else (haruspexlaw04_NumUndone.j0 k a0 a1))) = some r := h
  clear h
  replace H := Option.bind_eq_some_iff.mp H
  obtain ⟨⟨t149, t150⟩, A30, H⟩ := H
  replace H : (if t150 = 0 then ((num_Sub.f t149 a1).bind fun bt151 => (if bt151.2 = 0 then (if bt151.1 = a0 then (haruspexlaw04_NumUndone.j0 k a0 a1) else (none)) else (none))) else (haruspexlaw04_NumUndone.j0 k a0 a1)) = some r := H
  have A3 := Aside0.mk A30
  clear A30
  have HC4 := Aside0.mk H
  clear H
  go_enter Try.func4, Try.ntmps4
  go_upto_if 25 with (first | ((with_reducible refine gate_callee (f := 11) rfl ?_); refine goesL_ (some 21) rfl rfl Try.func11 (by kernel_rfl) rfl #[.int .i64 a0, .int .i64 a1] rfl (by (try simp only [List.map_toArray, List.map_cons, List.map_nil]); first | done | rfl | (simp only [List.length_drop, List.length_take]; rfl)) ?_; (with_reducible refine (num_Add.calls a0 a1 t149 t150 _ A3.out).mono ?_); rintro e w' ⟨rfl, ⟨nd, rfl⟩⟩; refine ⟨_, rfl, ?_⟩))
  (try simp only [Act.put, List.setIfInBounds_toArray, List.set_cons_zero, List.set_cons_succ])
  go_cut [] (fun wc => ∃ (kq : Nat), Aside0 (haruspexlaw04_NumUndone.j0 kq a0 a1 = some r) ∧ Aside0 (kq ≤ k) ∧ Drawn0 w wc)
  case first =>
    have H := HC4.out
    clear HC4
    by_cases c5 : t150 = 0
    · rw [if_pos c5] at H
      have c5b0 : (t150 == 0) = true := beq_iff_eq.mpr c5
      have c5b1 : (t150 != 0) = false := bne_eq_false_iff_eq.mpr c5
      clear c5
      (first | rw [c5b0] | (simp only [i64_w, i32_w]; rw [c5b0]) | skip)
      replace H := Option.bind_eq_some_iff.mp H
      obtain ⟨⟨t151, t152⟩, A60, H⟩ := H
      replace H : (if t152 = 0 then (if t151 = a0 then (haruspexlaw04_NumUndone.j0 k a0 a1) else (none)) else (none)) = some r := H
      have A6 := Aside0.mk A60
      clear A60
      by_cases c7 : t152 = 0
      · rw [if_pos c7] at H
        have c7b0 : (t152 == 0) = true := beq_iff_eq.mpr c7
        have c7b1 : (t152 != 0) = false := bne_eq_false_iff_eq.mpr c7
        clear c7
        by_cases c8 : t151 = a0
        · rw [if_pos c8] at H
          have c8b0 : (t151 == a0) = true := beq_iff_eq.mpr c8
          have c8b1 : (t151 != a0) = false := bne_eq_false_iff_eq.mpr c8
          clear c8
          have H' := Aside0.mk H
          clear H
          go_wp2_with (first | ((with_reducible refine gate_callee (f := 12) rfl ?_); refine goesL_ (some 29) rfl rfl Try.func12 (by kernel_rfl) rfl #[.int .i64 t149, .int .i64 a1] rfl (by (try simp only [List.map_toArray, List.map_cons, List.map_nil]); first | done | rfl | (simp only [List.length_drop, List.length_take]; rfl)) ?_; (with_reducible refine (num_Sub.calls t149 a1 t151 t152 _ A6.out).mono ?_); rintro e w' ⟨rfl, ⟨nd, rfl⟩⟩; refine ⟨_, rfl, ?_⟩))
          go_meet
          case rel => exact ⟨_, H', ⟨by first | omega | exact Nat.le_refl _⟩, by repeat (first | exact Drawn0.refl _ | apply Drawn0.step)⟩
        · rw [if_neg c8] at H
          exact absurd H (by simp)
      · rw [if_neg c7] at H
        exact absurd H (by simp)
    · rw [if_neg c5] at H
      have c5b0 : (t150 == 0) = false := beq_eq_false_iff_ne.mpr c5
      have c5b1 : (t150 != 0) = true := bne_iff_ne.mpr c5
      (first | rw [c5b0] | (simp only [i64_w, i32_w]; rw [c5b0]) | skip)
      have H' := Aside0.mk H
      clear H
      go_wp2
      go_meet
      case rel => exact ⟨_, H', ⟨by first | omega | exact Nat.le_refl _⟩, by repeat (first | exact Drawn0.refl _ | apply Drawn0.step)⟩
  case rest =>
    clear HC4
    try clear c1
    try clear p2
    try clear c4
    try clear c5
    try clear c5b0
    try clear c5b1
    try clear c7
    try clear c7b0
    try clear c7b1
    try clear c8
    try clear c8b0
    try clear c8b1
    obtain ⟨kq, HA, HJ3, ⟨mc3, rfl⟩⟩ := hcut
    cases kq with
    | zero => exact absurd HA.out (by simp [haruspexlaw04_NumUndone.j0])
    | succ kj3 =>
      have H := HA.out
      clear HA
      simp only [haruspexlaw04_NumUndone.j0] at H
      replace H := Option.bind_eq_some_iff.mp H
      obtain ⟨⟨t153, t154⟩, A90, H⟩ := H
      replace H : ((num_Mod.f a0 a1).bind fun bt155 => (if t154 = 0 then ((num_Mul.f kj3 t153 a1).bind fun bt157 => ((num_Add.f bt157.1 bt155.1).bind fun bt159 => (if a1 > 0 then (if bt155.1 < a1 then (if bt155.1 > (wrap64 (-a1)) then (if bt155.2 = 0 then (if bt157.2 = 0 then (if bt159.2 = 0 then (if bt159.1 = a0 then ((haruspexlaw04_awake.f).bind fun t161 => (some t161)) else (none)) else (none)) else (none)) else (none)) else (if a1 < 0 then (if bt155.1 < 0 then (if bt155.1 > a1 then (if bt155.2 = 0 then (if bt157.2 = 0 then (if bt159.2 = 0 then (if bt159.1 = a0 then ((haruspexlaw04_awake.f).bind fun t162 => (some t162)) else (none)) else (none)) else (none)) else (none)) else (if bt155.1 ≥ 0 then (if bt155.2 = 0 then (if bt157.2 = 0 then (if bt159.2 = 0 then (if bt159.1 = a0 then (if (wrap64 (-bt155.1)) > a1 then ((haruspexlaw04_awake.f).bind fun t163 => (some t163)) else (none)) else (none)) else (none)) else (none)) else (none)) else (if bt155.2 = 0 then (if bt157.2 = 0 then (if bt159.2 = 0 then (if bt159.1 = a0 then (none) else (none)) else (none)) else (none)) else (none)))) else (if bt155.1 ≥ 0 then (if bt155.2 = 0 then (if bt157.2 = 0 then (if bt159.2 = 0 then (if bt159.1 = a0 then (if (wrap64 (-bt155.1)) > a1 then ((haruspexlaw04_awake.f).bind fun t164 => (some t164)) else (none)) else (none)) else (none)) else (none)) else (none)) else (if bt155.2 = 0 then (if bt157.2 = 0 then (if bt159.2 = 0 then (if bt159.1 = a0 then (none) else (none)) else (none)) else (none)) else (none)))) else (if bt155.2 = 0 then (if bt157.2 = 0 then (if bt159.2 = 0 then (if bt159.1 = a0 then (none) else (none)) else (none)) else (none)) else (none)))) else (if a1 < 0 then (if bt155.1 < 0 then (if bt155.1 > a1 then (if bt155.2 = 0 then (if bt157.2 = 0 then (if bt159.2 = 0 then (if bt159.1 = a0 then ((haruspexlaw04_awake.f).bind fun t165 => (some t165)) else (none)) else (none)) else (none)) else (none)) else (if bt155.1 ≥ 0 then (if bt155.2 = 0 then (if bt157.2 = 0 then (if bt159.2 = 0 then (if bt159.1 = a0 then (if (wrap64 (-bt155.1)) > a1 then ((haruspexlaw04_awake.f).bind fun t166 => (some t166)) else (none)) else (none)) else (none)) else (none)) else (none)) else (if bt155.2 = 0 then (if bt157.2 = 0 then (if bt159.2 = 0 then (if bt159.1 = a0 then (none) else (none)) else (none)) else (none)) else (none)))) else (if bt155.1 ≥ 0 then (if bt155.2 = 0 then (if bt157.2 = 0 then (if bt159.2 = 0 then (if bt159.1 = a0 then (if (wrap64 (-bt155.1)) > a1 then ((haruspexlaw04_awake.f).bind fun t167 => (some t167)) else (none)) else (none)) else (none)) else (none)) else (none)) else (if bt155.2 = 0 then (if bt157.2 = 0 then (if bt159.2 = 0 then (if bt159.1 = a0 then (none) else (none)) else (none)) else (none)) else (none)))) else (if bt155.2 = 0 then (if bt157.2 = 0 then (if bt159.2 = 0 then (if bt159.1 = a0 then (none) else (none)) else (none)) else (none)) else (none)))) else (if a1 < 0 then (if bt155.1 < 0 then (if bt155.1 > a1 then (if bt155.2 = 0 then (if bt157.2 = 0 then (if bt159.2 = 0 then (if bt159.1 = a0 then ((haruspexlaw04_awake.f).bind fun t168 => (some t168)) else (none)) else (none)) else (none)) else (none)) else (if bt155.1 ≥ 0 then (if bt155.2 = 0 then (if bt157.2 = 0 then (if bt159.2 = 0 then (if bt159.1 = a0 then (if (wrap64 (-bt155.1)) > a1 then ((haruspexlaw04_awake.f).bind fun t169 => (some t169)) else (none)) else (none)) else (none)) else (none)) else (none)) else (if bt155.2 = 0 then (if bt157.2 = 0 then (if bt159.2 = 0 then (if bt159.1 = a0 then (none) else (none)) else (none)) else (none)) else (none)))) else (if bt155.1 ≥ 0 then (if bt155.2 = 0 then (if bt157.2 = 0 then (if bt159.2 = 0 then (if bt159.1 = a0 then (if (wrap64 (-bt155.1)) > a1 then ((haruspexlaw04_awake.f).bind fun t170 => (some t170)) else (none)) else (none)) else (none)) else (none)) else (none)) else (if bt155.2 = 0 then (if bt157.2 = 0 then (if bt159.2 = 0 then (if bt159.1 = a0 then (none) else (none)) else (none)) else (none)) else (none)))) else (if bt155.2 = 0 then (if bt157.2 = 0 then (if bt159.2 = 0 then (if bt159.1 = a0 then (none) else (none)) else (none)) else (none)) else (none)))))) else (if a1 = 0 then ((haruspexlaw04_awake.f).bind fun t171 => (some t171)) else (if a1 = (-1) then (if bt155.1 = 0 then ((haruspexlaw04_awake.f).bind fun t172 => (some t172)) else (none)) else (none))))) = some r := H
      have A9 := Aside0.mk A90
      clear A90
      replace H := Option.bind_eq_some_iff.mp H
      obtain ⟨⟨t155, t156⟩, A100, H⟩ := H
      replace H : (if t154 = 0 then ((num_Mul.f kj3 t153 a1).bind fun bt157 => ((num_Add.f bt157.1 t155).bind fun bt159 => (if a1 > 0 then (if t155 < a1 then (if t155 > (wrap64 (-a1)) then (if t156 = 0 then (if bt157.2 = 0 then (if bt159.2 = 0 then (if bt159.1 = a0 then ((haruspexlaw04_awake.f).bind fun t161 => (some t161)) else (none)) else (none)) else (none)) else (none)) else (if a1 < 0 then (if t155 < 0 then (if t155 > a1 then (if t156 = 0 then (if bt157.2 = 0 then (if bt159.2 = 0 then (if bt159.1 = a0 then ((haruspexlaw04_awake.f).bind fun t162 => (some t162)) else (none)) else (none)) else (none)) else (none)) else (if t155 ≥ 0 then (if t156 = 0 then (if bt157.2 = 0 then (if bt159.2 = 0 then (if bt159.1 = a0 then (if (wrap64 (-t155)) > a1 then ((haruspexlaw04_awake.f).bind fun t163 => (some t163)) else (none)) else (none)) else (none)) else (none)) else (none)) else (if t156 = 0 then (if bt157.2 = 0 then (if bt159.2 = 0 then (if bt159.1 = a0 then (none) else (none)) else (none)) else (none)) else (none)))) else (if t155 ≥ 0 then (if t156 = 0 then (if bt157.2 = 0 then (if bt159.2 = 0 then (if bt159.1 = a0 then (if (wrap64 (-t155)) > a1 then ((haruspexlaw04_awake.f).bind fun t164 => (some t164)) else (none)) else (none)) else (none)) else (none)) else (none)) else (if t156 = 0 then (if bt157.2 = 0 then (if bt159.2 = 0 then (if bt159.1 = a0 then (none) else (none)) else (none)) else (none)) else (none)))) else (if t156 = 0 then (if bt157.2 = 0 then (if bt159.2 = 0 then (if bt159.1 = a0 then (none) else (none)) else (none)) else (none)) else (none)))) else (if a1 < 0 then (if t155 < 0 then (if t155 > a1 then (if t156 = 0 then (if bt157.2 = 0 then (if bt159.2 = 0 then (if bt159.1 = a0 then ((haruspexlaw04_awake.f).bind fun t165 => (some t165)) else (none)) else (none)) else (none)) else (none)) else (if t155 ≥ 0 then (if t156 = 0 then (if bt157.2 = 0 then (if bt159.2 = 0 then (if bt159.1 = a0 then (if (wrap64 (-t155)) > a1 then ((haruspexlaw04_awake.f).bind fun t166 => (some t166)) else (none)) else (none)) else (none)) else (none)) else (none)) else (if t156 = 0 then (if bt157.2 = 0 then (if bt159.2 = 0 then (if bt159.1 = a0 then (none) else (none)) else (none)) else (none)) else (none)))) else (if t155 ≥ 0 then (if t156 = 0 then (if bt157.2 = 0 then (if bt159.2 = 0 then (if bt159.1 = a0 then (if (wrap64 (-t155)) > a1 then ((haruspexlaw04_awake.f).bind fun t167 => (some t167)) else (none)) else (none)) else (none)) else (none)) else (none)) else (if t156 = 0 then (if bt157.2 = 0 then (if bt159.2 = 0 then (if bt159.1 = a0 then (none) else (none)) else (none)) else (none)) else (none)))) else (if t156 = 0 then (if bt157.2 = 0 then (if bt159.2 = 0 then (if bt159.1 = a0 then (none) else (none)) else (none)) else (none)) else (none)))) else (if a1 < 0 then (if t155 < 0 then (if t155 > a1 then (if t156 = 0 then (if bt157.2 = 0 then (if bt159.2 = 0 then (if bt159.1 = a0 then ((haruspexlaw04_awake.f).bind fun t168 => (some t168)) else (none)) else (none)) else (none)) else (none)) else (if t155 ≥ 0 then (if t156 = 0 then (if bt157.2 = 0 then (if bt159.2 = 0 then (if bt159.1 = a0 then (if (wrap64 (-t155)) > a1 then ((haruspexlaw04_awake.f).bind fun t169 => (some t169)) else (none)) else (none)) else (none)) else (none)) else (none)) else (if t156 = 0 then (if bt157.2 = 0 then (if bt159.2 = 0 then (if bt159.1 = a0 then (none) else (none)) else (none)) else (none)) else (none)))) else (if t155 ≥ 0 then (if t156 = 0 then (if bt157.2 = 0 then (if bt159.2 = 0 then (if bt159.1 = a0 then (if (wrap64 (-t155)) > a1 then ((haruspexlaw04_awake.f).bind fun t170 => (some t170)) else (none)) else (none)) else (none)) else (none)) else (none)) else (if t156 = 0 then (if bt157.2 = 0 then (if bt159.2 = 0 then (if bt159.1 = a0 then (none) else (none)) else (none)) else (none)) else (none)))) else (if t156 = 0 then (if bt157.2 = 0 then (if bt159.2 = 0 then (if bt159.1 = a0 then (none) else (none)) else (none)) else (none)) else (none)))))) else (if a1 = 0 then ((haruspexlaw04_awake.f).bind fun t171 => (some t171)) else (if a1 = (-1) then (if t155 = 0 then ((haruspexlaw04_awake.f).bind fun t172 => (some t172)) else (none)) else (none)))) = some r := H
      have A10 := Aside0.mk A100
      clear A100
      by_cases c11 : t154 = 0
      · rw [if_pos c11] at H
        have c11b0 : (t154 == 0) = true := beq_iff_eq.mpr c11
        have c11b1 : (t154 != 0) = false := bne_eq_false_iff_eq.mpr c11
        clear c11
        replace H := Option.bind_eq_some_iff.mp H
        obtain ⟨⟨t157, t158⟩, A120, H⟩ := H
        replace H : ((num_Add.f t157 t155).bind fun bt159 => (if a1 > 0 then (if t155 < a1 then (if t155 > (wrap64 (-a1)) then (if t156 = 0 then (if t158 = 0 then (if bt159.2 = 0 then (if bt159.1 = a0 then ((haruspexlaw04_awake.f).bind fun t161 => (some t161)) else (none)) else (none)) else (none)) else (none)) else (if a1 < 0 then (if t155 < 0 then (if t155 > a1 then (if t156 = 0 then (if t158 = 0 then (if bt159.2 = 0 then (if bt159.1 = a0 then ((haruspexlaw04_awake.f).bind fun t162 => (some t162)) else (none)) else (none)) else (none)) else (none)) else (if t155 ≥ 0 then (if t156 = 0 then (if t158 = 0 then (if bt159.2 = 0 then (if bt159.1 = a0 then (if (wrap64 (-t155)) > a1 then ((haruspexlaw04_awake.f).bind fun t163 => (some t163)) else (none)) else (none)) else (none)) else (none)) else (none)) else (if t156 = 0 then (if t158 = 0 then (if bt159.2 = 0 then (if bt159.1 = a0 then (none) else (none)) else (none)) else (none)) else (none)))) else (if t155 ≥ 0 then (if t156 = 0 then (if t158 = 0 then (if bt159.2 = 0 then (if bt159.1 = a0 then (if (wrap64 (-t155)) > a1 then ((haruspexlaw04_awake.f).bind fun t164 => (some t164)) else (none)) else (none)) else (none)) else (none)) else (none)) else (if t156 = 0 then (if t158 = 0 then (if bt159.2 = 0 then (if bt159.1 = a0 then (none) else (none)) else (none)) else (none)) else (none)))) else (if t156 = 0 then (if t158 = 0 then (if bt159.2 = 0 then (if bt159.1 = a0 then (none) else (none)) else (none)) else (none)) else (none)))) else (if a1 < 0 then (if t155 < 0 then (if t155 > a1 then (if t156 = 0 then (if t158 = 0 then (if bt159.2 = 0 then (if bt159.1 = a0 then ((haruspexlaw04_awake.f).bind fun t165 => (some t165)) else (none)) else (none)) else (none)) else (none)) else (if t155 ≥ 0 then (if t156 = 0 then (if t158 = 0 then (if bt159.2 = 0 then (if bt159.1 = a0 then (if (wrap64 (-t155)) > a1 then ((haruspexlaw04_awake.f).bind fun t166 => (some t166)) else (none)) else (none)) else (none)) else (none)) else (none)) else (if t156 = 0 then (if t158 = 0 then (if bt159.2 = 0 then (if bt159.1 = a0 then (none) else (none)) else (none)) else (none)) else (none)))) else (if t155 ≥ 0 then (if t156 = 0 then (if t158 = 0 then (if bt159.2 = 0 then (if bt159.1 = a0 then (if (wrap64 (-t155)) > a1 then ((haruspexlaw04_awake.f).bind fun t167 => (some t167)) else (none)) else (none)) else (none)) else (none)) else (none)) else (if t156 = 0 then (if t158 = 0 then (if bt159.2 = 0 then (if bt159.1 = a0 then (none) else (none)) else (none)) else (none)) else (none)))) else (if t156 = 0 then (if t158 = 0 then (if bt159.2 = 0 then (if bt159.1 = a0 then (none) else (none)) else (none)) else (none)) else (none)))) else (if a1 < 0 then (if t155 < 0 then (if t155 > a1 then (if t156 = 0 then (if t158 = 0 then (if bt159.2 = 0 then (if bt159.1 = a0 then ((haruspexlaw04_awake.f).bind fun t168 => (some t168)) else (none)) else (none)) else (none)) else (none)) else (if t155 ≥ 0 then (if t156 = 0 then (if t158 = 0 then (if bt159.2 = 0 then (if bt159.1 = a0 then (if (wrap64 (-t155)) > a1 then ((haruspexlaw04_awake.f).bind fun t169 => (some t169)) else (none)) else (none)) else (none)) else (none)) else (none)) else (if t156 = 0 then (if t158 = 0 then (if bt159.2 = 0 then (if bt159.1 = a0 then (none) else (none)) else (none)) else (none)) else (none)))) else (if t155 ≥ 0 then (if t156 = 0 then (if t158 = 0 then (if bt159.2 = 0 then (if bt159.1 = a0 then (if (wrap64 (-t155)) > a1 then ((haruspexlaw04_awake.f).bind fun t170 => (some t170)) else (none)) else (none)) else (none)) else (none)) else (none)) else (if t156 = 0 then (if t158 = 0 then (if bt159.2 = 0 then (if bt159.1 = a0 then (none) else (none)) else (none)) else (none)) else (none)))) else (if t156 = 0 then (if t158 = 0 then (if bt159.2 = 0 then (if bt159.1 = a0 then (none) else (none)) else (none)) else (none)) else (none))))) = some r := H
        have A12 := Aside0.mk A120
        clear A120
        replace H := Option.bind_eq_some_iff.mp H
        obtain ⟨⟨t159, t160⟩, A130, H⟩ := H
        replace H : (if a1 > 0 then (if t155 < a1 then (if t155 > (wrap64 (-a1)) then (if t156 = 0 then (if t158 = 0 then (if t160 = 0 then (if t159 = a0 then ((haruspexlaw04_awake.f).bind fun t161 => (some t161)) else (none)) else (none)) else (none)) else (none)) else (if a1 < 0 then (if t155 < 0 then (if t155 > a1 then (if t156 = 0 then (if t158 = 0 then (if t160 = 0 then (if t159 = a0 then ((haruspexlaw04_awake.f).bind fun t162 => (some t162)) else (none)) else (none)) else (none)) else (none)) else (if t155 ≥ 0 then (if t156 = 0 then (if t158 = 0 then (if t160 = 0 then (if t159 = a0 then (if (wrap64 (-t155)) > a1 then ((haruspexlaw04_awake.f).bind fun t163 => (some t163)) else (none)) else (none)) else (none)) else (none)) else (none)) else (if t156 = 0 then (if t158 = 0 then (if t160 = 0 then (if t159 = a0 then (none) else (none)) else (none)) else (none)) else (none)))) else (if t155 ≥ 0 then (if t156 = 0 then (if t158 = 0 then (if t160 = 0 then (if t159 = a0 then (if (wrap64 (-t155)) > a1 then ((haruspexlaw04_awake.f).bind fun t164 => (some t164)) else (none)) else (none)) else (none)) else (none)) else (none)) else (if t156 = 0 then (if t158 = 0 then (if t160 = 0 then (if t159 = a0 then (none) else (none)) else (none)) else (none)) else (none)))) else (if t156 = 0 then (if t158 = 0 then (if t160 = 0 then (if t159 = a0 then (none) else (none)) else (none)) else (none)) else (none)))) else (if a1 < 0 then (if t155 < 0 then (if t155 > a1 then (if t156 = 0 then (if t158 = 0 then (if t160 = 0 then (if t159 = a0 then ((haruspexlaw04_awake.f).bind fun t165 => (some t165)) else (none)) else (none)) else (none)) else (none)) else (if t155 ≥ 0 then (if t156 = 0 then (if t158 = 0 then (if t160 = 0 then (if t159 = a0 then (if (wrap64 (-t155)) > a1 then ((haruspexlaw04_awake.f).bind fun t166 => (some t166)) else (none)) else (none)) else (none)) else (none)) else (none)) else (if t156 = 0 then (if t158 = 0 then (if t160 = 0 then (if t159 = a0 then (none) else (none)) else (none)) else (none)) else (none)))) else (if t155 ≥ 0 then (if t156 = 0 then (if t158 = 0 then (if t160 = 0 then (if t159 = a0 then (if (wrap64 (-t155)) > a1 then ((haruspexlaw04_awake.f).bind fun t167 => (some t167)) else (none)) else (none)) else (none)) else (none)) else (none)) else (if t156 = 0 then (if t158 = 0 then (if t160 = 0 then (if t159 = a0 then (none) else (none)) else (none)) else (none)) else (none)))) else (if t156 = 0 then (if t158 = 0 then (if t160 = 0 then (if t159 = a0 then (none) else (none)) else (none)) else (none)) else (none)))) else (if a1 < 0 then (if t155 < 0 then (if t155 > a1 then (if t156 = 0 then (if t158 = 0 then (if t160 = 0 then (if t159 = a0 then ((haruspexlaw04_awake.f).bind fun t168 => (some t168)) else (none)) else (none)) else (none)) else (none)) else (if t155 ≥ 0 then (if t156 = 0 then (if t158 = 0 then (if t160 = 0 then (if t159 = a0 then (if (wrap64 (-t155)) > a1 then ((haruspexlaw04_awake.f).bind fun t169 => (some t169)) else (none)) else (none)) else (none)) else (none)) else (none)) else (if t156 = 0 then (if t158 = 0 then (if t160 = 0 then (if t159 = a0 then (none) else (none)) else (none)) else (none)) else (none)))) else (if t155 ≥ 0 then (if t156 = 0 then (if t158 = 0 then (if t160 = 0 then (if t159 = a0 then (if (wrap64 (-t155)) > a1 then ((haruspexlaw04_awake.f).bind fun t170 => (some t170)) else (none)) else (none)) else (none)) else (none)) else (none)) else (if t156 = 0 then (if t158 = 0 then (if t160 = 0 then (if t159 = a0 then (none) else (none)) else (none)) else (none)) else (none)))) else (if t156 = 0 then (if t158 = 0 then (if t160 = 0 then (if t159 = a0 then (none) else (none)) else (none)) else (none)) else (none)))) = some r := H
        have A13 := Aside0.mk A130
        clear A130
        by_cases c14 : a1 > 0
        · rw [if_pos c14] at H
          have c14b0 : decide (0 < a1) = true := decide_eq_true c14
          clear c14
          by_cases c15 : t155 < a1
          · rw [if_pos c15] at H
            have c15b0 : decide (t155 < a1) = true := decide_eq_true c15
            clear c15
            by_cases c16 : t155 > (wrap64 (-a1))
            · rw [if_pos c16] at H
              have c16b0 : decide ((wrap64 (-a1)) < t155) = true := decide_eq_true c16
              clear c16
              by_cases c17 : t156 = 0
              · rw [if_pos c17] at H
                have c17b0 : (t156 == 0) = true := beq_iff_eq.mpr c17
                have c17b1 : (t156 != 0) = false := bne_eq_false_iff_eq.mpr c17
                clear c17
                by_cases c18 : t158 = 0
                · rw [if_pos c18] at H
                  have c18b0 : (t158 == 0) = true := beq_iff_eq.mpr c18
                  have c18b1 : (t158 != 0) = false := bne_eq_false_iff_eq.mpr c18
                  clear c18
                  by_cases c19 : t160 = 0
                  · rw [if_pos c19] at H
                    have c19b0 : (t160 == 0) = true := beq_iff_eq.mpr c19
                    have c19b1 : (t160 != 0) = false := bne_eq_false_iff_eq.mpr c19
                    clear c19
                    by_cases c20 : t159 = a0
                    · rw [if_pos c20] at H
                      have c20b0 : (t159 == a0) = true := beq_iff_eq.mpr c20
                      have c20b1 : (t159 != a0) = false := bne_eq_false_iff_eq.mpr c20
                      clear c20
                      replace H := Option.bind_eq_some_iff.mp H
                      obtain ⟨t161, A210, H⟩ := H
                      replace H : (some t161) = some r := H
                      have A21 := Aside0.mk A210
                      clear A210
                      obtain rfl := Option.some.inj H
                      go_wp2_with (first | ((with_reducible refine gate_callee (f := 13) rfl ?_); refine goesL_ (some 42) rfl rfl Try.func13 (by kernel_rfl) rfl #[.int .i64 a0, .int .i64 a1] rfl (by (try simp only [List.map_toArray, List.map_cons, List.map_nil]); first | done | rfl | (simp only [List.length_drop, List.length_take]; rfl)) ?_; (with_reducible refine (num_Div.calls a0 a1 t153 t154 _ A9.out).mono ?_); rintro e w' ⟨rfl, ⟨nd, rfl⟩⟩; refine ⟨_, rfl, ?_⟩) | ((with_reducible refine gate_callee (f := 14) rfl ?_); refine goesL_ (some 48) rfl rfl Try.func14 (by kernel_rfl) rfl #[.int .i64 a0, .int .i64 a1] rfl (by (try simp only [List.map_toArray, List.map_cons, List.map_nil]); first | done | rfl | (simp only [List.length_drop, List.length_take]; rfl)) ?_; (with_reducible refine (num_Mod.calls a0 a1 t155 t156 _ A10.out).mono ?_); rintro e w' ⟨rfl, ⟨nd, rfl⟩⟩; refine ⟨_, rfl, ?_⟩) | ((with_reducible refine gate_callee (f := 15) rfl ?_); refine goesL_ (some 69) rfl rfl Try.func15 (by kernel_rfl) rfl #[.int .i64 t153, .int .i64 a1] rfl (by (try simp only [List.map_toArray, List.map_cons, List.map_nil]); first | done | rfl | (simp only [List.length_drop, List.length_take]; rfl)) ?_; (with_reducible refine (num_Mul.calls kj3 t153 a1 t157 t158 _ A12.out).mono ?_); rintro e w' ⟨rfl, ⟨nd, rfl⟩⟩; refine ⟨_, rfl, ?_⟩) | ((with_reducible refine gate_callee (f := 11) rfl ?_); refine goesL_ (some 75) rfl rfl Try.func11 (by kernel_rfl) rfl #[.int .i64 t157, .int .i64 t155] rfl (by (try simp only [List.map_toArray, List.map_cons, List.map_nil]); first | done | rfl | (simp only [List.length_drop, List.length_take]; rfl)) ?_; (with_reducible refine (num_Add.calls t157 t155 t159 t160 _ A13.out).mono ?_); rintro e w' ⟨rfl, ⟨nd, rfl⟩⟩; refine ⟨_, rfl, ?_⟩) | (go_at_call 8; (with_reducible refine (haruspexlaw04_awake.calls  t161 _ A21.out).mono ?_); rintro e w' ⟨rfl, ⟨nd, rfl⟩⟩))
                      go_ret
                      exact ⟨by first | rfl | (simp; done) | (simp [*]; done), by repeat (first | exact Drawn0.refl _ | apply Drawn0.step)⟩
                    · rw [if_neg c20] at H
                      exact absurd H (by simp)
                  · rw [if_neg c19] at H
                    exact absurd H (by simp)
                · rw [if_neg c18] at H
                  exact absurd H (by simp)
              · rw [if_neg c17] at H
                exact absurd H (by simp)
            · rw [if_neg c16] at H
              have c16b0 : decide ((wrap64 (-a1)) < t155) = false := decide_eq_false c16
              clear c16
              by_cases c22 : a1 < 0
              · rw [if_pos c22] at H
                have c22b0 : decide (a1 < 0) = true := decide_eq_true c22
                clear c22
                by_cases c23 : t155 < 0
                · rw [if_pos c23] at H
                  have c23b0 : decide (t155 < 0) = true := decide_eq_true c23
                  clear c23
                  by_cases c24 : t155 > a1
                  · rw [if_pos c24] at H
                    have c24b0 : decide (a1 < t155) = true := decide_eq_true c24
                    clear c24
                    by_cases c25 : t156 = 0
                    · rw [if_pos c25] at H
                      have c25b0 : (t156 == 0) = true := beq_iff_eq.mpr c25
                      have c25b1 : (t156 != 0) = false := bne_eq_false_iff_eq.mpr c25
                      clear c25
                      by_cases c26 : t158 = 0
                      · rw [if_pos c26] at H
                        have c26b0 : (t158 == 0) = true := beq_iff_eq.mpr c26
                        have c26b1 : (t158 != 0) = false := bne_eq_false_iff_eq.mpr c26
                        clear c26
                        by_cases c27 : t160 = 0
                        · rw [if_pos c27] at H
                          have c27b0 : (t160 == 0) = true := beq_iff_eq.mpr c27
                          have c27b1 : (t160 != 0) = false := bne_eq_false_iff_eq.mpr c27
                          clear c27
                          by_cases c28 : t159 = a0
                          · rw [if_pos c28] at H
                            have c28b0 : (t159 == a0) = true := beq_iff_eq.mpr c28
                            have c28b1 : (t159 != a0) = false := bne_eq_false_iff_eq.mpr c28
                            clear c28
                            replace H := Option.bind_eq_some_iff.mp H
                            obtain ⟨t162, A290, H⟩ := H
                            replace H : (some t162) = some r := H
                            have A29 := Aside0.mk A290
                            clear A290
                            obtain rfl := Option.some.inj H
                            go_wp2_with (first | ((with_reducible refine gate_callee (f := 13) rfl ?_); refine goesL_ (some 42) rfl rfl Try.func13 (by kernel_rfl) rfl #[.int .i64 a0, .int .i64 a1] rfl (by (try simp only [List.map_toArray, List.map_cons, List.map_nil]); first | done | rfl | (simp only [List.length_drop, List.length_take]; rfl)) ?_; (with_reducible refine (num_Div.calls a0 a1 t153 t154 _ A9.out).mono ?_); rintro e w' ⟨rfl, ⟨nd, rfl⟩⟩; refine ⟨_, rfl, ?_⟩) | ((with_reducible refine gate_callee (f := 14) rfl ?_); refine goesL_ (some 48) rfl rfl Try.func14 (by kernel_rfl) rfl #[.int .i64 a0, .int .i64 a1] rfl (by (try simp only [List.map_toArray, List.map_cons, List.map_nil]); first | done | rfl | (simp only [List.length_drop, List.length_take]; rfl)) ?_; (with_reducible refine (num_Mod.calls a0 a1 t155 t156 _ A10.out).mono ?_); rintro e w' ⟨rfl, ⟨nd, rfl⟩⟩; refine ⟨_, rfl, ?_⟩) | ((with_reducible refine gate_callee (f := 15) rfl ?_); refine goesL_ (some 69) rfl rfl Try.func15 (by kernel_rfl) rfl #[.int .i64 t153, .int .i64 a1] rfl (by (try simp only [List.map_toArray, List.map_cons, List.map_nil]); first | done | rfl | (simp only [List.length_drop, List.length_take]; rfl)) ?_; (with_reducible refine (num_Mul.calls kj3 t153 a1 t157 t158 _ A12.out).mono ?_); rintro e w' ⟨rfl, ⟨nd, rfl⟩⟩; refine ⟨_, rfl, ?_⟩) | ((with_reducible refine gate_callee (f := 11) rfl ?_); refine goesL_ (some 75) rfl rfl Try.func11 (by kernel_rfl) rfl #[.int .i64 t157, .int .i64 t155] rfl (by (try simp only [List.map_toArray, List.map_cons, List.map_nil]); first | done | rfl | (simp only [List.length_drop, List.length_take]; rfl)) ?_; (with_reducible refine (num_Add.calls t157 t155 t159 t160 _ A13.out).mono ?_); rintro e w' ⟨rfl, ⟨nd, rfl⟩⟩; refine ⟨_, rfl, ?_⟩) | (go_at_call 8; (with_reducible refine (haruspexlaw04_awake.calls  t162 _ A29.out).mono ?_); rintro e w' ⟨rfl, ⟨nd, rfl⟩⟩))
                            go_ret
                            exact ⟨by first | rfl | (simp; done) | (simp [*]; done), by repeat (first | exact Drawn0.refl _ | apply Drawn0.step)⟩
                          · rw [if_neg c28] at H
                            exact absurd H (by simp)
                        · rw [if_neg c27] at H
                          exact absurd H (by simp)
                      · rw [if_neg c26] at H
                        exact absurd H (by simp)
                    · rw [if_neg c25] at H
                      exact absurd H (by simp)
                  · rw [if_neg c24] at H
                    have c24b0 : decide (a1 < t155) = false := decide_eq_false c24
                    clear c24
                    by_cases c30 : t155 ≥ 0
                    · rw [if_pos c30] at H
                      have c30b0 : decide (0 ≤ t155) = true := decide_eq_true c30
                      clear c30
                      by_cases c31 : t156 = 0
                      · rw [if_pos c31] at H
                        have c31b0 : (t156 == 0) = true := beq_iff_eq.mpr c31
                        have c31b1 : (t156 != 0) = false := bne_eq_false_iff_eq.mpr c31
                        clear c31
                        by_cases c32 : t158 = 0
                        · rw [if_pos c32] at H
                          have c32b0 : (t158 == 0) = true := beq_iff_eq.mpr c32
                          have c32b1 : (t158 != 0) = false := bne_eq_false_iff_eq.mpr c32
                          clear c32
                          by_cases c33 : t160 = 0
                          · rw [if_pos c33] at H
                            have c33b0 : (t160 == 0) = true := beq_iff_eq.mpr c33
                            have c33b1 : (t160 != 0) = false := bne_eq_false_iff_eq.mpr c33
                            clear c33
                            by_cases c34 : t159 = a0
                            · rw [if_pos c34] at H
                              have c34b0 : (t159 == a0) = true := beq_iff_eq.mpr c34
                              have c34b1 : (t159 != a0) = false := bne_eq_false_iff_eq.mpr c34
                              clear c34
                              by_cases c35 : (wrap64 (-t155)) > a1
                              · rw [if_pos c35] at H
                                have c35b0 : decide (a1 < (wrap64 (-t155))) = true := decide_eq_true c35
                                clear c35
                                replace H := Option.bind_eq_some_iff.mp H
                                obtain ⟨t163, A360, H⟩ := H
                                replace H : (some t163) = some r := H
                                have A36 := Aside0.mk A360
                                clear A360
                                obtain rfl := Option.some.inj H
                                go_wp2_with (first | ((with_reducible refine gate_callee (f := 13) rfl ?_); refine goesL_ (some 42) rfl rfl Try.func13 (by kernel_rfl) rfl #[.int .i64 a0, .int .i64 a1] rfl (by (try simp only [List.map_toArray, List.map_cons, List.map_nil]); first | done | rfl | (simp only [List.length_drop, List.length_take]; rfl)) ?_; (with_reducible refine (num_Div.calls a0 a1 t153 t154 _ A9.out).mono ?_); rintro e w' ⟨rfl, ⟨nd, rfl⟩⟩; refine ⟨_, rfl, ?_⟩) | ((with_reducible refine gate_callee (f := 14) rfl ?_); refine goesL_ (some 48) rfl rfl Try.func14 (by kernel_rfl) rfl #[.int .i64 a0, .int .i64 a1] rfl (by (try simp only [List.map_toArray, List.map_cons, List.map_nil]); first | done | rfl | (simp only [List.length_drop, List.length_take]; rfl)) ?_; (with_reducible refine (num_Mod.calls a0 a1 t155 t156 _ A10.out).mono ?_); rintro e w' ⟨rfl, ⟨nd, rfl⟩⟩; refine ⟨_, rfl, ?_⟩) | ((with_reducible refine gate_callee (f := 15) rfl ?_); refine goesL_ (some 69) rfl rfl Try.func15 (by kernel_rfl) rfl #[.int .i64 t153, .int .i64 a1] rfl (by (try simp only [List.map_toArray, List.map_cons, List.map_nil]); first | done | rfl | (simp only [List.length_drop, List.length_take]; rfl)) ?_; (with_reducible refine (num_Mul.calls kj3 t153 a1 t157 t158 _ A12.out).mono ?_); rintro e w' ⟨rfl, ⟨nd, rfl⟩⟩; refine ⟨_, rfl, ?_⟩) | ((with_reducible refine gate_callee (f := 11) rfl ?_); refine goesL_ (some 75) rfl rfl Try.func11 (by kernel_rfl) rfl #[.int .i64 t157, .int .i64 t155] rfl (by (try simp only [List.map_toArray, List.map_cons, List.map_nil]); first | done | rfl | (simp only [List.length_drop, List.length_take]; rfl)) ?_; (with_reducible refine (num_Add.calls t157 t155 t159 t160 _ A13.out).mono ?_); rintro e w' ⟨rfl, ⟨nd, rfl⟩⟩; refine ⟨_, rfl, ?_⟩) | (go_at_call 8; (with_reducible refine (haruspexlaw04_awake.calls  t163 _ A36.out).mono ?_); rintro e w' ⟨rfl, ⟨nd, rfl⟩⟩))
                                go_ret
                                exact ⟨by first | rfl | (simp; done) | (simp [*]; done), by repeat (first | exact Drawn0.refl _ | apply Drawn0.step)⟩
                              · rw [if_neg c35] at H
                                exact absurd H (by simp)
                            · rw [if_neg c34] at H
                              exact absurd H (by simp)
                          · rw [if_neg c33] at H
                            exact absurd H (by simp)
                        · rw [if_neg c32] at H
                          exact absurd H (by simp)
                      · rw [if_neg c31] at H
                        exact absurd H (by simp)
                    · rw [if_neg c30] at H
                      have c30b0 : decide (0 ≤ t155) = false := decide_eq_false c30
                      clear c30
                      by_cases c37 : t156 = 0
                      · rw [if_pos c37] at H
                        have c37b0 : (t156 == 0) = true := beq_iff_eq.mpr c37
                        have c37b1 : (t156 != 0) = false := bne_eq_false_iff_eq.mpr c37
                        clear c37
                        by_cases c38 : t158 = 0
                        · rw [if_pos c38] at H
                          have c38b0 : (t158 == 0) = true := beq_iff_eq.mpr c38
                          have c38b1 : (t158 != 0) = false := bne_eq_false_iff_eq.mpr c38
                          clear c38
                          by_cases c39 : t160 = 0
                          · rw [if_pos c39] at H
                            have c39b0 : (t160 == 0) = true := beq_iff_eq.mpr c39
                            have c39b1 : (t160 != 0) = false := bne_eq_false_iff_eq.mpr c39
                            clear c39
                            by_cases c40 : t159 = a0
                            · rw [if_pos c40] at H
                              exact absurd H (by simp)
                            · rw [if_neg c40] at H
                              exact absurd H (by simp)
                          · rw [if_neg c39] at H
                            exact absurd H (by simp)
                        · rw [if_neg c38] at H
                          exact absurd H (by simp)
                      · rw [if_neg c37] at H
                        exact absurd H (by simp)
                · rw [if_neg c23] at H
                  have c23b0 : decide (t155 < 0) = false := decide_eq_false c23
                  clear c23
                  by_cases c41 : t155 ≥ 0
                  · rw [if_pos c41] at H
                    have c41b0 : decide (0 ≤ t155) = true := decide_eq_true c41
                    clear c41
                    by_cases c42 : t156 = 0
                    · rw [if_pos c42] at H
                      have c42b0 : (t156 == 0) = true := beq_iff_eq.mpr c42
                      have c42b1 : (t156 != 0) = false := bne_eq_false_iff_eq.mpr c42
                      clear c42
                      by_cases c43 : t158 = 0
                      · rw [if_pos c43] at H
                        have c43b0 : (t158 == 0) = true := beq_iff_eq.mpr c43
                        have c43b1 : (t158 != 0) = false := bne_eq_false_iff_eq.mpr c43
                        clear c43
                        by_cases c44 : t160 = 0
                        · rw [if_pos c44] at H
                          have c44b0 : (t160 == 0) = true := beq_iff_eq.mpr c44
                          have c44b1 : (t160 != 0) = false := bne_eq_false_iff_eq.mpr c44
                          clear c44
                          by_cases c45 : t159 = a0
                          · rw [if_pos c45] at H
                            have c45b0 : (t159 == a0) = true := beq_iff_eq.mpr c45
                            have c45b1 : (t159 != a0) = false := bne_eq_false_iff_eq.mpr c45
                            clear c45
                            by_cases c46 : (wrap64 (-t155)) > a1
                            · rw [if_pos c46] at H
                              have c46b0 : decide (a1 < (wrap64 (-t155))) = true := decide_eq_true c46
                              clear c46
                              replace H := Option.bind_eq_some_iff.mp H
                              obtain ⟨t164, A470, H⟩ := H
                              replace H : (some t164) = some r := H
                              have A47 := Aside0.mk A470
                              clear A470
                              obtain rfl := Option.some.inj H
                              go_wp2_with (first | ((with_reducible refine gate_callee (f := 13) rfl ?_); refine goesL_ (some 42) rfl rfl Try.func13 (by kernel_rfl) rfl #[.int .i64 a0, .int .i64 a1] rfl (by (try simp only [List.map_toArray, List.map_cons, List.map_nil]); first | done | rfl | (simp only [List.length_drop, List.length_take]; rfl)) ?_; (with_reducible refine (num_Div.calls a0 a1 t153 t154 _ A9.out).mono ?_); rintro e w' ⟨rfl, ⟨nd, rfl⟩⟩; refine ⟨_, rfl, ?_⟩) | ((with_reducible refine gate_callee (f := 14) rfl ?_); refine goesL_ (some 48) rfl rfl Try.func14 (by kernel_rfl) rfl #[.int .i64 a0, .int .i64 a1] rfl (by (try simp only [List.map_toArray, List.map_cons, List.map_nil]); first | done | rfl | (simp only [List.length_drop, List.length_take]; rfl)) ?_; (with_reducible refine (num_Mod.calls a0 a1 t155 t156 _ A10.out).mono ?_); rintro e w' ⟨rfl, ⟨nd, rfl⟩⟩; refine ⟨_, rfl, ?_⟩) | ((with_reducible refine gate_callee (f := 15) rfl ?_); refine goesL_ (some 69) rfl rfl Try.func15 (by kernel_rfl) rfl #[.int .i64 t153, .int .i64 a1] rfl (by (try simp only [List.map_toArray, List.map_cons, List.map_nil]); first | done | rfl | (simp only [List.length_drop, List.length_take]; rfl)) ?_; (with_reducible refine (num_Mul.calls kj3 t153 a1 t157 t158 _ A12.out).mono ?_); rintro e w' ⟨rfl, ⟨nd, rfl⟩⟩; refine ⟨_, rfl, ?_⟩) | ((with_reducible refine gate_callee (f := 11) rfl ?_); refine goesL_ (some 75) rfl rfl Try.func11 (by kernel_rfl) rfl #[.int .i64 t157, .int .i64 t155] rfl (by (try simp only [List.map_toArray, List.map_cons, List.map_nil]); first | done | rfl | (simp only [List.length_drop, List.length_take]; rfl)) ?_; (with_reducible refine (num_Add.calls t157 t155 t159 t160 _ A13.out).mono ?_); rintro e w' ⟨rfl, ⟨nd, rfl⟩⟩; refine ⟨_, rfl, ?_⟩) | (go_at_call 8; (with_reducible refine (haruspexlaw04_awake.calls  t164 _ A47.out).mono ?_); rintro e w' ⟨rfl, ⟨nd, rfl⟩⟩))
                              go_ret
                              exact ⟨by first | rfl | (simp; done) | (simp [*]; done), by repeat (first | exact Drawn0.refl _ | apply Drawn0.step)⟩
                            · rw [if_neg c46] at H
                              exact absurd H (by simp)
                          · rw [if_neg c45] at H
                            exact absurd H (by simp)
                        · rw [if_neg c44] at H
                          exact absurd H (by simp)
                      · rw [if_neg c43] at H
                        exact absurd H (by simp)
                    · rw [if_neg c42] at H
                      exact absurd H (by simp)
                  · rw [if_neg c41] at H
                    have c41b0 : decide (0 ≤ t155) = false := decide_eq_false c41
                    clear c41
                    by_cases c48 : t156 = 0
                    · rw [if_pos c48] at H
                      have c48b0 : (t156 == 0) = true := beq_iff_eq.mpr c48
                      have c48b1 : (t156 != 0) = false := bne_eq_false_iff_eq.mpr c48
                      clear c48
                      by_cases c49 : t158 = 0
                      · rw [if_pos c49] at H
                        have c49b0 : (t158 == 0) = true := beq_iff_eq.mpr c49
                        have c49b1 : (t158 != 0) = false := bne_eq_false_iff_eq.mpr c49
                        clear c49
                        by_cases c50 : t160 = 0
                        · rw [if_pos c50] at H
                          have c50b0 : (t160 == 0) = true := beq_iff_eq.mpr c50
                          have c50b1 : (t160 != 0) = false := bne_eq_false_iff_eq.mpr c50
                          clear c50
                          by_cases c51 : t159 = a0
                          · rw [if_pos c51] at H
                            exact absurd H (by simp)
                          · rw [if_neg c51] at H
                            exact absurd H (by simp)
                        · rw [if_neg c50] at H
                          exact absurd H (by simp)
                      · rw [if_neg c49] at H
                        exact absurd H (by simp)
                    · rw [if_neg c48] at H
                      exact absurd H (by simp)
              · rw [if_neg c22] at H
                have c22b0 : decide (a1 < 0) = false := decide_eq_false c22
                clear c22
                by_cases c52 : t156 = 0
                · rw [if_pos c52] at H
                  have c52b0 : (t156 == 0) = true := beq_iff_eq.mpr c52
                  have c52b1 : (t156 != 0) = false := bne_eq_false_iff_eq.mpr c52
                  clear c52
                  by_cases c53 : t158 = 0
                  · rw [if_pos c53] at H
                    have c53b0 : (t158 == 0) = true := beq_iff_eq.mpr c53
                    have c53b1 : (t158 != 0) = false := bne_eq_false_iff_eq.mpr c53
                    clear c53
                    by_cases c54 : t160 = 0
                    · rw [if_pos c54] at H
                      have c54b0 : (t160 == 0) = true := beq_iff_eq.mpr c54
                      have c54b1 : (t160 != 0) = false := bne_eq_false_iff_eq.mpr c54
                      clear c54
                      by_cases c55 : t159 = a0
                      · rw [if_pos c55] at H
                        exact absurd H (by simp)
                      · rw [if_neg c55] at H
                        exact absurd H (by simp)
                    · rw [if_neg c54] at H
                      exact absurd H (by simp)
                  · rw [if_neg c53] at H
                    exact absurd H (by simp)
                · rw [if_neg c52] at H
                  exact absurd H (by simp)
          · rw [if_neg c15] at H
            have c15b0 : decide (t155 < a1) = false := decide_eq_false c15
            clear c15
            by_cases c56 : a1 < 0
            · rw [if_pos c56] at H
              have c56b0 : decide (a1 < 0) = true := decide_eq_true c56
              clear c56
              by_cases c57 : t155 < 0
              · rw [if_pos c57] at H
                have c57b0 : decide (t155 < 0) = true := decide_eq_true c57
                clear c57
                by_cases c58 : t155 > a1
                · rw [if_pos c58] at H
                  have c58b0 : decide (a1 < t155) = true := decide_eq_true c58
                  clear c58
                  by_cases c59 : t156 = 0
                  · rw [if_pos c59] at H
                    have c59b0 : (t156 == 0) = true := beq_iff_eq.mpr c59
                    have c59b1 : (t156 != 0) = false := bne_eq_false_iff_eq.mpr c59
                    clear c59
                    by_cases c60 : t158 = 0
                    · rw [if_pos c60] at H
                      have c60b0 : (t158 == 0) = true := beq_iff_eq.mpr c60
                      have c60b1 : (t158 != 0) = false := bne_eq_false_iff_eq.mpr c60
                      clear c60
                      by_cases c61 : t160 = 0
                      · rw [if_pos c61] at H
                        have c61b0 : (t160 == 0) = true := beq_iff_eq.mpr c61
                        have c61b1 : (t160 != 0) = false := bne_eq_false_iff_eq.mpr c61
                        clear c61
                        by_cases c62 : t159 = a0
                        · rw [if_pos c62] at H
                          have c62b0 : (t159 == a0) = true := beq_iff_eq.mpr c62
                          have c62b1 : (t159 != a0) = false := bne_eq_false_iff_eq.mpr c62
                          clear c62
                          replace H := Option.bind_eq_some_iff.mp H
                          obtain ⟨t165, A630, H⟩ := H
                          replace H : (some t165) = some r := H
                          have A63 := Aside0.mk A630
                          clear A630
                          obtain rfl := Option.some.inj H
                          go_wp2_with (first | ((with_reducible refine gate_callee (f := 13) rfl ?_); refine goesL_ (some 42) rfl rfl Try.func13 (by kernel_rfl) rfl #[.int .i64 a0, .int .i64 a1] rfl (by (try simp only [List.map_toArray, List.map_cons, List.map_nil]); first | done | rfl | (simp only [List.length_drop, List.length_take]; rfl)) ?_; (with_reducible refine (num_Div.calls a0 a1 t153 t154 _ A9.out).mono ?_); rintro e w' ⟨rfl, ⟨nd, rfl⟩⟩; refine ⟨_, rfl, ?_⟩) | ((with_reducible refine gate_callee (f := 14) rfl ?_); refine goesL_ (some 48) rfl rfl Try.func14 (by kernel_rfl) rfl #[.int .i64 a0, .int .i64 a1] rfl (by (try simp only [List.map_toArray, List.map_cons, List.map_nil]); first | done | rfl | (simp only [List.length_drop, List.length_take]; rfl)) ?_; (with_reducible refine (num_Mod.calls a0 a1 t155 t156 _ A10.out).mono ?_); rintro e w' ⟨rfl, ⟨nd, rfl⟩⟩; refine ⟨_, rfl, ?_⟩) | ((with_reducible refine gate_callee (f := 15) rfl ?_); refine goesL_ (some 69) rfl rfl Try.func15 (by kernel_rfl) rfl #[.int .i64 t153, .int .i64 a1] rfl (by (try simp only [List.map_toArray, List.map_cons, List.map_nil]); first | done | rfl | (simp only [List.length_drop, List.length_take]; rfl)) ?_; (with_reducible refine (num_Mul.calls kj3 t153 a1 t157 t158 _ A12.out).mono ?_); rintro e w' ⟨rfl, ⟨nd, rfl⟩⟩; refine ⟨_, rfl, ?_⟩) | ((with_reducible refine gate_callee (f := 11) rfl ?_); refine goesL_ (some 75) rfl rfl Try.func11 (by kernel_rfl) rfl #[.int .i64 t157, .int .i64 t155] rfl (by (try simp only [List.map_toArray, List.map_cons, List.map_nil]); first | done | rfl | (simp only [List.length_drop, List.length_take]; rfl)) ?_; (with_reducible refine (num_Add.calls t157 t155 t159 t160 _ A13.out).mono ?_); rintro e w' ⟨rfl, ⟨nd, rfl⟩⟩; refine ⟨_, rfl, ?_⟩) | (go_at_call 8; (with_reducible refine (haruspexlaw04_awake.calls  t165 _ A63.out).mono ?_); rintro e w' ⟨rfl, ⟨nd, rfl⟩⟩))
                          go_ret
                          exact ⟨by first | rfl | (simp; done) | (simp [*]; done), by repeat (first | exact Drawn0.refl _ | apply Drawn0.step)⟩
                        · rw [if_neg c62] at H
                          exact absurd H (by simp)
                      · rw [if_neg c61] at H
                        exact absurd H (by simp)
                    · rw [if_neg c60] at H
                      exact absurd H (by simp)
                  · rw [if_neg c59] at H
                    exact absurd H (by simp)
                · rw [if_neg c58] at H
                  have c58b0 : decide (a1 < t155) = false := decide_eq_false c58
                  clear c58
                  by_cases c64 : t155 ≥ 0
                  · rw [if_pos c64] at H
                    have c64b0 : decide (0 ≤ t155) = true := decide_eq_true c64
                    clear c64
                    by_cases c65 : t156 = 0
                    · rw [if_pos c65] at H
                      have c65b0 : (t156 == 0) = true := beq_iff_eq.mpr c65
                      have c65b1 : (t156 != 0) = false := bne_eq_false_iff_eq.mpr c65
                      clear c65
                      by_cases c66 : t158 = 0
                      · rw [if_pos c66] at H
                        have c66b0 : (t158 == 0) = true := beq_iff_eq.mpr c66
                        have c66b1 : (t158 != 0) = false := bne_eq_false_iff_eq.mpr c66
                        clear c66
                        by_cases c67 : t160 = 0
                        · rw [if_pos c67] at H
                          have c67b0 : (t160 == 0) = true := beq_iff_eq.mpr c67
                          have c67b1 : (t160 != 0) = false := bne_eq_false_iff_eq.mpr c67
                          clear c67
                          by_cases c68 : t159 = a0
                          · rw [if_pos c68] at H
                            have c68b0 : (t159 == a0) = true := beq_iff_eq.mpr c68
                            have c68b1 : (t159 != a0) = false := bne_eq_false_iff_eq.mpr c68
                            clear c68
                            by_cases c69 : (wrap64 (-t155)) > a1
                            · rw [if_pos c69] at H
                              have c69b0 : decide (a1 < (wrap64 (-t155))) = true := decide_eq_true c69
                              clear c69
                              replace H := Option.bind_eq_some_iff.mp H
                              obtain ⟨t166, A700, H⟩ := H
                              replace H : (some t166) = some r := H
                              have A70 := Aside0.mk A700
                              clear A700
                              obtain rfl := Option.some.inj H
                              go_wp2_with (first | ((with_reducible refine gate_callee (f := 13) rfl ?_); refine goesL_ (some 42) rfl rfl Try.func13 (by kernel_rfl) rfl #[.int .i64 a0, .int .i64 a1] rfl (by (try simp only [List.map_toArray, List.map_cons, List.map_nil]); first | done | rfl | (simp only [List.length_drop, List.length_take]; rfl)) ?_; (with_reducible refine (num_Div.calls a0 a1 t153 t154 _ A9.out).mono ?_); rintro e w' ⟨rfl, ⟨nd, rfl⟩⟩; refine ⟨_, rfl, ?_⟩) | ((with_reducible refine gate_callee (f := 14) rfl ?_); refine goesL_ (some 48) rfl rfl Try.func14 (by kernel_rfl) rfl #[.int .i64 a0, .int .i64 a1] rfl (by (try simp only [List.map_toArray, List.map_cons, List.map_nil]); first | done | rfl | (simp only [List.length_drop, List.length_take]; rfl)) ?_; (with_reducible refine (num_Mod.calls a0 a1 t155 t156 _ A10.out).mono ?_); rintro e w' ⟨rfl, ⟨nd, rfl⟩⟩; refine ⟨_, rfl, ?_⟩) | ((with_reducible refine gate_callee (f := 15) rfl ?_); refine goesL_ (some 69) rfl rfl Try.func15 (by kernel_rfl) rfl #[.int .i64 t153, .int .i64 a1] rfl (by (try simp only [List.map_toArray, List.map_cons, List.map_nil]); first | done | rfl | (simp only [List.length_drop, List.length_take]; rfl)) ?_; (with_reducible refine (num_Mul.calls kj3 t153 a1 t157 t158 _ A12.out).mono ?_); rintro e w' ⟨rfl, ⟨nd, rfl⟩⟩; refine ⟨_, rfl, ?_⟩) | ((with_reducible refine gate_callee (f := 11) rfl ?_); refine goesL_ (some 75) rfl rfl Try.func11 (by kernel_rfl) rfl #[.int .i64 t157, .int .i64 t155] rfl (by (try simp only [List.map_toArray, List.map_cons, List.map_nil]); first | done | rfl | (simp only [List.length_drop, List.length_take]; rfl)) ?_; (with_reducible refine (num_Add.calls t157 t155 t159 t160 _ A13.out).mono ?_); rintro e w' ⟨rfl, ⟨nd, rfl⟩⟩; refine ⟨_, rfl, ?_⟩) | (go_at_call 8; (with_reducible refine (haruspexlaw04_awake.calls  t166 _ A70.out).mono ?_); rintro e w' ⟨rfl, ⟨nd, rfl⟩⟩))
                              go_ret
                              exact ⟨by first | rfl | (simp; done) | (simp [*]; done), by repeat (first | exact Drawn0.refl _ | apply Drawn0.step)⟩
                            · rw [if_neg c69] at H
                              exact absurd H (by simp)
                          · rw [if_neg c68] at H
                            exact absurd H (by simp)
                        · rw [if_neg c67] at H
                          exact absurd H (by simp)
                      · rw [if_neg c66] at H
                        exact absurd H (by simp)
                    · rw [if_neg c65] at H
                      exact absurd H (by simp)
                  · rw [if_neg c64] at H
                    have c64b0 : decide (0 ≤ t155) = false := decide_eq_false c64
                    clear c64
                    by_cases c71 : t156 = 0
                    · rw [if_pos c71] at H
                      have c71b0 : (t156 == 0) = true := beq_iff_eq.mpr c71
                      have c71b1 : (t156 != 0) = false := bne_eq_false_iff_eq.mpr c71
                      clear c71
                      by_cases c72 : t158 = 0
                      · rw [if_pos c72] at H
                        have c72b0 : (t158 == 0) = true := beq_iff_eq.mpr c72
                        have c72b1 : (t158 != 0) = false := bne_eq_false_iff_eq.mpr c72
                        clear c72
                        by_cases c73 : t160 = 0
                        · rw [if_pos c73] at H
                          have c73b0 : (t160 == 0) = true := beq_iff_eq.mpr c73
                          have c73b1 : (t160 != 0) = false := bne_eq_false_iff_eq.mpr c73
                          clear c73
                          by_cases c74 : t159 = a0
                          · rw [if_pos c74] at H
                            exact absurd H (by simp)
                          · rw [if_neg c74] at H
                            exact absurd H (by simp)
                        · rw [if_neg c73] at H
                          exact absurd H (by simp)
                      · rw [if_neg c72] at H
                        exact absurd H (by simp)
                    · rw [if_neg c71] at H
                      exact absurd H (by simp)
              · rw [if_neg c57] at H
                have c57b0 : decide (t155 < 0) = false := decide_eq_false c57
                clear c57
                by_cases c75 : t155 ≥ 0
                · rw [if_pos c75] at H
                  have c75b0 : decide (0 ≤ t155) = true := decide_eq_true c75
                  clear c75
                  by_cases c76 : t156 = 0
                  · rw [if_pos c76] at H
                    have c76b0 : (t156 == 0) = true := beq_iff_eq.mpr c76
                    have c76b1 : (t156 != 0) = false := bne_eq_false_iff_eq.mpr c76
                    clear c76
                    by_cases c77 : t158 = 0
                    · rw [if_pos c77] at H
                      have c77b0 : (t158 == 0) = true := beq_iff_eq.mpr c77
                      have c77b1 : (t158 != 0) = false := bne_eq_false_iff_eq.mpr c77
                      clear c77
                      by_cases c78 : t160 = 0
                      · rw [if_pos c78] at H
                        have c78b0 : (t160 == 0) = true := beq_iff_eq.mpr c78
                        have c78b1 : (t160 != 0) = false := bne_eq_false_iff_eq.mpr c78
                        clear c78
                        by_cases c79 : t159 = a0
                        · rw [if_pos c79] at H
                          have c79b0 : (t159 == a0) = true := beq_iff_eq.mpr c79
                          have c79b1 : (t159 != a0) = false := bne_eq_false_iff_eq.mpr c79
                          clear c79
                          by_cases c80 : (wrap64 (-t155)) > a1
                          · rw [if_pos c80] at H
                            have c80b0 : decide (a1 < (wrap64 (-t155))) = true := decide_eq_true c80
                            clear c80
                            replace H := Option.bind_eq_some_iff.mp H
                            obtain ⟨t167, A810, H⟩ := H
                            replace H : (some t167) = some r := H
                            have A81 := Aside0.mk A810
                            clear A810
                            obtain rfl := Option.some.inj H
                            go_wp2_with (first | ((with_reducible refine gate_callee (f := 13) rfl ?_); refine goesL_ (some 42) rfl rfl Try.func13 (by kernel_rfl) rfl #[.int .i64 a0, .int .i64 a1] rfl (by (try simp only [List.map_toArray, List.map_cons, List.map_nil]); first | done | rfl | (simp only [List.length_drop, List.length_take]; rfl)) ?_; (with_reducible refine (num_Div.calls a0 a1 t153 t154 _ A9.out).mono ?_); rintro e w' ⟨rfl, ⟨nd, rfl⟩⟩; refine ⟨_, rfl, ?_⟩) | ((with_reducible refine gate_callee (f := 14) rfl ?_); refine goesL_ (some 48) rfl rfl Try.func14 (by kernel_rfl) rfl #[.int .i64 a0, .int .i64 a1] rfl (by (try simp only [List.map_toArray, List.map_cons, List.map_nil]); first | done | rfl | (simp only [List.length_drop, List.length_take]; rfl)) ?_; (with_reducible refine (num_Mod.calls a0 a1 t155 t156 _ A10.out).mono ?_); rintro e w' ⟨rfl, ⟨nd, rfl⟩⟩; refine ⟨_, rfl, ?_⟩) | ((with_reducible refine gate_callee (f := 15) rfl ?_); refine goesL_ (some 69) rfl rfl Try.func15 (by kernel_rfl) rfl #[.int .i64 t153, .int .i64 a1] rfl (by (try simp only [List.map_toArray, List.map_cons, List.map_nil]); first | done | rfl | (simp only [List.length_drop, List.length_take]; rfl)) ?_; (with_reducible refine (num_Mul.calls kj3 t153 a1 t157 t158 _ A12.out).mono ?_); rintro e w' ⟨rfl, ⟨nd, rfl⟩⟩; refine ⟨_, rfl, ?_⟩) | ((with_reducible refine gate_callee (f := 11) rfl ?_); refine goesL_ (some 75) rfl rfl Try.func11 (by kernel_rfl) rfl #[.int .i64 t157, .int .i64 t155] rfl (by (try simp only [List.map_toArray, List.map_cons, List.map_nil]); first | done | rfl | (simp only [List.length_drop, List.length_take]; rfl)) ?_; (with_reducible refine (num_Add.calls t157 t155 t159 t160 _ A13.out).mono ?_); rintro e w' ⟨rfl, ⟨nd, rfl⟩⟩; refine ⟨_, rfl, ?_⟩) | (go_at_call 8; (with_reducible refine (haruspexlaw04_awake.calls  t167 _ A81.out).mono ?_); rintro e w' ⟨rfl, ⟨nd, rfl⟩⟩))
                            go_ret
                            exact ⟨by first | rfl | (simp; done) | (simp [*]; done), by repeat (first | exact Drawn0.refl _ | apply Drawn0.step)⟩
                          · rw [if_neg c80] at H
                            exact absurd H (by simp)
                        · rw [if_neg c79] at H
                          exact absurd H (by simp)
                      · rw [if_neg c78] at H
                        exact absurd H (by simp)
                    · rw [if_neg c77] at H
                      exact absurd H (by simp)
                  · rw [if_neg c76] at H
                    exact absurd H (by simp)
                · rw [if_neg c75] at H
                  have c75b0 : decide (0 ≤ t155) = false := decide_eq_false c75
                  clear c75
                  by_cases c82 : t156 = 0
                  · rw [if_pos c82] at H
                    have c82b0 : (t156 == 0) = true := beq_iff_eq.mpr c82
                    have c82b1 : (t156 != 0) = false := bne_eq_false_iff_eq.mpr c82
                    clear c82
                    by_cases c83 : t158 = 0
                    · rw [if_pos c83] at H
                      have c83b0 : (t158 == 0) = true := beq_iff_eq.mpr c83
                      have c83b1 : (t158 != 0) = false := bne_eq_false_iff_eq.mpr c83
                      clear c83
                      by_cases c84 : t160 = 0
                      · rw [if_pos c84] at H
                        have c84b0 : (t160 == 0) = true := beq_iff_eq.mpr c84
                        have c84b1 : (t160 != 0) = false := bne_eq_false_iff_eq.mpr c84
                        clear c84
                        by_cases c85 : t159 = a0
                        · rw [if_pos c85] at H
                          exact absurd H (by simp)
                        · rw [if_neg c85] at H
                          exact absurd H (by simp)
                      · rw [if_neg c84] at H
                        exact absurd H (by simp)
                    · rw [if_neg c83] at H
                      exact absurd H (by simp)
                  · rw [if_neg c82] at H
                    exact absurd H (by simp)
            · rw [if_neg c56] at H
              have c56b0 : decide (a1 < 0) = false := decide_eq_false c56
              clear c56
              by_cases c86 : t156 = 0
              · rw [if_pos c86] at H
                have c86b0 : (t156 == 0) = true := beq_iff_eq.mpr c86
                have c86b1 : (t156 != 0) = false := bne_eq_false_iff_eq.mpr c86
                clear c86
                by_cases c87 : t158 = 0
                · rw [if_pos c87] at H
                  have c87b0 : (t158 == 0) = true := beq_iff_eq.mpr c87
                  have c87b1 : (t158 != 0) = false := bne_eq_false_iff_eq.mpr c87
                  clear c87
                  by_cases c88 : t160 = 0
                  · rw [if_pos c88] at H
                    have c88b0 : (t160 == 0) = true := beq_iff_eq.mpr c88
                    have c88b1 : (t160 != 0) = false := bne_eq_false_iff_eq.mpr c88
                    clear c88
                    by_cases c89 : t159 = a0
                    · rw [if_pos c89] at H
                      exact absurd H (by simp)
                    · rw [if_neg c89] at H
                      exact absurd H (by simp)
                  · rw [if_neg c88] at H
                    exact absurd H (by simp)
                · rw [if_neg c87] at H
                  exact absurd H (by simp)
              · rw [if_neg c86] at H
                exact absurd H (by simp)
        · rw [if_neg c14] at H
          have c14b0 : decide (0 < a1) = false := decide_eq_false c14
          clear c14
          by_cases c90 : a1 < 0
          · rw [if_pos c90] at H
            have c90b0 : decide (a1 < 0) = true := decide_eq_true c90
            clear c90
            by_cases c91 : t155 < 0
            · rw [if_pos c91] at H
              have c91b0 : decide (t155 < 0) = true := decide_eq_true c91
              clear c91
              by_cases c92 : t155 > a1
              · rw [if_pos c92] at H
                have c92b0 : decide (a1 < t155) = true := decide_eq_true c92
                clear c92
                by_cases c93 : t156 = 0
                · rw [if_pos c93] at H
                  have c93b0 : (t156 == 0) = true := beq_iff_eq.mpr c93
                  have c93b1 : (t156 != 0) = false := bne_eq_false_iff_eq.mpr c93
                  clear c93
                  by_cases c94 : t158 = 0
                  · rw [if_pos c94] at H
                    have c94b0 : (t158 == 0) = true := beq_iff_eq.mpr c94
                    have c94b1 : (t158 != 0) = false := bne_eq_false_iff_eq.mpr c94
                    clear c94
                    by_cases c95 : t160 = 0
                    · rw [if_pos c95] at H
                      have c95b0 : (t160 == 0) = true := beq_iff_eq.mpr c95
                      have c95b1 : (t160 != 0) = false := bne_eq_false_iff_eq.mpr c95
                      clear c95
                      by_cases c96 : t159 = a0
                      · rw [if_pos c96] at H
                        have c96b0 : (t159 == a0) = true := beq_iff_eq.mpr c96
                        have c96b1 : (t159 != a0) = false := bne_eq_false_iff_eq.mpr c96
                        clear c96
                        replace H := Option.bind_eq_some_iff.mp H
                        obtain ⟨t168, A970, H⟩ := H
                        replace H : (some t168) = some r := H
                        have A97 := Aside0.mk A970
                        clear A970
                        obtain rfl := Option.some.inj H
                        go_wp2_with (first | ((with_reducible refine gate_callee (f := 13) rfl ?_); refine goesL_ (some 42) rfl rfl Try.func13 (by kernel_rfl) rfl #[.int .i64 a0, .int .i64 a1] rfl (by (try simp only [List.map_toArray, List.map_cons, List.map_nil]); first | done | rfl | (simp only [List.length_drop, List.length_take]; rfl)) ?_; (with_reducible refine (num_Div.calls a0 a1 t153 t154 _ A9.out).mono ?_); rintro e w' ⟨rfl, ⟨nd, rfl⟩⟩; refine ⟨_, rfl, ?_⟩) | ((with_reducible refine gate_callee (f := 14) rfl ?_); refine goesL_ (some 48) rfl rfl Try.func14 (by kernel_rfl) rfl #[.int .i64 a0, .int .i64 a1] rfl (by (try simp only [List.map_toArray, List.map_cons, List.map_nil]); first | done | rfl | (simp only [List.length_drop, List.length_take]; rfl)) ?_; (with_reducible refine (num_Mod.calls a0 a1 t155 t156 _ A10.out).mono ?_); rintro e w' ⟨rfl, ⟨nd, rfl⟩⟩; refine ⟨_, rfl, ?_⟩) | ((with_reducible refine gate_callee (f := 15) rfl ?_); refine goesL_ (some 69) rfl rfl Try.func15 (by kernel_rfl) rfl #[.int .i64 t153, .int .i64 a1] rfl (by (try simp only [List.map_toArray, List.map_cons, List.map_nil]); first | done | rfl | (simp only [List.length_drop, List.length_take]; rfl)) ?_; (with_reducible refine (num_Mul.calls kj3 t153 a1 t157 t158 _ A12.out).mono ?_); rintro e w' ⟨rfl, ⟨nd, rfl⟩⟩; refine ⟨_, rfl, ?_⟩) | ((with_reducible refine gate_callee (f := 11) rfl ?_); refine goesL_ (some 75) rfl rfl Try.func11 (by kernel_rfl) rfl #[.int .i64 t157, .int .i64 t155] rfl (by (try simp only [List.map_toArray, List.map_cons, List.map_nil]); first | done | rfl | (simp only [List.length_drop, List.length_take]; rfl)) ?_; (with_reducible refine (num_Add.calls t157 t155 t159 t160 _ A13.out).mono ?_); rintro e w' ⟨rfl, ⟨nd, rfl⟩⟩; refine ⟨_, rfl, ?_⟩) | (go_at_call 8; (with_reducible refine (haruspexlaw04_awake.calls  t168 _ A97.out).mono ?_); rintro e w' ⟨rfl, ⟨nd, rfl⟩⟩))
                        go_ret
                        exact ⟨by first | rfl | (simp; done) | (simp [*]; done), by repeat (first | exact Drawn0.refl _ | apply Drawn0.step)⟩
                      · rw [if_neg c96] at H
                        exact absurd H (by simp)
                    · rw [if_neg c95] at H
                      exact absurd H (by simp)
                  · rw [if_neg c94] at H
                    exact absurd H (by simp)
                · rw [if_neg c93] at H
                  exact absurd H (by simp)
              · rw [if_neg c92] at H
                have c92b0 : decide (a1 < t155) = false := decide_eq_false c92
                clear c92
                by_cases c98 : t155 ≥ 0
                · rw [if_pos c98] at H
                  have c98b0 : decide (0 ≤ t155) = true := decide_eq_true c98
                  clear c98
                  by_cases c99 : t156 = 0
                  · rw [if_pos c99] at H
                    have c99b0 : (t156 == 0) = true := beq_iff_eq.mpr c99
                    have c99b1 : (t156 != 0) = false := bne_eq_false_iff_eq.mpr c99
                    clear c99
                    by_cases c100 : t158 = 0
                    · rw [if_pos c100] at H
                      have c100b0 : (t158 == 0) = true := beq_iff_eq.mpr c100
                      have c100b1 : (t158 != 0) = false := bne_eq_false_iff_eq.mpr c100
                      clear c100
                      by_cases c101 : t160 = 0
                      · rw [if_pos c101] at H
                        have c101b0 : (t160 == 0) = true := beq_iff_eq.mpr c101
                        have c101b1 : (t160 != 0) = false := bne_eq_false_iff_eq.mpr c101
                        clear c101
                        by_cases c102 : t159 = a0
                        · rw [if_pos c102] at H
                          have c102b0 : (t159 == a0) = true := beq_iff_eq.mpr c102
                          have c102b1 : (t159 != a0) = false := bne_eq_false_iff_eq.mpr c102
                          clear c102
                          by_cases c103 : (wrap64 (-t155)) > a1
                          · rw [if_pos c103] at H
                            have c103b0 : decide (a1 < (wrap64 (-t155))) = true := decide_eq_true c103
                            clear c103
                            replace H := Option.bind_eq_some_iff.mp H
                            obtain ⟨t169, A1040, H⟩ := H
                            replace H : (some t169) = some r := H
                            have A104 := Aside0.mk A1040
                            clear A1040
                            obtain rfl := Option.some.inj H
                            go_wp2_with (first | ((with_reducible refine gate_callee (f := 13) rfl ?_); refine goesL_ (some 42) rfl rfl Try.func13 (by kernel_rfl) rfl #[.int .i64 a0, .int .i64 a1] rfl (by (try simp only [List.map_toArray, List.map_cons, List.map_nil]); first | done | rfl | (simp only [List.length_drop, List.length_take]; rfl)) ?_; (with_reducible refine (num_Div.calls a0 a1 t153 t154 _ A9.out).mono ?_); rintro e w' ⟨rfl, ⟨nd, rfl⟩⟩; refine ⟨_, rfl, ?_⟩) | ((with_reducible refine gate_callee (f := 14) rfl ?_); refine goesL_ (some 48) rfl rfl Try.func14 (by kernel_rfl) rfl #[.int .i64 a0, .int .i64 a1] rfl (by (try simp only [List.map_toArray, List.map_cons, List.map_nil]); first | done | rfl | (simp only [List.length_drop, List.length_take]; rfl)) ?_; (with_reducible refine (num_Mod.calls a0 a1 t155 t156 _ A10.out).mono ?_); rintro e w' ⟨rfl, ⟨nd, rfl⟩⟩; refine ⟨_, rfl, ?_⟩) | ((with_reducible refine gate_callee (f := 15) rfl ?_); refine goesL_ (some 69) rfl rfl Try.func15 (by kernel_rfl) rfl #[.int .i64 t153, .int .i64 a1] rfl (by (try simp only [List.map_toArray, List.map_cons, List.map_nil]); first | done | rfl | (simp only [List.length_drop, List.length_take]; rfl)) ?_; (with_reducible refine (num_Mul.calls kj3 t153 a1 t157 t158 _ A12.out).mono ?_); rintro e w' ⟨rfl, ⟨nd, rfl⟩⟩; refine ⟨_, rfl, ?_⟩) | ((with_reducible refine gate_callee (f := 11) rfl ?_); refine goesL_ (some 75) rfl rfl Try.func11 (by kernel_rfl) rfl #[.int .i64 t157, .int .i64 t155] rfl (by (try simp only [List.map_toArray, List.map_cons, List.map_nil]); first | done | rfl | (simp only [List.length_drop, List.length_take]; rfl)) ?_; (with_reducible refine (num_Add.calls t157 t155 t159 t160 _ A13.out).mono ?_); rintro e w' ⟨rfl, ⟨nd, rfl⟩⟩; refine ⟨_, rfl, ?_⟩) | (go_at_call 8; (with_reducible refine (haruspexlaw04_awake.calls  t169 _ A104.out).mono ?_); rintro e w' ⟨rfl, ⟨nd, rfl⟩⟩))
                            go_ret
                            exact ⟨by first | rfl | (simp; done) | (simp [*]; done), by repeat (first | exact Drawn0.refl _ | apply Drawn0.step)⟩
                          · rw [if_neg c103] at H
                            exact absurd H (by simp)
                        · rw [if_neg c102] at H
                          exact absurd H (by simp)
                      · rw [if_neg c101] at H
                        exact absurd H (by simp)
                    · rw [if_neg c100] at H
                      exact absurd H (by simp)
                  · rw [if_neg c99] at H
                    exact absurd H (by simp)
                · rw [if_neg c98] at H
                  have c98b0 : decide (0 ≤ t155) = false := decide_eq_false c98
                  clear c98
                  by_cases c105 : t156 = 0
                  · rw [if_pos c105] at H
                    have c105b0 : (t156 == 0) = true := beq_iff_eq.mpr c105
                    have c105b1 : (t156 != 0) = false := bne_eq_false_iff_eq.mpr c105
                    clear c105
                    by_cases c106 : t158 = 0
                    · rw [if_pos c106] at H
                      have c106b0 : (t158 == 0) = true := beq_iff_eq.mpr c106
                      have c106b1 : (t158 != 0) = false := bne_eq_false_iff_eq.mpr c106
                      clear c106
                      by_cases c107 : t160 = 0
                      · rw [if_pos c107] at H
                        have c107b0 : (t160 == 0) = true := beq_iff_eq.mpr c107
                        have c107b1 : (t160 != 0) = false := bne_eq_false_iff_eq.mpr c107
                        clear c107
                        by_cases c108 : t159 = a0
                        · rw [if_pos c108] at H
                          exact absurd H (by simp)
                        · rw [if_neg c108] at H
                          exact absurd H (by simp)
                      · rw [if_neg c107] at H
                        exact absurd H (by simp)
                    · rw [if_neg c106] at H
                      exact absurd H (by simp)
                  · rw [if_neg c105] at H
                    exact absurd H (by simp)
            · rw [if_neg c91] at H
              have c91b0 : decide (t155 < 0) = false := decide_eq_false c91
              clear c91
              by_cases c109 : t155 ≥ 0
              · rw [if_pos c109] at H
                have c109b0 : decide (0 ≤ t155) = true := decide_eq_true c109
                clear c109
                by_cases c110 : t156 = 0
                · rw [if_pos c110] at H
                  have c110b0 : (t156 == 0) = true := beq_iff_eq.mpr c110
                  have c110b1 : (t156 != 0) = false := bne_eq_false_iff_eq.mpr c110
                  clear c110
                  by_cases c111 : t158 = 0
                  · rw [if_pos c111] at H
                    have c111b0 : (t158 == 0) = true := beq_iff_eq.mpr c111
                    have c111b1 : (t158 != 0) = false := bne_eq_false_iff_eq.mpr c111
                    clear c111
                    by_cases c112 : t160 = 0
                    · rw [if_pos c112] at H
                      have c112b0 : (t160 == 0) = true := beq_iff_eq.mpr c112
                      have c112b1 : (t160 != 0) = false := bne_eq_false_iff_eq.mpr c112
                      clear c112
                      by_cases c113 : t159 = a0
                      · rw [if_pos c113] at H
                        have c113b0 : (t159 == a0) = true := beq_iff_eq.mpr c113
                        have c113b1 : (t159 != a0) = false := bne_eq_false_iff_eq.mpr c113
                        clear c113
                        by_cases c114 : (wrap64 (-t155)) > a1
                        · rw [if_pos c114] at H
                          have c114b0 : decide (a1 < (wrap64 (-t155))) = true := decide_eq_true c114
                          clear c114
                          replace H := Option.bind_eq_some_iff.mp H
                          obtain ⟨t170, A1150, H⟩ := H
                          replace H : (some t170) = some r := H
                          have A115 := Aside0.mk A1150
                          clear A1150
                          obtain rfl := Option.some.inj H
                          go_wp2_with (first | ((with_reducible refine gate_callee (f := 13) rfl ?_); refine goesL_ (some 42) rfl rfl Try.func13 (by kernel_rfl) rfl #[.int .i64 a0, .int .i64 a1] rfl (by (try simp only [List.map_toArray, List.map_cons, List.map_nil]); first | done | rfl | (simp only [List.length_drop, List.length_take]; rfl)) ?_; (with_reducible refine (num_Div.calls a0 a1 t153 t154 _ A9.out).mono ?_); rintro e w' ⟨rfl, ⟨nd, rfl⟩⟩; refine ⟨_, rfl, ?_⟩) | ((with_reducible refine gate_callee (f := 14) rfl ?_); refine goesL_ (some 48) rfl rfl Try.func14 (by kernel_rfl) rfl #[.int .i64 a0, .int .i64 a1] rfl (by (try simp only [List.map_toArray, List.map_cons, List.map_nil]); first | done | rfl | (simp only [List.length_drop, List.length_take]; rfl)) ?_; (with_reducible refine (num_Mod.calls a0 a1 t155 t156 _ A10.out).mono ?_); rintro e w' ⟨rfl, ⟨nd, rfl⟩⟩; refine ⟨_, rfl, ?_⟩) | ((with_reducible refine gate_callee (f := 15) rfl ?_); refine goesL_ (some 69) rfl rfl Try.func15 (by kernel_rfl) rfl #[.int .i64 t153, .int .i64 a1] rfl (by (try simp only [List.map_toArray, List.map_cons, List.map_nil]); first | done | rfl | (simp only [List.length_drop, List.length_take]; rfl)) ?_; (with_reducible refine (num_Mul.calls kj3 t153 a1 t157 t158 _ A12.out).mono ?_); rintro e w' ⟨rfl, ⟨nd, rfl⟩⟩; refine ⟨_, rfl, ?_⟩) | ((with_reducible refine gate_callee (f := 11) rfl ?_); refine goesL_ (some 75) rfl rfl Try.func11 (by kernel_rfl) rfl #[.int .i64 t157, .int .i64 t155] rfl (by (try simp only [List.map_toArray, List.map_cons, List.map_nil]); first | done | rfl | (simp only [List.length_drop, List.length_take]; rfl)) ?_; (with_reducible refine (num_Add.calls t157 t155 t159 t160 _ A13.out).mono ?_); rintro e w' ⟨rfl, ⟨nd, rfl⟩⟩; refine ⟨_, rfl, ?_⟩) | (go_at_call 8; (with_reducible refine (haruspexlaw04_awake.calls  t170 _ A115.out).mono ?_); rintro e w' ⟨rfl, ⟨nd, rfl⟩⟩))
                          go_ret
                          exact ⟨by first | rfl | (simp; done) | (simp [*]; done), by repeat (first | exact Drawn0.refl _ | apply Drawn0.step)⟩
                        · rw [if_neg c114] at H
                          exact absurd H (by simp)
                      · rw [if_neg c113] at H
                        exact absurd H (by simp)
                    · rw [if_neg c112] at H
                      exact absurd H (by simp)
                  · rw [if_neg c111] at H
                    exact absurd H (by simp)
                · rw [if_neg c110] at H
                  exact absurd H (by simp)
              · rw [if_neg c109] at H
                have c109b0 : decide (0 ≤ t155) = false := decide_eq_false c109
                clear c109
                by_cases c116 : t156 = 0
                · rw [if_pos c116] at H
                  have c116b0 : (t156 == 0) = true := beq_iff_eq.mpr c116
                  have c116b1 : (t156 != 0) = false := bne_eq_false_iff_eq.mpr c116
                  clear c116
                  by_cases c117 : t158 = 0
                  · rw [if_pos c117] at H
                    have c117b0 : (t158 == 0) = true := beq_iff_eq.mpr c117
                    have c117b1 : (t158 != 0) = false := bne_eq_false_iff_eq.mpr c117
                    clear c117
                    by_cases c118 : t160 = 0
                    · rw [if_pos c118] at H
                      have c118b0 : (t160 == 0) = true := beq_iff_eq.mpr c118
                      have c118b1 : (t160 != 0) = false := bne_eq_false_iff_eq.mpr c118
                      clear c118
                      by_cases c119 : t159 = a0
                      · rw [if_pos c119] at H
                        exact absurd H (by simp)
                      · rw [if_neg c119] at H
                        exact absurd H (by simp)
                    · rw [if_neg c118] at H
                      exact absurd H (by simp)
                  · rw [if_neg c117] at H
                    exact absurd H (by simp)
                · rw [if_neg c116] at H
                  exact absurd H (by simp)
          · rw [if_neg c90] at H
            have c90b0 : decide (a1 < 0) = false := decide_eq_false c90
            clear c90
            by_cases c120 : t156 = 0
            · rw [if_pos c120] at H
              have c120b0 : (t156 == 0) = true := beq_iff_eq.mpr c120
              have c120b1 : (t156 != 0) = false := bne_eq_false_iff_eq.mpr c120
              clear c120
              by_cases c121 : t158 = 0
              · rw [if_pos c121] at H
                have c121b0 : (t158 == 0) = true := beq_iff_eq.mpr c121
                have c121b1 : (t158 != 0) = false := bne_eq_false_iff_eq.mpr c121
                clear c121
                by_cases c122 : t160 = 0
                · rw [if_pos c122] at H
                  have c122b0 : (t160 == 0) = true := beq_iff_eq.mpr c122
                  have c122b1 : (t160 != 0) = false := bne_eq_false_iff_eq.mpr c122
                  clear c122
                  by_cases c123 : t159 = a0
                  · rw [if_pos c123] at H
                    exact absurd H (by simp)
                  · rw [if_neg c123] at H
                    exact absurd H (by simp)
                · rw [if_neg c122] at H
                  exact absurd H (by simp)
              · rw [if_neg c121] at H
                exact absurd H (by simp)
            · rw [if_neg c120] at H
              exact absurd H (by simp)
      · rw [if_neg c11] at H
        have c11b0 : (t154 == 0) = false := beq_eq_false_iff_ne.mpr c11
        have c11b1 : (t154 != 0) = true := bne_iff_ne.mpr c11
        by_cases c124 : a1 = 0
        · rw [if_pos c124] at H
          have c124b0 : (a1 == 0) = true := beq_iff_eq.mpr c124
          have c124b1 : (a1 != 0) = false := bne_eq_false_iff_eq.mpr c124
          clear c124
          replace H := Option.bind_eq_some_iff.mp H
          obtain ⟨t171, A1250, H⟩ := H
          replace H : (some t171) = some r := H
          have A125 := Aside0.mk A1250
          clear A1250
          obtain rfl := Option.some.inj H
          go_wp2_with (first | ((with_reducible refine gate_callee (f := 13) rfl ?_); refine goesL_ (some 42) rfl rfl Try.func13 (by kernel_rfl) rfl #[.int .i64 a0, .int .i64 a1] rfl (by (try simp only [List.map_toArray, List.map_cons, List.map_nil]); first | done | rfl | (simp only [List.length_drop, List.length_take]; rfl)) ?_; (with_reducible refine (num_Div.calls a0 a1 t153 t154 _ A9.out).mono ?_); rintro e w' ⟨rfl, ⟨nd, rfl⟩⟩; refine ⟨_, rfl, ?_⟩) | ((with_reducible refine gate_callee (f := 14) rfl ?_); refine goesL_ (some 48) rfl rfl Try.func14 (by kernel_rfl) rfl #[.int .i64 a0, .int .i64 a1] rfl (by (try simp only [List.map_toArray, List.map_cons, List.map_nil]); first | done | rfl | (simp only [List.length_drop, List.length_take]; rfl)) ?_; (with_reducible refine (num_Mod.calls a0 a1 t155 t156 _ A10.out).mono ?_); rintro e w' ⟨rfl, ⟨nd, rfl⟩⟩; refine ⟨_, rfl, ?_⟩) | (go_at_call 8; (with_reducible refine (haruspexlaw04_awake.calls  t171 _ A125.out).mono ?_); rintro e w' ⟨rfl, ⟨nd, rfl⟩⟩))
          go_ret
          exact ⟨by first | rfl | (simp; done) | (simp [*]; done), by repeat (first | exact Drawn0.refl _ | apply Drawn0.step)⟩
        · rw [if_neg c124] at H
          have c124b0 : (a1 == 0) = false := beq_eq_false_iff_ne.mpr c124
          have c124b1 : (a1 != 0) = true := bne_iff_ne.mpr c124
          by_cases c126 : a1 = (-1)
          · rw [if_pos c126] at H
            have c126b0 : (a1 == (-1)) = true := beq_iff_eq.mpr c126
            have c126b1 : (a1 != (-1)) = false := bne_eq_false_iff_eq.mpr c126
            clear c126
            by_cases c127 : t155 = 0
            · rw [if_pos c127] at H
              have c127b0 : (t155 == 0) = true := beq_iff_eq.mpr c127
              have c127b1 : (t155 != 0) = false := bne_eq_false_iff_eq.mpr c127
              clear c127
              replace H := Option.bind_eq_some_iff.mp H
              obtain ⟨t172, A1280, H⟩ := H
              replace H : (some t172) = some r := H
              have A128 := Aside0.mk A1280
              clear A1280
              obtain rfl := Option.some.inj H
              go_wp2_with (first | ((with_reducible refine gate_callee (f := 13) rfl ?_); refine goesL_ (some 42) rfl rfl Try.func13 (by kernel_rfl) rfl #[.int .i64 a0, .int .i64 a1] rfl (by (try simp only [List.map_toArray, List.map_cons, List.map_nil]); first | done | rfl | (simp only [List.length_drop, List.length_take]; rfl)) ?_; (with_reducible refine (num_Div.calls a0 a1 t153 t154 _ A9.out).mono ?_); rintro e w' ⟨rfl, ⟨nd, rfl⟩⟩; refine ⟨_, rfl, ?_⟩) | ((with_reducible refine gate_callee (f := 14) rfl ?_); refine goesL_ (some 48) rfl rfl Try.func14 (by kernel_rfl) rfl #[.int .i64 a0, .int .i64 a1] rfl (by (try simp only [List.map_toArray, List.map_cons, List.map_nil]); first | done | rfl | (simp only [List.length_drop, List.length_take]; rfl)) ?_; (with_reducible refine (num_Mod.calls a0 a1 t155 t156 _ A10.out).mono ?_); rintro e w' ⟨rfl, ⟨nd, rfl⟩⟩; refine ⟨_, rfl, ?_⟩) | (go_at_call 8; (with_reducible refine (haruspexlaw04_awake.calls  t172 _ A128.out).mono ?_); rintro e w' ⟨rfl, ⟨nd, rfl⟩⟩))
              go_ret
              exact ⟨by first | rfl | (simp; done) | (simp [*]; done), by repeat (first | exact Drawn0.refl _ | apply Drawn0.step)⟩
            · rw [if_neg c127] at H
              exact absurd H (by simp)
          · rw [if_neg c126] at H
            exact absurd H (by simp)

/-- THE ONE PURE STATEMENT of haruspexlaw04_NumUndone: yours. -/
def haruspexlaw04_NumUndone.Pure : Prop := ∀ (a0 : Int) (a1 : Int), (Lit.int .i64 a0).wf = true → (Lit.int .i64 a1).wf = true → ∃ k, haruspexlaw04_NumUndone.f k a0 a1 = some true
theorem haruspexlaw04_NumUndone.walk (P : haruspexlaw04_NumUndone.Pure) (a0 : Int) (a1 : Int) (w : World) (w0 : (Lit.int .i64 a0).wf = true) (w1 : (Lit.int .i64 a1).wf = true) :
    Calls Try.prog 4 #[.int .i64 a0, .int .i64 a1] w fun e w' => e = .returned (.bool true) ∧ Below w.heap.size w w' := by
  obtain ⟨k, h⟩ := P a0 a1 w0 w1
  refine (haruspexlaw04_NumUndone.calls k a0 a1 true w h).mono ?_
  rintro e w' ⟨rfl, hd⟩
  exact ⟨rfl, hd.below⟩

end Go.Proofs.Ytbjfhchlngiboaa.PAll
