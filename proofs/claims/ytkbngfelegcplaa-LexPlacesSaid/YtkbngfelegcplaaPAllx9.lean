/- Functions of the Go program as plain Lean functions, and the proofs that the code comes to just their answers; of a law, the row. Written by a program of this session (wip/myprint.py over the given print). No condition. -/
import Derived.Test.YtkbngfelegcplaaPAllx0
import Derived.Test.YtkbngfelegcplaaPAllx5
import Derived.Test.YtkbngfelegcplaaPAllx8
namespace Go.Proofs.Ytkbngfelegcplaa.PAll
open Go.RowKit Go.Proofs.YtkbngfelegcplaaW.PrintWords Go.Proofs.YtkbngfelegcplaaW.PrintLast Go.Proofs.YtkbngfelegcplaaW.PrintMore
attribute [local go_sem] max2_int min2_int max_two min_two max_three min_three max_four min_four   -- for this text's walks alone
set_option linter.unusedVariables false
set_option linter.unusedSimpArgs false

/-! ### haruspexlaw17_LexPlaces: function 6 -/
mutual
def haruspexlaw17_LexPlaces.l0 : Nat → ByteArray → List (S32) → Int → Option (Bool)
  | 0, _, _, _ => none
  | k + 1, x0, x3, x6 => if x6 < (x3.length : Int) then (if 0 ≤ x6 then (if x6 > 0 then (if 0 ≤ (wrap64 (x6 - 1)) then (if (wrap64 (x6 - 1)) < (x3.length : Int) then (if ((rd_T32 x3 x6).f2) ≤ ((rd_T32 x3 (wrap64 (x6 - 1))).f2) then (haruspexlaw17_LexPlaces.j1 k x0 x3 x6 true ((rd_T32 x3 x6).f0) ((rd_T32 x3 x6).f1) ((rd_T32 x3 x6).f2)) else (if ((rd_T32 x3 x6).f2) < 0 then (haruspexlaw17_LexPlaces.j1 k x0 x3 x6 true ((rd_T32 x3 x6).f0) ((rd_T32 x3 x6).f1) ((rd_T32 x3 x6).f2)) else (if ((rd_T32 x3 x6).f2) > (x0.size : Int) then (haruspexlaw17_LexPlaces.j1 k x0 x3 x6 true ((rd_T32 x3 x6).f0) ((rd_T32 x3 x6).f1) ((rd_T32 x3 x6).f2)) else (haruspexlaw17_LexPlaces.j1 k x0 x3 x6 ((((rd_T32 x3 x6).f0) == 6) != (x6 == (wrap64 ((x3.length : Int) - 1)))) ((rd_T32 x3 x6).f0) ((rd_T32 x3 x6).f1) ((rd_T32 x3 x6).f2))))) else (none)) else (none)) else (if ((rd_T32 x3 x6).f2) < 0 then (haruspexlaw17_LexPlaces.j1 k x0 x3 x6 true ((rd_T32 x3 x6).f0) ((rd_T32 x3 x6).f1) ((rd_T32 x3 x6).f2)) else (if ((rd_T32 x3 x6).f2) > (x0.size : Int) then (haruspexlaw17_LexPlaces.j1 k x0 x3 x6 true ((rd_T32 x3 x6).f0) ((rd_T32 x3 x6).f1) ((rd_T32 x3 x6).f2)) else (haruspexlaw17_LexPlaces.j1 k x0 x3 x6 ((((rd_T32 x3 x6).f0) == 6) != (x6 == (wrap64 ((x3.length : Int) - 1)))) ((rd_T32 x3 x6).f0) ((rd_T32 x3 x6).f1) ((rd_T32 x3 x6).f2))))) else (none)) else (if (x3.length : Int) > 0 then (if 0 ≤ (wrap64 ((x3.length : Int) - 1)) then (if (wrap64 ((x3.length : Int) - 1)) < (x3.length : Int) then (if ((rd_T32 x3 (wrap64 ((x3.length : Int) - 1))).f2) = (x0.size : Int) then ((haruspexlaw17_awake.f k).bind fun t221 => (some t221)) else (none)) else (none)) else (none)) else (none))
def haruspexlaw17_LexPlaces.j1 : Nat → ByteArray → List (S32) → Int → Bool → Int → ByteArray → Int → Option (Bool)
  | 0, _, _, _, _, _, _, _ => none
  | k + 1, x0, x3, x6, x77, x224000, x224001, x224002 => if x77 = true then (none) else (if x224000 = 4 then (haruspexlaw17_LexPlaces.l0 k x0 x3 (wrap64 (x6 + 1))) else (if (wrap64 (x224002 + (x224001.size : Int))) > (x0.size : Int) then (none) else (if 0 ≤ x224002 then (if x224002 ≤ (wrap64 (x224002 + (x224001.size : Int))) then (if (wrap64 (x224002 + (x224001.size : Int))) ≤ (x0.size : Int) then (if (x0.extract (x224002 : Int).toNat ((wrap64 (x224002 + (x224001.size : Int))) : Int).toNat).toList = x224001.toList then (haruspexlaw17_LexPlaces.l0 k x0 x3 (wrap64 (x6 + 1))) else (none)) else (none)) else (none)) else (none))))
end
def haruspexlaw17_LexPlaces.f (k : Nat) (a0 : ByteArray) : Option (Bool) := (lex_All.f k a0).bind fun bt214 => (if bt214.2.2 = 0 then (haruspexlaw17_LexPlaces.l0 k a0 bt214.1 0) else (if (bt214.1.length : Int) = 0 then (if bt214.2.1 ≥ 0 then (if bt214.2.1 ≤ (a0.size : Int) then ((haruspexlaw17_awake.f k).bind fun t219 => (some t219)) else (none)) else (none)) else (none)))
theorem haruspexlaw17_LexPlaces.mono_l : ∀ k, (∀ y0 y1 y2, LeO (haruspexlaw17_LexPlaces.l0 k y0 y1 y2) (haruspexlaw17_LexPlaces.l0 (k + 1) y0 y1 y2)) ∧ (∀ y0 y1 y2 y3 y4 y5 y6, LeO (haruspexlaw17_LexPlaces.j1 k y0 y1 y2 y3 y4 y5 y6) (haruspexlaw17_LexPlaces.j1 (k + 1) y0 y1 y2 y3 y4 y5 y6))
  | 0 => ⟨fun _ _ _ r h => by simp [haruspexlaw17_LexPlaces.l0] at h, fun _ _ _ _ _ _ _ r h => by simp [haruspexlaw17_LexPlaces.j1] at h⟩
  | k + 1 => by
    obtain ⟨ih0, ih1⟩ := haruspexlaw17_LexPlaces.mono_l k
    refine ⟨?_, ?_⟩
    · intro y0 y1 y2
      unfold haruspexlaw17_LexPlaces.l0
      repeat' first
      | (with_reducible exact ih0 _ _ _)
      | (with_reducible exact ih1 _ _ _ _ _ _ _)
      | (with_reducible exact haruspexlaw17_awake.mono _)
      | (with_reducible exact lex_All.mono _ _)
      | (with_reducible exact LeO.refl _)
      | (with_reducible exact LeO.none _)
      | (with_reducible refine LeO.ite ?_ ?_)
      | (with_reducible refine LeO.bind ?_ (fun _ => ?_))
      | exact ih0 _ _ _
      | exact ih1 _ _ _ _ _ _ _
      | exact haruspexlaw17_awake.mono _
      | exact lex_All.mono _ _
      | exact LeO.none _
      | refine LeO.ite ?_ ?_
      | refine LeO.bind ?_ (fun _ => ?_)
    · intro y0 y1 y2 y3 y4 y5 y6
      unfold haruspexlaw17_LexPlaces.j1
      repeat' first
      | (with_reducible exact ih0 _ _ _)
      | (with_reducible exact ih1 _ _ _ _ _ _ _)
      | (with_reducible exact haruspexlaw17_awake.mono _)
      | (with_reducible exact lex_All.mono _ _)
      | (with_reducible exact LeO.refl _)
      | (with_reducible exact LeO.none _)
      | (with_reducible refine LeO.ite ?_ ?_)
      | (with_reducible refine LeO.bind ?_ (fun _ => ?_))
      | exact ih0 _ _ _
      | exact ih1 _ _ _ _ _ _ _
      | exact haruspexlaw17_awake.mono _
      | exact lex_All.mono _ _
      | exact LeO.none _
      | refine LeO.ite ?_ ?_
      | refine LeO.bind ?_ (fun _ => ?_)
theorem haruspexlaw17_LexPlaces.mono : ∀ a0 k, LeO (haruspexlaw17_LexPlaces.f k a0) (haruspexlaw17_LexPlaces.f (k + 1) a0) := by
  intro a0 k
  obtain ⟨ih0, ih1⟩ := haruspexlaw17_LexPlaces.mono_l k
  unfold haruspexlaw17_LexPlaces.f
  repeat' first
      | (with_reducible exact ih0 _ _ _)
      | (with_reducible exact ih1 _ _ _ _ _ _ _)
      | (with_reducible exact haruspexlaw17_awake.mono _)
      | (with_reducible exact lex_All.mono _ _)
      | (with_reducible exact LeO.refl _)
      | (with_reducible exact LeO.none _)
      | (with_reducible refine LeO.ite ?_ ?_)
      | (with_reducible refine LeO.bind ?_ (fun _ => ?_))
      | exact ih0 _ _ _
      | exact ih1 _ _ _ _ _ _ _
      | exact haruspexlaw17_awake.mono _
      | exact lex_All.mono _ _
      | exact LeO.none _
      | refine LeO.ite ?_ ?_
      | refine LeO.bind ?_ (fun _ => ?_)
set_option maxHeartbeats 8000000 in
set_option maxRecDepth 100000 in
theorem haruspexlaw17_LexPlaces.calls (k : Nat) (a0 : ByteArray) (r : Bool) (w : World) (h : haruspexlaw17_LexPlaces.f k a0 = some r) :
    Calls Try.prog 6 #[.string a0] w fun e w' => e = .returned (.bool r) ∧ Below w.heap.size w w' := by
  have hu32 := Try.underlying32
  have HB := Aside0.mk (Below.refl w.heap.size w)
  have H : ((lex_All.f k a0).bind fun bt214 => (if bt214.2.2 = 0 then (haruspexlaw17_LexPlaces.l0 k a0 bt214.1 0) else (if (bt214.1.length : Int) = 0 then (if bt214.2.1 ≥ 0 then (if bt214.2.1 ≤ (a0.size : Int) then ((haruspexlaw17_awake.f k).bind fun t219 => (some t219)) else (none)) else (none)) else (none)))) = some r := h
  clear h
  replace H := Option.bind_eq_some_iff.mp H
  obtain ⟨⟨t214, t215, t216⟩, A20, H⟩ := H
  replace H : (if t216 = 0 then (haruspexlaw17_LexPlaces.l0 k a0 t214 0) else (if (t214.length : Int) = 0 then (if t215 ≥ 0 then (if t215 ≤ (a0.size : Int) then ((haruspexlaw17_awake.f k).bind fun t219 => (some t219)) else (none)) else (none)) else (none))) = some r := H
  have A2 := Aside0.mk A20
  clear A20
  by_cases c3 : t216 = 0
  · rw [if_pos c3] at H
    have c3b0 : (t216 == 0) = true := beq_iff_eq.mpr c3
    have c3b1 : (t216 != 0) = false := bne_eq_false_iff_eq.mpr c3
    clear c3
    have H' := Aside0.mk H
    clear H
    go_enter Try.func6, Try.ntmps6
    go_wp2_with (first | (go_at_call 17; (with_reducible refine (lex_All.calls k a0 t214 t215 t216 _ A2.out).mono ?_); rintro e w4 ⟨v217, rfl, ho0, hb⟩; have n0_ := Aside0.mk (Kd.R_lower ho0 (below_size (by repeat (first | (with_reducible first | exact HB.out | apply below_alloc | apply pw_below_drewN | apply below_drew1) | exact HB.out)))); have n1_ := Aside0.mk (below_step (by repeat (first | (with_reducible first | exact HB.out | apply below_alloc | apply pw_below_drewN | apply below_drew1) | exact HB.out)) hb); clear HB; have HO218 := n0_; have HB := n1_; clear n0_ n1_; (try clear hb); (try clear hb2); (try clear hk); (try clear hi); (try clear ho0)))
    repeat (go_quiet (first | (go_at_call 17; (with_reducible refine (lex_All.calls k a0 t214 t215 t216 _ A2.out).mono ?_); rintro e w4 ⟨v217, rfl, ho0, hb⟩; have n0_ := Aside0.mk (Kd.R_lower ho0 (below_size (by repeat (first | (with_reducible first | exact HB.out | apply below_alloc | apply pw_below_drewN | apply below_drew1) | exact HB.out)))); have n1_ := Aside0.mk (below_step (by repeat (first | (with_reducible first | exact HB.out | apply below_alloc | apply pw_below_drewN | apply below_drew1) | exact HB.out)) hb); clear HB; have HO218 := n0_; have HB := n1_; clear n0_ n1_; (try clear hb); (try clear hb2); (try clear hk); (try clear hi); (try clear ho0))); try go_wp2_with (first | (go_at_call 17; (with_reducible refine (lex_All.calls k a0 t214 t215 t216 _ A2.out).mono ?_); rintro e w4 ⟨v217, rfl, ho0, hb⟩; have n0_ := Aside0.mk (Kd.R_lower ho0 (below_size (by repeat (first | (with_reducible first | exact HB.out | apply below_alloc | apply pw_below_drewN | apply below_drew1) | exact HB.out)))); have n1_ := Aside0.mk (below_step (by repeat (first | (with_reducible first | exact HB.out | apply below_alloc | apply pw_below_drewN | apply below_drew1) | exact HB.out)) hb); clear HB; have HO218 := n0_; have HB := n1_; clear n0_ n1_; (try clear hb); (try clear hb2); (try clear hk); (try clear hi); (try clear ho0))))
    go_loopg [6] k (fun kq v6 w' => ∃ (x6_1 : Int), v6 = .int .i64 x6_1 ∧ Aside0 (haruspexlaw17_LexPlaces.l0 kq a0 t214 x6_1 = some r) ∧ Aside0 (kq ≤ k) ∧ Aside0 (Kd.R k32 32 w' w.heap.size (fun _ => True) v217 t214) ∧ Aside0 (Below w.heap.size w w'))
    case atStart => exact ⟨(0), (by first | rfl | (simp; done) | (simp [*]; done)), H', ⟨Nat.le_refl _⟩, ⟨by (with_reducible repeat (first | apply Kd.R_alloc | apply Kd.R_drewN | apply Kd.R_drew)); exact HO218.out⟩, ⟨by repeat (first | (with_reducible first | exact HB.out | apply below_alloc | apply pw_below_drewN | apply below_drew1) | exact HB.out)⟩⟩
    case round =>
      clear H'
      try clear p2
      try clear c3
      try clear c3b0
      try clear c3b1
      obtain ⟨x6_1, rfl, HA, HK1, HO_3, HB⟩ := hrel
      cases gk with
      | zero => exact absurd HA.out (by simp [haruspexlaw17_LexPlaces.l0])
      | succ k1 =>
        have H := HA.out
        clear HA
        simp only [haruspexlaw17_LexPlaces.l0] at H
        by_cases c5 : x6_1 < (t214.length : Int)
        · rw [if_pos c5] at H
          have c5b0 : decide (x6_1 < (t214.length : Int)) = true := decide_eq_true c5
          clear c5
          by_cases c6 : 0 ≤ x6_1
          · rw [if_pos c6] at H
            have c6b0 : decide (0 ≤ x6_1) = true := decide_eq_true c6
            clear c6
            have HC7 := Aside0.mk H
            clear H
            obtain ⟨Ao8, co8, eo8⟩ := Kd.R_slice HO_3.out
            subst eo8
            have p222 : 0 ≤ (x6_1 : Int) := of_decide_eq_true (by first | (with_reducible assumption) | assumption)
            have q222 : x6_1 < (t214.length : Int) := of_decide_eq_true (by first | (with_reducible assumption) | assumption)
            obtain ⟨ad222, e222, hx222_0, hx222_1, hx222_2⟩ := at_T32 (Kd.R_reads' HO_3.out).2.2 x6_1 p222 q222
            cases e222
            replace p222 := eq_true p222
            replace q222 := eq_true q222
            go_upto_region 8 with (first | ((with_reducible refine gate_dst (N := 7) rfl ?_); (try (refine gate_guard (by rfl) ?_; dsimp only)); refine box_event ?hg (N := 7) ?hd (cs := #[.int .i64 0, .string (⟨#[]⟩ : ByteArray), .int .i64 0]) (t := 32) ?hr ?_; (case hd => rfl); (case hg => rfl); (case hr => first | (go_simp; done) | (go_simp; rfl)); intro gb223 hg w9 hbox hb; have n0_ := Aside0.mk (Kd.R_below (Kd.R_elderB (by (with_reducible repeat (first | apply Kd.R_alloc | apply Kd.R_drewN | apply Kd.R_drew)); exact HO_3.out) gb223 (Nat.le_of_eq hg.symm)) hb); have n1_ := Aside0.mk (below_step (by repeat (first | (with_reducible first | exact HB.out | apply below_alloc | apply pw_below_drewN | apply below_drew1) | exact HB.out)) hb); have n2_ := Aside0.mk (hbox); have n3_ := Aside0.mk ((by rw [hg]; exact (below_size (by repeat (first | (with_reducible first | exact HB.out | apply below_alloc | apply pw_below_drewN | apply below_drew1) | exact HB.out))) : w.heap.size ≤ gb223)); have n4_ := Aside0.mk ((by rw [hg]; exact (below_size (by repeat (first | (with_reducible first | exact HB.out | apply below_alloc | apply pw_below_drewN | apply below_drew1) | exact HB.out))) : w.heap.size ≤ gb223)); clear HO_3; clear HB; have HO_3 := n0_; have HB := n1_; have BK223 := n2_; have GW223 := n3_; have GE223 := n4_; clear n0_ n1_ n2_ n3_ n4_; clear hb hbox hg; have hcz10_0 : w9.cell? ⟨gb223, 0, none⟩ = some (.int .i64 0) := (blk_cell BK223.out 0).trans rfl; have hcz10_1 : w9.cell? ⟨gb223, 1, none⟩ = some (.string (⟨#[]⟩ : ByteArray)) := (blk_cell BK223.out 1).trans rfl; have hcz10_2 : w9.cell? ⟨gb223, 2, none⟩ = some (.int .i64 0) := (blk_cell BK223.out 2).trans rfl; have hfz10_0 := blk_frozen BK223.out 0; have hfz10_1 := blk_frozen BK223.out 1; have hfz10_2 := blk_frozen BK223.out 2))
            repeat (go_quiet (first | ((with_reducible refine gate_dst (N := 7) rfl ?_); (try (refine gate_guard (by rfl) ?_; dsimp only)); refine box_event ?hg (N := 7) ?hd (cs := #[.int .i64 0, .string (⟨#[]⟩ : ByteArray), .int .i64 0]) (t := 32) ?hr ?_; (case hd => rfl); (case hg => rfl); (case hr => first | (go_simp; done) | (go_simp; rfl)); intro gb223 hg w9 hbox hb; have n0_ := Aside0.mk (Kd.R_below (Kd.R_elderB (by (with_reducible repeat (first | apply Kd.R_alloc | apply Kd.R_drewN | apply Kd.R_drew)); exact HO_3.out) gb223 (Nat.le_of_eq hg.symm)) hb); have n1_ := Aside0.mk (below_step (by repeat (first | (with_reducible first | exact HB.out | apply below_alloc | apply pw_below_drewN | apply below_drew1) | exact HB.out)) hb); have n2_ := Aside0.mk (hbox); have n3_ := Aside0.mk ((by rw [hg]; exact (below_size (by repeat (first | (with_reducible first | exact HB.out | apply below_alloc | apply pw_below_drewN | apply below_drew1) | exact HB.out))) : w.heap.size ≤ gb223)); have n4_ := Aside0.mk ((by rw [hg]; exact (below_size (by repeat (first | (with_reducible first | exact HB.out | apply below_alloc | apply pw_below_drewN | apply below_drew1) | exact HB.out))) : w.heap.size ≤ gb223)); clear HO_3; clear HB; have HO_3 := n0_; have HB := n1_; have BK223 := n2_; have GW223 := n3_; have GE223 := n4_; clear n0_ n1_ n2_ n3_ n4_; clear hb hbox hg; have hcz10_0 : w9.cell? ⟨gb223, 0, none⟩ = some (.int .i64 0) := (blk_cell BK223.out 0).trans rfl; have hcz10_1 : w9.cell? ⟨gb223, 1, none⟩ = some (.string (⟨#[]⟩ : ByteArray)) := (blk_cell BK223.out 1).trans rfl; have hcz10_2 : w9.cell? ⟨gb223, 2, none⟩ = some (.int .i64 0) := (blk_cell BK223.out 2).trans rfl; have hfz10_0 := blk_frozen BK223.out 0; have hfz10_1 := blk_frozen BK223.out 1; have hfz10_2 := blk_frozen BK223.out 2)); go_upto_region 8 with (first | ((with_reducible refine gate_dst (N := 7) rfl ?_); (try (refine gate_guard (by rfl) ?_; dsimp only)); refine box_event ?hg (N := 7) ?hd (cs := #[.int .i64 0, .string (⟨#[]⟩ : ByteArray), .int .i64 0]) (t := 32) ?hr ?_; (case hd => rfl); (case hg => rfl); (case hr => first | (go_simp; done) | (go_simp; rfl)); intro gb223 hg w9 hbox hb; have n0_ := Aside0.mk (Kd.R_below (Kd.R_elderB (by (with_reducible repeat (first | apply Kd.R_alloc | apply Kd.R_drewN | apply Kd.R_drew)); exact HO_3.out) gb223 (Nat.le_of_eq hg.symm)) hb); have n1_ := Aside0.mk (below_step (by repeat (first | (with_reducible first | exact HB.out | apply below_alloc | apply pw_below_drewN | apply below_drew1) | exact HB.out)) hb); have n2_ := Aside0.mk (hbox); have n3_ := Aside0.mk ((by rw [hg]; exact (below_size (by repeat (first | (with_reducible first | exact HB.out | apply below_alloc | apply pw_below_drewN | apply below_drew1) | exact HB.out))) : w.heap.size ≤ gb223)); have n4_ := Aside0.mk ((by rw [hg]; exact (below_size (by repeat (first | (with_reducible first | exact HB.out | apply below_alloc | apply pw_below_drewN | apply below_drew1) | exact HB.out))) : w.heap.size ≤ gb223)); clear HO_3; clear HB; have HO_3 := n0_; have HB := n1_; have BK223 := n2_; have GW223 := n3_; have GE223 := n4_; clear n0_ n1_ n2_ n3_ n4_; clear hb hbox hg; have hcz10_0 : w9.cell? ⟨gb223, 0, none⟩ = some (.int .i64 0) := (blk_cell BK223.out 0).trans rfl; have hcz10_1 : w9.cell? ⟨gb223, 1, none⟩ = some (.string (⟨#[]⟩ : ByteArray)) := (blk_cell BK223.out 1).trans rfl; have hcz10_2 : w9.cell? ⟨gb223, 2, none⟩ = some (.int .i64 0) := (blk_cell BK223.out 2).trans rfl; have hfz10_0 := blk_frozen BK223.out 0; have hfz10_1 := blk_frozen BK223.out 1; have hfz10_2 := blk_frozen BK223.out 2)))
            (try simp only [Act.put, List.setIfInBounds_toArray, List.set_cons_zero, List.set_cons_succ])
            go_cut [77] (fun v77 wc => ∃ (kq : Nat) (x77_6 : Bool), v77 = .bool x77_6 ∧ Aside0 (haruspexlaw17_LexPlaces.j1 kq a0 t214 x6_1 x77_6 ((rd_T32 t214 x6_1).f0) ((rd_T32 t214 x6_1).f1) ((rd_T32 t214 x6_1).f2) = some r) ∧ Aside0 (kq ≤ k1) ∧ Aside0 (Kd.R k32 32 wc w.heap.size (fun k_ => k_ ≠ gb223) (.slice (some ad222) t214.length co8) t214) ∧ Aside0 (wc.heap[gb223]? = some (.cells #[.int .i64 ((rd_T32 t214 x6_1).f0), .string ((rd_T32 t214 x6_1).f1), .int .i64 ((rd_T32 t214 x6_1).f2)] 32 (0, 0))) ∧ Aside0 (Below w.heap.size w wc))
            case first =>
              have H := HC7.out
              clear HC7
              by_cases c11 : x6_1 > 0
              · rw [if_pos c11] at H
                have c11b0 : decide (0 < x6_1) = true := decide_eq_true c11
                clear c11
                (first | rw [c11b0] | (simp only [i64_w, i32_w]; rw [c11b0]) | skip)
                obtain ⟨ji12, hji12⟩ : ∃ j_ : Int, (wrap64 (x6_1 - 1)) = j_ := ⟨_, rfl⟩
                replace H : (if 0 ≤ (ji12) then (if (ji12) < (t214.length : Int) then (if ((rd_T32 t214 x6_1).f2) ≤ ((rd_T32 t214 (ji12)).f2) then (haruspexlaw17_LexPlaces.j1 k1 a0 t214 x6_1 true ((rd_T32 t214 x6_1).f0) ((rd_T32 t214 x6_1).f1) ((rd_T32 t214 x6_1).f2)) else (if ((rd_T32 t214 x6_1).f2) < 0 then (haruspexlaw17_LexPlaces.j1 k1 a0 t214 x6_1 true ((rd_T32 t214 x6_1).f0) ((rd_T32 t214 x6_1).f1) ((rd_T32 t214 x6_1).f2)) else (if ((rd_T32 t214 x6_1).f2) > (a0.size : Int) then (haruspexlaw17_LexPlaces.j1 k1 a0 t214 x6_1 true ((rd_T32 t214 x6_1).f0) ((rd_T32 t214 x6_1).f1) ((rd_T32 t214 x6_1).f2)) else (haruspexlaw17_LexPlaces.j1 k1 a0 t214 x6_1 ((((rd_T32 t214 x6_1).f0) == 6) != (x6_1 == (wrap64 ((t214.length : Int) - 1)))) ((rd_T32 t214 x6_1).f0) ((rd_T32 t214 x6_1).f1) ((rd_T32 t214 x6_1).f2))))) else (none)) else (none)) = some r := by first | (rw [hji12] at H; exact H) | (simp only [hji12] at H ⊢; exact H)
                have hji12w : (IntKind.i64.wrap (x6_1 - 1)) = ji12 := (i64_w _).trans hji12
                by_cases c13 : 0 ≤ (ji12)
                · rw [if_pos c13] at H
                  have c13b0 : decide (0 ≤ (ji12)) = true := decide_eq_true c13
                  clear c13
                  by_cases c14 : (ji12) < (t214.length : Int)
                  · rw [if_pos c14] at H
                    have c14b0 : decide ((ji12) < (t214.length : Int)) = true := decide_eq_true c14
                    clear c14
                    by_cases c15 : ((rd_T32 t214 x6_1).f2) ≤ ((rd_T32 t214 (ji12)).f2)
                    · rw [if_pos c15] at H
                      have c15b0 : decide (((rd_T32 t214 x6_1).f2) ≤ ((rd_T32 t214 (ji12)).f2)) = true := decide_eq_true c15
                      clear c15
                      have H' := Aside0.mk H
                      clear H
                      have hcz16_0 : w9.cell? ⟨gb223, 0, none⟩ = some (.int .i64 0) := (blk_cell BK223.out 0).trans rfl
                      have hcz16_1 : w9.cell? ⟨gb223, 1, none⟩ = some (.string (⟨#[]⟩ : ByteArray)) := (blk_cell BK223.out 1).trans rfl
                      have hcz16_2 : w9.cell? ⟨gb223, 2, none⟩ = some (.int .i64 0) := (blk_cell BK223.out 2).trans rfl
                      have hfz16_0 := blk_frozen BK223.out 0
                      have hfz16_1 := blk_frozen BK223.out 1
                      have hfz16_2 := blk_frozen BK223.out 2
                      have p224 : 0 ≤ ((ji12) : Int) := of_decide_eq_true (by first | (with_reducible assumption) | assumption)
                      have q224 : (ji12) < (t214.length : Int) := of_decide_eq_true (by first | (with_reducible assumption) | assumption)
                      obtain ⟨ad224, e224, hx224_0, hx224_1, hx224_2⟩ := at_T32 (Kd.R_reads' HO_3.out).2.2 (ji12) p224 q224
                      obtain rfl : ad222 = ad224 := (by injection e224)
                      have hn224_0 : ad222.block ≠ gb223 := Kd.own_blk (Kd.R_away HO_3.out (fun _ hk => hk.2))
                      have hn224_1 : ad222.block ≠ gb223 := Kd.own_blk (Kd.R_away HO_3.out (fun _ hk => hk.2))
                      have hn224_2 : ad222.block ≠ gb223 := Kd.own_blk (Kd.R_away HO_3.out (fun _ hk => hk.2))
                      replace hx224_0 := (cell_far (p := ⟨gb223, 0, none⟩) (by first | (rw [add_block]; exact hn224_0) | (show (Addr.add _ _).block ≠ _; rw [add_block]; exact hn224_0) | exact hn224_0) (.int .i64 ((rd_T32 t214 x6_1).f0))).trans hx224_0
                      replace hx224_1 := (cell_far (p := ⟨gb223, 0, none⟩) (by first | (rw [add_block]; exact hn224_0) | (show (Addr.add _ _).block ≠ _; rw [add_block]; exact hn224_0) | exact hn224_0) (.int .i64 ((rd_T32 t214 x6_1).f0))).trans hx224_1
                      replace hx224_2 := (cell_far (p := ⟨gb223, 0, none⟩) (by first | (rw [add_block]; exact hn224_0) | (show (Addr.add _ _).block ≠ _; rw [add_block]; exact hn224_0) | exact hn224_0) (.int .i64 ((rd_T32 t214 x6_1).f0))).trans hx224_2
                      replace hx224_0 := (cell_far (p := ⟨gb223, 1, none⟩) (by first | (rw [add_block]; exact hn224_1) | (show (Addr.add _ _).block ≠ _; rw [add_block]; exact hn224_1) | exact hn224_1) (.string ((rd_T32 t214 x6_1).f1))).trans hx224_0
                      replace hx224_1 := (cell_far (p := ⟨gb223, 1, none⟩) (by first | (rw [add_block]; exact hn224_1) | (show (Addr.add _ _).block ≠ _; rw [add_block]; exact hn224_1) | exact hn224_1) (.string ((rd_T32 t214 x6_1).f1))).trans hx224_1
                      replace hx224_2 := (cell_far (p := ⟨gb223, 1, none⟩) (by first | (rw [add_block]; exact hn224_1) | (show (Addr.add _ _).block ≠ _; rw [add_block]; exact hn224_1) | exact hn224_1) (.string ((rd_T32 t214 x6_1).f1))).trans hx224_2
                      replace hx224_0 := (cell_far (p := ⟨gb223, 2, none⟩) (by first | (rw [add_block]; exact hn224_2) | (show (Addr.add _ _).block ≠ _; rw [add_block]; exact hn224_2) | exact hn224_2) (.int .i64 ((rd_T32 t214 x6_1).f2))).trans hx224_0
                      replace hx224_1 := (cell_far (p := ⟨gb223, 2, none⟩) (by first | (rw [add_block]; exact hn224_2) | (show (Addr.add _ _).block ≠ _; rw [add_block]; exact hn224_2) | exact hn224_2) (.int .i64 ((rd_T32 t214 x6_1).f2))).trans hx224_1
                      replace hx224_2 := (cell_far (p := ⟨gb223, 2, none⟩) (by first | (rw [add_block]; exact hn224_2) | (show (Addr.add _ _).block ≠ _; rw [add_block]; exact hn224_2) | exact hn224_2) (.int .i64 ((rd_T32 t214 x6_1).f2))).trans hx224_2
                      (try have hy224_0 := fun (n_ : Nat) => (show (((((w9.drewN n_).setCell ⟨gb223, 0, none⟩ (.int .i64 ((rd_T32 t214 x6_1).f0))).setCell ⟨gb223, 1, none⟩ (.string ((rd_T32 t214 x6_1).f1))).setCell ⟨gb223, 2, none⟩ (.int .i64 ((rd_T32 t214 x6_1).f2)))).cell? _ = some _ from hx224_0))
                      (try have hy224_1 := fun (n_ : Nat) => (show (((((w9.drewN n_).setCell ⟨gb223, 0, none⟩ (.int .i64 ((rd_T32 t214 x6_1).f0))).setCell ⟨gb223, 1, none⟩ (.string ((rd_T32 t214 x6_1).f1))).setCell ⟨gb223, 2, none⟩ (.int .i64 ((rd_T32 t214 x6_1).f2)))).cell? _ = some _ from hx224_1))
                      (try have hy224_2 := fun (n_ : Nat) => (show (((((w9.drewN n_).setCell ⟨gb223, 0, none⟩ (.int .i64 ((rd_T32 t214 x6_1).f0))).setCell ⟨gb223, 1, none⟩ (.string ((rd_T32 t214 x6_1).f1))).setCell ⟨gb223, 2, none⟩ (.int .i64 ((rd_T32 t214 x6_1).f2)))).cell? _ = some _ from hx224_2))
                      clear hn224_0
                      clear hn224_1
                      clear hn224_2
                      replace p224 := eq_true p224
                      replace q224 := eq_true q224
                      go_wp2
                      repeat (go_quiet (fail); try go_wp2)
                      go_meet
                      case rel => exact ⟨_, (true), (by first | rfl | (simp; done) | (simp [*]; done)), H', ⟨by have := HK1.out; first | omega | exact Nat.le_refl _⟩, ⟨by (with_reducible repeat (first | apply Kd.R_alloc | apply Kd.R_drewN | apply Kd.R_drew)); exact Kd.R_mono (Kd.R_far (p := ⟨gb223, 2, none⟩) (Kd.R_far (p := ⟨gb223, 1, none⟩) (Kd.R_far (p := ⟨gb223, 0, none⟩) (Kd.R_mono HO_3.out (fun k_ hk => (⟨hk, hk.2⟩ : _ ∧ k_ ≠ gb223))) (fun _ hk => hk.2) (.int .i64 ((rd_T32 t214 x6_1).f0))) (fun _ hk => hk.2) (.string ((rd_T32 t214 x6_1).f1))) (fun _ hk => hk.2) (.int .i64 ((rd_T32 t214 x6_1).f2))) (fun _ hk => hk.1.2)⟩, ⟨by (with_reducible repeat (first | refine blk_drewN ?_ _ | refine blk_drew ?_ | refine blk_alloc ?_ _)); refine blk_put (cs := #[.int .i64 ((rd_T32 t214 x6_1).f0), .string ((rd_T32 t214 x6_1).f1), .int .i64 0]) ?_ 2 _ rfl; (with_reducible repeat (first | refine blk_drewN ?_ _ | refine blk_drew ?_ | refine blk_alloc ?_ _)); refine blk_put (cs := #[.int .i64 ((rd_T32 t214 x6_1).f0), .string (⟨#[]⟩ : ByteArray), .int .i64 0]) ?_ 1 _ rfl; (with_reducible repeat (first | refine blk_drewN ?_ _ | refine blk_drew ?_ | refine blk_alloc ?_ _)); refine blk_put (cs := #[.int .i64 0, .string (⟨#[]⟩ : ByteArray), .int .i64 0]) ?_ 0 _ rfl; (with_reducible repeat (first | refine blk_drewN ?_ _ | refine blk_drew ?_ | refine blk_alloc ?_ _)); exact BK223.out⟩, ⟨by repeat (first | (with_reducible first | exact HB.out | apply below_alloc | apply pw_below_drewN | apply below_drew1 | refine below_set ?_ GE223.out) | exact HB.out)⟩⟩
                    · rw [if_neg c15] at H
                      have c15b0 : decide (((rd_T32 t214 x6_1).f2) ≤ ((rd_T32 t214 (ji12)).f2)) = false := decide_eq_false c15
                      clear c15
                      by_cases c17 : ((rd_T32 t214 x6_1).f2) < 0
                      · rw [if_pos c17] at H
                        have c17b0 : decide (((rd_T32 t214 x6_1).f2) < 0) = true := decide_eq_true c17
                        clear c17
                        have H' := Aside0.mk H
                        clear H
                        have hcz18_0 : w9.cell? ⟨gb223, 0, none⟩ = some (.int .i64 0) := (blk_cell BK223.out 0).trans rfl
                        have hcz18_1 : w9.cell? ⟨gb223, 1, none⟩ = some (.string (⟨#[]⟩ : ByteArray)) := (blk_cell BK223.out 1).trans rfl
                        have hcz18_2 : w9.cell? ⟨gb223, 2, none⟩ = some (.int .i64 0) := (blk_cell BK223.out 2).trans rfl
                        have hfz18_0 := blk_frozen BK223.out 0
                        have hfz18_1 := blk_frozen BK223.out 1
                        have hfz18_2 := blk_frozen BK223.out 2
                        have p224 : 0 ≤ ((ji12) : Int) := of_decide_eq_true (by first | (with_reducible assumption) | assumption)
                        have q224 : (ji12) < (t214.length : Int) := of_decide_eq_true (by first | (with_reducible assumption) | assumption)
                        obtain ⟨ad224, e224, hx224_0, hx224_1, hx224_2⟩ := at_T32 (Kd.R_reads' HO_3.out).2.2 (ji12) p224 q224
                        obtain rfl : ad222 = ad224 := (by injection e224)
                        have hn224_0 : ad222.block ≠ gb223 := Kd.own_blk (Kd.R_away HO_3.out (fun _ hk => hk.2))
                        have hn224_1 : ad222.block ≠ gb223 := Kd.own_blk (Kd.R_away HO_3.out (fun _ hk => hk.2))
                        have hn224_2 : ad222.block ≠ gb223 := Kd.own_blk (Kd.R_away HO_3.out (fun _ hk => hk.2))
                        replace hx224_0 := (cell_far (p := ⟨gb223, 0, none⟩) (by first | (rw [add_block]; exact hn224_0) | (show (Addr.add _ _).block ≠ _; rw [add_block]; exact hn224_0) | exact hn224_0) (.int .i64 ((rd_T32 t214 x6_1).f0))).trans hx224_0
                        replace hx224_1 := (cell_far (p := ⟨gb223, 0, none⟩) (by first | (rw [add_block]; exact hn224_0) | (show (Addr.add _ _).block ≠ _; rw [add_block]; exact hn224_0) | exact hn224_0) (.int .i64 ((rd_T32 t214 x6_1).f0))).trans hx224_1
                        replace hx224_2 := (cell_far (p := ⟨gb223, 0, none⟩) (by first | (rw [add_block]; exact hn224_0) | (show (Addr.add _ _).block ≠ _; rw [add_block]; exact hn224_0) | exact hn224_0) (.int .i64 ((rd_T32 t214 x6_1).f0))).trans hx224_2
                        replace hx224_0 := (cell_far (p := ⟨gb223, 1, none⟩) (by first | (rw [add_block]; exact hn224_1) | (show (Addr.add _ _).block ≠ _; rw [add_block]; exact hn224_1) | exact hn224_1) (.string ((rd_T32 t214 x6_1).f1))).trans hx224_0
                        replace hx224_1 := (cell_far (p := ⟨gb223, 1, none⟩) (by first | (rw [add_block]; exact hn224_1) | (show (Addr.add _ _).block ≠ _; rw [add_block]; exact hn224_1) | exact hn224_1) (.string ((rd_T32 t214 x6_1).f1))).trans hx224_1
                        replace hx224_2 := (cell_far (p := ⟨gb223, 1, none⟩) (by first | (rw [add_block]; exact hn224_1) | (show (Addr.add _ _).block ≠ _; rw [add_block]; exact hn224_1) | exact hn224_1) (.string ((rd_T32 t214 x6_1).f1))).trans hx224_2
                        replace hx224_0 := (cell_far (p := ⟨gb223, 2, none⟩) (by first | (rw [add_block]; exact hn224_2) | (show (Addr.add _ _).block ≠ _; rw [add_block]; exact hn224_2) | exact hn224_2) (.int .i64 ((rd_T32 t214 x6_1).f2))).trans hx224_0
                        replace hx224_1 := (cell_far (p := ⟨gb223, 2, none⟩) (by first | (rw [add_block]; exact hn224_2) | (show (Addr.add _ _).block ≠ _; rw [add_block]; exact hn224_2) | exact hn224_2) (.int .i64 ((rd_T32 t214 x6_1).f2))).trans hx224_1
                        replace hx224_2 := (cell_far (p := ⟨gb223, 2, none⟩) (by first | (rw [add_block]; exact hn224_2) | (show (Addr.add _ _).block ≠ _; rw [add_block]; exact hn224_2) | exact hn224_2) (.int .i64 ((rd_T32 t214 x6_1).f2))).trans hx224_2
                        (try have hy224_0 := fun (n_ : Nat) => (show (((((w9.drewN n_).setCell ⟨gb223, 0, none⟩ (.int .i64 ((rd_T32 t214 x6_1).f0))).setCell ⟨gb223, 1, none⟩ (.string ((rd_T32 t214 x6_1).f1))).setCell ⟨gb223, 2, none⟩ (.int .i64 ((rd_T32 t214 x6_1).f2)))).cell? _ = some _ from hx224_0))
                        (try have hy224_1 := fun (n_ : Nat) => (show (((((w9.drewN n_).setCell ⟨gb223, 0, none⟩ (.int .i64 ((rd_T32 t214 x6_1).f0))).setCell ⟨gb223, 1, none⟩ (.string ((rd_T32 t214 x6_1).f1))).setCell ⟨gb223, 2, none⟩ (.int .i64 ((rd_T32 t214 x6_1).f2)))).cell? _ = some _ from hx224_1))
                        (try have hy224_2 := fun (n_ : Nat) => (show (((((w9.drewN n_).setCell ⟨gb223, 0, none⟩ (.int .i64 ((rd_T32 t214 x6_1).f0))).setCell ⟨gb223, 1, none⟩ (.string ((rd_T32 t214 x6_1).f1))).setCell ⟨gb223, 2, none⟩ (.int .i64 ((rd_T32 t214 x6_1).f2)))).cell? _ = some _ from hx224_2))
                        clear hn224_0
                        clear hn224_1
                        clear hn224_2
                        replace p224 := eq_true p224
                        replace q224 := eq_true q224
                        go_wp2
                        repeat (go_quiet (fail); try go_wp2)
                        go_meet
                        case rel => exact ⟨_, (true), (by first | rfl | (simp; done) | (simp [*]; done)), H', ⟨by have := HK1.out; first | omega | exact Nat.le_refl _⟩, ⟨by (with_reducible repeat (first | apply Kd.R_alloc | apply Kd.R_drewN | apply Kd.R_drew)); exact Kd.R_mono (Kd.R_far (p := ⟨gb223, 2, none⟩) (Kd.R_far (p := ⟨gb223, 1, none⟩) (Kd.R_far (p := ⟨gb223, 0, none⟩) (Kd.R_mono HO_3.out (fun k_ hk => (⟨hk, hk.2⟩ : _ ∧ k_ ≠ gb223))) (fun _ hk => hk.2) (.int .i64 ((rd_T32 t214 x6_1).f0))) (fun _ hk => hk.2) (.string ((rd_T32 t214 x6_1).f1))) (fun _ hk => hk.2) (.int .i64 ((rd_T32 t214 x6_1).f2))) (fun _ hk => hk.1.2)⟩, ⟨by (with_reducible repeat (first | refine blk_drewN ?_ _ | refine blk_drew ?_ | refine blk_alloc ?_ _)); refine blk_put (cs := #[.int .i64 ((rd_T32 t214 x6_1).f0), .string ((rd_T32 t214 x6_1).f1), .int .i64 0]) ?_ 2 _ rfl; (with_reducible repeat (first | refine blk_drewN ?_ _ | refine blk_drew ?_ | refine blk_alloc ?_ _)); refine blk_put (cs := #[.int .i64 ((rd_T32 t214 x6_1).f0), .string (⟨#[]⟩ : ByteArray), .int .i64 0]) ?_ 1 _ rfl; (with_reducible repeat (first | refine blk_drewN ?_ _ | refine blk_drew ?_ | refine blk_alloc ?_ _)); refine blk_put (cs := #[.int .i64 0, .string (⟨#[]⟩ : ByteArray), .int .i64 0]) ?_ 0 _ rfl; (with_reducible repeat (first | refine blk_drewN ?_ _ | refine blk_drew ?_ | refine blk_alloc ?_ _)); exact BK223.out⟩, ⟨by repeat (first | (with_reducible first | exact HB.out | apply below_alloc | apply pw_below_drewN | apply below_drew1 | refine below_set ?_ GE223.out) | exact HB.out)⟩⟩
                      · rw [if_neg c17] at H
                        have c17b0 : decide (((rd_T32 t214 x6_1).f2) < 0) = false := decide_eq_false c17
                        clear c17
                        by_cases c19 : ((rd_T32 t214 x6_1).f2) > (a0.size : Int)
                        · rw [if_pos c19] at H
                          have c19b0 : decide ((a0.size : Int) < ((rd_T32 t214 x6_1).f2)) = true := decide_eq_true c19
                          clear c19
                          have H' := Aside0.mk H
                          clear H
                          have hcz20_0 : w9.cell? ⟨gb223, 0, none⟩ = some (.int .i64 0) := (blk_cell BK223.out 0).trans rfl
                          have hcz20_1 : w9.cell? ⟨gb223, 1, none⟩ = some (.string (⟨#[]⟩ : ByteArray)) := (blk_cell BK223.out 1).trans rfl
                          have hcz20_2 : w9.cell? ⟨gb223, 2, none⟩ = some (.int .i64 0) := (blk_cell BK223.out 2).trans rfl
                          have hfz20_0 := blk_frozen BK223.out 0
                          have hfz20_1 := blk_frozen BK223.out 1
                          have hfz20_2 := blk_frozen BK223.out 2
                          have p224 : 0 ≤ ((ji12) : Int) := of_decide_eq_true (by first | (with_reducible assumption) | assumption)
                          have q224 : (ji12) < (t214.length : Int) := of_decide_eq_true (by first | (with_reducible assumption) | assumption)
                          obtain ⟨ad224, e224, hx224_0, hx224_1, hx224_2⟩ := at_T32 (Kd.R_reads' HO_3.out).2.2 (ji12) p224 q224
                          obtain rfl : ad222 = ad224 := (by injection e224)
                          have hn224_0 : ad222.block ≠ gb223 := Kd.own_blk (Kd.R_away HO_3.out (fun _ hk => hk.2))
                          have hn224_1 : ad222.block ≠ gb223 := Kd.own_blk (Kd.R_away HO_3.out (fun _ hk => hk.2))
                          have hn224_2 : ad222.block ≠ gb223 := Kd.own_blk (Kd.R_away HO_3.out (fun _ hk => hk.2))
                          replace hx224_0 := (cell_far (p := ⟨gb223, 0, none⟩) (by first | (rw [add_block]; exact hn224_0) | (show (Addr.add _ _).block ≠ _; rw [add_block]; exact hn224_0) | exact hn224_0) (.int .i64 ((rd_T32 t214 x6_1).f0))).trans hx224_0
                          replace hx224_1 := (cell_far (p := ⟨gb223, 0, none⟩) (by first | (rw [add_block]; exact hn224_0) | (show (Addr.add _ _).block ≠ _; rw [add_block]; exact hn224_0) | exact hn224_0) (.int .i64 ((rd_T32 t214 x6_1).f0))).trans hx224_1
                          replace hx224_2 := (cell_far (p := ⟨gb223, 0, none⟩) (by first | (rw [add_block]; exact hn224_0) | (show (Addr.add _ _).block ≠ _; rw [add_block]; exact hn224_0) | exact hn224_0) (.int .i64 ((rd_T32 t214 x6_1).f0))).trans hx224_2
                          replace hx224_0 := (cell_far (p := ⟨gb223, 1, none⟩) (by first | (rw [add_block]; exact hn224_1) | (show (Addr.add _ _).block ≠ _; rw [add_block]; exact hn224_1) | exact hn224_1) (.string ((rd_T32 t214 x6_1).f1))).trans hx224_0
                          replace hx224_1 := (cell_far (p := ⟨gb223, 1, none⟩) (by first | (rw [add_block]; exact hn224_1) | (show (Addr.add _ _).block ≠ _; rw [add_block]; exact hn224_1) | exact hn224_1) (.string ((rd_T32 t214 x6_1).f1))).trans hx224_1
                          replace hx224_2 := (cell_far (p := ⟨gb223, 1, none⟩) (by first | (rw [add_block]; exact hn224_1) | (show (Addr.add _ _).block ≠ _; rw [add_block]; exact hn224_1) | exact hn224_1) (.string ((rd_T32 t214 x6_1).f1))).trans hx224_2
                          replace hx224_0 := (cell_far (p := ⟨gb223, 2, none⟩) (by first | (rw [add_block]; exact hn224_2) | (show (Addr.add _ _).block ≠ _; rw [add_block]; exact hn224_2) | exact hn224_2) (.int .i64 ((rd_T32 t214 x6_1).f2))).trans hx224_0
                          replace hx224_1 := (cell_far (p := ⟨gb223, 2, none⟩) (by first | (rw [add_block]; exact hn224_2) | (show (Addr.add _ _).block ≠ _; rw [add_block]; exact hn224_2) | exact hn224_2) (.int .i64 ((rd_T32 t214 x6_1).f2))).trans hx224_1
                          replace hx224_2 := (cell_far (p := ⟨gb223, 2, none⟩) (by first | (rw [add_block]; exact hn224_2) | (show (Addr.add _ _).block ≠ _; rw [add_block]; exact hn224_2) | exact hn224_2) (.int .i64 ((rd_T32 t214 x6_1).f2))).trans hx224_2
                          (try have hy224_0 := fun (n_ : Nat) => (show (((((w9.drewN n_).setCell ⟨gb223, 0, none⟩ (.int .i64 ((rd_T32 t214 x6_1).f0))).setCell ⟨gb223, 1, none⟩ (.string ((rd_T32 t214 x6_1).f1))).setCell ⟨gb223, 2, none⟩ (.int .i64 ((rd_T32 t214 x6_1).f2)))).cell? _ = some _ from hx224_0))
                          (try have hy224_1 := fun (n_ : Nat) => (show (((((w9.drewN n_).setCell ⟨gb223, 0, none⟩ (.int .i64 ((rd_T32 t214 x6_1).f0))).setCell ⟨gb223, 1, none⟩ (.string ((rd_T32 t214 x6_1).f1))).setCell ⟨gb223, 2, none⟩ (.int .i64 ((rd_T32 t214 x6_1).f2)))).cell? _ = some _ from hx224_1))
                          (try have hy224_2 := fun (n_ : Nat) => (show (((((w9.drewN n_).setCell ⟨gb223, 0, none⟩ (.int .i64 ((rd_T32 t214 x6_1).f0))).setCell ⟨gb223, 1, none⟩ (.string ((rd_T32 t214 x6_1).f1))).setCell ⟨gb223, 2, none⟩ (.int .i64 ((rd_T32 t214 x6_1).f2)))).cell? _ = some _ from hx224_2))
                          clear hn224_0
                          clear hn224_1
                          clear hn224_2
                          replace p224 := eq_true p224
                          replace q224 := eq_true q224
                          go_wp2
                          repeat (go_quiet (fail); try go_wp2)
                          go_meet
                          case rel => exact ⟨_, (true), (by first | rfl | (simp; done) | (simp [*]; done)), H', ⟨by have := HK1.out; first | omega | exact Nat.le_refl _⟩, ⟨by (with_reducible repeat (first | apply Kd.R_alloc | apply Kd.R_drewN | apply Kd.R_drew)); exact Kd.R_mono (Kd.R_far (p := ⟨gb223, 2, none⟩) (Kd.R_far (p := ⟨gb223, 1, none⟩) (Kd.R_far (p := ⟨gb223, 0, none⟩) (Kd.R_mono HO_3.out (fun k_ hk => (⟨hk, hk.2⟩ : _ ∧ k_ ≠ gb223))) (fun _ hk => hk.2) (.int .i64 ((rd_T32 t214 x6_1).f0))) (fun _ hk => hk.2) (.string ((rd_T32 t214 x6_1).f1))) (fun _ hk => hk.2) (.int .i64 ((rd_T32 t214 x6_1).f2))) (fun _ hk => hk.1.2)⟩, ⟨by (with_reducible repeat (first | refine blk_drewN ?_ _ | refine blk_drew ?_ | refine blk_alloc ?_ _)); refine blk_put (cs := #[.int .i64 ((rd_T32 t214 x6_1).f0), .string ((rd_T32 t214 x6_1).f1), .int .i64 0]) ?_ 2 _ rfl; (with_reducible repeat (first | refine blk_drewN ?_ _ | refine blk_drew ?_ | refine blk_alloc ?_ _)); refine blk_put (cs := #[.int .i64 ((rd_T32 t214 x6_1).f0), .string (⟨#[]⟩ : ByteArray), .int .i64 0]) ?_ 1 _ rfl; (with_reducible repeat (first | refine blk_drewN ?_ _ | refine blk_drew ?_ | refine blk_alloc ?_ _)); refine blk_put (cs := #[.int .i64 0, .string (⟨#[]⟩ : ByteArray), .int .i64 0]) ?_ 0 _ rfl; (with_reducible repeat (first | refine blk_drewN ?_ _ | refine blk_drew ?_ | refine blk_alloc ?_ _)); exact BK223.out⟩, ⟨by repeat (first | (with_reducible first | exact HB.out | apply below_alloc | apply pw_below_drewN | apply below_drew1 | refine below_set ?_ GE223.out) | exact HB.out)⟩⟩
                        · rw [if_neg c19] at H
                          have c19b0 : decide ((a0.size : Int) < ((rd_T32 t214 x6_1).f2)) = false := decide_eq_false c19
                          clear c19
                          have H' := Aside0.mk H
                          clear H
                          have hcz21_0 : w9.cell? ⟨gb223, 0, none⟩ = some (.int .i64 0) := (blk_cell BK223.out 0).trans rfl
                          have hcz21_1 : w9.cell? ⟨gb223, 1, none⟩ = some (.string (⟨#[]⟩ : ByteArray)) := (blk_cell BK223.out 1).trans rfl
                          have hcz21_2 : w9.cell? ⟨gb223, 2, none⟩ = some (.int .i64 0) := (blk_cell BK223.out 2).trans rfl
                          have hfz21_0 := blk_frozen BK223.out 0
                          have hfz21_1 := blk_frozen BK223.out 1
                          have hfz21_2 := blk_frozen BK223.out 2
                          have p224 : 0 ≤ ((ji12) : Int) := of_decide_eq_true (by first | (with_reducible assumption) | assumption)
                          have q224 : (ji12) < (t214.length : Int) := of_decide_eq_true (by first | (with_reducible assumption) | assumption)
                          obtain ⟨ad224, e224, hx224_0, hx224_1, hx224_2⟩ := at_T32 (Kd.R_reads' HO_3.out).2.2 (ji12) p224 q224
                          obtain rfl : ad222 = ad224 := (by injection e224)
                          have hn224_0 : ad222.block ≠ gb223 := Kd.own_blk (Kd.R_away HO_3.out (fun _ hk => hk.2))
                          have hn224_1 : ad222.block ≠ gb223 := Kd.own_blk (Kd.R_away HO_3.out (fun _ hk => hk.2))
                          have hn224_2 : ad222.block ≠ gb223 := Kd.own_blk (Kd.R_away HO_3.out (fun _ hk => hk.2))
                          replace hx224_0 := (cell_far (p := ⟨gb223, 0, none⟩) (by first | (rw [add_block]; exact hn224_0) | (show (Addr.add _ _).block ≠ _; rw [add_block]; exact hn224_0) | exact hn224_0) (.int .i64 ((rd_T32 t214 x6_1).f0))).trans hx224_0
                          replace hx224_1 := (cell_far (p := ⟨gb223, 0, none⟩) (by first | (rw [add_block]; exact hn224_0) | (show (Addr.add _ _).block ≠ _; rw [add_block]; exact hn224_0) | exact hn224_0) (.int .i64 ((rd_T32 t214 x6_1).f0))).trans hx224_1
                          replace hx224_2 := (cell_far (p := ⟨gb223, 0, none⟩) (by first | (rw [add_block]; exact hn224_0) | (show (Addr.add _ _).block ≠ _; rw [add_block]; exact hn224_0) | exact hn224_0) (.int .i64 ((rd_T32 t214 x6_1).f0))).trans hx224_2
                          replace hx224_0 := (cell_far (p := ⟨gb223, 1, none⟩) (by first | (rw [add_block]; exact hn224_1) | (show (Addr.add _ _).block ≠ _; rw [add_block]; exact hn224_1) | exact hn224_1) (.string ((rd_T32 t214 x6_1).f1))).trans hx224_0
                          replace hx224_1 := (cell_far (p := ⟨gb223, 1, none⟩) (by first | (rw [add_block]; exact hn224_1) | (show (Addr.add _ _).block ≠ _; rw [add_block]; exact hn224_1) | exact hn224_1) (.string ((rd_T32 t214 x6_1).f1))).trans hx224_1
                          replace hx224_2 := (cell_far (p := ⟨gb223, 1, none⟩) (by first | (rw [add_block]; exact hn224_1) | (show (Addr.add _ _).block ≠ _; rw [add_block]; exact hn224_1) | exact hn224_1) (.string ((rd_T32 t214 x6_1).f1))).trans hx224_2
                          replace hx224_0 := (cell_far (p := ⟨gb223, 2, none⟩) (by first | (rw [add_block]; exact hn224_2) | (show (Addr.add _ _).block ≠ _; rw [add_block]; exact hn224_2) | exact hn224_2) (.int .i64 ((rd_T32 t214 x6_1).f2))).trans hx224_0
                          replace hx224_1 := (cell_far (p := ⟨gb223, 2, none⟩) (by first | (rw [add_block]; exact hn224_2) | (show (Addr.add _ _).block ≠ _; rw [add_block]; exact hn224_2) | exact hn224_2) (.int .i64 ((rd_T32 t214 x6_1).f2))).trans hx224_1
                          replace hx224_2 := (cell_far (p := ⟨gb223, 2, none⟩) (by first | (rw [add_block]; exact hn224_2) | (show (Addr.add _ _).block ≠ _; rw [add_block]; exact hn224_2) | exact hn224_2) (.int .i64 ((rd_T32 t214 x6_1).f2))).trans hx224_2
                          (try have hy224_0 := fun (n_ : Nat) => (show (((((w9.drewN n_).setCell ⟨gb223, 0, none⟩ (.int .i64 ((rd_T32 t214 x6_1).f0))).setCell ⟨gb223, 1, none⟩ (.string ((rd_T32 t214 x6_1).f1))).setCell ⟨gb223, 2, none⟩ (.int .i64 ((rd_T32 t214 x6_1).f2)))).cell? _ = some _ from hx224_0))
                          (try have hy224_1 := fun (n_ : Nat) => (show (((((w9.drewN n_).setCell ⟨gb223, 0, none⟩ (.int .i64 ((rd_T32 t214 x6_1).f0))).setCell ⟨gb223, 1, none⟩ (.string ((rd_T32 t214 x6_1).f1))).setCell ⟨gb223, 2, none⟩ (.int .i64 ((rd_T32 t214 x6_1).f2)))).cell? _ = some _ from hx224_1))
                          (try have hy224_2 := fun (n_ : Nat) => (show (((((w9.drewN n_).setCell ⟨gb223, 0, none⟩ (.int .i64 ((rd_T32 t214 x6_1).f0))).setCell ⟨gb223, 1, none⟩ (.string ((rd_T32 t214 x6_1).f1))).setCell ⟨gb223, 2, none⟩ (.int .i64 ((rd_T32 t214 x6_1).f2)))).cell? _ = some _ from hx224_2))
                          clear hn224_0
                          clear hn224_1
                          clear hn224_2
                          replace p224 := eq_true p224
                          replace q224 := eq_true q224
                          go_wp2
                          repeat (go_quiet (fail); try go_wp2)
                          go_meet
                          case rel => exact ⟨_, (((((rd_T32 t214 x6_1).f0) == 6) != (x6_1 == (wrap64 ((t214.length : Int) - 1))))), (by first | rfl | (simp; done) | (simp [*]; done)), H', ⟨by have := HK1.out; first | omega | exact Nat.le_refl _⟩, ⟨by (with_reducible repeat (first | apply Kd.R_alloc | apply Kd.R_drewN | apply Kd.R_drew)); exact Kd.R_mono (Kd.R_far (p := ⟨gb223, 2, none⟩) (Kd.R_far (p := ⟨gb223, 1, none⟩) (Kd.R_far (p := ⟨gb223, 0, none⟩) (Kd.R_mono HO_3.out (fun k_ hk => (⟨hk, hk.2⟩ : _ ∧ k_ ≠ gb223))) (fun _ hk => hk.2) (.int .i64 ((rd_T32 t214 x6_1).f0))) (fun _ hk => hk.2) (.string ((rd_T32 t214 x6_1).f1))) (fun _ hk => hk.2) (.int .i64 ((rd_T32 t214 x6_1).f2))) (fun _ hk => hk.1.2)⟩, ⟨by (with_reducible repeat (first | refine blk_drewN ?_ _ | refine blk_drew ?_ | refine blk_alloc ?_ _)); refine blk_put (cs := #[.int .i64 ((rd_T32 t214 x6_1).f0), .string ((rd_T32 t214 x6_1).f1), .int .i64 0]) ?_ 2 _ rfl; (with_reducible repeat (first | refine blk_drewN ?_ _ | refine blk_drew ?_ | refine blk_alloc ?_ _)); refine blk_put (cs := #[.int .i64 ((rd_T32 t214 x6_1).f0), .string (⟨#[]⟩ : ByteArray), .int .i64 0]) ?_ 1 _ rfl; (with_reducible repeat (first | refine blk_drewN ?_ _ | refine blk_drew ?_ | refine blk_alloc ?_ _)); refine blk_put (cs := #[.int .i64 0, .string (⟨#[]⟩ : ByteArray), .int .i64 0]) ?_ 0 _ rfl; (with_reducible repeat (first | refine blk_drewN ?_ _ | refine blk_drew ?_ | refine blk_alloc ?_ _)); exact BK223.out⟩, ⟨by repeat (first | (with_reducible first | exact HB.out | apply below_alloc | apply pw_below_drewN | apply below_drew1 | refine below_set ?_ GE223.out) | exact HB.out)⟩⟩
                  · rw [if_neg c14] at H
                    exact absurd H (by simp)
                · rw [if_neg c13] at H
                  exact absurd H (by simp)
              · rw [if_neg c11] at H
                have c11b0 : decide (0 < x6_1) = false := decide_eq_false c11
                clear c11
                (first | rw [c11b0] | (simp only [i64_w, i32_w]; rw [c11b0]) | skip)
                by_cases c22 : ((rd_T32 t214 x6_1).f2) < 0
                · rw [if_pos c22] at H
                  have c22b0 : decide (((rd_T32 t214 x6_1).f2) < 0) = true := decide_eq_true c22
                  clear c22
                  have H' := Aside0.mk H
                  clear H
                  have hcz23_0 : w9.cell? ⟨gb223, 0, none⟩ = some (.int .i64 0) := (blk_cell BK223.out 0).trans rfl
                  have hcz23_1 : w9.cell? ⟨gb223, 1, none⟩ = some (.string (⟨#[]⟩ : ByteArray)) := (blk_cell BK223.out 1).trans rfl
                  have hcz23_2 : w9.cell? ⟨gb223, 2, none⟩ = some (.int .i64 0) := (blk_cell BK223.out 2).trans rfl
                  have hfz23_0 := blk_frozen BK223.out 0
                  have hfz23_1 := blk_frozen BK223.out 1
                  have hfz23_2 := blk_frozen BK223.out 2
                  go_wp2
                  repeat (go_quiet (fail); try go_wp2)
                  go_meet
                  case rel => exact ⟨_, (true), (by first | rfl | (simp; done) | (simp [*]; done)), H', ⟨by have := HK1.out; first | omega | exact Nat.le_refl _⟩, ⟨by (with_reducible repeat (first | apply Kd.R_alloc | apply Kd.R_drewN | apply Kd.R_drew)); exact Kd.R_mono (Kd.R_far (p := ⟨gb223, 2, none⟩) (Kd.R_far (p := ⟨gb223, 1, none⟩) (Kd.R_far (p := ⟨gb223, 0, none⟩) (Kd.R_mono HO_3.out (fun k_ hk => (⟨hk, hk.2⟩ : _ ∧ k_ ≠ gb223))) (fun _ hk => hk.2) (.int .i64 ((rd_T32 t214 x6_1).f0))) (fun _ hk => hk.2) (.string ((rd_T32 t214 x6_1).f1))) (fun _ hk => hk.2) (.int .i64 ((rd_T32 t214 x6_1).f2))) (fun _ hk => hk.1.2)⟩, ⟨by (with_reducible repeat (first | refine blk_drewN ?_ _ | refine blk_drew ?_ | refine blk_alloc ?_ _)); refine blk_put (cs := #[.int .i64 ((rd_T32 t214 x6_1).f0), .string ((rd_T32 t214 x6_1).f1), .int .i64 0]) ?_ 2 _ rfl; (with_reducible repeat (first | refine blk_drewN ?_ _ | refine blk_drew ?_ | refine blk_alloc ?_ _)); refine blk_put (cs := #[.int .i64 ((rd_T32 t214 x6_1).f0), .string (⟨#[]⟩ : ByteArray), .int .i64 0]) ?_ 1 _ rfl; (with_reducible repeat (first | refine blk_drewN ?_ _ | refine blk_drew ?_ | refine blk_alloc ?_ _)); refine blk_put (cs := #[.int .i64 0, .string (⟨#[]⟩ : ByteArray), .int .i64 0]) ?_ 0 _ rfl; (with_reducible repeat (first | refine blk_drewN ?_ _ | refine blk_drew ?_ | refine blk_alloc ?_ _)); exact BK223.out⟩, ⟨by repeat (first | (with_reducible first | exact HB.out | apply below_alloc | apply pw_below_drewN | apply below_drew1 | refine below_set ?_ GE223.out) | exact HB.out)⟩⟩
                · rw [if_neg c22] at H
                  have c22b0 : decide (((rd_T32 t214 x6_1).f2) < 0) = false := decide_eq_false c22
                  clear c22
                  by_cases c24 : ((rd_T32 t214 x6_1).f2) > (a0.size : Int)
                  · rw [if_pos c24] at H
                    have c24b0 : decide ((a0.size : Int) < ((rd_T32 t214 x6_1).f2)) = true := decide_eq_true c24
                    clear c24
                    have H' := Aside0.mk H
                    clear H
                    have hcz25_0 : w9.cell? ⟨gb223, 0, none⟩ = some (.int .i64 0) := (blk_cell BK223.out 0).trans rfl
                    have hcz25_1 : w9.cell? ⟨gb223, 1, none⟩ = some (.string (⟨#[]⟩ : ByteArray)) := (blk_cell BK223.out 1).trans rfl
                    have hcz25_2 : w9.cell? ⟨gb223, 2, none⟩ = some (.int .i64 0) := (blk_cell BK223.out 2).trans rfl
                    have hfz25_0 := blk_frozen BK223.out 0
                    have hfz25_1 := blk_frozen BK223.out 1
                    have hfz25_2 := blk_frozen BK223.out 2
                    go_wp2
                    repeat (go_quiet (fail); try go_wp2)
                    go_meet
                    case rel => exact ⟨_, (true), (by first | rfl | (simp; done) | (simp [*]; done)), H', ⟨by have := HK1.out; first | omega | exact Nat.le_refl _⟩, ⟨by (with_reducible repeat (first | apply Kd.R_alloc | apply Kd.R_drewN | apply Kd.R_drew)); exact Kd.R_mono (Kd.R_far (p := ⟨gb223, 2, none⟩) (Kd.R_far (p := ⟨gb223, 1, none⟩) (Kd.R_far (p := ⟨gb223, 0, none⟩) (Kd.R_mono HO_3.out (fun k_ hk => (⟨hk, hk.2⟩ : _ ∧ k_ ≠ gb223))) (fun _ hk => hk.2) (.int .i64 ((rd_T32 t214 x6_1).f0))) (fun _ hk => hk.2) (.string ((rd_T32 t214 x6_1).f1))) (fun _ hk => hk.2) (.int .i64 ((rd_T32 t214 x6_1).f2))) (fun _ hk => hk.1.2)⟩, ⟨by (with_reducible repeat (first | refine blk_drewN ?_ _ | refine blk_drew ?_ | refine blk_alloc ?_ _)); refine blk_put (cs := #[.int .i64 ((rd_T32 t214 x6_1).f0), .string ((rd_T32 t214 x6_1).f1), .int .i64 0]) ?_ 2 _ rfl; (with_reducible repeat (first | refine blk_drewN ?_ _ | refine blk_drew ?_ | refine blk_alloc ?_ _)); refine blk_put (cs := #[.int .i64 ((rd_T32 t214 x6_1).f0), .string (⟨#[]⟩ : ByteArray), .int .i64 0]) ?_ 1 _ rfl; (with_reducible repeat (first | refine blk_drewN ?_ _ | refine blk_drew ?_ | refine blk_alloc ?_ _)); refine blk_put (cs := #[.int .i64 0, .string (⟨#[]⟩ : ByteArray), .int .i64 0]) ?_ 0 _ rfl; (with_reducible repeat (first | refine blk_drewN ?_ _ | refine blk_drew ?_ | refine blk_alloc ?_ _)); exact BK223.out⟩, ⟨by repeat (first | (with_reducible first | exact HB.out | apply below_alloc | apply pw_below_drewN | apply below_drew1 | refine below_set ?_ GE223.out) | exact HB.out)⟩⟩
                  · rw [if_neg c24] at H
                    have c24b0 : decide ((a0.size : Int) < ((rd_T32 t214 x6_1).f2)) = false := decide_eq_false c24
                    clear c24
                    have H' := Aside0.mk H
                    clear H
                    have hcz26_0 : w9.cell? ⟨gb223, 0, none⟩ = some (.int .i64 0) := (blk_cell BK223.out 0).trans rfl
                    have hcz26_1 : w9.cell? ⟨gb223, 1, none⟩ = some (.string (⟨#[]⟩ : ByteArray)) := (blk_cell BK223.out 1).trans rfl
                    have hcz26_2 : w9.cell? ⟨gb223, 2, none⟩ = some (.int .i64 0) := (blk_cell BK223.out 2).trans rfl
                    have hfz26_0 := blk_frozen BK223.out 0
                    have hfz26_1 := blk_frozen BK223.out 1
                    have hfz26_2 := blk_frozen BK223.out 2
                    go_wp2
                    repeat (go_quiet (fail); try go_wp2)
                    go_meet
                    case rel => exact ⟨_, (((((rd_T32 t214 x6_1).f0) == 6) != (x6_1 == (wrap64 ((t214.length : Int) - 1))))), (by first | rfl | (simp; done) | (simp [*]; done)), H', ⟨by have := HK1.out; first | omega | exact Nat.le_refl _⟩, ⟨by (with_reducible repeat (first | apply Kd.R_alloc | apply Kd.R_drewN | apply Kd.R_drew)); exact Kd.R_mono (Kd.R_far (p := ⟨gb223, 2, none⟩) (Kd.R_far (p := ⟨gb223, 1, none⟩) (Kd.R_far (p := ⟨gb223, 0, none⟩) (Kd.R_mono HO_3.out (fun k_ hk => (⟨hk, hk.2⟩ : _ ∧ k_ ≠ gb223))) (fun _ hk => hk.2) (.int .i64 ((rd_T32 t214 x6_1).f0))) (fun _ hk => hk.2) (.string ((rd_T32 t214 x6_1).f1))) (fun _ hk => hk.2) (.int .i64 ((rd_T32 t214 x6_1).f2))) (fun _ hk => hk.1.2)⟩, ⟨by (with_reducible repeat (first | refine blk_drewN ?_ _ | refine blk_drew ?_ | refine blk_alloc ?_ _)); refine blk_put (cs := #[.int .i64 ((rd_T32 t214 x6_1).f0), .string ((rd_T32 t214 x6_1).f1), .int .i64 0]) ?_ 2 _ rfl; (with_reducible repeat (first | refine blk_drewN ?_ _ | refine blk_drew ?_ | refine blk_alloc ?_ _)); refine blk_put (cs := #[.int .i64 ((rd_T32 t214 x6_1).f0), .string (⟨#[]⟩ : ByteArray), .int .i64 0]) ?_ 1 _ rfl; (with_reducible repeat (first | refine blk_drewN ?_ _ | refine blk_drew ?_ | refine blk_alloc ?_ _)); refine blk_put (cs := #[.int .i64 0, .string (⟨#[]⟩ : ByteArray), .int .i64 0]) ?_ 0 _ rfl; (with_reducible repeat (first | refine blk_drewN ?_ _ | refine blk_drew ?_ | refine blk_alloc ?_ _)); exact BK223.out⟩, ⟨by repeat (first | (with_reducible first | exact HB.out | apply below_alloc | apply pw_below_drewN | apply below_drew1 | refine below_set ?_ GE223.out) | exact HB.out)⟩⟩
            case rest =>
              clear HC7
              try clear c1
              try clear c2
              try clear p2
              try clear q2
              try clear hx2
              try clear c3
              try clear c3b0
              try clear c3b1
              try clear c5
              try clear c5b0
              try clear c6
              try clear c6b0
              try clear p6
              try clear c11
              try clear c11b0
              try clear c13
              try clear c13b0
              try clear c14
              try clear c14b0
              try clear c15
              try clear c15b0
              try clear c17
              try clear c17b0
              try clear c19
              try clear c19b0
              try clear c22
              try clear c22b0
              try clear p22
              try clear q22
              try clear hx22
              try clear c24
              try clear c24b0
              try clear hcz10_0
              try clear hcz10_1
              try clear hcz10_2
              try clear hcz16_0
              try clear hcz16_1
              try clear hcz16_2
              try clear hcz18_0
              try clear hcz18_1
              try clear hcz18_2
              try clear hcz20_0
              try clear hcz20_1
              try clear hcz20_2
              try clear hcz21_0
              try clear hcz21_1
              try clear hcz21_2
              try clear hcz23_0
              try clear hcz23_1
              try clear hcz23_2
              try clear hcz25_0
              try clear hcz25_1
              try clear hcz25_2
              try clear hcz26_0
              try clear hcz26_1
              try clear hcz26_2
              try clear hfz10_0
              try clear hfz10_1
              try clear hfz10_2
              try clear hfz16_0
              try clear hfz16_1
              try clear hfz16_2
              try clear hfz18_0
              try clear hfz18_1
              try clear hfz18_2
              try clear hfz20_0
              try clear hfz20_1
              try clear hfz20_2
              try clear hfz21_0
              try clear hfz21_1
              try clear hfz21_2
              try clear hfz23_0
              try clear hfz23_1
              try clear hfz23_2
              try clear hfz25_0
              try clear hfz25_1
              try clear hfz25_2
              try clear hfz26_0
              try clear hfz26_1
              try clear hfz26_2
              try clear hx222_0
              try clear hx222_1
              try clear hx222_2
              try clear hx224_0
              try clear hx224_1
              try clear hx224_2
              try clear p2
              try clear p222
              try clear p224
              try clear q222
              try clear q224
              obtain ⟨kq, x77_6, rfl, HA, HJ6, HO_3, BK223, HB⟩ := hcut
              cases kq with
              | zero => exact absurd HA.out (by simp [haruspexlaw17_LexPlaces.j1])
              | succ kj6 =>
                have H := HA.out
                clear HA
                simp only [haruspexlaw17_LexPlaces.j1] at H
                by_cases c27 : x77_6 = true
                · subst c27
                  have H1 : (none) = some r := by rw [if_pos rfl] at H; exact H
                  clear H
                  have H := H1
                  clear H1
                  exact absurd H (by simp)
                · replace c27 := Bool.eq_false_iff.mpr c27
                  subst c27
                  have H1 : (if ((rd_T32 t214 x6_1).f0) = 4 then (haruspexlaw17_LexPlaces.l0 kj6 a0 t214 (wrap64 (x6_1 + 1))) else (if (wrap64 (((rd_T32 t214 x6_1).f2) + (((rd_T32 t214 x6_1).f1).size : Int))) > (a0.size : Int) then (none) else (if 0 ≤ ((rd_T32 t214 x6_1).f2) then (if ((rd_T32 t214 x6_1).f2) ≤ (wrap64 (((rd_T32 t214 x6_1).f2) + (((rd_T32 t214 x6_1).f1).size : Int))) then (if (wrap64 (((rd_T32 t214 x6_1).f2) + (((rd_T32 t214 x6_1).f1).size : Int))) ≤ (a0.size : Int) then (if (a0.extract (((rd_T32 t214 x6_1).f2) : Int).toNat ((wrap64 (((rd_T32 t214 x6_1).f2) + (((rd_T32 t214 x6_1).f1).size : Int))) : Int).toNat).toList = ((rd_T32 t214 x6_1).f1).toList then (haruspexlaw17_LexPlaces.l0 kj6 a0 t214 (wrap64 (x6_1 + 1))) else (none)) else (none)) else (none)) else (none)))) = some r := by rw [if_neg (show ¬ (false = true) by decide)] at H; exact H
                  clear H
                  have H := H1
                  clear H1
                  by_cases c28 : ((rd_T32 t214 x6_1).f0) = 4
                  · rw [if_pos c28] at H
                    have c28b0 : (((rd_T32 t214 x6_1).f0) == 4) = true := beq_iff_eq.mpr c28
                    have c28b1 : (((rd_T32 t214 x6_1).f0) != 4) = false := bne_eq_false_iff_eq.mpr c28
                    clear c28
                    have H' := Aside0.mk H
                    clear H
                    have hcz29_0 : wc.cell? ⟨gb223, 0, none⟩ = some (.int .i64 ((rd_T32 t214 x6_1).f0)) := (blk_cell BK223.out 0).trans rfl
                    have hcz29_1 : wc.cell? ⟨gb223, 1, none⟩ = some (.string ((rd_T32 t214 x6_1).f1)) := (blk_cell BK223.out 1).trans rfl
                    have hcz29_2 : wc.cell? ⟨gb223, 2, none⟩ = some (.int .i64 ((rd_T32 t214 x6_1).f2)) := (blk_cell BK223.out 2).trans rfl
                    have hfz29_0 := blk_frozen BK223.out 0
                    have hfz29_1 := blk_frozen BK223.out 1
                    have hfz29_2 := blk_frozen BK223.out 2
                    go_wp2
                    repeat (go_quiet (fail); try go_wp2)
                    go_roundg kj6
                    case measure => have := HK1.out; have := HJ6.out; omega
                    case rel => exact ⟨(wrap64 (x6_1 + 1)), (by first | rfl | (simp; done) | (simp [*]; done)), H', ⟨by have := HK1.out; have := HJ6.out; omega⟩, ⟨by (with_reducible repeat (first | apply Kd.R_alloc | apply Kd.R_drewN | apply Kd.R_drew)); exact Kd.R_mono HO_3.out (fun _ hk => trivial)⟩, ⟨by repeat (first | (with_reducible first | exact HB.out | apply below_alloc | apply pw_below_drewN | apply below_drew1 | refine below_set ?_ GE223.out) | exact HB.out)⟩⟩
                  · rw [if_neg c28] at H
                    have c28b0 : (((rd_T32 t214 x6_1).f0) == 4) = false := beq_eq_false_iff_ne.mpr c28
                    have c28b1 : (((rd_T32 t214 x6_1).f0) != 4) = true := bne_iff_ne.mpr c28
                    by_cases c30 : (wrap64 (((rd_T32 t214 x6_1).f2) + (((rd_T32 t214 x6_1).f1).size : Int))) > (a0.size : Int)
                    · rw [if_pos c30] at H
                      exact absurd H (by simp)
                    · rw [if_neg c30] at H
                      have c30b0 : decide ((a0.size : Int) < (wrap64 (((rd_T32 t214 x6_1).f2) + (((rd_T32 t214 x6_1).f1).size : Int)))) = false := decide_eq_false c30
                      clear c30
                      by_cases c31 : 0 ≤ ((rd_T32 t214 x6_1).f2)
                      · rw [if_pos c31] at H
                        have c31b0 := eq_true c31
                        have c31b1 : decide (0 ≤ ((rd_T32 t214 x6_1).f2)) = true := decide_eq_true c31
                        clear c31
                        by_cases c32 : ((rd_T32 t214 x6_1).f2) ≤ (wrap64 (((rd_T32 t214 x6_1).f2) + (((rd_T32 t214 x6_1).f1).size : Int)))
                        · rw [if_pos c32] at H
                          have c32b0 := eq_true c32
                          have c32b1 : decide (((rd_T32 t214 x6_1).f2) ≤ (wrap64 (((rd_T32 t214 x6_1).f2) + (((rd_T32 t214 x6_1).f1).size : Int)))) = true := decide_eq_true c32
                          by_cases c33 : (wrap64 (((rd_T32 t214 x6_1).f2) + (((rd_T32 t214 x6_1).f1).size : Int))) ≤ (a0.size : Int)
                          · rw [if_pos c33] at H
                            have c33b0 := eq_true c33
                            have c33b1 : decide ((wrap64 (((rd_T32 t214 x6_1).f2) + (((rd_T32 t214 x6_1).f1).size : Int))) ≤ (a0.size : Int)) = true := decide_eq_true c33
                            by_cases c34 : (a0.extract (((rd_T32 t214 x6_1).f2) : Int).toNat ((wrap64 (((rd_T32 t214 x6_1).f2) + (((rd_T32 t214 x6_1).f1).size : Int))) : Int).toNat).toList = ((rd_T32 t214 x6_1).f1).toList
                            · rw [if_pos c34] at H
                              have c34b0 : ((a0.extract (((rd_T32 t214 x6_1).f2) : Int).toNat ((wrap64 (((rd_T32 t214 x6_1).f2) + (((rd_T32 t214 x6_1).f1).size : Int))) : Int).toNat).toList == ((rd_T32 t214 x6_1).f1).toList) = true := beq_iff_eq.mpr c34
                              have c34b1 : ((a0.extract (((rd_T32 t214 x6_1).f2) : Int).toNat ((wrap64 (((rd_T32 t214 x6_1).f2) + (((rd_T32 t214 x6_1).f1).size : Int))) : Int).toNat).toList != ((rd_T32 t214 x6_1).f1).toList) = false := bne_eq_false_iff_eq.mpr c34
                              clear c34
                              have H' := Aside0.mk H
                              clear H
                              have hcz35_0 : wc.cell? ⟨gb223, 0, none⟩ = some (.int .i64 ((rd_T32 t214 x6_1).f0)) := (blk_cell BK223.out 0).trans rfl
                              have hcz35_1 : wc.cell? ⟨gb223, 1, none⟩ = some (.string ((rd_T32 t214 x6_1).f1)) := (blk_cell BK223.out 1).trans rfl
                              have hcz35_2 : wc.cell? ⟨gb223, 2, none⟩ = some (.int .i64 ((rd_T32 t214 x6_1).f2)) := (blk_cell BK223.out 2).trans rfl
                              have hfz35_0 := blk_frozen BK223.out 0
                              have hfz35_1 := blk_frozen BK223.out 1
                              have hfz35_2 := blk_frozen BK223.out 2
                              go_wp2
                              repeat (go_quiet (fail); try go_wp2)
                              go_roundg kj6
                              case measure => have := HK1.out; have := HJ6.out; omega
                              case rel => exact ⟨(wrap64 (x6_1 + 1)), (by first | rfl | (simp; done) | (simp [*]; done)), H', ⟨by have := HK1.out; have := HJ6.out; omega⟩, ⟨by (with_reducible repeat (first | apply Kd.R_alloc | apply Kd.R_drewN | apply Kd.R_drew)); exact Kd.R_mono HO_3.out (fun _ hk => trivial)⟩, ⟨by repeat (first | (with_reducible first | exact HB.out | apply below_alloc | apply pw_below_drewN | apply below_drew1 | refine below_set ?_ GE223.out) | exact HB.out)⟩⟩
                            · rw [if_neg c34] at H
                              exact absurd H (by simp)
                          · rw [if_neg c33] at H
                            exact absurd H (by simp)
                        · rw [if_neg c32] at H
                          exact absurd H (by simp)
                      · rw [if_neg c31] at H
                        exact absurd H (by simp)
          · rw [if_neg c6] at H
            exact absurd H (by simp)
        · rw [if_neg c5] at H
          have c5b0 : decide (x6_1 < (t214.length : Int)) = false := decide_eq_false c5
          clear c5
          by_cases c36 : (t214.length : Int) > 0
          · rw [if_pos c36] at H
            have c36b0 : decide (0 < (t214.length : Int)) = true := decide_eq_true c36
            have c36b1 : decide (0 < t214.length) = true := decide_eq_true (by omega)
            clear c36
            obtain ⟨ji37, hji37⟩ : ∃ j_ : Int, (wrap64 ((t214.length : Int) - 1)) = j_ := ⟨_, rfl⟩
            replace H : (if 0 ≤ (ji37) then (if (ji37) < (t214.length : Int) then (if ((rd_T32 t214 (ji37)).f2) = (a0.size : Int) then ((haruspexlaw17_awake.f k1).bind fun t221 => (some t221)) else (none)) else (none)) else (none)) = some r := by first | (rw [hji37] at H; exact H) | (simp only [hji37] at H ⊢; exact H)
            have hji37w : (IntKind.i64.wrap ((t214.length : Int) - 1)) = ji37 := (i64_w _).trans hji37
            by_cases c38 : 0 ≤ (ji37)
            · rw [if_pos c38] at H
              have c38b0 : decide (0 ≤ (ji37)) = true := decide_eq_true c38
              clear c38
              by_cases c39 : (ji37) < (t214.length : Int)
              · rw [if_pos c39] at H
                have c39b0 : decide ((ji37) < (t214.length : Int)) = true := decide_eq_true c39
                clear c39
                by_cases c40 : ((rd_T32 t214 (ji37)).f2) = (a0.size : Int)
                · rw [if_pos c40] at H
                  have c40b0 : (((rd_T32 t214 (ji37)).f2) == (a0.size : Int)) = true := beq_iff_eq.mpr c40
                  have c40b1 : (((rd_T32 t214 (ji37)).f2) != (a0.size : Int)) = false := bne_eq_false_iff_eq.mpr c40
                  clear c40
                  replace H := Option.bind_eq_some_iff.mp H
                  obtain ⟨t221, A410, H⟩ := H
                  replace H : (some t221) = some r := H
                  have A41 := Aside0.mk A410
                  clear A410
                  obtain rfl := Option.some.inj H
                  obtain ⟨Ao42, co42, eo42⟩ := Kd.R_slice HO_3.out
                  subst eo42
                  have p220 : 0 ≤ ((ji37) : Int) := of_decide_eq_true (by first | (with_reducible assumption) | assumption)
                  have q220 : (ji37) < (t214.length : Int) := of_decide_eq_true (by first | (with_reducible assumption) | assumption)
                  obtain ⟨ad220, e220, hx220_0, hx220_1, hx220_2⟩ := at_T32 (Kd.R_reads' HO_3.out).2.2 (ji37) p220 q220
                  cases e220
                  replace p220 := eq_true p220
                  replace q220 := eq_true q220
                  go_wp2_with (first | (go_at_call 19; (with_reducible refine (haruspexlaw17_awake.calls k1  t221 _ A41.out).mono ?_); rintro e w43 ⟨rfl, hb⟩; have n0_ := Aside0.mk (Kd.R_below (by (with_reducible repeat (first | apply Kd.R_alloc | apply Kd.R_drewN | apply Kd.R_drew)); exact HO_3.out) hb); have n1_ := Aside0.mk (below_step (by repeat (first | (with_reducible first | exact HB.out | apply below_alloc | apply pw_below_drewN | apply below_drew1) | exact HB.out)) hb); clear HO_3; clear HB; have HO_3 := n0_; have HB := n1_; clear n0_ n1_; (try clear hb); (try clear hb2); (try clear hk); (try clear hi)))
                  repeat (go_quiet (first | (go_at_call 19; (with_reducible refine (haruspexlaw17_awake.calls k1  t221 _ A41.out).mono ?_); rintro e w43 ⟨rfl, hb⟩; have n0_ := Aside0.mk (Kd.R_below (by (with_reducible repeat (first | apply Kd.R_alloc | apply Kd.R_drewN | apply Kd.R_drew)); exact HO_3.out) hb); have n1_ := Aside0.mk (below_step (by repeat (first | (with_reducible first | exact HB.out | apply below_alloc | apply pw_below_drewN | apply below_drew1) | exact HB.out)) hb); clear HO_3; clear HB; have HO_3 := n0_; have HB := n1_; clear n0_ n1_; (try clear hb); (try clear hb2); (try clear hk); (try clear hi))); try go_wp2_with (first | (go_at_call 19; (with_reducible refine (haruspexlaw17_awake.calls k1  t221 _ A41.out).mono ?_); rintro e w43 ⟨rfl, hb⟩; have n0_ := Aside0.mk (Kd.R_below (by (with_reducible repeat (first | apply Kd.R_alloc | apply Kd.R_drewN | apply Kd.R_drew)); exact HO_3.out) hb); have n1_ := Aside0.mk (below_step (by repeat (first | (with_reducible first | exact HB.out | apply below_alloc | apply pw_below_drewN | apply below_drew1) | exact HB.out)) hb); clear HO_3; clear HB; have HO_3 := n0_; have HB := n1_; clear n0_ n1_; (try clear hb); (try clear hb2); (try clear hk); (try clear hi))))
                  go_ret
                  exact ⟨by first | rfl | (simp [errW_none, errW_some] <;> rfl) | (simp only [← hji37]; first | rfl | (simp [errW_none, errW_some] <;> rfl)) | (simp [*, errW_none, errW_some] <;> rfl), by repeat (first | (with_reducible first | exact HB.out | apply below_alloc | apply pw_below_drewN | apply below_drew1) | exact HB.out)⟩
                · rw [if_neg c40] at H
                  exact absurd H (by simp)
              · rw [if_neg c39] at H
                exact absurd H (by simp)
            · rw [if_neg c38] at H
              exact absurd H (by simp)
          · rw [if_neg c36] at H
            exact absurd H (by simp)
  · rw [if_neg c3] at H
    have c3b0 : (t216 == 0) = false := beq_eq_false_iff_ne.mpr c3
    have c3b1 : (t216 != 0) = true := bne_iff_ne.mpr c3
    by_cases c44 : (t214.length : Int) = 0
    · rw [if_pos c44] at H
      have c44b0 : ((t214.length : Int) == 0) = true := beq_iff_eq.mpr c44
      have c44b1 : ((t214.length : Int) != 0) = false := bne_eq_false_iff_eq.mpr c44
      clear c44
      by_cases c45 : t215 ≥ 0
      · rw [if_pos c45] at H
        have c45b0 : decide (0 ≤ t215) = true := decide_eq_true c45
        clear c45
        by_cases c46 : t215 ≤ (a0.size : Int)
        · rw [if_pos c46] at H
          have c46b0 : decide (t215 ≤ (a0.size : Int)) = true := decide_eq_true c46
          clear c46
          replace H := Option.bind_eq_some_iff.mp H
          obtain ⟨t219, A470, H⟩ := H
          replace H : (some t219) = some r := H
          have A47 := Aside0.mk A470
          clear A470
          obtain rfl := Option.some.inj H
          go_enter Try.func6, Try.ntmps6
          go_wp2_with (first | (go_at_call 17; (with_reducible refine (lex_All.calls k a0 t214 t215 t216 _ A2.out).mono ?_); rintro e w48 ⟨v217, rfl, ho0, hb⟩; have n0_ := Aside0.mk (Kd.R_lower ho0 (below_size (by repeat (first | (with_reducible first | exact HB.out | apply below_alloc | apply pw_below_drewN | apply below_drew1) | exact HB.out)))); have n1_ := Aside0.mk (below_step (by repeat (first | (with_reducible first | exact HB.out | apply below_alloc | apply pw_below_drewN | apply below_drew1) | exact HB.out)) hb); clear HB; have HO218 := n0_; have HB := n1_; clear n0_ n1_; (try clear hb); (try clear hb2); (try clear hk); (try clear hi); (try clear ho0); obtain ⟨Ao49, co49, eo49⟩ := Kd.R_slice HO218.out; subst eo49) | (go_at_call 19; (with_reducible refine (haruspexlaw17_awake.calls k  t219 _ A47.out).mono ?_); rintro e w50 ⟨rfl, hb⟩; have n0_ := Aside0.mk (Kd.R_below (by (with_reducible repeat (first | apply Kd.R_alloc | apply Kd.R_drewN | apply Kd.R_drew)); exact HO218.out) hb); have n1_ := Aside0.mk (below_step (by repeat (first | (with_reducible first | exact HB.out | apply below_alloc | apply pw_below_drewN | apply below_drew1) | exact HB.out)) hb); clear HO218; clear HB; have HO218 := n0_; have HB := n1_; clear n0_ n1_; (try clear hb); (try clear hb2); (try clear hk); (try clear hi)))
          repeat (go_quiet (first | (go_at_call 17; (with_reducible refine (lex_All.calls k a0 t214 t215 t216 _ A2.out).mono ?_); rintro e w48 ⟨v217, rfl, ho0, hb⟩; have n0_ := Aside0.mk (Kd.R_lower ho0 (below_size (by repeat (first | (with_reducible first | exact HB.out | apply below_alloc | apply pw_below_drewN | apply below_drew1) | exact HB.out)))); have n1_ := Aside0.mk (below_step (by repeat (first | (with_reducible first | exact HB.out | apply below_alloc | apply pw_below_drewN | apply below_drew1) | exact HB.out)) hb); clear HB; have HO218 := n0_; have HB := n1_; clear n0_ n1_; (try clear hb); (try clear hb2); (try clear hk); (try clear hi); (try clear ho0); obtain ⟨Ao49, co49, eo49⟩ := Kd.R_slice HO218.out; subst eo49) | (go_at_call 19; (with_reducible refine (haruspexlaw17_awake.calls k  t219 _ A47.out).mono ?_); rintro e w50 ⟨rfl, hb⟩; have n0_ := Aside0.mk (Kd.R_below (by (with_reducible repeat (first | apply Kd.R_alloc | apply Kd.R_drewN | apply Kd.R_drew)); exact HO218.out) hb); have n1_ := Aside0.mk (below_step (by repeat (first | (with_reducible first | exact HB.out | apply below_alloc | apply pw_below_drewN | apply below_drew1) | exact HB.out)) hb); clear HO218; clear HB; have HO218 := n0_; have HB := n1_; clear n0_ n1_; (try clear hb); (try clear hb2); (try clear hk); (try clear hi))); try go_wp2_with (first | (go_at_call 17; (with_reducible refine (lex_All.calls k a0 t214 t215 t216 _ A2.out).mono ?_); rintro e w48 ⟨v217, rfl, ho0, hb⟩; have n0_ := Aside0.mk (Kd.R_lower ho0 (below_size (by repeat (first | (with_reducible first | exact HB.out | apply below_alloc | apply pw_below_drewN | apply below_drew1) | exact HB.out)))); have n1_ := Aside0.mk (below_step (by repeat (first | (with_reducible first | exact HB.out | apply below_alloc | apply pw_below_drewN | apply below_drew1) | exact HB.out)) hb); clear HB; have HO218 := n0_; have HB := n1_; clear n0_ n1_; (try clear hb); (try clear hb2); (try clear hk); (try clear hi); (try clear ho0); obtain ⟨Ao49, co49, eo49⟩ := Kd.R_slice HO218.out; subst eo49) | (go_at_call 19; (with_reducible refine (haruspexlaw17_awake.calls k  t219 _ A47.out).mono ?_); rintro e w50 ⟨rfl, hb⟩; have n0_ := Aside0.mk (Kd.R_below (by (with_reducible repeat (first | apply Kd.R_alloc | apply Kd.R_drewN | apply Kd.R_drew)); exact HO218.out) hb); have n1_ := Aside0.mk (below_step (by repeat (first | (with_reducible first | exact HB.out | apply below_alloc | apply pw_below_drewN | apply below_drew1) | exact HB.out)) hb); clear HO218; clear HB; have HO218 := n0_; have HB := n1_; clear n0_ n1_; (try clear hb); (try clear hb2); (try clear hk); (try clear hi))))
          go_ret
          exact ⟨by first | rfl | (simp [errW_none, errW_some] <;> rfl) | (simp [*, errW_none, errW_some] <;> rfl), by repeat (first | (with_reducible first | exact HB.out | apply below_alloc | apply pw_below_drewN | apply below_drew1) | exact HB.out)⟩
        · rw [if_neg c46] at H
          exact absurd H (by simp)
      · rw [if_neg c45] at H
        exact absurd H (by simp)
    · rw [if_neg c44] at H
      exact absurd H (by simp)

/-- THE ONE PURE STATEMENT of haruspexlaw17_LexPlaces: yours. -/
def haruspexlaw17_LexPlaces.Pure : Prop := ∀ (a0 : ByteArray), a0.size ≤ 140737488351232 → ∃ k, haruspexlaw17_LexPlaces.f k a0 = some true
theorem haruspexlaw17_LexPlaces.walk (P : haruspexlaw17_LexPlaces.Pure) (a0 : ByteArray) (w : World) (w0 : a0.size ≤ 140737488351232) :
    Calls Try.prog 6 #[.string a0] w fun e w' => e = .returned (.bool true) ∧ Below w.heap.size w w' := by
  obtain ⟨k, h⟩ := P a0 w0
  refine (haruspexlaw17_LexPlaces.calls k a0 true w h).mono ?_
  rintro e w' ⟨rfl, hd⟩
  exact ⟨rfl, hd⟩

end Go.Proofs.Ytkbngfelegcplaa.PAll
