/- LexPlays: any acts of a reader of any text: the walk over both readers' contracts. No condition. -/
import Derived.Test.YtkbngfelegcplaaRefReader
import Derived.Deep.CutRange
import Derived.Deep.CutBlock
set_option linter.unusedVariables false
set_option linter.unusedSimpArgs false
namespace Go.Proofs.Ytkbngfelegcplaa.PAll
open Go.RowKit Go.Proofs.YtkbngfelegcplaaW.PrintWords Go.Proofs.YtkbngfelegcplaaW.PrintLast Go.Proofs.YtkbngfelegcplaaW.PrintMore
attribute [local go_sem] max2_int min2_int max_two min_two max_three min_three max_four min_four
namespace Reader

/-- what the plain law tells of a text: its tokens, by both; what its numbers are; that the program computes at all -/
structure Told (s : ByteArray) (K : Nat) (l : List S32) (n er : Int) (pn pe : Nat → Int) : Prop where
  lex : lex_All.f K s = some (l, n, er)
  ref : haruspexref17_All.f K s = some (l, n, er)
  few : er = 0 → l.length ≤ 100000 ∧ 0 < l.length ∧ ∀ j, j + 1 = l.length → (rd_T32 l (j : Int)).f0 = 6
  num : ∀ j, j < l.length → num_Parse.f K (now l j).f1 = some (pn j, pe j) ∧ haruspexref04_Parse.f K (now l j).f1 = some (pn j, pe j)
  wake : haruspexlaw17_awake.f K = some true
theorem str_at {w : World} {A : Option Addr} {ws : List ByteArray} (h : Kd.C Kd.string w A ws.length ws) (k : Nat) (hk : k < ws.length) : ∃ a, A = some a ∧ ∀ W, Below w.heap.size w W → W.cell? (a.add k) = some (.string (ws.getD k ByteArray.empty)) := by
  obtain ⟨a, ea, hx⟩ := (Kd.reads_of_C (enc := Value.string) (d := ByteArray.empty) (h1 := fun _ => rfl) h).2.2 (by omega)
  refine ⟨a, ea, fun W hW => ?_⟩
  obtain ⟨ad, e, hy⟩ := (Kd.reads_of_C (enc := Value.string) (d := ByteArray.empty) (h1 := fun _ => rfl) (Kd.C_below h hW)).2.2 (by omega)
  rw [ea] at e
  injection e with e
  subst e
  exact hy k hk
theorem int_at {w : World} {A : Option Addr} {kd : IntKind} {xs : List Int} (h : Kd.C (Kd.int kd) w A xs.length xs) (k : Nat) (hk : k < xs.length) : ∃ a, A = some a ∧ ∀ W, Below w.heap.size w W → W.cell? (a.add k) = some (.int kd (xs.getD k 0)) := by
  obtain ⟨a, ea, hx⟩ := (Kd.reads_of_C (enc := Value.int kd) (d := 0) (h1 := fun _ => rfl) h).2.2 (by omega)
  refine ⟨a, ea, fun W hW => ?_⟩
  obtain ⟨ad, e, hy⟩ := (Kd.reads_of_C (enc := Value.int kd) (d := 0) (h1 := fun _ => rfl) (Kd.C_below h hW)).2.2 (by omega)
  rw [ea] at e
  injection e with e
  subst e
  exact hy k hk
theorem new_rd_ok (s : ByteArray) (K : Nat) (l : List S32) (n : Int) (hf : lex_All.f K s = some (l, n, 0)) (hl : l.length ≤ 100000 ∧ 0 < l.length ∧ ∀ j, j + 1 = l.length → (rd_T32 l (j : Int)).f0 = 6) (w : World) :
    Calls Try.prog 20 #[.string s] w fun e w' => ∃ g A c, e = .returned (.tuple #[.pointer (some ⟨g, 0, none⟩), .int .i64 n, .int .i64 0]) ∧ Below w.heap.size w w' ∧ Rd 25 w w' g A c l 0 ∧ w.heap.size ≤ A.block ∧ A.block < w'.heap.size :=
  (new_rd s K l n 0 hf (fun _ => hl) w).mono fun e w' h => by
    obtain ⟨hb, (⟨h0, _⟩ | ⟨_, g, A, c, he, hr, h1, h2⟩)⟩ := h
    · exact absurd rfl h0
    · exact ⟨g, A, c, he, hb, hr, h1, h2⟩
theorem new_rd_no (s : ByteArray) (K : Nat) (l : List S32) (n er : Int) (hf : lex_All.f K s = some (l, n, er)) (he : er ≠ 0) (w : World) :
    Calls Try.prog 20 #[.string s] w fun e w' => e = .returned (.tuple #[.pointer none, .int .i64 n, .int .i64 er]) ∧ Below w.heap.size w w' :=
  (new_rd s K l n er hf (fun h => absurd h he) w).mono fun e w' h => by
    obtain ⟨hb, (⟨_, h0⟩ | ⟨h0, _⟩)⟩ := h
    · exact ⟨h0, hb⟩
    · exact absurd h0 he
theorem new_rf_ok (s : ByteArray) (K : Nat) (l : List S32) (n : Int) (hf : haruspexref17_All.f K s = some (l, n, 0)) (hl : l.length ≤ 100000 ∧ 0 < l.length ∧ ∀ j, j + 1 = l.length → (rd_T32 l (j : Int)).f0 = 6) (w : World) :
    Calls Try.prog 21 #[.string s] w fun e w' => ∃ g A c, e = .returned (.tuple #[.pointer (some ⟨g, 0, none⟩), .int .i64 n, .int .i64 0]) ∧ Below w.heap.size w w' ∧ Rd 53 w w' g A c l 0 ∧ w.heap.size ≤ A.block ∧ A.block < w'.heap.size :=
  (new_rf s K l n 0 hf (fun _ => hl) w).mono fun e w' h => by
    obtain ⟨hb, (⟨h0, _⟩ | ⟨_, g, A, c, he, hr, h1, h2⟩)⟩ := h
    · exact absurd rfl h0
    · exact ⟨g, A, c, he, hb, hr, h1, h2⟩
theorem new_rf_no (s : ByteArray) (K : Nat) (l : List S32) (n er : Int) (hf : haruspexref17_All.f K s = some (l, n, er)) (he : er ≠ 0) (w : World) :
    Calls Try.prog 21 #[.string s] w fun e w' => e = .returned (.tuple #[.pointer none, .int .i64 n, .int .i64 er]) ∧ Below w.heap.size w w' :=
  (new_rf s K l n er hf (fun h => absurd h he) w).mono fun e w' h => by
    obtain ⟨hb, (⟨_, h0⟩ | ⟨h0, _⟩)⟩ := h
    · exact ⟨h0, hb⟩
    · exact absurd h0 he
set_option maxHeartbeats 16000000 in
set_option maxRecDepth 100000 in
theorem plays (s : ByteArray) (K : Nat) (l : List S32) (n er : Int) (pn pe : Nat → Int) (ht : Told s K l n er pn pe)
    (A1 : Option Addr) (c1 : Nat) (kinds : List Int) (A2 : Option Addr) (c2 : Nat) (ws : List ByteArray) (A3 : Option Addr) (c3 : Nat) (most : List Int) (w : World)
    (hr1 : Kd.C (Kd.int .u8) w A1 kinds.length kinds) (hr2 : Kd.C Kd.string w A2 ws.length ws) (hr3 : Kd.C (Kd.int .i64) w A3 most.length most)
    (hk : ∀ x ∈ kinds, 0 ≤ x ∧ x < 256) :
    Calls Try.prog 7 #[.string s, .slice A1 kinds.length c1, .slice A2 ws.length c2, .slice A3 most.length c3] w fun e w' => e = .returned (.bool true) ∧ Below w.heap.size w w' := by
  have HT := Aside0.mk ht
  have HR1 := Aside0.mk hr1
  have HR2 := Aside0.mk hr2
  have HR3 := Aside0.mk hr3
  have HK := Aside0.mk hk
  clear ht hr1 hr2 hr3 hk
  by_cases he : er = 0
  · obtain ⟨hfew, hpos, hlast⟩ := HT.out.few he
    subst he
    have HP := Aside0.mk hlast
    clear hlast
    go_enter Try.func7, Try.ntmps7
    go_upto_region 7 with (first | (go_at_call 20; (with_reducible refine (new_rd_ok s K l n HT.out.lex ⟨hfew, hpos, HP.out⟩ w).mono ?_); rintro e w1 ⟨g, A, c, rfl, hb1, hrd, hA0, hA1⟩) | (go_at_call 21; (with_reducible refine (new_rf_ok s K l n HT.out.ref ⟨hfew, hpos, HP.out⟩ w1).mono ?_); rintro e w2 ⟨g2, A2_, c2_, rfl, hb2, hrf, hB0, hB1⟩))
    have hgl := hrd.lt
    have hgl2 := hrf.ge
    have HV : Aside0 (Rd 53 w w2 g2 A2_ c2_ l 0) := ⟨⟨hrf.blk, hrf.row, hrf.ne, by have := hb1.size; omega, hb1.trans (hb2.mono hb1.size), hrf.fit, hrf.few, hrf.last⟩⟩
    have HR : Aside0 (Rd 25 w w2 g A c l 0) := ⟨hrd.below hb2⟩
    have D1 : g ≠ g2 := by omega
    have D2 : A.block ≠ g2 := by omega
    have D3 : A2_.block ≠ g := by omega
    clear hgl hgl2 hrd hrf hb1 hb2 hA0 hA1 hB0 hB1
    go_upto_block 8 with (fail)
    go_loopw [15] (fun v15 wr => ∃ k i : Nat, v15 = .int .i64 k ∧ k ≤ 100 ∧ Aside0 (Rd 25 w wr g A c l i) ∧ Aside0 (Rd 53 w wr g2 A2_ c2_ l i)) (fun v15 _ => (100 - intOf v15).toNat)
    case atStart => exact ⟨0, 0, rfl, by omega, HR, HV⟩
    case round =>
      clear HR HV
      obtain ⟨k, i, rfl, hk, HR, HV⟩ := hrel
      by_cases g1 : (k : Int) < (kinds.length : Int)
      · have g1b : decide ((k : Int) < (kinds.length : Int)) = true := decide_eq_true g1
        by_cases g2_ : (k : Int) < (ws.length : Int)
        · have g2b : decide ((k : Int) < (ws.length : Int)) = true := decide_eq_true g2_
          by_cases g3 : (k : Int) < (most.length : Int)
          · have g3b : decide ((k : Int) < (most.length : Int)) = true := decide_eq_true g3
            by_cases g4 : (k : Int) < 100
            · have g4b : decide ((k : Int) < 100) = true := decide_eq_true g4
              obtain ⟨a1, ea1, hx1⟩ := int_at HR1.out k (by omega)
              obtain ⟨a2, ea2, hx2⟩ := str_at HR2.out k (by omega)
              obtain ⟨a3, ea3, hx3⟩ := int_at HR3.out k (by omega)
              subst ea1 ea2 ea3
              have x1 := hx1 _ HR.out.old
              have hkd : 0 ≤ kinds.getD k 0 ∧ kinds.getD k 0 < 256 := by
                rw [List.getD_eq_getElem?_getD, List.getElem?_eq_getElem (by omega)]
                exact HK.out _ (List.getElem_mem _)
              clear hx1
              generalize kinds.getD k 0 = kd at x1 hkd
              generalize ws.getD k ByteArray.empty = wd at hx2
              generalize most.getD k 0 = ms at hx3
              have X2 := Aside0.mk hx2
              have X3 := Aside0.mk hx3
              clear hx2 hx3
              obtain ⟨m, hm⟩ : ∃ m, kd % 7 = m := ⟨_, rfl⟩
              have hm7 : m = 0 ∨ m = 1 ∨ m = 2 ∨ m = 3 ∨ m = 4 ∨ m = 5 ∨ m = 6 := by omega
              go_upto_block 2 with (fail)
              rw [hm]
              clear hm x1 hkd
              go_cut [16, 17, 18, 19, 20, 21, 22, 23] from 81 to 186 (fun _ _ _ _ _ _ _ _ wx => ∃ i' : Nat, Aside0 (Rd 25 w wx g A c l i') ∧ Aside0 (Rd 53 w wx g2 A2_ c2_ l i'))
              case first =>
                rcases hm7 with rfl | rfl | rfl | rfl | rfl | rfl | rfl
                · go_wp2_with (first | (go_at_call 12; (with_reducible refine (next_rd _ HR.out).mono ?_); rintro e w3 ⟨rfl, hi, hk3⟩; have n1_ := Aside0.mk hi; have n2_ := Aside0.mk (HV.out.other hk3 (Ne.symm D1) D3 hi.old); clear HR HV hi hk3; have HR := n1_; have HV := n2_; clear n1_ n2_) | (go_at_call 22; (with_reducible refine (next_rf _ HV.out).mono ?_); rintro e w3 ⟨rfl, hi, hk3⟩; have n1_ := Aside0.mk hi; have n2_ := Aside0.mk (HR.out.other hk3 D1 D2 hi.old); clear HR HV hi hk3; have HV := n1_; have HR := n2_; clear n1_ n2_))
                  go_meet
                  exact ⟨_, HR, HV⟩
                · go_upto_region 17 with (fail)
                  have n1_ := Aside0.mk (HR.out.below (below_drew1 (Below.refl _ _)))
                  have n2_ := Aside0.mk (HV.out.below (below_drew1 (Below.refl _ _)))
                  clear HR HV
                  have HR := n1_
                  have HV := n2_
                  clear n1_ n2_
                  go_region_held3 (fun w' => w'.cell? (a2.add k) = some (.string wd)) (first | exact X2.out _ HR.out.old | go_keep) (first | (go_at_call 13; (with_reducible refine (sign_rd wd _ HR.out).mono ?_); rintro e w3 ⟨rfl, hi, hk3⟩; have n1_ := Aside0.mk hi; have n2_ := Aside0.mk (HV.out.other hk3 (Ne.symm D1) D3 hi.old); clear HR HV hi hk3; have HR := n1_; have HV := n2_; clear n1_ n2_) | (go_at_call 23; (with_reducible refine (sign_rf wd _ HV.out).mono ?_); rintro e w3 ⟨rfl, hi, hk3⟩; have n1_ := Aside0.mk hi; have n2_ := Aside0.mk (HR.out.other hk3 D1 D2 hi.old); clear HR HV hi hk3; have HV := n1_; have HR := n2_; clear n1_ n2_))
                  all_goals
                    go_wp2
                    go_meet
                    exact ⟨_, HR, HV⟩
                · go_upto_region 20 with (fail)
                  have n1_ := Aside0.mk (HR.out.below (below_drew1 (Below.refl _ _)))
                  have n2_ := Aside0.mk (HV.out.below (below_drew1 (Below.refl _ _)))
                  clear HR HV
                  have HR := n1_
                  have HV := n2_
                  clear n1_ n2_
                  go_region_held3 (fun w' => w'.cell? (a2.add k) = some (.string wd)) (first | exact X2.out _ HR.out.old | go_keep) (first | (go_at_call 14; (with_reducible refine (word_rd wd _ HR.out).mono ?_); rintro e w3 ⟨rfl, hi, hk3⟩; have n1_ := Aside0.mk hi; have n2_ := Aside0.mk (HV.out.other hk3 (Ne.symm D1) D3 hi.old); clear HR HV hi hk3; have HR := n1_; have HV := n2_; clear n1_ n2_) | (go_at_call 24; (with_reducible refine (word_rf wd _ HV.out).mono ?_); rintro e w3 ⟨rfl, hi, hk3⟩; have n1_ := Aside0.mk hi; have n2_ := Aside0.mk (HR.out.other hk3 D1 D2 hi.old); clear HR HV hi hk3; have HV := n1_; have HR := n2_; clear n1_ n2_))
                  all_goals
                    go_wp2
                    go_meet
                    exact ⟨_, HR, HV⟩
                · by_cases h2 : (now l i).f0 = 2
                  · have hnm : nmV l i = .tuple #[.string (now l i).f1, .bool true] := by unfold nmV; rw [if_pos h2]
                    clear h2
                    go_wp2_with (first | (go_at_call 8; (with_reducible refine (name_rd _ HR.out).mono ?_); rintro e w3 ⟨rfl, hi, hk3⟩; have n1_ := Aside0.mk hi; have n2_ := Aside0.mk (HV.out.other hk3 (Ne.symm D1) D3 hi.old); clear HR HV hi hk3; have HR := n1_; have HV := n2_; clear n1_ n2_; rw [hnm]) | (go_at_call 25; (with_reducible refine (name_rf _ HV.out).mono ?_); rintro e w3 ⟨rfl, hi, hk3⟩; have n1_ := Aside0.mk hi; have n2_ := Aside0.mk (HR.out.other hk3 D1 D2 hi.old); clear HR HV hi hk3; have HV := n1_; have HR := n2_; clear n1_ n2_; rw [hnm]))
                    go_meet
                    exact ⟨_, HR, HV⟩
                  · have hnm : nmV l i = .tuple #[.string ⟨#[]⟩, .bool false] := by unfold nmV; rw [if_neg h2]
                    clear h2
                    go_wp2_with (first | (go_at_call 8; (with_reducible refine (name_rd _ HR.out).mono ?_); rintro e w3 ⟨rfl, hi, hk3⟩; have n1_ := Aside0.mk hi; have n2_ := Aside0.mk (HV.out.other hk3 (Ne.symm D1) D3 hi.old); clear HR HV hi hk3; have HR := n1_; have HV := n2_; clear n1_ n2_; rw [hnm]) | (go_at_call 25; (with_reducible refine (name_rf _ HV.out).mono ?_); rintro e w3 ⟨rfl, hi, hk3⟩; have n1_ := Aside0.mk hi; have n2_ := Aside0.mk (HR.out.other hk3 D1 D2 hi.old); clear HR HV hi hk3; have HV := n1_; have HR := n2_; clear n1_ n2_; rw [hnm]))
                    go_meet
                    exact ⟨_, HR, HV⟩
                · have PN := Aside0.mk (HT.out.num i HR.out.fit)
                  have x3 := X3.out _ HR.out.old
                  by_cases h2 : (now l i).f0 = 3 ∧ pe i = 0 ∧ pn i ≤ ms
                  · have hnm : inV l i (pn i) (pe i) ms = .tuple #[.int .i64 (pn i), .bool true] := by unfold inV; rw [if_pos h2]
                    clear h2
                    go_wp2_with (first | (go_at_call 9; (with_reducible refine (int_rd ms K (pn i) (pe i) PN.out.1 _ HR.out).mono ?_); rintro e w3 ⟨rfl, hi, hk3⟩; have n1_ := Aside0.mk hi; have n2_ := Aside0.mk (HV.out.other hk3 (Ne.symm D1) D3 hi.old); clear HR HV hi hk3; have HR := n1_; have HV := n2_; clear n1_ n2_; rw [hnm]; have x3 := X3.out _ HR.out.old) | (go_at_call 26; (with_reducible refine (int_rf ms K (pn i) (pe i) PN.out.2 _ HV.out).mono ?_); rintro e w3 ⟨rfl, hi, hk3⟩; have n1_ := Aside0.mk hi; have n2_ := Aside0.mk (HR.out.other hk3 D1 D2 hi.old); clear HR HV hi hk3; have HV := n1_; have HR := n2_; clear n1_ n2_; rw [hnm]))
                    go_meet
                    exact ⟨_, HR, HV⟩
                  · have hnm : inV l i (pn i) (pe i) ms = .tuple #[.int .i64 0, .bool false] := by unfold inV; rw [if_neg h2]
                    clear h2
                    go_wp2_with (first | (go_at_call 9; (with_reducible refine (int_rd ms K (pn i) (pe i) PN.out.1 _ HR.out).mono ?_); rintro e w3 ⟨rfl, hi, hk3⟩; have n1_ := Aside0.mk hi; have n2_ := Aside0.mk (HV.out.other hk3 (Ne.symm D1) D3 hi.old); clear HR HV hi hk3; have HR := n1_; have HV := n2_; clear n1_ n2_; rw [hnm]; have x3 := X3.out _ HR.out.old) | (go_at_call 26; (with_reducible refine (int_rf ms K (pn i) (pe i) PN.out.2 _ HV.out).mono ?_); rintro e w3 ⟨rfl, hi, hk3⟩; have n1_ := Aside0.mk hi; have n2_ := Aside0.mk (HR.out.other hk3 D1 D2 hi.old); clear HR HV hi hk3; have HV := n1_; have HR := n2_; clear n1_ n2_; rw [hnm]))
                    go_meet
                    exact ⟨_, HR, HV⟩
                · have x3 := X3.out _ HR.out.old
                  go_wp2_with (first | (go_at_call 10; (with_reducible refine (back_rd _ _ HR.out).mono ?_); rintro e w3 ⟨rfl, hi, hk3⟩; have n1_ := Aside0.mk hi; have n2_ := Aside0.mk (HV.out.other hk3 (Ne.symm D1) D3 hi.old); clear HR HV hi hk3; have HR := n1_; have HV := n2_; clear n1_ n2_; have x3 := X3.out _ HR.out.old) | (go_at_call 27; (with_reducible refine (back_rf _ _ HV.out).mono ?_); rintro e w3 ⟨rfl, hi, hk3⟩; have n1_ := Aside0.mk hi; have n2_ := Aside0.mk (HR.out.other hk3 D1 D2 hi.old); clear HR HV hi hk3; have HV := n1_; have HR := n2_; clear n1_ n2_))
                  go_meet
                  exact ⟨_, HR, HV⟩
                · go_wp2_with (first | (go_at_call 11; (with_reducible refine (peek_rd _ HR.out).mono ?_); rintro e w3 ⟨rfl, hb3⟩; have n1_ := Aside0.mk (HR.out.below hb3); have n2_ := Aside0.mk (HV.out.below hb3); clear HR HV hb3; have HR := n1_; have HV := n2_; clear n1_ n2_) | (go_at_call 28; (with_reducible refine (peek_rf _ HV.out).mono ?_); rintro e w3 ⟨rfl, hb3⟩; have n1_ := Aside0.mk (HR.out.below hb3); have n2_ := Aside0.mk (HV.out.below hb3); clear HR HV hb3; have HR := n1_; have HV := n2_; clear n1_ n2_))
                  go_meet
                  exact ⟨_, HR, HV⟩
              case rest =>
                clear HR HV
                obtain ⟨i', HR, HV⟩ := hcut
                have n1_ := Aside0.mk (HR.out.below (below_drew1 (Below.refl _ _)))
                have n2_ := Aside0.mk (HV.out.below (below_drew1 (Below.refl _ _)))
                clear HR HV
                have HR := n1_
                have HV := n2_
                clear n1_ n2_
                go_upto_region 35 with (fail)
                go_region_held3 (fun w' => w'.cell? ⟨g2, 1, none⟩ = some (.int .i64 (i' : Int))) (first | exact HV.out.cells.2.1 | go_keep) (first | (go_at_call 15; (with_reducible refine (at_rd _ HR.out).mono ?_); rintro e w5 ⟨rfl, hb5⟩; have n1_ := Aside0.mk (HR.out.below hb5); have n2_ := Aside0.mk (HV.out.below hb5); clear HR HV hb5; have HR := n1_; have HV := n2_; clear n1_ n2_) | (go_at_call 29; (with_reducible refine (at_rf _ HV.out).mono ?_); rintro e w5 ⟨rfl, hb5⟩; have n1_ := Aside0.mk (HR.out.below hb5); have n2_ := Aside0.mk (HV.out.below hb5); clear HR HV hb5; have HR := n1_; have HV := n2_; clear n1_ n2_) | (go_at_call 16; (with_reducible refine (mark_rd _ HR.out).mono ?_); rintro e w5 ⟨rfl, hb5⟩; have n1_ := Aside0.mk (HR.out.below hb5); have n2_ := Aside0.mk (HV.out.below hb5); clear HR HV hb5; have HR := n1_; have HV := n2_; clear n1_ n2_) | (go_at_call 11; (with_reducible refine (peek_rd _ HR.out).mono ?_); rintro e w5 ⟨rfl, hb5⟩; have n1_ := Aside0.mk (HR.out.below hb5); have n2_ := Aside0.mk (HV.out.below hb5); clear HR HV hb5; have HR := n1_; have HV := n2_; clear n1_ n2_) | (go_at_call 28; (with_reducible refine (peek_rf _ HV.out).mono ?_); rintro e w5 ⟨rfl, hb5⟩; have n1_ := Aside0.mk (HR.out.below hb5); have n2_ := Aside0.mk (HV.out.below hb5); clear HR HV hb5; have HR := n1_; have HV := n2_; clear n1_ n2_))
                go_wp2
                go_roundw
                case rel => exact ⟨k + 1, i', by first | go_num | (congr 1; omega), by omega, HR, HV⟩
                case measure => simp [intOf]; omega
            · have g4b : decide ((k : Int) < 100) = false := decide_eq_false g4
              go_wp2_with (first | (go_at_call 19; (with_reducible refine (haruspexlaw17_awake.calls K true wr HT.out.wake).mono ?_); rintro e w3 ⟨rfl, hb3⟩))
              go_ret
              exact ⟨rfl, HR.out.old.trans (hb3.mono HR.out.old.size)⟩
          · have g3b : decide ((k : Int) < (most.length : Int)) = false := decide_eq_false g3
            go_wp2_with (first | (go_at_call 19; (with_reducible refine (haruspexlaw17_awake.calls K true wr HT.out.wake).mono ?_); rintro e w3 ⟨rfl, hb3⟩))
            go_ret
            exact ⟨rfl, HR.out.old.trans (hb3.mono HR.out.old.size)⟩
        · have g2b : decide ((k : Int) < (ws.length : Int)) = false := decide_eq_false g2_
          go_wp2_with (first | (go_at_call 19; (with_reducible refine (haruspexlaw17_awake.calls K true wr HT.out.wake).mono ?_); rintro e w3 ⟨rfl, hb3⟩))
          go_ret
          exact ⟨rfl, HR.out.old.trans (hb3.mono HR.out.old.size)⟩
      · have g1b : decide ((k : Int) < (kinds.length : Int)) = false := decide_eq_false g1
        go_wp2_with (first | (go_at_call 19; (with_reducible refine (haruspexlaw17_awake.calls K true wr HT.out.wake).mono ?_); rintro e w3 ⟨rfl, hb3⟩))
        go_ret
        exact ⟨rfl, HR.out.old.trans (hb3.mono HR.out.old.size)⟩
  · have heb : (er != 0) = true := bne_iff_ne.mpr he
    have heb2 : (er != er) = false := bne_eq_false_iff_eq.mpr rfl
    have hnb : (n != n) = false := bne_eq_false_iff_eq.mpr rfl
    have AW := Aside0.mk HT.out.wake
    have HX := Aside0.mk he
    clear he
    go_enter Try.func7, Try.ntmps7
    go_wp2_with (first | (go_at_call 20; (with_reducible refine (new_rd_no s K l n er HT.out.lex HX.out w).mono ?_); rintro e w1 ⟨rfl, hb1⟩) | (go_at_call 21; (with_reducible refine (new_rf_no s K l n er HT.out.ref HX.out w1).mono ?_); rintro e w2 ⟨rfl, hb2⟩) | (go_at_call 19; (with_reducible refine (haruspexlaw17_awake.calls K true w2 AW.out).mono ?_); rintro e w3 ⟨rfl, hb3⟩))
    go_ret
    have hb := hb1.trans (hb2.mono hb1.size)
    exact ⟨rfl, hb.trans (hb3.mono hb.size)⟩
end Reader
end Go.Proofs.Ytkbngfelegcplaa.PAll
