/- Functions of the Go program as plain Lean functions, and the proofs that the code comes to just their answers; of a law, the row. Written by a program of this session (wip/myprint.py over the given print). No condition. -/
import Derived.Test.YtefljkgfkkdaiaaPAllx0
namespace Go.Proofs.Ytefljkgfkkdaiaa.PAll
open Go.RowKit Go.Proofs.YtefljkgfkkdaiaaW.PrintWords Go.Proofs.YtefljkgfkkdaiaaW.PrintLast Go.Proofs.YtefljkgfkkdaiaaW.PrintMore
attribute [local go_sem] max2_int min2_int max_two min_two max_three min_three max_four min_four   -- for this text's walks alone
set_option linter.unusedVariables false
set_option linter.unusedSimpArgs false

/-! ### word_isUpper: function 20 -/
def word_isUpper.f (a0 : Int) : Option (Bool) := if a0 ≥ 65 then (some (decide (a0 ≤ 90))) else (some false)
set_option maxHeartbeats 8000000 in
set_option maxRecDepth 100000 in
theorem word_isUpper.calls (a0 : Int) (r : Bool) (w : World) (h : word_isUpper.f a0 = some r) :
    Calls Try.prog 20 #[.int .i32 a0] w fun e w' => e = .returned (.bool r) ∧ Drawn0 w w' := by
  have H : (if a0 ≥ 65 then (some (decide (a0 ≤ 90))) else (some false)) = some r := h
  clear h
  by_cases c2 : a0 ≥ 65
  · rw [if_pos c2] at H
    have c2b0 : decide (65 ≤ a0) = true := decide_eq_true c2
    clear c2
    obtain rfl := Option.some.inj H
    go_enter Try.func20, Try.ntmps20
    go_wp2
    go_ret
    exact ⟨by first | rfl | (simp; done) | (simp [*]; done), by repeat (first | exact Drawn0.refl _ | apply Drawn0.step)⟩
  · rw [if_neg c2] at H
    have c2b0 : decide (65 ≤ a0) = false := decide_eq_false c2
    clear c2
    obtain rfl := Option.some.inj H
    go_enter Try.func20, Try.ntmps20
    go_wp2
    go_ret
    exact ⟨by first | rfl | (simp; done) | (simp [*]; done), by repeat (first | exact Drawn0.refl _ | apply Drawn0.step)⟩

/-! ### word_Fold: function 8 (by hand) -/
def word_Fold.f (a0 : ByteArray) : Option (ByteArray) := if a0.size ≤ 140737488351232 then some (strOfNums ((bytesOf a0).map Go.Proofs.YtefljkgfkkdaiaaW.HandWords.fold1)) else none
set_option maxHeartbeats 1000000 in
set_option maxRecDepth 100000 in
theorem word_Fold.calls (a0 : ByteArray) (r : ByteArray) (w : World) (h : word_Fold.f a0 = some r) :
    Calls Try.prog 8 #[.string a0] w fun e w' => e = .returned (.string r) ∧ Below w.heap.size w w' := by
  unfold word_Fold.f at h
  by_cases hs : a0.size ≤ 140737488351232
  · rw [if_pos hs] at h
    have H := Aside0.mk (Option.some.inj h)
    clear h
    have HB := Aside0.mk (Below.refl w.heap.size w)
    obtain ⟨xs, hxs⟩ : ∃ xs, xs = bytesOf a0 := ⟨_, rfl⟩
    have hn : xs.length ≤ 140737488351232 := by rw [hxs, bytesOf_length]; exact hs
    have hby : Aside0 (∀ k, k < xs.length → 0 ≤ rd xs (k : Int) ∧ rd xs (k : Int) ≤ 255) := ⟨fun k _ => by rw [hxs, rd_bytesOf]; exact bt_range a0 k⟩
    have HX := Aside0.mk hxs
    clear hxs hs
    go_enter Try.func8, Try.ntmps8
    go_wp2_with (first | ((with_reducible refine gate_dst (N := 7) rfl ?_); refine Go.Proofs.YtefljkgfkkdaiaaW.HandWords.hand_bytes w.heap.size 5 rfl (N := 7) rfl 9 35 _ rfl a0 rfl Try.underlying9 Try.underlying35 Try.underlying5 HB.out (Nat.le_refl _) ?_; intro g c0 w1 hbg hgl hcl hrow hb1; rw [← HX.out] at hrow hcl ⊢; have n1_ := Aside0.mk hb1; have HR := Aside0.mk hrow; have HC := Aside0.mk hcl; clear HB hrow hb1 hcl; have HB := n1_; clear n1_))
    go_loopw [10] (fun v10 wr => ∃ k : Nat, k ≤ xs.length ∧ v10 = .int .i64 k ∧ Aside0 (Go.Proofs.YtefljkgfkkdaiaaW.HandWords.Row8 wr g 5 (Go.Proofs.YtefljkgfkkdaiaaW.HandWords.foldTo xs k)) ∧ Aside0 (Below w.heap.size w wr)) (fun v10 _ => xs.length - (intOf v10).toNat)
    case atStart => exact ⟨0, by omega, rfl, ⟨by rw [Go.Proofs.YtefljkgfkkdaiaaW.HandWords.foldTo_zero]; exact HR.out⟩, HB⟩
    case round =>
      clear HR HB
      obtain ⟨k, hk, rfl, HR, HB⟩ := hrel
      by_cases hlt : k < xs.length
      · have hcell := HR.out.cell (j := k) (by rw [Go.Proofs.YtefljkgfkkdaiaaW.HandWords.foldTo_len]; exact hlt)
        have hfree := HR.out.free (j := k) (by rw [Go.Proofs.YtefljkgfkkdaiaaW.HandWords.foldTo_len]; exact hlt)
        rw [Go.Proofs.YtefljkgfkkdaiaaW.HandWords.foldTo_rd xs k hlt] at hcell
        obtain ⟨b1, b2⟩ := hby.out k hlt
        have HN := Aside0.mk (Go.Proofs.YtefljkgfkkdaiaaW.HandWords.foldTo_next xs k hlt)
        have HS := Aside0.mk (Go.Proofs.YtefljkgfkkdaiaaW.HandWords.foldTo_same xs k hlt)
        obtain ⟨c, hc⟩ : ∃ c, c = rd xs (k : Int) := ⟨_, rfl⟩
        rw [← hc] at hcell b1 b2 HN HS
        clear hc
        by_cases hup : 65 ≤ c ∧ c ≤ 90
        · have HU : Aside0 (word_isUpper.f c = some true) := ⟨by unfold word_isUpper.f; rw [if_pos hup.1, decide_eq_true hup.2]⟩
          have HO : Aside0 (Go.Proofs.YtefljkgfkkdaiaaW.HandWords.fold1 c = c + 32) := ⟨by unfold Go.Proofs.YtefljkgfkkdaiaaW.HandWords.fold1; rw [if_pos hup]⟩
          obtain ⟨u1, u2⟩ := hup
          go_wp2_with (first | ((with_reducible refine gate_callee (f := 20) rfl ?_); refine goesL_ (some 17) rfl rfl Try.func20 (by kernel_rfl) rfl #[.int .i32 c] rfl (by (try simp only [List.map_toArray, List.map_cons, List.map_nil]); first | done | rfl) ?_; (with_reducible refine (word_isUpper.calls c true _ HU.out).mono ?_); rintro e w' ⟨rfl, ⟨nd, rfl⟩⟩; refine ⟨_, rfl, ?_⟩))
          go_roundw
          case rel => exact ⟨k + 1, by omega, by go_num, ⟨by rw [← HN.out, HO.out, show c + 32 = c - 65 + 97 from by omega]; first | exact (HR.out.drewN _).set _ _ | exact (HR.out.set _ _).drewN _⟩, ⟨by first | exact (pw_below_drewN HB.out _).setCell hbg _ | exact pw_below_drewN (HB.out.setCell hbg _) _⟩⟩
          case measure => simp [intOf]; omega
        · have HU : Aside0 (word_isUpper.f c = some false) := ⟨by
            unfold word_isUpper.f
            by_cases h1 : c ≥ 65
            · rw [if_pos h1, decide_eq_false (by omega)]
            · rw [if_neg h1]⟩
          have HO : Aside0 (Go.Proofs.YtefljkgfkkdaiaaW.HandWords.fold1 c = c) := ⟨by unfold Go.Proofs.YtefljkgfkkdaiaaW.HandWords.fold1; rw [if_neg hup]⟩
          clear hup
          go_wp2_with (first | ((with_reducible refine gate_callee (f := 20) rfl ?_); refine goesL_ (some 17) rfl rfl Try.func20 (by kernel_rfl) rfl #[.int .i32 c] rfl (by (try simp only [List.map_toArray, List.map_cons, List.map_nil]); first | done | rfl) ?_; (with_reducible refine (word_isUpper.calls c false _ HU.out).mono ?_); rintro e w' ⟨rfl, ⟨nd, rfl⟩⟩; refine ⟨_, rfl, ?_⟩))
          go_roundw
          case rel => exact ⟨k + 1, by omega, by go_num, ⟨by rw [← HS.out HO.out]; exact HR.out.drewN _⟩, ⟨pw_below_drewN HB.out _⟩⟩
          case measure => simp [intOf]; omega
      · have hkk : k = xs.length := by omega
        have hl := Go.Proofs.YtefljkgfkkdaiaaW.HandWords.foldTo_len xs k
        have hcv := Kd.C_string (P := Try.prog) (c := c0) Try.underlying35 Try.underlying5 Try.underlying9 (HR.out.C (by omega))
        rw [hl] at hcv
        clear hl
        go_wp2
        go_ret
        exact ⟨by rw [Go.Proofs.YtefljkgfkkdaiaaW.HandWords.foldTo_all xs xs.length (Nat.le_refl _), ← H.out, HX.out]; rfl, HB.out⟩
  · exact absurd ((if_neg hs).symm.trans h) (by simp)


/-! ### word_Upper: function 9 (by hand) -/
def word_Upper.up (c : Int) : Bool := decide (65 ≤ c) && decide (c ≤ 90)
/-- is it of A to Z, byte by byte -/
def word_Upper.is (l : List Int) : Bool := l.all word_Upper.up && decide (1 ≤ l.length) && decide (l.length ≤ 32)
def word_Upper.f (a0 : ByteArray) : Option (Bool) := if a0.size ≤ 140737488351232 then some (word_Upper.is (bytesOf a0)) else none
theorem word_Upper.up_f (c : Int) : word_isUpper.f c = some (word_Upper.up c) := by
  unfold word_isUpper.f word_Upper.up
  by_cases h : c ≥ 65
  · rw [if_pos h, decide_eq_true (show 65 ≤ c from h), Bool.true_and]
  · rw [if_neg h, decide_eq_false (show ¬ 65 ≤ c from h), Bool.false_and]
theorem word_Upper.up_high {c : Int} (h : 128 ≤ c) : word_Upper.up c = false := by
  unfold word_Upper.up
  rw [decide_eq_false (show ¬ c ≤ 90 by omega)]; simp
structure word_Upper.Rel (l : List Int) (k : Nat) : Prop where
  le : k ≤ l.length
  all : (l.take k).all word_Upper.up = true
theorem word_Upper.no_up {l : List Int} {k : Nat} (hk : k < l.length) (h : word_Upper.up (rd l (k : Int)) = false) : word_Upper.is l = false := by
  have : l.all word_Upper.up = false := by
    rw [List.all_eq_false]
    refine ⟨rd l (k : Int), ?_, by simpa using h⟩
    unfold rd
    rw [Int.toNat_natCast, List.getD_eq_getElem?_getD, List.getElem?_eq_getElem hk]
    exact List.getElem_mem hk
  unfold word_Upper.is
  rw [this]; rfl
theorem word_Upper.next {l : List Int} {k : Nat} (h : word_Upper.Rel l k) (hk : k < l.length) (hs : word_Upper.up (rd l (k : Int)) = true) : word_Upper.Rel l (k + 1) := by
  refine ⟨by omega, ?_⟩
  rw [List.take_add_one, List.getElem?_eq_getElem hk, List.all_append, h.all]
  have : rd l (k : Int) = l[k] := by
    unfold rd; rw [Int.toNat_natCast, List.getD_eq_getElem?_getD, List.getElem?_eq_getElem hk]; rfl
  rw [this] at hs
  simp [hs]
theorem word_Upper.done {l : List Int} (h : word_Upper.Rel l l.length) (h0 : 1 ≤ l.length) : word_Upper.is l = decide (l.length ≤ 32) := by
  unfold word_Upper.is
  have := h.all
  rw [List.take_length] at this
  rw [this, decide_eq_true h0]; rfl
set_option maxHeartbeats 1000000 in
set_option maxRecDepth 100000 in
theorem word_Upper.calls (a0 : ByteArray) (r : Bool) (w : World) (h : word_Upper.f a0 = some r) :
    Calls Try.prog 9 #[.string a0] w fun e w' => e = .returned (.bool r) ∧ Below w.heap.size w w' := by
  unfold word_Upper.f at h
  by_cases hs : a0.size ≤ 140737488351232
  · rw [if_pos hs] at h
    have H := Aside0.mk (Option.some.inj h)
    clear h
    have HB := Aside0.mk (Below.refl w.heap.size w)
    go_enter Try.func9, Try.ntmps9
    go_wp2_with (first | ((with_reducible refine gate_dst (N := 6) rfl ?_); refine Go.Proofs.YtefljkgfkkdaiaaW.HandWords.hand_range w.heap.size rfl (N := 6) rfl 9 _ rfl Try.underlying9 a0 rfl HB.out (Nat.le_refl _) ?_; intro g w1 hbg hgl hg0 hb1; have n1_ := Aside0.mk hb1; have HG := Aside0.mk hg0; clear HB hg0 hb1; have HB := n1_; clear n1_))
    go_simp
    go_loopw [4] (fun _ wr => ∃ k : Nat, Aside0 (word_Upper.Rel (bytesOf a0) k) ∧ Aside0 (wr.heap[g]? = some (.stringIter a0 k)) ∧ Aside0 (Below w.heap.size w wr)) (fun _ wr => a0.size - wr.iterPos g)
    case atStart => exact ⟨0, ⟨⟨Nat.zero_le _, rfl⟩⟩, HG, HB⟩
    case round =>
      clear HG HB
      obtain ⟨k, HR, HG, HB⟩ := hrel
      have HM : Aside0 (wr.iterPos g = k) := ⟨by simp [World.iterPos, HG.out]⟩
      by_cases hp : k < a0.size
      · have hkl : k < (bytesOf a0).length := by rw [bytesOf_length]; exact hp
        have hrd : rd (bytesOf a0) (k : Int) = ((a0[k]'hp).toNat : Int) := by
          rw [rd_bytesOf]; unfold bt; rw [dif_pos (by simpa using hp)]; rfl
        obtain ⟨rn, hrn⟩ : ∃ rn : Nat, (Utf8.decode a0 k).1 = rn := ⟨_, rfl⟩
        obtain ⟨wd, hwd⟩ : ∃ wd : Nat, k + (Utf8.decode a0 k).2 = wd := ⟨_, rfl⟩
        have HE := Aside0.mk hrn
        have HW := Aside0.mk hwd
        by_cases hsg : word_Upper.up (rn : Int) = true
        · have hasc : (a0[k]'hp).toNat < 128 := by
            rcases Nat.lt_or_ge (a0[k]'hp).toNat 128 with h1 | h1
            · exact h1
            · have hdec := decode_high a0 k hp h1
              rw [hrn] at hdec
              rw [word_Upper.up_high (by omega)] at hsg; cases hsg
          have hdec := decode_ascii a0 k hp hasc
          have hrc : rd (bytesOf a0) (k : Int) = (rn : Int) := by rw [hrd, ← hrn, hdec]
          have hw1 : wd = k + 1 := by rw [← hwd, hdec]
          have HS : Aside0 (word_isUpper.f (rn : Int) = some true) := ⟨by rw [word_Upper.up_f, hsg]⟩
          have HN := Aside0.mk (word_Upper.next HR.out hkl (by rw [hrc]; exact hsg))
          subst hw1
          clear hrn hwd hdec hasc hrd hrc hsg HR
          go_wp2_with (first | ((with_reducible refine gate_dst (N := 7) rfl ?_); refine Go.Proofs.YtefljkgfkkdaiaaW.HandWords.hand_next (w0 := w) w.heap.size rfl (N := 7) rfl _ rfl g rfl a0 k HG.out hp hbg HB.out ?_; intro w1 hg1 hb1; rw [HW.out] at hg1; have n1_ := Aside0.mk hb1; have n2_ := Aside0.mk hg1; clear HB HG hg1 hb1; have HB := n1_; have HG := n2_; clear n1_ n2_; rw [HE.out]) | ((with_reducible refine gate_callee (f := 20) rfl ?_); refine goesL_ (some 11) rfl rfl Try.func20 (by kernel_rfl) rfl #[.int .i32 (rn : Int)] rfl (by (try simp only [List.map_toArray, List.map_cons, List.map_nil]); first | done | rfl) ?_; (with_reducible refine (word_isUpper.calls (rn : Int) _ _ HS.out).mono ?_); rintro e w' ⟨rfl, ⟨nd, rfl⟩⟩; refine ⟨_, rfl, ?_⟩))
          go_roundw
          case rel => exact ⟨_, HN, HG, ⟨by repeat (first | exact HB.out | (with_reducible refine pw_below_drewN ?_ _))⟩⟩
          case measure =>
            have hm2 : w1.iterPos g = k + 1 := by simp [World.iterPos, HG.out]
            show a0.size - w1.iterPos g < a0.size - wr.iterPos g
            rw [hm2, HM.out]; omega
        · have hsg2 : word_Upper.up (rd (bytesOf a0) (k : Int)) = false := by
            rcases Nat.lt_or_ge (a0[k]'hp).toNat 128 with h1 | h1
            · have hdec := decode_ascii a0 k hp h1
              rw [hrd, show ((a0[k]'hp).toNat : Int) = (rn : Int) from by rw [← hrn, hdec]]
              exact Bool.eq_false_iff.2 hsg
            · rw [hrd]; exact word_Upper.up_high (by omega)
          have HS : Aside0 (word_isUpper.f (rn : Int) = some false) := ⟨by rw [word_Upper.up_f, Bool.eq_false_iff.2 hsg]⟩
          have HF : Aside0 (word_Upper.is (bytesOf a0) = false) := ⟨word_Upper.no_up hkl hsg2⟩
          clear hrn hwd hrd hsg hsg2 HR
          go_wp2_with (first | ((with_reducible refine gate_dst (N := 7) rfl ?_); refine Go.Proofs.YtefljkgfkkdaiaaW.HandWords.hand_next (w0 := w) w.heap.size rfl (N := 7) rfl _ rfl g rfl a0 k HG.out hp hbg HB.out ?_; intro w1 hg1 hb1; rw [HW.out] at hg1; have n1_ := Aside0.mk hb1; have n2_ := Aside0.mk hg1; clear HB HG hg1 hb1; have HB := n1_; have HG := n2_; clear n1_ n2_; rw [HE.out]) | ((with_reducible refine gate_callee (f := 20) rfl ?_); refine goesL_ (some 11) rfl rfl Try.func20 (by kernel_rfl) rfl #[.int .i32 (rn : Int)] rfl (by (try simp only [List.map_toArray, List.map_cons, List.map_nil]); first | done | rfl) ?_; (with_reducible refine (word_isUpper.calls (rn : Int) _ _ HS.out).mono ?_); rintro e w' ⟨rfl, ⟨nd, rfl⟩⟩; refine ⟨_, rfl, ?_⟩))
          go_ret
          exact ⟨by rw [← H.out, HF.out]; rfl, by repeat (first | exact HB.out | (with_reducible refine pw_below_drewN ?_ _))⟩
      · have hkl : k = (bytesOf a0).length := by have := HR.out.le; rw [bytesOf_length] at this ⊢; omega
        have HR2 : Aside0 (word_Upper.Rel (bytesOf a0) (bytesOf a0).length) := ⟨by have := HR.out; rw [hkl] at this; exact this⟩
        clear hkl HR
        by_cases hz : a0.size = 0
        · have hnil : a0.toList = [] := by rw [ByteArray.toList_eq]; exact List.eq_nil_of_length_eq_zero (by rw [data_length]; exact hz)
          have hnb : (a0.toList != ([] : List UInt8)) = false := bne_eq_false_iff_eq.mpr hnil
          have hnb2 : (a0.toList == ([] : List UInt8)) = true := beq_iff_eq.mpr hnil
          have HF : Aside0 (word_Upper.is (bytesOf a0) = false) := ⟨by unfold word_Upper.is; rw [bytesOf_length, hz]; simp⟩
          clear hnil hz HR2
          go_wp2_with (first | ((with_reducible refine gate_dst (N := 7) rfl ?_); refine Go.Proofs.YtefljkgfkkdaiaaW.HandWords.hand_next_end rfl (N := 7) rfl _ rfl g rfl a0 k HG.out hp ?_))
          go_ret
          exact ⟨by rw [← H.out, HF.out]; rfl, by repeat (first | exact HB.out | (with_reducible refine pw_below_drewN ?_ _))⟩
        · have hnn : a0.toList ≠ [] := by
            rw [ByteArray.toList_eq]; intro h1
            have := data_length a0
            rw [h1] at this; simp at this; omega
          have hnb : (a0.toList != ([] : List UInt8)) = true := bne_iff_ne.mpr hnn
          have hnb2 : (a0.toList == ([] : List UInt8)) = false := beq_eq_false_iff_ne.mpr hnn
          have HF : Aside0 (word_Upper.is (bytesOf a0) = decide ((a0.size : Int) ≤ 32)) := ⟨by rw [word_Upper.done HR2.out (by rw [bytesOf_length]; omega), bytesOf_length]; exact decide_eq_decide.2 (by omega)⟩
          clear hnn HR2
          go_wp2_with (first | ((with_reducible refine gate_dst (N := 7) rfl ?_); refine Go.Proofs.YtefljkgfkkdaiaaW.HandWords.hand_next_end rfl (N := 7) rfl _ rfl g rfl a0 k HG.out hp ?_))
          go_ret
          exact ⟨by rw [← H.out, HF.out]; rfl, HB.out⟩
  · exact absurd ((if_neg hs).symm.trans h) (by simp)

/-! ### word_isLower: function 22 -/
def word_isLower.f (a0 : Int) : Option (Bool) := if a0 ≥ 97 then (some (decide (a0 ≤ 122))) else (some false)
set_option maxHeartbeats 8000000 in
set_option maxRecDepth 100000 in
theorem word_isLower.calls (a0 : Int) (r : Bool) (w : World) (h : word_isLower.f a0 = some r) :
    Calls Try.prog 22 #[.int .i32 a0] w fun e w' => e = .returned (.bool r) ∧ Drawn0 w w' := by
  have H : (if a0 ≥ 97 then (some (decide (a0 ≤ 122))) else (some false)) = some r := h
  clear h
  by_cases c2 : a0 ≥ 97
  · rw [if_pos c2] at H
    have c2b0 : decide (97 ≤ a0) = true := decide_eq_true c2
    clear c2
    obtain rfl := Option.some.inj H
    go_enter Try.func22, Try.ntmps22
    go_wp2
    go_ret
    exact ⟨by first | rfl | (simp; done) | (simp [*]; done), by repeat (first | exact Drawn0.refl _ | apply Drawn0.step)⟩
  · rw [if_neg c2] at H
    have c2b0 : decide (97 ≤ a0) = false := decide_eq_false c2
    clear c2
    obtain rfl := Option.some.inj H
    go_enter Try.func22, Try.ntmps22
    go_wp2
    go_ret
    exact ⟨by first | rfl | (simp; done) | (simp [*]; done), by repeat (first | exact Drawn0.refl _ | apply Drawn0.step)⟩

/-! ### word_isDigit: function 32 -/
def word_isDigit.f (a0 : Int) : Option (Bool) := if a0 ≥ 48 then (some (decide (a0 ≤ 57))) else (some false)
set_option maxHeartbeats 8000000 in
set_option maxRecDepth 100000 in
theorem word_isDigit.calls (a0 : Int) (r : Bool) (w : World) (h : word_isDigit.f a0 = some r) :
    Calls Try.prog 32 #[.int .i32 a0] w fun e w' => e = .returned (.bool r) ∧ Drawn0 w w' := by
  have H : (if a0 ≥ 48 then (some (decide (a0 ≤ 57))) else (some false)) = some r := h
  clear h
  by_cases c2 : a0 ≥ 48
  · rw [if_pos c2] at H
    have c2b0 : decide (48 ≤ a0) = true := decide_eq_true c2
    clear c2
    obtain rfl := Option.some.inj H
    go_enter Try.func32, Try.ntmps32
    go_wp2
    go_ret
    exact ⟨by first | rfl | (simp; done) | (simp [*]; done), by repeat (first | exact Drawn0.refl _ | apply Drawn0.step)⟩
  · rw [if_neg c2] at H
    have c2b0 : decide (48 ≤ a0) = false := decide_eq_false c2
    clear c2
    obtain rfl := Option.some.inj H
    go_enter Try.func32, Try.ntmps32
    go_wp2
    go_ret
    exact ⟨by first | rfl | (simp; done) | (simp [*]; done), by repeat (first | exact Drawn0.refl _ | apply Drawn0.step)⟩

/-! ### word_isSign: function 21 -/
def word_isSign.f (a0 : Int) : Option (Bool) := (word_isLower.f a0).bind fun t101 => (if t101 = true then (some true) else ((word_isDigit.f a0).bind fun t102 => (if t102 = true then (some true) else (some (a0 == 95)))))
set_option maxHeartbeats 8000000 in
set_option maxRecDepth 100000 in
theorem word_isSign.calls (a0 : Int) (r : Bool) (w : World) (h : word_isSign.f a0 = some r) :
    Calls Try.prog 21 #[.int .i32 a0] w fun e w' => e = .returned (.bool r) ∧ Drawn0 w w' := by
  have H : ((word_isLower.f a0).bind fun t101 => (if t101 = true then (some true) else ((word_isDigit.f a0).bind fun t102 => (if t102 = true then (some true) else (some (a0 == 95)))))) = some r := h
  clear h
  replace H := Option.bind_eq_some_iff.mp H
  obtain ⟨t101, A20, H⟩ := H
  replace H : (if t101 = true then (some true) else ((word_isDigit.f a0).bind fun t102 => (if t102 = true then (some true) else (some (a0 == 95))))) = some r := H
  have A2 := Aside0.mk A20
  clear A20
  by_cases c3 : t101 = true
  · subst c3
    have H1 : (some true) = some r := by rw [if_pos rfl] at H; exact H
    clear H
    have H := H1
    clear H1
    obtain rfl := Option.some.inj H
    go_enter Try.func21, Try.ntmps21
    go_wp2_with (first | ((with_reducible refine gate_callee (f := 22) rfl ?_); refine goesL_ (some 4) rfl rfl Try.func22 (by kernel_rfl) rfl #[.int .i32 a0] rfl (by (try simp only [List.map_toArray, List.map_cons, List.map_nil]); first | done | rfl | (simp only [List.length_drop, List.length_take]; rfl)) ?_; (with_reducible refine (word_isLower.calls a0 true _ A2.out).mono ?_); rintro e w' ⟨rfl, ⟨nd, rfl⟩⟩; refine ⟨_, rfl, ?_⟩))
    go_ret
    exact ⟨by first | rfl | (simp; done) | (simp [*]; done), by repeat (first | exact Drawn0.refl _ | apply Drawn0.step)⟩
  · replace c3 := Bool.eq_false_iff.mpr c3
    subst c3
    have H1 : ((word_isDigit.f a0).bind fun t102 => (if t102 = true then (some true) else (some (a0 == 95)))) = some r := by rw [if_neg (show ¬ (false = true) by decide)] at H; exact H
    clear H
    have H := H1
    clear H1
    replace H := Option.bind_eq_some_iff.mp H
    obtain ⟨t102, A40, H⟩ := H
    replace H : (if t102 = true then (some true) else (some (a0 == 95))) = some r := H
    have A4 := Aside0.mk A40
    clear A40
    by_cases c5 : t102 = true
    · subst c5
      have H1 : (some true) = some r := by rw [if_pos rfl] at H; exact H
      clear H
      have H := H1
      clear H1
      obtain rfl := Option.some.inj H
      go_enter Try.func21, Try.ntmps21
      go_wp2_with (first | ((with_reducible refine gate_callee (f := 22) rfl ?_); refine goesL_ (some 4) rfl rfl Try.func22 (by kernel_rfl) rfl #[.int .i32 a0] rfl (by (try simp only [List.map_toArray, List.map_cons, List.map_nil]); first | done | rfl | (simp only [List.length_drop, List.length_take]; rfl)) ?_; (with_reducible refine (word_isLower.calls a0 false _ A2.out).mono ?_); rintro e w' ⟨rfl, ⟨nd, rfl⟩⟩; refine ⟨_, rfl, ?_⟩) | (go_at_call 32; (with_reducible refine (word_isDigit.calls a0 true _ A4.out).mono ?_); rintro e w' ⟨rfl, ⟨nd, rfl⟩⟩))
      go_ret
      exact ⟨by first | rfl | (simp; done) | (simp [*]; done), by repeat (first | exact Drawn0.refl _ | apply Drawn0.step)⟩
    · replace c5 := Bool.eq_false_iff.mpr c5
      subst c5
      have H1 : (some (a0 == 95)) = some r := by rw [if_neg (show ¬ (false = true) by decide)] at H; exact H
      clear H
      have H := H1
      clear H1
      obtain rfl := Option.some.inj H
      go_enter Try.func21, Try.ntmps21
      go_wp2_with (first | ((with_reducible refine gate_callee (f := 22) rfl ?_); refine goesL_ (some 4) rfl rfl Try.func22 (by kernel_rfl) rfl #[.int .i32 a0] rfl (by (try simp only [List.map_toArray, List.map_cons, List.map_nil]); first | done | rfl | (simp only [List.length_drop, List.length_take]; rfl)) ?_; (with_reducible refine (word_isLower.calls a0 false _ A2.out).mono ?_); rintro e w' ⟨rfl, ⟨nd, rfl⟩⟩; refine ⟨_, rfl, ?_⟩) | (go_at_call 32; (with_reducible refine (word_isDigit.calls a0 false _ A4.out).mono ?_); rintro e w' ⟨rfl, ⟨nd, rfl⟩⟩))
      go_ret
      exact ⟨by first | rfl | (simp; done) | (simp [*]; done), by repeat (first | exact Drawn0.refl _ | apply Drawn0.step)⟩

/-! ### word_Name: function 10 (by hand) -/
def word_Name.low (c : Int) : Bool := decide (97 ≤ c) && decide (c ≤ 122)
def word_Name.sign (c : Int) : Bool := word_Name.low c || (decide (48 ≤ c) && decide (c ≤ 57)) || decide (c = 95)
/-- is it a name, byte by byte -/
def word_Name.is (l : List Int) : Bool := l.all word_Name.sign && word_Name.low (rd l 0) && decide (1 ≤ l.length) && decide (l.length ≤ 32)
def word_Name.f (a0 : ByteArray) : Option (Bool) := if a0.size ≤ 140737488351232 then some (word_Name.is (bytesOf a0)) else none
theorem word_Name.low_f (c : Int) : word_isLower.f c = some (word_Name.low c) := by
  unfold word_isLower.f word_Name.low
  by_cases h : c ≥ 97
  · rw [if_pos h, decide_eq_true (show 97 ≤ c from h), Bool.true_and]
  · rw [if_neg h, decide_eq_false (show ¬ 97 ≤ c from h), Bool.false_and]
theorem word_Name.sign_f (c : Int) : word_isSign.f c = some (word_Name.sign c) := by
  unfold word_isSign.f
  rw [word_Name.low_f, Option.bind_some]
  unfold word_Name.sign
  by_cases h : word_Name.low c = true
  · rw [if_pos h, h]; rfl
  · rw [if_neg h, Bool.eq_false_iff.2 h]
    unfold word_isDigit.f
    by_cases h1 : c ≥ 48
    · rw [if_pos h1, Option.bind_some, decide_eq_true (show 48 ≤ c from h1)]
      by_cases h2 : c ≤ 57
      · rw [decide_eq_true h2]; rfl
      · rw [decide_eq_false h2, if_neg (by simp)]
        by_cases h3 : c = 95 <;> simp [h3]
    · rw [if_neg h1, Option.bind_some, if_neg (by simp), decide_eq_false (show ¬ 48 ≤ c from h1)]
      by_cases h3 : c = 95 <;> simp [h3]
theorem word_Name.sign_high {c : Int} (h : 128 ≤ c) : word_Name.sign c = false := by
  unfold word_Name.sign word_Name.low
  rw [decide_eq_false (show ¬ c ≤ 122 by omega), decide_eq_false (show ¬ c ≤ 57 by omega), decide_eq_false (show ¬ c = 95 by omega)]
  simp
/-- so far all are signs, and the first one is a to z -/
structure word_Name.Rel (l : List Int) (k : Nat) : Prop where
  le : k ≤ l.length
  all : (l.take k).all word_Name.sign = true
  one : 0 < k → word_Name.low (rd l 0) = true
theorem word_Name.no_sign {l : List Int} {k : Nat} (hk : k < l.length) (h : word_Name.sign (rd l (k : Int)) = false) : word_Name.is l = false := by
  have : l.all word_Name.sign = false := by
    rw [List.all_eq_false]
    refine ⟨rd l (k : Int), ?_, by simpa using h⟩
    unfold rd
    rw [Int.toNat_natCast, List.getD_eq_getElem?_getD, List.getElem?_eq_getElem hk]
    exact List.getElem_mem hk
  unfold word_Name.is
  rw [this]; rfl
theorem word_Name.no_first {l : List Int} (h : word_Name.low (rd l 0) = false) : word_Name.is l = false := by
  unfold word_Name.is
  rw [h]; simp
theorem word_Name.next {l : List Int} {k : Nat} (h : word_Name.Rel l k) (hk : k < l.length) (hs : word_Name.sign (rd l (k : Int)) = true) (h1 : k = 0 → word_Name.low (rd l 0) = true) : word_Name.Rel l (k + 1) := by
  refine ⟨by omega, ?_, fun _ => ?_⟩
  · rw [List.take_add_one, List.getElem?_eq_getElem hk, List.all_append, h.all]
    have : rd l (k : Int) = l[k] := by
      unfold rd; rw [Int.toNat_natCast, List.getD_eq_getElem?_getD, List.getElem?_eq_getElem hk]; rfl
    rw [this] at hs
    simp [hs]
  · rcases Nat.eq_zero_or_pos k with h2 | h2
    · exact h1 h2
    · exact h.one h2
theorem word_Name.done {l : List Int} (h : word_Name.Rel l l.length) (h0 : 1 ≤ l.length) : word_Name.is l = decide (l.length ≤ 32) := by
  unfold word_Name.is
  have := h.all
  rw [List.take_length] at this
  rw [this, h.one (by omega), decide_eq_true h0]; rfl
set_option maxHeartbeats 1000000 in
set_option maxRecDepth 100000 in
theorem word_Name.calls (a0 : ByteArray) (r : Bool) (w : World) (h : word_Name.f a0 = some r) :
    Calls Try.prog 10 #[.string a0] w fun e w' => e = .returned (.bool r) ∧ Below w.heap.size w w' := by
  unfold word_Name.f at h
  by_cases hs : a0.size ≤ 140737488351232
  · rw [if_pos hs] at h
    have H := Aside0.mk (Option.some.inj h)
    clear h
    have HB := Aside0.mk (Below.refl w.heap.size w)
    go_enter Try.func10, Try.ntmps10
    go_wp2_with (first | ((with_reducible refine gate_dst (N := 6) rfl ?_); refine Go.Proofs.YtefljkgfkkdaiaaW.HandWords.hand_range w.heap.size rfl (N := 6) rfl 9 _ rfl Try.underlying9 a0 rfl HB.out (Nat.le_refl _) ?_; intro g w1 hbg hgl hg0 hb1; have n1_ := Aside0.mk hb1; have HG := Aside0.mk hg0; clear HB hg0 hb1; have HB := n1_; clear n1_))
    go_simp
    go_loopw [4] (fun _ wr => ∃ k : Nat, Aside0 (word_Name.Rel (bytesOf a0) k) ∧ Aside0 (wr.heap[g]? = some (.stringIter a0 k)) ∧ Aside0 (Below w.heap.size w wr)) (fun _ wr => a0.size - wr.iterPos g)
    case atStart => exact ⟨0, ⟨⟨Nat.zero_le _, rfl, fun h => absurd h (Nat.lt_irrefl 0)⟩⟩, HG, HB⟩
    case round =>
      clear HG HB
      obtain ⟨k, HR, HG, HB⟩ := hrel
      have HM : Aside0 (wr.iterPos g = k) := ⟨by simp [World.iterPos, HG.out]⟩
      by_cases hp : k < a0.size
      · have hkl : k < (bytesOf a0).length := by rw [bytesOf_length]; exact hp
        have hrd : rd (bytesOf a0) (k : Int) = ((a0[k]'hp).toNat : Int) := by
          rw [rd_bytesOf]; unfold bt; rw [dif_pos (by simpa using hp)]; rfl
        obtain ⟨rn, hrn⟩ : ∃ rn : Nat, (Utf8.decode a0 k).1 = rn := ⟨_, rfl⟩
        obtain ⟨wd, hwd⟩ : ∃ wd : Nat, k + (Utf8.decode a0 k).2 = wd := ⟨_, rfl⟩
        have HE := Aside0.mk hrn
        have HW := Aside0.mk hwd
        by_cases hsg : word_Name.sign (rn : Int) = true
        · have hasc : (a0[k]'hp).toNat < 128 := by
            rcases Nat.lt_or_ge (a0[k]'hp).toNat 128 with h1 | h1
            · exact h1
            · have hdec := decode_high a0 k hp h1
              rw [hrn] at hdec
              rw [word_Name.sign_high (by omega)] at hsg; cases hsg
          have hdec := decode_ascii a0 k hp hasc
          have hrc : rd (bytesOf a0) (k : Int) = (rn : Int) := by rw [hrd, ← hrn, hdec]
          have hw1 : wd = k + 1 := by rw [← hwd, hdec]
          have HS : Aside0 (word_isSign.f (rn : Int) = some true) := ⟨by rw [word_Name.sign_f, hsg]⟩
          by_cases hk0 : k = 0
          · have hkb : ((k : Int) == 0) = true := beq_iff_eq.mpr (by omega)
            have hr0 : rd (bytesOf a0) 0 = (rn : Int) := by rw [← hrc, hk0]; rfl
            clear hk0
            by_cases hlo : word_Name.low (rn : Int) = true
            · have HL : Aside0 (word_isLower.f (rn : Int) = some true) := ⟨by rw [word_Name.low_f, hlo]⟩
              have HN := Aside0.mk (word_Name.next HR.out hkl (by rw [hrc]; exact hsg) (fun _ => by rw [hr0]; exact hlo))
              subst hw1
              clear hrn hwd hdec hasc hrd hrc hsg hlo hr0 HR
              go_wp2_with (first | ((with_reducible refine gate_dst (N := 7) rfl ?_); refine Go.Proofs.YtefljkgfkkdaiaaW.HandWords.hand_next (w0 := w) w.heap.size rfl (N := 7) rfl _ rfl g rfl a0 k HG.out hp hbg HB.out ?_; intro w1 hg1 hb1; rw [HW.out] at hg1; have n1_ := Aside0.mk hb1; have n2_ := Aside0.mk hg1; clear HB HG hg1 hb1; have HB := n1_; have HG := n2_; clear n1_ n2_; rw [HE.out]) | ((with_reducible refine gate_callee (f := 21) rfl ?_); refine goesL_ (some 12) rfl rfl Try.func21 (by kernel_rfl) rfl #[.int .i32 (rn : Int)] rfl (by (try simp only [List.map_toArray, List.map_cons, List.map_nil]); first | done | rfl) ?_; (with_reducible refine (word_isSign.calls (rn : Int) _ _ HS.out).mono ?_); rintro e w' ⟨rfl, ⟨nd, rfl⟩⟩; refine ⟨_, rfl, ?_⟩) | (go_at_call 22; (with_reducible refine (word_isLower.calls (rn : Int) _ _ HL.out).mono ?_); rintro e w' ⟨rfl, ⟨nd2, rfl⟩⟩))
              go_roundw
              case rel => exact ⟨_, HN, HG, ⟨by repeat (first | exact HB.out | (with_reducible refine pw_below_drewN ?_ _))⟩⟩
              case measure =>
                have hm2 : w1.iterPos g = k + 1 := by simp [World.iterPos, HG.out]
                show a0.size - w1.iterPos g < a0.size - wr.iterPos g
                rw [hm2, HM.out]; omega
            · have HL : Aside0 (word_isLower.f (rn : Int) = some false) := ⟨by rw [word_Name.low_f, Bool.eq_false_iff.2 hlo]⟩
              have HF : Aside0 (word_Name.is (bytesOf a0) = false) := ⟨word_Name.no_first (by rw [hr0]; exact Bool.eq_false_iff.2 hlo)⟩
              subst hw1
              clear hrn hwd hdec hasc hrd hrc hsg hlo hr0 HR
              go_wp2_with (first | ((with_reducible refine gate_dst (N := 7) rfl ?_); refine Go.Proofs.YtefljkgfkkdaiaaW.HandWords.hand_next (w0 := w) w.heap.size rfl (N := 7) rfl _ rfl g rfl a0 k HG.out hp hbg HB.out ?_; intro w1 hg1 hb1; rw [HW.out] at hg1; have n1_ := Aside0.mk hb1; have n2_ := Aside0.mk hg1; clear HB HG hg1 hb1; have HB := n1_; have HG := n2_; clear n1_ n2_; rw [HE.out]) | ((with_reducible refine gate_callee (f := 21) rfl ?_); refine goesL_ (some 12) rfl rfl Try.func21 (by kernel_rfl) rfl #[.int .i32 (rn : Int)] rfl (by (try simp only [List.map_toArray, List.map_cons, List.map_nil]); first | done | rfl) ?_; (with_reducible refine (word_isSign.calls (rn : Int) _ _ HS.out).mono ?_); rintro e w' ⟨rfl, ⟨nd, rfl⟩⟩; refine ⟨_, rfl, ?_⟩) | (go_at_call 22; (with_reducible refine (word_isLower.calls (rn : Int) _ _ HL.out).mono ?_); rintro e w' ⟨rfl, ⟨nd2, rfl⟩⟩))
              go_ret
              exact ⟨by rw [← H.out, HF.out]; rfl, by repeat (first | exact HB.out | (with_reducible refine pw_below_drewN ?_ _))⟩
          · have hkb : ((k : Int) == 0) = false := beq_eq_false_iff_ne.mpr (by omega)
            have HN := Aside0.mk (word_Name.next HR.out hkl (by rw [hrc]; exact hsg) (fun h1 => absurd h1 hk0))
            subst hw1
            clear hrn hwd hdec hasc hrd hrc hsg HR
            go_wp2_with (first | ((with_reducible refine gate_dst (N := 7) rfl ?_); refine Go.Proofs.YtefljkgfkkdaiaaW.HandWords.hand_next (w0 := w) w.heap.size rfl (N := 7) rfl _ rfl g rfl a0 k HG.out hp hbg HB.out ?_; intro w1 hg1 hb1; rw [HW.out] at hg1; have n1_ := Aside0.mk hb1; have n2_ := Aside0.mk hg1; clear HB HG hg1 hb1; have HB := n1_; have HG := n2_; clear n1_ n2_; rw [HE.out]) | ((with_reducible refine gate_callee (f := 21) rfl ?_); refine goesL_ (some 12) rfl rfl Try.func21 (by kernel_rfl) rfl #[.int .i32 (rn : Int)] rfl (by (try simp only [List.map_toArray, List.map_cons, List.map_nil]); first | done | rfl) ?_; (with_reducible refine (word_isSign.calls (rn : Int) _ _ HS.out).mono ?_); rintro e w' ⟨rfl, ⟨nd, rfl⟩⟩; refine ⟨_, rfl, ?_⟩))
            go_roundw
            case rel => exact ⟨_, HN, HG, ⟨by repeat (first | exact HB.out | (with_reducible refine pw_below_drewN ?_ _))⟩⟩
            case measure =>
                have hm2 : w1.iterPos g = k + 1 := by simp [World.iterPos, HG.out]
                show a0.size - w1.iterPos g < a0.size - wr.iterPos g
                rw [hm2, HM.out]; omega
        · have hsg2 : word_Name.sign (rd (bytesOf a0) (k : Int)) = false := by
            rcases Nat.lt_or_ge (a0[k]'hp).toNat 128 with h1 | h1
            · have hdec := decode_ascii a0 k hp h1
              rw [hrd, show ((a0[k]'hp).toNat : Int) = (rn : Int) from by rw [← hrn, hdec]]
              exact Bool.eq_false_iff.2 hsg
            · rw [hrd]; exact word_Name.sign_high (by omega)
          have HS : Aside0 (word_isSign.f (rn : Int) = some false) := ⟨by rw [word_Name.sign_f, Bool.eq_false_iff.2 hsg]⟩
          have HF : Aside0 (word_Name.is (bytesOf a0) = false) := ⟨word_Name.no_sign hkl hsg2⟩
          clear hrn hwd hrd hsg hsg2 HR
          go_wp2_with (first | ((with_reducible refine gate_dst (N := 7) rfl ?_); refine Go.Proofs.YtefljkgfkkdaiaaW.HandWords.hand_next (w0 := w) w.heap.size rfl (N := 7) rfl _ rfl g rfl a0 k HG.out hp hbg HB.out ?_; intro w1 hg1 hb1; rw [HW.out] at hg1; have n1_ := Aside0.mk hb1; have n2_ := Aside0.mk hg1; clear HB HG hg1 hb1; have HB := n1_; have HG := n2_; clear n1_ n2_; rw [HE.out]) | ((with_reducible refine gate_callee (f := 21) rfl ?_); refine goesL_ (some 12) rfl rfl Try.func21 (by kernel_rfl) rfl #[.int .i32 (rn : Int)] rfl (by (try simp only [List.map_toArray, List.map_cons, List.map_nil]); first | done | rfl) ?_; (with_reducible refine (word_isSign.calls (rn : Int) _ _ HS.out).mono ?_); rintro e w' ⟨rfl, ⟨nd, rfl⟩⟩; refine ⟨_, rfl, ?_⟩))
          go_ret
          exact ⟨by rw [← H.out, HF.out]; rfl, by repeat (first | exact HB.out | (with_reducible refine pw_below_drewN ?_ _))⟩
      · have hkl : k = (bytesOf a0).length := by have := HR.out.le; rw [bytesOf_length] at this ⊢; omega
        have HR2 : Aside0 (word_Name.Rel (bytesOf a0) (bytesOf a0).length) := ⟨by have := HR.out; rw [hkl] at this; exact this⟩
        clear hkl HR
        by_cases hz : a0.size = 0
        · have hnil : a0.toList = [] := by rw [ByteArray.toList_eq]; exact List.eq_nil_of_length_eq_zero (by rw [data_length]; exact hz)
          have hnb : (a0.toList != ([] : List UInt8)) = false := bne_eq_false_iff_eq.mpr hnil
          have hnb2 : (a0.toList == ([] : List UInt8)) = true := beq_iff_eq.mpr hnil
          have HF : Aside0 (word_Name.is (bytesOf a0) = false) := ⟨by unfold word_Name.is; rw [bytesOf_length, hz]; simp⟩
          clear hnil hz HR2
          go_wp2_with (first | ((with_reducible refine gate_dst (N := 7) rfl ?_); refine Go.Proofs.YtefljkgfkkdaiaaW.HandWords.hand_next_end rfl (N := 7) rfl _ rfl g rfl a0 k HG.out hp ?_))
          go_ret
          exact ⟨by rw [← H.out, HF.out]; rfl, by repeat (first | exact HB.out | (with_reducible refine pw_below_drewN ?_ _))⟩
        · have hnn : a0.toList ≠ [] := by
            rw [ByteArray.toList_eq]; intro h1
            have := data_length a0
            rw [h1] at this; simp at this; omega
          have hnb : (a0.toList != ([] : List UInt8)) = true := bne_iff_ne.mpr hnn
          have hnb2 : (a0.toList == ([] : List UInt8)) = false := beq_eq_false_iff_ne.mpr hnn
          have HF : Aside0 (word_Name.is (bytesOf a0) = decide ((a0.size : Int) ≤ 32)) := ⟨by rw [word_Name.done HR2.out (by rw [bytesOf_length]; omega), bytesOf_length]; exact decide_eq_decide.2 (by omega)⟩
          clear hnn HR2
          go_wp2_with (first | ((with_reducible refine gate_dst (N := 7) rfl ?_); refine Go.Proofs.YtefljkgfkkdaiaaW.HandWords.hand_next_end rfl (N := 7) rfl _ rfl g rfl a0 k HG.out hp ?_))
          go_ret
          exact ⟨by rw [← H.out, HF.out]; rfl, HB.out⟩
  · exact absurd ((if_neg hs).symm.trans h) (by simp)

/-! ### haruspexlaw05_awake: function 11 -/
def haruspexlaw05_awake.f  : Option (Bool) := (word_Name.f (⟨#[97, 49, 95]⟩ : ByteArray)).bind fun t103 => (some t103)
set_option maxHeartbeats 8000000 in
set_option maxRecDepth 100000 in
theorem haruspexlaw05_awake.calls  (r : Bool) (w : World) (h : haruspexlaw05_awake.f  = some r) :
    Calls Try.prog 11 #[] w fun e w' => e = .returned (.bool r) ∧ Below w.heap.size w w' := by
  have HB := Aside0.mk (Below.refl w.heap.size w)
  have H : ((word_Name.f (⟨#[97, 49, 95]⟩ : ByteArray)).bind fun t103 => (some t103)) = some r := h
  clear h
  replace H := Option.bind_eq_some_iff.mp H
  obtain ⟨t103, A10, H⟩ := H
  replace H : (some t103) = some r := H
  have A1 := Aside0.mk A10
  clear A10
  obtain rfl := Option.some.inj H
  go_enter Try.func11, Try.ntmps11
  go_wp2_with (first | ((with_reducible refine gate_callee (f := 10) rfl ?_); refine goesL_ (some 1) rfl rfl Try.func10 (by kernel_rfl) rfl #[.string (⟨#[97, 49, 95]⟩ : ByteArray)] rfl (by (try simp only [List.map_toArray, List.map_cons, List.map_nil]); first | done | rfl | (simp only [List.length_drop, List.length_take]; rfl)) ?_; (with_reducible refine (word_Name.calls (⟨#[97, 49, 95]⟩ : ByteArray) t103 _ A1.out).mono ?_); rintro e w2 ⟨rfl, hb⟩; refine ⟨_, rfl, ?_⟩; have n0_ := Aside0.mk (below_step (by repeat (first | (with_reducible first | exact HB.out | apply below_alloc | apply pw_below_drewN | apply below_drew1) | exact HB.out)) hb); clear HB; have HB := n0_; clear n0_; (try clear hb); (try clear hb2); (try clear hk); (try clear hi)))
  go_ret
  exact ⟨by first | rfl | (simp [errW_none, errW_some] <;> rfl) | (simp [*, errW_none, errW_some] <;> rfl), by repeat (first | (with_reducible first | exact HB.out | apply below_alloc | apply pw_below_drewN | apply below_drew1) | exact HB.out)⟩

/-! ### haruspexlaw05_WordFolds: function 3 -/
def haruspexlaw05_WordFolds.f (a0 : ByteArray) : Option (Bool) := (word_Fold.f a0).bind fun t104 => ((word_Fold.f t104).bind fun t105 => (if t105.toList = t104.toList then (if (t104.size : Int) = (a0.size : Int) then ((word_Upper.f a0).bind fun t106 => (if t106 = true then ((word_Name.f t104).bind fun t107 => (if t107 = true then ((word_Name.f a0).bind fun t108 => (if t108 = true then (none) else ((word_Name.f a0).bind fun t109 => (if t109 = true then (if t104.toList = a0.toList then ((haruspexlaw05_awake.f).bind fun t110 => (some t110)) else (none)) else ((haruspexlaw05_awake.f).bind fun t111 => (some t111)))))) else (none))) else ((word_Name.f a0).bind fun t112 => (if t112 = true then (if t104.toList = a0.toList then ((haruspexlaw05_awake.f).bind fun t113 => (some t113)) else (none)) else ((haruspexlaw05_awake.f).bind fun t114 => (some t114)))))) else (none)) else (none)))
set_option maxHeartbeats 8000000 in
set_option maxRecDepth 100000 in
theorem haruspexlaw05_WordFolds.calls (a0 : ByteArray) (r : Bool) (w : World) (h : haruspexlaw05_WordFolds.f a0 = some r) :
    Calls Try.prog 3 #[.string a0] w fun e w' => e = .returned (.bool r) ∧ Below w.heap.size w w' := by
  have HB := Aside0.mk (Below.refl w.heap.size w)
  have H : ((word_Fold.f a0).bind fun t104 => ((word_Fold.f t104).bind fun t105 => (if t105.toList = t104.toList then (if (t104.size : Int) = (a0.size : Int) then ((word_Upper.f a0).bind fun t106 => (if t106 = true then ((word_Name.f t104).bind fun t107 => (if t107 = true then ((word_Name.f a0).bind fun t108 => (if t108 = true then (none) else ((word_Name.f a0).bind fun t109 => (if t109 = true then (if t104.toList = a0.toList then ((haruspexlaw05_awake.f).bind fun t110 => (some t110)) else (none)) else ((haruspexlaw05_awake.f).bind fun t111 => (some t111)))))) else (none))) else ((word_Name.f a0).bind fun t112 => (if t112 = true then (if t104.toList = a0.toList then ((haruspexlaw05_awake.f).bind fun t113 => (some t113)) else (none)) else ((haruspexlaw05_awake.f).bind fun t114 => (some t114)))))) else (none)) else (none)))) = some r := h
  clear h
  replace H := Option.bind_eq_some_iff.mp H
  obtain ⟨t104, A20, H⟩ := H
  replace H : ((word_Fold.f t104).bind fun t105 => (if t105.toList = t104.toList then (if (t104.size : Int) = (a0.size : Int) then ((word_Upper.f a0).bind fun t106 => (if t106 = true then ((word_Name.f t104).bind fun t107 => (if t107 = true then ((word_Name.f a0).bind fun t108 => (if t108 = true then (none) else ((word_Name.f a0).bind fun t109 => (if t109 = true then (if t104.toList = a0.toList then ((haruspexlaw05_awake.f).bind fun t110 => (some t110)) else (none)) else ((haruspexlaw05_awake.f).bind fun t111 => (some t111)))))) else (none))) else ((word_Name.f a0).bind fun t112 => (if t112 = true then (if t104.toList = a0.toList then ((haruspexlaw05_awake.f).bind fun t113 => (some t113)) else (none)) else ((haruspexlaw05_awake.f).bind fun t114 => (some t114)))))) else (none)) else (none))) = some r := H
  have A2 := Aside0.mk A20
  clear A20
  replace H := Option.bind_eq_some_iff.mp H
  obtain ⟨t105, A30, H⟩ := H
  replace H : (if t105.toList = t104.toList then (if (t104.size : Int) = (a0.size : Int) then ((word_Upper.f a0).bind fun t106 => (if t106 = true then ((word_Name.f t104).bind fun t107 => (if t107 = true then ((word_Name.f a0).bind fun t108 => (if t108 = true then (none) else ((word_Name.f a0).bind fun t109 => (if t109 = true then (if t104.toList = a0.toList then ((haruspexlaw05_awake.f).bind fun t110 => (some t110)) else (none)) else ((haruspexlaw05_awake.f).bind fun t111 => (some t111)))))) else (none))) else ((word_Name.f a0).bind fun t112 => (if t112 = true then (if t104.toList = a0.toList then ((haruspexlaw05_awake.f).bind fun t113 => (some t113)) else (none)) else ((haruspexlaw05_awake.f).bind fun t114 => (some t114)))))) else (none)) else (none)) = some r := H
  have A3 := Aside0.mk A30
  clear A30
  by_cases c4 : t105.toList = t104.toList
  · rw [if_pos c4] at H
    have c4b0 : (t105.toList == t104.toList) = true := beq_iff_eq.mpr c4
    have c4b1 : (t105.toList != t104.toList) = false := bne_eq_false_iff_eq.mpr c4
    clear c4
    by_cases c5 : (t104.size : Int) = (a0.size : Int)
    · rw [if_pos c5] at H
      have c5b0 : ((t104.size : Int) == (a0.size : Int)) = true := beq_iff_eq.mpr c5
      have c5b1 : ((t104.size : Int) != (a0.size : Int)) = false := bne_eq_false_iff_eq.mpr c5
      have c5b2 : (t104.size == a0.size) = true := by first | simpa using c5 | (simp at c5 ⊢; omega)
      clear c5
      replace H := Option.bind_eq_some_iff.mp H
      obtain ⟨t106, A60, H⟩ := H
      replace H : (if t106 = true then ((word_Name.f t104).bind fun t107 => (if t107 = true then ((word_Name.f a0).bind fun t108 => (if t108 = true then (none) else ((word_Name.f a0).bind fun t109 => (if t109 = true then (if t104.toList = a0.toList then ((haruspexlaw05_awake.f).bind fun t110 => (some t110)) else (none)) else ((haruspexlaw05_awake.f).bind fun t111 => (some t111)))))) else (none))) else ((word_Name.f a0).bind fun t112 => (if t112 = true then (if t104.toList = a0.toList then ((haruspexlaw05_awake.f).bind fun t113 => (some t113)) else (none)) else ((haruspexlaw05_awake.f).bind fun t114 => (some t114))))) = some r := H
      have A6 := Aside0.mk A60
      clear A60
      by_cases c7 : t106 = true
      · subst c7
        have H1 : ((word_Name.f t104).bind fun t107 => (if t107 = true then ((word_Name.f a0).bind fun t108 => (if t108 = true then (none) else ((word_Name.f a0).bind fun t109 => (if t109 = true then (if t104.toList = a0.toList then ((haruspexlaw05_awake.f).bind fun t110 => (some t110)) else (none)) else ((haruspexlaw05_awake.f).bind fun t111 => (some t111)))))) else (none))) = some r := by rw [if_pos rfl] at H; exact H
        clear H
        have H := H1
        clear H1
        replace H := Option.bind_eq_some_iff.mp H
        obtain ⟨t107, A80, H⟩ := H
        replace H : (if t107 = true then ((word_Name.f a0).bind fun t108 => (if t108 = true then (none) else ((word_Name.f a0).bind fun t109 => (if t109 = true then (if t104.toList = a0.toList then ((haruspexlaw05_awake.f).bind fun t110 => (some t110)) else (none)) else ((haruspexlaw05_awake.f).bind fun t111 => (some t111)))))) else (none)) = some r := H
        have A8 := Aside0.mk A80
        clear A80
        by_cases c9 : t107 = true
        · subst c9
          have H1 : ((word_Name.f a0).bind fun t108 => (if t108 = true then (none) else ((word_Name.f a0).bind fun t109 => (if t109 = true then (if t104.toList = a0.toList then ((haruspexlaw05_awake.f).bind fun t110 => (some t110)) else (none)) else ((haruspexlaw05_awake.f).bind fun t111 => (some t111)))))) = some r := by rw [if_pos rfl] at H; exact H
          clear H
          have H := H1
          clear H1
          replace H := Option.bind_eq_some_iff.mp H
          obtain ⟨t108, A100, H⟩ := H
          replace H : (if t108 = true then (none) else ((word_Name.f a0).bind fun t109 => (if t109 = true then (if t104.toList = a0.toList then ((haruspexlaw05_awake.f).bind fun t110 => (some t110)) else (none)) else ((haruspexlaw05_awake.f).bind fun t111 => (some t111))))) = some r := H
          have A10 := Aside0.mk A100
          clear A100
          by_cases c11 : t108 = true
          · subst c11
            have H1 : (none) = some r := by rw [if_pos rfl] at H; exact H
            clear H
            have H := H1
            clear H1
            exact absurd H (by simp)
          · replace c11 := Bool.eq_false_iff.mpr c11
            subst c11
            have H1 : ((word_Name.f a0).bind fun t109 => (if t109 = true then (if t104.toList = a0.toList then ((haruspexlaw05_awake.f).bind fun t110 => (some t110)) else (none)) else ((haruspexlaw05_awake.f).bind fun t111 => (some t111)))) = some r := by rw [if_neg (show ¬ (false = true) by decide)] at H; exact H
            clear H
            have H := H1
            clear H1
            replace H := Option.bind_eq_some_iff.mp H
            obtain ⟨t109, A120, H⟩ := H
            replace H : (if t109 = true then (if t104.toList = a0.toList then ((haruspexlaw05_awake.f).bind fun t110 => (some t110)) else (none)) else ((haruspexlaw05_awake.f).bind fun t111 => (some t111))) = some r := H
            have A12 := Aside0.mk A120
            clear A120
            by_cases c13 : t109 = true
            · subst c13
              have H1 : (if t104.toList = a0.toList then ((haruspexlaw05_awake.f).bind fun t110 => (some t110)) else (none)) = some r := by rw [if_pos rfl] at H; exact H
              clear H
              have H := H1
              clear H1
              by_cases c14 : t104.toList = a0.toList
              · rw [if_pos c14] at H
                have c14b0 : (t104.toList == a0.toList) = true := beq_iff_eq.mpr c14
                have c14b1 : (t104.toList != a0.toList) = false := bne_eq_false_iff_eq.mpr c14
                clear c14
                replace H := Option.bind_eq_some_iff.mp H
                obtain ⟨t110, A150, H⟩ := H
                replace H : (some t110) = some r := H
                have A15 := Aside0.mk A150
                clear A150
                obtain rfl := Option.some.inj H
                go_enter Try.func3, Try.ntmps3
                go_wp2_with (first | ((with_reducible refine gate_callee (f := 8) rfl ?_); refine goesL_ (some 5) rfl rfl Try.func8 (by kernel_rfl) rfl #[.string a0] rfl (by (try simp only [List.map_toArray, List.map_cons, List.map_nil]); first | done | rfl | (simp only [List.length_drop, List.length_take]; rfl)) ?_; (with_reducible refine (word_Fold.calls a0 t104 _ A2.out).mono ?_); rintro e w16 ⟨rfl, hb⟩; refine ⟨_, rfl, ?_⟩; have n0_ := Aside0.mk (below_step (by repeat (first | (with_reducible first | exact HB.out | apply below_alloc | apply pw_below_drewN | apply below_drew1) | exact HB.out)) hb); clear HB; have HB := n0_; clear n0_; (try clear hb); (try clear hb2); (try clear hk); (try clear hi)) | ((with_reducible refine gate_callee (f := 8) rfl ?_); refine goesL_ (some 7) rfl rfl Try.func8 (by kernel_rfl) rfl #[.string t104] rfl (by (try simp only [List.map_toArray, List.map_cons, List.map_nil]); first | done | rfl | (simp only [List.length_drop, List.length_take]; rfl)) ?_; (with_reducible refine (word_Fold.calls t104 t105 _ A3.out).mono ?_); rintro e w17 ⟨rfl, hb⟩; refine ⟨_, rfl, ?_⟩; have n0_ := Aside0.mk (below_step (by repeat (first | (with_reducible first | exact HB.out | apply below_alloc | apply pw_below_drewN | apply below_drew1) | exact HB.out)) hb); clear HB; have HB := n0_; clear n0_; (try clear hb); (try clear hb2); (try clear hk); (try clear hi)) | (go_at_call 9; (with_reducible refine (word_Upper.calls a0 true _ A6.out).mono ?_); rintro e w18 ⟨rfl, hb⟩; have n0_ := Aside0.mk (below_step (by repeat (first | (with_reducible first | exact HB.out | apply below_alloc | apply pw_below_drewN | apply below_drew1) | exact HB.out)) hb); clear HB; have HB := n0_; clear n0_; (try clear hb); (try clear hb2); (try clear hk); (try clear hi)) | (go_at_call 10; (with_reducible refine (word_Name.calls t104 true _ A8.out).mono ?_); rintro e w19 ⟨rfl, hb⟩; have n0_ := Aside0.mk (below_step (by repeat (first | (with_reducible first | exact HB.out | apply below_alloc | apply pw_below_drewN | apply below_drew1) | exact HB.out)) hb); clear HB; have HB := n0_; clear n0_; (try clear hb); (try clear hb2); (try clear hk); (try clear hi)) | (go_at_call 10; (with_reducible refine (word_Name.calls a0 false _ A10.out).mono ?_); rintro e w20 ⟨rfl, hb⟩; have n0_ := Aside0.mk (below_step (by repeat (first | (with_reducible first | exact HB.out | apply below_alloc | apply pw_below_drewN | apply below_drew1) | exact HB.out)) hb); clear HB; have HB := n0_; clear n0_; (try clear hb); (try clear hb2); (try clear hk); (try clear hi)) | (go_at_call 10; (with_reducible refine (word_Name.calls a0 true _ A12.out).mono ?_); rintro e w21 ⟨rfl, hb⟩; have n0_ := Aside0.mk (below_step (by repeat (first | (with_reducible first | exact HB.out | apply below_alloc | apply pw_below_drewN | apply below_drew1) | exact HB.out)) hb); clear HB; have HB := n0_; clear n0_; (try clear hb); (try clear hb2); (try clear hk); (try clear hi)) | (go_at_call 11; (with_reducible refine (haruspexlaw05_awake.calls  t110 _ A15.out).mono ?_); rintro e w22 ⟨rfl, hb⟩; have n0_ := Aside0.mk (below_step (by repeat (first | (with_reducible first | exact HB.out | apply below_alloc | apply pw_below_drewN | apply below_drew1) | exact HB.out)) hb); clear HB; have HB := n0_; clear n0_; (try clear hb); (try clear hb2); (try clear hk); (try clear hi)))
                go_ret
                exact ⟨by first | rfl | (simp [errW_none, errW_some] <;> rfl) | (simp [*, errW_none, errW_some] <;> rfl), by repeat (first | (with_reducible first | exact HB.out | apply below_alloc | apply pw_below_drewN | apply below_drew1) | exact HB.out)⟩
              · rw [if_neg c14] at H
                exact absurd H (by simp)
            · replace c13 := Bool.eq_false_iff.mpr c13
              subst c13
              have H1 : ((haruspexlaw05_awake.f).bind fun t111 => (some t111)) = some r := by rw [if_neg (show ¬ (false = true) by decide)] at H; exact H
              clear H
              have H := H1
              clear H1
              replace H := Option.bind_eq_some_iff.mp H
              obtain ⟨t111, A230, H⟩ := H
              replace H : (some t111) = some r := H
              have A23 := Aside0.mk A230
              clear A230
              obtain rfl := Option.some.inj H
              go_enter Try.func3, Try.ntmps3
              go_wp2_with (first | ((with_reducible refine gate_callee (f := 8) rfl ?_); refine goesL_ (some 5) rfl rfl Try.func8 (by kernel_rfl) rfl #[.string a0] rfl (by (try simp only [List.map_toArray, List.map_cons, List.map_nil]); first | done | rfl | (simp only [List.length_drop, List.length_take]; rfl)) ?_; (with_reducible refine (word_Fold.calls a0 t104 _ A2.out).mono ?_); rintro e w24 ⟨rfl, hb⟩; refine ⟨_, rfl, ?_⟩; have n0_ := Aside0.mk (below_step (by repeat (first | (with_reducible first | exact HB.out | apply below_alloc | apply pw_below_drewN | apply below_drew1) | exact HB.out)) hb); clear HB; have HB := n0_; clear n0_; (try clear hb); (try clear hb2); (try clear hk); (try clear hi)) | ((with_reducible refine gate_callee (f := 8) rfl ?_); refine goesL_ (some 7) rfl rfl Try.func8 (by kernel_rfl) rfl #[.string t104] rfl (by (try simp only [List.map_toArray, List.map_cons, List.map_nil]); first | done | rfl | (simp only [List.length_drop, List.length_take]; rfl)) ?_; (with_reducible refine (word_Fold.calls t104 t105 _ A3.out).mono ?_); rintro e w25 ⟨rfl, hb⟩; refine ⟨_, rfl, ?_⟩; have n0_ := Aside0.mk (below_step (by repeat (first | (with_reducible first | exact HB.out | apply below_alloc | apply pw_below_drewN | apply below_drew1) | exact HB.out)) hb); clear HB; have HB := n0_; clear n0_; (try clear hb); (try clear hb2); (try clear hk); (try clear hi)) | (go_at_call 9; (with_reducible refine (word_Upper.calls a0 true _ A6.out).mono ?_); rintro e w26 ⟨rfl, hb⟩; have n0_ := Aside0.mk (below_step (by repeat (first | (with_reducible first | exact HB.out | apply below_alloc | apply pw_below_drewN | apply below_drew1) | exact HB.out)) hb); clear HB; have HB := n0_; clear n0_; (try clear hb); (try clear hb2); (try clear hk); (try clear hi)) | (go_at_call 10; (with_reducible refine (word_Name.calls t104 true _ A8.out).mono ?_); rintro e w27 ⟨rfl, hb⟩; have n0_ := Aside0.mk (below_step (by repeat (first | (with_reducible first | exact HB.out | apply below_alloc | apply pw_below_drewN | apply below_drew1) | exact HB.out)) hb); clear HB; have HB := n0_; clear n0_; (try clear hb); (try clear hb2); (try clear hk); (try clear hi)) | (go_at_call 10; (with_reducible refine (word_Name.calls a0 false _ A10.out).mono ?_); rintro e w28 ⟨rfl, hb⟩; have n0_ := Aside0.mk (below_step (by repeat (first | (with_reducible first | exact HB.out | apply below_alloc | apply pw_below_drewN | apply below_drew1) | exact HB.out)) hb); clear HB; have HB := n0_; clear n0_; (try clear hb); (try clear hb2); (try clear hk); (try clear hi)) | (go_at_call 10; (with_reducible refine (word_Name.calls a0 false _ A12.out).mono ?_); rintro e w29 ⟨rfl, hb⟩; have n0_ := Aside0.mk (below_step (by repeat (first | (with_reducible first | exact HB.out | apply below_alloc | apply pw_below_drewN | apply below_drew1) | exact HB.out)) hb); clear HB; have HB := n0_; clear n0_; (try clear hb); (try clear hb2); (try clear hk); (try clear hi)) | (go_at_call 11; (with_reducible refine (haruspexlaw05_awake.calls  t111 _ A23.out).mono ?_); rintro e w30 ⟨rfl, hb⟩; have n0_ := Aside0.mk (below_step (by repeat (first | (with_reducible first | exact HB.out | apply below_alloc | apply pw_below_drewN | apply below_drew1) | exact HB.out)) hb); clear HB; have HB := n0_; clear n0_; (try clear hb); (try clear hb2); (try clear hk); (try clear hi)))
              go_ret
              exact ⟨by first | rfl | (simp [errW_none, errW_some] <;> rfl) | (simp [*, errW_none, errW_some] <;> rfl), by repeat (first | (with_reducible first | exact HB.out | apply below_alloc | apply pw_below_drewN | apply below_drew1) | exact HB.out)⟩
        · replace c9 := Bool.eq_false_iff.mpr c9
          subst c9
          have H1 : (none) = some r := by rw [if_neg (show ¬ (false = true) by decide)] at H; exact H
          clear H
          have H := H1
          clear H1
          exact absurd H (by simp)
      · replace c7 := Bool.eq_false_iff.mpr c7
        subst c7
        have H1 : ((word_Name.f a0).bind fun t112 => (if t112 = true then (if t104.toList = a0.toList then ((haruspexlaw05_awake.f).bind fun t113 => (some t113)) else (none)) else ((haruspexlaw05_awake.f).bind fun t114 => (some t114)))) = some r := by rw [if_neg (show ¬ (false = true) by decide)] at H; exact H
        clear H
        have H := H1
        clear H1
        replace H := Option.bind_eq_some_iff.mp H
        obtain ⟨t112, A310, H⟩ := H
        replace H : (if t112 = true then (if t104.toList = a0.toList then ((haruspexlaw05_awake.f).bind fun t113 => (some t113)) else (none)) else ((haruspexlaw05_awake.f).bind fun t114 => (some t114))) = some r := H
        have A31 := Aside0.mk A310
        clear A310
        by_cases c32 : t112 = true
        · subst c32
          have H1 : (if t104.toList = a0.toList then ((haruspexlaw05_awake.f).bind fun t113 => (some t113)) else (none)) = some r := by rw [if_pos rfl] at H; exact H
          clear H
          have H := H1
          clear H1
          by_cases c33 : t104.toList = a0.toList
          · rw [if_pos c33] at H
            have c33b0 : (t104.toList == a0.toList) = true := beq_iff_eq.mpr c33
            have c33b1 : (t104.toList != a0.toList) = false := bne_eq_false_iff_eq.mpr c33
            clear c33
            replace H := Option.bind_eq_some_iff.mp H
            obtain ⟨t113, A340, H⟩ := H
            replace H : (some t113) = some r := H
            have A34 := Aside0.mk A340
            clear A340
            obtain rfl := Option.some.inj H
            go_enter Try.func3, Try.ntmps3
            go_wp2_with (first | ((with_reducible refine gate_callee (f := 8) rfl ?_); refine goesL_ (some 5) rfl rfl Try.func8 (by kernel_rfl) rfl #[.string a0] rfl (by (try simp only [List.map_toArray, List.map_cons, List.map_nil]); first | done | rfl | (simp only [List.length_drop, List.length_take]; rfl)) ?_; (with_reducible refine (word_Fold.calls a0 t104 _ A2.out).mono ?_); rintro e w35 ⟨rfl, hb⟩; refine ⟨_, rfl, ?_⟩; have n0_ := Aside0.mk (below_step (by repeat (first | (with_reducible first | exact HB.out | apply below_alloc | apply pw_below_drewN | apply below_drew1) | exact HB.out)) hb); clear HB; have HB := n0_; clear n0_; (try clear hb); (try clear hb2); (try clear hk); (try clear hi)) | ((with_reducible refine gate_callee (f := 8) rfl ?_); refine goesL_ (some 7) rfl rfl Try.func8 (by kernel_rfl) rfl #[.string t104] rfl (by (try simp only [List.map_toArray, List.map_cons, List.map_nil]); first | done | rfl | (simp only [List.length_drop, List.length_take]; rfl)) ?_; (with_reducible refine (word_Fold.calls t104 t105 _ A3.out).mono ?_); rintro e w36 ⟨rfl, hb⟩; refine ⟨_, rfl, ?_⟩; have n0_ := Aside0.mk (below_step (by repeat (first | (with_reducible first | exact HB.out | apply below_alloc | apply pw_below_drewN | apply below_drew1) | exact HB.out)) hb); clear HB; have HB := n0_; clear n0_; (try clear hb); (try clear hb2); (try clear hk); (try clear hi)) | (go_at_call 9; (with_reducible refine (word_Upper.calls a0 false _ A6.out).mono ?_); rintro e w37 ⟨rfl, hb⟩; have n0_ := Aside0.mk (below_step (by repeat (first | (with_reducible first | exact HB.out | apply below_alloc | apply pw_below_drewN | apply below_drew1) | exact HB.out)) hb); clear HB; have HB := n0_; clear n0_; (try clear hb); (try clear hb2); (try clear hk); (try clear hi)) | (go_at_call 10; (with_reducible refine (word_Name.calls a0 true _ A31.out).mono ?_); rintro e w38 ⟨rfl, hb⟩; have n0_ := Aside0.mk (below_step (by repeat (first | (with_reducible first | exact HB.out | apply below_alloc | apply pw_below_drewN | apply below_drew1) | exact HB.out)) hb); clear HB; have HB := n0_; clear n0_; (try clear hb); (try clear hb2); (try clear hk); (try clear hi)) | (go_at_call 11; (with_reducible refine (haruspexlaw05_awake.calls  t113 _ A34.out).mono ?_); rintro e w39 ⟨rfl, hb⟩; have n0_ := Aside0.mk (below_step (by repeat (first | (with_reducible first | exact HB.out | apply below_alloc | apply pw_below_drewN | apply below_drew1) | exact HB.out)) hb); clear HB; have HB := n0_; clear n0_; (try clear hb); (try clear hb2); (try clear hk); (try clear hi)))
            go_ret
            exact ⟨by first | rfl | (simp [errW_none, errW_some] <;> rfl) | (simp [*, errW_none, errW_some] <;> rfl), by repeat (first | (with_reducible first | exact HB.out | apply below_alloc | apply pw_below_drewN | apply below_drew1) | exact HB.out)⟩
          · rw [if_neg c33] at H
            exact absurd H (by simp)
        · replace c32 := Bool.eq_false_iff.mpr c32
          subst c32
          have H1 : ((haruspexlaw05_awake.f).bind fun t114 => (some t114)) = some r := by rw [if_neg (show ¬ (false = true) by decide)] at H; exact H
          clear H
          have H := H1
          clear H1
          replace H := Option.bind_eq_some_iff.mp H
          obtain ⟨t114, A400, H⟩ := H
          replace H : (some t114) = some r := H
          have A40 := Aside0.mk A400
          clear A400
          obtain rfl := Option.some.inj H
          go_enter Try.func3, Try.ntmps3
          go_wp2_with (first | ((with_reducible refine gate_callee (f := 8) rfl ?_); refine goesL_ (some 5) rfl rfl Try.func8 (by kernel_rfl) rfl #[.string a0] rfl (by (try simp only [List.map_toArray, List.map_cons, List.map_nil]); first | done | rfl | (simp only [List.length_drop, List.length_take]; rfl)) ?_; (with_reducible refine (word_Fold.calls a0 t104 _ A2.out).mono ?_); rintro e w41 ⟨rfl, hb⟩; refine ⟨_, rfl, ?_⟩; have n0_ := Aside0.mk (below_step (by repeat (first | (with_reducible first | exact HB.out | apply below_alloc | apply pw_below_drewN | apply below_drew1) | exact HB.out)) hb); clear HB; have HB := n0_; clear n0_; (try clear hb); (try clear hb2); (try clear hk); (try clear hi)) | ((with_reducible refine gate_callee (f := 8) rfl ?_); refine goesL_ (some 7) rfl rfl Try.func8 (by kernel_rfl) rfl #[.string t104] rfl (by (try simp only [List.map_toArray, List.map_cons, List.map_nil]); first | done | rfl | (simp only [List.length_drop, List.length_take]; rfl)) ?_; (with_reducible refine (word_Fold.calls t104 t105 _ A3.out).mono ?_); rintro e w42 ⟨rfl, hb⟩; refine ⟨_, rfl, ?_⟩; have n0_ := Aside0.mk (below_step (by repeat (first | (with_reducible first | exact HB.out | apply below_alloc | apply pw_below_drewN | apply below_drew1) | exact HB.out)) hb); clear HB; have HB := n0_; clear n0_; (try clear hb); (try clear hb2); (try clear hk); (try clear hi)) | (go_at_call 9; (with_reducible refine (word_Upper.calls a0 false _ A6.out).mono ?_); rintro e w43 ⟨rfl, hb⟩; have n0_ := Aside0.mk (below_step (by repeat (first | (with_reducible first | exact HB.out | apply below_alloc | apply pw_below_drewN | apply below_drew1) | exact HB.out)) hb); clear HB; have HB := n0_; clear n0_; (try clear hb); (try clear hb2); (try clear hk); (try clear hi)) | (go_at_call 10; (with_reducible refine (word_Name.calls a0 false _ A31.out).mono ?_); rintro e w44 ⟨rfl, hb⟩; have n0_ := Aside0.mk (below_step (by repeat (first | (with_reducible first | exact HB.out | apply below_alloc | apply pw_below_drewN | apply below_drew1) | exact HB.out)) hb); clear HB; have HB := n0_; clear n0_; (try clear hb); (try clear hb2); (try clear hk); (try clear hi)) | (go_at_call 11; (with_reducible refine (haruspexlaw05_awake.calls  t114 _ A40.out).mono ?_); rintro e w45 ⟨rfl, hb⟩; have n0_ := Aside0.mk (below_step (by repeat (first | (with_reducible first | exact HB.out | apply below_alloc | apply pw_below_drewN | apply below_drew1) | exact HB.out)) hb); clear HB; have HB := n0_; clear n0_; (try clear hb); (try clear hb2); (try clear hk); (try clear hi)))
          go_ret
          exact ⟨by first | rfl | (simp [errW_none, errW_some] <;> rfl) | (simp [*, errW_none, errW_some] <;> rfl), by repeat (first | (with_reducible first | exact HB.out | apply below_alloc | apply pw_below_drewN | apply below_drew1) | exact HB.out)⟩
    · rw [if_neg c5] at H
      exact absurd H (by simp)
  · rw [if_neg c4] at H
    exact absurd H (by simp)

/-- THE ONE PURE STATEMENT of haruspexlaw05_WordFolds: yours. -/
def haruspexlaw05_WordFolds.Pure : Prop := ∀ (a0 : ByteArray), a0.size ≤ 140737488351232 → haruspexlaw05_WordFolds.f a0 = some true
theorem haruspexlaw05_WordFolds.walk (P : haruspexlaw05_WordFolds.Pure) (a0 : ByteArray) (w : World) (w0 : a0.size ≤ 140737488351232) :
    Calls Try.prog 3 #[.string a0] w fun e w' => e = .returned (.bool true) ∧ Below w.heap.size w w' := by
  have h := P a0 w0
  refine (haruspexlaw05_WordFolds.calls a0 true w h).mono ?_
  rintro e w' ⟨rfl, hd⟩
  exact ⟨rfl, hd⟩

/-! ### haruspexref05_lower: function 24 -/
def haruspexref05_lower.f (a0 : Int) : Option (Bool) := if a0 ≥ 97 then (some (decide (a0 ≤ 122))) else (some false)
set_option maxHeartbeats 8000000 in
set_option maxRecDepth 100000 in
theorem haruspexref05_lower.calls (a0 : Int) (r : Bool) (w : World) (h : haruspexref05_lower.f a0 = some r) :
    Calls Try.prog 24 #[.int .u8 a0] w fun e w' => e = .returned (.bool r) ∧ Drawn0 w w' := by
  have H : (if a0 ≥ 97 then (some (decide (a0 ≤ 122))) else (some false)) = some r := h
  clear h
  by_cases c2 : a0 ≥ 97
  · rw [if_pos c2] at H
    have c2b0 : decide (97 ≤ a0) = true := decide_eq_true c2
    clear c2
    obtain rfl := Option.some.inj H
    go_enter Try.func24, Try.ntmps24
    go_wp2
    go_ret
    exact ⟨by first | rfl | (simp; done) | (simp [*]; done), by repeat (first | exact Drawn0.refl _ | apply Drawn0.step)⟩
  · rw [if_neg c2] at H
    have c2b0 : decide (97 ≤ a0) = false := decide_eq_false c2
    clear c2
    obtain rfl := Option.some.inj H
    go_enter Try.func24, Try.ntmps24
    go_wp2
    go_ret
    exact ⟨by first | rfl | (simp; done) | (simp [*]; done), by repeat (first | exact Drawn0.refl _ | apply Drawn0.step)⟩

/-! ### haruspexref05_digit: function 33 -/
def haruspexref05_digit.f (a0 : Int) : Option (Bool) := if a0 ≥ 48 then (some (decide (a0 ≤ 57))) else (some false)
set_option maxHeartbeats 8000000 in
set_option maxRecDepth 100000 in
theorem haruspexref05_digit.calls (a0 : Int) (r : Bool) (w : World) (h : haruspexref05_digit.f a0 = some r) :
    Calls Try.prog 33 #[.int .u8 a0] w fun e w' => e = .returned (.bool r) ∧ Drawn0 w w' := by
  have H : (if a0 ≥ 48 then (some (decide (a0 ≤ 57))) else (some false)) = some r := h
  clear h
  by_cases c2 : a0 ≥ 48
  · rw [if_pos c2] at H
    have c2b0 : decide (48 ≤ a0) = true := decide_eq_true c2
    clear c2
    obtain rfl := Option.some.inj H
    go_enter Try.func33, Try.ntmps33
    go_wp2
    go_ret
    exact ⟨by first | rfl | (simp; done) | (simp [*]; done), by repeat (first | exact Drawn0.refl _ | apply Drawn0.step)⟩
  · rw [if_neg c2] at H
    have c2b0 : decide (48 ≤ a0) = false := decide_eq_false c2
    clear c2
    obtain rfl := Option.some.inj H
    go_enter Try.func33, Try.ntmps33
    go_wp2
    go_ret
    exact ⟨by first | rfl | (simp; done) | (simp [*]; done), by repeat (first | exact Drawn0.refl _ | apply Drawn0.step)⟩

/-! ### haruspexref05_Sign: function 23 -/
def haruspexref05_Sign.f (a0 : Int) : Option (Bool) := (haruspexref05_lower.f a0).bind fun t115 => (if t115 = true then (some true) else ((haruspexref05_digit.f a0).bind fun t116 => (if t116 = true then (some true) else (some (a0 == 95)))))
set_option maxHeartbeats 8000000 in
set_option maxRecDepth 100000 in
theorem haruspexref05_Sign.calls (a0 : Int) (r : Bool) (w : World) (h : haruspexref05_Sign.f a0 = some r) :
    Calls Try.prog 23 #[.int .u8 a0] w fun e w' => e = .returned (.bool r) ∧ Drawn0 w w' := by
  have H : ((haruspexref05_lower.f a0).bind fun t115 => (if t115 = true then (some true) else ((haruspexref05_digit.f a0).bind fun t116 => (if t116 = true then (some true) else (some (a0 == 95)))))) = some r := h
  clear h
  replace H := Option.bind_eq_some_iff.mp H
  obtain ⟨t115, A20, H⟩ := H
  replace H : (if t115 = true then (some true) else ((haruspexref05_digit.f a0).bind fun t116 => (if t116 = true then (some true) else (some (a0 == 95))))) = some r := H
  have A2 := Aside0.mk A20
  clear A20
  by_cases c3 : t115 = true
  · subst c3
    have H1 : (some true) = some r := by rw [if_pos rfl] at H; exact H
    clear H
    have H := H1
    clear H1
    obtain rfl := Option.some.inj H
    go_enter Try.func23, Try.ntmps23
    go_wp2_with (first | ((with_reducible refine gate_callee (f := 24) rfl ?_); refine goesL_ (some 4) rfl rfl Try.func24 (by kernel_rfl) rfl #[.int .u8 a0] rfl (by (try simp only [List.map_toArray, List.map_cons, List.map_nil]); first | done | rfl | (simp only [List.length_drop, List.length_take]; rfl)) ?_; (with_reducible refine (haruspexref05_lower.calls a0 true _ A2.out).mono ?_); rintro e w' ⟨rfl, ⟨nd, rfl⟩⟩; refine ⟨_, rfl, ?_⟩))
    go_ret
    exact ⟨by first | rfl | (simp; done) | (simp [*]; done), by repeat (first | exact Drawn0.refl _ | apply Drawn0.step)⟩
  · replace c3 := Bool.eq_false_iff.mpr c3
    subst c3
    have H1 : ((haruspexref05_digit.f a0).bind fun t116 => (if t116 = true then (some true) else (some (a0 == 95)))) = some r := by rw [if_neg (show ¬ (false = true) by decide)] at H; exact H
    clear H
    have H := H1
    clear H1
    replace H := Option.bind_eq_some_iff.mp H
    obtain ⟨t116, A40, H⟩ := H
    replace H : (if t116 = true then (some true) else (some (a0 == 95))) = some r := H
    have A4 := Aside0.mk A40
    clear A40
    by_cases c5 : t116 = true
    · subst c5
      have H1 : (some true) = some r := by rw [if_pos rfl] at H; exact H
      clear H
      have H := H1
      clear H1
      obtain rfl := Option.some.inj H
      go_enter Try.func23, Try.ntmps23
      go_wp2_with (first | ((with_reducible refine gate_callee (f := 24) rfl ?_); refine goesL_ (some 4) rfl rfl Try.func24 (by kernel_rfl) rfl #[.int .u8 a0] rfl (by (try simp only [List.map_toArray, List.map_cons, List.map_nil]); first | done | rfl | (simp only [List.length_drop, List.length_take]; rfl)) ?_; (with_reducible refine (haruspexref05_lower.calls a0 false _ A2.out).mono ?_); rintro e w' ⟨rfl, ⟨nd, rfl⟩⟩; refine ⟨_, rfl, ?_⟩) | (go_at_call 33; (with_reducible refine (haruspexref05_digit.calls a0 true _ A4.out).mono ?_); rintro e w' ⟨rfl, ⟨nd, rfl⟩⟩))
      go_ret
      exact ⟨by first | rfl | (simp; done) | (simp [*]; done), by repeat (first | exact Drawn0.refl _ | apply Drawn0.step)⟩
    · replace c5 := Bool.eq_false_iff.mpr c5
      subst c5
      have H1 : (some (a0 == 95)) = some r := by rw [if_neg (show ¬ (false = true) by decide)] at H; exact H
      clear H
      have H := H1
      clear H1
      obtain rfl := Option.some.inj H
      go_enter Try.func23, Try.ntmps23
      go_wp2_with (first | ((with_reducible refine gate_callee (f := 24) rfl ?_); refine goesL_ (some 4) rfl rfl Try.func24 (by kernel_rfl) rfl #[.int .u8 a0] rfl (by (try simp only [List.map_toArray, List.map_cons, List.map_nil]); first | done | rfl | (simp only [List.length_drop, List.length_take]; rfl)) ?_; (with_reducible refine (haruspexref05_lower.calls a0 false _ A2.out).mono ?_); rintro e w' ⟨rfl, ⟨nd, rfl⟩⟩; refine ⟨_, rfl, ?_⟩) | (go_at_call 33; (with_reducible refine (haruspexref05_digit.calls a0 false _ A4.out).mono ?_); rintro e w' ⟨rfl, ⟨nd, rfl⟩⟩))
      go_ret
      exact ⟨by first | rfl | (simp; done) | (simp [*]; done), by repeat (first | exact Drawn0.refl _ | apply Drawn0.step)⟩

end Go.Proofs.Ytefljkgfkkdaiaa.PAll
