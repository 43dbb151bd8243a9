/- Functions of the Go program as plain Lean functions, and the proofs that the code comes to just their answers; of a law, the row. Written by a program of this session (wip/myprint.py over the given print). No condition. -/
import Derived.Test.YtefljkgfkkdaiaaPAllx0
namespace Go.Proofs.Ytefljkgfkkdaiaa.PAll
open Go.RowKit Go.Proofs.YtefljkgfkkdaiaaW.PrintWords Go.Proofs.YtefljkgfkkdaiaaW.PrintLast Go.Proofs.YtefljkgfkkdaiaaW.PrintMore
attribute [local go_sem] max2_int min2_int max_two min_two max_three min_three max_four min_four   -- for this text's walks alone
set_option linter.unusedVariables false
set_option linter.unusedSimpArgs false

/-! ### word_isLower: function 22 -/
def word_isLower.f (a0 : Int) : Option (Bool) := if a0 ≥ 97 then (some (decide (a0 ≤ 122))) else (some false)
set_option maxHeartbeats 8000000 in
set_option maxRecDepth 100000 in
theorem word_isLower.calls (a0 : Int) (r : Bool) (w : World) (h : word_isLower.f a0 = some r) :
    Calls Try.prog 22 #[.int .i32 a0] w fun e w' => e = .returned (.bool r) ∧ Drawn0 w w' := by
  have H : (if a0 ≥ 97 then (some (decide (a0 ≤ 122))) else (some false)) = some r := h
  clear h
  by_cases c2 : a0 ≥ 97
  · rw [if_pos c2] at H
    have c2b0 : decide (97 ≤ a0) = true := decide_eq_true c2
    clear c2
    obtain rfl := Option.some.inj H
    go_enter Try.func22, Try.ntmps22
    go_wp2
    go_ret
    exact ⟨by first | rfl | (simp; done) | (simp [*]; done), by repeat (first | exact Drawn0.refl _ | apply Drawn0.step)⟩
  · rw [if_neg c2] at H
    have c2b0 : decide (97 ≤ a0) = false := decide_eq_false c2
    clear c2
    obtain rfl := Option.some.inj H
    go_enter Try.func22, Try.ntmps22
    go_wp2
    go_ret
    exact ⟨by first | rfl | (simp; done) | (simp [*]; done), by repeat (first | exact Drawn0.refl _ | apply Drawn0.step)⟩

/-! ### word_isDigit: function 32 -/
def word_isDigit.f (a0 : Int) : Option (Bool) := if a0 ≥ 48 then (some (decide (a0 ≤ 57))) else (some false)
set_option maxHeartbeats 8000000 in
set_option maxRecDepth 100000 in
theorem word_isDigit.calls (a0 : Int) (r : Bool) (w : World) (h : word_isDigit.f a0 = some r) :
    Calls Try.prog 32 #[.int .i32 a0] w fun e w' => e = .returned (.bool r) ∧ Drawn0 w w' := by
  have H : (if a0 ≥ 48 then (some (decide (a0 ≤ 57))) else (some false)) = some r := h
  clear h
  by_cases c2 : a0 ≥ 48
  · rw [if_pos c2] at H
    have c2b0 : decide (48 ≤ a0) = true := decide_eq_true c2
    clear c2
    obtain rfl := Option.some.inj H
    go_enter Try.func32, Try.ntmps32
    go_wp2
    go_ret
    exact ⟨by first | rfl | (simp; done) | (simp [*]; done), by repeat (first | exact Drawn0.refl _ | apply Drawn0.step)⟩
  · rw [if_neg c2] at H
    have c2b0 : decide (48 ≤ a0) = false := decide_eq_false c2
    clear c2
    obtain rfl := Option.some.inj H
    go_enter Try.func32, Try.ntmps32
    go_wp2
    go_ret
    exact ⟨by first | rfl | (simp; done) | (simp [*]; done), by repeat (first | exact Drawn0.refl _ | apply Drawn0.step)⟩

/-! ### word_isSign: function 21 -/
def word_isSign.f (a0 : Int) : Option (Bool) := (word_isLower.f a0).bind fun t101 => (if t101 = true then (some true) else ((word_isDigit.f a0).bind fun t102 => (if t102 = true then (some true) else (some (a0 == 95)))))
set_option maxHeartbeats 8000000 in
set_option maxRecDepth 100000 in
theorem word_isSign.calls (a0 : Int) (r : Bool) (w : World) (h : word_isSign.f a0 = some r) :
    Calls Try.prog 21 #[.int .i32 a0] w fun e w' => e = .returned (.bool r) ∧ Drawn0 w w' := by
  have H : ((word_isLower.f a0).bind fun t101 => (if t101 = true then (some true) else ((word_isDigit.f a0).bind fun t102 => (if t102 = true then (some true) else (some (a0 == 95)))))) = some r := h
  clear h
  replace H := Option.bind_eq_some_iff.mp H
  obtain ⟨t101, A20, H⟩ := H
  replace H : (if t101 = true then (some true) else ((word_isDigit.f a0).bind fun t102 => (if t102 = true then (some true) else (some (a0 == 95))))) = some r := H
  have A2 := Aside0.mk A20
  clear A20
  by_cases c3 : t101 = true
  · subst c3
    have H1 : (some true) = some r := by rw [if_pos rfl] at H; exact H
    clear H
    have H := H1
    clear H1
    obtain rfl := Option.some.inj H
    go_enter Try.func21, Try.ntmps21
    go_wp2_with (first | ((with_reducible refine gate_callee (f := 22) rfl ?_); refine goesL_ (some 4) rfl rfl Try.func22 (by kernel_rfl) rfl #[.int .i32 a0] rfl (by (try simp only [List.map_toArray, List.map_cons, List.map_nil]); first | done | rfl | (simp only [List.length_drop, List.length_take]; rfl)) ?_; (with_reducible refine (word_isLower.calls a0 true _ A2.out).mono ?_); rintro e w' ⟨rfl, ⟨nd, rfl⟩⟩; refine ⟨_, rfl, ?_⟩))
    go_ret
    exact ⟨by first | rfl | (simp; done) | (simp [*]; done), by repeat (first | exact Drawn0.refl _ | apply Drawn0.step)⟩
  · replace c3 := Bool.eq_false_iff.mpr c3
    subst c3
    have H1 : ((word_isDigit.f a0).bind fun t102 => (if t102 = true then (some true) else (some (a0 == 95)))) = some r := by rw [if_neg (show ¬ (false = true) by decide)] at H; exact H
    clear H
    have H := H1
    clear H1
    replace H := Option.bind_eq_some_iff.mp H
    obtain ⟨t102, A40, H⟩ := H
    replace H : (if t102 = true then (some true) else (some (a0 == 95))) = some r := H
    have A4 := Aside0.mk A40
    clear A40
    by_cases c5 : t102 = true
    · subst c5
      have H1 : (some true) = some r := by rw [if_pos rfl] at H; exact H
      clear H
      have H := H1
      clear H1
      obtain rfl := Option.some.inj H
      go_enter Try.func21, Try.ntmps21
      go_wp2_with (first | ((with_reducible refine gate_callee (f := 22) rfl ?_); refine goesL_ (some 4) rfl rfl Try.func22 (by kernel_rfl) rfl #[.int .i32 a0] rfl (by (try simp only [List.map_toArray, List.map_cons, List.map_nil]); first | done | rfl | (simp only [List.length_drop, List.length_take]; rfl)) ?_; (with_reducible refine (word_isLower.calls a0 false _ A2.out).mono ?_); rintro e w' ⟨rfl, ⟨nd, rfl⟩⟩; refine ⟨_, rfl, ?_⟩) | (go_at_call 32; (with_reducible refine (word_isDigit.calls a0 true _ A4.out).mono ?_); rintro e w' ⟨rfl, ⟨nd, rfl⟩⟩))
      go_ret
      exact ⟨by first | rfl | (simp; done) | (simp [*]; done), by repeat (first | exact Drawn0.refl _ | apply Drawn0.step)⟩
    · replace c5 := Bool.eq_false_iff.mpr c5
      subst c5
      have H1 : (some (a0 == 95)) = some r := by rw [if_neg (show ¬ (false = true) by decide)] at H; exact H
      clear H
      have H := H1
      clear H1
      obtain rfl := Option.some.inj H
      go_enter Try.func21, Try.ntmps21
      go_wp2_with (first | ((with_reducible refine gate_callee (f := 22) rfl ?_); refine goesL_ (some 4) rfl rfl Try.func22 (by kernel_rfl) rfl #[.int .i32 a0] rfl (by (try simp only [List.map_toArray, List.map_cons, List.map_nil]); first | done | rfl | (simp only [List.length_drop, List.length_take]; rfl)) ?_; (with_reducible refine (word_isLower.calls a0 false _ A2.out).mono ?_); rintro e w' ⟨rfl, ⟨nd, rfl⟩⟩; refine ⟨_, rfl, ?_⟩) | (go_at_call 32; (with_reducible refine (word_isDigit.calls a0 false _ A4.out).mono ?_); rintro e w' ⟨rfl, ⟨nd, rfl⟩⟩))
      go_ret
      exact ⟨by first | rfl | (simp; done) | (simp [*]; done), by repeat (first | exact Drawn0.refl _ | apply Drawn0.step)⟩

/-! ### word_Name: function 10 (by hand) -/
def word_Name.low (c : Int) : Bool := decide (97 ≤ c) && decide (c ≤ 122)
def word_Name.sign (c : Int) : Bool := word_Name.low c || (decide (48 ≤ c) && decide (c ≤ 57)) || decide (c = 95)
/-- is it a name, byte by byte -/
def word_Name.is (l : List Int) : Bool := l.all word_Name.sign && word_Name.low (rd l 0) && decide (1 ≤ l.length) && decide (l.length ≤ 32)
def word_Name.f (a0 : ByteArray) : Option (Bool) := if a0.size ≤ 140737488351232 then some (word_Name.is (bytesOf a0)) else none
theorem word_Name.low_f (c : Int) : word_isLower.f c = some (word_Name.low c) := by
  unfold word_isLower.f word_Name.low
  by_cases h : c ≥ 97
  · rw [if_pos h, decide_eq_true (show 97 ≤ c from h), Bool.true_and]
  · rw [if_neg h, decide_eq_false (show ¬ 97 ≤ c from h), Bool.false_and]
theorem word_Name.sign_f (c : Int) : word_isSign.f c = some (word_Name.sign c) := by
  unfold word_isSign.f
  rw [word_Name.low_f, Option.bind_some]
  unfold word_Name.sign
  by_cases h : word_Name.low c = true
  · rw [if_pos h, h]; rfl
  · rw [if_neg h, Bool.eq_false_iff.2 h]
    unfold word_isDigit.f
    by_cases h1 : c ≥ 48
    · rw [if_pos h1, Option.bind_some, decide_eq_true (show 48 ≤ c from h1)]
      by_cases h2 : c ≤ 57
      · rw [decide_eq_true h2]; rfl
      · rw [decide_eq_false h2, if_neg (by simp)]
        by_cases h3 : c = 95 <;> simp [h3]
    · rw [if_neg h1, Option.bind_some, if_neg (by simp), decide_eq_false (show ¬ 48 ≤ c from h1)]
      by_cases h3 : c = 95 <;> simp [h3]
theorem word_Name.sign_high {c : Int} (h : 128 ≤ c) : word_Name.sign c = false := by
  unfold word_Name.sign word_Name.low
  rw [decide_eq_false (show ¬ c ≤ 122 by omega), decide_eq_false (show ¬ c ≤ 57 by omega), decide_eq_false (show ¬ c = 95 by omega)]
  simp
/-- so far all are signs, and the first one is a to z -/
structure word_Name.Rel (l : List Int) (k : Nat) : Prop where
  le : k ≤ l.length
  all : (l.take k).all word_Name.sign = true
  one : 0 < k → word_Name.low (rd l 0) = true
theorem word_Name.no_sign {l : List Int} {k : Nat} (hk : k < l.length) (h : word_Name.sign (rd l (k : Int)) = false) : word_Name.is l = false := by
  have : l.all word_Name.sign = false := by
    rw [List.all_eq_false]
    refine ⟨rd l (k : Int), ?_, by simpa using h⟩
    unfold rd
    rw [Int.toNat_natCast, List.getD_eq_getElem?_getD, List.getElem?_eq_getElem hk]
    exact List.getElem_mem hk
  unfold word_Name.is
  rw [this]; rfl
theorem word_Name.no_first {l : List Int} (h : word_Name.low (rd l 0) = false) : word_Name.is l = false := by
  unfold word_Name.is
  rw [h]; simp
theorem word_Name.next {l : List Int} {k : Nat} (h : word_Name.Rel l k) (hk : k < l.length) (hs : word_Name.sign (rd l (k : Int)) = true) (h1 : k = 0 → word_Name.low (rd l 0) = true) : word_Name.Rel l (k + 1) := by
  refine ⟨by omega, ?_, fun _ => ?_⟩
  · rw [List.take_add_one, List.getElem?_eq_getElem hk, List.all_append, h.all]
    have : rd l (k : Int) = l[k] := by
      unfold rd; rw [Int.toNat_natCast, List.getD_eq_getElem?_getD, List.getElem?_eq_getElem hk]; rfl
    rw [this] at hs
    simp [hs]
  · rcases Nat.eq_zero_or_pos k with h2 | h2
    · exact h1 h2
    · exact h.one h2
theorem word_Name.done {l : List Int} (h : word_Name.Rel l l.length) (h0 : 1 ≤ l.length) : word_Name.is l = decide (l.length ≤ 32) := by
  unfold word_Name.is
  have := h.all
  rw [List.take_length] at this
  rw [this, h.one (by omega), decide_eq_true h0]; rfl
set_option maxHeartbeats 1000000 in
set_option maxRecDepth 100000 in
theorem word_Name.calls (a0 : ByteArray) (r : Bool) (w : World) (h : word_Name.f a0 = some r) :
    Calls Try.prog 10 #[.string a0] w fun e w' => e = .returned (.bool r) ∧ Below w.heap.size w w' := by
  unfold word_Name.f at h
  by_cases hs : a0.size ≤ 140737488351232
  · rw [if_pos hs] at h
    have H := Aside0.mk (Option.some.inj h)
    clear h
    have HB := Aside0.mk (Below.refl w.heap.size w)
    go_enter Try.func10, Try.ntmps10
    go_wp2_with (first | ((with_reducible refine gate_dst (N := 6) rfl ?_); refine Go.Proofs.YtefljkgfkkdaiaaW.HandWords.hand_range w.heap.size rfl (N := 6) rfl 9 _ rfl Try.underlying9 a0 rfl HB.out (Nat.le_refl _) ?_; intro g w1 hbg hgl hg0 hb1; have n1_ := Aside0.mk hb1; have HG := Aside0.mk hg0; clear HB hg0 hb1; have HB := n1_; clear n1_))
    go_simp
    go_loopw [4] (fun _ wr => ∃ k : Nat, Aside0 (word_Name.Rel (bytesOf a0) k) ∧ Aside0 (wr.heap[g]? = some (.stringIter a0 k)) ∧ Aside0 (Below w.heap.size w wr)) (fun _ wr => a0.size - wr.iterPos g)
    case atStart => exact ⟨0, ⟨⟨Nat.zero_le _, rfl, fun h => absurd h (Nat.lt_irrefl 0)⟩⟩, HG, HB⟩
    case round =>
      clear HG HB
      obtain ⟨k, HR, HG, HB⟩ := hrel
      have HM : Aside0 (wr.iterPos g = k) := ⟨by simp [World.iterPos, HG.out]⟩
      by_cases hp : k < a0.size
      · have hkl : k < (bytesOf a0).length := by rw [bytesOf_length]; exact hp
        have hrd : rd (bytesOf a0) (k : Int) = ((a0[k]'hp).toNat : Int) := by
          rw [rd_bytesOf]; unfold bt; rw [dif_pos (by simpa using hp)]; rfl
        obtain ⟨rn, hrn⟩ : ∃ rn : Nat, (Utf8.decode a0 k).1 = rn := ⟨_, rfl⟩
        obtain ⟨wd, hwd⟩ : ∃ wd : Nat, k + (Utf8.decode a0 k).2 = wd := ⟨_, rfl⟩
        have HE := Aside0.mk hrn
        have HW := Aside0.mk hwd
        by_cases hsg : word_Name.sign (rn : Int) = true
        · have hasc : (a0[k]'hp).toNat < 128 := by
            rcases Nat.lt_or_ge (a0[k]'hp).toNat 128 with h1 | h1
            · exact h1
            · have hdec := decode_high a0 k hp h1
              rw [hrn] at hdec
              rw [word_Name.sign_high (by omega)] at hsg; cases hsg
          have hdec := decode_ascii a0 k hp hasc
          have hrc : rd (bytesOf a0) (k : Int) = (rn : Int) := by rw [hrd, ← hrn, hdec]
          have hw1 : wd = k + 1 := by rw [← hwd, hdec]
          have HS : Aside0 (word_isSign.f (rn : Int) = some true) := ⟨by rw [word_Name.sign_f, hsg]⟩
          by_cases hk0 : k = 0
          · have hkb : ((k : Int) == 0) = true := beq_iff_eq.mpr (by omega)
            have hr0 : rd (bytesOf a0) 0 = (rn : Int) := by rw [← hrc, hk0]; rfl
            clear hk0
            by_cases hlo : word_Name.low (rn : Int) = true
            · have HL : Aside0 (word_isLower.f (rn : Int) = some true) := ⟨by rw [word_Name.low_f, hlo]⟩
              have HN := Aside0.mk (word_Name.next HR.out hkl (by rw [hrc]; exact hsg) (fun _ => by rw [hr0]; exact hlo))
              subst hw1
              clear hrn hwd hdec hasc hrd hrc hsg hlo hr0 HR
              go_wp2_with (first | ((with_reducible refine gate_dst (N := 7) rfl ?_); refine Go.Proofs.YtefljkgfkkdaiaaW.HandWords.hand_next (w0 := w) w.heap.size rfl (N := 7) rfl _ rfl g rfl a0 k HG.out hp hbg HB.out ?_; intro w1 hg1 hb1; rw [HW.out] at hg1; have n1_ := Aside0.mk hb1; have n2_ := Aside0.mk hg1; clear HB HG hg1 hb1; have HB := n1_; have HG := n2_; clear n1_ n2_; rw [HE.out]) | ((with_reducible refine gate_callee (f := 21) rfl ?_); refine goesL_ (some 12) rfl rfl Try.func21 (by kernel_rfl) rfl #[.int .i32 (rn : Int)] rfl (by (try simp only [List.map_toArray, List.map_cons, List.map_nil]); first | done | rfl) ?_; (with_reducible refine (word_isSign.calls (rn : Int) _ _ HS.out).mono ?_); rintro e w' ⟨rfl, ⟨nd, rfl⟩⟩; refine ⟨_, rfl, ?_⟩) | (go_at_call 22; (with_reducible refine (word_isLower.calls (rn : Int) _ _ HL.out).mono ?_); rintro e w' ⟨rfl, ⟨nd2, rfl⟩⟩))
              go_roundw
              case rel => exact ⟨_, HN, HG, ⟨by repeat (first | exact HB.out | (with_reducible refine pw_below_drewN ?_ _))⟩⟩
              case measure =>
                have hm2 : w1.iterPos g = k + 1 := by simp [World.iterPos, HG.out]
                show a0.size - w1.iterPos g < a0.size - wr.iterPos g
                rw [hm2, HM.out]; omega
            · have HL : Aside0 (word_isLower.f (rn : Int) = some false) := ⟨by rw [word_Name.low_f, Bool.eq_false_iff.2 hlo]⟩
              have HF : Aside0 (word_Name.is (bytesOf a0) = false) := ⟨word_Name.no_first (by rw [hr0]; exact Bool.eq_false_iff.2 hlo)⟩
              subst hw1
              clear hrn hwd hdec hasc hrd hrc hsg hlo hr0 HR
              go_wp2_with (first | ((with_reducible refine gate_dst (N := 7) rfl ?_); refine Go.Proofs.YtefljkgfkkdaiaaW.HandWords.hand_next (w0 := w) w.heap.size rfl (N := 7) rfl _ rfl g rfl a0 k HG.out hp hbg HB.out ?_; intro w1 hg1 hb1; rw [HW.out] at hg1; have n1_ := Aside0.mk hb1; have n2_ := Aside0.mk hg1; clear HB HG hg1 hb1; have HB := n1_; have HG := n2_; clear n1_ n2_; rw [HE.out]) | ((with_reducible refine gate_callee (f := 21) rfl ?_); refine goesL_ (some 12) rfl rfl Try.func21 (by kernel_rfl) rfl #[.int .i32 (rn : Int)] rfl (by (try simp only [List.map_toArray, List.map_cons, List.map_nil]); first | done | rfl) ?_; (with_reducible refine (word_isSign.calls (rn : Int) _ _ HS.out).mono ?_); rintro e w' ⟨rfl, ⟨nd, rfl⟩⟩; refine ⟨_, rfl, ?_⟩) | (go_at_call 22; (with_reducible refine (word_isLower.calls (rn : Int) _ _ HL.out).mono ?_); rintro e w' ⟨rfl, ⟨nd2, rfl⟩⟩))
              go_ret
              exact ⟨by rw [← H.out, HF.out]; rfl, by repeat (first | exact HB.out | (with_reducible refine pw_below_drewN ?_ _))⟩
          · have hkb : ((k : Int) == 0) = false := beq_eq_false_iff_ne.mpr (by omega)
            have HN := Aside0.mk (word_Name.next HR.out hkl (by rw [hrc]; exact hsg) (fun h1 => absurd h1 hk0))
            subst hw1
            clear hrn hwd hdec hasc hrd hrc hsg HR
            go_wp2_with (first | ((with_reducible refine gate_dst (N := 7) rfl ?_); refine Go.Proofs.YtefljkgfkkdaiaaW.HandWords.hand_next (w0 := w) w.heap.size rfl (N := 7) rfl _ rfl g rfl a0 k HG.out hp hbg HB.out ?_; intro w1 hg1 hb1; rw [HW.out] at hg1; have n1_ := Aside0.mk hb1; have n2_ := Aside0.mk hg1; clear HB HG hg1 hb1; have HB := n1_; have HG := n2_; clear n1_ n2_; rw [HE.out]) | ((with_reducible refine gate_callee (f := 21) rfl ?_); refine goesL_ (some 12) rfl rfl Try.func21 (by kernel_rfl) rfl #[.int .i32 (rn : Int)] rfl (by (try simp only [List.map_toArray, List.map_cons, List.map_nil]); first | done | rfl) ?_; (with_reducible refine (word_isSign.calls (rn : Int) _ _ HS.out).mono ?_); rintro e w' ⟨rfl, ⟨nd, rfl⟩⟩; refine ⟨_, rfl, ?_⟩))
            go_roundw
            case rel => exact ⟨_, HN, HG, ⟨by repeat (first | exact HB.out | (with_reducible refine pw_below_drewN ?_ _))⟩⟩
            case measure =>
                have hm2 : w1.iterPos g = k + 1 := by simp [World.iterPos, HG.out]
                show a0.size - w1.iterPos g < a0.size - wr.iterPos g
                rw [hm2, HM.out]; omega
        · have hsg2 : word_Name.sign (rd (bytesOf a0) (k : Int)) = false := by
            rcases Nat.lt_or_ge (a0[k]'hp).toNat 128 with h1 | h1
            · have hdec := decode_ascii a0 k hp h1
              rw [hrd, show ((a0[k]'hp).toNat : Int) = (rn : Int) from by rw [← hrn, hdec]]
              exact Bool.eq_false_iff.2 hsg
            · rw [hrd]; exact word_Name.sign_high (by omega)
          have HS : Aside0 (word_isSign.f (rn : Int) = some false) := ⟨by rw [word_Name.sign_f, Bool.eq_false_iff.2 hsg]⟩
          have HF : Aside0 (word_Name.is (bytesOf a0) = false) := ⟨word_Name.no_sign hkl hsg2⟩
          clear hrn hwd hrd hsg hsg2 HR
          go_wp2_with (first | ((with_reducible refine gate_dst (N := 7) rfl ?_); refine Go.Proofs.YtefljkgfkkdaiaaW.HandWords.hand_next (w0 := w) w.heap.size rfl (N := 7) rfl _ rfl g rfl a0 k HG.out hp hbg HB.out ?_; intro w1 hg1 hb1; rw [HW.out] at hg1; have n1_ := Aside0.mk hb1; have n2_ := Aside0.mk hg1; clear HB HG hg1 hb1; have HB := n1_; have HG := n2_; clear n1_ n2_; rw [HE.out]) | ((with_reducible refine gate_callee (f := 21) rfl ?_); refine goesL_ (some 12) rfl rfl Try.func21 (by kernel_rfl) rfl #[.int .i32 (rn : Int)] rfl (by (try simp only [List.map_toArray, List.map_cons, List.map_nil]); first | done | rfl) ?_; (with_reducible refine (word_isSign.calls (rn : Int) _ _ HS.out).mono ?_); rintro e w' ⟨rfl, ⟨nd, rfl⟩⟩; refine ⟨_, rfl, ?_⟩))
          go_ret
          exact ⟨by rw [← H.out, HF.out]; rfl, by repeat (first | exact HB.out | (with_reducible refine pw_below_drewN ?_ _))⟩
      · have hkl : k = (bytesOf a0).length := by have := HR.out.le; rw [bytesOf_length] at this ⊢; omega
        have HR2 : Aside0 (word_Name.Rel (bytesOf a0) (bytesOf a0).length) := ⟨by have := HR.out; rw [hkl] at this; exact this⟩
        clear hkl HR
        by_cases hz : a0.size = 0
        · have hnil : a0.toList = [] := by rw [ByteArray.toList_eq]; exact List.eq_nil_of_length_eq_zero (by rw [data_length]; exact hz)
          have hnb : (a0.toList != ([] : List UInt8)) = false := bne_eq_false_iff_eq.mpr hnil
          have hnb2 : (a0.toList == ([] : List UInt8)) = true := beq_iff_eq.mpr hnil
          have HF : Aside0 (word_Name.is (bytesOf a0) = false) := ⟨by unfold word_Name.is; rw [bytesOf_length, hz]; simp⟩
          clear hnil hz HR2
          go_wp2_with (first | ((with_reducible refine gate_dst (N := 7) rfl ?_); refine Go.Proofs.YtefljkgfkkdaiaaW.HandWords.hand_next_end rfl (N := 7) rfl _ rfl g rfl a0 k HG.out hp ?_))
          go_ret
          exact ⟨by rw [← H.out, HF.out]; rfl, by repeat (first | exact HB.out | (with_reducible refine pw_below_drewN ?_ _))⟩
        · have hnn : a0.toList ≠ [] := by
            rw [ByteArray.toList_eq]; intro h1
            have := data_length a0
            rw [h1] at this; simp at this; omega
          have hnb : (a0.toList != ([] : List UInt8)) = true := bne_iff_ne.mpr hnn
          have hnb2 : (a0.toList == ([] : List UInt8)) = false := beq_eq_false_iff_ne.mpr hnn
          have HF : Aside0 (word_Name.is (bytesOf a0) = decide ((a0.size : Int) ≤ 32)) := ⟨by rw [word_Name.done HR2.out (by rw [bytesOf_length]; omega), bytesOf_length]; exact decide_eq_decide.2 (by omega)⟩
          clear hnn HR2
          go_wp2_with (first | ((with_reducible refine gate_dst (N := 7) rfl ?_); refine Go.Proofs.YtefljkgfkkdaiaaW.HandWords.hand_next_end rfl (N := 7) rfl _ rfl g rfl a0 k HG.out hp ?_))
          go_ret
          exact ⟨by rw [← H.out, HF.out]; rfl, HB.out⟩
  · exact absurd ((if_neg hs).symm.trans h) (by simp)

/-! ### haruspexlaw05_awake: function 11 -/
def haruspexlaw05_awake.f  : Option (Bool) := (word_Name.f (⟨#[97, 49, 95]⟩ : ByteArray)).bind fun t103 => (some t103)
set_option maxHeartbeats 8000000 in
set_option maxRecDepth 100000 in
theorem haruspexlaw05_awake.calls  (r : Bool) (w : World) (h : haruspexlaw05_awake.f  = some r) :
    Calls Try.prog 11 #[] w fun e w' => e = .returned (.bool r) ∧ Below w.heap.size w w' := by
  have HB := Aside0.mk (Below.refl w.heap.size w)
  have H : ((word_Name.f (⟨#[97, 49, 95]⟩ : ByteArray)).bind fun t103 => (some t103)) = some r := h
  clear h
  replace H := Option.bind_eq_some_iff.mp H
  obtain ⟨t103, A10, H⟩ := H
  replace H : (some t103) = some r := H
  have A1 := Aside0.mk A10
  clear A10
  obtain rfl := Option.some.inj H
  go_enter Try.func11, Try.ntmps11
  go_wp2_with (first | ((with_reducible refine gate_callee (f := 10) rfl ?_); refine goesL_ (some 1) rfl rfl Try.func10 (by kernel_rfl) rfl #[.string (⟨#[97, 49, 95]⟩ : ByteArray)] rfl (by (try simp only [List.map_toArray, List.map_cons, List.map_nil]); first | done | rfl | (simp only [List.length_drop, List.length_take]; rfl)) ?_; (with_reducible refine (word_Name.calls (⟨#[97, 49, 95]⟩ : ByteArray) t103 _ A1.out).mono ?_); rintro e w2 ⟨rfl, hb⟩; refine ⟨_, rfl, ?_⟩; have n0_ := Aside0.mk (below_step (by repeat (first | (with_reducible first | exact HB.out | apply below_alloc | apply pw_below_drewN | apply below_drew1) | exact HB.out)) hb); clear HB; have HB := n0_; clear n0_; (try clear hb); (try clear hb2); (try clear hk); (try clear hi)))
  go_ret
  exact ⟨by first | rfl | (simp [errW_none, errW_some] <;> rfl) | (simp [*, errW_none, errW_some] <;> rfl), by repeat (first | (with_reducible first | exact HB.out | apply below_alloc | apply pw_below_drewN | apply below_drew1) | exact HB.out)⟩

-- NOT PRINTED: function 26 (word_table)

/-! ### word_plain: function 27 -/
def word_plain.f (a0 : Int) : Option (Bool) := if a0 ≥ 32 then (some (decide (a0 ≤ 126))) else (some false)
set_option maxHeartbeats 8000000 in
set_option maxRecDepth 100000 in
theorem word_plain.calls (a0 : Int) (r : Bool) (w : World) (h : word_plain.f a0 = some r) :
    Calls Try.prog 27 #[.int .u8 a0] w fun e w' => e = .returned (.bool r) ∧ Drawn0 w w' := by
  have H : (if a0 ≥ 32 then (some (decide (a0 ≤ 126))) else (some false)) = some r := h
  clear h
  by_cases c2 : a0 ≥ 32
  · rw [if_pos c2] at H
    have c2b0 : decide (32 ≤ a0) = true := decide_eq_true c2
    clear c2
    obtain rfl := Option.some.inj H
    go_enter Try.func27, Try.ntmps27
    go_wp2
    go_ret
    exact ⟨by first | rfl | (simp; done) | (simp [*]; done), by repeat (first | exact Drawn0.refl _ | apply Drawn0.step)⟩
  · rw [if_neg c2] at H
    have c2b0 : decide (32 ≤ a0) = false := decide_eq_false c2
    clear c2
    obtain rfl := Option.some.inj H
    go_enter Try.func27, Try.ntmps27
    go_wp2
    go_ret
    exact ⟨by first | rfl | (simp; done) | (simp [*]; done), by repeat (first | exact Drawn0.refl _ | apply Drawn0.step)⟩

/-! ### word_Quote: function 16 (by hand) -/
def word_Quote.tab (k : Nat) : Int := if k < 10 then 48 + k else 87 + k
/-- a byte as it is written in quotes -/
def word_Quote.sign (c : Int) : List Int := if c = 39 ∨ c = 92 then [92, c] else if 32 ≤ c ∧ c ≤ 126 then [c] else [92, 120, word_Quote.tab (c / 16).toNat, word_Quote.tab (c % 16).toNat]
def word_Quote.to (l : List Int) : List Int := 39 :: l.flatMap word_Quote.sign
def word_Quote.f (a0 : ByteArray) : Option (ByteArray × Int) := if (a0.size : Int) > 256 then some (⟨#[]⟩, 2) else some (strOfNums (word_Quote.to (bytesOf a0) ++ [39]), 0)
set_option maxHeartbeats 1000000 in
set_option maxRecDepth 100000 in
theorem word_Quote.table_calls (w : World) :
    Calls Try.prog 26 #[] w fun e w' => e = .returned (.agg #[.int .u8 48, .int .u8 49, .int .u8 50, .int .u8 51, .int .u8 52, .int .u8 53, .int .u8 54, .int .u8 55, .int .u8 56, .int .u8 57, .int .u8 97, .int .u8 98, .int .u8 99, .int .u8 100, .int .u8 101, .int .u8 102]) ∧ w' = w.alloc (.cells #[.int .u8 48, .int .u8 49, .int .u8 50, .int .u8 51, .int .u8 52, .int .u8 53, .int .u8 54, .int .u8 55, .int .u8 56, .int .u8 57, .int .u8 97, .int .u8 98, .int .u8 99, .int .u8 100, .int .u8 101, .int .u8 102] 38) := by
  go_enter Try.func26, Try.ntmps26
  go_wp2
  exact bodyPost_ret (v := .agg #[.int .u8 48, .int .u8 49, .int .u8 50, .int .u8 51, .int .u8 52, .int .u8 53, .int .u8 54, .int .u8 55, .int .u8 56, .int .u8 57, .int .u8 97, .int .u8 98, .int .u8 99, .int .u8 100, .int .u8 101, .int .u8 102]) (by simp [results, Try.results26, go_sem]) rfl ⟨rfl, rfl⟩
theorem word_Quote.sign_len (c : Int) : (word_Quote.sign c).length ≤ 4 := by
  unfold word_Quote.sign
  repeat' split
  all_goals simp
theorem word_Quote.to_len (l : List Int) : (word_Quote.to l).length ≤ 4 * l.length + 1 := by
  unfold word_Quote.to
  have : (l.flatMap word_Quote.sign).length ≤ 4 * l.length := by
    induction l with
    | nil => simp
    | cons c l ih =>
      have := word_Quote.sign_len c
      rw [List.flatMap_cons, List.length_append, List.length_cons]
      omega
  rw [List.length_cons]; omega
theorem word_Quote.to_next (l : List Int) (k : Nat) (h : k < l.length) : word_Quote.to (l.take (k + 1)) = word_Quote.to (l.take k) ++ word_Quote.sign (rd l (k : Int)) := by
  have hr : rd l (k : Int) = l[k] := by
    unfold rd
    rw [Int.toNat_natCast, List.getD_eq_getElem?_getD, List.getElem?_eq_getElem h]; rfl
  unfold word_Quote.to
  rw [hr, List.take_add_one, List.getElem?_eq_getElem h, List.flatMap_append]
  simp
def word_Quote.table_ : Array Value := #[Value.int IntKind.u8 48, Value.int IntKind.u8 49, Value.int IntKind.u8 50, Value.int IntKind.u8 51, Value.int IntKind.u8 52, Value.int IntKind.u8 53, Value.int IntKind.u8 54, Value.int IntKind.u8 55, Value.int IntKind.u8 56, Value.int IntKind.u8 57, Value.int IntKind.u8 97, Value.int IntKind.u8 98, Value.int IntKind.u8 99, Value.int IntKind.u8 100, Value.int IntKind.u8 101, Value.int IntKind.u8 102]
theorem word_Quote.table_at (k : Nat) (hk : k < 16) : word_Quote.table_[k]? = some (.int .u8 (word_Quote.tab k)) := by
  have h : k = 0 ∨ k = 1 ∨ k = 2 ∨ k = 3 ∨ k = 4 ∨ k = 5 ∨ k = 6 ∨ k = 7 ∨ k = 8 ∨ k = 9 ∨ k = 10 ∨ k = 11 ∨ k = 12 ∨ k = 13 ∨ k = 14 ∨ k = 15 := by omega
  rcases h with rfl | rfl | rfl | rfl | rfl | rfl | rfl | rfl | rfl | rfl | rfl | rfl | rfl | rfl | rfl | rfl <;> rfl
theorem word_Quote.low4_ : ∀ c : Fin 256, bits .and .u8 ((c : Nat) : Int) 15 = ((c : Nat) : Int) % 16 := by decide +kernel
theorem word_Quote.low4 (c : Int) (h0 : 0 ≤ c) (h1 : c ≤ 255) : bits .and .u8 c 15 = c % 16 := by
  have h := word_Quote.low4_ ⟨c.toNat, by omega⟩
  have e1 : ((c.toNat : Nat) : Int) = c := by omega
  simp only [e1] at h
  exact h
/-- the walk's own: the text's bytes, the table, what is written so far -/
structure word_Quote.Inv (w : World) (g : Nat) (xs : List Int) (k : Nat) (v : Value) (W : World) : Prop where
  lt : g < W.heap.size
  far : w.heap.size + 1 < g
  text : Go.Proofs.YtefljkgfkkdaiaaW.HandWords.Row8 W g 5 xs
  table : W.heap[w.heap.size + 1]? = some (.cells word_Quote.table_ 38 (0, 0))
  out : Kd.R (Kd.int .u8) 5 W w.heap.size (fun k => w.heap.size + 1 < k ∧ k ≠ g) v (word_Quote.to (xs.take k))
  old : Below w.heap.size w W
theorem word_Quote.Inv.drawn {w W W1 : World} {g : Nat} {xs : List Int} {k : Nat} {v : Value} (h : word_Quote.Inv w g xs k v W) (hd : Drawn0 W W1) : word_Quote.Inv w g xs k v W1 := by
  obtain ⟨n, rfl⟩ := hd
  exact ⟨h.lt, h.far, h.text.drewN n, h.table, Kd.R_drewN h.out n, pw_below_drewN h.old n⟩
theorem word_Quote.Inv.next {w W W1 : World} {g : Nat} {xs ys : List Int} {k : Nat} {v v1 : Value} (h : word_Quote.Inv w g xs k v W) (hk : k < xs.length) (hy : ys = word_Quote.sign (rd xs (k : Int)))
    (hr : Kd.R (Kd.int .u8) 5 W1 w.heap.size (fun k => w.heap.size + 1 < k ∧ k ≠ g) v1 (word_Quote.to (xs.take k) ++ ys)) (hb : Below w.heap.size w W1) (hg : W.grownBy W1 v.ownBlock) : word_Quote.Inv w g xs (k + 1) v1 W1 := by
  have n1 : some g ≠ v.ownBlock := fun e => (h.out.1 g e.symm).2 rfl
  have n2 : some (w.heap.size + 1) ≠ v.ownBlock := fun e => by have := (h.out.1 _ e.symm).1; omega
  refine ⟨Nat.lt_of_lt_of_le h.lt hg.size, h.far, h.text.grown hg n1, blk_grown h.table hg n2, ?_, hb⟩
  rw [word_Quote.to_next xs k hk, ← hy]; exact hr
theorem word_Quote.Inv.fits {w W : World} {g : Nat} {xs : List Int} {k : Nat} {v : Value} (h : word_Quote.Inv w g xs k v W) (hx : xs.length ≤ 256) : (word_Quote.to (xs.take k)).length ≤ 2000 := by
  have := word_Quote.to_len (xs.take k)
  rw [List.length_take] at this
  omega
set_option maxHeartbeats 4000000 in
set_option maxRecDepth 100000 in
theorem word_Quote.calls (a0 : ByteArray) (r1 : ByteArray) (r2 : Int) (w : World) (h : word_Quote.f a0 = some (r1, r2)) :
    Calls Try.prog 16 #[.string a0] w fun e w' => e = .returned (.tuple #[.string r1, .int .i64 r2]) ∧ Below w.heap.size w w' := by
  unfold word_Quote.f at h
  by_cases hs : (a0.size : Int) > 256
  · rw [if_pos hs] at h
    have hsb : decide ((a0.size : Int) > 256) = true := decide_eq_true hs
    have HB := Aside0.mk (Below.refl w.heap.size w)
    simp only [Option.some.injEq, Prod.mk.injEq] at h
    obtain ⟨rfl, rfl⟩ := h
    go_enter Try.func16, Try.ntmps16
    go_wp2
    go_ret2
    exact ⟨rfl, HB.out⟩
  · rw [if_neg hs] at h
    have hsb : decide ((a0.size : Int) > 256) = false := decide_eq_false hs
    simp only [Option.some.injEq, Prod.mk.injEq] at h
    obtain ⟨h1, rfl⟩ := h
    have H := Aside0.mk h1
    clear h1
    obtain ⟨xs, hxs⟩ : ∃ xs, xs = bytesOf a0 := ⟨_, rfl⟩
    have hn : xs.length ≤ 256 := by rw [hxs, bytesOf_length]; omega
    have hby : Aside0 (∀ k, k < xs.length → 0 ≤ rd xs (k : Int) ∧ rd xs (k : Int) ≤ 255) := ⟨fun k _ => by rw [hxs, rd_bytesOf]; exact bt_range a0 k⟩
    rw [← hxs] at H
    have HX := Aside0.mk hxs
    clear hxs hs
    go_enter Try.func16, Try.ntmps16
    go_upto_region 5 with (first | (go_at_call 26; refine (word_Quote.table_calls _).mono ?_; rintro e w' ⟨rfl, rfl⟩))
    obtain ⟨W, hW⟩ : ∃ W, W = ((w.alloc (Obj.cells #[Value.int IntKind.u8 48, Value.int IntKind.u8 49, Value.int IntKind.u8 50, Value.int IntKind.u8 51, Value.int IntKind.u8 52, Value.int IntKind.u8 53, Value.int IntKind.u8 54, Value.int IntKind.u8 55, Value.int IntKind.u8 56, Value.int IntKind.u8 57, Value.int IntKind.u8 97, Value.int IntKind.u8 98, Value.int IntKind.u8 99, Value.int IntKind.u8 100, Value.int IntKind.u8 101, Value.int IntKind.u8 102] 38)).alloc (Obj.cells #[Value.int IntKind.u8 48, Value.int IntKind.u8 49, Value.int IntKind.u8 50, Value.int IntKind.u8 51, Value.int IntKind.u8 52, Value.int IntKind.u8 53, Value.int IntKind.u8 54, Value.int IntKind.u8 55, Value.int IntKind.u8 56, Value.int IntKind.u8 57, Value.int IntKind.u8 97, Value.int IntKind.u8 98, Value.int IntKind.u8 99, Value.int IntKind.u8 100, Value.int IntKind.u8 101, Value.int IntKind.u8 102] 38)).alloc (Obj.cells #[Value.int IntKind.u8 39] 5) := ⟨_, rfl⟩
    rw [← hW]
    have HT : Aside0 (W.heap[w.heap.size + 1]? = some (.cells word_Quote.table_ 38 (0, 0))) := ⟨by rw [hW]; exact (Go.Proofs.YtefljkgfkkdaiaaW.HandWords.heap_three _ _ _ _).1⟩
    have HL : Aside0 (W.heap[w.heap.size + 1 + 1]? = some (.cells (nums .u8 [39]).toArray 5 (0, 0))) := ⟨by rw [hW]; exact (Go.Proofs.YtefljkgfkkdaiaaW.HandWords.heap_three _ _ _ _).2⟩
    have HB : Aside0 (Below w.heap.size w W) := ⟨by rw [hW]; repeat (first | exact Below.refl _ _ | apply below_alloc)⟩
    have hz : W.heap.size = w.heap.size + 1 + 1 + 1 := by rw [hW]; simp
    clear hW
    go_wp2_with (first | ((with_reducible refine gate_dst (N := 14) rfl ?_); refine Go.Proofs.YtefljkgfkkdaiaaW.HandWords.hand_bytes2 (w0 := w) w.heap.size 5 rfl (N := 14) rfl 9 35 _ rfl a0 rfl Try.underlying9 Try.underlying35 Try.underlying5 HB.out ?hz1 ?_; (case hz1 => omega); intro g c0 w1 hg hgl hcl hrow hb1 hgr; have HGE := Aside0.mk hg; have HGL := Aside0.mk hgl; clear hg hgl; rw [← HX.out] at hrow hcl ⊢; have n1_ := Aside0.mk hb1; have HR := Aside0.mk hrow; have HC := Aside0.mk hcl; have n2_ := Aside0.mk (blk_grown HT.out hgr (by simp)); have n3_ := Aside0.mk (blk_grown HL.out hgr (by simp)); clear HB hrow hb1 hcl HT HL hgr; have HB := n1_; have HT := n2_; have HL := n3_; clear n1_ n2_ n3_))
    have hg := HGE.out
    have hgl := HGL.out
    rw [hz] at hg
    clear HGE HGL
    have HO : Aside0 (Kd.R (Kd.int .u8) 5 w1 w.heap.size (fun k => w.heap.size + 1 < k ∧ k ≠ g) (.slice (some ⟨w.heap.size + 1 + 1, 0, none⟩) 1 1) (word_Quote.to (xs.take 0))) := ⟨Go.Proofs.YtefljkgfkkdaiaaW.HandWords.R_block (k := .u8) (xs := [39]) HL.out (by omega) (by simp) ⟨by omega, by omega⟩⟩
    have HI : Aside0 (word_Quote.Inv w g xs 0 (.slice (some ⟨w.heap.size + 1 + 1, 0, none⟩) 1 1) w1) := ⟨⟨hgl, by omega, HR.out, HT.out, HO.out, HB.out⟩⟩
    clear HL hz HO HR HT HB hg hgl
    go_loopw [5, 16] (fun v5 v16 wr => ∃ k : Nat, v16 = .int .i64 k ∧ k ≤ xs.length ∧ Aside0 (word_Quote.Inv w g xs k v5 wr)) (fun _ v16 _ => xs.length - (intOf v16).toNat)
    case atStart => exact ⟨0, rfl, by omega, HI⟩
    case round =>
      clear HI
      obtain ⟨k, rfl, hk, HI⟩ := hrel
      rcases Nat.lt_or_ge k xs.length with hlt | hge
      · have hcell := HI.out.text.cell (j := k) hlt
        obtain ⟨b1, b2⟩ := hby.out k hlt
        have HN := Aside0.mk (fun (v : Value) (W : World) (h : word_Quote.Inv w g xs k v W) (ys : List Int) (v1 : Value) (W1 : World) => word_Quote.Inv.next (ys := ys) (v1 := v1) (W1 := W1) h hlt)
        obtain ⟨c, hc⟩ : ∃ c, c = rd xs (k : Int) := ⟨_, rfl⟩
        rw [← hc] at hcell b1 b2 HN
        clear hc
        by_cases h39 : c = 39
        · subst h39
          have HG : Aside0 ([92, 39] = word_Quote.sign 39) := ⟨by decide⟩
          go_wp2_with (first | ((with_reducible refine gate_builtin (b := .append) (xs := #[.tmp 38, .tmp 40]) rfl ?_); at_builtin; refine Go.Proofs.YtefljkgfkkdaiaaW.HandWords.hand_append_lit (w0 := w) w.heap.size rfl (.tmp 38) (.tmp 40) 35 5 rfl Try.underlying35 info5 _ (word_Quote.to (xs.take k)) ([92, 39] : List Int) _ ?aC 2 ?am (fun k => w.heap.size + 1 < k ∧ k ≠ g) rfl rfl ?aF HI.out.out HI.out.old ?az ?al ?_; (case aC => rfl); (case am => rfl); (case aF => exact fun k hk => ⟨by have := HI.out.lt; have := HI.out.far; omega, by have := HI.out.lt; omega⟩); (case az => exact HI.out.old.size); (case al => have := HI.out.fits hn; simp only [List.length_cons, List.length_nil]; omega); intro v6 w2 hr hb2 hg2; have HI2 := Aside0.mk (HN.out _ _ HI.out _ _ _ HG.out hr hb2 hg2); clear hr hb2 hg2 HI))
          go_roundw
          case rel => exact ⟨k + 1, by go_num, by omega, HI2⟩
          case measure => simp [intOf]; omega
        · have h39b : (c == 39) = false := beq_eq_false_iff_ne.mpr h39
          by_cases h92 : c = 92
          · subst h92
            have HG : Aside0 ([92, 92] = word_Quote.sign 92) := ⟨by decide⟩
            go_wp2_with (first | ((with_reducible refine gate_builtin (b := .append) (xs := #[.tmp 38, .tmp 40]) rfl ?_); at_builtin; refine Go.Proofs.YtefljkgfkkdaiaaW.HandWords.hand_append_lit (w0 := w) w.heap.size rfl (.tmp 38) (.tmp 40) 35 5 rfl Try.underlying35 info5 _ (word_Quote.to (xs.take k)) ([92, 92] : List Int) _ ?aC 2 ?am (fun k => w.heap.size + 1 < k ∧ k ≠ g) rfl rfl ?aF HI.out.out HI.out.old ?az ?al ?_; (case aC => rfl); (case am => rfl); (case aF => exact fun k hk => ⟨by have := HI.out.lt; have := HI.out.far; omega, by have := HI.out.lt; omega⟩); (case az => exact HI.out.old.size); (case al => have := HI.out.fits hn; simp only [List.length_cons, List.length_nil]; omega); intro v6 w2 hr hb2 hg2; have HI2 := Aside0.mk (HN.out _ _ HI.out _ _ _ HG.out hr hb2 hg2); clear hr hb2 hg2 HI))
            go_roundw
            case rel => exact ⟨k + 1, by go_num, by omega, HI2⟩
            case measure => simp [intOf]; omega
          · have h92b : (c == 92) = false := beq_eq_false_iff_ne.mpr h92
            by_cases hp : 32 ≤ c ∧ c ≤ 126
            · have HP : Aside0 (word_plain.f c = some true) := ⟨by unfold word_plain.f; rw [if_pos hp.1, decide_eq_true hp.2]⟩
              have HG : Aside0 ([c] = word_Quote.sign c) := ⟨by unfold word_Quote.sign; rw [if_neg (by omega), if_pos hp]⟩
              clear hp
              go_wp2_with (first | (go_at_call 27; (with_reducible refine (word_plain.calls c true _ HP.out).mono ?_); rintro e w3 ⟨rfl, hd⟩; have n9_ := Aside0.mk (HI.out.drawn hd); clear HI hd; have HI := n9_; clear n9_) | ((with_reducible refine gate_builtin (b := .append) (xs := #[.tmp 45, .tmp 47]) rfl ?_); at_builtin; refine Go.Proofs.YtefljkgfkkdaiaaW.HandWords.hand_append_lit (w0 := w) w.heap.size rfl (.tmp 45) (.tmp 47) 35 5 rfl Try.underlying35 info5 _ (word_Quote.to (xs.take k)) ([c] : List Int) _ ?aC 1 ?am (fun k => w.heap.size + 1 < k ∧ k ≠ g) rfl rfl ?aF HI.out.out HI.out.old ?az ?al ?_; (case aC => rfl); (case am => rfl); (case aF => exact fun k hk => ⟨by have := HI.out.lt; have := HI.out.far; omega, by have := HI.out.lt; omega⟩); (case az => exact HI.out.old.size); (case al => have := HI.out.fits hn; simp only [List.length_cons, List.length_nil]; omega); intro v6 w2 hr hb2 hg2; have HI2 := Aside0.mk (HN.out _ _ HI.out _ _ _ HG.out hr hb2 hg2); clear hr hb2 hg2 HI))
              go_roundw
              case rel => exact ⟨k + 1, by go_num, by omega, HI2⟩
              case measure => simp [intOf]; omega
            · have HP : Aside0 (word_plain.f c = some false) := ⟨by
                unfold word_plain.f
                by_cases h1 : c ≥ 32
                · rw [if_pos h1, decide_eq_false (by omega)]
                · rw [if_neg h1]⟩
              have HG : Aside0 ([92, 120, word_Quote.tab (c / 16).toNat, word_Quote.tab (c % 16).toNat] = word_Quote.sign c) := ⟨by unfold word_Quote.sign; rw [if_neg (by omega), if_neg hp]⟩
              clear hp
              go_upto_region 8 with (first | (go_at_call 27; (with_reducible refine (word_plain.calls c false _ HP.out).mono ?_); rintro e w3 ⟨rfl, hd⟩; have n9_ := Aside0.mk (HI.out.drawn hd); clear HI hd; have HI := n9_; clear n9_))
              have q1 : 0 ≤ c / 16 := by omega
              have q2 : c / 16 < 16 := by omega
              have q3 : 0 ≤ c % 16 := by omega
              have q4 : c % 16 < 16 := by omega
              have ha := word_Quote.low4 c b1 b2
              have k1 : w3.cell? ⟨w.heap.size + 1, (c / 16).toNat, none⟩ = some (.int .u8 (word_Quote.tab (c / 16).toNat)) := (blk_cell HI.out.table _).trans (word_Quote.table_at _ (by omega))
              have k2 : w3.cell? ⟨w.heap.size + 1, (c % 16).toNat, none⟩ = some (.int .u8 (word_Quote.tab (c % 16).toNat)) := (blk_cell HI.out.table _).trans (word_Quote.table_at _ (by omega))
              have n9_ := Aside0.mk (HI.out.drawn (W1 := w3.drew) ⟨1, rfl⟩)
              clear HI
              have HI := n9_
              clear n9_
              go_region_law (refine Go.Proofs.YtefljkgfkkdaiaaW.HandWords.hand_append_lit_step (w0 := w) w.heap.size rfl (.tmp 20) (.tmp 29) 35 5 rfl Try.underlying35 info5 _ (word_Quote.to (xs.take k)) ([92, 120, word_Quote.tab (c / 16).toNat, word_Quote.tab (c % 16).toNat] : List Int) _ rfl 4 rfl (fun k => w.heap.size + 1 < k ∧ k ≠ g) rfl rfl ?aF HI.out.out HI.out.old ?az ?al ?_; (case aF => exact fun k hk => ⟨by have := HI.out.lt; have := HI.out.far; omega, by have := HI.out.lt; omega⟩); (case az => exact HI.out.old.size); (case al => have := HI.out.fits hn; simp only [List.length_cons, List.length_nil]; omega); intro v6 w2 hr hb2 hg2; have HI2 := Aside0.mk (HN.out _ _ HI.out _ _ _ HG.out hr hb2 hg2); clear hr hb2 hg2 HI)
              all_goals
                go_wp2
                go_roundw
                case rel => exact ⟨k + 1, by go_num, by omega, HI2⟩
                case measure => simp [intOf]; omega
      · have hke : k = xs.length := by omega
        have HT := Aside0.mk (show xs.take k = xs by rw [hke, List.take_length])
        have hkb : ¬ ((k : Int) < (xs.length : Int)) := by omega
        clear hge hke
        go_wp2_with (first | ((with_reducible refine gate_builtin (b := .append) (xs := #[.tmp 50, .tmp 51]) rfl ?_); at_builtin; refine Go.Proofs.YtefljkgfkkdaiaaW.HandWords.hand_append_lit (w0 := w) w.heap.size rfl (.tmp 50) (.tmp 51) 35 5 rfl Try.underlying35 info5 _ (word_Quote.to (xs.take k)) ([39] : List Int) _ ?aC 1 ?am (fun k => w.heap.size + 1 < k ∧ k ≠ g) rfl rfl ?aF HI.out.out HI.out.old ?az ?al ?_; (case aC => rfl); (case am => rfl); (case aF => exact fun k hk => ⟨by have := HI.out.lt; have := HI.out.far; omega, by have := HI.out.lt; omega⟩); (case az => exact HI.out.old.size); (case al => have := HI.out.fits hn; simp only [List.length_cons, List.length_nil]; omega); intro v6 w2 hr hb2 hg2; have HB2 := Aside0.mk hb2; have hcv := own_string (P := Try.prog) Try.underlying35 Try.underlying5 Try.underlying9 (Kd.own_of_R hr); clear hr hb2 hg2 HI))
        go_ret2
        exact ⟨by rw [← H.out, HT.out]; rfl, HB2.out⟩

/-! ### haruspexref05_plain: function 30 -/
def haruspexref05_plain.f (a0 : Int) : Option (Bool) := if a0 ≥ 32 then (some (decide (a0 ≤ 126))) else (some false)
set_option maxHeartbeats 8000000 in
set_option maxRecDepth 100000 in
theorem haruspexref05_plain.calls (a0 : Int) (r : Bool) (w : World) (h : haruspexref05_plain.f a0 = some r) :
    Calls Try.prog 30 #[.int .u8 a0] w fun e w' => e = .returned (.bool r) ∧ Drawn0 w w' := by
  have H : (if a0 ≥ 32 then (some (decide (a0 ≤ 126))) else (some false)) = some r := h
  clear h
  by_cases c2 : a0 ≥ 32
  · rw [if_pos c2] at H
    have c2b0 : decide (32 ≤ a0) = true := decide_eq_true c2
    clear c2
    obtain rfl := Option.some.inj H
    go_enter Try.func30, Try.ntmps30
    go_wp2
    go_ret
    exact ⟨by first | rfl | (simp; done) | (simp [*]; done), by repeat (first | exact Drawn0.refl _ | apply Drawn0.step)⟩
  · rw [if_neg c2] at H
    have c2b0 : decide (32 ≤ a0) = false := decide_eq_false c2
    clear c2
    obtain rfl := Option.some.inj H
    go_enter Try.func30, Try.ntmps30
    go_wp2
    go_ret
    exact ⟨by first | rfl | (simp; done) | (simp [*]; done), by repeat (first | exact Drawn0.refl _ | apply Drawn0.step)⟩

/-! ### haruspexref05_sign: function 28 -/
def haruspexref05_sign.j0 : Nat → Int → Bool → Option (ByteArray)
  | 0, _, _ => none
  | k + 1, x0, x8 => if x8 = true then (some (strOfNums (([92, x0] : List Int)))) else ((haruspexref05_plain.f x0).bind fun t107 => (if t107 = true then (some (strOfNums (([x0] : List Int)))) else (if 0 ≤ ((Int.tdiv x0 16) % 256) then (if ((Int.tdiv x0 16) % 256) < 16 then (if 0 ≤ (Int.tmod x0 16) then (if (Int.tmod x0 16) < 16 then (some (strOfNums (([92, 120, bt (⟨#[48, 49, 50, 51, 52, 53, 54, 55, 56, 57, 97, 98, 99, 100, 101, 102]⟩ : ByteArray) ((Int.tdiv x0 16) % 256), bt (⟨#[48, 49, 50, 51, 52, 53, 54, 55, 56, 57, 97, 98, 99, 100, 101, 102]⟩ : ByteArray) (Int.tmod x0 16)] : List Int)))) else (none)) else (none)) else (none)) else (none))))
def haruspexref05_sign.f (k : Nat) (a0 : Int) : Option (ByteArray) := if a0 = 39 then (haruspexref05_sign.j0 k a0 true) else (haruspexref05_sign.j0 k a0 (a0 == 92))
theorem haruspexref05_sign.mono_l : ∀ k, (∀ y0 y1, LeO (haruspexref05_sign.j0 k y0 y1) (haruspexref05_sign.j0 (k + 1) y0 y1))
  | 0 => fun _ _ r h => by simp [haruspexref05_sign.j0] at h
  | k + 1 => by
    have ih0 := haruspexref05_sign.mono_l k
    · intro y0 y1
      unfold haruspexref05_sign.j0
      repeat' first
      | (with_reducible exact ih0 _ _)
      | (with_reducible exact LeO.refl _)
      | (with_reducible exact LeO.none _)
      | (with_reducible refine LeO.ite ?_ ?_)
      | (with_reducible refine LeO.bind ?_ (fun _ => ?_))
      | exact ih0 _ _
      | exact LeO.none _
      | refine LeO.ite ?_ ?_
      | refine LeO.bind ?_ (fun _ => ?_)
theorem haruspexref05_sign.mono : ∀ a0 k, LeO (haruspexref05_sign.f k a0) (haruspexref05_sign.f (k + 1) a0) := by
  intro a0 k
  have ih0 := haruspexref05_sign.mono_l k
  unfold haruspexref05_sign.f
  repeat' first
      | (with_reducible exact ih0 _ _)
      | (with_reducible exact LeO.refl _)
      | (with_reducible exact LeO.none _)
      | (with_reducible refine LeO.ite ?_ ?_)
      | (with_reducible refine LeO.bind ?_ (fun _ => ?_))
      | exact ih0 _ _
      | exact LeO.none _
      | refine LeO.ite ?_ ?_
      | refine LeO.bind ?_ (fun _ => ?_)
def haruspexref05_sign.T5 : Bool × List (List Nat × List Nat) := (true, [([], []), ([0], [0]), ([1], [1]), ([], []), ([3], [3]), ([4], [4]), ([2, 5], [2, 5]), ([6], [6]), ([7, 0, 1, 2, 3, 4, 5, 6, 7], [7])])
def haruspexref05_sign.B5 : List Nat := [0, 1, 3, 0, 8, 24, 63, 127, 255]
theorem haruspexref05_sign.tab5 : rtab .any (opsOf Try.f28 5) = haruspexref05_sign.T5 := by kernel_rfl
theorem haruspexref05_sign.bits5 : waitsOk haruspexref05_sign.T5.2 haruspexref05_sign.B5 = true := by kernel_rfl
set_option maxHeartbeats 8000000 in
set_option maxRecDepth 100000 in
theorem haruspexref05_sign.calls (k : Nat) (a0 : Int) (r : ByteArray) (w : World) (h : haruspexref05_sign.f k a0 = some r) :
    Calls Try.prog 28 #[.int .u8 a0] w fun e w' => e = .returned (.string r) ∧ Below w.heap.size w w' := by
  have HB := Aside0.mk (Below.refl w.heap.size w)
  have H : (if a0 = 39 then (haruspexref05_sign.j0 k a0 true) else (haruspexref05_sign.j0 k a0 (a0 == 92))) = some r := h
  clear h
  have HC2 := Aside0.mk H
  clear H
  go_enter Try.func28, Try.ntmps28
  go_upto_region 1 with (fail)
  go_cut [8] (fun v8 wc => ∃ (kq : Nat) (x8_1 : Bool), v8 = .bool x8_1 ∧ Aside0 (haruspexref05_sign.j0 kq a0 x8_1 = some r) ∧ Aside0 (kq ≤ k) ∧ Aside0 (Below w.heap.size w wc))
  case first =>
    have H := HC2.out
    clear HC2
    by_cases c3 : a0 = 39
    · rw [if_pos c3] at H
      have c3b0 : (a0 == 39) = true := beq_iff_eq.mpr c3
      have c3b1 : (a0 != 39) = false := bne_eq_false_iff_eq.mpr c3
      clear c3
      (first | rw [c3b0] | (simp only [i64_w, i32_w]; rw [c3b0]) | skip)
      have H' := Aside0.mk H
      clear H
      go_wp2
      go_meet
      case rel => exact ⟨_, (true), (by first | rfl | (simp; done) | (simp [*]; done)), H', ⟨by first | omega | exact Nat.le_refl _⟩, ⟨by repeat (first | (with_reducible first | exact HB.out | apply below_alloc | apply pw_below_drewN | apply below_drew1) | exact HB.out)⟩⟩
    · rw [if_neg c3] at H
      have c3b0 : (a0 == 39) = false := beq_eq_false_iff_ne.mpr c3
      have c3b1 : (a0 != 39) = true := bne_iff_ne.mpr c3
      (first | rw [c3b0] | (simp only [i64_w, i32_w]; rw [c3b0]) | skip)
      have H' := Aside0.mk H
      clear H
      go_wp2
      go_meet
      case rel => exact ⟨_, ((a0 == 92)), (by first | rfl | (simp; done) | (simp [*]; done)), H', ⟨by first | omega | exact Nat.le_refl _⟩, ⟨by repeat (first | (with_reducible first | exact HB.out | apply below_alloc | apply pw_below_drewN | apply below_drew1) | exact HB.out)⟩⟩
  case rest =>
    clear HC2
    try clear c2
    try clear p2
    try clear c3
    try clear c3b0
    try clear c3b1
    obtain ⟨kq, x8_1, rfl, HA, HJ1, HB⟩ := hcut
    cases kq with
    | zero => exact absurd HA.out (by simp [haruspexref05_sign.j0])
    | succ kj1 =>
      have H := HA.out
      clear HA
      simp only [haruspexref05_sign.j0] at H
      by_cases c4 : x8_1 = true
      · subst c4
        have H1 : (some (strOfNums (([92, a0] : List Int)))) = some r := by rw [if_pos rfl] at H; exact H
        clear H
        have H := H1
        clear H1
        obtain ⟨y104, hy104⟩ : ∃ y_ : List Int, y_ = (([92, a0] : List Int)) := ⟨_, rfl⟩
        replace H : (some (strOfNums y104)) = some r := by first | (rw [hy104]; with_reducible exact H) | (have H2_ := (Option.bind_some _ _).symm.trans H; rw [hy104]; with_reducible exact H2_) | (have H2_ := (Option.bind_some _ _).symm.trans H; with_reducible exact H2_) | with_reducible exact H | (rw [hy104]; exact H) | exact H
        have Ny104 := Aside0.mk hy104
        clear hy104
        obtain rfl := Option.some.inj H
        go_wp2_with (first | ((with_reducible refine gate_dst (N := 10) rfl ?_); refine Kd.R_lit (Kd.int .u8) _ 5 ?hg (N := 10) ?hd (xs := ([92, a0] : List Int)) (inner := [.int .u8 92, .int .u8 a0]) (ok := fun _ => True) (okp := fun _ => True) ?hr ?hp (fun _ hk => hk) trivial (Below.refl _ _) (Nat.le_refl _) (by simp) ?_; (case hd => rfl); (case hg => rfl); (case hr => first | (go_simp; done) | (go_simp; rfl)); (case hp => exact (Reps.one (show Kd.M (Kd.int .u8) _ _ _ 92 [.int .u8 92] from rfl) (Reps.one (show Kd.M (Kd.int .u8) _ _ _ a0 [.int .u8 a0] from rfl) (Reps.none _ _)))); intro v105 w5 ho6 hb hg_ hnew_; clear hg_ hnew_; (first | rw [← Ny104.out] at ho6 | (simp only [Int.reduceToNat] at ho6; rw [← Ny104.out] at ho6)); have n0_ := Aside0.mk (Kd.R_lower ho6 (below_size (by repeat (first | (with_reducible first | exact HB.out | apply below_alloc | apply pw_below_drewN | apply below_drew1) | exact HB.out)))); have n1_ := Aside0.mk (below_step (by repeat (first | (with_reducible first | exact HB.out | apply below_alloc | apply pw_below_drewN | apply below_drew1) | exact HB.out)) hb); clear HB; have HO106 := n0_; have HB := n1_; clear n0_ n1_; clear hb ho6; have hcv7 := own_string (P := Try.prog) Try.underlying35 Try.underlying5 Try.underlying9 (Kd.own_of_R HO106.out)))
        go_ret
        exact ⟨by first | rfl | (simp [errW_none, errW_some] <;> rfl) | (simp [*, errW_none, errW_some] <;> rfl), by repeat (first | (with_reducible first | exact HB.out | apply below_alloc | apply pw_below_drewN | apply below_drew1) | exact HB.out)⟩
      · replace c4 := Bool.eq_false_iff.mpr c4
        subst c4
        have H1 : ((haruspexref05_plain.f a0).bind fun t107 => (if t107 = true then (some (strOfNums (([a0] : List Int)))) else (if 0 ≤ ((Int.tdiv a0 16) % 256) then (if ((Int.tdiv a0 16) % 256) < 16 then (if 0 ≤ (Int.tmod a0 16) then (if (Int.tmod a0 16) < 16 then (some (strOfNums (([92, 120, bt (⟨#[48, 49, 50, 51, 52, 53, 54, 55, 56, 57, 97, 98, 99, 100, 101, 102]⟩ : ByteArray) ((Int.tdiv a0 16) % 256), bt (⟨#[48, 49, 50, 51, 52, 53, 54, 55, 56, 57, 97, 98, 99, 100, 101, 102]⟩ : ByteArray) (Int.tmod a0 16)] : List Int)))) else (none)) else (none)) else (none)) else (none)))) = some r := by rw [if_neg (show ¬ (false = true) by decide)] at H; exact H
        clear H
        have H := H1
        clear H1
        replace H := Option.bind_eq_some_iff.mp H
        obtain ⟨t107, A80, H⟩ := H
        replace H : (if t107 = true then (some (strOfNums (([a0] : List Int)))) else (if 0 ≤ ((Int.tdiv a0 16) % 256) then (if ((Int.tdiv a0 16) % 256) < 16 then (if 0 ≤ (Int.tmod a0 16) then (if (Int.tmod a0 16) < 16 then (some (strOfNums (([92, 120, bt (⟨#[48, 49, 50, 51, 52, 53, 54, 55, 56, 57, 97, 98, 99, 100, 101, 102]⟩ : ByteArray) ((Int.tdiv a0 16) % 256), bt (⟨#[48, 49, 50, 51, 52, 53, 54, 55, 56, 57, 97, 98, 99, 100, 101, 102]⟩ : ByteArray) (Int.tmod a0 16)] : List Int)))) else (none)) else (none)) else (none)) else (none))) = some r := H
        have A8 := Aside0.mk A80
        clear A80
        by_cases c9 : t107 = true
        · subst c9
          have H1 : (some (strOfNums (([a0] : List Int)))) = some r := by rw [if_pos rfl] at H; exact H
          clear H
          have H := H1
          clear H1
          obtain ⟨y108, hy108⟩ : ∃ y_ : List Int, y_ = (([a0] : List Int)) := ⟨_, rfl⟩
          replace H : (some (strOfNums y108)) = some r := by first | (rw [hy108]; with_reducible exact H) | (have H2_ := (Option.bind_some _ _).symm.trans H; rw [hy108]; with_reducible exact H2_) | (have H2_ := (Option.bind_some _ _).symm.trans H; with_reducible exact H2_) | with_reducible exact H | (rw [hy108]; exact H) | exact H
          have Ny108 := Aside0.mk hy108
          clear hy108
          obtain rfl := Option.some.inj H
          go_wp2_with (first | ((with_reducible refine gate_callee (f := 30) rfl ?_); refine goesL_ (some 13) rfl rfl Try.func30 (by kernel_rfl) rfl #[.int .u8 a0] rfl (by (try simp only [List.map_toArray, List.map_cons, List.map_nil]); first | done | rfl | (simp only [List.length_drop, List.length_take]; rfl)) ?_; (with_reducible refine (haruspexref05_plain.calls a0 true _ A8.out).mono ?_); rintro e w' ⟨rfl, ⟨nd, rfl⟩⟩; refine ⟨_, rfl, ?_⟩) | ((with_reducible refine gate_dst (N := 15) rfl ?_); refine Kd.R_lit (Kd.int .u8) _ 5 ?hg (N := 15) ?hd (xs := ([a0] : List Int)) (inner := [.int .u8 a0]) (ok := fun _ => True) (okp := fun _ => True) ?hr ?hp (fun _ hk => hk) trivial (Below.refl _ _) (Nat.le_refl _) (by simp) ?_; (case hd => rfl); (case hg => rfl); (case hr => first | (go_simp; done) | (go_simp; rfl)); (case hp => exact (Reps.one (show Kd.M (Kd.int .u8) _ _ _ a0 [.int .u8 a0] from rfl) (Reps.none _ _))); intro v109 w10 ho11 hb hg_ hnew_; clear hg_ hnew_; (first | rw [← Ny108.out] at ho11 | (simp only [Int.reduceToNat] at ho11; rw [← Ny108.out] at ho11)); have n0_ := Aside0.mk (Kd.R_lower ho11 (below_size (by repeat (first | (with_reducible first | exact HB.out | apply below_alloc | apply pw_below_drewN | apply below_drew1) | exact HB.out)))); have n1_ := Aside0.mk (below_step (by repeat (first | (with_reducible first | exact HB.out | apply below_alloc | apply pw_below_drewN | apply below_drew1) | exact HB.out)) hb); clear HB; have HO110 := n0_; have HB := n1_; clear n0_ n1_; clear hb ho11; have hcv12 := own_string (P := Try.prog) Try.underlying35 Try.underlying5 Try.underlying9 (Kd.own_of_R HO110.out)))
          go_ret
          exact ⟨by first | rfl | (simp [errW_none, errW_some] <;> rfl) | (simp [*, errW_none, errW_some] <;> rfl), by repeat (first | (with_reducible first | exact HB.out | apply below_alloc | apply pw_below_drewN | apply below_drew1) | exact HB.out)⟩
        · replace c9 := Bool.eq_false_iff.mpr c9
          subst c9
          have H1 : (if 0 ≤ ((Int.tdiv a0 16) % 256) then (if ((Int.tdiv a0 16) % 256) < 16 then (if 0 ≤ (Int.tmod a0 16) then (if (Int.tmod a0 16) < 16 then (some (strOfNums (([92, 120, bt (⟨#[48, 49, 50, 51, 52, 53, 54, 55, 56, 57, 97, 98, 99, 100, 101, 102]⟩ : ByteArray) ((Int.tdiv a0 16) % 256), bt (⟨#[48, 49, 50, 51, 52, 53, 54, 55, 56, 57, 97, 98, 99, 100, 101, 102]⟩ : ByteArray) (Int.tmod a0 16)] : List Int)))) else (none)) else (none)) else (none)) else (none)) = some r := by rw [if_neg (show ¬ (false = true) by decide)] at H; exact H
          clear H
          have H := H1
          clear H1
          obtain ⟨ji13, hji13⟩ : ∃ j_ : Int, ((Int.tdiv a0 16) % 256) = j_ := ⟨_, rfl⟩
          replace H : (if 0 ≤ (ji13) then (if (ji13) < 16 then (if 0 ≤ (Int.tmod a0 16) then (if (Int.tmod a0 16) < 16 then (some (strOfNums (([92, 120, bt (⟨#[48, 49, 50, 51, 52, 53, 54, 55, 56, 57, 97, 98, 99, 100, 101, 102]⟩ : ByteArray) (ji13), bt (⟨#[48, 49, 50, 51, 52, 53, 54, 55, 56, 57, 97, 98, 99, 100, 101, 102]⟩ : ByteArray) (Int.tmod a0 16)] : List Int)))) else (none)) else (none)) else (none)) else (none)) = some r := by first | (rw [hji13] at H; exact H) | (simp only [hji13] at H ⊢; exact H)
          have hji13v : IntKind.u8.wrap (Int.tdiv a0 16) = ji13 := (IntKind.wrap_u8 _).trans hji13
          (try rw [hji13] at A8)
          by_cases c14 : 0 ≤ (ji13)
          · rw [if_pos c14] at H
            have c14b0 : decide (0 ≤ (ji13)) = true := decide_eq_true c14
            clear c14
            by_cases c15 : (ji13) < 16
            · rw [if_pos c15] at H
              have c15b0 : decide ((ji13) < 16) = true := decide_eq_true c15
              clear c15
              obtain ⟨ji17, hji17⟩ : ∃ j_ : Int, (Int.tmod a0 16) = j_ := ⟨_, rfl⟩
              replace H : (if 0 ≤ (ji17) then (if (ji17) < 16 then (some (strOfNums (([92, 120, bt (⟨#[48, 49, 50, 51, 52, 53, 54, 55, 56, 57, 97, 98, 99, 100, 101, 102]⟩ : ByteArray) (ji13), bt (⟨#[48, 49, 50, 51, 52, 53, 54, 55, 56, 57, 97, 98, 99, 100, 101, 102]⟩ : ByteArray) (ji17)] : List Int)))) else (none)) else (none)) = some r := by first | (rw [hji17] at H; exact H) | (simp only [hji17] at H ⊢; exact H)
              (try rw [hji17] at A8)
              by_cases c18 : 0 ≤ (ji17)
              · rw [if_pos c18] at H
                have c18b0 : decide (0 ≤ (ji17)) = true := decide_eq_true c18
                clear c18
                by_cases c19 : (ji17) < 16
                · rw [if_pos c19] at H
                  have c19b0 : decide ((ji17) < 16) = true := decide_eq_true c19
                  clear c19
                  obtain ⟨y111, hy111⟩ : ∃ y_ : List Int, y_ = (([92, 120, bt (⟨#[48, 49, 50, 51, 52, 53, 54, 55, 56, 57, 97, 98, 99, 100, 101, 102]⟩ : ByteArray) (ji13), bt (⟨#[48, 49, 50, 51, 52, 53, 54, 55, 56, 57, 97, 98, 99, 100, 101, 102]⟩ : ByteArray) (ji17)] : List Int)) := ⟨_, rfl⟩
                  replace H : (some (strOfNums y111)) = some r := by first | (rw [hy111]; with_reducible exact H) | (have H2_ := (Option.bind_some _ _).symm.trans H; rw [hy111]; with_reducible exact H2_) | (have H2_ := (Option.bind_some _ _).symm.trans H; with_reducible exact H2_) | with_reducible exact H | (rw [hy111]; exact H) | exact H
                  have Ny111 := Aside0.mk hy111
                  clear hy111
                  obtain rfl := Option.some.inj H
                  try go_wp2_with (first | ((with_reducible refine gate_callee (f := 30) rfl ?_); refine goesL_ (some 13) rfl rfl Try.func30 (by kernel_rfl) rfl #[.int .u8 a0] rfl (by (try simp only [List.map_toArray, List.map_cons, List.map_nil]); first | done | rfl | (simp only [List.length_drop, List.length_take]; rfl)) ?_; (with_reducible refine (haruspexref05_plain.calls a0 false _ A8.out).mono ?_); rintro e w' ⟨rfl, ⟨nd, rfl⟩⟩; refine ⟨_, rfl, ?_⟩))
                  (try (rw [drewN_self wc]; generalize hq_ : World.drewN wc _ = wc; have n0_ : Aside0 (Below w.heap.size w wc) := ⟨by rw [← hq_]; exact (by repeat (first | (with_reducible first | exact HB.out | apply below_alloc | apply pw_below_drewN | apply below_drew1) | exact HB.out))⟩; clear HB hq_; have HB := n0_; clear n0_))
                  have n0_ := Aside0.mk (below_drew1 HB.out)
                  clear HB
                  have HB := n0_
                  clear n0_
                  have p16 : 0 ≤ ((ji13) : Int) := of_decide_eq_true (by first | (with_reducible assumption) | assumption)
                  have q16 : (ji13) < (16 : Int) := of_decide_eq_true (by first | (with_reducible assumption) | assumption)
                  have hx16 := bt_at (⟨#[48, 49, 50, 51, 52, 53, 54, 55, 56, 57, 97, 98, 99, 100, 101, 102]⟩ : ByteArray) (ji13)
                  replace p16 := eq_true p16
                  replace q16 := eq_true q16
                  have p20 : 0 ≤ ((ji17) : Int) := of_decide_eq_true (by first | (with_reducible assumption) | assumption)
                  have q20 : (ji17) < (16 : Int) := of_decide_eq_true (by first | (with_reducible assumption) | assumption)
                  have hx20 := bt_at (⟨#[48, 49, 50, 51, 52, 53, 54, 55, 56, 57, 97, 98, 99, 100, 101, 102]⟩ : ByteArray) (ji17)
                  replace p20 := eq_true p20
                  replace q20 := eq_true q20
                  refine start_ (n := 9) (S := fun w' => True) (ds := []) #[false, false, false, false, false, false, false, false, false] (by kernel_rfl) rfl rfl trivial (fun hHeld => ?_); refine with_tabW haruspexref05_sign.tab5 haruspexref05_sign.bits5 (fun HT_ HW_ => ?_)
                  generalize wc.drew = w21 at HB hHeld ⊢
                  refine pure_ (i := 0) (N := some 17) (v := ?_) (a' := ?_) #[true, false, false, false, false, false, false, false, false] rfl rfl (any_of HT_.out (by kernel_rfl)) (fun _ _ _ h => h) (Or.inl ⟨by rfl, ?_⟩) ?_ ?_
                  rotate_left
                  · intro w'
                    go_simp
                    with_reducible rfl
                  rotate_left
                  · simp only [Act.put, List.setIfInBounds_toArray, List.set_cons_zero, List.set_cons_succ, i64_w, i32_w]
                    rfl
                  refine pure_ (i := 1) (N := some 18) (v := ?_) (a' := ?_) #[true, true, false, false, false, false, false, false, false] rfl rfl (any_of HT_.out (by kernel_rfl)) (fun _ _ _ h => h) (Or.inl ⟨by rfl, ?_⟩) ?_ ?_
                  rotate_left
                  · intro w'
                    go_simp
                    with_reducible rfl
                  rotate_left
                  · simp only [Act.put, List.setIfInBounds_toArray, List.set_cons_zero, List.set_cons_succ, i64_w, i32_w]
                    rfl
                  refine pure_ (i := 3) (N := some 20) (v := ?_) (a' := ?_) #[true, true, false, true, false, false, false, false, false] rfl rfl (any_of HT_.out (by kernel_rfl)) (fun _ _ _ h => h) (Or.inl ⟨by rfl, ?_⟩) ?_ ?_
                  rotate_left
                  · intro w'
                    go_simp
                    with_reducible rfl
                  rotate_left
                  · simp only [Act.put, List.setIfInBounds_toArray, List.set_cons_zero, List.set_cons_succ, i64_w, i32_w]
                    rfl
                  refine pure_ (i := 4) (N := some 21) (v := ?_) (a' := ?_) #[true, true, false, true, true, false, false, false, false] rfl rfl (any_of HT_.out (by kernel_rfl)) (fun _ _ _ h => h) (Or.inl ⟨by rfl, ?_⟩) ?_ ?_
                  rotate_left
                  · intro w'
                    go_simp
                    with_reducible rfl
                  rotate_left
                  · simp only [Act.put, List.setIfInBounds_toArray, List.set_cons_zero, List.set_cons_succ, i64_w, i32_w]
                    rfl
                  refine take_ (i := 2) (N := some 19) (v := ?_) (a' := ?_) #[true, true, true, true, true, false, false, false, false] rfl rfl (take_ofW HT_.out HW_.out (by kernel_rfl)) (fun _ _ _ h => h) (Or.inl ⟨by rfl, ?_⟩) hHeld ?_ ?_
                  rotate_left
                  · intro w' _
                    go_simp
                    with_reducible rfl
                  rotate_left
                  · simp only [Act.put, List.setIfInBounds_toArray, List.set_cons_zero, List.set_cons_succ, i64_w, i32_w]
                    rfl
                  refine take_ (i := 5) (N := some 22) (v := ?_) (a' := ?_) #[true, true, true, true, true, true, false, false, false] rfl rfl (take_ofW HT_.out HW_.out (by kernel_rfl)) (fun _ _ _ h => h) (Or.inl ⟨by rfl, ?_⟩) hHeld ?_ ?_
                  rotate_left
                  · intro w' _
                    go_simp
                    with_reducible rfl
                  rotate_left
                  · simp only [Act.put, List.setIfInBounds_toArray, List.set_cons_zero, List.set_cons_succ, i64_w, i32_w]
                    rfl
                  refine one_ (i := 6) (N := some 23) #[true, true, true, true, true, true, true, false, false] rfl rfl (one_of HT_.out (by kernel_rfl)) (by decide) (fun K hK => ?_)
                  refine Kd.R_lit_step (Kd.int .u8) _ 5 ?hg (N := 23) ?hd (xs := ([92, 120, bt (⟨#[48, 49, 50, 51, 52, 53, 54, 55, 56, 57, 97, 98, 99, 100, 101, 102]⟩ : ByteArray) (ji13), bt (⟨#[48, 49, 50, 51, 52, 53, 54, 55, 56, 57, 97, 98, 99, 100, 101, 102]⟩ : ByteArray) (ji17)] : List Int)) (inner := [.int .u8 92, .int .u8 120, .int .u8 (bt (⟨#[48, 49, 50, 51, 52, 53, 54, 55, 56, 57, 97, 98, 99, 100, 101, 102]⟩ : ByteArray) (ji13)), .int .u8 (bt (⟨#[48, 49, 50, 51, 52, 53, 54, 55, 56, 57, 97, 98, 99, 100, 101, 102]⟩ : ByteArray) (ji17))]) (ok := fun _ => True) (okp := fun _ => True) ?hr ?hp (fun _ hk => hk) trivial (Below.refl _ _) (Nat.le_refl _) (by simp) ?_; (case hd => rfl); (case hg => rfl); (case hr => first | (go_simp; done) | (go_simp; rfl)); (case hp => exact (Reps.one (show Kd.M (Kd.int .u8) _ _ _ 92 [.int .u8 92] from rfl) (Reps.one (show Kd.M (Kd.int .u8) _ _ _ 120 [.int .u8 120] from rfl) (Reps.one (show Kd.M (Kd.int .u8) _ _ _ (bt (⟨#[48, 49, 50, 51, 52, 53, 54, 55, 56, 57, 97, 98, 99, 100, 101, 102]⟩ : ByteArray) (ji13)) [.int .u8 (bt (⟨#[48, 49, 50, 51, 52, 53, 54, 55, 56, 57, 97, 98, 99, 100, 101, 102]⟩ : ByteArray) (ji13))] from rfl) (Reps.one (show Kd.M (Kd.int .u8) _ _ _ (bt (⟨#[48, 49, 50, 51, 52, 53, 54, 55, 56, 57, 97, 98, 99, 100, 101, 102]⟩ : ByteArray) (ji17)) [.int .u8 (bt (⟨#[48, 49, 50, 51, 52, 53, 54, 55, 56, 57, 97, 98, 99, 100, 101, 102]⟩ : ByteArray) (ji17))] from rfl) (Reps.none _ _))))))
                  intro v112 w22 ho23 hb hg_ hnew_
                  clear hg_ hnew_
                  (first | rw [← Ny111.out] at ho23 | (simp only [Int.reduceToNat] at ho23; rw [← Ny111.out] at ho23))
                  have n0_ := Aside0.mk (Kd.R_lower ho23 (below_size (by repeat (first | (with_reducible first | exact HB.out | apply below_alloc | apply pw_below_drewN | apply below_drew1) | exact HB.out))))
                  have n1_ := Aside0.mk (below_step (by repeat (first | (with_reducible first | exact HB.out | apply below_alloc | apply pw_below_drewN | apply below_drew1) | exact HB.out)) hb)
                  clear HB
                  have HO113 := n0_
                  have HB := n1_
                  clear n0_ n1_
                  clear hb ho23
                  refine hK.out _ _ trivial (fun hHeld => ?_)
                  clear hK K
                  refine norm_ (a' := ?_) ?_ ?_
                  rotate_left
                  · show Act.put _ (some 23) _ = _
                    simp only [Act.put, List.setIfInBounds_toArray, List.set_cons_zero, List.set_cons_succ, i64_w, i32_w]
                    rfl
                  refine one_ (i := 7) (N := some 24) #[true, true, true, true, true, true, true, true, false] rfl rfl (one_of HT_.out (by kernel_rfl)) (by decide) (fun K hK => ?_)
                  have hcv24 := own_string (P := Try.prog) Try.underlying35 Try.underlying5 Try.underlying9 (Kd.own_of_R HO113.out)
                  refine value_ (w1 := ?_) (v := ?_) (by rfl) rfl ?_ ?_
                  rotate_left 2
                  · go_simp
                    constructor
                    · rfl
                    · rfl
                  clear hcv24
                  refine hK.out _ _ trivial (fun hHeld => ?_)
                  clear hK K
                  refine norm_ (a' := ?_) ?_ ?_
                  rotate_left
                  · show Act.put _ (some 24) _ = _
                    simp only [Act.put, List.setIfInBounds_toArray, List.set_cons_zero, List.set_cons_succ, i64_w, i32_w]
                    rfl
                  refine pure_ (i := 8) (N := some 2) (v := ?_) (a' := ?_) #[true, true, true, true, true, true, true, true, true] rfl rfl (any_of HT_.out (by kernel_rfl)) (fun _ _ _ h => h) (Or.inl ⟨by rfl, ?_⟩) ?_ ?_
                  rotate_left
                  · intro w'
                    go_simp
                    with_reducible rfl
                  rotate_left
                  · simp only [Act.put, List.setIfInBounds_toArray, List.set_cons_zero, List.set_cons_succ, i64_w, i32_w]
                    rfl
                  refine done_ (done_of HT_.out (by kernel_rfl)) ?_
                  try go_wp2
                  go_ret
                  exact ⟨by first | rfl | (simp [errW_none, errW_some] <;> rfl) | (simp only [← hji13, ← hji17]; first | rfl | (simp [errW_none, errW_some] <;> rfl)) | (simp [*, errW_none, errW_some] <;> rfl), by repeat (first | (with_reducible first | exact HB.out | apply below_alloc | apply pw_below_drewN | apply below_drew1) | exact HB.out)⟩
                · rw [if_neg c19] at H
                  exact absurd H (by simp)
              · rw [if_neg c18] at H
                exact absurd H (by simp)
            · rw [if_neg c15] at H
              exact absurd H (by simp)
          · rw [if_neg c14] at H
            exact absurd H (by simp)

end Go.Proofs.Ytefljkgfkkdaiaa.PAll
