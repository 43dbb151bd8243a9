/- What the turned bits come to when the frame is opened. -/
import Derived.Test.YthgfplkgjpkcfaaFrameTurn
import Derived.Test.YthgfplkgjpkcfaaStr
set_option linter.unusedVariables false
namespace Go.Proofs.Ythgfplkgjpkcfaa.Burst
open Go.RowKit Go.Proofs.Ythgfplkgjpkcfaa.PAll Go.Proofs.YthgfplkgjpkcfaaW.PrintWords Go.Proofs.Ythgfplkgjpkcfaa.Pure

/-- a bit is to be turned -/
def on (B : Int) (k i j : Nat) : Prop := k ≤ j ∧ j < k + i ∧ B / 2 ^ (j - k) % 2 = 1
theorem on_succ {B : Int} {k i j : Nat} : on B k (i + 1) j ↔ on B k i j ∨ (j = k + i ∧ B / 2 ^ i % 2 = 1) := by
  unfold on
  constructor
  · rintro ⟨h1, h2, h3⟩
    rcases Nat.lt_or_ge j (k + i) with h | h
    · exact .inl ⟨h1, h, h3⟩
    · have : j = k + i := by omega
      subst this
      rw [Nat.add_sub_cancel_left] at h3
      exact .inr ⟨rfl, h3⟩
  · rintro (⟨h1, h2, h3⟩ | ⟨rfl, h⟩)
    · exact ⟨h1, by omega, h3⟩
    · refine ⟨by omega, by omega, ?_⟩
      rw [Nat.add_sub_cancel_left]; exact h
structure Inv (f y : List Int) (B : Int) (k i fr : Nat) (s g : Bool) : Prop where
  bytes : bytes8 y
  len : y.length = f.length
  fit : k + i ≤ 8 * f.length
  off : ∀ j : Nat, j < 8 * f.length → ¬ on B k i j → bitAt y j = bitAt f j
  is : ∀ j : Nat, j < 8 * f.length → on B k i j → bitAt y j = 1 - bitAt f j
  no : s = false → y = f ∧ ∀ j, ¬ on B k i j
  yes : s = true → ∃ p, on B k i p ∧ ∀ j, j < p → ¬ on B k i j
  nol : g = false → ∀ j, on B k i j → fr ≤ j / 8
  yesl : g = true → ∃ j, on B k i j ∧ j / 8 < fr
theorem Inv.start {f : List Int} (hf : bytes8 f) (B : Int) (k fr : Nat) (hk : k ≤ 8 * f.length) : Inv f f B k 0 fr false false := by
  have h0 : ∀ j, ¬ on B k 0 j := fun j h => by have := h.2.1; have := h.1; omega
  exact ⟨hf, rfl, by omega, fun _ _ _ => rfl, fun j _ h => absurd h (h0 j), fun _ => ⟨rfl, h0⟩, fun h => Bool.noConfusion h, fun _ j h => absurd h (h0 j), fun h => Bool.noConfusion h⟩
theorem Inv.skip {f y : List Int} {B : Int} {k i fr : Nat} {s g : Bool} (h : Inv f y B k i fr s g) (hk : k + i < 8 * f.length) (hb : ¬ B / 2 ^ i % 2 = 1) : Inv f y B k (i + 1) fr s g := by
  have e : ∀ j, on B k (i + 1) j ↔ on B k i j := fun j => by rw [on_succ]; constructor; (rintro (h | ⟨_, h⟩); exact h; exact absurd h hb); exact .inl
  refine ⟨h.bytes, h.len, by omega, ?_, ?_, ?_, ?_, ?_, ?_⟩
  · intro j hj ho; exact h.off j hj (fun x => ho ((e j).2 x))
  · intro j hj ho; exact h.is j hj ((e j).1 ho)
  · intro hs; exact ⟨(h.no hs).1, fun j ho => (h.no hs).2 j ((e j).1 ho)⟩
  · intro hs; obtain ⟨p, hp, hq⟩ := h.yes hs; exact ⟨p, (e p).2 hp, fun j hj ho => hq j hj ((e j).1 ho)⟩
  · intro hg j ho; exact h.nol hg j ((e j).1 ho)
  · intro hg; obtain ⟨j, hj, hl⟩ := h.yesl hg; exact ⟨j, (e j).2 hj, hl⟩
theorem Inv.turn {f y : List Int} {B : Int} {k i fr : Nat} {s g : Bool} (h : Inv f y B k i fr s g) (hk : k + i < 8 * f.length) (hb : B / 2 ^ i % 2 = 1) (g' : Bool) (hg' : g' = (g || decide ((k + i) / 8 < fr))) :
    Inv f (turn1 y ((k + i) / 8) ((k + i) % 8)) B k (i + 1) fr true g' := by
  have hy := h.len
  have hq : (k + i) / 8 < y.length := by omega
  have hm : (k + i) % 8 < 8 := by omega
  have hnot : ¬ on B k i (k + i) := fun x => by have := x.2.1; omega
  have hon : on B k (i + 1) (k + i) := on_succ.2 (.inr ⟨rfl, hb⟩)
  have tb := turn_bit h.bytes hq hm
  have hj0 : 8 * ((k + i) / 8) + (k + i) % 8 = k + i := by omega
  rw [hj0] at tb
  subst hg'
  refine ⟨turn_bytes h.bytes hq hm, ?_, by omega, ?_, ?_, ?_, ?_, ?_, ?_⟩
  · unfold turn1; rw [List.length_set]; exact hy
  · intro j hj ho
    have hne : j ≠ k + i := fun e => ho (e ▸ hon)
    rw [tb j (by omega), if_neg hne]
    exact h.off j hj (fun x => ho (on_succ.2 (.inl x)))
  · intro j hj ho
    rcases on_succ.1 ho with x | ⟨rfl, _⟩
    · have hne : j ≠ k + i := fun e => hnot (e ▸ x)
      rw [tb j (by omega), if_neg hne]
      exact h.is j hj x
    · rw [tb _ (by omega), if_pos rfl, h.off _ hj hnot]
  · intro x; cases x
  · intro _
    cases s with
    | false => exact ⟨k + i, hon, fun j hj ho => by
        rcases on_succ.1 ho with x | ⟨rfl, _⟩
        · exact (h.no rfl).2 j x
        · omega⟩
    | true =>
      obtain ⟨p, hp, hq⟩ := h.yes rfl
      refine ⟨p, on_succ.2 (.inl hp), fun j hj ho => ?_⟩
      rcases on_succ.1 ho with x | ⟨rfl, _⟩
      · exact hq j hj x
      · have := hp.2.1; omega
  · intro hg j ho
    have hg2 := Bool.or_eq_false_iff.1 hg
    rcases on_succ.1 ho with x | ⟨rfl, _⟩
    · exact h.nol hg2.1 j x
    · have := of_decide_eq_false hg2.2; omega
  · intro hg
    rcases Bool.or_eq_true_iff.1 hg with x | x
    · obtain ⟨j, hj, hl⟩ := h.yesl x
      exact ⟨j, on_succ.2 (.inl hj), hl⟩
    · exact ⟨k + i, hon, of_decide_eq_true x⟩
theorem bit_lt (l : List Int) (j : Nat) : bitAt l j < 2 := by unfold bitAt; omega
theorem byte_of_bits {a b : List Int} (ha : bytes8 a) (hb : bytes8 b) (q : Nat) (hqa : q < a.length) (hqb : q < b.length) (h : ∀ m, m < 8 → bitAt a (8 * q + m) = bitAt b (8 * q + m)) : rd a (q : Int) = rd b (q : Int) := by
  have h1 := rd_bytes ha q hqa
  have h2 := rd_bytes hb q hqb
  have key : (rd a (q : Int)).toNat = (rd b (q : Int)).toNat := by
    refine Nat.eq_of_testBit_eq fun m => ?_
    rcases Nat.lt_or_ge m 8 with hm | hm
    · have := h m hm
      unfold bitAt at this
      rw [show (8 * q + m) / 8 = q from by omega, show (8 * q + m) % 8 = m from by omega] at this
      rw [Nat.testBit_eq_decide_div_mod_eq, Nat.testBit_eq_decide_div_mod_eq, this]
    · have hp : 2 ^ 8 ≤ 2 ^ m := Nat.pow_le_pow_right (by omega) hm
      rw [Nat.testBit_lt_two_pow (by omega), Nat.testBit_lt_two_pow (by omega)]
  omega
theorem rd_get {l : List Int} {q : Nat} (h : q < l.length) : l[q]? = some (rd l (q : Int)) := by
  unfold rd
  rw [Int.toNat_natCast, List.getD_eq_getElem?_getD, List.getElem?_eq_getElem h]; rfl
theorem four_tells {t : List Int} (h : bytes8 t) (h4 : t.length = 4) : four (tells t) = t ∧ 0 ≤ tells t ∧ tells t < 4294967296 := by
  match t, h4 with
  | [a, b, c, d], _ =>
    have ha := h a (by simp)
    have hb := h b (by simp)
    have hc := h c (by simp)
    have hd := h d (by simp)
    have e : tells [a, b, c, d] = a + 256 * b + 65536 * c + 16777216 * d := rfl
    rw [e]
    refine ⟨?_, by omega, by omega⟩
    unfold four
    congr 1
    · omega
    · congr 1
      · omega
      · congr 1
        · omega
        · congr 1; omega
theorem tells_four {s : Int} (h0 : 0 ≤ s) (h1 : s < 4294967296) : tells (four s) = s := by
  have e : tells (four s) = s % 256 + 256 * ((s / 256) % 256) + 65536 * ((s / 65536) % 256) + 16777216 * ((s / 16777216) % 256) := rfl
  rw [e]; omega
theorem sum_bd {l : List Int} (h : bytes8 l) : 0 ≤ sumOf l ∧ sumOf l < 4294967296 := by
  rw [sum_nat h]
  have := Nat.xor_lt_two_pow (run_lt (natBits l) all (by decide) (natBits_bits l)) (show all < 2 ^ 32 by decide)
  omega
theorem four_bytes (s : Int) : bytes8 (four s) := by
  intro x hx
  unfold four at hx
  simp only [List.mem_cons, List.not_mem_nil, or_false] at hx
  omega
theorem residue_of {c t : List Int} (hc : bytes8 c) (ht : bytes8 t) (h4 : t.length = 4) (h : sumOf c = tells t) : run all (natBits (c ++ t)) = run all (List.replicate 32 0) := by
  obtain ⟨e, h0, h1⟩ := four_tells ht h4
  have hv : tells t = (((tells t).toNat : Nat) : Int) := by omega
  refine residue hc (tells t).toNat (by omega) ?_ (h.trans hv)
  rw [← four_bits, ← hv, e]
/-- with a bit turned, and all within 32, the two registers differ -/
theorem apart {f y : List Int} (hf : bytes8 f) {B : Int} {k i fr : Nat} {g : Bool} (hi : i ≤ 32) (h : Inv f y B k i fr true g) : run all (natBits f) ≠ run all (natBits y) := by
  intro hr
  have hlen := h.len
  have l1 := natBits_len f
  have l2 := natBits_len y
  have ht := turned (natBits f) (natBits y) all all (by omega)
  rw [hr, Nat.xor_self, Nat.xor_self] at ht
  obtain ⟨p, hp, hq⟩ := h.yes rfl
  have hfit := h.fit
  have hpl := hp.2.1
  have hpk := hp.1
  have el : (List.zipWith (· ^^^ ·) (natBits f) (natBits y)).length = 8 * f.length := by rw [List.length_zipWith]; omega
  have eg : ∀ j, j < 8 * f.length → (List.zipWith (· ^^^ ·) (natBits f) (natBits y)).getD j 0 = bitAt f j ^^^ bitAt y j := by
    intro j hj
    rw [List.getD_eq_getElem?_getD, List.getElem?_zipWith, natBits_get f j hj, natBits_get y j (by omega)]
    rfl
  have off : ∀ j, ¬ on B k i j → (List.zipWith (· ^^^ ·) (natBits f) (natBits y)).getD j 0 = 0 := by
    intro j ho
    rcases Nat.lt_or_ge j (8 * f.length) with hj | hj
    · rw [eg j hj, h.off j hj ho, Nat.xor_self]
    · rw [List.getD_eq_getElem?_getD, List.getElem?_eq_none (by omega)]; rfl
  refine burst_at _ ?_ p (by omega) ?_ (fun j hj => off j (hq j hj)) (fun j hj => off j (fun ho => by have := ho.2.1; omega)) ht.symm
  · intro x hx
    obtain ⟨j, hj, rfl⟩ := List.getElem_of_mem hx
    rw [List.getElem_zipWith]
    exact Nat.xor_lt_two_pow (n := 1) (natBits_bits f _ (List.getElem_mem _)) (natBits_bits y _ (List.getElem_mem _))
  · rw [eg p (by omega), h.is p (by omega) hp]
    have := bit_lt f p
    have : bitAt f p = 0 ∨ bitAt f p = 1 := by omega
    rcases this with e | e <;> rw [e] <;> rfl
/-- the frame of some bytes -/
def frameOf (b : List Int) : List Int := body b ++ four (sumOf (body b))
theorem frameOf_bytes {b : List Int} (hb : bytes8 b) (hl : b.length ≤ 2000) : bytes8 (frameOf b) := by
  intro x hx
  rcases List.mem_append.1 hx with hx | hx
  · exact body_bytes hb (by omega) x hx
  · exact four_bytes _ x hx
theorem frameOf_len (b : List Int) : (frameOf b).length = (vb 9 (b.length : Int)).length + b.length + 4 := by
  unfold frameOf body
  rw [List.length_append, List.length_append]
  rfl
theorem got_head (b y : List Int) (hl : b.length ≤ 2000) (h : y.take (vb 9 (b.length : Int)).length = vb 9 (b.length : Int)) : got y 0 = ((b.length : Int), ((vb 9 (b.length : Int)).length : Int), 0) := by
  have hs : y = vb 9 (b.length : Int) ++ y.drop (vb 9 (b.length : Int)).length := by
    conv => lhs; rw [← List.take_append_drop (vb 9 (b.length : Int)).length y, h]
  have hd := dec_vb 9 0 0 (b.length : Int) (y.drop (vb 9 (b.length : Int)).length) rfl (by omega) (by simp; omega) (fun h => absurd h (by omega))
  rw [← hs] at hd
  unfold got
  rw [if_neg (by omega), show (0 : Int).toNat = 0 from rfl, List.drop_zero, hd]
  simp
theorem found_at {b y : List Int} (hb : bytes8 b) (hl : b.length ≤ 2000) {B : Int} {k i : Nat} {s : Bool} (hi : i ≤ 32) (h : Inv (frameOf b) y B k i (vb 9 (b.length : Int)).length s false) (K : Nat) (hK : 300000 ≤ K) :
    ∃ x p e, frame_Open.f K y 0 = some (x, p, e) ∧ (e = 8 ↔ s = true) ∧ (s = true ∨ x = b) := by
  have hfl := frameOf_len b
  have hyl := h.len
  have hv := vb_len 9 (b.length : Int)
  have hfb := frameOf_bytes hb hl
  have hhead : y.take (vb 9 (b.length : Int)).length = vb 9 (b.length : Int) := by
    refine List.ext_getElem? fun q => ?_
    rcases Nat.lt_or_ge q (vb 9 (b.length : Int)).length with hq | hq
    · rw [List.getElem?_take_of_lt hq, rd_get (by omega)]
      have hr := byte_of_bits h.bytes hfb q (by omega) (by omega) (fun m hm => h.off _ (by omega) (fun ho => by have := h.nol rfl _ ho; omega))
      rw [hr, ← rd_get (by omega)]
      unfold frameOf body
      rw [List.append_assoc, List.getElem?_append_left hq]
    · rw [List.getElem?_eq_none (by rw [List.length_take]; omega), List.getElem?_eq_none (by omega)]
  have hgot := got_head b y hl hhead
  have ho := opens y h.bytes (by omega) K hK _ _ _ hgot (by omega) (by omega)
  rw [if_pos rfl, if_neg (by omega), if_neg (by omega)] at ho
  have hn : (((vb 9 (b.length : Int)).length : Int) + (b.length : Int)).toNat = (body b).length := by unfold body; rw [List.length_append]; omega
  have hbl : (body b).length = (vb 9 (b.length : Int)).length + b.length := by unfold body; rw [List.length_append]
  rw [hn, Int.toNat_natCast] at ho
  have hc : bytes8 (y.take (body b).length) := fun x hx => h.bytes x (List.mem_of_mem_take hx)
  have ht : bytes8 (y.drop (body b).length) := bytes8_drop h.bytes _
  cases s with
  | false =>
    have hy := (h.no rfl).1
    have e1 : y.take (body b).length = body b := by rw [hy]; unfold frameOf; rw [List.take_left']; rfl
    have e2 : y.drop (body b).length = four (sumOf (body b)) := by rw [hy]; unfold frameOf; rw [List.drop_left']; rfl
    have hs := sum_bd (body_bytes hb (by omega))
    rw [e1, e2, tells_four hs.1 hs.2, if_pos rfl] at ho
    refine ⟨_, _, _, ho, by simp, .inr ?_⟩
    unfold body
    rw [List.drop_left']; rfl
  | true =>
    have hne : sumOf (y.take (body b).length) ≠ tells (y.drop (body b).length) := by
      intro he
      have r1 := residue_of hc ht (by rw [List.length_drop]; omega) he
      rw [List.take_append_drop] at r1
      have hs := sum_bd (body_bytes hb (by omega))
      have r2 := residue_of (body_bytes hb (by omega)) (four_bytes (sumOf (body b))) rfl (tells_four hs.1 hs.2).symm
      exact apart hfb hi h (r2.trans r1.symm)
    rw [if_neg hne] at ho
    exact ⟨_, _, _, ho, by simp, .inl rfl⟩
theorem got_err (y : List Int) : 0 ≤ (got y 0).2.1 ∧ (got y 0).2.1 ≤ (y.length : Int) := by
  have := (dec_err y 0 0).1
  unfold got
  rw [if_neg (by omega), show (0 : Int).toNat = 0 from rfl, List.drop_zero]
  dsimp only
  omega
theorem found_length {b y : List Int} (hb : bytes8 b) (hl : b.length ≤ 2000) {B : Int} {k i : Nat} {s : Bool} (h : Inv (frameOf b) y B k i (vb 9 (b.length : Int)).length s true) (K : Nat) (hK : 300000 ≤ K) :
    ∃ x p e, frame_Open.f K y 0 = some (x, p, e) ∧ (e ≠ 0 ∨ (bytes8 x ∧ x ≠ b)) := by
  have hfl := frameOf_len b
  have hyl := h.len
  have hv := vb_len 9 (b.length : Int)
  have hge := got_err y
  have hbd := got_bd h.bytes 0
  obtain ⟨n, p, e, hg⟩ : ∃ n p e, got y 0 = (n, p, e) := ⟨_, _, _, rfl⟩
  rw [hg] at hge hbd
  have ho := opens y h.bytes (by omega) K hK n p e hg hge.1 hge.2
  by_cases he : e = 0
  · subst he
    rw [if_pos rfl] at ho
    by_cases h1 : n > 65536
    · rw [if_pos h1] at ho; exact ⟨_, _, _, ho, .inl (by omega)⟩
    · rw [if_neg h1] at ho
      by_cases h2 : n + 4 > (y.length : Int) - p
      · rw [if_pos h2] at ho; exact ⟨_, _, _, ho, .inl (by omega)⟩
      · rw [if_neg h2] at ho
        by_cases h3 : sumOf (y.take (p + n).toNat) = tells (y.drop (p + n).toNat)
        · rw [if_pos h3] at ho
          refine ⟨_, _, _, ho, .inr ⟨fun x hx => h.bytes x (List.mem_of_mem_take (List.mem_of_mem_drop hx)), fun hx => ?_⟩⟩
          have hxl := congrArg List.length hx
          rw [List.length_drop, List.length_take] at hxl
          have hge2 : 0 ≤ p ∧ p ≤ (y.length : Int) := hge
          have hbd2 : 0 ≤ n ∧ n < 18446744073709551616 := hbd
          have hnb : n = (b.length : Int) := by omega
          have hgd := hg
          unfold got at hgd
          rw [if_neg (by omega), show (0 : Int).toNat = 0 from rfl, List.drop_zero] at hgd
          simp only [Prod.mk.injEq] at hgd
          obtain ⟨m, hm0, _, hm1, hm2⟩ := vb_dec y 0 9 0 rfl h.bytes hgd.2.2
          rw [show (2 : Int) ^ (7 * 0) = 1 from rfl] at hm1
          have hmb : m = (b.length : Int) := by omega
          rw [hmb] at hm2
          obtain ⟨j, hj, hjl⟩ := h.yesl rfl
          have hjf := h.fit
          have hj1 := hj.2.1
          have hjb := h.is j (by omega) hj
          have hlt := bit_lt (frameOf b) j
          have hsame : bitAt y j = bitAt (frameOf b) j := by
            have hq : y[j / 8]? = (frameOf b)[j / 8]? := by
              have hpl : (dec 0 0 y).2.1 = (vb 9 (b.length : Int)).length := by
                have := congrArg List.length hm2
                rw [List.length_take] at this
                omega
              rw [hpl] at hm2
              have h5 := congrArg (fun l : List Int => l[j / 8]?) hm2
              replace h5 : (y.take (vb 9 (b.length : Int)).length)[j / 8]? = (vb 9 (b.length : Int))[j / 8]? := h5
              rw [List.getElem?_take_of_lt hjl] at h5
              rw [h5]
              unfold frameOf body
              rw [List.append_assoc, List.getElem?_append_left hjl]
            rw [rd_get (by omega), rd_get (by omega)] at hq
            unfold bitAt
            rw [Option.some.inj hq]
          omega
        · rw [if_neg h3] at ho; exact ⟨_, _, _, ho, .inl (by omega)⟩
  · rw [if_neg he] at ho
    exact ⟨_, _, _, ho, .inl he⟩
end Go.Proofs.Ythgfplkgjpkcfaa.Burst
