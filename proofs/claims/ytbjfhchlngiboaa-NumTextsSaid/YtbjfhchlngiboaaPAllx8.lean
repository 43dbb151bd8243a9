/- Functions of the Go program as plain Lean functions, and the proofs that the code comes to just their answers; of a law, the row. Written by a program of this session (wip/myprint.py over the given print). No condition. -/
import Derived.Test.YtbjfhchlngiboaaPAllx0
import Derived.Test.YtbjfhchlngiboaaPAllx1
import Derived.Test.YtbjfhchlngiboaaPAllx6
import Derived.Test.YtbjfhchlngiboaaPAllx7
namespace Go.Proofs.Ytbjfhchlngiboaa.PAll
open Go.RowKit Go.Proofs.YtbjfhchlngiboaaW.PrintWords Go.Proofs.YtbjfhchlngiboaaW.PrintLast Go.Proofs.YtbjfhchlngiboaaW.PrintMore
attribute [local go_sem] max2_int min2_int max_two min_two max_three min_three max_four min_four   -- for this text's walks alone
set_option linter.unusedVariables false
set_option linter.unusedSimpArgs false

/-! ### num_Text: function 25 (by hand) -/
open Go.Proofs.YtbjfhchlngiboaaW.HandWords
def num_Text.dgs : Nat → Int → List Int
  | 0, _ => []
  | k + 1, u => if u < 10 then [48 + u] else num_Text.dgs k (u / 10) ++ [48 + u % 10]
def num_Text.digitsOf (a0 : Int) : List Int := num_Text.dgs 20 (if a0 < 0 then -a0 else a0)
def num_Text.f (a0 : Int) : Option (ByteArray) := if -9223372036854775808 ≤ a0 ∧ a0 ≤ 9223372036854775807 then some (strOfNums (if a0 < 0 then 45 :: num_Text.digitsOf a0 else num_Text.digitsOf a0)) else none
/-- what is left to be written, and what stands already -/
structure num_Text.Rel (U u : Int) (m : Nat) (C : List Int) : Prop where
  room : 2 ≤ m
  most : m ≤ 20
  low : 0 ≤ u
  high : u < 10 ^ (m - 1)
  len : C.length = 20
  told : num_Text.dgs 20 U = num_Text.dgs m u ++ C.drop m
theorem num_Text.dgs_enough (k : Nat) : ∀ (m : Nat) (u : Int), 0 ≤ u → u < 10 ^ k → k ≤ m → 0 < k → num_Text.dgs m u = num_Text.dgs k u := by
  induction k with
  | zero => intro m u _ _ _ h; omega
  | succ k ih =>
    intro m u h0 h1 h2 _
    obtain ⟨m, rfl⟩ : ∃ n, m = n + 1 := ⟨m - 1, by omega⟩
    simp only [num_Text.dgs]
    by_cases h : u < 10
    · rw [if_pos h, if_pos h]
    · rw [if_neg h, if_neg h]
      have hk : 0 < k := by
        rcases Nat.eq_zero_or_pos k with rfl | h
        · simp at h1; omega
        · exact h
      rw [ih m (u / 10) (by omega) (by rw [Int.pow_succ] at h1; omega) (by omega) hk]
theorem num_Text.drop_set (C : List Int) (j : Nat) (x : Int) (h : j < C.length) : (C.set j x).drop j = x :: C.drop (j + 1) := by
  rw [List.drop_eq_getElem_cons (by simpa using h), List.getElem_set_self, List.drop_set_of_lt (by omega)]
theorem num_Text.step {U u : Int} {m : Nat} {C : List Int} (h : num_Text.Rel U u m C) (hu : u / 10 ≠ 0) : num_Text.Rel U (u / 10) (m - 1) (C.set (m - 1) (48 + u % 10)) := by
  obtain ⟨h1, h2, h3, h4, h5, h6⟩ := h
  obtain ⟨m, rfl⟩ : ∃ n, m = n + 1 := ⟨m - 1, by omega⟩
  simp only [Nat.add_sub_cancel] at h4 ⊢
  have h7 : 2 ≤ m := by
    rcases Nat.lt_or_ge m 2 with h | h
    · have : m = 1 := by omega
      subst this; simp at h4; omega
    · exact h
  refine ⟨h7, by omega, by omega, ?_, by simp [h5], ?_⟩
  · obtain ⟨m, rfl⟩ : ∃ n, m = n + 1 := ⟨m - 1, by omega⟩
    simp only [Nat.add_sub_cancel]; rw [Int.pow_succ] at h4; omega
  · rw [h6, num_Text.drop_set C m _ (by omega)]
    simp only [num_Text.dgs]
    rw [if_neg (by omega), List.append_assoc]
    rfl
theorem num_Text.last {U u : Int} {m : Nat} {C : List Int} (h : num_Text.Rel U u m C) (hu : u / 10 = 0) : num_Text.dgs 20 U = (C.set (m - 1) (48 + u % 10)).drop (m - 1) := by
  obtain ⟨h1, h2, h3, h4, h5, h6⟩ := h
  obtain ⟨m, rfl⟩ : ∃ n, m = n + 1 := ⟨m - 1, by omega⟩
  simp only [Nat.add_sub_cancel]
  rw [h6, num_Text.drop_set C m _ (by omega)]
  simp only [num_Text.dgs]
  rw [if_pos (by omega), show u % 10 = u from by omega]
  rfl
theorem num_Text.first {U : Int} (h0 : 0 ≤ U) (h1 : U ≤ 9223372036854775808) (C : List Int) (hC : C.length = 20) : num_Text.Rel U U 20 C :=
  ⟨by omega, by omega, h0, by show U < 10000000000000000000; omega, hC, by rw [List.drop_eq_nil_of_le (by omega), List.append_nil]⟩
def num_Text.table_ : Array Value := #[.int .u8 48, .int .u8 49, .int .u8 50, .int .u8 51, .int .u8 52, .int .u8 53, .int .u8 54, .int .u8 55, .int .u8 56, .int .u8 57]
theorem num_Text.table_at (u : Int) : num_Text.table_[(u % 10).toNat]? = some (.int .u8 (48 + u % 10)) := by
  have h : u % 10 = 0 ∨ u % 10 = 1 ∨ u % 10 = 2 ∨ u % 10 = 3 ∨ u % 10 = 4 ∨ u % 10 = 5 ∨ u % 10 = 6 ∨ u % 10 = 7 ∨ u % 10 = 8 ∨ u % 10 = 9 := by omega
  rcases h with h | h | h | h | h | h | h | h | h | h <;> rw [h] <;> rfl
set_option maxHeartbeats 1000000 in
set_option maxRecDepth 100000 in
theorem num_Text.table_calls (w : World) :
    Calls Try.prog 31 #[] w fun e w' => e = .returned (.agg #[.int .u8 48, .int .u8 49, .int .u8 50, .int .u8 51, .int .u8 52, .int .u8 53, .int .u8 54, .int .u8 55, .int .u8 56, .int .u8 57]) ∧ w' = w.alloc (.cells #[.int .u8 48, .int .u8 49, .int .u8 50, .int .u8 51, .int .u8 52, .int .u8 53, .int .u8 54, .int .u8 55, .int .u8 56, .int .u8 57] 48) := by
  go_enter Try.func31, Try.ntmps31
  go_wp2
  exact bodyPost_ret (v := .agg #[.int .u8 48, .int .u8 49, .int .u8 50, .int .u8 51, .int .u8 52, .int .u8 53, .int .u8 54, .int .u8 55, .int .u8 56, .int .u8 57]) (by simp [results, Try.results31, go_sem]) rfl ⟨rfl, rfl⟩

set_option maxHeartbeats 1000000 in
set_option maxRecDepth 100000 in
theorem num_Text.calls (a0 : Int) (r : ByteArray) (w : World) (h : num_Text.f a0 = some r) :
    Calls Try.prog 25 #[.int .i64 a0] w fun e w' => e = .returned (.string r) ∧ Below w.heap.size w w' := by
  unfold num_Text.f at h
  by_cases hr : -9223372036854775808 ≤ a0 ∧ a0 ≤ 9223372036854775807
  · rw [if_pos hr] at h
    obtain ⟨ha, hb⟩ := hr
    have H := Aside0.mk (Option.some.inj h)
    clear h
    by_cases hn : a0 < 0
    · have hnb : decide (a0 < 0) = true := decide_eq_true hn
      have hU : Aside0 (IntKind.u64.wrap (-IntKind.u64.wrap a0) = -a0) := ⟨by rw [wrap_u64_, wrap_u64_]; omega⟩
      go_enter Try.func25, Try.ntmps25
      go_upto_block 0 with (first | (go_at_call 31; refine (num_Text.table_calls _).mono ?_; rintro e w' ⟨rfl, rfl⟩))
      try rw [hU.out]
      obtain ⟨W, hW⟩ : ∃ W, W = ((w.alloc (Obj.cells #[Value.int IntKind.u8 48, Value.int IntKind.u8 49, Value.int IntKind.u8 50, Value.int IntKind.u8 51, Value.int IntKind.u8 52, Value.int IntKind.u8 53, Value.int IntKind.u8 54, Value.int IntKind.u8 55, Value.int IntKind.u8 56, Value.int IntKind.u8 57] 48)).alloc (Obj.cells #[Value.int IntKind.u8 48, Value.int IntKind.u8 49, Value.int IntKind.u8 50, Value.int IntKind.u8 51, Value.int IntKind.u8 52, Value.int IntKind.u8 53, Value.int IntKind.u8 54, Value.int IntKind.u8 55, Value.int IntKind.u8 56, Value.int IntKind.u8 57] 48)).alloc (Obj.cells #[Value.int IntKind.u8 0, Value.int IntKind.u8 0, Value.int IntKind.u8 0, Value.int IntKind.u8 0, Value.int IntKind.u8 0, Value.int IntKind.u8 0, Value.int IntKind.u8 0, Value.int IntKind.u8 0, Value.int IntKind.u8 0, Value.int IntKind.u8 0, Value.int IntKind.u8 0, Value.int IntKind.u8 0, Value.int IntKind.u8 0, Value.int IntKind.u8 0, Value.int IntKind.u8 0, Value.int IntKind.u8 0, Value.int IntKind.u8 0, Value.int IntKind.u8 0, Value.int IntKind.u8 0, Value.int IntKind.u8 0] 50) := ⟨_, rfl⟩
      rw [← hW]
      have HT : Aside0 (W.heap[w.heap.size + 1]? = some (.cells num_Text.table_ 48 (0, 0))) := ⟨by rw [hW]; exact (heap_three _ _ _ _).1⟩
      have HO : Aside0 (W.heap[w.heap.size + 1 + 1]? = some (.cells (nums .u8 (List.replicate 20 0)).toArray 50 (0, 0))) := ⟨by rw [hW]; exact (heap_three _ _ _ _).2⟩
      have HB : Aside0 (Below w.heap.size w W) := ⟨by rw [hW]; repeat (first | exact Below.refl _ _ | apply below_alloc)⟩
      have hz : w.heap.size + 1 + 1 < W.heap.size := by rw [hW]; simp
      clear hW hU
      go_cut [4, 6] from 14 to 26 (fun v4 v6 wc => ∃ (m : Nat) (C : List Int) (u : Int), v4 = .int .u64 u ∧ v6 = .int .i64 m ∧ 1 ≤ m ∧ m ≤ 19 ∧ Aside0 (C.length = 20) ∧ Aside0 (num_Text.dgs 20 (-a0) = C.drop m) ∧ Aside0 (wc.heap[w.heap.size + 1 + 1]? = some (.cells (nums .u8 C).toArray 50 (0, 0))) ∧ Aside0 (Below w.heap.size w wc))
      case first =>
        go_wp2
        go_loopw [4, 6] (fun v4 v6 wr => ∃ (u : Int) (m : Nat) (C : List Int), v4 = .int .u64 u ∧ v6 = .int .i64 m ∧ Aside0 (num_Text.Rel (-a0) u m C) ∧ Aside0 (wr.heap[w.heap.size + 1]? = some (.cells num_Text.table_ 48 (0, 0))) ∧ Aside0 (wr.heap[w.heap.size + 1 + 1]? = some (.cells (nums .u8 C).toArray 50 (0, 0))) ∧ Aside0 (Below w.heap.size w wr)) (fun v4 _ _ => (intOf v4).toNat)
        case atStart => exact ⟨-a0, 20, List.replicate 20 0, rfl, rfl, ⟨num_Text.first (by omega) (by omega) _ (by simp)⟩, HT, HO, HB⟩
        case round =>
          clear HT HO HB
          obtain ⟨u, m, C, rfl, rfl, HR, HT, HO, HB⟩ := hrel
          have b1 := HR.out.room
          have b2 := HR.out.most
          have b3 := HR.out.low
          have hC := Aside0.mk HR.out.len
          have k1 : wr.cell? ⟨w.heap.size + 1, (u % 10).toNat, none⟩ = some (.int .u8 (48 + u % 10)) := (blk_cell HT.out _).trans (num_Text.table_at u)
          have k2 : wr.frozen? ⟨w.heap.size + 1 + 1, m - 1, none⟩ = false := blk_frozen HO.out _
          obtain ⟨y, k3⟩ : ∃ y, wr.cell? ⟨w.heap.size + 1 + 1, m - 1, none⟩ = some y := ⟨_, (blk_cell HO.out _).trans (by rw [Array.getElem?_eq_getElem (by simp [nums, hC.out]; omega)])⟩
          have hq : IntKind.u64.wrap (u.tdiv 10) = u / 10 := by
            have b4 := HR.out.high
            have b5 : (10 : Int) ^ (m - 1) ≤ 10 ^ 19 := by
              have h19 : m - 1 ≤ 19 := by omega
              exact_mod_cast Nat.pow_le_pow_right (by decide : 0 < 10) h19
            rw [wrap_u64_, Int.tdiv_eq_ediv_of_nonneg b3]; omega
          by_cases hz : u / 10 = 0
          · have hzb : (u / 10 == 0) = true := beq_iff_eq.mpr hz
            have hL := Aside0.mk (num_Text.last HR.out hz)
            rw [hz] at hq hzb
            clear hz
            go_wp2
            go_meet
            case rel => exact ⟨m - 1, C.set (m - 1) (48 + u % 10), 0, rfl, by first | go_num | (congr 1; omega), by omega, by omega, ⟨by rw [List.length_set]; exact hC.out⟩, hL, ⟨set_block HO.out _⟩, ⟨(HB.out).setCell (by show w.heap.size ≤ w.heap.size + 1 + 1; omega) _⟩⟩
          · have hzb : (u / 10 == 0) = false := beq_eq_false_iff_ne.mpr hz
            have hS := Aside0.mk (num_Text.step HR.out hz)
            have hlt : u / 10 < u := by omega
            clear hz
            go_wp2
            go_roundw
            case rel => exact ⟨u / 10, m - 1, C.set (m - 1) (48 + u % 10), rfl, by first | go_num | (congr 1; omega), hS, ⟨blk_far HT.out (by simp) _⟩, ⟨set_block HO.out _⟩, ⟨(HB.out).setCell (by show w.heap.size ≤ w.heap.size + 1 + 1; omega) _⟩⟩
            case measure => simp [intOf]; omega
      case rest =>
        clear HT HO HB
        obtain ⟨m, C, u, rfl, rfl, b1, b2, hC, hL, HO, HB⟩ := hcut
        have k2 : wc.frozen? ⟨w.heap.size + 1 + 1, m - 1, none⟩ = false := blk_frozen HO.out _
        obtain ⟨y, k3⟩ : ∃ y, wc.cell? ⟨w.heap.size + 1 + 1, m - 1, none⟩ = some y := ⟨_, (blk_cell HO.out _).trans (by rw [Array.getElem?_eq_getElem (by simp [nums, hC.out]; omega)])⟩
        have hsl := slice_array (P := Try.prog) 50 5 20 (by kernel_rfl) (by kernel_rfl) (by kernel_rfl) (fun _ => by kernel_rfl) (w.heap.size + 1 + 1) (m - 1) ((m : Int) - 1) (by omega) (by omega)
        have HO2 := set_block (j := m - 1) HO.out 45
        have hlen : ((C.set (m - 1) 45).drop (m - 1)).length = 20 - (m - 1) := by rw [List.length_drop, List.length_set, hC.out]
        have hcv := Kd.C_string (P := Try.prog) (c := 20 - (m - 1)) Try.underlying47 Try.underlying5 Try.underlying9 (C_of_block (j := m - 1) HO2 (by rw [List.length_set, hC.out]; omega))
        rw [hlen] at hcv
        clear hlen HO2
        go_wp2
        go_ret
        have hfin : (C.set (m - 1) 45).drop (m - 1) = 45 :: num_Text.digitsOf a0 := by
          unfold num_Text.digitsOf
          rw [if_pos hn, hL.out, num_Text.drop_set C (m - 1) 45 (by rw [hC.out]; omega), show m - 1 + 1 = m from by omega]
        refine ⟨by rw [hfin, ← H.out, if_pos hn]; rfl, ?_⟩
        exact (HB.out).setCell (by show w.heap.size ≤ w.heap.size + 1 + 1; omega) _
    · have hnb : decide (a0 < 0) = false := decide_eq_false hn
      have hU : Aside0 (IntKind.u64.wrap a0 = a0) := ⟨by rw [wrap_u64_]; omega⟩
      go_enter Try.func25, Try.ntmps25
      go_upto_block 0 with (first | (go_at_call 31; refine (num_Text.table_calls _).mono ?_; rintro e w' ⟨rfl, rfl⟩))
      try rw [hU.out]
      obtain ⟨W, hW⟩ : ∃ W, W = ((w.alloc (Obj.cells #[Value.int IntKind.u8 48, Value.int IntKind.u8 49, Value.int IntKind.u8 50, Value.int IntKind.u8 51, Value.int IntKind.u8 52, Value.int IntKind.u8 53, Value.int IntKind.u8 54, Value.int IntKind.u8 55, Value.int IntKind.u8 56, Value.int IntKind.u8 57] 48)).alloc (Obj.cells #[Value.int IntKind.u8 48, Value.int IntKind.u8 49, Value.int IntKind.u8 50, Value.int IntKind.u8 51, Value.int IntKind.u8 52, Value.int IntKind.u8 53, Value.int IntKind.u8 54, Value.int IntKind.u8 55, Value.int IntKind.u8 56, Value.int IntKind.u8 57] 48)).alloc (Obj.cells #[Value.int IntKind.u8 0, Value.int IntKind.u8 0, Value.int IntKind.u8 0, Value.int IntKind.u8 0, Value.int IntKind.u8 0, Value.int IntKind.u8 0, Value.int IntKind.u8 0, Value.int IntKind.u8 0, Value.int IntKind.u8 0, Value.int IntKind.u8 0, Value.int IntKind.u8 0, Value.int IntKind.u8 0, Value.int IntKind.u8 0, Value.int IntKind.u8 0, Value.int IntKind.u8 0, Value.int IntKind.u8 0, Value.int IntKind.u8 0, Value.int IntKind.u8 0, Value.int IntKind.u8 0, Value.int IntKind.u8 0] 50) := ⟨_, rfl⟩
      rw [← hW]
      have HT : Aside0 (W.heap[w.heap.size + 1]? = some (.cells num_Text.table_ 48 (0, 0))) := ⟨by rw [hW]; exact (heap_three _ _ _ _).1⟩
      have HO : Aside0 (W.heap[w.heap.size + 1 + 1]? = some (.cells (nums .u8 (List.replicate 20 0)).toArray 50 (0, 0))) := ⟨by rw [hW]; exact (heap_three _ _ _ _).2⟩
      have HB : Aside0 (Below w.heap.size w W) := ⟨by rw [hW]; repeat (first | exact Below.refl _ _ | apply below_alloc)⟩
      have hz : w.heap.size + 1 + 1 < W.heap.size := by rw [hW]; simp
      clear hW hU
      go_cut [4, 6] from 14 to 26 (fun v4 v6 wc => ∃ (m : Nat) (C : List Int) (u : Int), v4 = .int .u64 u ∧ v6 = .int .i64 m ∧ 1 ≤ m ∧ m ≤ 19 ∧ Aside0 (C.length = 20) ∧ Aside0 (num_Text.dgs 20 a0 = C.drop m) ∧ Aside0 (wc.heap[w.heap.size + 1 + 1]? = some (.cells (nums .u8 C).toArray 50 (0, 0))) ∧ Aside0 (Below w.heap.size w wc))
      case first =>
        go_wp2
        go_loopw [4, 6] (fun v4 v6 wr => ∃ (u : Int) (m : Nat) (C : List Int), v4 = .int .u64 u ∧ v6 = .int .i64 m ∧ Aside0 (num_Text.Rel a0 u m C) ∧ Aside0 (wr.heap[w.heap.size + 1]? = some (.cells num_Text.table_ 48 (0, 0))) ∧ Aside0 (wr.heap[w.heap.size + 1 + 1]? = some (.cells (nums .u8 C).toArray 50 (0, 0))) ∧ Aside0 (Below w.heap.size w wr)) (fun v4 _ _ => (intOf v4).toNat)
        case atStart => exact ⟨a0, 20, List.replicate 20 0, rfl, rfl, ⟨num_Text.first (by omega) (by omega) _ (by simp)⟩, HT, HO, HB⟩
        case round =>
          clear HT HO HB
          obtain ⟨u, m, C, rfl, rfl, HR, HT, HO, HB⟩ := hrel
          have b1 := HR.out.room
          have b2 := HR.out.most
          have b3 := HR.out.low
          have hC := Aside0.mk HR.out.len
          have k1 : wr.cell? ⟨w.heap.size + 1, (u % 10).toNat, none⟩ = some (.int .u8 (48 + u % 10)) := (blk_cell HT.out _).trans (num_Text.table_at u)
          have k2 : wr.frozen? ⟨w.heap.size + 1 + 1, m - 1, none⟩ = false := blk_frozen HO.out _
          obtain ⟨y, k3⟩ : ∃ y, wr.cell? ⟨w.heap.size + 1 + 1, m - 1, none⟩ = some y := ⟨_, (blk_cell HO.out _).trans (by rw [Array.getElem?_eq_getElem (by simp [nums, hC.out]; omega)])⟩
          have hq : IntKind.u64.wrap (u.tdiv 10) = u / 10 := by
            have b4 := HR.out.high
            have b5 : (10 : Int) ^ (m - 1) ≤ 10 ^ 19 := by
              have h19 : m - 1 ≤ 19 := by omega
              exact_mod_cast Nat.pow_le_pow_right (by decide : 0 < 10) h19
            rw [wrap_u64_, Int.tdiv_eq_ediv_of_nonneg b3]; omega
          by_cases hz : u / 10 = 0
          · have hzb : (u / 10 == 0) = true := beq_iff_eq.mpr hz
            have hL := Aside0.mk (num_Text.last HR.out hz)
            rw [hz] at hq hzb
            clear hz
            go_wp2
            go_meet
            case rel => exact ⟨m - 1, C.set (m - 1) (48 + u % 10), 0, rfl, by first | go_num | (congr 1; omega), by omega, by omega, ⟨by rw [List.length_set]; exact hC.out⟩, hL, ⟨set_block HO.out _⟩, ⟨(HB.out).setCell (by show w.heap.size ≤ w.heap.size + 1 + 1; omega) _⟩⟩
          · have hzb : (u / 10 == 0) = false := beq_eq_false_iff_ne.mpr hz
            have hS := Aside0.mk (num_Text.step HR.out hz)
            have hlt : u / 10 < u := by omega
            clear hz
            go_wp2
            go_roundw
            case rel => exact ⟨u / 10, m - 1, C.set (m - 1) (48 + u % 10), rfl, by first | go_num | (congr 1; omega), hS, ⟨blk_far HT.out (by simp) _⟩, ⟨set_block HO.out _⟩, ⟨(HB.out).setCell (by show w.heap.size ≤ w.heap.size + 1 + 1; omega) _⟩⟩
            case measure => simp [intOf]; omega
      case rest =>
        clear HT HO HB
        obtain ⟨m, C, u, rfl, rfl, b1, b2, hC, hL, HO, HB⟩ := hcut
        have hsl := slice_array (P := Try.prog) 50 5 20 (by kernel_rfl) (by kernel_rfl) (by kernel_rfl) (fun _ => by kernel_rfl) (w.heap.size + 1 + 1) m (m : Int) rfl (by omega)
        have hlen : (C.drop m).length = 20 - m := by rw [List.length_drop, hC.out]
        have hcv := Kd.C_string (P := Try.prog) (c := 20 - m) Try.underlying47 Try.underlying5 Try.underlying9 (C_of_block (j := m) HO.out (by rw [hC.out]; omega))
        rw [hlen] at hcv
        clear hlen
        go_wp2
        go_ret
        have hfin : C.drop m = num_Text.digitsOf a0 := by
          unfold num_Text.digitsOf
          rw [if_neg (by omega), hL.out]
        refine ⟨by rw [hfin, ← H.out, if_neg (by omega)]; rfl, ?_⟩
        exact HB.out
  · exact absurd ((if_neg hr).symm.trans h) (by simp)

/-! ### haruspexref04_Text: function 26 -/
def haruspexref04_Text.f : Nat → Int → Option (ByteArray)
  | 0, _ => none
  | k + 1, a0 => if a0 < 0 then ((some (([(wrap64 (48 - (Int.tmod a0 10))) % 256] : List Int) : List Int)).bind fun y223 => (if (wrap64 (Int.tdiv a0 10)) = 0 then (if 1 + (strOfNums y223).size ≤ 9223372036854775807 then (some ((⟨#[45]⟩ : ByteArray) ++ (strOfNums y223))) else (none)) else ((haruspexref04_Text.f k (wrap64 (Int.tdiv a0 10))).bind fun t226 => (if t226.size + (strOfNums y223).size ≤ 9223372036854775807 then (some (t226 ++ (strOfNums y223))) else (none))))) else ((some (([(wrap64 (48 + (Int.tmod a0 10))) % 256] : List Int) : List Int)).bind fun y227 => (if a0 ≥ 10 then ((haruspexref04_Text.f k (wrap64 (Int.tdiv a0 10))).bind fun t230 => (if t230.size + (strOfNums y227).size ≤ 9223372036854775807 then (some (t230 ++ (strOfNums y227))) else (none))) else (some (strOfNums y227))))
theorem haruspexref04_Text.mono_l : ∀ k, (∀ y0, LeO (haruspexref04_Text.f k y0) (haruspexref04_Text.f (k + 1) y0))
  | 0 => fun _ r h => by simp [haruspexref04_Text.f] at h
  | k + 1 => by
    have ih0 := haruspexref04_Text.mono_l k
    · intro y0
      unfold haruspexref04_Text.f
      repeat' first
      | (with_reducible exact ih0 _)
      | (with_reducible exact LeO.refl _)
      | (with_reducible exact LeO.none _)
      | (with_reducible refine LeO.ite ?_ ?_)
      | (with_reducible refine LeO.bind ?_ (fun _ => ?_))
      | exact ih0 _
      | exact LeO.none _
      | refine LeO.ite ?_ ?_
      | refine LeO.bind ?_ (fun _ => ?_)
theorem haruspexref04_Text.mono : ∀ a0 k, LeO (haruspexref04_Text.f k a0) (haruspexref04_Text.f (k + 1) a0) := by
  intro a0 k
  have ih0 := haruspexref04_Text.mono_l k
  exact ih0 a0
set_option maxHeartbeats 8000000 in
set_option maxRecDepth 100000 in
theorem haruspexref04_Text.calls (k : Nat) : ∀ (a0 : Int) (r : ByteArray) (w : World) (h : haruspexref04_Text.f k a0 = some r),
    Calls Try.prog 26 #[.int .i64 a0] w fun e w' => e = .returned (.string r) ∧ Below w.heap.size w w' := by
  induction k using Nat.strongRecOn with
  | _ k ih =>
  intro a0 r w h
  cases k with
  | zero => exact absurd h (by simp [haruspexref04_Text.f])
  | succ k =>
  simp only [haruspexref04_Text.f] at h
  have HB := Aside0.mk (Below.refl w.heap.size w)
  have H : (if a0 < 0 then ((some (([(wrap64 (48 - (Int.tmod a0 10))) % 256] : List Int) : List Int)).bind fun y223 => (if (wrap64 (Int.tdiv a0 10)) = 0 then (if 1 + (strOfNums y223).size ≤ 9223372036854775807 then (some ((⟨#[45]⟩ : ByteArray) ++ (strOfNums y223))) else (none)) else ((haruspexref04_Text.f k (wrap64 (Int.tdiv a0 10))).bind fun t226 => (if t226.size + (strOfNums y223).size ≤ 9223372036854775807 then (some (t226 ++ (strOfNums y223))) else (none))))) else ((some (([(wrap64 (48 + (Int.tmod a0 10))) % 256] : List Int) : List Int)).bind fun y227 => (if a0 ≥ 10 then ((haruspexref04_Text.f k (wrap64 (Int.tdiv a0 10))).bind fun t230 => (if t230.size + (strOfNums y227).size ≤ 9223372036854775807 then (some (t230 ++ (strOfNums y227))) else (none))) else (some (strOfNums y227))))) = some r := h
  clear h
  by_cases c2 : a0 < 0
  · rw [if_pos c2] at H
    have c2b0 : decide (a0 < 0) = true := decide_eq_true c2
    clear c2
    obtain ⟨y223, hy223⟩ : ∃ y_ : List Int, y_ = (([(wrap64 (48 - (Int.tmod a0 10))) % 256] : List Int)) := ⟨_, rfl⟩
    replace H : (if (wrap64 (Int.tdiv a0 10)) = 0 then (if 1 + (strOfNums y223).size ≤ 9223372036854775807 then (some ((⟨#[45]⟩ : ByteArray) ++ (strOfNums y223))) else (none)) else ((haruspexref04_Text.f k (wrap64 (Int.tdiv a0 10))).bind fun t226 => (if t226.size + (strOfNums y223).size ≤ 9223372036854775807 then (some (t226 ++ (strOfNums y223))) else (none)))) = some r := by first | (rw [hy223]; with_reducible exact H) | (have H2_ := (Option.bind_some _ _).symm.trans H; rw [hy223]; with_reducible exact H2_) | (have H2_ := (Option.bind_some _ _).symm.trans H; with_reducible exact H2_) | with_reducible exact H | (rw [hy223]; exact H) | exact H
    have Ny223 := Aside0.mk hy223
    clear hy223
    by_cases c3 : (wrap64 (Int.tdiv a0 10)) = 0
    · rw [if_pos c3] at H
      have c3b0 : ((wrap64 (Int.tdiv a0 10)) == 0) = true := beq_iff_eq.mpr c3
      have c3b1 : ((wrap64 (Int.tdiv a0 10)) != 0) = false := bne_eq_false_iff_eq.mpr c3
      clear c3
      by_cases c4 : 1 + (strOfNums y223).size ≤ 9223372036854775807
      · rw [if_pos c4] at H
        have c4b0 := eq_true c4
        have c4b1 : decide (1 + (strOfNums y223).size ≤ 9223372036854775807) = true := decide_eq_true c4
        try have c4b2 : (9223372036854775807 < 1 + (strOfNums y223).size) = False := eq_false (Nat.not_lt.2 c4)
        obtain rfl := Option.some.inj H
        go_enter Try.func26, Try.ntmps26
        go_wp2_with (first | ((with_reducible refine gate_dst (N := 14) rfl ?_); refine Kd.R_lit (Kd.int .u8) _ 5 ?hg (N := 14) ?hd (xs := ([(wrap64 (48 - (Int.tmod a0 10))) % 256] : List Int)) (inner := [.int .u8 ((wrap64 (48 - (Int.tmod a0 10))) % 256)]) (ok := fun _ => True) (okp := fun _ => True) ?hr ?hp (fun _ hk => hk) trivial (Below.refl _ _) (Nat.le_refl _) (by simp) ?_; (case hd => rfl); (case hg => rfl); (case hr => first | (go_simp; done) | (go_simp; rfl)); (case hp => exact (Reps.one (show Kd.M (Kd.int .u8) _ _ _ ((wrap64 (48 - (Int.tmod a0 10))) % 256) [.int .u8 ((wrap64 (48 - (Int.tmod a0 10))) % 256)] from rfl) (Reps.none _ _))); intro v224 w5 ho6 hb hg_ hnew_; clear hg_ hnew_; (first | rw [← Ny223.out] at ho6 | (simp only [Int.reduceToNat] at ho6; rw [← Ny223.out] at ho6)); have n0_ := Aside0.mk (Kd.R_lower ho6 (below_size (by repeat (first | (with_reducible first | exact HB.out | apply below_alloc | apply pw_below_drewN | apply below_drew1) | exact HB.out)))); have n1_ := Aside0.mk (below_step (by repeat (first | (with_reducible first | exact HB.out | apply below_alloc | apply pw_below_drewN | apply below_drew1) | exact HB.out)) hb); clear HB; have HO225 := n0_; have HB := n1_; clear n0_ n1_; clear hb ho6; have hcv7 := own_string (P := Try.prog) Try.underlying47 Try.underlying5 Try.underlying9 (Kd.own_of_R HO225.out)))
        go_ret
        exact ⟨by first | rfl | (simp [errW_none, errW_some] <;> rfl) | (simp [*, errW_none, errW_some] <;> rfl), by repeat (first | (with_reducible first | exact HB.out | apply below_alloc | apply pw_below_drewN | apply below_drew1) | exact HB.out)⟩
      · rw [if_neg c4] at H
        exact absurd H (by simp)
    · rw [if_neg c3] at H
      have c3b0 : ((wrap64 (Int.tdiv a0 10)) == 0) = false := beq_eq_false_iff_ne.mpr c3
      have c3b1 : ((wrap64 (Int.tdiv a0 10)) != 0) = true := bne_iff_ne.mpr c3
      replace H := Option.bind_eq_some_iff.mp H
      obtain ⟨t226, A80, H⟩ := H
      replace H : (if t226.size + (strOfNums y223).size ≤ 9223372036854775807 then (some (t226 ++ (strOfNums y223))) else (none)) = some r := H
      have A8 := Aside0.mk A80
      clear A80
      by_cases c9 : t226.size + (strOfNums y223).size ≤ 9223372036854775807
      · rw [if_pos c9] at H
        have c9b0 := eq_true c9
        have c9b1 : decide (t226.size + (strOfNums y223).size ≤ 9223372036854775807) = true := decide_eq_true c9
        try have c9b2 : (9223372036854775807 < t226.size + (strOfNums y223).size) = False := eq_false (Nat.not_lt.2 c9)
        obtain rfl := Option.some.inj H
        go_enter Try.func26, Try.ntmps26
        go_wp2_with (first | ((with_reducible refine gate_dst (N := 14) rfl ?_); refine Kd.R_lit (Kd.int .u8) _ 5 ?hg (N := 14) ?hd (xs := ([(wrap64 (48 - (Int.tmod a0 10))) % 256] : List Int)) (inner := [.int .u8 ((wrap64 (48 - (Int.tmod a0 10))) % 256)]) (ok := fun _ => True) (okp := fun _ => True) ?hr ?hp (fun _ hk => hk) trivial (Below.refl _ _) (Nat.le_refl _) (by simp) ?_; (case hd => rfl); (case hg => rfl); (case hr => first | (go_simp; done) | (go_simp; rfl)); (case hp => exact (Reps.one (show Kd.M (Kd.int .u8) _ _ _ ((wrap64 (48 - (Int.tmod a0 10))) % 256) [.int .u8 ((wrap64 (48 - (Int.tmod a0 10))) % 256)] from rfl) (Reps.none _ _))); intro v224 w10 ho11 hb hg_ hnew_; clear hg_ hnew_; (first | rw [← Ny223.out] at ho11 | (simp only [Int.reduceToNat] at ho11; rw [← Ny223.out] at ho11)); have n0_ := Aside0.mk (Kd.R_lower ho11 (below_size (by repeat (first | (with_reducible first | exact HB.out | apply below_alloc | apply pw_below_drewN | apply below_drew1) | exact HB.out)))); have n1_ := Aside0.mk (below_step (by repeat (first | (with_reducible first | exact HB.out | apply below_alloc | apply pw_below_drewN | apply below_drew1) | exact HB.out)) hb); clear HB; have HO225 := n0_; have HB := n1_; clear n0_ n1_; clear hb ho11; have hcv12 := own_string (P := Try.prog) Try.underlying47 Try.underlying5 Try.underlying9 (Kd.own_of_R HO225.out)) | ((with_reducible refine gate_callee (f := 26) rfl ?_); refine goesL_ (some 21) rfl rfl Try.func26 (by kernel_rfl) rfl #[.int .i64 (wrap64 (Int.tdiv a0 10))] rfl (by (try simp only [List.map_toArray, List.map_cons, List.map_nil]); first | done | rfl | (simp only [List.length_drop, List.length_take]; rfl)) ?_; (with_reducible refine (ih k (by omega) (wrap64 (Int.tdiv a0 10)) t226 _ A8.out).mono ?_); rintro e w13 ⟨rfl, hb⟩; refine ⟨_, rfl, ?_⟩; have n0_ := Aside0.mk (Kd.R_below (by (with_reducible repeat (first | apply Kd.R_alloc | apply Kd.R_drewN | apply Kd.R_drew)); exact HO225.out) hb); have n1_ := Aside0.mk (below_step (by repeat (first | (with_reducible first | exact HB.out | apply below_alloc | apply pw_below_drewN | apply below_drew1) | exact HB.out)) hb); clear HO225; clear HB; have HO225 := n0_; have HB := n1_; clear n0_ n1_; (try clear hb); (try clear hb2); (try clear hk); (try clear hi)))
        go_ret
        exact ⟨by first | rfl | (simp [errW_none, errW_some] <;> rfl) | (simp [*, errW_none, errW_some] <;> rfl), by repeat (first | (with_reducible first | exact HB.out | apply below_alloc | apply pw_below_drewN | apply below_drew1) | exact HB.out)⟩
      · rw [if_neg c9] at H
        exact absurd H (by simp)
  · rw [if_neg c2] at H
    have c2b0 : decide (a0 < 0) = false := decide_eq_false c2
    clear c2
    obtain ⟨y227, hy227⟩ : ∃ y_ : List Int, y_ = (([(wrap64 (48 + (Int.tmod a0 10))) % 256] : List Int)) := ⟨_, rfl⟩
    replace H : (if a0 ≥ 10 then ((haruspexref04_Text.f k (wrap64 (Int.tdiv a0 10))).bind fun t230 => (if t230.size + (strOfNums y227).size ≤ 9223372036854775807 then (some (t230 ++ (strOfNums y227))) else (none))) else (some (strOfNums y227))) = some r := by first | (rw [hy227]; with_reducible exact H) | (have H2_ := (Option.bind_some _ _).symm.trans H; rw [hy227]; with_reducible exact H2_) | (have H2_ := (Option.bind_some _ _).symm.trans H; with_reducible exact H2_) | with_reducible exact H | (rw [hy227]; exact H) | exact H
    have Ny227 := Aside0.mk hy227
    clear hy227
    by_cases c14 : a0 ≥ 10
    · rw [if_pos c14] at H
      have c14b0 : decide (10 ≤ a0) = true := decide_eq_true c14
      clear c14
      replace H := Option.bind_eq_some_iff.mp H
      obtain ⟨t230, A150, H⟩ := H
      replace H : (if t230.size + (strOfNums y227).size ≤ 9223372036854775807 then (some (t230 ++ (strOfNums y227))) else (none)) = some r := H
      have A15 := Aside0.mk A150
      clear A150
      by_cases c16 : t230.size + (strOfNums y227).size ≤ 9223372036854775807
      · rw [if_pos c16] at H
        have c16b0 := eq_true c16
        have c16b1 : decide (t230.size + (strOfNums y227).size ≤ 9223372036854775807) = true := decide_eq_true c16
        try have c16b2 : (9223372036854775807 < t230.size + (strOfNums y227).size) = False := eq_false (Nat.not_lt.2 c16)
        obtain rfl := Option.some.inj H
        go_enter Try.func26, Try.ntmps26
        go_wp2_with (first | ((with_reducible refine gate_dst (N := 28) rfl ?_); refine Kd.R_lit (Kd.int .u8) _ 5 ?hg (N := 28) ?hd (xs := ([(wrap64 (48 + (Int.tmod a0 10))) % 256] : List Int)) (inner := [.int .u8 ((wrap64 (48 + (Int.tmod a0 10))) % 256)]) (ok := fun _ => True) (okp := fun _ => True) ?hr ?hp (fun _ hk => hk) trivial (Below.refl _ _) (Nat.le_refl _) (by simp) ?_; (case hd => rfl); (case hg => rfl); (case hr => first | (go_simp; done) | (go_simp; rfl)); (case hp => exact (Reps.one (show Kd.M (Kd.int .u8) _ _ _ ((wrap64 (48 + (Int.tmod a0 10))) % 256) [.int .u8 ((wrap64 (48 + (Int.tmod a0 10))) % 256)] from rfl) (Reps.none _ _))); intro v228 w17 ho18 hb hg_ hnew_; clear hg_ hnew_; (first | rw [← Ny227.out] at ho18 | (simp only [Int.reduceToNat] at ho18; rw [← Ny227.out] at ho18)); have n0_ := Aside0.mk (Kd.R_lower ho18 (below_size (by repeat (first | (with_reducible first | exact HB.out | apply below_alloc | apply pw_below_drewN | apply below_drew1) | exact HB.out)))); have n1_ := Aside0.mk (below_step (by repeat (first | (with_reducible first | exact HB.out | apply below_alloc | apply pw_below_drewN | apply below_drew1) | exact HB.out)) hb); clear HB; have HO229 := n0_; have HB := n1_; clear n0_ n1_; clear hb ho18; have hcv19 := own_string (P := Try.prog) Try.underlying47 Try.underlying5 Try.underlying9 (Kd.own_of_R HO229.out)) | ((with_reducible refine gate_callee (f := 26) rfl ?_); refine goesL_ (some 34) rfl rfl Try.func26 (by kernel_rfl) rfl #[.int .i64 (wrap64 (Int.tdiv a0 10))] rfl (by (try simp only [List.map_toArray, List.map_cons, List.map_nil]); first | done | rfl | (simp only [List.length_drop, List.length_take]; rfl)) ?_; (with_reducible refine (ih k (by omega) (wrap64 (Int.tdiv a0 10)) t230 _ A15.out).mono ?_); rintro e w20 ⟨rfl, hb⟩; refine ⟨_, rfl, ?_⟩; have n0_ := Aside0.mk (Kd.R_below (by (with_reducible repeat (first | apply Kd.R_alloc | apply Kd.R_drewN | apply Kd.R_drew)); exact HO229.out) hb); have n1_ := Aside0.mk (below_step (by repeat (first | (with_reducible first | exact HB.out | apply below_alloc | apply pw_below_drewN | apply below_drew1) | exact HB.out)) hb); clear HO229; clear HB; have HO229 := n0_; have HB := n1_; clear n0_ n1_; (try clear hb); (try clear hb2); (try clear hk); (try clear hi)))
        go_ret
        exact ⟨by first | rfl | (simp [errW_none, errW_some] <;> rfl) | (simp [*, errW_none, errW_some] <;> rfl), by repeat (first | (with_reducible first | exact HB.out | apply below_alloc | apply pw_below_drewN | apply below_drew1) | exact HB.out)⟩
      · rw [if_neg c16] at H
        exact absurd H (by simp)
    · rw [if_neg c14] at H
      have c14b0 : decide (10 ≤ a0) = false := decide_eq_false c14
      clear c14
      obtain rfl := Option.some.inj H
      go_enter Try.func26, Try.ntmps26
      go_wp2_with (first | ((with_reducible refine gate_dst (N := 28) rfl ?_); refine Kd.R_lit (Kd.int .u8) _ 5 ?hg (N := 28) ?hd (xs := ([(wrap64 (48 + (Int.tmod a0 10))) % 256] : List Int)) (inner := [.int .u8 ((wrap64 (48 + (Int.tmod a0 10))) % 256)]) (ok := fun _ => True) (okp := fun _ => True) ?hr ?hp (fun _ hk => hk) trivial (Below.refl _ _) (Nat.le_refl _) (by simp) ?_; (case hd => rfl); (case hg => rfl); (case hr => first | (go_simp; done) | (go_simp; rfl)); (case hp => exact (Reps.one (show Kd.M (Kd.int .u8) _ _ _ ((wrap64 (48 + (Int.tmod a0 10))) % 256) [.int .u8 ((wrap64 (48 + (Int.tmod a0 10))) % 256)] from rfl) (Reps.none _ _))); intro v228 w21 ho22 hb hg_ hnew_; clear hg_ hnew_; (first | rw [← Ny227.out] at ho22 | (simp only [Int.reduceToNat] at ho22; rw [← Ny227.out] at ho22)); have n0_ := Aside0.mk (Kd.R_lower ho22 (below_size (by repeat (first | (with_reducible first | exact HB.out | apply below_alloc | apply pw_below_drewN | apply below_drew1) | exact HB.out)))); have n1_ := Aside0.mk (below_step (by repeat (first | (with_reducible first | exact HB.out | apply below_alloc | apply pw_below_drewN | apply below_drew1) | exact HB.out)) hb); clear HB; have HO229 := n0_; have HB := n1_; clear n0_ n1_; clear hb ho22; have hcv23 := own_string (P := Try.prog) Try.underlying47 Try.underlying5 Try.underlying9 (Kd.own_of_R HO229.out)))
      go_ret
      exact ⟨by first | rfl | (simp [errW_none, errW_some] <;> rfl) | (simp [*, errW_none, errW_some] <;> rfl), by repeat (first | (with_reducible first | exact HB.out | apply below_alloc | apply pw_below_drewN | apply below_drew1) | exact HB.out)⟩

/-! ### haruspexlaw04_NumTexts: function 6 -/
def haruspexlaw04_NumTexts.f (k : Nat) (a0 : Int) (a1 : ByteArray) : Option (Bool) := (num_Parse.f k a1).bind fun bt231 => ((haruspexref04_Parse.f k a1).bind fun bt233 => ((num_Text.f a0).bind fun t235 => ((haruspexref04_Text.f k a0).bind fun t236 => (if t235.toList = t236.toList then (if bt231.1 = bt233.1 then (if bt231.2 = bt233.2 then ((haruspexlaw04_awake.f).bind fun t237 => (some t237)) else (none)) else (none)) else (none)))))
theorem haruspexlaw04_NumTexts.mono : ∀ a0 a1 k, LeO (haruspexlaw04_NumTexts.f k a0 a1) (haruspexlaw04_NumTexts.f (k + 1) a0 a1) := by
  intro a0 a1 k
  unfold haruspexlaw04_NumTexts.f
  repeat' first
      | (with_reducible exact haruspexref04_Parse.mono _ _)
      | (with_reducible exact haruspexref04_Text.mono _ _)
      | (with_reducible exact num_Parse.mono _ _)
      | (with_reducible exact LeO.refl _)
      | (with_reducible exact LeO.none _)
      | (with_reducible refine LeO.ite ?_ ?_)
      | (with_reducible refine LeO.bind ?_ (fun _ => ?_))
      | exact haruspexref04_Parse.mono _ _
      | exact haruspexref04_Text.mono _ _
      | exact num_Parse.mono _ _
      | exact LeO.none _
      | refine LeO.ite ?_ ?_
      | refine LeO.bind ?_ (fun _ => ?_)
set_option maxHeartbeats 8000000 in
set_option maxRecDepth 100000 in
theorem haruspexlaw04_NumTexts.calls (k : Nat) (a0 : Int) (a1 : ByteArray) (r : Bool) (w : World) (h : haruspexlaw04_NumTexts.f k a0 a1 = some r) :
    Calls Try.prog 6 #[.int .i64 a0, .string a1] w fun e w' => e = .returned (.bool r) ∧ Below w.heap.size w w' := by
  have HB := Aside0.mk (Below.refl w.heap.size w)
  have H : ((num_Parse.f k a1).bind fun bt231 => ((haruspexref04_Parse.f k a1).bind fun bt233 => ((num_Text.f a0).bind fun t235 => ((haruspexref04_Text.f k a0).bind fun t236 => (if t235.toList = t236.toList then (if bt231.1 = bt233.1 then (if bt231.2 = bt233.2 then ((haruspexlaw04_awake.f).bind fun t237 => (some t237)) else (none)) else (none)) else (none)))))) = some r := h
  clear h
  replace H := Option.bind_eq_some_iff.mp H
  obtain ⟨⟨t231, t232⟩, A30, H⟩ := H
  replace H : ((haruspexref04_Parse.f k a1).bind fun bt233 => ((num_Text.f a0).bind fun t235 => ((haruspexref04_Text.f k a0).bind fun t236 => (if t235.toList = t236.toList then (if t231 = bt233.1 then (if t232 = bt233.2 then ((haruspexlaw04_awake.f).bind fun t237 => (some t237)) else (none)) else (none)) else (none))))) = some r := H
  have A3 := Aside0.mk A30
  clear A30
  replace H := Option.bind_eq_some_iff.mp H
  obtain ⟨⟨t233, t234⟩, A40, H⟩ := H
  replace H : ((num_Text.f a0).bind fun t235 => ((haruspexref04_Text.f k a0).bind fun t236 => (if t235.toList = t236.toList then (if t231 = t233 then (if t232 = t234 then ((haruspexlaw04_awake.f).bind fun t237 => (some t237)) else (none)) else (none)) else (none)))) = some r := H
  have A4 := Aside0.mk A40
  clear A40
  replace H := Option.bind_eq_some_iff.mp H
  obtain ⟨t235, A50, H⟩ := H
  replace H : ((haruspexref04_Text.f k a0).bind fun t236 => (if t235.toList = t236.toList then (if t231 = t233 then (if t232 = t234 then ((haruspexlaw04_awake.f).bind fun t237 => (some t237)) else (none)) else (none)) else (none))) = some r := H
  have A5 := Aside0.mk A50
  clear A50
  replace H := Option.bind_eq_some_iff.mp H
  obtain ⟨t236, A60, H⟩ := H
  replace H : (if t235.toList = t236.toList then (if t231 = t233 then (if t232 = t234 then ((haruspexlaw04_awake.f).bind fun t237 => (some t237)) else (none)) else (none)) else (none)) = some r := H
  have A6 := Aside0.mk A60
  clear A60
  by_cases c7 : t235.toList = t236.toList
  · rw [if_pos c7] at H
    have c7b0 : (t235.toList == t236.toList) = true := beq_iff_eq.mpr c7
    have c7b1 : (t235.toList != t236.toList) = false := bne_eq_false_iff_eq.mpr c7
    clear c7
    by_cases c8 : t231 = t233
    · rw [if_pos c8] at H
      have c8b0 : (t231 == t233) = true := beq_iff_eq.mpr c8
      have c8b1 : (t231 != t233) = false := bne_eq_false_iff_eq.mpr c8
      clear c8
      by_cases c9 : t232 = t234
      · rw [if_pos c9] at H
        have c9b0 : (t232 == t234) = true := beq_iff_eq.mpr c9
        have c9b1 : (t232 != t234) = false := bne_eq_false_iff_eq.mpr c9
        clear c9
        replace H := Option.bind_eq_some_iff.mp H
        obtain ⟨t237, A100, H⟩ := H
        replace H : (some t237) = some r := H
        have A10 := Aside0.mk A100
        clear A100
        obtain rfl := Option.some.inj H
        go_enter Try.func6, Try.ntmps6
        go_wp2_with (first | ((with_reducible refine gate_callee (f := 23) rfl ?_); refine goesL_ (some 11) rfl rfl Try.func23 (by kernel_rfl) rfl #[.string a1] rfl (by (try simp only [List.map_toArray, List.map_cons, List.map_nil]); first | done | rfl | (simp only [List.length_drop, List.length_take]; rfl)) ?_; (with_reducible refine (num_Parse.calls k a1 t231 t232 _ A3.out).mono ?_); rintro e w11 ⟨rfl, hb⟩; refine ⟨_, rfl, ?_⟩; have n0_ := Aside0.mk (below_step (by repeat (first | (with_reducible first | exact HB.out | apply below_alloc | apply pw_below_drewN | apply below_drew1) | exact HB.out)) hb); clear HB; have HB := n0_; clear n0_; (try clear hb); (try clear hb2); (try clear hk); (try clear hi)) | ((with_reducible refine gate_callee (f := 24) rfl ?_); refine goesL_ (some 16) rfl rfl Try.func24 (by kernel_rfl) rfl #[.string a1] rfl (by (try simp only [List.map_toArray, List.map_cons, List.map_nil]); first | done | rfl | (simp only [List.length_drop, List.length_take]; rfl)) ?_; (with_reducible refine (haruspexref04_Parse.calls k a1 t233 t234 _ A4.out).mono ?_); rintro e w' ⟨rfl, ⟨nd, rfl⟩⟩; refine ⟨_, rfl, ?_⟩) | ((with_reducible refine gate_callee (f := 25) rfl ?_); refine goesL_ (some 20) rfl rfl Try.func25 (by kernel_rfl) rfl #[.int .i64 a0] rfl (by (try simp only [List.map_toArray, List.map_cons, List.map_nil]); first | done | rfl | (simp only [List.length_drop, List.length_take]; rfl)) ?_; (with_reducible refine (num_Text.calls a0 t235 _ A5.out).mono ?_); rintro e w12 ⟨rfl, hb⟩; refine ⟨_, rfl, ?_⟩; have n0_ := Aside0.mk (below_step (by repeat (first | (with_reducible first | exact HB.out | apply below_alloc | apply pw_below_drewN | apply below_drew1) | exact HB.out)) hb); clear HB; have HB := n0_; clear n0_; (try clear hb); (try clear hb2); (try clear hk); (try clear hi)) | ((with_reducible refine gate_callee (f := 26) rfl ?_); refine goesL_ (some 22) rfl rfl Try.func26 (by kernel_rfl) rfl #[.int .i64 a0] rfl (by (try simp only [List.map_toArray, List.map_cons, List.map_nil]); first | done | rfl | (simp only [List.length_drop, List.length_take]; rfl)) ?_; (with_reducible refine (haruspexref04_Text.calls k a0 t236 _ A6.out).mono ?_); rintro e w13 ⟨rfl, hb⟩; refine ⟨_, rfl, ?_⟩; have n0_ := Aside0.mk (below_step (by repeat (first | (with_reducible first | exact HB.out | apply below_alloc | apply pw_below_drewN | apply below_drew1) | exact HB.out)) hb); clear HB; have HB := n0_; clear n0_; (try clear hb); (try clear hb2); (try clear hk); (try clear hi)) | (go_at_call 8; (with_reducible refine (haruspexlaw04_awake.calls  t237 _ A10.out).mono ?_); rintro e w' ⟨rfl, ⟨nd, rfl⟩⟩))
        go_ret
        exact ⟨by first | rfl | (simp [errW_none, errW_some] <;> rfl) | (simp [*, errW_none, errW_some] <;> rfl), by repeat (first | (with_reducible first | exact HB.out | apply below_alloc | apply pw_below_drewN | apply below_drew1) | exact HB.out)⟩
      · rw [if_neg c9] at H
        exact absurd H (by simp)
    · rw [if_neg c8] at H
      exact absurd H (by simp)
  · rw [if_neg c7] at H
    exact absurd H (by simp)

/-- THE ONE PURE STATEMENT of haruspexlaw04_NumTexts: yours. -/
def haruspexlaw04_NumTexts.Pure : Prop := ∀ (a0 : Int) (a1 : ByteArray), (Lit.int .i64 a0).wf = true → a1.size ≤ 140737488351232 → ∃ k, haruspexlaw04_NumTexts.f k a0 a1 = some true
theorem haruspexlaw04_NumTexts.walk (P : haruspexlaw04_NumTexts.Pure) (a0 : Int) (a1 : ByteArray) (w : World) (w0 : (Lit.int .i64 a0).wf = true) (w1 : a1.size ≤ 140737488351232) :
    Calls Try.prog 6 #[.int .i64 a0, .string a1] w fun e w' => e = .returned (.bool true) ∧ Below w.heap.size w w' := by
  obtain ⟨k, h⟩ := P a0 a1 w0 w1
  refine (haruspexlaw04_NumTexts.calls k a0 a1 true w h).mono ?_
  rintro e w' ⟨rfl, hd⟩
  exact ⟨rfl, hd⟩

/-! ### haruspexlaw04_NumBack: function 7 -/
def haruspexlaw04_NumBack.f (k : Nat) (a0 : Int) (a1 : ByteArray) : Option (Bool) := (num_Text.f a0).bind fun t238 => ((num_Parse.f k t238).bind fun bt239 => ((num_Parse.f k a1).bind fun bt241 => (if bt241.2 = 0 then (if bt239.2 = 0 then (if bt239.1 = a0 then ((num_Text.f bt241.1).bind fun t243 => (if t243.toList = a1.toList then ((haruspexlaw04_awake.f).bind fun t244 => (some t244)) else (none))) else (none)) else (none)) else (if bt239.2 = 0 then (if bt239.1 = a0 then (if bt241.1 = 0 then ((haruspexlaw04_awake.f).bind fun t245 => (some t245)) else (none)) else (none)) else (none)))))
theorem haruspexlaw04_NumBack.mono : ∀ a0 a1 k, LeO (haruspexlaw04_NumBack.f k a0 a1) (haruspexlaw04_NumBack.f (k + 1) a0 a1) := by
  intro a0 a1 k
  unfold haruspexlaw04_NumBack.f
  repeat' first
      | (with_reducible exact num_Parse.mono _ _)
      | (with_reducible exact LeO.refl _)
      | (with_reducible exact LeO.none _)
      | (with_reducible refine LeO.ite ?_ ?_)
      | (with_reducible refine LeO.bind ?_ (fun _ => ?_))
      | exact num_Parse.mono _ _
      | exact LeO.none _
      | refine LeO.ite ?_ ?_
      | refine LeO.bind ?_ (fun _ => ?_)
set_option maxHeartbeats 8000000 in
set_option maxRecDepth 100000 in
theorem haruspexlaw04_NumBack.calls (k : Nat) (a0 : Int) (a1 : ByteArray) (r : Bool) (w : World) (h : haruspexlaw04_NumBack.f k a0 a1 = some r) :
    Calls Try.prog 7 #[.int .i64 a0, .string a1] w fun e w' => e = .returned (.bool r) ∧ Below w.heap.size w w' := by
  have HB := Aside0.mk (Below.refl w.heap.size w)
  have H : ((num_Text.f a0).bind fun t238 => ((num_Parse.f k t238).bind fun bt239 => ((num_Parse.f k a1).bind fun bt241 => (if bt241.2 = 0 then (if bt239.2 = 0 then (if bt239.1 = a0 then ((num_Text.f bt241.1).bind fun t243 => (if t243.toList = a1.toList then ((haruspexlaw04_awake.f).bind fun t244 => (some t244)) else (none))) else (none)) else (none)) else (if bt239.2 = 0 then (if bt239.1 = a0 then (if bt241.1 = 0 then ((haruspexlaw04_awake.f).bind fun t245 => (some t245)) else (none)) else (none)) else (none)))))) = some r := h
  clear h
  replace H := Option.bind_eq_some_iff.mp H
  obtain ⟨t238, A30, H⟩ := H
  replace H : ((num_Parse.f k t238).bind fun bt239 => ((num_Parse.f k a1).bind fun bt241 => (if bt241.2 = 0 then (if bt239.2 = 0 then (if bt239.1 = a0 then ((num_Text.f bt241.1).bind fun t243 => (if t243.toList = a1.toList then ((haruspexlaw04_awake.f).bind fun t244 => (some t244)) else (none))) else (none)) else (none)) else (if bt239.2 = 0 then (if bt239.1 = a0 then (if bt241.1 = 0 then ((haruspexlaw04_awake.f).bind fun t245 => (some t245)) else (none)) else (none)) else (none))))) = some r := H
  have A3 := Aside0.mk A30
  clear A30
  replace H := Option.bind_eq_some_iff.mp H
  obtain ⟨⟨t239, t240⟩, A40, H⟩ := H
  replace H : ((num_Parse.f k a1).bind fun bt241 => (if bt241.2 = 0 then (if t240 = 0 then (if t239 = a0 then ((num_Text.f bt241.1).bind fun t243 => (if t243.toList = a1.toList then ((haruspexlaw04_awake.f).bind fun t244 => (some t244)) else (none))) else (none)) else (none)) else (if t240 = 0 then (if t239 = a0 then (if bt241.1 = 0 then ((haruspexlaw04_awake.f).bind fun t245 => (some t245)) else (none)) else (none)) else (none)))) = some r := H
  have A4 := Aside0.mk A40
  clear A40
  replace H := Option.bind_eq_some_iff.mp H
  obtain ⟨⟨t241, t242⟩, A50, H⟩ := H
  replace H : (if t242 = 0 then (if t240 = 0 then (if t239 = a0 then ((num_Text.f t241).bind fun t243 => (if t243.toList = a1.toList then ((haruspexlaw04_awake.f).bind fun t244 => (some t244)) else (none))) else (none)) else (none)) else (if t240 = 0 then (if t239 = a0 then (if t241 = 0 then ((haruspexlaw04_awake.f).bind fun t245 => (some t245)) else (none)) else (none)) else (none))) = some r := H
  have A5 := Aside0.mk A50
  clear A50
  by_cases c6 : t242 = 0
  · rw [if_pos c6] at H
    have c6b0 : (t242 == 0) = true := beq_iff_eq.mpr c6
    have c6b1 : (t242 != 0) = false := bne_eq_false_iff_eq.mpr c6
    clear c6
    by_cases c7 : t240 = 0
    · rw [if_pos c7] at H
      have c7b0 : (t240 == 0) = true := beq_iff_eq.mpr c7
      have c7b1 : (t240 != 0) = false := bne_eq_false_iff_eq.mpr c7
      clear c7
      by_cases c8 : t239 = a0
      · rw [if_pos c8] at H
        have c8b0 : (t239 == a0) = true := beq_iff_eq.mpr c8
        have c8b1 : (t239 != a0) = false := bne_eq_false_iff_eq.mpr c8
        clear c8
        replace H := Option.bind_eq_some_iff.mp H
        obtain ⟨t243, A90, H⟩ := H
        replace H : (if t243.toList = a1.toList then ((haruspexlaw04_awake.f).bind fun t244 => (some t244)) else (none)) = some r := H
        have A9 := Aside0.mk A90
        clear A90
        by_cases c10 : t243.toList = a1.toList
        · rw [if_pos c10] at H
          have c10b0 : (t243.toList == a1.toList) = true := beq_iff_eq.mpr c10
          have c10b1 : (t243.toList != a1.toList) = false := bne_eq_false_iff_eq.mpr c10
          clear c10
          replace H := Option.bind_eq_some_iff.mp H
          obtain ⟨t244, A110, H⟩ := H
          replace H : (some t244) = some r := H
          have A11 := Aside0.mk A110
          clear A110
          obtain rfl := Option.some.inj H
          go_enter Try.func7, Try.ntmps7
          go_wp2_with (first | ((with_reducible refine gate_callee (f := 25) rfl ?_); refine goesL_ (some 11) rfl rfl Try.func25 (by kernel_rfl) rfl #[.int .i64 a0] rfl (by (try simp only [List.map_toArray, List.map_cons, List.map_nil]); first | done | rfl | (simp only [List.length_drop, List.length_take]; rfl)) ?_; (with_reducible refine (num_Text.calls a0 t238 _ A3.out).mono ?_); rintro e w12 ⟨rfl, hb⟩; refine ⟨_, rfl, ?_⟩; have n0_ := Aside0.mk (below_step (by repeat (first | (with_reducible first | exact HB.out | apply below_alloc | apply pw_below_drewN | apply below_drew1) | exact HB.out)) hb); clear HB; have HB := n0_; clear n0_; (try clear hb); (try clear hb2); (try clear hk); (try clear hi)) | ((with_reducible refine gate_callee (f := 23) rfl ?_); refine goesL_ (some 12) rfl rfl Try.func23 (by kernel_rfl) rfl #[.string t238] rfl (by (try simp only [List.map_toArray, List.map_cons, List.map_nil]); first | done | rfl | (simp only [List.length_drop, List.length_take]; rfl)) ?_; (with_reducible refine (num_Parse.calls k t238 t239 t240 _ A4.out).mono ?_); rintro e w13 ⟨rfl, hb⟩; refine ⟨_, rfl, ?_⟩; have n0_ := Aside0.mk (below_step (by repeat (first | (with_reducible first | exact HB.out | apply below_alloc | apply pw_below_drewN | apply below_drew1) | exact HB.out)) hb); clear HB; have HB := n0_; clear n0_; (try clear hb); (try clear hb2); (try clear hk); (try clear hi)) | ((with_reducible refine gate_callee (f := 23) rfl ?_); refine goesL_ (some 17) rfl rfl Try.func23 (by kernel_rfl) rfl #[.string a1] rfl (by (try simp only [List.map_toArray, List.map_cons, List.map_nil]); first | done | rfl | (simp only [List.length_drop, List.length_take]; rfl)) ?_; (with_reducible refine (num_Parse.calls k a1 t241 t242 _ A5.out).mono ?_); rintro e w14 ⟨rfl, hb⟩; refine ⟨_, rfl, ?_⟩; have n0_ := Aside0.mk (below_step (by repeat (first | (with_reducible first | exact HB.out | apply below_alloc | apply pw_below_drewN | apply below_drew1) | exact HB.out)) hb); clear HB; have HB := n0_; clear n0_; (try clear hb); (try clear hb2); (try clear hk); (try clear hi)) | (go_at_call 25; (with_reducible refine (num_Text.calls t241 t243 _ A9.out).mono ?_); rintro e w15 ⟨rfl, hb⟩; have n0_ := Aside0.mk (below_step (by repeat (first | (with_reducible first | exact HB.out | apply below_alloc | apply pw_below_drewN | apply below_drew1) | exact HB.out)) hb); clear HB; have HB := n0_; clear n0_; (try clear hb); (try clear hb2); (try clear hk); (try clear hi)) | (go_at_call 8; (with_reducible refine (haruspexlaw04_awake.calls  t244 _ A11.out).mono ?_); rintro e w' ⟨rfl, ⟨nd, rfl⟩⟩))
          go_ret
          exact ⟨by first | rfl | (simp [errW_none, errW_some] <;> rfl) | (simp [*, errW_none, errW_some] <;> rfl), by repeat (first | (with_reducible first | exact HB.out | apply below_alloc | apply pw_below_drewN | apply below_drew1) | exact HB.out)⟩
        · rw [if_neg c10] at H
          exact absurd H (by simp)
      · rw [if_neg c8] at H
        exact absurd H (by simp)
    · rw [if_neg c7] at H
      exact absurd H (by simp)
  · rw [if_neg c6] at H
    have c6b0 : (t242 == 0) = false := beq_eq_false_iff_ne.mpr c6
    have c6b1 : (t242 != 0) = true := bne_iff_ne.mpr c6
    by_cases c16 : t240 = 0
    · rw [if_pos c16] at H
      have c16b0 : (t240 == 0) = true := beq_iff_eq.mpr c16
      have c16b1 : (t240 != 0) = false := bne_eq_false_iff_eq.mpr c16
      clear c16
      by_cases c17 : t239 = a0
      · rw [if_pos c17] at H
        have c17b0 : (t239 == a0) = true := beq_iff_eq.mpr c17
        have c17b1 : (t239 != a0) = false := bne_eq_false_iff_eq.mpr c17
        clear c17
        by_cases c18 : t241 = 0
        · rw [if_pos c18] at H
          have c18b0 : (t241 == 0) = true := beq_iff_eq.mpr c18
          have c18b1 : (t241 != 0) = false := bne_eq_false_iff_eq.mpr c18
          clear c18
          replace H := Option.bind_eq_some_iff.mp H
          obtain ⟨t245, A190, H⟩ := H
          replace H : (some t245) = some r := H
          have A19 := Aside0.mk A190
          clear A190
          obtain rfl := Option.some.inj H
          go_enter Try.func7, Try.ntmps7
          go_wp2_with (first | ((with_reducible refine gate_callee (f := 25) rfl ?_); refine goesL_ (some 11) rfl rfl Try.func25 (by kernel_rfl) rfl #[.int .i64 a0] rfl (by (try simp only [List.map_toArray, List.map_cons, List.map_nil]); first | done | rfl | (simp only [List.length_drop, List.length_take]; rfl)) ?_; (with_reducible refine (num_Text.calls a0 t238 _ A3.out).mono ?_); rintro e w20 ⟨rfl, hb⟩; refine ⟨_, rfl, ?_⟩; have n0_ := Aside0.mk (below_step (by repeat (first | (with_reducible first | exact HB.out | apply below_alloc | apply pw_below_drewN | apply below_drew1) | exact HB.out)) hb); clear HB; have HB := n0_; clear n0_; (try clear hb); (try clear hb2); (try clear hk); (try clear hi)) | ((with_reducible refine gate_callee (f := 23) rfl ?_); refine goesL_ (some 12) rfl rfl Try.func23 (by kernel_rfl) rfl #[.string t238] rfl (by (try simp only [List.map_toArray, List.map_cons, List.map_nil]); first | done | rfl | (simp only [List.length_drop, List.length_take]; rfl)) ?_; (with_reducible refine (num_Parse.calls k t238 t239 t240 _ A4.out).mono ?_); rintro e w21 ⟨rfl, hb⟩; refine ⟨_, rfl, ?_⟩; have n0_ := Aside0.mk (below_step (by repeat (first | (with_reducible first | exact HB.out | apply below_alloc | apply pw_below_drewN | apply below_drew1) | exact HB.out)) hb); clear HB; have HB := n0_; clear n0_; (try clear hb); (try clear hb2); (try clear hk); (try clear hi)) | ((with_reducible refine gate_callee (f := 23) rfl ?_); refine goesL_ (some 17) rfl rfl Try.func23 (by kernel_rfl) rfl #[.string a1] rfl (by (try simp only [List.map_toArray, List.map_cons, List.map_nil]); first | done | rfl | (simp only [List.length_drop, List.length_take]; rfl)) ?_; (with_reducible refine (num_Parse.calls k a1 t241 t242 _ A5.out).mono ?_); rintro e w22 ⟨rfl, hb⟩; refine ⟨_, rfl, ?_⟩; have n0_ := Aside0.mk (below_step (by repeat (first | (with_reducible first | exact HB.out | apply below_alloc | apply pw_below_drewN | apply below_drew1) | exact HB.out)) hb); clear HB; have HB := n0_; clear n0_; (try clear hb); (try clear hb2); (try clear hk); (try clear hi)) | (go_at_call 8; (with_reducible refine (haruspexlaw04_awake.calls  t245 _ A19.out).mono ?_); rintro e w' ⟨rfl, ⟨nd, rfl⟩⟩))
          go_ret
          exact ⟨by first | rfl | (simp [errW_none, errW_some] <;> rfl) | (simp [*, errW_none, errW_some] <;> rfl), by repeat (first | (with_reducible first | exact HB.out | apply below_alloc | apply pw_below_drewN | apply below_drew1) | exact HB.out)⟩
        · rw [if_neg c18] at H
          exact absurd H (by simp)
      · rw [if_neg c17] at H
        exact absurd H (by simp)
    · rw [if_neg c16] at H
      exact absurd H (by simp)

/-- THE ONE PURE STATEMENT of haruspexlaw04_NumBack: yours. -/
def haruspexlaw04_NumBack.Pure : Prop := ∀ (a0 : Int) (a1 : ByteArray), (Lit.int .i64 a0).wf = true → a1.size ≤ 140737488351232 → ∃ k, haruspexlaw04_NumBack.f k a0 a1 = some true
theorem haruspexlaw04_NumBack.walk (P : haruspexlaw04_NumBack.Pure) (a0 : Int) (a1 : ByteArray) (w : World) (w0 : (Lit.int .i64 a0).wf = true) (w1 : a1.size ≤ 140737488351232) :
    Calls Try.prog 7 #[.int .i64 a0, .string a1] w fun e w' => e = .returned (.bool true) ∧ Below w.heap.size w w' := by
  obtain ⟨k, h⟩ := P a0 a1 w0 w1
  refine (haruspexlaw04_NumBack.calls k a0 a1 true w h).mono ?_
  rintro e w' ⟨rfl, hd⟩
  exact ⟨rfl, hd⟩

end Go.Proofs.Ytbjfhchlngiboaa.PAll
