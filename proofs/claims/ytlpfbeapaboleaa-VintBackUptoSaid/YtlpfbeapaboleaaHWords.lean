/- Helper laws of this session, over any program: make with a capacity of its own; copy into what was made. No program in sight. -/
import Derived.Test.YtlpfbeapaboleaaWMore
import Derived.Laws.CopyOwn
namespace Go.Proofs.YtlpfbeapaboleaaW.HandWords
open Go.RowKit Go.Proofs.YtlpfbeapaboleaaW.PrintWords Go.Proofs.YtlpfbeapaboleaaW.PrintLast Go.Proofs.YtlpfbeapaboleaaW.PrintMore
section
variable {P : Program} {ops : Array Oper} {rest : List Oper} {o : Oper} {a : Act} {Q : Exit → Act → World → Prop}

/-- make([]T, n, c), T a kind of whole numbers: a new block of c zeros. -/
theorem hand_make {w0 W : World} (base : Nat) (hgd : o.guard = none) (x y : Operand) (t e : TypeId) (k : IntKind) (bytes : Nat) (ho : o.op = .makeSlice t x y) (N C : Int) (n c : Nat)
    (hx : a.eval x = .int .i64 N) (hy : a.eval y = .int .i64 C) (hN : N = n) (hC : C = c)
    (ht : P.underlying t = some (.slice e)) (hinfo : (P.info? e).map (fun i => (i.zero, i.size, i.bytes)) = some (some (.int k 0), 1, bytes)) (hb0 : 0 < bytes)
    (hnc : n ≤ c) (hc : bytes * c ≤ 281474976710656) (HB : Below base w0 W) (hbase : base ≤ W.heap.size)
    (h : ∀ g w1 cur, base ≤ g → g < w1.heap.size → w1.heap[g]? = some (.cells cur e (0, 0)) → cur.size = c → Below base w0 w1 → wpList P ops Q rest (a.put o.dst (.slice (some ⟨g, 0, none⟩) n c)) w1) :
    wpList P ops Q (o :: rest) a W := by
  subst hN hC
  obtain ⟨i0, hi, hzz⟩ := Option.map_eq_some_iff.1 hinfo
  simp only [Prod.mk.injEq] at hzz
  obtain ⟨hz0, hz1, hz2⟩ := hzz
  have hc' : c ≤ 281474976710656 := Nat.le_trans (Nat.le_mul_of_pos_left _ hb0) hc
  have hb1 : (i0.bytes : Int) * (c : Int) ≤ 281474976710656 := by
    rw [hz2]
    have h3 : ((bytes * c : Nat) : Int) ≤ 281474976710656 := by omega
    rwa [Int.natCast_mul] at h3
  have hr := run_make (P := P) W t e i0 (.int k 0) ht hi hz0 .i64 .i64 (n : Int) (c : Int) (by omega) (by omega) hb1 (by omega)
  simp only [Int.toNat_natCast] at hr
  refine Kd.event_run hgd (v := .slice (some ⟨W.heap.size, 0, none⟩) n c) (w1 := W.alloc (.cells (madeCells (Value.int k 0).cells (c * i0.size)) e)) (by simp [execOp, ho, hx, hy, hr]) ?_
  refine h W.heap.size _ _ hbase (by simp) (heap_alloc_new W _) (by simp [size_madeCells, hz1]) (HB.alloc hbase _)

theorem numsK_get {k : IntKind} {w : World} {A : Option Addr} {xs : List Int} (hr : Kd.C (Kd.int k) w A xs.length xs) (hp : 0 < xs.length) :
    ∃ ad, A = some ad ∧ ∀ j v, (nums k xs)[j]? = some v → w.cell? (ad.add j) = some v := by
  have h := Kd.reads_of_C (enc := Value.int k) (d := 0) (h1 := fun _ => rfl) hr
  obtain ⟨ad, e, hc⟩ := h.2.2 hp
  refine ⟨ad, e, fun j v hj => ?_⟩
  obtain ⟨hl, hv⟩ := List.getElem?_eq_some_iff.1 hj
  have hl' : j < xs.length := by simpa [nums] using hl
  rw [hc j hl', ← hv]
  simp [nums, List.getD_eq_getElem?_getD, List.getElem?_eq_getElem hl']

/-- copy(out, xs), out just made with xs' length: out is xs. -/
theorem hand_copy {w0 W : World} (base : Nat) (hgd : o.guard = none) (x y : Operand) (t e : TypeId) (k : IntKind) (bytes : Nat) (ho : o.op = .call { callee := .builtin .copy, args := #[x, y], argTypes := #[t, t] })
    (ht : P.underlying t = some (.slice e)) (hinfo : (P.info? e).map (fun i => (i.zero, i.size, i.bytes)) = some (some (.int k 0), 1, bytes))
    (g c c' : Nat) (A : Option Addr) (xs : List Int) (cur : Array Value) (hx : a.eval x = .slice (some ⟨g, 0, none⟩) xs.length c) (hy : a.eval y = .slice A xs.length c') (hr : Kd.C (Kd.int k) W A xs.length xs)
    (hg : W.heap[g]? = some (.cells cur e (0, 0))) (hbg : base ≤ g) (hcur : cur.size = c) (hxc : xs.length ≤ c) (hcm : c ≤ 9223372036854775807) (HB : Below base w0 W)
    (h : ∀ w1 v, v = .slice (some ⟨g, 0, none⟩) xs.length c → Kd.R (Kd.int k) e w1 base (fun _ => True) v xs → Below base w0 w1 → wpList P ops Q rest (a.put o.dst (goInt xs.length)) w1) :
    wpList P ops Q (o :: rest) a W := by
  have hsz : (P.info? e).map (·.size) = some 1 := by
    obtain ⟨i0, hi, hzz⟩ := Option.map_eq_some_iff.1 hinfo
    simp only [Prod.mk.injEq] at hzz
    simp [hi, hzz.2.1]
  have hl : (nums k xs).length = xs.length := nums_length k xs
  have key := wpList_copy_splice (P := P) (w := W) (ops := ops) (rest := rest) (o := o) (a := a) (Q := Q) hgd x y t t ho e ht hsz (some ⟨g, 0, none⟩) A xs.length c xs.length c' hx hy g 0 cur.toList e
    (by simpa using hg) (nums k xs) (by rw [hl]; simp) (fun hp => ⟨rfl, numsK_get hr (by rw [hl] at hp; exact hp)⟩)
    (by rw [hl]; simp; omega) (by intro v hv; obtain ⟨z, _, rfl⟩ := List.mem_map.1 hv; rfl) base w0 HB hbg
  refine key ?_
  intro w1 hh hb
  rw [hl]
  refine h w1 _ rfl ?_ hb
  have hsp : (splice cur.toList 0 (nums k xs)) = nums k xs ++ cur.toList.drop xs.length := by simp [splice, hl]
  have hh' : w1.heap[g]? = some (.cells (nums k xs ++ cur.toList.drop xs.length).toArray e (0, 0)) := by rw [← hsp]; exact hh
  refine Kd.R_of_own (enc := Value.int k) (h1 := fun _ => rfl) ⟨by rw [encs_length, Nat.mul_one], .inr ⟨g, c, _, rfl, hbg, hh', hxc, by simpa [maxLen] using hcm, ?_, ?_⟩⟩ (fun _ _ => trivial)
  · simp [hl]; omega
  · rw [Nat.mul_one, List.take_left' (by rw [hl])]; rfl
end
end Go.Proofs.YtlpfbeapaboleaaW.HandWords
