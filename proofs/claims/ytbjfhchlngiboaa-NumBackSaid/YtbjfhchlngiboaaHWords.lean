/- Helper laws of this session, over any program: make with a capacity of its own; copy into what was made. No program in sight. -/
import Derived.Test.YtbjfhchlngiboaaWMore
import Derived.Laws.CopyOwn
namespace Go.Proofs.YtbjfhchlngiboaaW.HandWords
open Go.RowKit Go.Proofs.YtbjfhchlngiboaaW.PrintWords Go.Proofs.YtbjfhchlngiboaaW.PrintLast Go.Proofs.YtbjfhchlngiboaaW.PrintMore
section
variable {P : Program} {ops : Array Oper} {rest : List Oper} {o : Oper} {a : Act} {Q : Exit → Act → World → Prop}

/-- make([]T, n, c), T a kind of whole numbers: a new block of c zeros. -/
theorem hand_make {w0 W : World} (base : Nat) (hgd : o.guard = none) (x y : Operand) (t e : TypeId) (k : IntKind) (bytes : Nat) (ho : o.op = .makeSlice t x y) (N C : Int) (n c : Nat)
    (hx : a.eval x = .int .i64 N) (hy : a.eval y = .int .i64 C) (hN : N = n) (hC : C = c)
    (ht : P.underlying t = some (.slice e)) (hinfo : (P.info? e).map (fun i => (i.zero, i.size, i.bytes)) = some (some (.int k 0), 1, bytes)) (hb0 : 0 < bytes)
    (hnc : n ≤ c) (hc : bytes * c ≤ 281474976710656) (HB : Below base w0 W) (hbase : base ≤ W.heap.size)
    (h : ∀ g w1 cur, base ≤ g → g < w1.heap.size → w1.heap[g]? = some (.cells cur e (0, 0)) → cur.size = c → Below base w0 w1 → wpList P ops Q rest (a.put o.dst (.slice (some ⟨g, 0, none⟩) n c)) w1) :
    wpList P ops Q (o :: rest) a W := by
  subst hN hC
  obtain ⟨i0, hi, hzz⟩ := Option.map_eq_some_iff.1 hinfo
  simp only [Prod.mk.injEq] at hzz
  obtain ⟨hz0, hz1, hz2⟩ := hzz
  have hc' : c ≤ 281474976710656 := Nat.le_trans (Nat.le_mul_of_pos_left _ hb0) hc
  have hb1 : (i0.bytes : Int) * (c : Int) ≤ 281474976710656 := by
    rw [hz2]
    have h3 : ((bytes * c : Nat) : Int) ≤ 281474976710656 := by omega
    rwa [Int.natCast_mul] at h3
  have hr := run_make (P := P) W t e i0 (.int k 0) ht hi hz0 .i64 .i64 (n : Int) (c : Int) (by omega) (by omega) hb1 (by omega)
  simp only [Int.toNat_natCast] at hr
  refine Kd.event_run hgd (v := .slice (some ⟨W.heap.size, 0, none⟩) n c) (w1 := W.alloc (.cells (madeCells (Value.int k 0).cells (c * i0.size)) e)) (by simp [execOp, ho, hx, hy, hr]) ?_
  refine h W.heap.size _ _ hbase (by simp) (heap_alloc_new W _) (by simp [size_madeCells, hz1]) (HB.alloc hbase _)

theorem numsK_get {k : IntKind} {w : World} {A : Option Addr} {xs : List Int} (hr : Kd.C (Kd.int k) w A xs.length xs) (hp : 0 < xs.length) :
    ∃ ad, A = some ad ∧ ∀ j v, (nums k xs)[j]? = some v → w.cell? (ad.add j) = some v := by
  have h := Kd.reads_of_C (enc := Value.int k) (d := 0) (h1 := fun _ => rfl) hr
  obtain ⟨ad, e, hc⟩ := h.2.2 hp
  refine ⟨ad, e, fun j v hj => ?_⟩
  obtain ⟨hl, hv⟩ := List.getElem?_eq_some_iff.1 hj
  have hl' : j < xs.length := by simpa [nums] using hl
  rw [hc j hl', ← hv]
  simp [nums, List.getD_eq_getElem?_getD, List.getElem?_eq_getElem hl']

/-- copy(out, xs), out just made with xs' length: out is xs. -/
theorem hand_copy {w0 W : World} (base : Nat) (hgd : o.guard = none) (x y : Operand) (t e : TypeId) (k : IntKind) (bytes : Nat) (ho : o.op = .call { callee := .builtin .copy, args := #[x, y], argTypes := #[t, t] })
    (ht : P.underlying t = some (.slice e)) (hinfo : (P.info? e).map (fun i => (i.zero, i.size, i.bytes)) = some (some (.int k 0), 1, bytes))
    (g c c' : Nat) (A : Option Addr) (xs : List Int) (cur : Array Value) (hx : a.eval x = .slice (some ⟨g, 0, none⟩) xs.length c) (hy : a.eval y = .slice A xs.length c') (hr : Kd.C (Kd.int k) W A xs.length xs)
    (hg : W.heap[g]? = some (.cells cur e (0, 0))) (hbg : base ≤ g) (hcur : cur.size = c) (hxc : xs.length ≤ c) (hcm : c ≤ 9223372036854775807) (HB : Below base w0 W)
    (h : ∀ w1 v, v = .slice (some ⟨g, 0, none⟩) xs.length c → Kd.R (Kd.int k) e w1 base (fun _ => True) v xs → Below base w0 w1 → wpList P ops Q rest (a.put o.dst (goInt xs.length)) w1) :
    wpList P ops Q (o :: rest) a W := by
  have hsz : (P.info? e).map (·.size) = some 1 := by
    obtain ⟨i0, hi, hzz⟩ := Option.map_eq_some_iff.1 hinfo
    simp only [Prod.mk.injEq] at hzz
    simp [hi, hzz.2.1]
  have hl : (nums k xs).length = xs.length := nums_length k xs
  have key := wpList_copy_splice (P := P) (w := W) (ops := ops) (rest := rest) (o := o) (a := a) (Q := Q) hgd x y t t ho e ht hsz (some ⟨g, 0, none⟩) A xs.length c xs.length c' hx hy g 0 cur.toList e
    (by simpa using hg) (nums k xs) (by rw [hl]; simp) (fun hp => ⟨rfl, numsK_get hr (by rw [hl] at hp; exact hp)⟩)
    (by rw [hl]; simp; omega) (by intro v hv; obtain ⟨z, _, rfl⟩ := List.mem_map.1 hv; rfl) base w0 HB hbg
  refine key ?_
  intro w1 hh hb
  rw [hl]
  refine h w1 _ rfl ?_ hb
  have hsp : (splice cur.toList 0 (nums k xs)) = nums k xs ++ cur.toList.drop xs.length := by simp [splice, hl]
  have hh' : w1.heap[g]? = some (.cells (nums k xs ++ cur.toList.drop xs.length).toArray e (0, 0)) := by rw [← hsp]; exact hh
  refine Kd.R_of_own (enc := Value.int k) (h1 := fun _ => rfl) ⟨by rw [encs_length, Nat.mul_one], .inr ⟨g, c, _, rfl, hbg, hh', hxc, by simpa [maxLen] using hcm, ?_, ?_⟩⟩ (fun _ _ => trivial)
  · simp [hl]; omega
  · rw [Nat.mul_one, List.take_left' (by rw [hl])]; rfl

/-- []byte(s): a row that is read; its block is a new one. -/
theorem V_bytes {w0 W : World} (base e : Nat) (hgd : o.guard = none) {N : Tmp} (_hd : o.dst = some N) (src dst : TypeId) (x : Operand) (ho : o.op = .convert src dst x) (s : ByteArray) (hx : a.eval x = .string s) {u : TypeDesc}
    (hs : P.underlying src = some u) (hd : P.underlying dst = some (.slice e)) (he : P.underlying e = some (.int .u8)) (hm : s.size ≤ 9223372036854775807) {ok : Nat → Prop} (hok : ∀ k, W.heap.size ≤ k → ok k)
    (HB : Below base w0 W) (hbase : base ≤ W.heap.size)
    (h : ∀ v1 w1, Kd.V (Kd.int .u8) e w1 base ok v1 (bytesOf s) → Below base w0 w1 → W.grownBy w1 none → (∃ b, v1.ownBlock = some b ∧ W.heap.size ≤ b) → wpList P ops Q rest (a.put o.dst v1) w1) : wpList P ops Q (o :: rest) a W := by
  refine Kd.event_run hgd (v := .slice (some ⟨W.heap.size, 0, none⟩) s.size (grownCap W s.size 0 e)) (w1 := Lib.bytesWorld W e s) (by simp [execOp, ho, hx, print_bytes src dst e hs hd he s W]) ?_
  have hl := bytesOf_length s
  have hold : ∀ k, k < W.heap.size → (Lib.bytesWorld W e s).heap[k]? = W.heap[k]? := fun k hk => Lib.bytesWorld_at_old W e s k hk
  refine h _ _ ⟨some ⟨W.heap.size, 0, none⟩, grownCap W s.size 0 e, by rw [hl], by rw [hl]; exact grownCap_ge W s.size 0 e, ?_⟩ (bytes_below HB hbase e s) ⟨rfl, rfl, rfl, by rw [Lib.bytesWorld_size]; omega, fun k hk _ => hold k hk⟩ ⟨W.heap.size, rfl, Nat.le_refl _⟩
  intro W' hW
  have hr := bytes_reads W e s hm
  have hb : W'.heap[W.heap.size]? = (Lib.bytesWorld W e s).heap[W.heap.size]? := hW _ (hok _ (Nat.le_refl _)) (by rw [Lib.bytesWorld_size]; omega)
  refine Kd.C_of_reads (enc := Value.int .u8) (d := 0) (h1 := fun _ => rfl) ⟨rfl, by rw [hl]; exact hm, fun hp => ?_⟩
  obtain ⟨ad, e1, hc⟩ := hr.2.2 (by rw [hl] at hp; exact hp)
  refine ⟨ad, e1, fun j hj => ?_⟩
  obtain rfl := Option.some.inj e1
  have hc2 := hc j (by rw [hl] at hj; exact hj)
  rw [← hc2, add_plain]
  exact World.cell?_of_block hb
theorem wrap_u64_ (n : Int) : IntKind.u64.wrap n = n % 18446744073709551616 := by simp [IntKind.wrap, IntKind.bits, IntKind.signed]
theorem heap_three (w : World) (A B C : Obj) : (((w.alloc A).alloc B).alloc C).heap[w.heap.size + 1]? = some B ∧ (((w.alloc A).alloc B).alloc C).heap[w.heap.size + 1 + 1]? = some C := by
  constructor <;> simp [World.alloc, -World.alloc_eq, Array.getElem_push]
/-- x[l:], x an array in memory. -/
theorem slice_array (t e : TypeId) (n : Nat) (ht : P.underlying t = some (.array n e)) (hl : P.arrayLen t = n) (he : P.elem t = e) (hs : ∀ W, (sizeOf e).run P W = .ok 1 W) (g m : Nat) (l : Int) (hlm : l = m) (hm : m < n) :
    ∀ W, (Instr.sliceAt t (.pointer (some ⟨g, 0, none⟩)) (some (.int .i64 l)) none none).run P W = .ok (.slice (some ⟨g, m, none⟩) (n - m) (n - m)) W := by
  intro W
  subst hlm
  rw [run_sliceAt_array_l W t ⟨g, 0, none⟩ (by rw [hl, he]; exact ht) .i64 (m : Int) (by omega) (by rw [hl]; omega), he, hs W, hl]
  simp only [Result.andThen, slicedAt, Int.toNat_natCast]
  rw [if_neg (by omega), Nat.mul_one, add_plain]
/-- a block of whole numbers, read from a place on. -/
theorem C_of_block {W : World} {g j : Nat} {k : IntKind} {xs : List Int} {t : TypeId} (h : W.heap[g]? = some (.cells (nums k xs).toArray t (0, 0))) (hm : xs.length ≤ 9223372036854775807) :
    Kd.C (Kd.int k) W (some ⟨g, j, none⟩) (xs.drop j).length (xs.drop j) := by
  refine Kd.C_of_reads (enc := Value.int k) (d := 0) (h1 := fun _ => rfl) ⟨rfl, by rw [List.length_drop]; omega, fun _ => ⟨_, rfl, fun i hi => ?_⟩⟩
  rw [List.length_drop] at hi
  have hij : j + i < xs.length := by omega
  rw [add_at, blk_cell h]
  simp [nums, List.getElem?_eq_getElem hij, List.getD_eq_getElem?_getD]
/-- a store into such a block. -/
theorem set_block {W : World} {g j : Nat} {k : IntKind} {xs : List Int} {t : TypeId} (h : W.heap[g]? = some (.cells (nums k xs).toArray t (0, 0))) (x : Int) :
    (W.setCell ⟨g, j, none⟩ (.int k x)).heap[g]? = some (.cells (nums k (xs.set j x)).toArray t (0, 0)) := by
  rw [blk_set h]
  simp [nums, List.map_set]
end
end Go.Proofs.YtbjfhchlngiboaaW.HandWords
