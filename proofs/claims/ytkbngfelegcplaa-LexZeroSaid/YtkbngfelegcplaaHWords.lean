/- Helper laws of this session, over any program: make with a capacity of its own; copy into what was made. No program in sight. -/
import Derived.Test.YtkbngfelegcplaaWMore
import Derived.Laws.CopyOwn
import Derived.Laws.RangeAny
import Derived.StillTailTactics
import Derived.Deep.RegionLaw
namespace Go.Proofs.YtkbngfelegcplaaW.HandWords
open Go.RowKit Go.Proofs.YtkbngfelegcplaaW.PrintWords Go.Proofs.YtkbngfelegcplaaW.PrintLast Go.Proofs.YtkbngfelegcplaaW.PrintMore
section
variable {P : Program} {ops : Array Oper} {rest : List Oper} {o : Oper} {a : Act} {Q : Exit → Act → World → Prop}

/-- make([]T, n, c), T a kind of whole numbers: a new block of c zeros. -/
theorem hand_make {w0 W : World} (base : Nat) (hgd : o.guard = none) (x y : Operand) (t e : TypeId) (k : IntKind) (bytes : Nat) (ho : o.op = .makeSlice t x y) (N C : Int) (n c : Nat)
    (hx : a.eval x = .int .i64 N) (hy : a.eval y = .int .i64 C) (hN : N = n) (hC : C = c)
    (ht : P.underlying t = some (.slice e)) (hinfo : (P.info? e).map (fun i => (i.zero, i.size, i.bytes)) = some (some (.int k 0), 1, bytes)) (hb0 : 0 < bytes)
    (hnc : n ≤ c) (hc : bytes * c ≤ 281474976710656) (HB : Below base w0 W) (hbase : base ≤ W.heap.size)
    (h : ∀ g w1 cur, base ≤ g → g < w1.heap.size → w1.heap[g]? = some (.cells cur e (0, 0)) → cur.size = c → Below base w0 w1 → wpList P ops Q rest (a.put o.dst (.slice (some ⟨g, 0, none⟩) n c)) w1) :
    wpList P ops Q (o :: rest) a W := by
  subst hN hC
  obtain ⟨i0, hi, hzz⟩ := Option.map_eq_some_iff.1 hinfo
  simp only [Prod.mk.injEq] at hzz
  obtain ⟨hz0, hz1, hz2⟩ := hzz
  have hc' : c ≤ 281474976710656 := Nat.le_trans (Nat.le_mul_of_pos_left _ hb0) hc
  have hb1 : (i0.bytes : Int) * (c : Int) ≤ 281474976710656 := by
    rw [hz2]
    have h3 : ((bytes * c : Nat) : Int) ≤ 281474976710656 := by omega
    rwa [Int.natCast_mul] at h3
  have hr := run_make (P := P) W t e i0 (.int k 0) ht hi hz0 .i64 .i64 (n : Int) (c : Int) (by omega) (by omega) hb1 (by omega)
  simp only [Int.toNat_natCast] at hr
  refine Kd.event_run hgd (v := .slice (some ⟨W.heap.size, 0, none⟩) n c) (w1 := W.alloc (.cells (madeCells (Value.int k 0).cells (c * i0.size)) e)) (by simp [execOp, ho, hx, hy, hr]) ?_
  refine h W.heap.size _ _ hbase (by simp) (heap_alloc_new W _) (by simp [size_madeCells, hz1]) (HB.alloc hbase _)

theorem numsK_get {k : IntKind} {w : World} {A : Option Addr} {xs : List Int} (hr : Kd.C (Kd.int k) w A xs.length xs) (hp : 0 < xs.length) :
    ∃ ad, A = some ad ∧ ∀ j v, (nums k xs)[j]? = some v → w.cell? (ad.add j) = some v := by
  have h := Kd.reads_of_C (enc := Value.int k) (d := 0) (h1 := fun _ => rfl) hr
  obtain ⟨ad, e, hc⟩ := h.2.2 hp
  refine ⟨ad, e, fun j v hj => ?_⟩
  obtain ⟨hl, hv⟩ := List.getElem?_eq_some_iff.1 hj
  have hl' : j < xs.length := by simpa [nums] using hl
  rw [hc j hl', ← hv]
  simp [nums, List.getD_eq_getElem?_getD, List.getElem?_eq_getElem hl']

/-- copy(out, xs), out just made with xs' length: out is xs. -/
theorem hand_copy {w0 W : World} (base : Nat) (hgd : o.guard = none) (x y : Operand) (t e : TypeId) (k : IntKind) (bytes : Nat) (ho : o.op = .call { callee := .builtin .copy, args := #[x, y], argTypes := #[t, t] })
    (ht : P.underlying t = some (.slice e)) (hinfo : (P.info? e).map (fun i => (i.zero, i.size, i.bytes)) = some (some (.int k 0), 1, bytes))
    (g c c' : Nat) (A : Option Addr) (xs : List Int) (cur : Array Value) (hx : a.eval x = .slice (some ⟨g, 0, none⟩) xs.length c) (hy : a.eval y = .slice A xs.length c') (hr : Kd.C (Kd.int k) W A xs.length xs)
    (hg : W.heap[g]? = some (.cells cur e (0, 0))) (hbg : base ≤ g) (hcur : cur.size = c) (hxc : xs.length ≤ c) (hcm : c ≤ 9223372036854775807) (HB : Below base w0 W)
    (h : ∀ w1 v, v = .slice (some ⟨g, 0, none⟩) xs.length c → Kd.R (Kd.int k) e w1 base (fun _ => True) v xs → Below base w0 w1 → wpList P ops Q rest (a.put o.dst (goInt xs.length)) w1) :
    wpList P ops Q (o :: rest) a W := by
  have hsz : (P.info? e).map (·.size) = some 1 := by
    obtain ⟨i0, hi, hzz⟩ := Option.map_eq_some_iff.1 hinfo
    simp only [Prod.mk.injEq] at hzz
    simp [hi, hzz.2.1]
  have hl : (nums k xs).length = xs.length := nums_length k xs
  have key := wpList_copy_splice (P := P) (w := W) (ops := ops) (rest := rest) (o := o) (a := a) (Q := Q) hgd x y t t ho e ht hsz (some ⟨g, 0, none⟩) A xs.length c xs.length c' hx hy g 0 cur.toList e
    (by simpa using hg) (nums k xs) (by rw [hl]; simp) (fun hp => ⟨rfl, numsK_get hr (by rw [hl] at hp; exact hp)⟩)
    (by rw [hl]; simp; omega) (by intro v hv; obtain ⟨z, _, rfl⟩ := List.mem_map.1 hv; rfl) base w0 HB hbg
  refine key ?_
  intro w1 hh hb
  rw [hl]
  refine h w1 _ rfl ?_ hb
  have hsp : (splice cur.toList 0 (nums k xs)) = nums k xs ++ cur.toList.drop xs.length := by simp [splice, hl]
  have hh' : w1.heap[g]? = some (.cells (nums k xs ++ cur.toList.drop xs.length).toArray e (0, 0)) := by rw [← hsp]; exact hh
  refine Kd.R_of_own (enc := Value.int k) (h1 := fun _ => rfl) ⟨by rw [encs_length, Nat.mul_one], .inr ⟨g, c, _, rfl, hbg, hh', hxc, by simpa [maxLen] using hcm, ?_, ?_⟩⟩ (fun _ _ => trivial)
  · simp [hl]; omega
  · rw [Nat.mul_one, List.take_left' (by rw [hl])]; rfl

/-- []byte(s): a row that is read; its block is a new one. -/
theorem V_bytes {w0 W : World} (base e : Nat) (hgd : o.guard = none) {N : Tmp} (_hd : o.dst = some N) (src dst : TypeId) (x : Operand) (ho : o.op = .convert src dst x) (s : ByteArray) (hx : a.eval x = .string s) {u : TypeDesc}
    (hs : P.underlying src = some u) (hd : P.underlying dst = some (.slice e)) (he : P.underlying e = some (.int .u8)) (hm : s.size ≤ 9223372036854775807) {ok : Nat → Prop} (hok : ∀ k, W.heap.size ≤ k → ok k)
    (HB : Below base w0 W) (hbase : base ≤ W.heap.size)
    (h : ∀ v1 w1, Kd.V (Kd.int .u8) e w1 base ok v1 (bytesOf s) → Below base w0 w1 → W.grownBy w1 none → (∃ b, v1.ownBlock = some b ∧ W.heap.size ≤ b) → wpList P ops Q rest (a.put o.dst v1) w1) : wpList P ops Q (o :: rest) a W := by
  refine Kd.event_run hgd (v := .slice (some ⟨W.heap.size, 0, none⟩) s.size (grownCap W s.size 0 e)) (w1 := Lib.bytesWorld W e s) (by simp [execOp, ho, hx, print_bytes src dst e hs hd he s W]) ?_
  have hl := bytesOf_length s
  have hold : ∀ k, k < W.heap.size → (Lib.bytesWorld W e s).heap[k]? = W.heap[k]? := fun k hk => Lib.bytesWorld_at_old W e s k hk
  refine h _ _ ⟨some ⟨W.heap.size, 0, none⟩, grownCap W s.size 0 e, by rw [hl], by rw [hl]; exact grownCap_ge W s.size 0 e, ?_⟩ (bytes_below HB hbase e s) ⟨rfl, rfl, rfl, by rw [Lib.bytesWorld_size]; omega, fun k hk _ => hold k hk⟩ ⟨W.heap.size, rfl, Nat.le_refl _⟩
  intro W' hW
  have hr := bytes_reads W e s hm
  have hb : W'.heap[W.heap.size]? = (Lib.bytesWorld W e s).heap[W.heap.size]? := hW _ (hok _ (Nat.le_refl _)) (by rw [Lib.bytesWorld_size]; omega)
  refine Kd.C_of_reads (enc := Value.int .u8) (d := 0) (h1 := fun _ => rfl) ⟨rfl, by rw [hl]; exact hm, fun hp => ?_⟩
  obtain ⟨ad, e1, hc⟩ := hr.2.2 (by rw [hl] at hp; exact hp)
  refine ⟨ad, e1, fun j hj => ?_⟩
  obtain rfl := Option.some.inj e1
  have hc2 := hc j (by rw [hl] at hj; exact hj)
  rw [← hc2, add_plain]
  exact World.cell?_of_block hb
theorem wrap_u64_ (n : Int) : IntKind.u64.wrap n = n % 18446744073709551616 := by simp [IntKind.wrap, IntKind.bits, IntKind.signed]
theorem heap_three (w : World) (A B C : Obj) : (((w.alloc A).alloc B).alloc C).heap[w.heap.size + 1]? = some B ∧ (((w.alloc A).alloc B).alloc C).heap[w.heap.size + 1 + 1]? = some C := by
  constructor <;> simp [World.alloc, -World.alloc_eq, Array.getElem_push]
/-- x[l:], x an array in memory. -/
theorem slice_array (t e : TypeId) (n : Nat) (ht : P.underlying t = some (.array n e)) (hl : P.arrayLen t = n) (he : P.elem t = e) (hs : ∀ W, (sizeOf e).run P W = .ok 1 W) (g m : Nat) (l : Int) (hlm : l = m) (hm : m < n) :
    ∀ W, (Instr.sliceAt t (.pointer (some ⟨g, 0, none⟩)) (some (.int .i64 l)) none none).run P W = .ok (.slice (some ⟨g, m, none⟩) (n - m) (n - m)) W := by
  intro W
  subst hlm
  rw [run_sliceAt_array_l W t ⟨g, 0, none⟩ (by rw [hl, he]; exact ht) .i64 (m : Int) (by omega) (by rw [hl]; omega), he, hs W, hl]
  simp only [Result.andThen, slicedAt, Int.toNat_natCast]
  rw [if_neg (by omega), Nat.mul_one, add_plain]
/-- a block of whole numbers, read from a place on. -/
theorem C_of_block {W : World} {g j : Nat} {k : IntKind} {xs : List Int} {t : TypeId} (h : W.heap[g]? = some (.cells (nums k xs).toArray t (0, 0))) (hm : xs.length ≤ 9223372036854775807) :
    Kd.C (Kd.int k) W (some ⟨g, j, none⟩) (xs.drop j).length (xs.drop j) := by
  refine Kd.C_of_reads (enc := Value.int k) (d := 0) (h1 := fun _ => rfl) ⟨rfl, by rw [List.length_drop]; omega, fun _ => ⟨_, rfl, fun i hi => ?_⟩⟩
  rw [List.length_drop] at hi
  have hij : j + i < xs.length := by omega
  rw [add_at, blk_cell h]
  simp [nums, List.getElem?_eq_getElem hij, List.getD_eq_getElem?_getD]
/-- a store into such a block. -/
theorem set_block {W : World} {g j : Nat} {k : IntKind} {xs : List Int} {t : TypeId} (h : W.heap[g]? = some (.cells (nums k xs).toArray t (0, 0))) (x : Int) :
    (W.setCell ⟨g, j, none⟩ (.int k x)).heap[g]? = some (.cells (nums k (xs.set j x)).toArray t (0, 0)) := by
  rw [blk_set h]
  simp [nums, List.map_set]
/-- Bytes in a block of the call's own that a conversion has marked: the first places hold xs and may be written. -/
def Row8 (W : World) (g : Nat) (e : TypeId) (xs : List Int) : Prop :=
  ∃ (C : Array Value) (a b : Nat), W.heap[g]? = some (.cells C e (a, b)) ∧ xs.length ≤ a ∧ xs.length ≤ C.size ∧ ∀ j, j < xs.length → C[j]? = some (.int .u8 (rd xs (j : Int)))
theorem Row8.cell {W : World} {g : Nat} {e : TypeId} {xs : List Int} (h : Row8 W g e xs) {j : Nat} (hj : j < xs.length) : W.cell? ⟨g, j, none⟩ = some (.int .u8 (rd xs (j : Int))) := by
  obtain ⟨C, a, b, h1, h2, h3, h4⟩ := h
  rw [← h4 j hj]
  simp [World.cell?, h1]
theorem Row8.free {W : World} {g : Nat} {e : TypeId} {xs : List Int} (h : Row8 W g e xs) {j : Nat} (hj : j < xs.length) : W.frozen? ⟨g, j, none⟩ = false := by
  obtain ⟨C, a, b, h1, h2, h3, h4⟩ := h
  simp [World.frozen?, h1]
  omega
theorem Row8.drew {W : World} {g : Nat} {e : TypeId} {xs : List Int} (h : Row8 W g e xs) : Row8 W.drew g e xs := h
theorem Row8.drewN {W : World} {g : Nat} {e : TypeId} {xs : List Int} (h : Row8 W g e xs) (n : Nat) : Row8 (W.drewN n) g e xs := h
theorem rd_set (xs : List Int) (i j : Nat) (x : Int) (hj : j < xs.length) : rd (xs.set i x) (j : Int) = if i = j then x else rd xs (j : Int) := by
  unfold rd
  rw [Int.toNat_natCast, List.getD_eq_getElem?_getD, List.getD_eq_getElem?_getD, List.getElem?_set]
  split
  · rename_i e; subst e; simp [hj]
  · rfl
theorem Row8.set {W : World} {g : Nat} {e : TypeId} {xs : List Int} (h : Row8 W g e xs) (j : Nat) (x : Int) : Row8 (W.setCell ⟨g, j, none⟩ (.int .u8 x)) g e (xs.set j x) := by
  obtain ⟨C, a, b, h1, h2, h3, h4⟩ := h
  have hlt : g < W.heap.size := (Array.getElem?_eq_some_iff.1 h1).1
  refine ⟨C.setIfInBounds j (.int .u8 x), a, b, ?_, by simpa using h2, by simpa using h3, ?_⟩
  · have h5 : W.heap[g] = .cells C e (a, b) := (Array.getElem?_eq_some_iff.1 h1).2
    simp [World.setCell, hlt]
    rw [Array.getElem_modify_self, h5]
  · intro i hi
    rw [List.length_set] at hi
    rw [rd_set xs j i x hi, Array.getElem?_setIfInBounds]
    by_cases c : j = i
    · subst c; simp; omega
    · rw [if_neg c, if_neg c, h4 i hi]
theorem Row8.C {W : World} {g : Nat} {e : TypeId} {xs : List Int} (h : Row8 W g e xs) (hm : xs.length ≤ 9223372036854775807) : Kd.C (Kd.int .u8) W (some ⟨g, 0, none⟩) xs.length xs := by
  refine Kd.C_of_reads (enc := Value.int .u8) (d := 0) (h1 := fun _ => rfl) ⟨rfl, hm, fun _ => ⟨_, rfl, fun i hi => ?_⟩⟩
  rw [add_plain, h.cell hi]
  rfl
/-- []byte(s), for what writes it. -/
theorem hand_bytes {w0 W : World} (base e : Nat) (hgd : o.guard = none) {N : Tmp} (_hd : o.dst = some N) (src dst : TypeId) (x : Operand) (ho : o.op = .convert src dst x) (s : ByteArray) (hx : a.eval x = .string s) {u : TypeDesc}
    (hs : P.underlying src = some u) (hd : P.underlying dst = some (.slice e)) (he : P.underlying e = some (.int .u8)) (HB : Below base w0 W) (hbase : base ≤ W.heap.size)
    (h : ∀ g c w1, base ≤ g → g < w1.heap.size → (bytesOf s).length ≤ c → Row8 w1 g e (bytesOf s) → Below base w0 w1 → wpList P ops Q rest (a.put o.dst (.slice (some ⟨g, 0, none⟩) (bytesOf s).length c)) w1) : wpList P ops Q (o :: rest) a W := by
  refine Kd.event_run hgd (v := .slice (some ⟨W.heap.size, 0, none⟩) s.size (grownCap W s.size 0 e)) (w1 := Lib.bytesWorld W e s) (by simp [execOp, ho, hx, print_bytes src dst e hs hd he s W]) ?_
  have hl := bytesOf_length s
  have key := h W.heap.size (grownCap W s.size 0 e) (Lib.bytesWorld W e s) hbase (by rw [Lib.bytesWorld_size]; omega) (by rw [hl]; exact grownCap_ge W s.size 0 e) ?_ (bytes_below HB hbase e s)
  · rw [hl] at key; exact key
  · refine ⟨_, _, _, Lib.bytesWorld_at_new W e s, ?_, ?_, ?_⟩
    · simp [Lib.bytesCells, hl]
    · simp [Lib.bytesCells, hl]
    · intro j hj
      rw [hl] at hj
      have hc := Lib.bytesWorld_cell W e s j hj
      have hn := Lib.bytesWorld_at_new W e s
      simp only [World.cell?, hn] at hc
      have hc' : (Lib.bytesCells W e s)[j]? = some (.int .u8 (s.data.toList.getD j 0).toNat) := by simpa using hc
      rw [hc']
      have h' : j < s.data.toList.length := by rw [data_length]; exact hj
      simp [bytesOf, rd, List.getD_eq_getElem?_getD, List.getElem?_eq_getElem h']
/-- string(b), b a row of the call's own, at each world that a draw may leave. -/
theorem own_string_drewN {P : Program} {w : World} {base n : Nat} {e' src dst e : TypeId} {v : Value} {xs : List Int} (hs : P.underlying src = some (.slice e)) (he : P.underlying e = some (.int .u8)) (hd : P.underlying dst = some .string) (h : w.ownsRow base e' 1 v n (nums .u8 xs)) : ∀ m : Nat, (convert src dst v).run P (w.drewN m) = .ok (.string (strOfNums xs)) (w.drewN m) := fun m => own_string hs he hd (w := w.drewN m) h
/-- []byte(s), with its place: the block is the newest one. -/
theorem hand_bytes2 {w0 W : World} (base e : Nat) (hgd : o.guard = none) {N : Tmp} (_hd : o.dst = some N) (src dst : TypeId) (x : Operand) (ho : o.op = .convert src dst x) (s : ByteArray) (hx : a.eval x = .string s) {u : TypeDesc}
    (hs : P.underlying src = some u) (hd : P.underlying dst = some (.slice e)) (he : P.underlying e = some (.int .u8)) (HB : Below base w0 W) (hbase : base ≤ W.heap.size)
    (h : ∀ g c w1, g = W.heap.size → g < w1.heap.size → (bytesOf s).length ≤ c → Row8 w1 g e (bytesOf s) → Below base w0 w1 → W.grownBy w1 none → wpList P ops Q rest (a.put o.dst (.slice (some ⟨g, 0, none⟩) (bytesOf s).length c)) w1) : wpList P ops Q (o :: rest) a W := by
  refine Kd.event_run hgd (v := .slice (some ⟨W.heap.size, 0, none⟩) s.size (grownCap W s.size 0 e)) (w1 := Lib.bytesWorld W e s) (by simp [execOp, ho, hx, print_bytes src dst e hs hd he s W]) ?_
  have hl := bytesOf_length s
  have hold : ∀ k, k < W.heap.size → (Lib.bytesWorld W e s).heap[k]? = W.heap[k]? := fun k hk => Lib.bytesWorld_at_old W e s k hk
  have key := h W.heap.size (grownCap W s.size 0 e) (Lib.bytesWorld W e s) rfl (by rw [Lib.bytesWorld_size]; omega) (by rw [hl]; exact grownCap_ge W s.size 0 e) ?_ (bytes_below HB hbase e s) ⟨rfl, rfl, rfl, by rw [Lib.bytesWorld_size]; omega, fun k hk _ => hold k hk⟩
  · rw [hl] at key; exact key
  · refine ⟨_, _, _, Lib.bytesWorld_at_new W e s, ?_, ?_, ?_⟩
    · simp [Lib.bytesCells, hl]
    · simp [Lib.bytesCells, hl]
    · intro j hj
      rw [hl] at hj
      have hc := Lib.bytesWorld_cell W e s j hj
      have hn := Lib.bytesWorld_at_new W e s
      simp only [World.cell?, hn] at hc
      have hc' : (Lib.bytesCells W e s)[j]? = some (.int .u8 (s.data.toList.getD j 0).toNat) := by simpa using hc
      rw [hc']
      have h' : j < s.data.toList.length := by rw [data_length]; exact hj
      simp [bytesOf, rd, List.getD_eq_getElem?_getD, List.getElem?_eq_getElem h']
theorem Row8.grown {W w1 : World} {g : Nat} {e : TypeId} {xs : List Int} {row : Option Nat} (h : Row8 W g e xs) (hg : W.grownBy w1 row) (hne : some g ≠ row) : Row8 w1 g e xs := by
  obtain ⟨C, a, b, h1, h2⟩ := h
  exact ⟨C, a, b, blk_grown h1 hg hne, h2⟩
/-- a block of whole numbers of the call's own, as a row. -/
theorem R_block {W : World} {g : Nat} {k : IntKind} {xs : List Int} {e : TypeId} {base : Nat} {ok : Nat → Prop} (h : W.heap[g]? = some (.cells (nums k xs).toArray e (0, 0))) (hb : base ≤ g) (hm : xs.length ≤ 9223372036854775807) (hok : ok g) :
    Kd.R (Kd.int k) e W base ok (.slice (some ⟨g, 0, none⟩) xs.length xs.length) xs := by
  have hl : (nums k xs).length = xs.length := nums_length k xs
  refine Kd.R_of_own (enc := Value.int k) (h1 := fun _ => rfl) ⟨by rw [encs_length, Nat.mul_one], .inr ⟨g, xs.length, _, rfl, hb, h, Nat.le_refl _, by simpa [maxLen] using hm, ?_, ?_⟩⟩ (fun k hk => by injection hk with hk; subst hk; exact hok)
  · simp [hl]
  · rw [Nat.mul_one, List.take_of_length_le (by simp [hl])]; rfl
/-- append(out, literals ..): the literals lie in the newest block. -/
theorem hand_append_lit {w0 W : World} (base : Nat) (hgd : o.guard = none) (s x : Operand) (t e : TypeId)
    (ho : o.op = .call { callee := .builtin .append, args := #[s, x], argTypes := #[t, t] })
    (ht : P.underlying t = some (.slice e)) (hinfo : (P.info? e).map (fun i => (i.zero, i.size, i.bytes)) = some (some (.int .u8 0), 1, 1))
    (v : Value) (xs ys : List Int) (C : Array Value) (hC : C = (nums .u8 ys).toArray) (m : Nat) (hm : m = ys.length) (ok : Nat → Prop) (hs : a.eval s = v) (hx : a.eval x = .slice (some ⟨W.heap.size, 0, none⟩) m m) (hfresh : ∀ k, W.heap.size ≤ k → ok k)
    (HO : Kd.R (Kd.int .u8) e W base ok v xs) (HB : Below base w0 W) (hbase : base ≤ W.heap.size) (hl : xs.length + ys.length ≤ 140737488355328)
    (h : ∀ v1 w1, Kd.R (Kd.int .u8) e w1 base ok v1 (xs ++ ys) → Below base w0 w1 → W.grownBy w1 v.ownBlock → wpList P ops Q rest (a.put o.dst v1) w1) :
    wpList P ops Q (o :: rest) a (W.alloc (.cells C e)) := by
  subst hC; subst hm
  have hn : (W.alloc (.cells (nums .u8 ys).toArray e)).heap[W.heap.size]? = some (.cells (nums .u8 ys).toArray e (0, 0)) := heap_alloc_new W _
  have hz : W.heap.size ≤ (W.alloc (.cells (nums .u8 ys).toArray e)).heap.size := by simp
  have hc := C_of_block (j := 0) hn (by omega)
  rw [List.drop_zero] at hc
  refine Kd.R_append_row (Value.int .u8) 0 (h1 := fun _ => rfl) (w0 := w0) base hgd s x t e (.int .u8 0) 1 ho ht hinfo rfl (by omega) v xs ys (some ⟨W.heap.size, 0, none⟩) ys.length ys.length ok hs hx (fun k hk => hfresh k (by omega)) (Kd.R_alloc HO _) hc (HB.alloc hbase _) (by omega) (by omega) ?_
  intro v1 w1 hr hb hg _
  refine h v1 w1 hr hb ?_
  have ha := World.grownBy_alloc W (.cells (nums .u8 ys).toArray e) v.ownBlock
  exact ⟨hg.os.trans ha.os, hg.tape.trans ha.tape, hg.output.trans ha.output, Nat.le_trans ha.size hg.size, fun k hk hr => (hg.block k (Nat.lt_of_lt_of_le hk ha.size) hr).trans (ha.block k hk hr)⟩
/-- append(out, literals ..), as a step of a region that draws. -/
theorem hand_append_lit_step {Kc : Act → World → Prop} {w0 W : World} (base : Nat) (hw : Region.wanted o (yielded ops a.tmps) = true) (s x : Operand) (t e : TypeId)
    (ho : o.op = .call { callee := .builtin .append, args := #[s, x], argTypes := #[t, t] })
    (ht : P.underlying t = some (.slice e)) (hinfo : (P.info? e).map (fun i => (i.zero, i.size, i.bytes)) = some (some (.int .u8 0), 1, 1))
    (v : Value) (xs ys : List Int) (C : Array Value) (hC : C = (nums .u8 ys).toArray) (m : Nat) (hm : m = ys.length) (ok : Nat → Prop) (hs : a.eval s = v) (hx : a.eval x = .slice (some ⟨W.heap.size, 0, none⟩) m m) (hfresh : ∀ k, W.heap.size ≤ k → ok k)
    (HO : Kd.R (Kd.int .u8) e W base ok v xs) (HB : Below base w0 W) (hbase : base ≤ W.heap.size) (hl : xs.length + ys.length ≤ 140737488355328)
    (h : ∀ v1 w1, Kd.R (Kd.int .u8) e w1 base ok v1 (xs ++ ys) → Below base w0 w1 → W.grownBy w1 v.ownBlock → Kc (a.put o.dst v1) w1) :
    if Region.wanted o (yielded ops a.tmps) = true then Oper.wp P o a (W.alloc (.cells C e)) Kc Q else Kc (a.put o.dst undef) (W.alloc (.cells C e)) := by
  subst hC; subst hm
  have hn : (W.alloc (.cells (nums .u8 ys).toArray e)).heap[W.heap.size]? = some (.cells (nums .u8 ys).toArray e (0, 0)) := heap_alloc_new W _
  have hz : W.heap.size ≤ (W.alloc (.cells (nums .u8 ys).toArray e)).heap.size := by simp
  have hc := C_of_block (j := 0) hn (by omega)
  rw [List.drop_zero] at hc
  refine Kd.R_append_rows_step (Kd.int .u8) (w0 := w0) base hw s x t e (.int .u8 0) 1 ho ht hinfo rfl (by decide) (by omega) v xs ys (some ⟨W.heap.size, 0, none⟩) ys.length ys.length ok (fun _ => False) hs hx (Kd.R_alloc HO _) hc (fun _ _ h => h) (fun _ h => h.elim) (fun k hk => hfresh k (by omega)) (HB.alloc hbase _) (by omega) (by omega) ?_
  intro v1 w1 hr hb hg _
  refine h v1 w1 hr hb ?_
  have ha := World.grownBy_alloc W (.cells (nums .u8 ys).toArray e) v.ownBlock
  exact ⟨hg.os.trans ha.os, hg.tape.trans ha.tape, hg.output.trans ha.output, Nat.le_trans ha.size hg.size, fun k hk hr => (hg.block k (Nat.lt_of_lt_of_le hk ha.size) hr).trans (ha.block k hk hr)⟩
/-! ### A to Z as a to z -/
def fold1 (c : Int) : Int := if 65 ≤ c ∧ c ≤ 90 then c + 32 else c
def foldTo (xs : List Int) (k : Nat) : List Int := (xs.take k).map fold1 ++ xs.drop k
theorem foldTo_len (xs : List Int) (k : Nat) : (foldTo xs k).length = xs.length := by
  unfold foldTo; simp; omega
theorem foldTo_zero (xs : List Int) : foldTo xs 0 = xs := by simp [foldTo]
theorem foldTo_all (xs : List Int) (k : Nat) (h : xs.length ≤ k) : foldTo xs k = xs.map fold1 := by
  simp [foldTo, List.take_of_length_le h, List.drop_eq_nil_of_le h]
theorem foldTo_rd (xs : List Int) (k : Nat) (h : k < xs.length) : rd (foldTo xs k) (k : Int) = rd xs (k : Int) := by
  unfold foldTo rd
  rw [Int.toNat_natCast, List.getD_eq_getElem?_getD, List.getD_eq_getElem?_getD, List.getElem?_append_right (by simp; omega)]
  simp [Nat.min_eq_left (Nat.le_of_lt h)]
theorem foldTo_next (xs : List Int) (k : Nat) (h : k < xs.length) : (foldTo xs k).set k (fold1 (rd xs (k : Int))) = foldTo xs (k + 1) := by
  have hr : rd xs (k : Int) = xs[k] := by
    unfold rd
    rw [Int.toNat_natCast, List.getD_eq_getElem?_getD, List.getElem?_eq_getElem h]; rfl
  unfold foldTo
  rw [hr, List.take_add_one, List.getElem?_eq_getElem h, List.drop_eq_getElem_cons h, List.set_append_right _ _ (by simp; omega)]
  rw [show k - (List.map fold1 (List.take k xs)).length = 0 from by rw [List.length_map, List.length_take]; omega, List.set_cons_zero, List.map_append, List.append_assoc]
  rfl
theorem foldTo_same (xs : List Int) (k : Nat) (h : k < xs.length) (hc : fold1 (rd xs (k : Int)) = rd xs (k : Int)) : foldTo xs k = foldTo xs (k + 1) := by
  rw [← foldTo_next xs k h, hc, ← foldTo_rd xs k h]
  refine List.ext_getElem? fun i => ?_
  rw [List.getElem?_set]
  split
  · rename_i e
    subst e
    have hl := foldTo_len xs k
    rw [if_pos (by omega), List.getElem?_eq_getElem (by omega)]
    unfold rd
    rw [Int.toNat_natCast, List.getD_eq_getElem?_getD, List.getElem?_eq_getElem (by omega)]; rfl
  · rfl

/-! ### a range over a text: one step -/
theorem hand_range {w0 W : World} (base : Nat) (hgd : o.guard = none) {N : Tmp} (_hd : o.dst = some N) (t : TypeId) (x : Operand) (ho : o.op = .range t x) (ht : P.underlying t = some .string) (s : ByteArray) (hx : a.eval x = .string s)
    (HB : Below base w0 W) (hbase : base ≤ W.heap.size)
    (h : ∀ g w1, base ≤ g → g < w1.heap.size → w1.heap[g]? = some (.stringIter s 0) → Below base w0 w1 → wpList P ops Q rest (a.put o.dst (.pointer (some ⟨g, 0, none⟩))) w1) : wpList P ops Q (o :: rest) a W := by
  refine Kd.event_run hgd (v := .pointer (some ⟨W.heap.size, 0, none⟩)) (w1 := W.iter s 0) (by simp [execOp, ho, hx, run_range_string W t s ht]) ?_
  exact h W.heap.size _ hbase (by simp [World.iter]) (World.iter_heap W s 0) (HB.alloc hbase _)
theorem iter_next (W : World) (g : Nat) (s : ByteArray) (pos pos' : Nat) (hg : W.heap[g]? = some (.stringIter s pos)) :
    ({ W with heap := W.heap.setIfInBounds g (.stringIter s pos') } : World).heap[g]? = some (.stringIter s pos') := by
  have hlt : g < W.heap.size := (Array.getElem?_eq_some_iff.1 hg).1
  show (W.heap.setIfInBounds g _)[g]? = _
  rw [Array.getElem?_setIfInBounds, if_pos rfl, if_pos hlt]
theorem hand_next {w0 W : World} (base : Nat) (hgd : o.guard = none) {N : Tmp} (_hd : o.dst = some N) (x : Operand) (ho : o.op = .next x true) (g : Nat) (hx : a.eval x = .pointer (some ⟨g, 0, none⟩)) (s : ByteArray) (pos : Nat)
    (hg : W.heap[g]? = some (.stringIter s pos)) (hp : pos < s.size) (hbg : base ≤ g) (HB : Below base w0 W)
    (h : ∀ w1, w1.heap[g]? = some (.stringIter s (pos + (Utf8.decode s pos).2)) → Below base w0 w1 → wpList P ops Q rest (a.put o.dst (.tuple #[.bool true, .int .i64 pos, .int .i32 (Utf8.decode s pos).1])) w1) : wpList P ops Q (o :: rest) a W := by
  have hrun : (Instr.next (.pointer (some ⟨g, 0, none⟩)) true o.type).run P W = .ok (.tuple #[.bool true, .int .i64 pos, .int .i32 (Utf8.decode s pos).1]) { W with heap := W.heap.setIfInBounds g (.stringIter s (pos + (Utf8.decode s pos).2)) } := by
    simp only [Instr.next, getObj, setObj, Sem.run_bind, Sem.run, hg, Result.andThen, hp, if_true]
    simp [goInt]
  refine Kd.event_run hgd (by simp [execOp, ho, hx, hrun]) (h _ (iter_next W g s pos _ hg) ?_)
  exact HB.trans ⟨rfl, rfl, rfl, by simp, fun k hk => by
    show (W.heap.setIfInBounds g _)[k]? = _
    rw [Array.getElem?_setIfInBounds, if_neg (by omega)]⟩
theorem hand_next_end {W : World} (hgd : o.guard = none) {N : Tmp} (_hd : o.dst = some N) (x : Operand) (ho : o.op = .next x true) (g : Nat) (hx : a.eval x = .pointer (some ⟨g, 0, none⟩)) (s : ByteArray) (pos : Nat)
    (hg : W.heap[g]? = some (.stringIter s pos)) (hp : ¬ pos < s.size)
    (h : wpList P ops Q rest (a.put o.dst (.tuple #[.bool false])) W) : wpList P ops Q (o :: rest) a W := by
  have hrun : (Instr.next (.pointer (some ⟨g, 0, none⟩)) true o.type).run P W = .ok (.tuple #[.bool false]) W := by
    simp [Instr.next, getObj, Sem.run, hg, hp]
  exact Kd.event_run hgd (by simp [execOp, ho, hx, hrun]) h
end
end Go.Proofs.YtkbngfelegcplaaW.HandWords
