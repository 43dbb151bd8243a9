/- Words for the walks: what this claim needs of the words that the kit's print laid for it. No condition. -/
/- Helper laws of this session, over any program: make with a capacity of its own; copy into what was made. No program in sight. -/
import Derived.Test.YtkbngfelegcplaaWMore
import Derived.Laws.CopyOwn
import Derived.Laws.RangeAny
import Derived.StillTailTactics
import Derived.Deep.RegionLaw
namespace Go.Proofs.YtkbngfelegcplaaW.HandWords
open Go.RowKit Go.Proofs.YtkbngfelegcplaaW.PrintWords Go.Proofs.YtkbngfelegcplaaW.PrintLast Go.Proofs.YtkbngfelegcplaaW.PrintMore
section
variable {P : Program} {ops : Array Oper} {rest : List Oper} {o : Oper} {a : Act} {Q : Exit → Act → World → Prop}

/-- []byte(s): a row that is read; its block is a new one. -/
theorem V_bytes {w0 W : World} (base e : Nat) (hgd : o.guard = none) {N : Tmp} (_hd : o.dst = some N) (src dst : TypeId) (x : Operand) (ho : o.op = .convert src dst x) (s : ByteArray) (hx : a.eval x = .string s) {u : TypeDesc}
    (hs : P.underlying src = some u) (hd : P.underlying dst = some (.slice e)) (he : P.underlying e = some (.int .u8)) (hm : s.size ≤ 9223372036854775807) {ok : Nat → Prop} (hok : ∀ k, W.heap.size ≤ k → ok k)
    (HB : Below base w0 W) (hbase : base ≤ W.heap.size)
    (h : ∀ v1 w1, Kd.V (Kd.int .u8) e w1 base ok v1 (bytesOf s) → Below base w0 w1 → W.grownBy w1 none → (∃ b, v1.ownBlock = some b ∧ W.heap.size ≤ b) → wpList P ops Q rest (a.put o.dst v1) w1) : wpList P ops Q (o :: rest) a W := by
  refine Kd.event_run hgd (v := .slice (some ⟨W.heap.size, 0, none⟩) s.size (grownCap W s.size 0 e)) (w1 := Lib.bytesWorld W e s) (by simp [execOp, ho, hx, print_bytes src dst e hs hd he s W]) ?_
  have hl := bytesOf_length s
  have hold : ∀ k, k < W.heap.size → (Lib.bytesWorld W e s).heap[k]? = W.heap[k]? := fun k hk => Lib.bytesWorld_at_old W e s k hk
  refine h _ _ ⟨some ⟨W.heap.size, 0, none⟩, grownCap W s.size 0 e, by rw [hl], by rw [hl]; exact grownCap_ge W s.size 0 e, ?_⟩ (bytes_below HB hbase e s) ⟨rfl, rfl, rfl, by rw [Lib.bytesWorld_size]; omega, fun k hk _ => hold k hk⟩ ⟨W.heap.size, rfl, Nat.le_refl _⟩
  intro W' hW
  have hr := bytes_reads W e s hm
  have hb : W'.heap[W.heap.size]? = (Lib.bytesWorld W e s).heap[W.heap.size]? := hW _ (hok _ (Nat.le_refl _)) (by rw [Lib.bytesWorld_size]; omega)
  refine Kd.C_of_reads (enc := Value.int .u8) (d := 0) (h1 := fun _ => rfl) ⟨rfl, by rw [hl]; exact hm, fun hp => ?_⟩
  obtain ⟨ad, e1, hc⟩ := hr.2.2 (by rw [hl] at hp; exact hp)
  refine ⟨ad, e1, fun j hj => ?_⟩
  obtain rfl := Option.some.inj e1
  have hc2 := hc j (by rw [hl] at hj; exact hj)
  rw [← hc2, add_plain]
  exact World.cell?_of_block hb
/-- Bytes in a block of the call's own that a conversion has marked: the first places hold xs and may be written. -/
def Row8 (W : World) (g : Nat) (e : TypeId) (xs : List Int) : Prop :=
  ∃ (C : Array Value) (a b : Nat), W.heap[g]? = some (.cells C e (a, b)) ∧ xs.length ≤ a ∧ xs.length ≤ C.size ∧ ∀ j, j < xs.length → C[j]? = some (.int .u8 (rd xs (j : Int)))
theorem Row8.cell {W : World} {g : Nat} {e : TypeId} {xs : List Int} (h : Row8 W g e xs) {j : Nat} (hj : j < xs.length) : W.cell? ⟨g, j, none⟩ = some (.int .u8 (rd xs (j : Int))) := by
  obtain ⟨C, a, b, h1, h2, h3, h4⟩ := h
  rw [← h4 j hj]
  simp [World.cell?, h1]
theorem Row8.drew {W : World} {g : Nat} {e : TypeId} {xs : List Int} (h : Row8 W g e xs) : Row8 W.drew g e xs := h
theorem Row8.drewN {W : World} {g : Nat} {e : TypeId} {xs : List Int} (h : Row8 W g e xs) (n : Nat) : Row8 (W.drewN n) g e xs := h
theorem rd_set (xs : List Int) (i j : Nat) (x : Int) (hj : j < xs.length) : rd (xs.set i x) (j : Int) = if i = j then x else rd xs (j : Int) := by
  unfold rd
  rw [Int.toNat_natCast, List.getD_eq_getElem?_getD, List.getD_eq_getElem?_getD, List.getElem?_set]
  split
  · rename_i e; subst e; simp [hj]
  · rfl
theorem Row8.set {W : World} {g : Nat} {e : TypeId} {xs : List Int} (h : Row8 W g e xs) (j : Nat) (x : Int) : Row8 (W.setCell ⟨g, j, none⟩ (.int .u8 x)) g e (xs.set j x) := by
  obtain ⟨C, a, b, h1, h2, h3, h4⟩ := h
  have hlt : g < W.heap.size := (Array.getElem?_eq_some_iff.1 h1).1
  refine ⟨C.setIfInBounds j (.int .u8 x), a, b, ?_, by simpa using h2, by simpa using h3, ?_⟩
  · have h5 : W.heap[g] = .cells C e (a, b) := (Array.getElem?_eq_some_iff.1 h1).2
    simp [World.setCell, hlt]
    rw [Array.getElem_modify_self, h5]
  · intro i hi
    rw [List.length_set] at hi
    rw [rd_set xs j i x hi, Array.getElem?_setIfInBounds]
    by_cases c : j = i
    · subst c; simp; omega
    · rw [if_neg c, if_neg c, h4 i hi]
theorem Row8.C {W : World} {g : Nat} {e : TypeId} {xs : List Int} (h : Row8 W g e xs) (hm : xs.length ≤ 9223372036854775807) : Kd.C (Kd.int .u8) W (some ⟨g, 0, none⟩) xs.length xs := by
  refine Kd.C_of_reads (enc := Value.int .u8) (d := 0) (h1 := fun _ => rfl) ⟨rfl, hm, fun _ => ⟨_, rfl, fun i hi => ?_⟩⟩
  rw [add_plain, h.cell hi]
  rfl
/-- string(b), b a row of the call's own, at each world that a draw may leave. -/
theorem own_string_drewN {P : Program} {w : World} {base n : Nat} {e' src dst e : TypeId} {v : Value} {xs : List Int} (hs : P.underlying src = some (.slice e)) (he : P.underlying e = some (.int .u8)) (hd : P.underlying dst = some .string) (h : w.ownsRow base e' 1 v n (nums .u8 xs)) : ∀ m : Nat, (convert src dst v).run P (w.drewN m) = .ok (.string (strOfNums xs)) (w.drewN m) := fun m => own_string hs he hd (w := w.drewN m) h
theorem Row8.grown {W w1 : World} {g : Nat} {e : TypeId} {xs : List Int} {row : Option Nat} (h : Row8 W g e xs) (hg : W.grownBy w1 row) (hne : some g ≠ row) : Row8 w1 g e xs := by
  obtain ⟨C, a, b, h1, h2⟩ := h
  exact ⟨C, a, b, blk_grown h1 hg hne, h2⟩
/-! ### A to Z as a to z -/
/-! ### a range over a text: one step -/
theorem hand_range {w0 W : World} (base : Nat) (hgd : o.guard = none) {N : Tmp} (_hd : o.dst = some N) (t : TypeId) (x : Operand) (ho : o.op = .range t x) (ht : P.underlying t = some .string) (s : ByteArray) (hx : a.eval x = .string s)
    (HB : Below base w0 W) (hbase : base ≤ W.heap.size)
    (h : ∀ g w1, base ≤ g → g < w1.heap.size → w1.heap[g]? = some (.stringIter s 0) → Below base w0 w1 → wpList P ops Q rest (a.put o.dst (.pointer (some ⟨g, 0, none⟩))) w1) : wpList P ops Q (o :: rest) a W := by
  refine Kd.event_run hgd (v := .pointer (some ⟨W.heap.size, 0, none⟩)) (w1 := W.iter s 0) (by simp [execOp, ho, hx, run_range_string W t s ht]) ?_
  exact h W.heap.size _ hbase (by simp [World.iter]) (World.iter_heap W s 0) (HB.alloc hbase _)
theorem iter_next (W : World) (g : Nat) (s : ByteArray) (pos pos' : Nat) (hg : W.heap[g]? = some (.stringIter s pos)) :
    ({ W with heap := W.heap.setIfInBounds g (.stringIter s pos') } : World).heap[g]? = some (.stringIter s pos') := by
  have hlt : g < W.heap.size := (Array.getElem?_eq_some_iff.1 hg).1
  show (W.heap.setIfInBounds g _)[g]? = _
  rw [Array.getElem?_setIfInBounds, if_pos rfl, if_pos hlt]
theorem hand_next {w0 W : World} (base : Nat) (hgd : o.guard = none) {N : Tmp} (_hd : o.dst = some N) (x : Operand) (ho : o.op = .next x true) (g : Nat) (hx : a.eval x = .pointer (some ⟨g, 0, none⟩)) (s : ByteArray) (pos : Nat)
    (hg : W.heap[g]? = some (.stringIter s pos)) (hp : pos < s.size) (hbg : base ≤ g) (HB : Below base w0 W)
    (h : ∀ w1, w1.heap[g]? = some (.stringIter s (pos + (Utf8.decode s pos).2)) → Below base w0 w1 → wpList P ops Q rest (a.put o.dst (.tuple #[.bool true, .int .i64 pos, .int .i32 (Utf8.decode s pos).1])) w1) : wpList P ops Q (o :: rest) a W := by
  have hrun : (Instr.next (.pointer (some ⟨g, 0, none⟩)) true o.type).run P W = .ok (.tuple #[.bool true, .int .i64 pos, .int .i32 (Utf8.decode s pos).1]) { W with heap := W.heap.setIfInBounds g (.stringIter s (pos + (Utf8.decode s pos).2)) } := by
    simp only [Instr.next, getObj, setObj, Sem.run_bind, Sem.run, hg, Result.andThen, hp, if_true]
    simp [goInt]
  refine Kd.event_run hgd (by simp [execOp, ho, hx, hrun]) (h _ (iter_next W g s pos _ hg) ?_)
  exact HB.trans ⟨rfl, rfl, rfl, by simp, fun k hk => by
    show (W.heap.setIfInBounds g _)[k]? = _
    rw [Array.getElem?_setIfInBounds, if_neg (by omega)]⟩
theorem hand_next_end {W : World} (hgd : o.guard = none) {N : Tmp} (_hd : o.dst = some N) (x : Operand) (ho : o.op = .next x true) (g : Nat) (hx : a.eval x = .pointer (some ⟨g, 0, none⟩)) (s : ByteArray) (pos : Nat)
    (hg : W.heap[g]? = some (.stringIter s pos)) (hp : ¬ pos < s.size)
    (h : wpList P ops Q rest (a.put o.dst (.tuple #[.bool false])) W) : wpList P ops Q (o :: rest) a W := by
  have hrun : (Instr.next (.pointer (some ⟨g, 0, none⟩)) true o.type).run P W = .ok (.tuple #[.bool false]) W := by
    simp [Instr.next, getObj, Sem.run, hg, hp]
  exact Kd.event_run hgd (by simp [execOp, ho, hx, hrun]) h
end
end Go.Proofs.YtkbngfelegcplaaW.HandWords
