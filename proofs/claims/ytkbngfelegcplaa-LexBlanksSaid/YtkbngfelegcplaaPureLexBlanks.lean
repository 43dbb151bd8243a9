/- LexBlanks: a text of tokens, each with blanks ahead, and none, has the same tokens, but for their places. The plain law. -/
import Derived.Test.YtkbngfelegcplaaLexAll
import Derived.Test.YtkbngfelegcplaaPAllx10
set_option linter.unusedVariables false
namespace Go.Proofs.Ytkbngfelegcplaa.Pure
open Go.RowKit Go.Proofs.Ytkbngfelegcplaa.PAll Go.Proofs.YtkbngfelegcplaaW.PrintWords Go.Proofs.YtkbngfelegcplaaW.PrintLast

def Cut (q : List Int) : Prop := q = [] ∨ blankB (rd q 0) = true
theorem blank_vals {c : Int} (h : blankB c = true) : c = 32 ∨ c = 9 ∨ c = 10 := by
  unfold blankB at h
  simp only [Bool.or_eq_true, beq_iff_eq] at h
  omega
theorem rd_app {X q : List Int} {i : Int} (h0 : 0 ≤ i) (h : i < X.length) : rd (X ++ q) i = rd X i := by
  unfold rd
  rw [List.getD_eq_getElem?_getD, List.getD_eq_getElem?_getD, List.getElem?_append_left (by omega)]
theorem Uq.ext {b : List Int} {i : Int} {out t : List Int} {p e : Int} (h : Uq b i out t p e) (q : List Int) : 0 ≤ i → e = 0 → Uq (b ++ q) i out t p e := by
  have hl : (b.length : Int) ≤ (b ++ q).length := by rw [List.length_append]; omega
  induction h with
  | ends h1 => intro _ h; exact absurd h (by decide)
  | long h1 h2 h3 => intro _ h; exact absurd h (by decide)
  | close h1 h2 h3 => intro h0 _; exact .close (by omega) (by rw [rd_app h0 h1]; exact h2) h3
  | plain h1 h2 h3 h4 h ih =>
    intro h0 he
    have hr := rd_app (X := b) (q := q) h0 h1
    have := ih (by omega) he
    rw [← hr] at this h2 h3 h4
    exact .plain (by omega) h2 h3 h4 this
  | odd h1 h2 h3 h4 => intro _ h; exact absurd h (by decide)
  | cut1 h1 h2 h3 => intro _ h; exact absurd h (by decide)
  | sign h1 h2 h3 h ih =>
    intro h0 he
    have hr := rd_app (X := b) (q := q) h0 (show _ < (b.length : Int) by omega)
    have hr1 := rd_app (X := b) (q := q) (i := _ + 1) (by omega) h1
    have := ih (by omega) he
    rw [← hr1] at this h3
    rw [← hr] at h2
    exact .sign (by omega) h2 h3 this
  | nosign h1 h2 h3 h4 => intro _ h; exact absurd h (by decide)
  | cut2 h1 h2 h3 h4 => intro _ h; exact absurd h (by decide)
  | dig1 h1 h2 h3 h4 => intro _ h; exact absurd h (by decide)
  | cut3 h1 h2 h3 h4 h5 => intro _ h; exact absurd h (by decide)
  | dig2 h1 h2 h3 h4 h5 => intro _ h; exact absurd h (by decide)
  | bad h1 h2 h3 h4 h5 hx h6 => intro _ h; exact absurd h (by decide)
  | hex h1 h2 h3 h4 h5 hx h6 h ih =>
    rename_i i x out t p e
    intro h0 he
    have hr := rd_app (X := b) (q := q) h0 (by omega)
    have hr1 := rd_app (X := b) (q := q) (i := i + 1) (by omega) (by omega)
    have hr2 := rd_app (X := b) (q := q) (i := i + 2) (by omega) (by omega)
    have hr3 := rd_app (X := b) (q := q) (i := i + 3) (by omega) h1
    have := ih (by omega) he
    rw [← hr] at h2
    rw [← hr1] at h3
    rw [← hr2] at h4 hx
    rw [← hr3] at h5 hx
    exact .hex (by omega) h2 h3 h4 h5 hx h6 this
theorem UqAll.ext {b t : List Int} {p : Int} (h : UqAll b t p 0) (q : List Int) : UqAll (b ++ q) t p 0 := by
  rcases h with ⟨_, _, _, h⟩ | ⟨h1, h2, hu⟩
  · exact absurd h (by decide)
  · exact .inr ⟨by rw [List.length_append]; omega, by rw [rd_app (by omega) (by omega)]; exact h2, hu.ext q (by omega) rfl⟩
theorem lenOf_app (up : Int → Bool) (X : List Int) {q : List Int} (hq : Cut q) (hb : ∀ c, blankB c = true → up c = false) : lenOf up (X ++ q) = lenOf up X := by
  have hq0 : lenOf up q = 0 := by
    rcases hq with rfl | h
    · rfl
    · cases q with
      | nil => rfl
      | cons c r => rw [lenOf_cons, if_neg]; have := hb _ h; simpa [rd] using this
  induction X with
  | nil => exact hq0
  | cons c r ih => rw [List.cons_append, lenOf_cons, lenOf_cons, ih]
theorem signLen_app (X : List Int) (hX : X ≠ []) {q : List Int} (hq : Cut q) : signLen (X ++ q) = signLen X := by
  match X, hX with
  | [c], _ =>
    rcases hq with rfl | h
    · rfl
    · cases q with
      | nil => rfl
      | cons d r =>
        show signLen (c :: d :: r) = signLen [c]
        rw [signLen_two, signLen_one, if_neg]
        intro hm
        have hd := blank_vals h
        replace hd : d = 32 ∨ d = 9 ∨ d = 10 := hd
        unfold twoList at hm
        simp only [List.mem_cons, Prod.mk.injEq, List.not_mem_nil, or_false] at hm
        omega
  | c :: d :: r, _ => rfl
theorem tok_app (X : List Int) (hX : X ≠ []) {q : List Int} (hq : Cut q) : tok (X ++ q) = tok X := by
  have hr : rd (X ++ q) 0 = rd X 0 := rd_app (by omega) (by have := List.length_pos_iff.2 hX; omega)
  have hb : ∀ c, blankB c = true → upB c = false ∧ siB c = false ∧ diB c = false := by
    intro c h
    rcases blank_vals h with rfl | rfl | rfl <;> decide
  unfold tok
  rw [hr, lenOf_app upB X hq (fun c h => (hb c h).1), lenOf_app siB X hq (fun c h => (hb c h).2.1), lenOf_app diB X hq (fun c h => (hb c h).2.2), signLen_app X hX hq]
theorem One.ext {X t : List Int} {k e : Int} {n : Nat} (h : One X k t n e) (hX : X ≠ []) {q : List Int} (hq : Cut q) : e = 0 → One (X ++ q) k t n e := by
  have hr : rd (X ++ q) 0 = rd X 0 := rd_app (by omega) (by have := List.length_pos_iff.2 hX; omega)
  cases h with
  | text h hu => intro _; exact .text (by rw [hr]; exact h) (hu.ext q)
  | textE h hu he => intro h; exact absurd h he
  | is h ht =>
    intro _
    have hb := tok_bd hX ht
    rw [← List.take_append_of_le_length (l₂ := q) hb.2.1]
    exact .is (by rw [hr]; exact h) (by rw [tok_app X hX hq]; exact ht)
  | no h ht => intro h; exact absurd h (by decide)
def skel (x : Tok) : Int × List Int := (x.1, x.2.1)
theorem Lx.ne {b : List Int} {a : Nat} {l : List Tok} {m e : Int} (h : Lx b a l m e) : e = 0 → l ≠ [] := by
  induction h with
  | ends h => intro _; simp
  | blank h1 h2 h ih => exact ih
  | bad h1 h2 ho he => intro h; exact absurd h he
  | tok h1 h2 ho h ih => intro he; rw [if_pos he]; simp
/-- a text inside another one, behind which a blank stands or nothing -/
theorem Lx.emb {u : List Int} {i : Nat} {lu : List Tok} {m0 e : Int} (h : Lx u i lu m0 e) (P q : List Int) (hq : Cut q) (l : List Tok) (m : Int) (hl : Lx (P ++ (u ++ q)) (P.length + u.length) l m 0) :
    e = 0 → ∃ l2, Lx (P ++ (u ++ q)) (P.length + i) l2 m 0 ∧ l2.map skel = (lu.map skel).dropLast ++ l.map skel := by
  have hrd : ∀ j : Nat, j < u.length → rd (P ++ (u ++ q)) ((P.length + j : Nat) : Int) = rd u (j : Int) := by
    intro j hj
    rw [← rd_dropN, List.drop_left, rd_app (by omega) (by omega)]
  have hlen : ∀ j, j < u.length → P.length + j < (P ++ (u ++ q)).length := by
    intro j hj
    rw [List.length_append, List.length_append]; omega
  induction h with
  | ends h => intro _; subst h; exact ⟨l, hl, by simp⟩
  | blank h1 h2 h ih =>
    intro he
    obtain ⟨l2, g1, g2⟩ := ih he
    exact ⟨l2, .blank (hlen _ h1) (by rw [hrd _ h1]; exact h2) g1, g2⟩
  | bad h1 h2 ho he => intro h; exact absurd h he
  | tok h1 h2 ho h ih =>
    rename_i a k m0 e t n lr
    intro he
    obtain ⟨l2, g1, g2⟩ := ih he
    have hX : u.drop a ≠ [] := by
      intro h; have := congrArg List.length h; rw [List.length_drop, List.length_nil] at this; omega
    have hone : One ((P ++ (u ++ q)).drop (P.length + a)) k t n 0 := by
      rw [← List.drop_drop, List.drop_left, List.drop_append_of_le_length (by omega)]
      exact ho.ext hX hq rfl
    have hres := Lx.tok (hlen _ h1) (by rw [hrd _ h1]; exact h2) hone (by rw [Nat.add_assoc]; exact g1)
    rw [if_pos rfl] at hres
    rw [if_pos he]
    refine ⟨_, hres, ?_⟩
    have hne := h.ne he
    rw [List.map_cons, g2, List.map_cons, List.dropLast_cons_of_ne_nil (by simpa using hne)]
    rfl
/-- the tokens of a text A that ends here, told in any text that goes on with a blank or not at all -/
def Good (A : List Int) (T : List (Int × List Int)) : Prop :=
  ∀ q l m, Cut q → Lx (A ++ q) A.length l m 0 → ∃ l2, Lx (A ++ q) 0 l2 m 0 ∧ l2.map skel = T ++ l.map skel
theorem Good.nil : Good [] [] := fun q l m _ h => ⟨l, h, rfl⟩
theorem blanks_lx (P bl R : List Int) (hb : ∀ c ∈ bl, blankB c = true) {l : List Tok} {m : Int} : Lx (P ++ (bl ++ R)) (P.length + bl.length) l m 0 → Lx (P ++ (bl ++ R)) P.length l m 0 := by
  have key : ∀ d j, j + d = bl.length → Lx (P ++ (bl ++ R)) (P.length + bl.length) l m 0 → Lx (P ++ (bl ++ R)) (P.length + j) l m 0 := by
    intro d
    induction d with
    | zero => intro j hj h; rw [show j = bl.length from by omega]; exact h
    | succ d ih =>
      intro j hj h
      refine .blank (by rw [List.length_append, List.length_append]; omega) ?_ (by rw [Nat.add_assoc]; exact ih (j + 1) (by omega) h)
      rw [← rd_dropN, List.drop_left, rd_app (by omega) (by omega)]
      refine hb _ ?_
      unfold rd
      rw [Int.toNat_natCast, List.getD_eq_getElem?_getD, List.getElem?_eq_getElem (by omega)]
      exact List.getElem_mem _
  intro h
  exact key bl.length 0 (by omega) h
theorem Good.next {A bl u : List Int} {T : List (Int × List Int)} (h : Good A T) (hb : ∀ c ∈ bl, blankB c = true) (hne : bl ≠ []) {lu : List Tok} {m0 : Int} (hu : Lx u 0 lu m0 0) : Good (A ++ (bl ++ u)) (T ++ (lu.map skel).dropLast) := by
  intro q l m hq hl
  have e1 : A ++ (bl ++ u) ++ q = (A ++ bl) ++ (u ++ q) := by simp
  have e2 : A ++ (bl ++ u) ++ q = A ++ (bl ++ (u ++ q)) := by simp
  obtain ⟨l2, g1, g2⟩ := hu.emb (A ++ bl) q hq l m (by rw [← e1]; rw [show (A ++ bl).length + u.length = (A ++ (bl ++ u)).length from by simp; omega]; exact hl) rfl
  rw [← e1, e2, List.length_append] at g1
  have g3 := blanks_lx A bl (u ++ q) hb g1
  have hcut : Cut (bl ++ (u ++ q)) := by
    refine .inr ?_
    cases bl with
    | nil => exact absurd rfl hne
    | cons c r => exact hb c (by simp)
  obtain ⟨l3, g4, g5⟩ := h _ l2 m hcut g3
  refine ⟨l3, by rw [e2]; exact g4, ?_⟩
  rw [g5, g2, List.append_assoc]
theorem Good.whole {A : List Int} {T : List (Int × List Int)} (h : Good A T) : ∃ l, Lx A 0 l A.length 0 ∧ l.map skel = T ++ [(6, [])] := by
  obtain ⟨l2, g1, g2⟩ := h [] [(6, [], A.length)] A.length (.inl rfl) (by rw [List.append_nil]; exact .ends rfl)
  rw [List.append_nil] at g1
  exact ⟨l2, g1, g2⟩
theorem rdT_get {l : List Tok} {i : Nat} {x : Tok} (h : l[i]? = some x) : rd_T32 (l.map toS) (i : Int) = toS x := by
  unfold rd_T32
  first | unfold rdOf | skip
  rw [Int.toNat_natCast, List.getD_eq_getElem?_getD, List.getElem?_map, h]; rfl
theorem cmp_l2 (x y : List Tok) (h : x.map skel = y.map skel) (hx : x.length ≤ 100000) (d : Nat) : ∀ (i K : Nat), i + d = x.length → 2 * d + 200000 < K → haruspexlaw17_LexBlanks.l2 K (x.map toS) (y.map toS) (i : Int) = some true := by
  have hlen : x.length = y.length := by have := congrArg List.length h; simpa using this
  have hlx : (x.map toS).length = x.length := List.length_map _
  have hly : (y.map toS).length = y.length := List.length_map _
  induction d with
  | zero =>
    intro i K hi hK
    obtain ⟨K, rfl⟩ : ∃ n, K = n + 2 := ⟨K - 2, by omega⟩
    rw [haruspexlaw17_LexBlanks.l2, if_neg (by omega), haruspexlaw17_LexBlanks.j6, if_neg (by simp), awake17 K (by omega)]; rfl
  | succ d ih =>
    intro i K hi hK
    obtain ⟨K, rfl⟩ : ∃ n, K = n + 2 := ⟨K - 2, by omega⟩
    have g1 : x[i]? = some x[i] := List.getElem?_eq_getElem (by omega)
    have g2 : y[i]? = some y[i] := List.getElem?_eq_getElem (by omega)
    have hs : skel x[i] = skel y[i] := by
      have := congrArg (fun l : List (Int × List Int) => l[i]?) h
      simp only [List.getElem?_map, g1, g2, Option.map_some, Option.some.injEq] at this
      exact this
    have h0 : (toS x[i]).f0 = (toS y[i]).f0 := show (skel x[i]).1 = (skel y[i]).1 from congrArg Prod.fst hs
    have h1 : (toS x[i]).f1 = (toS y[i]).f1 := show strOfNums (skel x[i]).2 = strOfNums (skel y[i]).2 from congrArg (fun p : Int × List Int => strOfNums p.2) hs
    rw [haruspexlaw17_LexBlanks.l2, if_pos (by omega), decide_eq_true (by omega), haruspexlaw17_LexBlanks.j6, if_pos rfl, if_pos (by omega), if_pos (by omega), if_pos (by omega), rdT_get g1, rdT_get g2, if_pos h0, if_pos (by rw [h1]), q_wrap (by omega) (by omega), show (i : Int) + 1 = ((i + 1 : Nat) : Int) from by omega]
    exact ih (i + 1) K (by omega) (by omega)
theorem blanks_end (L : List ByteArray) (B : List Int) (a b : ByteArray) (i : Int) {T : List (Int × List Int)} (ga : Good (bytesOf a) T) (gb : Good (bytesOf b) T) (ha : a.size ≤ 8192) (hb : b.size ≤ 8192) (K : Nat) (hK : 900000 ≤ K) :
    haruspexlaw17_LexBlanks.j1 K L B a b i false = some true := by
  obtain ⟨K, rfl⟩ : ∃ n, K = n + 1 := ⟨K - 1, by omega⟩
  obtain ⟨x, hx, sx⟩ := ga.whole
  obtain ⟨y, hy, sy⟩ := gb.whole
  have hxy : x.map skel = y.map skel := sx.trans sy.symm
  have hlen : x.length = y.length := by have := congrArg List.length hxy; simpa using this
  have hb1 := bytesOf_length a
  have hl := hx.err.2.2.2.2 rfl
  rw [haruspexlaw17_LexBlanks.j1, if_neg (by simp), all_f ha hx K (by omega), Option.bind_some, all_f hb hy K (by omega), Option.bind_some]
  dsimp only
  rw [if_pos (by rw [List.length_map, List.length_map, hlen])]
  obtain ⟨K, rfl⟩ : ∃ n, K = n + 1 := ⟨K - 1, by omega⟩
  rw [haruspexlaw17_LexBlanks.j4, if_neg (by simp)]
  exact cmp_l2 x y hxy (by omega) x.length 0 K (by omega) (by omega)
theorem size_app (a b : ByteArray) : (a ++ b).size = a.size + b.size := by rw [← bytesOf_length, bytesOf_append, List.length_append, bytesOf_length, bytesOf_length]
theorem rdOf_get (L : List ByteArray) (i : Nat) : rdOf ByteArray.empty L (i : Int) = L.getD i ByteArray.empty := by
  unfold rdOf; rw [Int.toNat_natCast]
/-- the inner loop: blanks behind b, then a blank and the text -/
theorem inner (L : List ByteArray) (B : List Int) (a b0 : ByteArray) (i : Nat) (h60 : i < 60) (hi : i < L.length) (hiB : i < B.length) (hB : 0 ≤ rd B (i : Int) ∧ rd B (i : Int) < 256) (hu : (L.getD i ByteArray.empty).size ≤ 60) (d : Nat) :
    ∀ (j : Nat) (b : ByteArray) (K : Nat), (j : Int) + d = rd B (i : Int) % 5 → d < K → b.size + d ≤ 8000 → (∃ bl, (∀ c ∈ bl, blankB c = true) ∧ bytesOf b = bytesOf b0 ++ bl) →
    ∃ b' K', haruspexlaw17_LexBlanks.l1 K L B a b (i : Int) (j : Int) = haruspexlaw17_LexBlanks.l0 K' L B a b' ((i + 1 : Nat) : Int) ∧ K ≤ K' + d + 1 ∧ b'.size = b.size + d + 1 + (L.getD i ByteArray.empty).size ∧
      ∃ bl, (∀ c ∈ bl, blankB c = true) ∧ bl ≠ [] ∧ bytesOf b' = bytesOf b0 ++ (bl ++ bytesOf (L.getD i ByteArray.empty)) := by
  have hmod : wrap64 (Int.tmod (rd B (i : Int)) 5) = rd B (i : Int) % 5 := by rw [Int.tmod_eq_emod_of_nonneg hB.1, q_wrap (by omega) (by omega)]
  induction d with
  | zero =>
    intro j b K hj hK hbs ⟨bl, hbl, hbe⟩
    obtain ⟨K, rfl⟩ : ∃ n, K = n + 1 := ⟨K - 1, by omega⟩
    have hz : (⟨#[32]⟩ : ByteArray).size = 1 := rfl
    have hs2 := size_app b ⟨#[32]⟩
    refine ⟨(b ++ (⟨#[32]⟩ : ByteArray)) ++ L.getD i ByteArray.empty, K, ?_, by omega, by have := size_app (b ++ ⟨#[32]⟩) (L.getD i ByteArray.empty); omega, bl ++ [32], ?_, by simp, ?_⟩
    · rw [haruspexlaw17_LexBlanks.l1, if_pos (by omega), if_pos (by omega), hmod, if_neg (by omega), if_pos (by omega), if_pos (by omega), rdOf_get, if_pos (by rw [hs2, hz]; omega), q_wrap (by omega) (by omega), show (i : Int) + 1 = ((i + 1 : Nat) : Int) from by omega]
    · intro c hc
      rcases List.mem_append.1 hc with h | h
      · exact hbl c h
      · rw [List.mem_singleton] at h; subst h; rfl
    · rw [bytesOf_append, bytesOf_append, hbe]
      have : bytesOf (⟨#[32]⟩ : ByteArray) = [32] := rfl
      rw [this]; simp
  | succ d ih =>
    intro j b K hj hK hbs ⟨bl, hbl, hbe⟩
    obtain ⟨K, rfl⟩ : ∃ n, K = n + 1 := ⟨K - 1, by omega⟩
    have hm3 : Int.tmod (j : Int) 3 = ((j % 3 : Nat) : Int) := by rw [Int.tmod_eq_emod_of_nonneg (by omega)]; omega
    have hc : ∃ c, rd [32, 9, 10] ((j % 3 : Nat) : Int) = c ∧ (c = 32 ∨ c = 9 ∨ c = 10) := by
      have : j % 3 = 0 ∨ j % 3 = 1 ∨ j % 3 = 2 := by omega
      rcases this with h | h | h <;> rw [h]
      · exact ⟨32, rfl, .inl rfl⟩
      · exact ⟨9, rfl, .inr (.inl rfl)⟩
      · exact ⟨10, rfl, .inr (.inr rfl)⟩
    obtain ⟨c, hc1, hc2⟩ := hc
    have hcb : isBytes [c] := by intro x hx; rw [List.mem_singleton] at hx; omega
    have hsz : (strOfNums [c]).size = 1 := by rw [← bytesOf_length, bytesOf_strOfNums hcb]; rfl
    obtain ⟨b', K', g1, g2, g3, g4⟩ := ih (j + 1) (b ++ strOfNums [c]) K (by omega) (by omega) (by rw [size_app, hsz]; omega) ⟨bl ++ [c], by
      intro x hx
      rcases List.mem_append.1 hx with h | h
      · exact hbl x h
      · rw [List.mem_singleton] at h; subst h
        rcases hc2 with rfl | rfl | rfl <;> rfl, by rw [bytesOf_append, bytesOf_strOfNums hcb, hbe, List.append_assoc]⟩
    refine ⟨b', K', ?_, by omega, by rw [g3, size_app, hsz]; omega, g4⟩
    rw [haruspexlaw17_LexBlanks.l1, if_pos (by omega), if_pos (by omega), hmod, if_pos (by omega), Option.bind_some, hm3, if_pos (by omega), if_pos (by simp; omega), hc1, Option.bind_some, hsz, if_pos (by omega), q_wrap (by omega) (by omega), show (j : Int) + 1 = ((j + 1 : Nat) : Int) from by omega, g1]
theorem outer (L : List ByteArray) (B : List Int) (hB : ∀ x ∈ B, 0 ≤ x ∧ x < 256) (d : Nat) : ∀ (i K : Nat) (a b : ByteArray) (T : List (Int × List Int)), i + d = 60 → 20 * d + 950000 ≤ K → a.size ≤ 61 * i → b.size ≤ 65 * i → Good (bytesOf a) T → Good (bytesOf b) T →
    haruspexlaw17_LexBlanks.l0 K L B a b (i : Int) = some true := by
  induction d with
  | zero =>
    intro i K a b T hi hK ha hb ga gb
    obtain ⟨K, rfl⟩ : ∃ n, K = n + 1 := ⟨K - 1, by omega⟩
    rw [haruspexlaw17_LexBlanks.l0, decide_eq_false (by omega), blanks_end L B a b i ga gb (by omega) (by omega) K (by omega)]
    simp
  | succ d ih =>
    intro i K a b T hi hK ha hb ga gb
    obtain ⟨K, rfl⟩ : ∃ n, K = n + 1 := ⟨K - 1, by omega⟩
    have hend := blanks_end L B a b i ga gb (by omega) (by omega) K (by omega)
    rw [haruspexlaw17_LexBlanks.l0]
    by_cases h1 : (i : Int) < (L.length : Int)
    · rw [if_pos h1]
      by_cases h2 : (i : Int) < (B.length : Int)
      · rw [if_pos h2, decide_eq_true (by omega)]
        obtain ⟨K, rfl⟩ : ∃ n, K = n + 2 := ⟨K - 2, by omega⟩
        rw [haruspexlaw17_LexBlanks.j1, if_pos rfl, if_pos (by omega), if_pos h1, rdOf_get]
        have haw : haruspexlaw17_LexBlanks.j2 (K + 1) L B a b (i : Int) true = some true := by
          rw [haruspexlaw17_LexBlanks.j2, if_pos rfl, awake17 K (by omega)]; rfl
        obtain ⟨u, hu⟩ : ∃ u, u = L.getD i ByteArray.empty := ⟨_, rfl⟩
        rw [← hu]
        by_cases hlong : u.size ≤ 8192
        · obtain ⟨lu, m, e, hx⟩ := lx_of u
          rw [all_f hlong hx _ (by omega), Option.bind_some]
          dsimp only
          by_cases h60 : (u.size : Int) > 60
          · rw [if_pos h60, haw]
          · rw [if_neg h60]
            by_cases he : e = 0
            · subst he
              have hBi : 0 ≤ rd B (i : Int) ∧ rd B (i : Int) < 256 := by
                unfold rd
                rw [Int.toNat_natCast, List.getD_eq_getElem?_getD, List.getElem?_eq_getElem (by omega)]
                exact hB _ (List.getElem_mem _)
              have hz : (⟨#[32]⟩ : ByteArray).size = 1 := rfl
              have hs2 := size_app a ⟨#[32]⟩
              have hu60 : (L.getD i ByteArray.empty).size ≤ 60 := by rw [← hu]; omega
              obtain ⟨b', K', g1, g2, g3, bl, g4, g5, g6⟩ := inner L B ((a ++ (⟨#[32]⟩ : ByteArray)) ++ u) b i (by omega) (by omega) (by omega) hBi hu60 (rd B (i : Int) % 5).toNat 0 b K (by omega) (by omega) (by omega) ⟨[], by simp, by simp⟩
              rw [haruspexlaw17_LexBlanks.j2, if_neg (by simp), if_pos (by omega), if_pos (by omega), if_pos h1, rdOf_get, ← hu, if_pos (by rw [hs2, hz]; omega)]
              rw [show (0 : Int) = ((0 : Nat) : Int) from rfl, g1]
              rw [← hu] at g3 g6
              refine ih (i + 1) K' _ b' (T ++ (lu.map skel).dropLast) (by omega) (by omega) (by rw [size_app, hs2, hz]; omega) (by omega) ?_ ?_
              · rw [bytesOf_append, bytesOf_append, List.append_assoc]
                exact ga.next (bl := [32]) (by intro c hc; rw [List.mem_singleton] at hc; subst hc; rfl) (by simp) hx
              · rw [g6]
                exact gb.next g4 g5 hx
            · rw [show (e != 0) = true from bne_iff_ne.mpr he, haw]
        · rw [all_long hlong, Option.bind_some]
          dsimp only
          rw [if_pos (by omega), haw]
      · rw [if_neg h2, hend]
    · rw [if_neg h1, hend]
theorem LexBlanks (L : List ByteArray) (B : List Int) (hB : ∀ x ∈ B, 0 ≤ x ∧ x < 256) : haruspexlaw17_LexBlanks.f 1000000 L B = some true := by
  unfold haruspexlaw17_LexBlanks.f
  exact outer L B hB 60 0 1000000 ⟨#[]⟩ ⟨#[]⟩ [] (by omega) (by omega) (by decide) (by decide) Good.nil Good.nil
end Go.Proofs.Ytkbngfelegcplaa.Pure
