/- The fields of a line, joined by single spaces, have the same fields. (P1) This is its pure statement, over numbers and lists, as printed from the program; the row is built on it.
   Conditions: none. -/
import Derived.Test.YtbfeaekgbgfcjaaDoorGFnFieldsAgainx4
namespace Go.Proofs.YtbfeaekgbgfcjaaDoor.Pure
set_option linter.unusedSimpArgs false
set_option linter.unusedVariables false
open Go.RowKit Go.Proofs.YtbfeaekgbgfcjaaDoor.GFnFieldsAgain Go.Proofs.YtbfeaekgbgfcjaaDoorW.PrintWords Go.Proofs.YtbfeaekgbgfcjaaDoorW.PrintLast

theorem wrap_id {x : Int} (h0 : -9223372036854775808 ≤ x) (h1 : x ≤ 9223372036854775807) : wrap64 x = x := by
  unfold wrap64
  omega
theorem wrap_succ (i : Nat) (h : i < 4611686018427387904) : wrap64 ((i : Int) + 1) = ((i + 1 : Nat) : Int) := by
  rw [wrap_id (by omega) (by omega)]
  omega
theorem rd_lt (l : List Int) (i : Nat) (h : i < l.length) : rd l (i : Int) = l[i] := by
  unfold rd
  rw [Int.toNat_natCast, List.getD_eq_getElem?_getD, List.getElem?_eq_getElem h]
  rfl
theorem set_take {α : Type} (l x : List α) (i : Nat) (hi : i < l.length) (hx : x.length = l.length) (h : x.take i = l.take i) :
    (x.set i l[i]).take (i + 1) = l.take (i + 1) := by
  rw [List.take_succ_eq_append_getElem (by simp; omega), List.take_succ_eq_append_getElem hi, List.getElem_set_self, List.take_set_of_le (Nat.le_refl i), h]
def allFrom (p : Nat → Bool) (n i : Nat) : Bool := (List.range' i (n - i)).all p
theorem all_end (p : Nat → Bool) (n : Nat) : allFrom p n n = true := by simp [allFrom]
theorem all_step (p : Nat → Bool) (n i : Nat) (h : i < n) : allFrom p n i = (p i && allFrom p n (i + 1)) := by
  unfold allFrom
  rw [show n - i = (n - (i + 1)) + 1 by omega, List.range'_succ, List.all_cons]
theorem all_iff (p : Nat → Bool) (n i : Nat) : allFrom p n i = true ↔ ∀ j, i ≤ j → j < n → p j = true := by
  unfold allFrom
  rw [List.all_eq_true]
  constructor
  · intro h j h1 h2
    exact h j (List.mem_range'_1.2 ⟨h1, by omega⟩)
  · intro h j hj
    have := List.mem_range'_1.1 hj
    exact h j this.1 (by omega)
theorem str_app (a b : List UInt8) : (⟨a.toArray⟩ : ByteArray) ++ ⟨b.toArray⟩ = ⟨(a ++ b).toArray⟩ := by
  apply ByteArray.ext
  rw [ByteArray.data_append]
  simp
theorem and_low (x : Int) : 0 ≤ Go.bits .and .i64 x 255 ∧ Go.bits .and .i64 x 255 ≤ 255 := by
  have h : ((BitVec.ofInt 64 x) &&& (BitVec.ofInt 64 255)).toNat ≤ 255 := by
    rw [BitVec.toNat_and]
    exact Nat.and_le_right
  have e : Go.bits .and .i64 x 255 = IntKind.i64.wrap ((((BitVec.ofInt 64 x) &&& (BitVec.ofInt 64 255)).toNat : Nat) : Int) := rfl
  rw [e]
  generalize ((BitVec.ofInt 64 x) &&& (BitVec.ofInt 64 255)).toNat = n at h
  have e2 : IntKind.i64.wrap ((n : Nat) : Int) = n := by
    simp only [IntKind.wrap, IntKind.bits, IntKind.signed]
    simp
    omega
  rw [e2]
  omega
theorem draw_new (l : List Int) (hl : l.length ≤ 1048576) : ∃ h, Ev (fun k => spec_l01New.f k l) (l, 0, h) := by
  unfold spec_l01New.f
  have loop : ∀ (d i : Nat) (h : Int), i + d = l.length → ∃ h', Ev (fun k => spec_l01New.l0 k l h (i : Int)) (l, 0, h') := by
    intro d
    induction d with
    | zero =>
      intro i h hi
      refine ⟨h, Ev.step (fun k => spec_l01New.l0.eq_2 _ _ _ k) ?_⟩
      simp only [if_neg (show ¬ (i : Int) < (l.length : Int) by omega)]
      exact Ev.now _
    | succ d ih =>
      intro i h hi
      by_cases hc : (i : Int) < 4000
      · obtain ⟨h', hh⟩ := ih (i + 1) (Go.bits .and .i64 (wrap64 ((wrap64 ((wrap64 (h * 131)) + (wrap64 (rd l i)))) + 7)) 1073741823) (by omega)
        refine ⟨h', Ev.step (fun k => spec_l01New.l0.eq_2 _ _ _ k) ?_⟩
        simp only [if_pos (show (i : Int) < (l.length : Int) by omega), if_pos hc, if_pos (show (0 : Int) ≤ (i : Int) by omega)]
        rw [wrap_succ i (by omega)]
        exact hh
      · refine ⟨h, Ev.step (fun k => spec_l01New.l0.eq_2 _ _ _ k) ?_⟩
        simp only [if_pos (show (i : Int) < (l.length : Int) by omega), if_neg hc]
        exact Ev.now _
  exact loop l.length 0 _ (by omega)
/-- A place in the bytes of a draw. -/
def Cur (l : List Int) (i : Int) : Prop := 0 ≤ i ∧ i ≤ (l.length : Int)
theorem draw_byte (l : List Int) (hl : l.length ≤ 1048576) (i h : Int) (hi : Cur l i) : ∃ v i' h', spec_l01Byte.f l i h = some (v, i', h') ∧ Cur l i' ∧ 0 ≤ v ∧ v ≤ 255 := by
  unfold spec_l01Byte.f
  unfold Cur at *
  by_cases hc : i < (l.length : Int)
  · rw [if_pos hc, if_pos hi.1]
    exact ⟨_, _, _, rfl, by rw [wrap_id (by omega) (by omega)]; omega, (and_low _).1, (and_low _).2⟩
  · rw [if_neg hc]
    exact ⟨_, _, _, rfl, hi, (and_low _).1, (and_low _).2⟩
theorem tmod_low (v n : Int) (h0 : 0 ≤ v) (hn : 0 < n) : 0 ≤ Int.tmod v n ∧ Int.tmod v n < n :=
  ⟨Int.tmod_nonneg n h0, Int.tmod_lt_of_pos v hn⟩
theorem draw_below (l : List Int) (hl : l.length ≤ 1048576) (i h n : Int) (hi : Cur l i) (hn : 0 < n) : ∃ v i' h', spec_l01Below.f l i h n = some (v, i', h') ∧ Cur l i' ∧ 0 ≤ v ∧ v < n := by
  unfold spec_l01Below.f
  rw [if_neg (by omega)]
  by_cases hc : n ≤ 256
  · rw [if_pos hc]
    obtain ⟨v, i1, h1, e, c1, v0, v1⟩ := draw_byte l hl i h hi
    rw [e]
    simp only [Option.bind_some]
    rw [if_neg (by omega)]
    exact ⟨_, _, _, rfl, c1, tmod_low v n v0 hn⟩
  · rw [if_neg hc]
    obtain ⟨a, i1, h1, e1, c1, a0, a1⟩ := draw_byte l hl i h hi
    obtain ⟨b, i2, h2, e2, c2, b0, b1⟩ := draw_byte l hl i1 h1 c1
    obtain ⟨c, i3, h3, e3, c3, x0, x1⟩ := draw_byte l hl i2 h2 c2
    obtain ⟨d, i4, h4, e4, c4, d0, d1⟩ := draw_byte l hl i3 h3 c3
    simp only [e1, e2, e3, e4, Option.bind_some]
    rw [if_neg (by omega)]
    refine ⟨_, _, _, rfl, c4, ?_⟩
    rw [wrap_id (x := a * 16777216) (by omega) (by omega), wrap_id (x := b * 65536) (by omega) (by omega), wrap_id (x := c * 256) (by omega) (by omega),
      wrap_id (x := a * 16777216 + b * 65536) (by omega) (by omega), wrap_id (x := a * 16777216 + b * 65536 + c * 256) (by omega) (by omega), wrap_id (by omega) (by omega)]
    exact tmod_low _ n (by omega) hn
theorem draw_once (l : List Int) (hl : l.length ≤ 1048576) (i h n : Int) (hi : Cur l i) (hn : 0 < n) : ∃ v i' h', spec_l01Once.f l i h n = some (v, i', h') ∧ Cur l i' := by
  unfold spec_l01Once.f
  obtain ⟨v, i1, h1, e, c1, _⟩ := draw_below l hl i h n hi hn
  rw [e]
  exact ⟨_, _, _, rfl, c1⟩
theorem rdOf_lt (l : List ByteArray) (i : Nat) (h : i < l.length) : rdOf ByteArray.empty l (i : Int) = l[i] := by
  unfold rdOf
  rw [Int.toNat_natCast, List.getD_eq_getElem?_getD, List.getElem?_eq_getElem h]
  rfl
theorem size_nums (l : List Int) : (strOfNums l).size = l.length := by
  show (l.map _).toArray.size = l.length
  simp
theorem draw_long (n : Nat) (hn : n ≤ 1000) (x : Int) : ∃ t, Ev (fun k => spec_l01Long.f k (n : Int) x) t ∧ t.size = n := by
  unfold spec_l01Long.f
  simp only [if_pos (show (0 : Int) ≤ (n : Int) by omega), Int.toNat_natCast, if_pos (show n ≤ 281474976710656 by omega)]
  have loop : ∀ (d i : Nat) (z : List Int), i + d = n → z.length = n → ∃ t, Ev (fun k => spec_l01Long.l0 k (n : Int) x z (i : Int)) t ∧ t.size = n := by
    intro d
    induction d with
    | zero =>
      intro i z hi hz
      refine ⟨strOfNums z, Ev.step (fun k => spec_l01Long.l0.eq_2 _ _ _ _ k) ?_, by rw [size_nums, hz]⟩
      simp only [if_neg (show ¬ (i : Int) < (n : Int) by omega)]
      exact Ev.now _
    | succ d ih =>
      intro i z hi hz
      obtain ⟨t, ht, hs⟩ := ih (i + 1) (z.set i x) (by omega) (by simp; omega)
      refine ⟨t, Ev.step (fun k => spec_l01Long.l0.eq_2 _ _ _ _ k) ?_, hs⟩
      simp only [if_pos (show (i : Int) < (n : Int) by omega), if_pos (show (0 : Int) ≤ (i : Int) by omega), if_pos (show (i : Int) < (z.length : Int) by omega), Int.toNat_natCast, wrap_succ i (by omega)]
      exact ht
  exact loop n 0 _ (by omega) (by simp)
theorem draw_pickS (l : List Int) (hl : l.length ≤ 1048576) (i h : Int) (m : List ByteArray) (hi : Cur l i) (hm : 0 < m.length) : ∃ v i' h', spec_l01Pick.f l i h m = some (v, i', h') ∧ Cur l i' ∧ v ∈ m := by
  unfold spec_l01Pick.f
  obtain ⟨v, i1, h1, e, c1, v0, v1⟩ := draw_below l hl i h (m.length : Int) hi (by omega)
  rw [e]
  simp only [Option.bind_some]
  rw [if_pos v0, if_pos v1]
  refine ⟨_, _, _, rfl, c1, ?_⟩
  obtain ⟨n, rfl⟩ := Int.eq_ofNat_of_zero_le v0
  rw [rdOf_lt m n (by omega)]
  exact List.getElem_mem _
theorem draw_flds_inner (l : List Int) (hl : l.length ≤ 1048576) (n i : Nat) (hn : n ≤ 25) (hi : i < n)
    (ih : ∀ (s : ByteArray) (ix h : Int), s.size ≤ 20 * (i + 1) → Cur l ix → ∃ r, Ev (fun k => spec_DrawSplitFields.l0 k (n : Int) s ((i + 1 : Nat) : Int) l ix h) r) :
    ∀ (e j : Nat), j + e = 5 → ∀ (s : ByteArray) (ix h : Int), s.size ≤ 20 * i + 3 + j → Cur l ix → ∃ r, Ev (fun k => spec_DrawSplitFields.l1 k (n : Int) s (i : Int) (j : Int) l ix h) r := by
  intro e
  induction e with
  | zero =>
    intro j hj s ix h hs hc
    obtain ⟨v, i1, h1, e1, c1, v0, v1⟩ := draw_below l hl ix h 5 hc (by omega)
    obtain ⟨r, hr⟩ := ih s i1 h1 (by omega) c1
    refine ⟨r, Ev.step (fun k => spec_DrawSplitFields.l1.eq_2 _ _ _ _ _ _ _ k) ?_⟩
    simp only [e1, Option.bind_some, if_neg (show ¬ (j : Int) ≤ v by omega), wrap_succ i (by omega)]
    exact hr
  | succ e ihe =>
    intro j hj s ix h hs hc
    obtain ⟨v, i1, h1, e1, c1, v0, v1⟩ := draw_below l hl ix h 5 hc (by omega)
    by_cases hv : (j : Int) ≤ v
    · obtain ⟨u, i2, h2, e2, c2, _⟩ := draw_below l hl i1 h1 94 c1 (by omega)
      have hz : (strOfNums [(wrap64 (33 + u)) % 256]).size = 1 := rfl
      obtain ⟨r, hr⟩ := ihe (j + 1) (by omega) (s ++ strOfNums [(wrap64 (33 + u)) % 256]) i2 h2 (by rw [ByteArray.size_append, hz]; omega) c2
      refine ⟨r, Ev.step (fun k => spec_DrawSplitFields.l1.eq_2 _ _ _ _ _ _ _ k) ?_⟩
      simp only [e1, e2, Option.bind_some, if_pos hv, hz, if_pos (show s.size + 1 ≤ 9223372036854775807 by omega), wrap_succ j (by omega)]
      exact hr
    · obtain ⟨r, hr⟩ := ih s i1 h1 (by omega) c1
      refine ⟨r, Ev.step (fun k => spec_DrawSplitFields.l1.eq_2 _ _ _ _ _ _ _ k) ?_⟩
      simp only [e1, Option.bind_some, if_neg hv, wrap_succ i (by omega)]
      exact hr
theorem draw_flds_tail (l : List Int) (hl : l.length ≤ 1048576) (n i : Nat) (hi : ¬ (i : Int) < (n : Int)) (s : ByteArray) (ix h : Int) (hs : s.size ≤ 1000) (hc : Cur l ix) : ∃ r, Ev (fun k => spec_DrawSplitFields.l0 k (n : Int) s (i : Int) l ix h) r := by
  obtain ⟨v, i1, h1, e1, c1, v0, v1⟩ := draw_below l hl ix h 12 hc (by omega)
  by_cases h0 : v = 0
  · obtain ⟨u, i2, h2, e2, c2, hu⟩ := draw_pickS l hl i1 h1 [(⟨#[32]⟩ : ByteArray), (⟨#[32, 32]⟩ : ByteArray), (⟨#[9]⟩ : ByteArray), (⟨#[10]⟩ : ByteArray), (⟨#[127]⟩ : ByteArray), (⟨#[233]⟩ : ByteArray)] c1 (by simp)
    have hu2 : u.size ≤ 2 := by
      simp only [List.mem_cons, List.not_mem_nil, or_false] at hu
      rcases hu with rfl | rfl | rfl | rfl | rfl | rfl <;> decide
    refine ⟨s ++ u, Ev.step (fun k => spec_DrawSplitFields.l0.eq_2 _ _ _ _ _ _ k) ?_⟩
    simp only [if_neg hi, e1, Option.bind_some, if_pos h0, e2, if_pos (show s.size + u.size ≤ 9223372036854775807 by omega)]
    exact Ev.now _
  · by_cases h9 : v = 1
    · by_cases h6 : (s.size : Int) < 600
      · obtain ⟨u, i2, h2, e2, c2, u0, u1⟩ := draw_below l hl i1 h1 2 c1 (by omega)
        have ew : wrap64 (wrap64 (600 - (s.size : Int)) + u) = ((600 - s.size + u.toNat : Nat) : Int) := by
          rw [wrap_id (x := 600 - (s.size : Int)) (by omega) (by omega), wrap_id (by omega) (by omega)]
          omega
        obtain ⟨t, ht, hts⟩ := draw_long (600 - s.size + u.toNat) (by omega) 32
        refine ⟨s ++ t, Ev.step (fun k => spec_DrawSplitFields.l0.eq_2 _ _ _ _ _ _ k) ?_⟩
        simp only [if_neg hi, e1, Option.bind_some, if_neg h0, if_pos h9, if_pos h6, e2, ew]
        refine Ev.bind ht ?_
        simp only [if_pos (show s.size + t.size ≤ 9223372036854775807 by omega)]
        exact Ev.now _
      · refine ⟨s, Ev.step (fun k => spec_DrawSplitFields.l0.eq_2 _ _ _ _ _ _ k) ?_⟩
        simp only [if_neg hi, e1, Option.bind_some, if_neg h0, if_pos h9, if_neg h6]
        exact Ev.now _
    · refine ⟨s, Ev.step (fun k => spec_DrawSplitFields.l0.eq_2 _ _ _ _ _ _ k) ?_⟩
      simp only [if_neg hi, e1, Option.bind_some, if_neg h0, if_neg h9]
      exact Ev.now _
theorem draw_flds_loop (l : List Int) (hl : l.length ≤ 1048576) (n : Nat) (hn : n ≤ 25) : ∀ (d i : Nat), i + d = n → ∀ (s : ByteArray) (ix h : Int), s.size ≤ 20 * i → Cur l ix → ∃ r, Ev (fun k => spec_DrawSplitFields.l0 k (n : Int) s (i : Int) l ix h) r := by
  intro d
  induction d with
  | zero =>
    intro i hi s ix h hs hc
    exact draw_flds_tail l hl n i (by omega) s ix h (by omega) hc
  | succ d ih =>
    intro i hi s ix h hs hc
    have inner := draw_flds_inner l hl n i hn (by omega) (fun s ix h hs hc => ih (i + 1) (by omega) s ix h hs hc) 5 0 (by omega)
    have third : ∀ (s : ByteArray) (ix h : Int), s.size ≤ 20 * i + 3 → Cur l ix → ∃ r, Ev (fun k => spec_DrawSplitFields.j3 k (n : Int) s (i : Int) l ix h) r := by
      intro s ix h hs hc
      obtain ⟨r, hr⟩ := inner s ix h hs hc
      refine ⟨r, Ev.step (fun k => spec_DrawSplitFields.j3.eq_2 _ _ _ _ _ _ k) ?_⟩
      exact hr
    have second : ∀ (b : Bool) (ix h : Int), Cur l ix → ∃ r, Ev (fun k => spec_DrawSplitFields.j2 k (n : Int) s (i : Int) b l ix h) r := by
      intro b ix h hc
      cases b with
      | false =>
        obtain ⟨r, hr⟩ := third s ix h (by omega) hc
        refine ⟨r, Ev.step (fun k => spec_DrawSplitFields.j2.eq_2 _ _ _ _ _ _ _ k) ?_⟩
        simp only [Bool.false_eq_true, if_false]
        exact hr
      | true =>
        obtain ⟨u, i1, h1, e1, c1, u0, u1⟩ := draw_below l hl ix h 2 hc (by omega)
        obtain ⟨v, i2, h2, e2, c2, v0, v1⟩ := draw_below l hl i1 h1 3 c1 (by omega)
        have hb : 0 ≤ u * v ∧ u * v ≤ 2 := by
          have hu : u = 0 ∨ u = 1 := by omega
          rcases hu with rfl | rfl <;> omega
        have ew : wrap64 (1 + wrap64 (u * v)) = ((1 + (u * v).toNat : Nat) : Int) := by
          generalize u * v = z at hb
          rw [wrap_id (x := z) (by omega) (by omega), wrap_id (by omega) (by omega)]
          omega
        have hz : 1 + (u * v).toNat ≤ 3 := by
          generalize u * v = z at hb
          omega
        obtain ⟨t, ht, hts⟩ := draw_long (1 + (u * v).toNat) (by omega) 32
        obtain ⟨r, hr⟩ := third (s ++ t) i2 h2 (by rw [ByteArray.size_append]; omega) c2
        refine ⟨r, Ev.step (fun k => spec_DrawSplitFields.j2.eq_2 _ _ _ _ _ _ _ k) ?_⟩
        simp only [if_true, e1, e2, Option.bind_some, ew]
        refine Ev.bind ht ?_
        simp only [if_pos (show s.size + t.size ≤ 9223372036854775807 by omega)]
        exact hr
    by_cases h0 : (i : Int) > 0
    · obtain ⟨r, hr⟩ := second true ix h hc
      refine ⟨r, Ev.step (fun k => spec_DrawSplitFields.l0.eq_2 _ _ _ _ _ _ k) ?_⟩
      simp only [if_pos (show (i : Int) < (n : Int) by omega), if_pos h0]
      exact hr
    · obtain ⟨b, i1, h1, e1, c1⟩ := draw_once l hl ix h 5 hc (by omega)
      obtain ⟨r, hr⟩ := second b i1 h1 c1
      refine ⟨r, Ev.step (fun k => spec_DrawSplitFields.l0.eq_2 _ _ _ _ _ _ k) ?_⟩
      simp only [if_pos (show (i : Int) < (n : Int) by omega), if_neg h0, e1, Option.bind_some]
      exact hr
theorem draw_fields (l : List Int) (hl : l.length ≤ 1048576) : ∃ r, Ev (fun k => spec_DrawSplitFields.f k l) r := by
  unfold spec_DrawSplitFields.f
  obtain ⟨h0, e0⟩ := draw_new l hl
  have c0 : Cur l 0 := ⟨by omega, by omega⟩
  obtain ⟨n, i1, h1, e1, c1, n0, n1⟩ := draw_below l hl 0 h0 9 c0 (by omega)
  obtain ⟨b, i2, h2, e2, c2⟩ := draw_once l hl i1 h1 15 c1 (by omega)
  have start : ∀ (m : Nat) (ix h : Int), m ≤ 25 → Cur l ix → ∃ r, Ev (fun k => spec_DrawSplitFields.j0 k (m : Int) l ix h) r := by
    intro m ix h hm hc
    obtain ⟨r, hr⟩ := draw_flds_loop l hl m hm m 0 (by omega) ⟨#[]⟩ ix h (by decide) hc
    refine ⟨r, Ev.step (fun k => spec_DrawSplitFields.j0.eq_2 _ _ _ _ k) ?_⟩
    exact hr
  cases b with
  | true =>
    obtain ⟨v, i3, h3, e3, c3, v0, v1⟩ := draw_below l hl i2 h2 2 c2 (by omega)
    have ew : wrap64 (24 + v) = ((24 + v.toNat : Nat) : Int) := by rw [wrap_id (by omega) (by omega)]; omega
    obtain ⟨r, hr⟩ := start (24 + v.toNat) i3 h3 (by omega) c3
    refine ⟨r, Ev.bind e0 ?_⟩
    simp only [e1, e2, e3, Option.bind_some, if_true, ew]
    exact hr
  | false =>
    obtain ⟨m, rfl⟩ := Int.eq_ofNat_of_zero_le n0
    obtain ⟨r, hr⟩ := start m i2 h2 (by omega) c2
    refine ⟨r, Ev.bind e0 ?_⟩
    simp only [e1, e2, Option.bind_some, Bool.false_eq_true, if_false]
    exact hr
theorem bt_get (a : ByteArray) (i : Nat) (h : i < a.size) : bt a (i : Int) = ((a.data.getD i 0).toNat : Int) := by
  have e : a.data.getD i 0 = a[i] := by
    rw [Array.getD_eq_getD_getElem?, Array.getElem?_eq_getElem (show i < a.data.size from h)]
    rfl
  rw [e]
  unfold bt
  rw [dif_pos (show (i : Int).toNat < a.size by omega)]
  rfl
theorem drop_bytes (a : ByteArray) (i : Nat) (h : i < a.size) : a.data.toList.drop i = a.data.getD i 0 :: a.data.toList.drop (i + 1) := by
  have hl : i < a.data.toList.length := by rw [Array.length_toList]; exact h
  rw [List.drop_eq_getElem_cons hl]
  congr 1
  rw [Array.getD_eq_getD_getElem?, Array.getElem?_eq_getElem (show i < a.data.size from h), Array.getElem_toList]
  rfl
theorem size_toList (a : ByteArray) : a.data.toList.length = a.size := by rw [Array.length_toList]; rfl
theorem size_mk (l : List UInt8) : (⟨l.toArray⟩ : ByteArray).size = l.length := by simp [ByteArray.size]
theorem toList_mk (l : List UInt8) : (⟨l.toArray⟩ : ByteArray).toList = l := by rw [Lib.toList_data]
/-- The pieces between spaces, 'cur' the begun one. -/
def pc : List UInt8 → List UInt8 → List (List UInt8)
  | [], cur => [cur]
  | u :: r, cur => if u = 32 then cur :: pc r [] else pc r (cur ++ [u])
theorem pc_miss : ∀ (l cur : List UInt8), Lib.indexByte l 32 = -1 → pc l cur = [cur ++ l]
  | [], cur, _ => by simp [pc]
  | u :: r, cur, h => by
    unfold Lib.indexByte at h
    by_cases hu : u = 32
    · subst hu
      simp at h
    · have hb : (u == 32) = false := beq_eq_false_iff_ne.2 hu
      rw [hb] at h
      simp only [Bool.false_eq_true, if_false] at h
      have hr : Lib.indexByte r 32 = -1 := by
        by_cases h1 : Lib.indexByte r 32 = -1
        · exact h1
        · have h2 : (Lib.indexByte r 32 == -1) = false := beq_eq_false_iff_ne.2 h1
          rw [h2] at h
          simp only [Bool.false_eq_true, if_false] at h
          have := Lib.indexByte_ge r 32
          omega
      rw [pc, if_neg hu, pc_miss r _ hr]
      simp
theorem pc_hit : ∀ (l cur : List UInt8) (i : Nat), Lib.indexByte l 32 = (i : Int) → pc l cur = (cur ++ l.take i) :: pc (l.drop (i + 1)) []
  | [], cur, i, h => by
    unfold Lib.indexByte at h
    omega
  | u :: r, cur, i, h => by
    unfold Lib.indexByte at h
    by_cases hu : u = 32
    · subst hu
      simp only [beq_self_eq_true, if_true] at h
      obtain rfl : i = 0 := by omega
      simp [pc]
    · have hb : (u == 32) = false := beq_eq_false_iff_ne.2 hu
      rw [hb] at h
      simp only [Bool.false_eq_true, if_false] at h
      by_cases h1 : Lib.indexByte r 32 = -1
      · have h2 : (Lib.indexByte r 32 == -1) = true := beq_iff_eq.2 h1
        rw [h2] at h
        simp only [if_true] at h
        omega
      · have h2 : (Lib.indexByte r 32 == -1) = false := beq_eq_false_iff_ne.2 h1
        rw [h2] at h
        simp only [Bool.false_eq_true, if_false] at h
        have hg := Lib.indexByte_ge r 32
        obtain ⟨j, rfl⟩ : ∃ j, i = j + 1 := ⟨i - 1, by omega⟩
        rw [pc, if_neg hu, pc_hit r _ j (by omega)]
        simp
theorem split_pc : ∀ (d : Nat) (l : List UInt8), l.length ≤ d → Lib.splitK [32] 0 (Lib.count l [32]) l = pc l [] := by
  intro d
  induction d with
  | zero =>
    intro l hl
    have : l = [] := List.length_eq_zero_iff.1 (by omega)
    subst this
    rfl
  | succ d ih =>
    intro l hl
    have hg := Lib.indexByte_ge l 32
    by_cases h : Lib.indexByte l 32 = -1
    · rw [Lib.count_miss (by rw [Lib.index_one]; exact h), pc_miss l [] h]
      rfl
    · obtain ⟨i, hi⟩ : ∃ i : Nat, Lib.indexByte l 32 = i := ⟨(Lib.indexByte l 32).toNat, by omega⟩
      have hx : Lib.index l [32] = i := by rw [Lib.index_one]; exact hi
      have hroom := Lib.index_room l [32] (by rw [hx]; omega)
      rw [hx] at hroom
      have e : ((i : Int) == -1) = false := by rw [beq_eq_false_iff_ne]; omega
      rw [Lib.count_hit (by simp) hx, Nat.add_comm 1, Lib.splitK, hx, e]
      simp only [Bool.false_eq_true, if_false, Int.toNat_natCast, Nat.add_zero, List.length_cons, List.length_nil, Nat.zero_add] at hroom ⊢
      rw [ih _ (by rw [List.length_drop]; omega), pc_hit l [] i hi]
      simp
def mkB (l : List UInt8) : ByteArray := ⟨l.toArray⟩
theorem mkB_data (a : ByteArray) : mkB a.data.toList = a := rfl
theorem split_mk (a : ByteArray) : Lib.splitB ⟨#[32]⟩ 0 (Lib.countB a ⟨#[32]⟩) a = (pc a.data.toList []).map mkB := by
  have h := Lib.splitB_data ⟨#[32]⟩ 0 (Lib.countB a ⟨#[32]⟩) a
  have h2 := split_pc a.data.toList.length a.data.toList (Nat.le_refl _)
  rw [← h2]
  have h3 : Lib.splitK (⟨#[32]⟩ : ByteArray).data.toList 0 (Lib.countB a ⟨#[32]⟩) a.data.toList = Lib.splitK [32] 0 (Lib.count a.data.toList [32]) a.data.toList := rfl
  rw [← h3, ← h, List.map_map]
  exact ((List.map_congr_left fun x _ => mkB_data x).trans (List.map_id _)).symm
/-- The pieces that are not empty. -/
def flds (l cur : List UInt8) : List (List UInt8) := (pc l cur).filter fun p => !p.isEmpty
def okB (l : List UInt8) : Bool := l.all fun u => decide (32 ≤ u.toNat ∧ u.toNat ≤ 126)
def fin2 (F : List ByteArray) : List ByteArray × Bool := if F.length > 24 then ([], false) else (F, true)
/-- What SplitFields answers. -/
def splM (l : List UInt8) : List ByteArray × Bool := if l.length > 600 then ([], false) else if okB l = true then fin2 ((flds l []).map mkB) else ([], false)
theorem flds_nil (cur : List UInt8) : flds [] cur = if cur = [] then [] else [cur] := by
  unfold flds pc
  cases cur <;> simp
theorem flds_sp (r cur : List UInt8) : flds (32 :: r) cur = (if cur = [] then [] else [cur]) ++ flds r [] := by
  unfold flds
  rw [pc, if_pos rfl]
  cases cur <;> simp
theorem flds_by (u : UInt8) (r cur : List UInt8) (h : u ≠ 32) : flds (u :: r) cur = flds r (cur ++ [u]) := by
  unfold flds
  rw [pc, if_neg h]
theorem pc_len : ∀ (l cur : List UInt8), (pc l cur).length ≤ l.length + 1
  | [], cur => by simp [pc]
  | u :: r, cur => by
    rw [pc]
    split
    · have := pc_len r []
      simp only [List.length_cons]; omega
    · have := pc_len r (cur ++ [u])
      simp only [List.length_cons]; omega
theorem flds_len (l cur : List UInt8) : (flds l cur).length ≤ l.length + 1 := Nat.le_trans (List.length_filter_le _ _) (pc_len l cur)
theorem mkB_eq_nil (l : List UInt8) : (mkB l).toList = [] ↔ l = [] := by
  rw [Lib.toList_data]
  exact Iff.rfl
theorem splM_len (l : List UInt8) : (splM l).1.length ≤ 24 := by
  unfold splM fin2
  split
  · simp
  · split
    · split
      · simp
      · show ((flds l []).map mkB).length ≤ 24
        omega
    · simp
theorem impl_spl1 (P : List (List UInt8)) (hP : P.length ≤ 1000) : ∀ (d i : Nat) (out : List ByteArray), i + d = P.length → out.length ≤ i →
    Ev (fun k => impl_SplitFields.l1 k out (P.map mkB) (P.length : Int) (i : Int)) (fin2 (out ++ ((P.drop i).filter fun p => !p.isEmpty).map mkB)) := by
  intro d
  induction d with
  | zero =>
    intro i out hi ho
    refine Ev.step (fun k => impl_SplitFields.l1.eq_2 _ _ _ _ k) ?_
    simp only [if_neg (show ¬ (i : Int) < (P.length : Int) by omega)]
    rw [List.drop_of_length_le (by omega)]
    simp only [List.filter_nil, List.map_nil, List.append_nil]
    unfold fin2
    by_cases h : (out.length : Int) > 24
    · simp only [if_pos h, if_pos (show out.length > 24 by omega)]
      exact Ev.now _
    · simp only [if_neg h, if_neg (show ¬ out.length > 24 by omega)]
      exact Ev.now _
  | succ d ih =>
    intro i out hi ho
    have hl : i < P.length := by omega
    have hm : i < (P.map mkB).length := by simpa using hl
    refine Ev.step (fun k => impl_SplitFields.l1.eq_2 _ _ _ _ k) ?_
    rw [List.drop_eq_getElem_cons hl]
    simp only [if_pos (show (i : Int) < (P.length : Int) by omega), if_pos (show (0 : Int) ≤ (i : Int) by omega), if_pos (show (i : Int) < ((P.map mkB).length : Int) by simp; omega), rdOf_lt _ i hm, List.getElem_map, wrap_succ i (by omega)]
    by_cases he : P[i] = []
    · simp only [if_pos ((mkB_eq_nil _).2 he)]
      have h := ih (i + 1) out (by omega) (by omega)
      rw [List.filter_cons, he]
      exact h
    · simp only [if_neg (fun x => he ((mkB_eq_nil _).1 x)), if_pos (show out.length < 8796093022208 by omega)]
      have h := ih (i + 1) (out ++ [mkB P[i]]) (by omega) (by simp; omega)
      have hb : (!(P[i]).isEmpty) = true := by
        cases hp : P[i] with
        | nil => exact absurd hp he
        | cons a b => rfl
      rw [List.filter_cons, if_pos hb, List.map_cons]
      rw [List.append_assoc] at h
      exact h
theorem impl_spl0 (a : ByteArray) (ha : a.size ≤ 600) : ∀ (d i : Nat), i + d = a.size →
    Ev (fun k => impl_SplitFields.l0 k a (i : Int)) (if okB (a.data.toList.drop i) = true then fin2 ((flds a.data.toList []).map mkB) else ([], false)) := by
  intro d
  induction d with
  | zero =>
    intro i hi
    refine Ev.step (fun k => impl_SplitFields.l0.eq_2 _ _ k) ?_
    simp only [if_neg (show ¬ (i : Int) < (a.size : Int) by omega)]
    rw [List.drop_of_length_le (by rw [size_toList]; omega)]
    rw [if_pos (show okB [] = true from rfl)]
    unfold strings_Split.f
    have h1 : (⟨#[32]⟩ : ByteArray).size = 1 := rfl
    rw [if_pos ⟨by omega, by omega⟩, split_mk]
    have hl := pc_len a.data.toList []
    rw [size_toList] at hl
    simp only [Option.bind_some, List.length_map]
    exact impl_spl1 (pc a.data.toList []) (by omega) _ 0 [] (Nat.zero_add _) (Nat.le_refl _)
  | succ d ih =>
    intro i hi
    have hu : (a.data.getD i 0).toNat < 256 := (a.data.getD i 0).toNat_lt
    refine Ev.step (fun k => impl_SplitFields.l0.eq_2 _ _ k) ?_
    simp only [if_pos (show (i : Int) < (a.size : Int) by omega), if_pos (show (0 : Int) ≤ (i : Int) by omega), bt_get a i (by omega), wrap_succ i (by omega)]
    rw [drop_bytes a i (by omega)]
    have ho : okB (a.data.getD i 0 :: a.data.toList.drop (i + 1)) = (decide (32 ≤ (a.data.getD i 0).toNat ∧ (a.data.getD i 0).toNat ≤ 126) && okB (a.data.toList.drop (i + 1))) := rfl
    rw [ho]
    generalize (a.data.getD i 0).toNat = u at hu
    by_cases h1 : (u : Int) < 32
    · simp only [if_pos h1]
      rw [decide_eq_false (by omega), Bool.false_and]
      exact Ev.now _
    simp only [if_neg h1]
    by_cases h2 : (u : Int) > 126
    · simp only [if_pos h2]
      rw [decide_eq_false (by omega), Bool.false_and]
      exact Ev.now _
    simp only [if_neg h2]
    rw [decide_eq_true (by omega), Bool.true_and]
    exact ih (i + 1) (by omega)
theorem impl_split (a : ByteArray) : Ev (fun k => impl_SplitFields.f k a) (splM a.data.toList) := by
  unfold impl_SplitFields.f splM
  rw [size_toList]
  by_cases h : (a.size : Int) > 600
  · simp only [if_pos h, if_pos (show a.size > 600 by omega)]
    exact Ev.now _
  · simp only [if_neg h, if_neg (show ¬ a.size > 600 by omega)]
    exact impl_spl0 a (by omega) a.size 0 (by omega)
theorem cut_bytes (a : ByteArray) (b i : Nat) : a.extract b i = mkB ((a.data.toList.drop b).take (i - b)) := by
  apply ByteArray.ext
  show (a.extract b i).data = _
  rw [ByteArray.data_extract]
  apply Array.ext'
  simp [mkB, Array.toList_extract, List.extract]
theorem cut_grow (a : ByteArray) (b i : Nat) (hb : b ≤ i) (hi : i < a.size) : (a.data.toList.drop b).take (i + 1 - b) = (a.data.toList.drop b).take (i - b) ++ [a.data.getD i 0] := by
  have hl : i < a.data.toList.length := by rw [size_toList]; exact hi
  rw [show i + 1 - b = (i - b) + 1 by omega, List.take_succ_eq_append_getElem (by rw [List.length_drop]; omega)]
  congr 2
  rw [List.getElem_drop]
  have e : b + (i - b) = i := by omega
  simp only [e]
  rw [Array.getD_eq_getD_getElem?, Array.getElem?_eq_getElem (show i < a.data.size from hi), Array.getElem_toList]
  rfl
theorem spec_spl (a : ByteArray) (ha : a.size ≤ 600) : ∀ (d i b : Nat) (out : List ByteArray), i + d = a.size → b ≤ i → out.length ≤ i →
    Ev (fun k => spec_SplitFields.l0 k a out (b : Int) (i : Int)) (if okB (a.data.toList.drop i) = true then fin2 (out ++ (flds (a.data.toList.drop i) ((a.data.toList.drop b).take (i - b))).map mkB) else ([], false)) := by
  intro d
  induction d with
  | zero =>
    intro i b out hi hb ho
    have hend : ∀ (o : List ByteArray) (x : Int), Ev (fun k => spec_SplitFields.l0 k a o x ((i + 1 : Nat) : Int)) (fin2 o) := by
      intro o x
      refine Ev.step (fun k => spec_SplitFields.l0.eq_2 _ _ _ _ k) ?_
      simp only [if_neg (show ¬ ((i + 1 : Nat) : Int) ≤ (a.size : Int) by omega)]
      unfold fin2
      by_cases h : (o.length : Int) > 24
      · simp only [if_pos h, if_pos (show o.length > 24 by omega)]
        exact Ev.now _
      · simp only [if_neg h, if_neg (show ¬ o.length > 24 by omega)]
        exact Ev.now _
    refine Ev.step (fun k => spec_SplitFields.l0.eq_2 _ _ _ _ k) ?_
    simp only [if_pos (show (i : Int) ≤ (a.size : Int) by omega), if_neg (show ¬ (i : Int) < (a.size : Int) by omega)]
    refine Ev.step (fun k => spec_SplitFields.j1.eq_2 _ _ _ _ _ k) ?_
    simp only [Bool.false_eq_true, if_false, if_neg (show ¬ (i : Int) < (a.size : Int) by omega)]
    refine Ev.step (fun k => spec_SplitFields.j2.eq_2 _ _ _ _ _ k) ?_
    simp only [Bool.false_eq_true, if_false, wrap_succ i (by omega), Int.toNat_natCast]
    rw [List.drop_of_length_le (i := i) (by rw [size_toList]; omega), if_pos (show okB [] = true from rfl), flds_nil]
    by_cases hlt : (b : Int) < (i : Int)
    · simp only [if_pos hlt, if_pos (show (0 : Int) ≤ (b : Int) by omega), if_pos (show (b : Int) ≤ (i : Int) by omega), if_pos (show (i : Int) ≤ (a.size : Int) by omega), if_pos (show out.length < 8796093022208 by omega), cut_bytes]
      have hne : (a.data.toList.drop b).take (i - b) ≠ [] := by
        intro h
        have := congrArg List.length h
        rw [List.length_take, List.length_drop, size_toList] at this
        simp at this
        omega
      rw [if_neg hne]
      exact hend _ _
    · simp only [if_neg hlt]
      have he : (a.data.toList.drop b).take (i - b) = [] := by rw [show i - b = 0 by omega]; rfl
      rw [if_pos he]
      simp only [List.map_nil, List.append_nil]
      exact hend _ _
  | succ d ih =>
    intro i b out hi hb ho
    have hu : (a.data.getD i 0).toNat < 256 := (a.data.getD i 0).toNat_lt
    refine Ev.step (fun k => spec_SplitFields.l0.eq_2 _ _ _ _ k) ?_
    simp only [if_pos (show (i : Int) ≤ (a.size : Int) by omega), if_pos (show (i : Int) < (a.size : Int) by omega), if_pos (show (0 : Int) ≤ (i : Int) by omega), bt_get a i (by omega)]
    rw [drop_bytes a i (by omega)]
    have hok : okB (a.data.getD i 0 :: a.data.toList.drop (i + 1)) = (decide (32 ≤ (a.data.getD i 0).toNat ∧ (a.data.getD i 0).toNat ≤ 126) && okB (a.data.toList.drop (i + 1))) := rfl
    rw [hok]
    by_cases h1 : ((a.data.getD i 0).toNat : Int) < 32
    · simp only [if_pos h1]
      rw [decide_eq_false (by omega), Bool.false_and]
      refine Ev.step (fun k => spec_SplitFields.j1.eq_2 _ _ _ _ _ k) ?_
      simp only [if_true]
      exact Ev.now _
    simp only [if_neg h1]
    refine Ev.step (fun k => spec_SplitFields.j1.eq_2 _ _ _ _ _ k) ?_
    by_cases h2 : ((a.data.getD i 0).toNat : Int) > 126
    · simp only [decide_eq_true h2, if_true]
      rw [decide_eq_false (by omega), Bool.false_and]
      exact Ev.now _
    simp only [decide_eq_false h2, Bool.false_eq_true, if_false, if_pos (show (i : Int) < (a.size : Int) by omega), if_pos (show (0 : Int) ≤ (i : Int) by omega), bt_get a i (by omega)]
    rw [decide_eq_true (by omega), Bool.true_and]
    refine Ev.step (fun k => spec_SplitFields.j2.eq_2 _ _ _ _ _ k) ?_
    by_cases h3 : a.data.getD i 0 = 32
    · have e3 : (((a.data.getD i 0).toNat : Int) != 32) = false := by rw [h3]; rfl
      simp only [e3, Bool.false_eq_true, if_false, wrap_succ i (by omega), Int.toNat_natCast]
      rw [h3, flds_sp]
      have hnil : (a.data.toList.drop (i + 1)).take (i + 1 - (i + 1)) = [] := by rw [Nat.sub_self]; rfl
      by_cases hlt : (b : Int) < (i : Int)
      · simp only [if_pos hlt, if_pos (show (0 : Int) ≤ (b : Int) by omega), if_pos (show (b : Int) ≤ (i : Int) by omega), if_pos (show (i : Int) ≤ (a.size : Int) by omega), if_pos (show out.length < 8796093022208 by omega), cut_bytes]
        have hne : (a.data.toList.drop b).take (i - b) ≠ [] := by
          intro h
          have := congrArg List.length h
          rw [List.length_take, List.length_drop, size_toList] at this
          simp at this
          omega
        rw [if_neg hne]
        have h := ih (i + 1) (i + 1) (out ++ [mkB ((a.data.toList.drop b).take (i - b))]) (by omega) (Nat.le_refl _) (by simp; omega)
        rw [hnil] at h
        rw [List.map_append, List.map_cons, List.map_nil, ← List.append_assoc]
        exact h
      · simp only [if_neg hlt]
        have he : (a.data.toList.drop b).take (i - b) = [] := by rw [show i - b = 0 by omega]; rfl
        rw [if_pos he, List.nil_append]
        have h := ih (i + 1) (i + 1) out (by omega) (Nat.le_refl _) (by omega)
        rw [hnil] at h
        exact h
    · have e3 : (((a.data.getD i 0).toNat : Int) != 32) = true := by
        rw [bne_iff_ne]
        intro h
        apply h3
        apply UInt8.toNat_inj.1
        show _ = 32
        omega
      simp only [e3, if_true, wrap_succ i (by omega)]
      rw [flds_by _ _ _ h3]
      have h := ih (i + 1) b out (by omega) (by omega) (by omega)
      rw [cut_grow a b i hb (by omega)] at h
      exact h
theorem spec_split (a : ByteArray) : Ev (fun k => spec_SplitFields.f k a) (splM a.data.toList) := by
  unfold spec_SplitFields.f splM
  rw [size_toList]
  simp only [Option.bind_some]
  by_cases h : (a.size : Int) > 600
  · simp only [if_pos h, if_pos (show a.size > 600 by omega)]
    exact Ev.now _
  · simp only [if_neg h, if_neg (show ¬ a.size > 600 by omega)]
    exact spec_spl a (by omega) a.size 0 0 [] (by omega) (Nat.le_refl _) (Nat.le_refl _)
theorem splM_false (l : List UInt8) (h : (splM l).2 = false) : (splM l).1 = [] := by
  unfold splM at *
  split
  · rfl
  · rename_i h6
    rw [if_neg h6] at h
    split
    · rename_i ho
      rw [if_pos ho] at h
      unfold fin2 at *
      split
      · rfl
      · rename_i hf
        rw [if_neg hf] at h
        cases h
    · rfl
theorem splM_true (l : List UInt8) (h : (splM l).2 = true) : (splM l).1 = (flds l []).map mkB ∧ okB l = true ∧ (flds l []).length ≤ 24 := by
  unfold splM at *
  by_cases h6 : l.length > 600
  · rw [if_pos h6] at h; cases h
  · rw [if_neg h6] at h ⊢
    by_cases ho : okB l = true
    · rw [if_pos ho] at h ⊢
      unfold fin2 at *
      by_cases hf : ((flds l []).map mkB).length > 24
      · rw [if_pos hf] at h; cases h
      · rw [if_neg hf]
        rw [List.length_map] at hf
        exact ⟨rfl, ho, by omega⟩
    · rw [if_neg ho] at h; cases h
theorem okB_app (a b : List UInt8) : okB (a ++ b) = (okB a && okB b) := by unfold okB; rw [List.all_append]
theorem pc_ok : ∀ (l cur : List UInt8), okB l = true → okB cur = true → ∀ p ∈ pc l cur, okB p = true
  | [], cur, _, hc, p, hp => by
    simp only [pc, List.mem_singleton] at hp
    subst hp
    exact hc
  | u :: r, cur, hl, hc, p, hp => by
    have h1 : okB (u :: r) = (okB [u] && okB r) := okB_app [u] r
    rw [h1, Bool.and_eq_true] at hl
    rw [pc] at hp
    split at hp
    · rcases List.mem_cons.1 hp with rfl | hp
      · exact hc
      · exact pc_ok r [] hl.2 rfl p hp
    · exact pc_ok r _ hl.2 (by rw [okB_app, hc, hl.1]; rfl) p hp
theorem pc_no : ∀ (l cur : List UInt8), (32 : UInt8) ∉ cur → ∀ p ∈ pc l cur, (32 : UInt8) ∉ p
  | [], cur, hc, p, hp => by
    simp only [pc, List.mem_singleton] at hp
    subst hp
    exact hc
  | u :: r, cur, hc, p, hp => by
    rw [pc] at hp
    split at hp
    · rcases List.mem_cons.1 hp with rfl | hp
      · exact hc
      · exact pc_no r [] (by simp) p hp
    · rename_i hu
      refine pc_no r _ ?_ p hp
      rw [List.mem_append, List.mem_singleton]
      rintro (h | h)
      · exact hc h
      · exact hu h.symm
theorem flds_run : ∀ (p r cur : List UInt8), (32 : UInt8) ∉ p → flds (p ++ r) cur = flds r (cur ++ p)
  | [], r, cur, _ => by simp
  | u :: p, r, cur, h => by
    rw [List.cons_append, flds_by _ _ _ (fun hu => h (by simp [hu])), flds_run p r _ (fun hm => h (by simp [hm]))]
    simp
def line (F : List (List UInt8)) : List UInt8 := (F.map (· ++ [32])).flatten
theorem flds_line : ∀ (F : List (List UInt8)), (∀ p ∈ F, p ≠ [] ∧ (32 : UInt8) ∉ p) → flds (line F) [] = F
  | [], _ => rfl
  | p :: r, h => by
    have hp := h p (by simp)
    have e : line (p :: r) = p ++ (32 :: line r) := by simp [line]
    rw [e, flds_run p _ _ hp.2, List.nil_append, flds_sp, if_neg hp.1, flds_line r (fun q hq => h q (by simp [hq]))]
    rfl
theorem okB_line : ∀ (F : List (List UInt8)), (∀ p ∈ F, okB p = true) → okB (line F) = true
  | [], _ => rfl
  | p :: r, h => by
    have e : line (p :: r) = p ++ ([32] ++ line r) := by simp [line]
    rw [e, okB_app, okB_app, h p (by simp), okB_line r (fun q hq => h q (by simp [hq]))]
    rfl
theorem pc_each : ∀ (l cur : List UInt8), ∀ p ∈ pc l cur, p.length ≤ cur.length + l.length
  | [], cur, p, hp => by
    simp only [pc, List.mem_singleton] at hp
    subst hp
    simp
  | u :: r, cur, p, hp => by
    rw [pc] at hp
    split at hp
    · rcases List.mem_cons.1 hp with rfl | hp
      · simp only [List.length_cons]; omega
      · have := pc_each r [] p hp
        simp only [List.length_cons, List.length_nil] at this ⊢; omega
    · have := pc_each r _ p hp
      simp only [List.length_append, List.length_cons, List.length_nil] at this ⊢; omega
theorem same_loop (l : List ByteArray) (hl : l.length ≤ 1000) : ∀ (d i : Nat), i + d = l.length → Ev (fun k => laws_sameTexts.l0 k l l (i : Int)) true := by
  intro d
  induction d with
  | zero =>
    intro i hi
    refine Ev.step (fun k => laws_sameTexts.l0.eq_2 _ _ _ k) ?_
    simp only [if_neg (show ¬ (i : Int) < (l.length : Int) by omega)]
    exact Ev.now _
  | succ d ih =>
    intro i hi
    refine Ev.step (fun k => laws_sameTexts.l0.eq_2 _ _ _ k) ?_
    simp only [if_pos (show (i : Int) < (l.length : Int) by omega), if_pos (show (0 : Int) ≤ (i : Int) by omega), if_true, wrap_succ i (by omega)]
    exact ih (i + 1) (by omega)
theorem same_texts (l : List ByteArray) (hl : l.length ≤ 1000) : Ev (fun k => laws_sameTexts.f k l l) true := by
  unfold laws_sameTexts.f
  simp only [if_true]
  exact same_loop l hl l.length 0 (by omega)
theorem again_loop (F : List (List UInt8)) (hF : F.length ≤ 24) (hE : ∀ p ∈ F, p ≠ [] ∧ (32 : UInt8) ∉ p ∧ okB p = true ∧ p.length ≤ 600) : ∀ (d i : Nat) (s : List UInt8), i + d = F.length → s = line (F.take i) → s.length ≤ 601 * i →
    Ev (fun k => laws_FnFieldsAgain.l0 k (F.map mkB) true ⟨s.toArray⟩ (i : Int)) true := by
  intro d
  induction d with
  | zero =>
    intro i s hi hs hz
    rw [List.take_of_length_le (by omega)] at hs
    subst hs
    refine Ev.step (fun k => laws_FnFieldsAgain.l0.eq_2 _ _ _ _ k) ?_
    simp only [if_neg (show ¬ (i : Int) < ((F.map mkB).length : Int) by rw [List.length_map]; omega)]
    refine Ev.bind (impl_split _) ?_
    simp only [if_true, size_mk]
    by_cases h6 : ((line F).length : Int) > 600
    · simp only [if_pos h6]
      exact Ev.now _
    · simp only [if_neg h6]
      have e : splM (line F) = (F.map mkB, true) := by
        unfold splM
        rw [if_neg (by omega), if_pos (okB_line F fun p hp => (hE p hp).2.2.1), flds_line F fun p hp => ⟨(hE p hp).1, (hE p hp).2.1⟩]
        unfold fin2
        rw [if_neg (by rw [List.length_map]; omega)]
      rw [e]
      simp only [if_true]
      refine Ev.bind (same_texts _ (by rw [List.length_map]; omega)) ?_
      exact Ev.now _
  | succ d ih =>
    intro i s hi hs hz
    have hil : i < F.length := by omega
    have he := hE F[i] (List.getElem_mem _)
    have hil2 : i < (F.map mkB).length := by rw [List.length_map]; exact hil
    refine Ev.step (fun k => laws_FnFieldsAgain.l0.eq_2 _ _ _ _ k) ?_
    simp only [if_pos (show (i : Int) < ((F.map mkB).length : Int) by rw [List.length_map]; omega), if_pos (show (0 : Int) ≤ (i : Int) by omega), rdOf_lt _ i hil2, List.getElem_map]
    have hm : (mkB F[i]).size = F[i].length := size_mk _
    have happ : (⟨s.toArray⟩ : ByteArray) ++ mkB F[i] = ⟨(s ++ F[i]).toArray⟩ := str_app _ _
    simp only [size_mk, hm, happ, if_pos (show s.length + F[i].length ≤ 9223372036854775807 by omega), List.length_append, if_pos (show s.length + F[i].length + 1 ≤ 9223372036854775807 by omega), wrap_succ i (by omega)]
    rw [show (⟨#[32]⟩ : ByteArray) = ⟨[(32 : UInt8)].toArray⟩ from rfl, str_app]
    refine ih (i + 1) _ (by omega) ?_ (by simp only [List.length_append, List.length_cons, List.length_nil]; omega)
    have e1 : F.take (i + 1) = F.take i ++ [F[i]] := List.take_succ_eq_append_getElem hil
    rw [e1, hs]
    simp only [line, List.map_append, List.map_cons, List.map_nil, List.flatten_append, List.flatten_cons, List.flatten_nil, List.append_nil, List.append_assoc]
theorem FnFieldsAgain : laws_FnFieldsAgain.Pure := by
  intro l hm hs hw
  refine Ev.rounds ?_
  simp only [laws_FnFieldsAgain.f, laws_big.f, Option.bind_some, decide_eq_true_eq]
  by_cases hb : (l.length : Int) > 1048576
  · simp only [if_pos hb]
    exact Ev.now _
  simp only [if_neg hb]
  obtain ⟨s, e⟩ := draw_fields l (by omega)
  refine Ev.bind e ?_
  refine Ev.bind (impl_split s) ?_
  refine Ev.bind (spec_split s) ?_
  cases h : (splM s.data.toList).2 with
  | true =>
    simp only [if_true]
    obtain ⟨h1, h2, h3⟩ := splM_true _ h
    rw [h1]
    have h6 : s.data.toList.length ≤ 600 := by
      refine Decidable.byContradiction fun hn => ?_
      unfold splM at h
      rw [if_pos (by omega)] at h
      cases h
    refine again_loop _ h3 (fun p hp => ?_) (flds s.data.toList []).length 0 [] (by omega) rfl (by simp)
    obtain ⟨hp1, hp2⟩ := List.mem_filter.1 hp
    refine ⟨?_, pc_no _ _ (by simp) p hp1, pc_ok _ _ h2 rfl p hp1, ?_⟩
    · intro hp0
      subst hp0
      simp at hp2
    · have := pc_each _ _ p hp1
      simp only [List.length_nil] at this
      omega
  | false =>
    rw [splM_false _ h]
    simp only [Bool.false_eq_true, if_false, List.length_nil, impl_FormatInt.f]
    have e3 : Lib.itoa (-3) = [45, 51] := by
      rw [show (-3 : Int) = -((3 : Nat) : Int) from rfl, Lib.itoa_neg 3 (by omega), Lib.decDigits_one (by omega)]
      rfl
    rw [if_pos (by rfl)]
    refine Ev.congr (fun k => ?_) (Ev.now true)
    rw [if_pos (by omega)]
    simp only [Option.bind_some, toList_mk, e3]
    rfl

end Go.Proofs.YtbfeaekgbgfcjaaDoor.Pure
