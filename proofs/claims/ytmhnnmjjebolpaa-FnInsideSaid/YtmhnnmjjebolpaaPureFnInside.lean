/- A shifted path contains the shifted dots, and a path in the other direction the same ones. (P8) This is its pure statement, over numbers and lists, as printed from the program; the row is built on it.
   Conditions: none. -/
import Derived.Test.YtmhnnmjjebolpaaGFnInsidex4
namespace Go.Proofs.Ytmhnnmjjebolpaa.Pure
set_option linter.unusedSimpArgs false
set_option linter.unusedVariables false
open Go.RowKit Go.Proofs.Ytmhnnmjjebolpaa.GFnInside Go.Proofs.YtmhnnmjjebolpaaW.PrintWords Go.Proofs.YtmhnnmjjebolpaaW.PrintLast

theorem wrap_id {x : Int} (h0 : -9223372036854775808 ≤ x) (h1 : x ≤ 9223372036854775807) : wrap64 x = x := by
  unfold wrap64
  omega
theorem wrap_succ (i : Nat) (h : i < 4611686018427387904) : wrap64 ((i : Int) + 1) = ((i + 1 : Nat) : Int) := by
  rw [wrap_id (by omega) (by omega)]
  omega
theorem rd_lt (l : List Int) (i : Nat) (h : i < l.length) : rd l (i : Int) = l[i] := by
  unfold rd
  rw [Int.toNat_natCast, List.getD_eq_getElem?_getD, List.getElem?_eq_getElem h]
  rfl
theorem set_take {α : Type} (l x : List α) (i : Nat) (hi : i < l.length) (hx : x.length = l.length) (h : x.take i = l.take i) :
    (x.set i l[i]).take (i + 1) = l.take (i + 1) := by
  rw [List.take_succ_eq_append_getElem (by simp; omega), List.take_succ_eq_append_getElem hi, List.getElem_set_self, List.take_set_of_le (Nat.le_refl i), h]
def allFrom (p : Nat → Bool) (n i : Nat) : Bool := (List.range' i (n - i)).all p
theorem all_end (p : Nat → Bool) (n : Nat) : allFrom p n n = true := by simp [allFrom]
theorem all_step (p : Nat → Bool) (n i : Nat) (h : i < n) : allFrom p n i = (p i && allFrom p n (i + 1)) := by
  unfold allFrom
  rw [show n - i = (n - (i + 1)) + 1 by omega, List.range'_succ, List.all_cons]
theorem all_iff (p : Nat → Bool) (n i : Nat) : allFrom p n i = true ↔ ∀ j, i ≤ j → j < n → p j = true := by
  unfold allFrom
  rw [List.all_eq_true]
  constructor
  · intro h j h1 h2
    exact h j (List.mem_range'_1.2 ⟨h1, by omega⟩)
  · intro h j hj
    have := List.mem_range'_1.1 hj
    exact h j this.1 (by omega)
theorem and_low (x : Int) : 0 ≤ Go.bits .and .i64 x 255 ∧ Go.bits .and .i64 x 255 ≤ 255 := by
  have h : ((BitVec.ofInt 64 x) &&& (BitVec.ofInt 64 255)).toNat ≤ 255 := by
    rw [BitVec.toNat_and]
    exact Nat.and_le_right
  have e : Go.bits .and .i64 x 255 = IntKind.i64.wrap ((((BitVec.ofInt 64 x) &&& (BitVec.ofInt 64 255)).toNat : Nat) : Int) := rfl
  rw [e]
  generalize ((BitVec.ofInt 64 x) &&& (BitVec.ofInt 64 255)).toNat = n at h
  have e2 : IntKind.i64.wrap ((n : Nat) : Int) = n := by
    simp only [IntKind.wrap, IntKind.bits, IntKind.signed]
    simp
    omega
  rw [e2]
  omega
theorem draw_new (l : List Int) (hl : l.length ≤ 1048576) : ∃ h, Ev (fun k => spec_l01New.f k l) (l, 0, h) := by
  unfold spec_l01New.f
  have loop : ∀ (d i : Nat) (h : Int), i + d = l.length → ∃ h', Ev (fun k => spec_l01New.l0 k l h (i : Int)) (l, 0, h') := by
    intro d
    induction d with
    | zero =>
      intro i h hi
      refine ⟨h, Ev.step (fun k => spec_l01New.l0.eq_2 _ _ _ k) ?_⟩
      simp only [if_neg (show ¬ (i : Int) < (l.length : Int) by omega)]
      exact Ev.now _
    | succ d ih =>
      intro i h hi
      by_cases hc : (i : Int) < 4000
      · obtain ⟨h', hh⟩ := ih (i + 1) (Go.bits .and .i64 (wrap64 ((wrap64 ((wrap64 (h * 131)) + (wrap64 (rd l i)))) + 7)) 1073741823) (by omega)
        refine ⟨h', Ev.step (fun k => spec_l01New.l0.eq_2 _ _ _ k) ?_⟩
        simp only [if_pos (show (i : Int) < (l.length : Int) by omega), if_pos hc, if_pos (show (0 : Int) ≤ (i : Int) by omega)]
        rw [wrap_succ i (by omega)]
        exact hh
      · refine ⟨h, Ev.step (fun k => spec_l01New.l0.eq_2 _ _ _ k) ?_⟩
        simp only [if_pos (show (i : Int) < (l.length : Int) by omega), if_neg hc]
        exact Ev.now _
  exact loop l.length 0 _ (by omega)
/-- A place in the bytes of a draw. -/
def Cur (l : List Int) (i : Int) : Prop := 0 ≤ i ∧ i ≤ (l.length : Int)
theorem draw_byte (l : List Int) (hl : l.length ≤ 1048576) (i h : Int) (hi : Cur l i) : ∃ v i' h', spec_l01Byte.f l i h = some (v, i', h') ∧ Cur l i' ∧ 0 ≤ v ∧ v ≤ 255 := by
  unfold spec_l01Byte.f
  unfold Cur at *
  by_cases hc : i < (l.length : Int)
  · rw [if_pos hc, if_pos hi.1]
    exact ⟨_, _, _, rfl, by rw [wrap_id (by omega) (by omega)]; omega, (and_low _).1, (and_low _).2⟩
  · rw [if_neg hc]
    exact ⟨_, _, _, rfl, hi, (and_low _).1, (and_low _).2⟩
theorem tmod_low (v n : Int) (h0 : 0 ≤ v) (hn : 0 < n) : 0 ≤ Int.tmod v n ∧ Int.tmod v n < n :=
  ⟨Int.tmod_nonneg n h0, Int.tmod_lt_of_pos v hn⟩
theorem draw_below (l : List Int) (hl : l.length ≤ 1048576) (i h n : Int) (hi : Cur l i) (hn : 0 < n) : ∃ v i' h', spec_l01Below.f l i h n = some (v, i', h') ∧ Cur l i' ∧ 0 ≤ v ∧ v < n := by
  unfold spec_l01Below.f
  rw [if_neg (by omega)]
  by_cases hc : n ≤ 256
  · rw [if_pos hc]
    obtain ⟨v, i1, h1, e, c1, v0, v1⟩ := draw_byte l hl i h hi
    rw [e]
    simp only [Option.bind_some]
    rw [if_neg (by omega)]
    exact ⟨_, _, _, rfl, c1, tmod_low v n v0 hn⟩
  · rw [if_neg hc]
    obtain ⟨a, i1, h1, e1, c1, a0, a1⟩ := draw_byte l hl i h hi
    obtain ⟨b, i2, h2, e2, c2, b0, b1⟩ := draw_byte l hl i1 h1 c1
    obtain ⟨c, i3, h3, e3, c3, x0, x1⟩ := draw_byte l hl i2 h2 c2
    obtain ⟨d, i4, h4, e4, c4, d0, d1⟩ := draw_byte l hl i3 h3 c3
    simp only [e1, e2, e3, e4, Option.bind_some]
    rw [if_neg (by omega)]
    refine ⟨_, _, _, rfl, c4, ?_⟩
    rw [wrap_id (x := a * 16777216) (by omega) (by omega), wrap_id (x := b * 65536) (by omega) (by omega), wrap_id (x := c * 256) (by omega) (by omega),
      wrap_id (x := a * 16777216 + b * 65536) (by omega) (by omega), wrap_id (x := a * 16777216 + b * 65536 + c * 256) (by omega) (by omega), wrap_id (by omega) (by omega)]
    exact tmod_low _ n (by omega) hn
theorem draw_pick (l : List Int) (hl : l.length ≤ 1048576) (i h : Int) (m : List Int) (hi : Cur l i) (hm : 0 < m.length) : ∃ v i' h', spec_l01PickInt.f l i h m = some (v, i', h') ∧ Cur l i' ∧ v ∈ m := by
  unfold spec_l01PickInt.f
  obtain ⟨v, i1, h1, e, c1, v0, v1⟩ := draw_below l hl i h (m.length : Int) hi (by omega)
  rw [e]
  simp only [Option.bind_some]
  rw [if_pos v0, if_pos v1]
  refine ⟨_, _, _, rfl, c1, ?_⟩
  obtain ⟨n, rfl⟩ := Int.eq_ofNat_of_zero_le v0
  rw [rd_lt m n (by omega)]
  exact List.getElem_mem _
theorem draw_co (l : List Int) (hl : l.length ≤ 1048576) (i h : Int) (hi : Cur l i) : ∃ a b v i1 h1 i2 h2 i3 h3, spec_l01Below.f l i h 33 = some (a, i1, h1) ∧ spec_l01Below.f l i1 h1 41 = some (b, i2, h2) ∧
    spec_l01PickInt.f l i2 h2 (([0, 32, a, wrap64 (b - 4)] : List Int)) = some (v, i3, h3) ∧ Cur l i3 ∧ -4 ≤ v ∧ v ≤ 36 := by
  obtain ⟨a, i1, h1, e1, c1, a0, a1⟩ := draw_below l hl i h 33 hi (by omega)
  obtain ⟨b, i2, h2, e2, c2, b0, b1⟩ := draw_below l hl i1 h1 41 c1 (by omega)
  obtain ⟨v, i3, h3, e3, c3, hv⟩ := draw_pick l hl i2 h2 [0, 32, a, wrap64 (b - 4)] c2 (by simp)
  refine ⟨a, b, v, i1, h1, i2, h2, i3, h3, e1, e2, e3, c3, ?_⟩
  rw [wrap_id (x := b - 4) (by omega) (by omega)] at hv
  simp only [List.mem_cons, List.not_mem_nil, or_false] at hv
  omega
theorem draw_point (l : List Int) (hl : l.length ≤ 1048576) (i h : Int) (hi : Cur l i) : ∃ x y i' h', spec_l02Point.f l i h = some (x, y, i', h') ∧ Cur l i' ∧ (-4 ≤ x ∧ x ≤ 36) ∧ (-4 ≤ y ∧ y ≤ 36) := by
  obtain ⟨a, b, v, i1, h1, i2, h2, i3, h3, e1, e2, e3, c3, v0, v1⟩ := draw_co l hl i h hi
  obtain ⟨a', b', v', i4, h4, i5, h5, i6, h6, e4, e5, e6, c6, w0, w1⟩ := draw_co l hl i3 h3 c3
  refine ⟨v, v', i6, h6, ?_, c6, ⟨v0, v1⟩, ⟨w0, w1⟩⟩
  simp only [spec_l02Point.f, e1, e2, e3, e4, e5, e6, Option.bind_some]
def ptB (p : S30) : Bool := decide ((-200 ≤ p.f0 ∧ p.f0 ≤ 200) ∧ (-200 ≤ p.f1 ∧ p.f1 ≤ 200))
def pathB (l : List S30) : Bool := decide (l.length ≤ 8) && l.all ptB
def nearB (p : S30) : Prop := (-4 ≤ p.f0 ∧ p.f0 ≤ 36) ∧ (-4 ≤ p.f1 ∧ p.f1 ≤ 36)
theorem draw_shape (l : List Int) (hl : l.length ≤ 1048576) : ∃ q, Ev (fun k => spec_DrawShape.f k l) q ∧ 3 ≤ q.length ∧ q.length ≤ 6 ∧ ∀ p ∈ q, nearB p := by
  obtain ⟨h0, e0⟩ := draw_new l hl
  have c0 : Cur l 0 := ⟨by omega, by omega⟩
  obtain ⟨b, i1, h1, e1, c1, b0, b1⟩ := draw_below l hl 0 h0 4 c0 (by omega)
  have loop : ∀ (d j : Nat) (i h : Int) (q : List S30), Cur l i → (j : Int) + d = 3 + b → q.length = j → (∀ p ∈ q, nearB p) →
      ∃ q' i' h', Ev (fun k => spec_l08Path.l0 k q (3 + b) (j : Int) l i h) (q', i', h') ∧ q'.length = j + d ∧ (∀ p ∈ q', nearB p) := by
    intro d
    induction d with
    | zero =>
      intro j i h q hc hj hq hp
      refine ⟨q, i, h, Ev.step (fun k => spec_l08Path.l0.eq_2 _ _ _ _ _ _ k) ?_, hq, hp⟩
      simp only [if_neg (show ¬ (j : Int) < 3 + b by omega)]
      exact Ev.now _
    | succ d ih =>
      intro j i h q hc hj hq hp
      obtain ⟨x, y, i2, h2, e2, c2, hx, hy⟩ := draw_point l hl i h hc
      obtain ⟨q', i', h', e', hl', hp'⟩ := ih (j + 1) i2 h2 (q ++ [⟨x, y⟩]) c2 (by omega) (by simp; omega) (by
        intro p hm
        rw [List.mem_append] at hm
        rcases hm with hm | hm
        · exact hp p hm
        · rw [List.mem_singleton] at hm
          subst hm
          exact ⟨hx, hy⟩)
      refine ⟨q', i', h', Ev.step (fun k => spec_l08Path.l0.eq_2 _ _ _ _ _ _ k) ?_, by omega, hp'⟩
      simp only [if_pos (show (j : Int) < 3 + b by omega), e2, Option.bind_some, if_pos (show q.length < 8796093022208 by omega)]
      rw [wrap_succ j (by omega)]
      exact e'
  obtain ⟨n, hn⟩ := Int.eq_ofNat_of_zero_le b0
  obtain ⟨q, i', h', e, hlen, hp⟩ := loop (3 + n) 0 i1 h1 [] c1 (by omega) rfl (by simp)
  refine ⟨q, ?_, by omega, by omega, hp⟩
  unfold spec_DrawShape.f
  refine Ev.bind e0 ?_
  refine Ev.bind (a := (q, i', h')) ?_ (Ev.now _)
  unfold spec_l08Path.f
  simp only [e1, Option.bind_some]
  rw [wrap_id (x := 3 + b) (by omega) (by omega)]
  exact e
theorem near_path (q : List S30) (h6 : q.length ≤ 6) (hp : ∀ p ∈ q, nearB p) : pathB q = true := by
  unfold pathB
  rw [decide_eq_true (by omega), Bool.true_and, List.all_eq_true]
  intro p hm
  have := hp p hm
  unfold nearB at this
  exact decide_eq_true (by omega)
theorem draw_places (l : List Int) (hl : l.length ≤ 1048576) : ∃ q, Ev (fun k => spec_DrawPlaces.f k l) q ∧ q.length = 12 ∧ ∀ p ∈ q, 0 ≤ p ∧ p < 10000 := by
  obtain ⟨h0, e0⟩ := draw_new l hl
  have loop : ∀ (d j : Nat) (i h : Int) (q : List Int), Cur l i → j + d = 12 → q.length = j → (∀ p ∈ q, 0 ≤ p ∧ p < 10000) →
      ∃ q', Ev (fun k => spec_DrawPlaces.l0 k q (j : Int) l i h) q' ∧ q'.length = 12 ∧ (∀ p ∈ q', 0 ≤ p ∧ p < 10000) := by
    intro d
    induction d with
    | zero =>
      intro j i h q hc hj hq hp
      refine ⟨q, Ev.step (fun k => spec_DrawPlaces.l0.eq_2 _ _ _ _ _ k) ?_, by omega, hp⟩
      simp only [if_neg (show ¬ (j : Int) < 12 by omega)]
      exact Ev.now _
    | succ d ih =>
      intro j i h q hc hj hq hp
      obtain ⟨v, i2, h2, e2, c2, v0, v1⟩ := draw_below l hl i h 10000 hc (by omega)
      obtain ⟨q', e', hl', hp'⟩ := ih (j + 1) i2 h2 (q ++ [v]) c2 (by omega) (by simp; omega) (by
        intro p hm
        rw [List.mem_append] at hm
        rcases hm with hm | hm
        · exact hp p hm
        · rw [List.mem_singleton] at hm
          subst hm
          exact ⟨v0, v1⟩)
      refine ⟨q', Ev.step (fun k => spec_DrawPlaces.l0.eq_2 _ _ _ _ _ k) ?_, hl', hp'⟩
      simp only [if_pos (show (j : Int) < 12 by omega), e2, Option.bind_some, if_pos (show q.length < 17592186044416 by omega)]
      rw [wrap_succ j (by omega)]
      exact e'
  obtain ⟨q, e, hlen, hp⟩ := loop 12 0 0 h0 [] ⟨by omega, by omega⟩ (by omega) rfl (by simp)
  refine ⟨q, ?_, hlen, hp⟩
  unfold spec_DrawPlaces.f
  exact Ev.bind e0 e
theorem place_at (q : List Int) (hq : q.length = 12) (hp : ∀ p ∈ q, 0 ≤ p ∧ p < 10000) (i : Nat) (hi : i < 12) : 0 ≤ rd q (i : Int) ∧ rd q (i : Int) < 10000 := by
  rw [rd_lt q i (by omega)]
  exact hp _ (List.getElem_mem _)
theorem spec_in (a b c : Int) : spec_l01In.f a b c = some (decide (b ≤ a ∧ a ≤ c)) := by
  unfold spec_l01In.f
  by_cases h : b ≤ a <;> simp [h]
theorem impl_in (a b c : Int) : impl_within.f a b c = some (decide (b ≤ a ∧ a ≤ c)) := by
  unfold impl_within.f
  by_cases h : b ≤ a <;> simp [h]
def inB (a b c : Int) : Bool := decide (b ≤ a ∧ a ≤ c)
theorem spec_coord (a : Int) : spec_l02In.f a = some (decide (-200 ≤ a ∧ a ≤ 200)) := by
  simp only [spec_l02In.f, spec_in, Option.bind_some]
theorem impl_coord (a : Int) : impl_coordOk.f a = some (decide (-200 ≤ a ∧ a ≤ 200)) := by
  simp only [impl_coordOk.f, impl_in, Option.bind_some]
theorem spec_point (a b : Int) : spec_PointOk.f a b = some (decide ((-200 ≤ a ∧ a ≤ 200) ∧ (-200 ≤ b ∧ b ≤ 200))) := by
  simp only [spec_PointOk.f, spec_coord, Option.bind_some]
  by_cases h : -200 ≤ a ∧ a ≤ 200
  · simp only [decide_eq_true h, if_true]
    congr 1
    exact decide_eq_decide.2 ⟨fun h' => ⟨h, h'⟩, fun h' => h'.2⟩
  · simp only [decide_eq_false h, Bool.false_eq_true, if_false]
    congr 1
    exact (decide_eq_false fun h' => h h'.1).symm
theorem impl_point (a b : Int) : impl_PointOk.f a b = some (decide ((-200 ≤ a ∧ a ≤ 200) ∧ (-200 ≤ b ∧ b ≤ 200))) := by
  simp only [impl_PointOk.f, impl_coord, Option.bind_some]
  by_cases h : -200 ≤ a ∧ a ≤ 200
  · simp only [decide_eq_true h, if_true]
    congr 1
    exact decide_eq_decide.2 ⟨fun h' => ⟨h, h'⟩, fun h' => h'.2⟩
  · simp only [decide_eq_false h, Bool.false_eq_true, if_false]
    congr 1
    exact (decide_eq_false fun h' => h h'.1).symm
theorem rdiPoint_lt (l : List S30) (i : Nat) (h : i < l.length) : rd_T30 l (i : Int) = l[i] := by
  unfold rd_T30
  rw [Int.toNat_natCast, List.getD_eq_getElem?_getD, List.getElem?_eq_getElem h]
  rfl
theorem spec_path_loop (l : List S30) (hl : l.length ≤ 1048576) : ∀ (d i : Nat), i + d = l.length →
    Ev (fun k => spec_l07Points.l0 k l (i : Int)) (decide (l.length ≤ 8) && (l.drop i).all ptB) := by
  intro d
  induction d with
  | zero =>
    intro i hi
    refine Ev.step (fun k => spec_l07Points.l0.eq_2 _ _ k) ?_
    simp only [if_neg (show ¬ (i : Int) < (l.length : Int) by omega)]
    rw [List.drop_of_length_le (by omega)]
    have e : decide ((l.length : Int) ≤ 8) = (decide (l.length ≤ 8) && List.all [] ptB) := by
      simp
      omega
    rw [e]
    exact Ev.now _
  | succ d ih =>
    intro i hi
    refine Ev.step (fun k => spec_l07Points.l0.eq_2 _ _ k) ?_
    simp only [if_pos (show (i : Int) < (l.length : Int) by omega), if_pos (show (0 : Int) ≤ (i : Int) by omega), spec_point, Option.bind_some]
    rw [wrap_succ i (by omega), rdiPoint_lt l i (by omega), List.drop_eq_getElem_cons (show i < l.length by omega), List.all_cons]
    change Ev (fun k => if ptB l[i] = true then spec_l07Points.l0 k l ((i + 1 : Nat) : Int) else some false) _
    cases hc : ptB l[i] with
    | true =>
      simp only [if_true, Bool.true_and]
      exact ih (i + 1) (by omega)
    | false =>
      simp only [Bool.false_and, Bool.and_false, Bool.false_eq_true, if_false]
      exact Ev.now _
theorem spec_path (l : List S30) (hl : l.length ≤ 1048576) : Ev (fun k => spec_l07Points.f k l) (pathB l) := by
  unfold spec_l07Points.f pathB
  simpa using spec_path_loop l hl l.length 0 (by omega)
theorem impl_points_loop (l : List S30) (hl : l.length ≤ 1048576) : ∀ (d i : Nat), i + d = l.length →
    Ev (fun k => impl_pointsOk.l0 k l (l.length : Int) (i : Int)) ((l.drop i).all ptB) := by
  intro d
  induction d with
  | zero =>
    intro i hi
    refine Ev.step (fun k => impl_pointsOk.l0.eq_2 _ _ _ k) ?_
    simp only [if_neg (show ¬ (i : Int) < (l.length : Int) by omega)]
    rw [List.drop_of_length_le (by omega)]
    exact Ev.now _
  | succ d ih =>
    intro i hi
    refine Ev.step (fun k => impl_pointsOk.l0.eq_2 _ _ _ k) ?_
    simp only [if_pos (show (i : Int) < (l.length : Int) by omega), if_pos (show (0 : Int) ≤ (i : Int) by omega), impl_point, Option.bind_some]
    rw [wrap_succ i (by omega), rdiPoint_lt l i (by omega), List.drop_eq_getElem_cons (show i < l.length by omega), List.all_cons]
    change Ev (fun k => if ptB l[i] = true then impl_pointsOk.l0 k l (l.length : Int) ((i + 1 : Nat) : Int) else some false) _
    cases hc : ptB l[i] with
    | true =>
      simp only [if_true, Bool.true_and]
      exact ih (i + 1) (by omega)
    | false =>
      simp only [Bool.false_and, Bool.false_eq_true, if_false]
      exact Ev.now _
theorem impl_points (l : List S30) (hl : l.length ≤ 1048576) : Ev (fun k => impl_pointsOk.f k l) (l.all ptB) := by
  unfold impl_pointsOk.f
  simpa using impl_points_loop l hl l.length 0 (by omega)
theorem impl_path (l : List S30) : Ev (fun k => impl_pathOk.f k l) (pathB l) := by
  unfold impl_pathOk.f pathB
  by_cases h : l.length ≤ 8
  · simp only [if_pos (show (l.length : Int) ≤ 8 by omega), decide_eq_true h, Bool.true_and]
    exact Ev.bind (impl_points l (by omega)) (Ev.now _)
  · simp only [if_neg (show ¬ (l.length : Int) ≤ 8 by omega), decide_eq_false h, Bool.false_and]
    exact Ev.now _
theorem tmod_nat (i n : Nat) : Int.tmod ((i : Nat) : Int) (n : Int) = ((i % n : Nat) : Int) := rfl
def xorUpTo (f : Nat → Bool) : Nat → Bool
  | 0 => false
  | n + 1 => xorUpTo f n ^^ f n
def flips (g : Nat → Bool) : Nat → Nat
  | 0 => 0
  | n + 1 => flips g n + (if g n = g (n + 1) then 0 else 1)
theorem flips_xor (f g : Nat → Bool) (n : Nat) : flips (fun x => f x ^^ g x) n ≤ flips f n + flips g n := by
  induction n with
  | zero => simp [flips]
  | succ n ih =>
    simp only [flips]
    have h : (if (f n ^^ g n) = (f (n + 1) ^^ g (n + 1)) then 0 else 1) ≤ (if f n = f (n + 1) then 0 else 1) + (if g n = g (n + 1) then 0 else 1) := by
      cases f n <;> cases f (n + 1) <;> cases g n <;> cases g (n + 1) <;> simp
    omega
theorem flips_false (n : Nat) : flips (fun _ => false) n = 0 := by
  induction n with
  | zero => rfl
  | succ n ih => simp [flips, ih]
theorem flips_down (g : Nat → Bool) (h : ∀ x, g (x + 1) = true → g x = true) (n : Nat) : flips g n + (g n).toNat ≤ 1 := by
  induction n with
  | zero =>
    simp only [flips]
    cases g 0 <;> simp
  | succ n ih =>
    simp only [flips]
    have := h n
    cases h0 : g n <;> cases h1 : g (n + 1) <;> simp_all
theorem flips_many (c : Nat → Nat → Bool) (h : ∀ i x, c i (x + 1) = true → c i x = true) (n : Nat) : ∀ m, flips (fun x => xorUpTo (fun i => c i x) m) n ≤ m
  | 0 => by simp [xorUpTo, flips_false]
  | m + 1 => by
    have h1 := flips_many c h n m
    have h2 := flips_xor (fun x => xorUpTo (fun i => c i x) m) (c m) n
    have h3 := flips_down (c m) (h m) n
    simp only [xorUpTo]
    omega
theorem flips_shift (g : Nat → Bool) (n : Nat) : flips g (n + 1) = (if g 0 = g 1 then 0 else 1) + flips (fun x => g (x + 1)) n := by
  induction n with
  | zero => simp [flips]
  | succ n ih =>
    rw [flips, ih]
    simp only [flips]
    omega
theorem xor_pairs (s : Nat → Bool) : ∀ m, xorUpTo (fun i => s i ^^ s (i + 1)) m = (s 0 ^^ s m)
  | 0 => by simp [xorUpTo]
  | m + 1 => by
    rw [xorUpTo, xor_pairs s m]
    cases s 0 <;> cases s m <;> cases s (m + 1) <;> rfl
theorem xor_congr (f g : Nat → Bool) : ∀ m, (∀ i, i < m → f i = g i) → xorUpTo f m = xorUpTo g m
  | 0, _ => rfl
  | m + 1, h => by rw [xorUpTo, xorUpTo, xor_congr f g m (fun i hi => h i (by omega)), h m (by omega)]
/-- Round a closed row, the changes cancel. -/
theorem xor_ring (s : Nat → Bool) (m : Nat) : xorUpTo (fun i => s i ^^ s ((i + 1) % m)) m = false := by
  cases m with
  | zero => rfl
  | succ m =>
    rw [xorUpTo, Nat.mod_self]
    rw [xor_congr _ (fun i => s i ^^ s (i + 1)) m (fun i hi => by rw [Nat.mod_eq_of_lt (by omega)]), xor_pairs]
    cases s 0 <;> cases s m <;> rfl
theorem xor_first (f : Nat → Bool) : ∀ m, xorUpTo f (m + 1) = (f 0 ^^ xorUpTo (fun i => f (i + 1)) m)
  | 0 => by simp [xorUpTo]
  | m + 1 => by
    rw [xorUpTo, xor_first f m, xorUpTo]
    cases f 0 <;> cases f (m + 1) <;> cases xorUpTo (fun i => f (i + 1)) m <;> rfl
theorem xor_rev : ∀ (m : Nat) (f : Nat → Bool), xorUpTo (fun i => f (m - 1 - i)) m = xorUpTo f m
  | 0, f => rfl
  | m + 1, f => by
    rw [xorUpTo, xor_first f m, show m + 1 - 1 - m = 0 by omega, xor_congr (fun i => f (m + 1 - 1 - i)) (fun i => (fun j => f (j + 1)) (m - 1 - i)) m (fun i hi => by
      show f (m + 1 - 1 - i) = f (m - 1 - i + 1)
      congr 1
      omega), xor_rev m (fun j => f (j + 1))]
    exact Bool.xor_comm _ _
def addUp (f : Nat → Int) : Nat → Int
  | 0 => 0
  | n + 1 => addUp f n + f n
theorem add_congr (f g : Nat → Int) : ∀ m, (∀ i, i < m → f i = g i) → addUp f m = addUp g m
  | 0, _ => rfl
  | m + 1, h => by rw [addUp, addUp, add_congr f g m (fun i hi => h i (by omega)), h m (by omega)]
theorem add_first (f : Nat → Int) : ∀ m, addUp f (m + 1) = f 0 + addUp (fun i => f (i + 1)) m
  | 0 => by simp [addUp]
  | m + 1 => by
    rw [addUp, add_first f m, addUp]
    omega
theorem add_rev : ∀ (m : Nat) (f : Nat → Int), addUp (fun i => f (m - 1 - i)) m = addUp f m
  | 0, f => rfl
  | m + 1, f => by
    rw [addUp, add_first f m, show m + 1 - 1 - m = 0 by omega, add_congr (fun i => f (m + 1 - 1 - i)) (fun i => (fun j => f (j + 1)) (m - 1 - i)) m (fun i hi => by
      show f (m + 1 - 1 - i) = f (m - 1 - i + 1)
      congr 1
      omega), add_rev m (fun j => f (j + 1))]
    omega
theorem add_neg (f : Nat → Int) : ∀ m, addUp (fun i => -f i) m = -addUp f m
  | 0 => rfl
  | m + 1 => by
    rw [addUp, addUp, add_neg f m]
    omega
theorem add_two (f g : Nat → Int) : ∀ m, addUp (fun i => f i + g i) m = addUp f m + addUp g m
  | 0 => rfl
  | m + 1 => by
    rw [addUp, addUp, addUp, add_two f g m]
    omega
theorem add_scale (c : Int) (f : Nat → Int) : ∀ m, addUp (fun i => c * f i) m = c * addUp f m
  | 0 => by simp [addUp]
  | m + 1 => by rw [addUp, addUp, add_scale c f m, Int.mul_add]
theorem add_tele (s : Nat → Int) : ∀ m, addUp (fun i => s (i + 1) - s i) m = s m - s 0
  | 0 => by simp [addUp]
  | m + 1 => by
    rw [addUp, add_tele s m]
    omega
theorem add_ring (s : Nat → Int) (m : Nat) : addUp (fun i => s ((i + 1) % m) - s i) m = 0 := by
  cases m with
  | zero => rfl
  | succ m =>
    rw [addUp, Nat.mod_self, add_congr _ (fun i => s (i + 1) - s i) m (fun i hi => by rw [Nat.mod_eq_of_lt (by omega)]), add_tele]
    omega
theorem mul_bound (a b A B : Int) (h1 : -A ≤ a) (h2 : a ≤ A) (h3 : -B ≤ b) (h4 : b ≤ B) : -(A * B) ≤ a * b ∧ a * b ≤ A * B := by
  have e1 : 0 ≤ (A - a) * (B + b) := Int.mul_nonneg (by omega) (by omega)
  have e2 : 0 ≤ (A + a) * (B - b) := Int.mul_nonneg (by omega) (by omega)
  have e3 : 0 ≤ (A - a) * (B - b) := Int.mul_nonneg (by omega) (by omega)
  have e4 : 0 ≤ (A + a) * (B + b) := Int.mul_nonneg (by omega) (by omega)
  grind
/-- Whether a side passes on the right of a dot's center, at its height. -/
def crossB (ax ay bx b_y x y : Int) : Bool :=
  if decide (ay > y) = decide (b_y > y) then false
  else if b_y - ay < 0 then decide (2 * ax * (b_y - ay) + (2 * y + 1 - 2 * ay) * (bx - ax) < (2 * x + 1) * (b_y - ay))
  else decide (2 * ax * (b_y - ay) + (2 * y + 1 - 2 * ay) * (bx - ax) > (2 * x + 1) * (b_y - ay))
theorem impl_cross (ax ay bx b_y x y : Int) (h1 : -200 ≤ ax ∧ ax ≤ 200) (h2 : -200 ≤ ay ∧ ay ≤ 200) (h3 : -200 ≤ bx ∧ bx ≤ 200) (h4 : -200 ≤ b_y ∧ b_y ≤ 200) (h5 : -200 ≤ x ∧ x ≤ 200) (h6 : -200 ≤ y ∧ y ≤ 200) :
    impl_crosses.f ax ay bx b_y x y = some (crossB ax ay bx b_y x y) := by
  have m1 := mul_bound (2 * ax) (b_y - ay) 400 400 (by omega) (by omega) (by omega) (by omega)
  have m2 := mul_bound (2 * y + 1 - 2 * ay) (bx - ax) 801 400 (by omega) (by omega) (by omega) (by omega)
  have m3 := mul_bound (2 * x + 1) (b_y - ay) 401 400 (by omega) (by omega) (by omega) (by omega)
  unfold impl_crosses.f crossB
  rw [wrap_id (x := b_y - ay) (by omega) (by omega), wrap_id (x := 2 * ax) (by omega) (by omega), wrap_id (x := 2 * y) (by omega) (by omega), wrap_id (x := 2 * y + 1) (by omega) (by omega),
    wrap_id (x := 2 * ay) (by omega) (by omega), wrap_id (x := 2 * y + 1 - 2 * ay) (by omega) (by omega), wrap_id (x := bx - ax) (by omega) (by omega), wrap_id (x := 2 * x) (by omega) (by omega),
    wrap_id (x := 2 * x + 1) (by omega) (by omega)]
  generalize 2 * ax * (b_y - ay) = p at *
  generalize (2 * y + 1 - 2 * ay) * (bx - ax) = q at *
  generalize (2 * x + 1) * (b_y - ay) = r at *
  rw [wrap_id (x := p) (by omega) (by omega), wrap_id (x := q) (by omega) (by omega), wrap_id (x := r) (by omega) (by omega), wrap_id (x := p + q) (by omega) (by omega)]
  by_cases h : decide (ay > y) = decide (b_y > y)
  · rw [if_pos (by rw [h]; exact beq_self_eq_true _), if_pos h]
  · rw [if_neg (by rw [beq_iff_eq]; exact h), if_neg h]
    split <;> rfl
theorem cross_sym (ax ay bx b_y x y : Int) : crossB bx b_y ax ay x y = crossB ax ay bx b_y x y := by
  unfold crossB
  by_cases hc : decide (ay > y) = decide (b_y > y)
  · rw [if_pos hc, if_pos hc.symm]
  · rw [if_neg hc, if_neg (fun h => hc h.symm)]
    have e : 2 * bx * (ay - b_y) + (2 * y + 1 - 2 * b_y) * (ax - bx) = -(2 * ax * (b_y - ay) + (2 * y + 1 - 2 * ay) * (bx - ax)) := by grind
    have e2 : (2 * x + 1) * (ay - b_y) = -((2 * x + 1) * (b_y - ay)) := by grind
    have hne : ay ≠ b_y := by
      intro h
      apply hc
      rw [h]
    rw [e, e2]
    by_cases hd : b_y - ay < 0
    · rw [if_pos hd, if_neg (show ¬ ay - b_y < 0 by omega)]
      exact decide_eq_decide.2 (by omega)
    · rw [if_neg hd, if_pos (show ay - b_y < 0 by omega)]
      exact decide_eq_decide.2 (by omega)
theorem cross_shift (ax ay bx b_y x y dx dy : Int) : crossB (ax + dx) (ay + dy) (bx + dx) (b_y + dy) (x + dx) (y + dy) = crossB ax ay bx b_y x y := by
  unfold crossB
  have e1 : decide (ay + dy > y + dy) = decide (ay > y) := decide_eq_decide.2 (by omega)
  have e2 : decide (b_y + dy > y + dy) = decide (b_y > y) := decide_eq_decide.2 (by omega)
  have e3 : b_y + dy - (ay + dy) = b_y - ay := by omega
  have e4 : 2 * (ax + dx) * (b_y - ay) + (2 * (y + dy) + 1 - 2 * (ay + dy)) * (bx + dx - (ax + dx)) = 2 * ax * (b_y - ay) + (2 * y + 1 - 2 * ay) * (bx - ax) + 2 * dx * (b_y - ay) := by grind
  have e5 : (2 * (x + dx) + 1) * (b_y - ay) = (2 * x + 1) * (b_y - ay) + 2 * dx * (b_y - ay) := by grind
  rw [e1, e2, e3, e4, e5]
  by_cases hc : decide (ay > y) = decide (b_y > y)
  · rw [if_pos hc, if_pos hc]
  · rw [if_neg hc, if_neg hc]
    by_cases hd : b_y - ay < 0
    · rw [if_pos hd, if_pos hd]
      exact decide_eq_decide.2 (by omega)
    · rw [if_neg hd, if_neg hd]
      exact decide_eq_decide.2 (by omega)
def sideB (l : List S30) (x y : Int) (i : Nat) : Bool :=
  let a := rd_T30 l (i : Int)
  let b := rd_T30 l (((i + 1) % l.length : Nat) : Int)
  crossB a.f0 a.f1 b.f0 b.f1 x y
def insB (l : List S30) (x y : Int) : Bool := xorUpTo (sideB l x y) l.length
def coB (x : Int) : Bool := decide (-200 ≤ x ∧ x ≤ 200)
def insideB (l : List S30) (x y : Int) : Bool := pathB l && coB x && coB y && insB l x y
theorem pt_at (l : List S30) (h : l.all ptB = true) (i : Nat) (hi : i < l.length) :
    (-200 ≤ (rd_T30 l (i : Int)).f0 ∧ (rd_T30 l (i : Int)).f0 ≤ 200) ∧ (-200 ≤ (rd_T30 l (i : Int)).f1 ∧ (rd_T30 l (i : Int)).f1 ≤ 200) := by
  rw [rdiPoint_lt l i hi]
  exact of_decide_eq_true (List.all_eq_true.1 h l[i] (List.getElem_mem hi))
theorem path_len (l : List S30) (h : pathB l = true) : l.length ≤ 8 ∧ l.all ptB = true := by
  unfold pathB at h
  rw [Bool.and_eq_true] at h
  exact ⟨of_decide_eq_true h.1, h.2⟩
theorem impl_inside_loop (l : List S30) (x y : Int) (hl : l.length ≤ 8) (hp : l.all ptB = true) (hx : -200 ≤ x ∧ x ≤ 200) (hy : -200 ≤ y ∧ y ≤ 200) : ∀ (d i : Nat), i + d = l.length →
    Ev (fun k => impl_InsidePath.l0 k l x y (xorUpTo (sideB l x y) i) l (l.length : Int) (i : Int)) (insB l x y) := by
  intro d
  induction d with
  | zero =>
    intro i hi
    refine Ev.step (fun k => impl_InsidePath.l0.eq_2 _ _ _ _ _ _ _ k) ?_
    simp only [if_neg (show ¬ (i : Int) < (l.length : Int) by omega)]
    rw [show i = l.length by omega]
    exact Ev.now _
  | succ d ih =>
    intro i hi
    have hm : (i + 1) % l.length < l.length := Nat.mod_lt _ (by omega)
    have ha := pt_at l hp i (by omega)
    have hb := pt_at l hp _ hm
    refine Ev.step (fun k => impl_InsidePath.l0.eq_2 _ _ _ _ _ _ _ k) ?_
    rw [wrap_succ i (by omega), tmod_nat]
    simp only [if_pos (show (i : Int) < (l.length : Int) by omega), if_pos (show (0 : Int) ≤ (i : Int) by omega), if_neg (show ¬ (l.length : Int) = 0 by omega),
      if_pos (show (0 : Int) ≤ (((i + 1) % l.length : Nat) : Int) by omega), if_pos (show (((i + 1) % l.length : Nat) : Int) < (l.length : Int) by omega),
      impl_cross _ _ _ _ _ _ ha.1 ha.2 hb.1 hb.2 hx hy, Option.bind_some]
    have := ih (i + 1) (by omega)
    simp only [xorUpTo] at this
    change Ev (fun k => if sideB l x y i = true then _ else _) _
    cases h : sideB l x y i with
    | true =>
      rw [h, Bool.xor_true] at this
      simpa using this
    | false =>
      rw [h, Bool.xor_false] at this
      simpa using this
theorem impl_inside (l : List S30) (x y : Int) : Ev (fun k => impl_InsidePath.f k l x y) (insideB l x y) := by
  unfold impl_InsidePath.f insideB
  refine Ev.bind (impl_path l) ?_
  have j1 : Ev (fun k => impl_InsidePath.j0 k l x y true) false := by
    refine Ev.step (fun k => impl_InsidePath.j0.eq_2 _ _ _ _ k) ?_
    simp only [if_true]
    exact Ev.now _
  cases hp : pathB l with
  | false =>
    simp only [Bool.false_eq_true, if_false, Bool.false_and]
    exact j1
  | true =>
    simp only [if_true, impl_coord, Option.bind_some, Bool.true_and]
    by_cases hx : -200 ≤ x ∧ x ≤ 200
    · simp only [decide_eq_true hx, if_true]
      rw [show coB x = true from decide_eq_true hx]
      by_cases hy : -200 ≤ y ∧ y ≤ 200
      · rw [show coB y = true from decide_eq_true hy]
        simp only [decide_eq_true hy, Bool.not_true, Bool.true_and]
        refine Ev.step (fun k => impl_InsidePath.j0.eq_2 _ _ _ _ k) ?_
        simp only [Bool.false_eq_true, if_false]
        exact impl_inside_loop l x y (path_len l hp).1 (path_len l hp).2 hx hy l.length 0 (by omega)
      · rw [show coB y = false from decide_eq_false hy]
        simp only [decide_eq_false hy, Bool.not_false, Bool.and_false, Bool.false_and]
        exact j1
    · rw [show coB x = false from decide_eq_false hx]
      simp only [decide_eq_false hx, Bool.false_eq_true, if_false, Bool.false_and]
      exact j1
def shP (dx dy : Int) (p : S30) : S30 := ⟨wrap64 (p.f0 + dx), wrap64 (p.f1 + dy)⟩
def shiftM (l : List S30) (dx dy : Int) : List S30 := if (coB dx && coB dy && l.all ptB && (l.map (shP dx dy)).all ptB) = true then l.map (shP dx dy) else []
theorem impl_shift_loop (l : List S30) (dx dy : Int) (hl : l.length ≤ 1048576) : ∀ (d i : Nat), i + d = l.length →
    Ev (fun k => impl_ShiftPath.l0 k dx dy ((l.take i).map (shP dx dy)) l (l.length : Int) (i : Int)) (if (l.map (shP dx dy)).all ptB = true then l.map (shP dx dy) else []) := by
  intro d
  induction d with
  | zero =>
    intro i hi
    refine Ev.step (fun k => impl_ShiftPath.l0.eq_2 _ _ _ _ _ _ k) ?_
    simp only [if_neg (show ¬ (i : Int) < (l.length : Int) by omega)]
    rw [List.take_of_length_le (by omega)]
    refine Ev.bind (impl_points _ (by simp; omega)) ?_
    cases (l.map (shP dx dy)).all ptB
    · simp only [Bool.false_eq_true, if_false]
      exact Ev.now _
    · simp only [if_true]
      exact Ev.now _
  | succ d ih =>
    intro i hi
    refine Ev.step (fun k => impl_ShiftPath.l0.eq_2 _ _ _ _ _ _ k) ?_
    have hlen : ((l.take i).map (shP dx dy)).length < 8796093022208 := by
      simp
      omega
    simp only [if_pos (show (i : Int) < (l.length : Int) by omega), if_pos (show (0 : Int) ≤ (i : Int) by omega), if_pos hlen]
    rw [wrap_succ i (by omega), rdiPoint_lt l i (by omega)]
    have e : (l.take i).map (shP dx dy) ++ [(⟨wrap64 (l[i].f0 + dx), wrap64 (l[i].f1 + dy)⟩ : S30)] = (l.take (i + 1)).map (shP dx dy) := by
      rw [List.take_succ_eq_append_getElem (by omega), List.map_append]
      rfl
    rw [e]
    exact ih (i + 1) (by omega)
theorem impl_shift (l : List S30) (dx dy : Int) (hl : l.length ≤ 1048576) : Ev (fun k => impl_ShiftPath.f k l dx dy) (shiftM l dx dy) := by
  unfold impl_ShiftPath.f shiftM
  have j1 : Ev (fun k => impl_ShiftPath.j0 k l dx dy true) [] := by
    refine Ev.step (fun k => impl_ShiftPath.j0.eq_2 _ _ _ _ k) ?_
    simp only [if_true]
    exact Ev.now _
  simp only [impl_coord, Option.bind_some]
  change Ev (fun k => if coB dx = true then if coB dy = true then _ else _ else _) _
  cases coB dx with
  | false =>
    simp only [Bool.false_eq_true, if_false, Bool.false_and]
    exact j1
  | true =>
    cases coB dy with
    | false =>
      simp only [Bool.false_eq_true, if_false, if_true, Bool.false_and, Bool.and_false]
      exact j1
    | true =>
      simp only [if_true, Bool.true_and]
      refine Ev.bind (impl_points l hl) ?_
      cases l.all ptB with
      | false =>
        simp only [Bool.not_false, Bool.false_eq_true, if_false, Bool.false_and]
        exact j1
      | true =>
        simp only [Bool.not_true, Bool.true_and]
        refine Ev.step (fun k => impl_ShiftPath.j0.eq_2 _ _ _ _ k) ?_
        simp only [Bool.false_eq_true, if_false]
        exact impl_shift_loop l dx dy hl l.length 0 (by omega)
def areaTerm (l : List S30) (i : Nat) : Int :=
  let a := rd_T30 l (i : Int)
  let b := rd_T30 l (((i + 1) % l.length : Nat) : Int)
  wrap64 (wrap64 (a.f0 * b.f1) - wrap64 (b.f0 * a.f1))
def areaTo (l : List S30) : Nat → Int
  | 0 => 0
  | i + 1 => wrap64 (areaTo l i + areaTerm l i)
theorem wrap_mix (s p q : Int) : wrap64 (wrap64 (s + wrap64 p) - wrap64 q) = wrap64 (s + wrap64 (wrap64 p - wrap64 q)) := by
  unfold wrap64
  omega
def areaOf (l : List S30) : Int := if pathB l = true then areaTo l l.length else 0
theorem spec_area_loop (l : List S30) (hl : l.length ≤ 1048576) : ∀ (d i : Nat), i + d = l.length →
    Ev (fun k => spec_AreaTwice.l0 k l (areaTo l i) (i : Int)) (areaTo l l.length) := by
  intro d
  induction d with
  | zero =>
    intro i hi
    refine Ev.step (fun k => spec_AreaTwice.l0.eq_2 _ _ _ k) ?_
    simp only [if_neg (show ¬ (i : Int) < (l.length : Int) by omega)]
    rw [show i = l.length by omega]
    exact Ev.now _
  | succ d ih =>
    intro i hi
    have hm : (i + 1) % l.length < l.length := Nat.mod_lt _ (by omega)
    refine Ev.step (fun k => spec_AreaTwice.l0.eq_2 _ _ _ k) ?_
    rw [wrap_succ i (by omega), tmod_nat]
    simp only [if_pos (show (i : Int) < (l.length : Int) by omega), if_pos (show (0 : Int) ≤ (i : Int) by omega), if_neg (show ¬ (l.length : Int) = 0 by omega),
      if_pos (show (0 : Int) ≤ (((i + 1) % l.length : Nat) : Int) by omega), if_pos (show (((i + 1) % l.length : Nat) : Int) < (l.length : Int) by omega)]
    rw [wrap_mix]
    exact ih (i + 1) (by omega)
theorem spec_area (l : List S30) (hl : l.length ≤ 1048576) : Ev (fun k => spec_AreaTwice.f k l) (areaOf l) := by
  unfold spec_AreaTwice.f areaOf
  refine Ev.bind (spec_path l hl) ?_
  cases pathB l
  · simp only [Bool.false_eq_true, if_false]
    exact Ev.now _
  · simp only [if_true]
    exact spec_area_loop l hl l.length 0 (by omega)
theorem impl_area_loop (l : List S30) (hl : l.length ≤ 1048576) : ∀ (d i : Nat), i + d = l.length →
    Ev (fun k => impl_AreaTwice.l0 k l (areaTo l i) l (l.length : Int) (i : Int)) (areaTo l l.length) := by
  intro d
  induction d with
  | zero =>
    intro i hi
    refine Ev.step (fun k => impl_AreaTwice.l0.eq_2 _ _ _ _ _ k) ?_
    simp only [if_neg (show ¬ (i : Int) < (l.length : Int) by omega)]
    rw [show i = l.length by omega]
    exact Ev.now _
  | succ d ih =>
    intro i hi
    have hm : (i + 1) % l.length < l.length := Nat.mod_lt _ (by omega)
    refine Ev.step (fun k => impl_AreaTwice.l0.eq_2 _ _ _ _ _ k) ?_
    rw [wrap_succ i (by omega), tmod_nat]
    simp only [if_pos (show (i : Int) < (l.length : Int) by omega), if_pos (show (0 : Int) ≤ (i : Int) by omega), if_neg (show ¬ (l.length : Int) = 0 by omega),
      if_pos (show (0 : Int) ≤ (((i + 1) % l.length : Nat) : Int) by omega), if_pos (show (((i + 1) % l.length : Nat) : Int) < (l.length : Int) by omega)]
    exact ih (i + 1) (by omega)
theorem impl_area (l : List S30) : Ev (fun k => impl_AreaTwice.f k l) (areaOf l) := by
  unfold impl_AreaTwice.f areaOf
  refine Ev.bind (impl_path l) ?_
  cases h : pathB l
  · simp only [Bool.false_eq_true, if_false]
    exact Ev.now _
  · simp only [if_true]
    have h8 : l.length ≤ 8 := by
      unfold pathB at h
      simp at h
      exact h.1
    exact impl_area_loop l (by omega) l.length 0 (by omega)
def atP (l : List S30) (i : Nat) : S30 := rd_T30 l (i : Int)
theorem at_rev (l : List S30) (i : Nat) (h : i < l.length) : atP l.reverse i = atP l (l.length - 1 - i) := by
  unfold atP
  rw [rdiPoint_lt _ _ (by simpa using h), rdiPoint_lt _ _ (by omega), List.getElem_reverse]
theorem at_map (f : S30 → S30) (l : List S30) (i : Nat) (h : i < l.length) : atP (l.map f) i = f (atP l i) := by
  unfold atP
  rw [rdiPoint_lt _ _ (by simpa using h), rdiPoint_lt _ _ h, List.getElem_map]
theorem ins_rev (l : List S30) (x y : Int) : insB l.reverse x y = insB l x y := by
  unfold insB
  rw [List.length_reverse]
  cases hn : l.length with
  | zero => rfl
  | succ m =>
    rw [xorUpTo, xorUpTo, xor_congr (sideB l.reverse x y) (fun i => sideB l x y (m - 1 - i)) m (fun i hi => ?_), xor_rev m (sideB l x y)]
    · congr 1
      show crossB (atP l.reverse m).f0 (atP l.reverse m).f1 (atP l.reverse ((m + 1) % l.reverse.length)).f0 (atP l.reverse ((m + 1) % l.reverse.length)).f1 x y = crossB (atP l m).f0 (atP l m).f1 (atP l ((m + 1) % l.length)).f0 (atP l ((m + 1) % l.length)).f1 x y
      rw [List.length_reverse, hn, Nat.mod_self, at_rev l m (by omega), at_rev l 0 (by omega), hn, show m + 1 - 1 - m = 0 by omega, show m + 1 - 1 - 0 = m by omega]
      exact cross_sym _ _ _ _ x y
    · show crossB (atP l.reverse i).f0 (atP l.reverse i).f1 (atP l.reverse ((i + 1) % l.reverse.length)).f0 (atP l.reverse ((i + 1) % l.reverse.length)).f1 x y = crossB (atP l (m - 1 - i)).f0 (atP l (m - 1 - i)).f1 (atP l ((m - 1 - i + 1) % l.length)).f0 (atP l ((m - 1 - i + 1) % l.length)).f1 x y
      rw [List.length_reverse, hn, Nat.mod_eq_of_lt (show i + 1 < m + 1 by omega), Nat.mod_eq_of_lt (show m - 1 - i + 1 < m + 1 by omega), at_rev l i (by omega), at_rev l (i + 1) (by omega), hn,
        show m + 1 - 1 - i = m - 1 - i + 1 by omega, show m + 1 - 1 - (i + 1) = m - 1 - i by omega]
      exact cross_sym _ _ _ _ x y
def termB (l : List S30) (i : Nat) : Int := (atP l i).f0 * (atP l ((i + 1) % l.length)).f1 - (atP l ((i + 1) % l.length)).f0 * (atP l i).f1
def farB (p : S30) : Prop := (-40 ≤ p.f0 ∧ p.f0 ≤ 40) ∧ (-40 ≤ p.f1 ∧ p.f1 ≤ 40)
theorem far_at (q : List S30) (hp : ∀ p ∈ q, farB p) (i : Nat) (hi : i < q.length) : farB (atP q i) := by
  unfold atP
  rw [rdiPoint_lt q i hi]
  exact hp _ (List.getElem_mem _)
theorem area_sum (l : List S30) (hp : ∀ p ∈ l, farB p) (hl : l.length ≤ 8) : ∀ n, n ≤ l.length → areaTo l n = addUp (termB l) n ∧ -(3200 * (n : Int)) ≤ addUp (termB l) n ∧ addUp (termB l) n ≤ 3200 * n
  | 0, _ => ⟨rfl, by simp [addUp], by simp [addUp]⟩
  | n + 1, hn => by
    have ih := area_sum l hp hl n (by omega)
    have a := far_at l hp n (by omega)
    have b := far_at l hp ((n + 1) % l.length) (Nat.mod_lt _ (by omega))
    unfold farB at a b
    have m1 := mul_bound (atP l n).f0 (atP l ((n + 1) % l.length)).f1 40 40 (by omega) (by omega) (by omega) (by omega)
    have m2 := mul_bound (atP l ((n + 1) % l.length)).f0 (atP l n).f1 40 40 (by omega) (by omega) (by omega) (by omega)
    have e : areaTo l (n + 1) = wrap64 (areaTo l n + wrap64 (wrap64 ((atP l n).f0 * (atP l ((n + 1) % l.length)).f1) - wrap64 ((atP l ((n + 1) % l.length)).f0 * (atP l n).f1))) := rfl
    have t : termB l n = (atP l n).f0 * (atP l ((n + 1) % l.length)).f1 - (atP l ((n + 1) % l.length)).f0 * (atP l n).f1 := rfl
    rw [e, addUp, ih.1, t]
    generalize (atP l n).f0 * (atP l ((n + 1) % l.length)).f1 = p at *
    generalize (atP l ((n + 1) % l.length)).f0 * (atP l n).f1 = q at *
    rw [wrap_id (x := p) (by omega) (by omega), wrap_id (x := q) (by omega) (by omega), wrap_id (x := p - q) (by omega) (by omega), wrap_id (by omega) (by omega)]
    exact ⟨rfl, by omega, by omega⟩
theorem far_path (q : List S30) (h8 : q.length ≤ 8) (hp : ∀ p ∈ q, farB p) : pathB q = true := by
  unfold pathB
  rw [decide_eq_true (by omega), Bool.true_and, List.all_eq_true]
  intro p hm
  have := hp p hm
  unfold farB at this
  exact decide_eq_true (by omega)
theorem area_is (l : List S30) (hp : ∀ p ∈ l, farB p) (hl : l.length ≤ 8) : areaOf l = addUp (termB l) l.length ∧ -25600 ≤ areaOf l ∧ areaOf l ≤ 25600 := by
  have h := area_sum l hp hl l.length (Nat.le_refl _)
  unfold areaOf
  rw [if_pos (far_path l hl hp), h.1]
  exact ⟨rfl, by omega, by omega⟩
theorem area_rev (l : List S30) (hp : ∀ p ∈ l, farB p) (hl : l.length ≤ 8) : areaOf l.reverse = -areaOf l := by
  rw [(area_is l hp hl).1, (area_is l.reverse (fun p hm => hp p (List.mem_reverse.1 hm)) (by simpa using hl)).1, List.length_reverse]
  cases hn : l.length with
  | zero => rfl
  | succ m =>
    rw [← add_neg, addUp, addUp, add_congr (termB l.reverse) (fun i => (fun j => -termB l j) (m - 1 - i)) m (fun i hi => ?_), add_rev m (fun j => -termB l j)]
    · congr 1
      unfold termB
      rw [List.length_reverse, hn, Nat.mod_self, at_rev l m (by omega), at_rev l 0 (by omega), hn, show m + 1 - 1 - m = 0 by omega, show m + 1 - 1 - 0 = m by omega]
      grind
    · show termB l.reverse i = -termB l (m - 1 - i)
      unfold termB
      rw [List.length_reverse, hn, Nat.mod_eq_of_lt (show i + 1 < m + 1 by omega), Nat.mod_eq_of_lt (show m - 1 - i + 1 < m + 1 by omega), at_rev l i (by omega), at_rev l (i + 1) (by omega), hn,
        show m + 1 - 1 - i = m - 1 - i + 1 by omega, show m + 1 - 1 - (i + 1) = m - 1 - i by omega]
      grind
def moveP (dx dy : Int) (p : S30) : S30 := ⟨p.f0 + dx, p.f1 + dy⟩
theorem ins_move (l : List S30) (dx dy x y : Int) : insB (l.map (moveP dx dy)) (x + dx) (y + dy) = insB l x y := by
  unfold insB
  rw [List.length_map]
  refine xor_congr _ _ _ fun i hi => ?_
  show crossB (atP (l.map (moveP dx dy)) i).f0 (atP (l.map (moveP dx dy)) i).f1 (atP (l.map (moveP dx dy)) ((i + 1) % (l.map (moveP dx dy)).length)).f0 (atP (l.map (moveP dx dy)) ((i + 1) % (l.map (moveP dx dy)).length)).f1 (x + dx) (y + dy) = crossB (atP l i).f0 (atP l i).f1 (atP l ((i + 1) % l.length)).f0 (atP l ((i + 1) % l.length)).f1 x y
  rw [List.length_map, at_map _ l i hi, at_map _ l _ (Nat.mod_lt _ (by omega))]
  exact cross_shift _ _ _ _ x y dx dy
theorem area_move (l : List S30) (dx dy : Int) (hp : ∀ p ∈ l, farB p) (hp2 : ∀ p ∈ l.map (moveP dx dy), farB p) (hl : l.length ≤ 8) : areaOf (l.map (moveP dx dy)) = areaOf l := by
  rw [(area_is l hp hl).1, (area_is _ hp2 (by simpa using hl)).1, List.length_map]
  rw [add_congr (termB (l.map (moveP dx dy))) (fun i => termB l i + (dx * ((atP l ((i + 1) % l.length)).f1 - (atP l i).f1) + (-dy) * ((atP l ((i + 1) % l.length)).f0 - (atP l i).f0))) l.length (fun i hi => ?_),
    add_two, add_two, add_scale, add_scale, add_ring (fun i => (atP l i).f1), add_ring (fun i => (atP l i).f0), Int.mul_zero, Int.mul_zero, Int.add_zero, Int.add_zero]
  unfold termB
  rw [List.length_map, at_map _ l i hi, at_map _ l _ (Nat.mod_lt _ (by omega))]
  unfold moveP
  grind
theorem wrap_small (c i : Nat) (hc : c < 100) (hi : i < 100) : wrap64 ((c : Int) + (i : Int)) = ((c + i : Nat) : Int) := by
  rw [wrap_id (by omega) (by omega)]
  omega
theorem inside_rounds (q s : List S30) (p : List Int) (dx dy : Int) (p12 : p.length = 12) (pn : ∀ r ∈ p, 0 ≤ r ∧ r < 10000) (hdx : -4 ≤ dx ∧ dx ≤ 4) (hdy : -4 ≤ dy ∧ dy ≤ 4)
    (hin : ∀ x y : Int, 0 ≤ x → x < 34 → 0 ≤ y → y < 34 → insideB q x y = insB q x y ∧ insideB q.reverse x y = insB q x y ∧ insideB s (x + dx) (y + dy) = insB q x y)
    (hend : Ev (fun k => laws_FnInside.l1 k q p dx dy s q.reverse ((40 : Nat) : Int)) true) : ∀ (d i : Nat), i + d = 40 → Ev (fun k => laws_FnInside.l1 k q p dx dy s q.reverse (i : Int)) true := by
  intro d
  induction d with
  | zero =>
    intro i hi
    rw [show i = 40 by omega]
    exact hend
  | succ d ih =>
    intro i hi
    have hn := ih (i + 1) (by omega)
    clear ih hend
    refine Ev.step (fun k => laws_FnInside.l1.eq_2 _ _ _ _ _ _ _ k) ?_
    have i40 : i < 40 := by omega
    have e5 : wrap64 (5 + (i : Int)) = ((5 + i : Nat) : Int) := wrap_small 5 i (by omega) (by omega)
    have e2 : wrap64 (2 + ((i % 10 : Nat) : Int)) = ((2 + i % 10 : Nat) : Int) := wrap_small 2 (i % 10) (by omega) (by omega)
    have e1 : wrap64 (1 + (i : Int)) = ((1 + i : Nat) : Int) := wrap_small 1 i (by omega) (by omega)
    have k1 : 2 + i % 10 < 12 := by omega
    have k2 : (5 + i) % 12 < 12 := by omega
    have es := wrap_succ i (by omega)
    have ia : Int.tmod (i : Int) 10 = ((i % 10 : Nat) : Int) := tmod_nat i 10
    have ib : Int.tmod (((5 + i : Nat) : Int)) 12 = (((5 + i) % 12 : Nat) : Int) := tmod_nat (5 + i) 12
    rw [ia, e5, ib, e2, e1, es]
    clear ia e5 ib e2 e1 es
    generalize 2 + i % 10 = u at k1 ⊢
    generalize (5 + i) % 12 = v at k2 ⊢
    have pa := place_at p p12 pn u k1
    have pb := place_at p p12 pn v k2
    simp only [if_pos (show (i : Int) < 40 by omega), if_pos (show (0 : Int) ≤ (u : Int) by omega), if_pos (show (u : Int) < (p.length : Int) by omega),
      if_pos (show (0 : Int) ≤ (v : Int) by omega), if_pos (show (v : Int) < (p.length : Int) by omega)]
    generalize rd p (u : Int) = a at pa ⊢
    generalize rd p (v : Int) = b at pb ⊢
    have c1 : (0 : Int) ≤ ((1 + i : Nat) : Int) ∧ ((1 + i : Nat) : Int) ≤ 40 := by omega
    generalize ((1 + i : Nat) : Int) = c at c1 ⊢
    have ma := mul_bound a c 10000 40 (by omega) (by omega) (by omega) (by omega)
    have mb := mul_bound b c 10000 40 (by omega) (by omega) (by omega) (by omega)
    have na := Int.mul_nonneg pa.1 c1.1
    have nb := Int.mul_nonneg pb.1 c1.1
    rw [wrap_id (x := a * c) (by omega) (by omega), wrap_id (x := b * c) (by omega) (by omega)]
    have xa := tmod_low _ 34 na (by omega)
    have xb := tmod_low _ 34 nb (by omega)
    generalize Int.tmod (a * c) 34 = x at xa ⊢
    generalize Int.tmod (b * c) 34 = y at xb ⊢
    clear ma mb na nb pa pb
    rw [wrap_id (x := x + dx) (by omega) (by omega), wrap_id (x := y + dy) (by omega) (by omega)]
    obtain ⟨i1, i2, i3⟩ := hin x y xa.1 xa.2 xb.1 xb.2
    refine Ev.bind (impl_inside q x y) ?_
    refine Ev.bind (impl_inside q.reverse x y) ?_
    rw [i1, i2]
    simp only [bne_self_eq_false, Bool.false_eq_true, if_false]
    refine Ev.bind (impl_inside s (x + dx) (y + dy)) ?_
    rw [i3]
    simp only [bne_self_eq_false, Bool.false_eq_true, if_false]
    exact hn
set_option maxHeartbeats 4000000 in
theorem FnInside : laws_FnInside.Pure := by
  intro l hm hs hw
  refine Ev.rounds ?_
  simp only [laws_FnInside.f, laws_big.f, Option.bind_some, decide_eq_true_eq]
  by_cases hb : (l.length : Int) > 1048576
  · simp only [if_pos hb]
    exact Ev.now _
  · simp only [if_neg hb]
    have hl : l.length ≤ 1048576 := by omega
    obtain ⟨q, eq, q3, q6, qn⟩ := draw_shape l hl
    obtain ⟨p, ep, p12, pn⟩ := draw_places l hl
    refine Ev.bind eq ?_
    refine Ev.bind ep ?_
    simp only [if_pos (show (0 : Int) < (p.length : Int) by omega), if_pos (show (1 : Int) < (p.length : Int) by omega)]
    have g0 : 0 ≤ rd p 0 ∧ rd p 0 < 10000 := place_at p p12 pn 0 (by omega)
    have g1 : 0 ≤ rd p 1 ∧ rd p 1 < 10000 := place_at p p12 pn 1 (by omega)
    have t0 := tmod_low (rd p 0) 9 g0.1 (by omega)
    have t1 := tmod_low (rd p 1) 9 g1.1 (by omega)
    rw [wrap_id (x := Int.tmod (rd p 0) 9 - 4) (by omega) (by omega), wrap_id (x := Int.tmod (rd p 1) 9 - 4) (by omega) (by omega)]
    have hdx : -4 ≤ Int.tmod (rd p 0) 9 - 4 ∧ Int.tmod (rd p 0) 9 - 4 ≤ 4 := by omega
    have hdy : -4 ≤ Int.tmod (rd p 1) 9 - 4 ∧ Int.tmod (rd p 1) 9 - 4 ≤ 4 := by omega
    generalize Int.tmod (rd p 0) 9 - 4 = dx at hdx ⊢
    generalize Int.tmod (rd p 1) 9 - 4 = dy at hdy ⊢
    have qfar : ∀ r ∈ q, farB r := fun r hr => by
      have := qn r hr
      unfold nearB at this
      unfold farB
      omega
    have sfar : ∀ r ∈ q.map (moveP dx dy), farB r := fun r hr => by
      obtain ⟨r0, hr0, rfl⟩ := List.mem_map.1 hr
      have := qn r0 hr0
      unfold nearB at this
      unfold farB moveP
      simp only
      omega
    have smove : q.map (shP dx dy) = q.map (moveP dx dy) := by
      refine List.map_congr_left fun r hr => ?_
      have := qn r hr
      unfold nearB at this
      unfold shP moveP
      rw [wrap_id (by omega) (by omega), wrap_id (by omega) (by omega)]
    have qpath := far_path q (by omega) qfar
    have spath := far_path (q.map (moveP dx dy)) (by simp; omega) sfar
    have rfar : ∀ r ∈ q.reverse, farB r := fun r hr => qfar r (List.mem_reverse.1 hr)
    have rpath := far_path q.reverse (by simp; omega) rfar
    have hshift : shiftM q dx dy = q.map (moveP dx dy) := by
      unfold shiftM
      rw [smove, show coB dx = true from decide_eq_true (by omega), show coB dy = true from decide_eq_true (by omega), (path_len q qpath).2, (path_len _ spath).2]
      rfl
    refine Ev.bind (impl_shift q dx dy (by omega)) ?_
    rw [hshift, wrap_id (x := (q.length : Int) - 1) (by omega) (by omega)]
    generalize hS : q.map (moveP dx dy) = s at *
    have last : Ev (fun k => laws_FnInside.l1 k q p dx dy s q.reverse ((40 : Nat) : Int)) true := by
        refine Ev.step (fun k => laws_FnInside.l1.eq_2 _ _ _ _ _ _ _ k) ?_
        simp only [if_neg (show ¬ ((40 : Nat) : Int) < 40 by omega)]
        refine Ev.bind (impl_area q.reverse) ?_
        refine Ev.bind (impl_area q) ?_
        have ab := area_is q qfar (by omega)
        rw [wrap_id (x := -areaOf q) (by omega) (by omega)]
        simp only [if_pos (area_rev q qfar (by omega))]
        refine Ev.bind (impl_area s) ?_
        refine Ev.bind (impl_area q) ?_
        have am : areaOf s = areaOf q := by
          rw [← hS]
          exact area_move q dx dy qfar (by rw [hS]; exact sfar) (by omega)
        simp only [if_pos am]
        refine Ev.bind (impl_area q) ?_
        refine Ev.bind (spec_area q (by omega)) ?_
        simp only [beq_self_eq_true]
        exact Ev.now _
    have ends := inside_rounds q s p dx dy p12 pn hdx hdy (fun x y x0 x1 y0 y1 => by
      refine ⟨?_, ?_, ?_⟩
      · unfold insideB
        rw [qpath, show coB x = true from decide_eq_true (by omega), show coB y = true from decide_eq_true (by omega)]
        simp
      · unfold insideB
        rw [rpath, show coB x = true from decide_eq_true (by omega), show coB y = true from decide_eq_true (by omega), ins_rev]
        simp
      · unfold insideB
        rw [spath, show coB (x + dx) = true from decide_eq_true (by omega), show coB (y + dy) = true from decide_eq_true (by omega), ← hS, ins_move]
        simp) last
    have back : ∀ (j : Nat), j ≤ q.length → Ev (fun k => laws_FnInside.l0 k q p dx dy s ((q.drop j).reverse) ((j : Int) - 1)) true := by
      intro j
      induction j with
      | zero =>
        intro hj
        refine Ev.step (fun k => laws_FnInside.l0.eq_2 _ _ _ _ _ _ _ k) ?_
        simp only [if_neg (show ¬ ((0 : Nat) : Int) - 1 ≥ 0 by omega)]
        rw [List.drop_zero]
        exact ends 40 0 (by omega)
      | succ j ih =>
        intro hj
        refine Ev.step (fun k => laws_FnInside.l0.eq_2 _ _ _ _ _ _ _ k) ?_
        have e : (((j + 1 : Nat) : Int) - 1) = (j : Int) := by omega
        have hcap : (q.drop (j + 1)).reverse.length < 8796093022208 := by
          simp
          omega
        rw [e]
        simp only [if_pos (show (j : Int) ≥ 0 by omega), if_pos (show (0 : Int) ≤ (j : Int) by omega), if_pos (show (j : Int) < (q.length : Int) by omega), if_pos hcap]
        rw [wrap_id (x := (j : Int) - 1) (by omega) (by omega), rdiPoint_lt q j (by omega)]
        have e2 : (q.drop (j + 1)).reverse ++ [(⟨(q[j]'(by omega)).f0, (q[j]'(by omega)).f1⟩ : S30)] = (q.drop j).reverse := by
          rw [List.drop_eq_getElem_cons (show j < q.length by omega), List.reverse_cons]
        rw [e2]
        exact ih (by omega)
    have := back q.length (Nat.le_refl _)
    rw [List.drop_length] at this
    exact this

end Go.Proofs.Ytmhnnmjjebolpaa.Pure
