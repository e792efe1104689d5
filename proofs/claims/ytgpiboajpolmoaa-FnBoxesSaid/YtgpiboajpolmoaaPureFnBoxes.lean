/- The common part of two boxes contains exactly the dots that are in both. (P2) This is its pure statement, over numbers and lists, as printed from the program; the row is built on it.
   Conditions: none. -/
import Derived.Test.YtgpiboajpolmoaaGFnBoxesx5
namespace Go.Proofs.Ytgpiboajpolmoaa.Pure
set_option linter.unusedSimpArgs false
set_option linter.unusedVariables false
open Go.RowKit Go.Proofs.Ytgpiboajpolmoaa.GFnBoxes Go.Proofs.YtgpiboajpolmoaaW.PrintWords Go.Proofs.YtgpiboajpolmoaaW.PrintLast

theorem wrap_id {x : Int} (h0 : -9223372036854775808 ≤ x) (h1 : x ≤ 9223372036854775807) : wrap64 x = x := by
  unfold wrap64
  omega
theorem wrap_succ (i : Nat) (h : i < 4611686018427387904) : wrap64 ((i : Int) + 1) = ((i + 1 : Nat) : Int) := by
  rw [wrap_id (by omega) (by omega)]
  omega
theorem rd_lt (l : List Int) (i : Nat) (h : i < l.length) : rd l (i : Int) = l[i] := by
  unfold rd
  rw [Int.toNat_natCast, List.getD_eq_getElem?_getD, List.getElem?_eq_getElem h]
  rfl
theorem set_take {α : Type} (l x : List α) (i : Nat) (hi : i < l.length) (hx : x.length = l.length) (h : x.take i = l.take i) :
    (x.set i l[i]).take (i + 1) = l.take (i + 1) := by
  rw [List.take_succ_eq_append_getElem (by simp; omega), List.take_succ_eq_append_getElem hi, List.getElem_set_self, List.take_set_of_le (Nat.le_refl i), h]
def allFrom (p : Nat → Bool) (n i : Nat) : Bool := (List.range' i (n - i)).all p
theorem all_end (p : Nat → Bool) (n : Nat) : allFrom p n n = true := by simp [allFrom]
theorem all_step (p : Nat → Bool) (n i : Nat) (h : i < n) : allFrom p n i = (p i && allFrom p n (i + 1)) := by
  unfold allFrom
  rw [show n - i = (n - (i + 1)) + 1 by omega, List.range'_succ, List.all_cons]
theorem all_iff (p : Nat → Bool) (n i : Nat) : allFrom p n i = true ↔ ∀ j, i ≤ j → j < n → p j = true := by
  unfold allFrom
  rw [List.all_eq_true]
  constructor
  · intro h j h1 h2
    exact h j (List.mem_range'_1.2 ⟨h1, by omega⟩)
  · intro h j hj
    have := List.mem_range'_1.1 hj
    exact h j this.1 (by omega)
theorem and_low (x : Int) : 0 ≤ Go.bits .and .i64 x 255 ∧ Go.bits .and .i64 x 255 ≤ 255 := by
  have h : ((BitVec.ofInt 64 x) &&& (BitVec.ofInt 64 255)).toNat ≤ 255 := by
    rw [BitVec.toNat_and]
    exact Nat.and_le_right
  have e : Go.bits .and .i64 x 255 = IntKind.i64.wrap ((((BitVec.ofInt 64 x) &&& (BitVec.ofInt 64 255)).toNat : Nat) : Int) := rfl
  rw [e]
  generalize ((BitVec.ofInt 64 x) &&& (BitVec.ofInt 64 255)).toNat = n at h
  have e2 : IntKind.i64.wrap ((n : Nat) : Int) = n := by
    simp only [IntKind.wrap, IntKind.bits, IntKind.signed]
    simp
    omega
  rw [e2]
  omega
theorem draw_new (l : List Int) (hl : l.length ≤ 1048576) : ∃ h, Ev (fun k => spec_l01New.f k l) (l, 0, h) := by
  unfold spec_l01New.f
  have loop : ∀ (d i : Nat) (h : Int), i + d = l.length → ∃ h', Ev (fun k => spec_l01New.l0 k l h (i : Int)) (l, 0, h') := by
    intro d
    induction d with
    | zero =>
      intro i h hi
      refine ⟨h, Ev.step (fun k => spec_l01New.l0.eq_2 _ _ _ k) ?_⟩
      simp only [if_neg (show ¬ (i : Int) < (l.length : Int) by omega)]
      exact Ev.now _
    | succ d ih =>
      intro i h hi
      by_cases hc : (i : Int) < 4000
      · obtain ⟨h', hh⟩ := ih (i + 1) (Go.bits .and .i64 (wrap64 ((wrap64 ((wrap64 (h * 131)) + (wrap64 (rd l i)))) + 7)) 1073741823) (by omega)
        refine ⟨h', Ev.step (fun k => spec_l01New.l0.eq_2 _ _ _ k) ?_⟩
        simp only [if_pos (show (i : Int) < (l.length : Int) by omega), if_pos hc, if_pos (show (0 : Int) ≤ (i : Int) by omega)]
        rw [wrap_succ i (by omega)]
        exact hh
      · refine ⟨h, Ev.step (fun k => spec_l01New.l0.eq_2 _ _ _ k) ?_⟩
        simp only [if_pos (show (i : Int) < (l.length : Int) by omega), if_neg hc]
        exact Ev.now _
  exact loop l.length 0 _ (by omega)
/-- A place in the bytes of a draw. -/
def Cur (l : List Int) (i : Int) : Prop := 0 ≤ i ∧ i ≤ (l.length : Int)
theorem draw_byte (l : List Int) (hl : l.length ≤ 1048576) (i h : Int) (hi : Cur l i) : ∃ v i' h', spec_l01Byte.f l i h = some (v, i', h') ∧ Cur l i' ∧ 0 ≤ v ∧ v ≤ 255 := by
  unfold spec_l01Byte.f
  unfold Cur at *
  by_cases hc : i < (l.length : Int)
  · rw [if_pos hc, if_pos hi.1]
    exact ⟨_, _, _, rfl, by rw [wrap_id (by omega) (by omega)]; omega, (and_low _).1, (and_low _).2⟩
  · rw [if_neg hc]
    exact ⟨_, _, _, rfl, hi, (and_low _).1, (and_low _).2⟩
theorem tmod_low (v n : Int) (h0 : 0 ≤ v) (hn : 0 < n) : 0 ≤ Int.tmod v n ∧ Int.tmod v n < n :=
  ⟨Int.tmod_nonneg n h0, Int.tmod_lt_of_pos v hn⟩
theorem draw_below (l : List Int) (hl : l.length ≤ 1048576) (i h n : Int) (hi : Cur l i) (hn : 0 < n) : ∃ v i' h', spec_l01Below.f l i h n = some (v, i', h') ∧ Cur l i' ∧ 0 ≤ v ∧ v < n := by
  unfold spec_l01Below.f
  rw [if_neg (by omega)]
  by_cases hc : n ≤ 256
  · rw [if_pos hc]
    obtain ⟨v, i1, h1, e, c1, v0, v1⟩ := draw_byte l hl i h hi
    rw [e]
    simp only [Option.bind_some]
    rw [if_neg (by omega)]
    exact ⟨_, _, _, rfl, c1, tmod_low v n v0 hn⟩
  · rw [if_neg hc]
    obtain ⟨a, i1, h1, e1, c1, a0, a1⟩ := draw_byte l hl i h hi
    obtain ⟨b, i2, h2, e2, c2, b0, b1⟩ := draw_byte l hl i1 h1 c1
    obtain ⟨c, i3, h3, e3, c3, x0, x1⟩ := draw_byte l hl i2 h2 c2
    obtain ⟨d, i4, h4, e4, c4, d0, d1⟩ := draw_byte l hl i3 h3 c3
    simp only [e1, e2, e3, e4, Option.bind_some]
    rw [if_neg (by omega)]
    refine ⟨_, _, _, rfl, c4, ?_⟩
    rw [wrap_id (x := a * 16777216) (by omega) (by omega), wrap_id (x := b * 65536) (by omega) (by omega), wrap_id (x := c * 256) (by omega) (by omega),
      wrap_id (x := a * 16777216 + b * 65536) (by omega) (by omega), wrap_id (x := a * 16777216 + b * 65536 + c * 256) (by omega) (by omega), wrap_id (by omega) (by omega)]
    exact tmod_low _ n (by omega) hn
theorem draw_pick (l : List Int) (hl : l.length ≤ 1048576) (i h : Int) (m : List Int) (hi : Cur l i) (hm : 0 < m.length) : ∃ v i' h', spec_l01PickInt.f l i h m = some (v, i', h') ∧ Cur l i' ∧ v ∈ m := by
  unfold spec_l01PickInt.f
  obtain ⟨v, i1, h1, e, c1, v0, v1⟩ := draw_below l hl i h (m.length : Int) hi (by omega)
  rw [e]
  simp only [Option.bind_some]
  rw [if_pos v0, if_pos v1]
  refine ⟨_, _, _, rfl, c1, ?_⟩
  obtain ⟨n, rfl⟩ := Int.eq_ofNat_of_zero_le v0
  rw [rd_lt m n (by omega)]
  exact List.getElem_mem _
theorem draw_co (l : List Int) (hl : l.length ≤ 1048576) (i h : Int) (hi : Cur l i) : ∃ a b v i1 h1 i2 h2 i3 h3, spec_l01Below.f l i h 33 = some (a, i1, h1) ∧ spec_l01Below.f l i1 h1 41 = some (b, i2, h2) ∧
    spec_l01PickInt.f l i2 h2 (([0, 32, a, wrap64 (b - 4)] : List Int)) = some (v, i3, h3) ∧ Cur l i3 ∧ -4 ≤ v ∧ v ≤ 36 := by
  obtain ⟨a, i1, h1, e1, c1, a0, a1⟩ := draw_below l hl i h 33 hi (by omega)
  obtain ⟨b, i2, h2, e2, c2, b0, b1⟩ := draw_below l hl i1 h1 41 c1 (by omega)
  obtain ⟨v, i3, h3, e3, c3, hv⟩ := draw_pick l hl i2 h2 [0, 32, a, wrap64 (b - 4)] c2 (by simp)
  refine ⟨a, b, v, i1, h1, i2, h2, i3, h3, e1, e2, e3, c3, ?_⟩
  rw [wrap_id (x := b - 4) (by omega) (by omega)] at hv
  simp only [List.mem_cons, List.not_mem_nil, or_false] at hv
  omega
theorem draw_point (l : List Int) (hl : l.length ≤ 1048576) (i h : Int) (hi : Cur l i) : ∃ x y i' h', spec_l02Point.f l i h = some (x, y, i', h') ∧ Cur l i' ∧ (-4 ≤ x ∧ x ≤ 36) ∧ (-4 ≤ y ∧ y ≤ 36) := by
  obtain ⟨a, b, v, i1, h1, i2, h2, i3, h3, e1, e2, e3, c3, v0, v1⟩ := draw_co l hl i h hi
  obtain ⟨a', b', v', i4, h4, i5, h5, i6, h6, e4, e5, e6, c6, w0, w1⟩ := draw_co l hl i3 h3 c3
  refine ⟨v, v', i6, h6, ?_, c6, ⟨v0, v1⟩, ⟨w0, w1⟩⟩
  simp only [spec_l02Point.f, e1, e2, e3, e4, e5, e6, Option.bind_some]
def SmallBox (a b c d : Int) : Prop := -4 ≤ a ∧ a ≤ c ∧ c ≤ 36 ∧ -4 ≤ b ∧ b ≤ d ∧ d ≤ 36
theorem draw_box (l : List Int) (hl : l.length ≤ 1048576) (i h : Int) (hi : Cur l i) : ∃ a b c d i' h', spec_l02Box.f l i h = some (a, b, c, d, i', h') ∧ Cur l i' ∧ SmallBox a b c d := by
  obtain ⟨x, y, i1, h1, e1, c1, x0, y0⟩ := draw_point l hl i h hi
  obtain ⟨p, q, i2, h2, e2, c2, p0, q0⟩ := draw_point l hl i1 h1 c1
  refine ⟨mn x p, mn y q, mx x p, mx y q, i2, h2, ?_, c2, ?_⟩
  · simp only [spec_l02Box.f, e1, e2, Option.bind_some]
  · unfold SmallBox mn mx
    repeat' split
    all_goals omega
theorem draw_boxes (l : List Int) (hl : l.length ≤ 1048576) : ∃ a b c d p q r s, Ev (fun k => spec_DrawBoxes.f k l) (a, b, c, d, p, q, r, s) ∧ SmallBox a b c d ∧ SmallBox p q r s := by
  obtain ⟨h0, e0⟩ := draw_new l hl
  have c0 : Cur l 0 := ⟨by omega, by omega⟩
  obtain ⟨a, b, c, d, i1, h1, e1, c1, s1⟩ := draw_box l hl 0 h0 c0
  obtain ⟨p, q, r, s, i2, h2, e2, c2, s2⟩ := draw_box l hl i1 h1 c1
  refine ⟨a, b, c, d, p, q, r, s, ?_, s1, s2⟩
  unfold spec_DrawBoxes.f
  refine Ev.bind e0 ?_
  simp only [e1, e2, Option.bind_some]
  exact Ev.now _
theorem draw_places (l : List Int) (hl : l.length ≤ 1048576) : ∃ q, Ev (fun k => spec_DrawPlaces.f k l) q ∧ q.length = 12 ∧ ∀ p ∈ q, 0 ≤ p ∧ p < 10000 := by
  obtain ⟨h0, e0⟩ := draw_new l hl
  have loop : ∀ (d j : Nat) (i h : Int) (q : List Int), Cur l i → j + d = 12 → q.length = j → (∀ p ∈ q, 0 ≤ p ∧ p < 10000) →
      ∃ q', Ev (fun k => spec_DrawPlaces.l0 k q (j : Int) l i h) q' ∧ q'.length = 12 ∧ (∀ p ∈ q', 0 ≤ p ∧ p < 10000) := by
    intro d
    induction d with
    | zero =>
      intro j i h q hc hj hq hp
      refine ⟨q, Ev.step (fun k => spec_DrawPlaces.l0.eq_2 _ _ _ _ _ k) ?_, by omega, hp⟩
      simp only [if_neg (show ¬ (j : Int) < 12 by omega)]
      exact Ev.now _
    | succ d ih =>
      intro j i h q hc hj hq hp
      obtain ⟨v, i2, h2, e2, c2, v0, v1⟩ := draw_below l hl i h 10000 hc (by omega)
      obtain ⟨q', e', hl', hp'⟩ := ih (j + 1) i2 h2 (q ++ [v]) c2 (by omega) (by simp; omega) (by
        intro p hm
        rw [List.mem_append] at hm
        rcases hm with hm | hm
        · exact hp p hm
        · rw [List.mem_singleton] at hm
          subst hm
          exact ⟨v0, v1⟩)
      refine ⟨q', Ev.step (fun k => spec_DrawPlaces.l0.eq_2 _ _ _ _ _ k) ?_, hl', hp'⟩
      simp only [if_pos (show (j : Int) < 12 by omega), e2, Option.bind_some, if_pos (show q.length < 17592186044416 by omega)]
      rw [wrap_succ j (by omega)]
      exact e'
  obtain ⟨q, e, hlen, hp⟩ := loop 12 0 0 h0 [] ⟨by omega, by omega⟩ (by omega) rfl (by simp)
  refine ⟨q, ?_, hlen, hp⟩
  unfold spec_DrawPlaces.f
  exact Ev.bind e0 e
theorem place_at (q : List Int) (hq : q.length = 12) (hp : ∀ p ∈ q, 0 ≤ p ∧ p < 10000) (i : Nat) (hi : i < 12) : 0 ≤ rd q (i : Int) ∧ rd q (i : Int) < 10000 := by
  rw [rd_lt q i (by omega)]
  exact hp _ (List.getElem_mem _)
theorem impl_in (a b c : Int) : impl_within.f a b c = some (decide (b ≤ a ∧ a ≤ c)) := by
  unfold impl_within.f
  by_cases h : b ≤ a <;> simp [h]
theorem impl_coord (a : Int) : impl_coordOk.f a = some (decide (-200 ≤ a ∧ a ≤ 200)) := by
  simp only [impl_coordOk.f, impl_in, Option.bind_some]
theorem impl_point (a b : Int) : impl_PointOk.f a b = some (decide ((-200 ≤ a ∧ a ≤ 200) ∧ (-200 ≤ b ∧ b ≤ 200))) := by
  simp only [impl_PointOk.f, impl_coord, Option.bind_some]
  by_cases h : -200 ≤ a ∧ a ≤ 200
  · simp only [decide_eq_true h, if_true]
    congr 1
    exact decide_eq_decide.2 ⟨fun h' => ⟨h, h'⟩, fun h' => h'.2⟩
  · simp only [decide_eq_false h, Bool.false_eq_true, if_false]
    congr 1
    exact (decide_eq_false fun h' => h h'.1).symm
def ptB (p : S48) : Bool := decide ((-200 ≤ p.f0 ∧ p.f0 ≤ 200) ∧ (-200 ≤ p.f1 ∧ p.f1 ≤ 200))
def pathB (l : List S48) : Bool := decide (l.length ≤ 8) && l.all ptB
theorem rdiPoint_lt (l : List S48) (i : Nat) (h : i < l.length) : rd_T48 l (i : Int) = l[i] := by
  unfold rd_T48
  rw [Int.toNat_natCast, List.getD_eq_getElem?_getD, List.getElem?_eq_getElem h]
  rfl
theorem tmod_nat (i n : Nat) : Int.tmod ((i : Nat) : Int) (n : Int) = ((i % n : Nat) : Int) := rfl
theorem impl_points_loop (l : List S48) (hl : l.length ≤ 1048576) : ∀ (d i : Nat), i + d = l.length →
    Ev (fun k => impl_pointsOk.l0 k l (l.length : Int) (i : Int)) ((l.drop i).all ptB) := by
  intro d
  induction d with
  | zero =>
    intro i hi
    refine Ev.step (fun k => impl_pointsOk.l0.eq_2 _ _ _ k) ?_
    simp only [if_neg (show ¬ (i : Int) < (l.length : Int) by omega)]
    rw [List.drop_of_length_le (by omega)]
    exact Ev.now _
  | succ d ih =>
    intro i hi
    refine Ev.step (fun k => impl_pointsOk.l0.eq_2 _ _ _ k) ?_
    simp only [if_pos (show (i : Int) < (l.length : Int) by omega), if_pos (show (0 : Int) ≤ (i : Int) by omega), impl_point, Option.bind_some]
    rw [wrap_succ i (by omega), rdiPoint_lt l i (by omega), List.drop_eq_getElem_cons (show i < l.length by omega), List.all_cons]
    change Ev (fun k => if ptB l[i] = true then impl_pointsOk.l0 k l (l.length : Int) ((i + 1 : Nat) : Int) else some false) _
    cases hc : ptB l[i] with
    | true =>
      simp only [if_true, Bool.true_and]
      exact ih (i + 1) (by omega)
    | false =>
      simp only [Bool.false_and, Bool.false_eq_true, if_false]
      exact Ev.now _
theorem impl_points (l : List S48) (hl : l.length ≤ 1048576) : Ev (fun k => impl_pointsOk.f k l) (l.all ptB) := by
  unfold impl_pointsOk.f
  simpa using impl_points_loop l hl l.length 0 (by omega)
def hullM (a b c d : Int) : List S48 → Int × Int × Int × Int
  | [] => (a, b, c, d)
  | p :: l => hullM (mn a p.f0) (mn b p.f1) (mx c p.f0) (mx d p.f1) l
def boxOfM (l : List S48) : Int × Int × Int × Int :=
  match l with
  | [] => (0, 0, 0, 0)
  | p :: m => if (p :: m).all ptB = true then hullM p.f0 p.f1 p.f0 p.f1 (p :: m) else (0, 0, 0, 0)
theorem mn_self (a : Int) : mn a a = a := by
  unfold mn
  split <;> rfl
theorem mx_self (a : Int) : mx a a = a := by
  unfold mx
  split <;> rfl
theorem impl_hull_loop (l : List S48) (hl : l.length ≤ 1048576) : ∀ (r i : Nat) (a b c d : Int), i + r = l.length →
    Ev (fun k => impl_BoxOf.l0 k l (l.length : Int) (i : Int) a b c d) (hullM a b c d (l.drop i)) := by
  intro r
  induction r with
  | zero =>
    intro i a b c d hi
    refine Ev.step (fun k => impl_BoxOf.l0.eq_2 _ _ _ _ _ _ _ k) ?_
    simp only [if_neg (show ¬ (i : Int) < (l.length : Int) by omega)]
    rw [List.drop_of_length_le (by omega)]
    exact Ev.now _
  | succ r ih =>
    intro i a b c d hi
    refine Ev.step (fun k => impl_BoxOf.l0.eq_2 _ _ _ _ _ _ _ k) ?_
    simp only [if_pos (show (i : Int) < (l.length : Int) by omega), if_pos (show (0 : Int) ≤ (i : Int) by omega)]
    rw [wrap_succ i (by omega), rdiPoint_lt l i (by omega), List.drop_eq_getElem_cons (show i < l.length by omega), hullM]
    exact ih (i + 1) _ _ _ _ (by omega)
theorem impl_boxof (l : List S48) (hl : l.length ≤ 1048576) : Ev (fun k => impl_BoxOf.f k l) (boxOfM l) := by
  unfold impl_BoxOf.f
  by_cases h0 : l.length = 0
  · have : l = [] := List.length_eq_zero_iff.1 h0
    subst this
    simp only [if_pos (show (([] : List S48).length : Int) = 0 by simp)]
    refine Ev.step (fun k => impl_BoxOf.j0.eq_2 _ _ k) ?_
    simp only [if_true]
    exact Ev.now _
  · simp only [if_neg (show ¬ (l.length : Int) = 0 by omega)]
    refine Ev.bind (impl_points l hl) ?_
    refine Ev.step (fun k => impl_BoxOf.j0.eq_2 _ _ k) ?_
    have e : boxOfM l = if l.all ptB = true then hullM (rd_T48 l 0).f0 (rd_T48 l 0).f1 (rd_T48 l 0).f0 (rd_T48 l 0).f1 l else (0, 0, 0, 0) := by
      cases l with
      | nil => exact absurd rfl h0
      | cons p m => rfl
    rw [e]
    cases l.all ptB with
    | false =>
      simp only [Bool.not_false, if_true, Bool.false_eq_true, if_false]
      exact Ev.now _
    | true =>
      simp only [Bool.not_true, if_true, Bool.false_eq_true, if_false, if_pos (show 0 < (l.length : Int) by omega)]
      have := impl_hull_loop l hl l.length 0 (rd_T48 l 0).f0 (rd_T48 l 0).f1 (rd_T48 l 0).f0 (rd_T48 l 0).f1 (by omega)
      simpa using this
theorem mul_bound (a b A B : Int) (h1 : -A ≤ a) (h2 : a ≤ A) (h3 : -B ≤ b) (h4 : b ≤ B) : -(A * B) ≤ a * b ∧ a * b ≤ A * B := by
  have e1 : 0 ≤ (A - a) * (B + b) := Int.mul_nonneg (by omega) (by omega)
  have e2 : 0 ≤ (A + a) * (B - b) := Int.mul_nonneg (by omega) (by omega)
  have e3 : 0 ≤ (A - a) * (B - b) := Int.mul_nonneg (by omega) (by omega)
  have e4 : 0 ≤ (A + a) * (B + b) := Int.mul_nonneg (by omega) (by omega)
  grind
def boxB (a b c d : Int) : Bool := decide ((-200 ≤ a ∧ a ≤ 200) ∧ (-200 ≤ b ∧ b ≤ 200) ∧ (-200 ≤ c ∧ c ≤ 200) ∧ (-200 ≤ d ∧ d ≤ 200) ∧ a ≤ c ∧ b ≤ d)
theorem impl_box (a b c d : Int) : impl_BoxOk.f a b c d = some (boxB a b c d) := by
  simp only [impl_BoxOk.f, impl_coord, Option.bind_some, decide_eq_true_eq, boxB]
  repeat' split
  all_goals congr 1
  all_goals first | (symm; exact decide_eq_false (by omega)) | exact decide_eq_decide.2 (by omega)
def meetM (a b c d p q r s : Int) : Int × Int × Int × Int :=
  if boxB a b c d = true then if boxB p q r s = true then if mx a p ≥ mn c r then (0, 0, 0, 0) else if mx b q ≥ mn d s then (0, 0, 0, 0) else (mx a p, mx b q, mn c r, mn d s) else (0, 0, 0, 0) else (0, 0, 0, 0)
theorem impl_meet (a b c d p q r s : Int) : Ev (fun k => impl_MeetBox.f k a b c d p q r s) (meetM a b c d p q r s) := by
  simp only [impl_MeetBox.f, impl_box, Option.bind_some, meetM]
  have j (t : Bool) : Ev (fun k => impl_MeetBox.j0 k t a b c d p q r s) (if t = true then (0, 0, 0, 0) else if mx a p ≥ mn c r then (0, 0, 0, 0) else if mx b q ≥ mn d s then (0, 0, 0, 0) else (mx a p, mx b q, mn c r, mn d s)) := by
    refine Ev.step (fun k => impl_MeetBox.j0.eq_2 _ _ _ _ _ _ _ _ _ k) ?_
    refine Ev.congr (fun k => ?_) (Ev.now _)
    repeat' split
    all_goals rfl
  cases h1 : boxB a b c d with
  | false =>
    simp only [Bool.false_eq_true, if_false]
    exact j true
  | true =>
    simp only [if_true]
    cases h2 : boxB p q r s with
    | false =>
      simp only [Bool.not_false, Bool.false_eq_true, if_false]
      exact j true
    | true =>
      simp only [Bool.not_true, if_true]
      exact j false
def dotsM (a b c d : Int) : Int := if boxB a b c d = true then wrap64 (wrap64 (c - a) * wrap64 (d - b)) else 0
theorem impl_countdots (a b c d : Int) : impl_CountDots.f a b c d = some (dotsM a b c d) := by
  simp only [impl_CountDots.f, impl_box, Option.bind_some, dotsM]
  split <;> rfl
theorem dots_small (a b c d : Int) (h : boxB a b c d = true) : dotsM a b c d = (c - a) * (d - b) := by
  have hh := of_decide_eq_true h
  have m := mul_bound (c - a) (d - b) 400 400 (by omega) (by omega) (by omega) (by omega)
  rw [dotsM, if_pos h, wrap_id (x := c - a) (by omega) (by omega), wrap_id (x := d - b) (by omega) (by omega)]
  generalize (c - a) * (d - b) = e at *
  exact wrap_id (by omega) (by omega)
def cut (a b x d : Int) : Int := if mx x a ≥ mn (x + d) b then 0 else mn (x + d) b - mx x a
theorem cut_zero (a b x : Int) : cut a b x 0 = 0 := by
  unfold cut mx mn
  repeat' split
  all_goals omega
theorem cut_in (a b x d : Int) (hd : 0 ≤ d) (h : a ≤ x ∧ x < b) : cut a b x (d + 1) = 1 + cut a b (x + 1) d := by
  unfold cut mx mn
  repeat' split
  all_goals omega
theorem cut_out (a b x d : Int) (hd : 0 ≤ d) (h : ¬ (a ≤ x ∧ x < b)) : cut a b x (d + 1) = cut a b (x + 1) d := by
  unfold cut mx mn
  repeat' split
  all_goals omega
theorem cut_low (a b x d : Int) (hd : 0 ≤ d) : 0 ≤ cut a b x d ∧ cut a b x d ≤ d := by
  unfold cut mx mn
  repeat' split
  all_goals omega
def inboxM (a b c d x y : Int) : Bool := boxB a b c d && decide ((a ≤ x ∧ x < c) ∧ (b ≤ y ∧ y < d))
theorem impl_inbox (a b c d x y : Int) : impl_InBox.f a b c d x y = some (inboxM a b c d x y) := by
  simp only [impl_InBox.f, impl_box, Option.bind_some, inboxM]
  cases boxB a b c d with
  | false => simp only [Bool.false_eq_true, if_false, Bool.false_and]
  | true =>
    simp only [if_true, Bool.true_and]
    repeat' split
    all_goals congr 1
    all_goals first | (symm; exact decide_eq_false (by omega)) | exact decide_eq_decide.2 (by omega)
def wholeB (a b c d p q r s x y : Int) : Bool := decide ((mx a p ≤ x ∧ x < mn c r) ∧ (mx b q ≤ y ∧ y < mn d s))
theorem both_in (a b c d p q r s x y : Int) (h1 : boxB a b c d = true) (h2 : boxB p q r s = true) : (inboxM a b c d x y && inboxM p q r s x y) = wholeB a b c d p q r s x y := by
  unfold inboxM wholeB
  rw [h1, h2, Bool.true_and, Bool.true_and, ← Bool.decide_and]
  refine decide_eq_decide.2 ?_
  unfold mx mn
  repeat' split
  all_goals omega
theorem meet_in (a b c d p q r s x y : Int) (h1 : boxB a b c d = true) (h2 : boxB p q r s = true) :
    inboxM (meetM a b c d p q r s).1 (meetM a b c d p q r s).2.1 (meetM a b c d p q r s).2.2.1 (meetM a b c d p q r s).2.2.2 x y = wholeB a b c d p q r s x y := by
  unfold meetM
  rw [if_pos h1, if_pos h2]
  have hz : inboxM 0 0 0 0 x y = false := by
    unfold inboxM
    rw [decide_eq_false (by omega), Bool.and_false]
  by_cases k1 : mx a p ≥ mn c r
  · rw [if_pos k1]
    simp only
    rw [hz]
    exact (decide_eq_false (by omega)).symm
  · rw [if_neg k1]
    by_cases k2 : mx b q ≥ mn d s
    · rw [if_pos k2]
      simp only
      rw [hz]
      exact (decide_eq_false (by omega)).symm
    · rw [if_neg k2]
      simp only
      have g1 := of_decide_eq_true h1
      have g2 := of_decide_eq_true h2
      have b3 : boxB (mx a p) (mx b q) (mn c r) (mn d s) = true := by
        refine decide_eq_true ?_
        unfold mx mn at k1 k2 ⊢
        repeat' split
        all_goals repeat' split at k1
        all_goals repeat' split at k2
        all_goals omega
      unfold inboxM wholeB
      rw [b3, Bool.true_and]
theorem FnBoxes : laws_FnBoxes.Pure := by
  intro l hm hs hw
  refine Ev.rounds ?_
  simp only [laws_FnBoxes.f, laws_big.f, Option.bind_some, decide_eq_true_eq]
  by_cases hb : (l.length : Int) > 1048576
  · simp only [if_pos hb]
    exact Ev.now _
  simp only [if_neg hb]
  obtain ⟨a, b, c, d, p, q, r, s, e, s1, s2⟩ := draw_boxes l (by omega)
  obtain ⟨Q, eQ, hQ, hQp⟩ := draw_places l (by omega)
  have hx := s1
  unfold SmallBox at hx
  have hy := s2
  unfold SmallBox at hy
  have b1 : boxB a b c d = true := decide_eq_true (by omega)
  have b2 : boxB p q r s = true := decide_eq_true (by omega)
  refine Ev.bind e ?_
  refine Ev.bind eQ ?_
  refine Ev.bind (impl_meet a b c d p q r s) ?_
  have hin := meet_in a b c d p q r s
  have hdots : dotsM (meetM a b c d p q r s).1 (meetM a b c d p q r s).2.1 (meetM a b c d p q r s).2.2.1 (meetM a b c d p q r s).2.2.2 = cut (mx a p) (mn c r) (-6) 44 * cut (mx b q) (mn d s) (-6) 44 := by
    have hz : dotsM 0 0 0 0 = 0 := by rw [dots_small 0 0 0 0 (by decide)]; rfl
    have g1 : -4 ≤ mx a p ∧ mn c r ≤ 36 ∧ -4 ≤ mx b q ∧ mn d s ≤ 36 := by
      unfold mx mn
      repeat' split
      all_goals omega
    unfold meetM
    rw [if_pos b1, if_pos b2]
    by_cases k1 : mx a p ≥ mn c r
    · rw [if_pos k1]
      have : cut (mx a p) (mn c r) (-6) 44 = 0 := by
        clear hin hz
        generalize mx a p = u at *
        generalize mn c r = v at *
        unfold cut mx mn
        repeat' split
        all_goals omega
      rw [this, Int.zero_mul]
      exact hz
    · rw [if_neg k1]
      by_cases k2 : mx b q ≥ mn d s
      · rw [if_pos k2]
        have : cut (mx b q) (mn d s) (-6) 44 = 0 := by
          clear hin hz
          generalize mx b q = u at *
          generalize mn d s = v at *
          unfold cut mx mn
          repeat' split
          all_goals omega
        rw [this, Int.mul_zero]
        exact hz
      · rw [if_neg k2]
        simp only
        have b3 : boxB (mx a p) (mx b q) (mn c r) (mn d s) = true := by
          clear hin hz
          refine decide_eq_true ?_
          unfold mx mn at g1 k1 k2 ⊢
          repeat' split
          all_goals repeat' split at k1
          all_goals repeat' split at k2
          all_goals repeat' split at g1
          all_goals omega
        rw [dots_small _ _ _ _ b3]
        have e1 : cut (mx a p) (mn c r) (-6) 44 = mn c r - mx a p := by
          clear hin hz b3
          generalize mx a p = u at *
          generalize mn c r = v at *
          unfold cut mx mn
          repeat' split
          all_goals omega
        have e2 : cut (mx b q) (mn d s) (-6) 44 = mn d s - mx b q := by
          clear hin hz b3
          generalize mx b q = u at *
          generalize mn d s = v at *
          unfold cut mx mn
          repeat' split
          all_goals omega
        rw [e1, e2]
  have hle : cut (mx a p) (mn c r) (-6) 44 * cut (mx b q) (mn d s) (-6) 44 ≤ dotsM a b c d := by
    rw [dots_small a b c d b1]
    have e1 : cut (mx a p) (mn c r) (-6) 44 ≤ c - a := by
      clear hin hdots
      unfold cut mx mn
      repeat' split
      all_goals omega
    have e2 : cut (mx b q) (mn d s) (-6) 44 ≤ d - b := by
      clear hin hdots
      unfold cut mx mn
      repeat' split
      all_goals omega
    have z1 := (cut_low (mx a p) (mn c r) (-6) 44 (by omega)).1
    have z2 := (cut_low (mx b q) (mn d s) (-6) 44 (by omega)).1
    exact Int.mul_le_mul e1 e2 z2 (by omega)
  generalize hM : meetM a b c d p q r s = M at *
  obtain ⟨u0, u1, u2, u3⟩ := M
  simp only at hin hdots ⊢
  have hwx : ∀ x y, wholeB a b c d p q r s x y = decide ((mx a p ≤ x ∧ x < mn c r) ∧ (mx b q ≤ y ∧ y < mn d s)) := fun x y => rfl
  generalize mx a p = X0 at *
  generalize mn c r = X1 at *
  generalize mx b q = Y0 at *
  generalize mn d s = Y1 at *
  have row : ∀ (y : Int) (R : Bool), -6 ≤ y → y < 38 → ∀ (dd : Nat) (x n : Int), x + dd = 38 → -6 ≤ x → 0 ≤ n → n ≤ 44 * (y + 6) + (x + 6) →
      Ev (fun k => laws_FnBoxes.l0 k Q (n + (if Y0 ≤ y ∧ y < Y1 then cut X0 X1 x dd else 0)) (y + 1) a b c d p q r s u0 u1 u2 u3) R →
      Ev (fun k => laws_FnBoxes.l1 k Q n y x a b c d p q r s u0 u1 u2 u3) R := by
    intro y R hy0 hy1 dd
    induction dd with
    | zero =>
      intro x n hx hx0 hn0 hn1 hR
      refine Ev.step (fun k => laws_FnBoxes.l1.eq_2 _ _ _ _ _ _ _ _ _ _ _ _ _ _ _ _ k) ?_
      simp only [if_neg (show ¬ x < 38 by omega)]
      rw [wrap_id (x := y + 1) (by omega) (by omega)]
      have e0 : (if Y0 ≤ y ∧ y < Y1 then cut X0 X1 x ((0 : Nat) : Int) else 0) = 0 := by
        rw [show ((0 : Nat) : Int) = 0 from rfl, cut_zero]
        split <;> rfl
      rw [e0, Int.add_zero] at hR
      exact hR
    | succ dd ih =>
      intro x n hx hx0 hn0 hn1 hR
      have jj : Ev (fun k => laws_FnBoxes.j2 k Q n y x (wholeB a b c d p q r s x y) a b c d p q r s u0 u1 u2 u3) R := by
        refine Ev.step (fun k => laws_FnBoxes.j2.eq_2 _ _ _ _ _ _ _ _ _ _ _ _ _ _ _ _ _ k) ?_
        simp only [impl_inbox, Option.bind_some]
        rw [hin x y b1 b2]
        simp only [bne_self_eq_false, Bool.false_eq_true, if_false, laws_btoi.f]
        rw [wrap_id (x := x + 1) (by omega) (by omega)]
        rw [hwx]
        by_cases hc : (X0 ≤ x ∧ x < X1) ∧ (Y0 ≤ y ∧ y < Y1)
        · simp only [decide_eq_true hc, if_true, Option.bind_some]
          rw [wrap_id (x := n + 1) (by omega) (by omega)]
          refine ih (x + 1) (n + 1) (by omega) (by omega) (by omega) (by omega) ?_
          rw [if_pos hc.2] at hR ⊢
          rw [show ((dd + 1 : Nat) : Int) = (dd : Int) + 1 by omega, cut_in _ _ _ _ (by omega) hc.1] at hR
          rw [show n + 1 + cut X0 X1 (x + 1) (dd : Int) = n + (1 + cut X0 X1 (x + 1) (dd : Int)) by omega]
          exact hR
        · simp only [decide_eq_false hc, Bool.false_eq_true, if_false, Option.bind_some]
          rw [wrap_id (x := n + 0) (by omega) (by omega), Int.add_zero]
          refine ih (x + 1) n (by omega) (by omega) (by omega) (by omega) ?_
          by_cases hy2 : Y0 ≤ y ∧ y < Y1
          · rw [if_pos hy2] at hR ⊢
            rw [show ((dd + 1 : Nat) : Int) = (dd : Int) + 1 by omega, cut_out _ _ _ _ (by omega) (fun h => hc ⟨h, hy2⟩)] at hR
            exact hR
          · rw [if_neg hy2] at hR ⊢
            exact hR
      refine Ev.step (fun k => laws_FnBoxes.l1.eq_2 _ _ _ _ _ _ _ _ _ _ _ _ _ _ _ _ k) ?_
      simp only [if_pos (show x < 38 by omega), impl_inbox, Option.bind_some]
      have hbi := both_in a b c d p q r s x y b1 b2
      cases hA : inboxM a b c d x y with
      | false =>
        simp only [Bool.false_eq_true, if_false]
        rw [hA, Bool.false_and] at hbi
        rw [← hbi] at jj
        exact jj
      | true =>
        simp only [if_true]
        rw [hA, Bool.true_and] at hbi
        rw [hbi]
        exact jj
  have rows : ∀ (dd : Nat) (y n : Int), y + dd = 38 → -6 ≤ y → 0 ≤ n → n ≤ 44 * (y + 6) → n + cut X0 X1 (-6) 44 * cut Y0 Y1 y dd = cut X0 X1 (-6) 44 * cut Y0 Y1 (-6) 44 →
      Ev (fun k => laws_FnBoxes.l0 k Q n y a b c d p q r s u0 u1 u2 u3) true := by
    intro dd
    induction dd with
    | zero =>
      intro y n hy hy0 hn0 hn1 hN
      rw [show ((0 : Nat) : Int) = 0 from rfl, cut_zero, Int.mul_zero, Int.add_zero] at hN
      refine Ev.step (fun k => laws_FnBoxes.l0.eq_2 _ _ _ _ _ _ _ _ _ _ _ _ _ _ _ k) ?_
      simp only [if_neg (show ¬ y < 38 by omega)]
      refine Ev.bind (impl_boxof [⟨c, b⟩, ⟨a, d⟩] (by simp)) ?_
      have hq : boxOfM [(⟨c, b⟩ : S48), ⟨a, d⟩] = (a, b, c, d) := by
        have hp : [(⟨c, b⟩ : S48), ⟨a, d⟩].all ptB = true := by
          simp only [List.all_cons, List.all_nil, ptB]
          rw [decide_eq_true (by omega), decide_eq_true (by omega)]
          rfl
        show (if [(⟨c, b⟩ : S48), ⟨a, d⟩].all ptB = true then hullM c b c b [(⟨c, b⟩ : S48), ⟨a, d⟩] else (0, 0, 0, 0)) = _
        rw [if_pos hp]
        simp only [hullM, Prod.mk.injEq]
        unfold mx mn
        refine ⟨?_, ?_, ?_, ?_⟩ <;> repeat' split
        all_goals omega
      simp only [hq, impl_countdots, Option.bind_some, beq_self_eq_true, Bool.and_self, if_true]
      rw [hdots, hN]
      simp only [if_true, if_pos (show dotsM a b c d ≥ cut X0 X1 (-6) 44 * cut Y0 Y1 (-6) 44 from hle), if_pos (show 0 < (Q.length : Int) by omega), impl_point, Option.bind_some]
      have p0 := place_at Q hQ hQp 0 (by omega)
      have pt := tmod_low (rd Q 0) 200 p0.1 (by omega)
      rw [decide_eq_true (show (-200 ≤ Int.tmod (rd Q 0) 200 ∧ Int.tmod (rd Q 0) 200 ≤ 200) ∧ ((-200 : Int) ≤ 0 ∧ (0 : Int) ≤ 200) from ⟨⟨Int.le_trans (by decide) pt.1, Int.le_of_lt pt.2⟩, by decide, by decide⟩)]
      exact Ev.now _
    | succ dd ih =>
      intro y n hy hy0 hn0 hn1 hN
      have hcl := cut_low X0 X1 (-6) 44 (by omega)
      refine Ev.step (fun k => laws_FnBoxes.l0.eq_2 _ _ _ _ _ _ _ _ _ _ _ _ _ _ _ k) ?_
      simp only [if_pos (show y < 38 by omega)]
      refine row y true hy0 (by omega) 44 (-6) n (by omega) (by omega) hn0 (by omega) ?_
      rw [show ((44 : Nat) : Int) = 44 from rfl]
      rw [show ((dd + 1 : Nat) : Int) = (dd : Int) + 1 by omega] at hN
      by_cases hc : Y0 ≤ y ∧ y < Y1
      · rw [if_pos hc]
        rw [cut_in _ _ _ _ (by omega) hc, Int.mul_add, Int.mul_one, ← Int.add_assoc] at hN
        exact ih (y + 1) _ (by omega) (by omega) (by omega) (by omega) hN
      · rw [if_neg hc, Int.add_zero]
        rw [cut_out _ _ _ _ (by omega) hc] at hN
        exact ih (y + 1) n (by omega) (by omega) (by omega) (by omega) hN
  refine rows 44 (-6) 0 (by omega) (by omega) (by omega) (by omega) ?_
  rw [Int.zero_add]
  rfl

end Go.Proofs.Ytgpiboajpolmoaa.Pure
