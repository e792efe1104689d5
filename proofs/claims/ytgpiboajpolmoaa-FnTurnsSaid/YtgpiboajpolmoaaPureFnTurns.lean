/- Joined transformations do one after the other, and one without scaling can be taken back. (P3) This is its pure statement, over numbers and lists, as printed from the program; the row is built on it.
   Conditions: none. -/
import Derived.Test.YtgpiboajpolmoaaGFnTurnsx4
namespace Go.Proofs.Ytgpiboajpolmoaa.Pure
set_option linter.unusedSimpArgs false
set_option linter.unusedVariables false
open Go.RowKit Go.Proofs.Ytgpiboajpolmoaa.GFnTurns Go.Proofs.YtgpiboajpolmoaaW.PrintWords Go.Proofs.YtgpiboajpolmoaaW.PrintLast

theorem wrap_id {x : Int} (h0 : -9223372036854775808 ≤ x) (h1 : x ≤ 9223372036854775807) : wrap64 x = x := by
  unfold wrap64
  omega
theorem wrap_succ (i : Nat) (h : i < 4611686018427387904) : wrap64 ((i : Int) + 1) = ((i + 1 : Nat) : Int) := by
  rw [wrap_id (by omega) (by omega)]
  omega
theorem rd_lt (l : List Int) (i : Nat) (h : i < l.length) : rd l (i : Int) = l[i] := by
  unfold rd
  rw [Int.toNat_natCast, List.getD_eq_getElem?_getD, List.getElem?_eq_getElem h]
  rfl
theorem set_take {α : Type} (l x : List α) (i : Nat) (hi : i < l.length) (hx : x.length = l.length) (h : x.take i = l.take i) :
    (x.set i l[i]).take (i + 1) = l.take (i + 1) := by
  rw [List.take_succ_eq_append_getElem (by simp; omega), List.take_succ_eq_append_getElem hi, List.getElem_set_self, List.take_set_of_le (Nat.le_refl i), h]
def allFrom (p : Nat → Bool) (n i : Nat) : Bool := (List.range' i (n - i)).all p
theorem all_end (p : Nat → Bool) (n : Nat) : allFrom p n n = true := by simp [allFrom]
theorem all_step (p : Nat → Bool) (n i : Nat) (h : i < n) : allFrom p n i = (p i && allFrom p n (i + 1)) := by
  unfold allFrom
  rw [show n - i = (n - (i + 1)) + 1 by omega, List.range'_succ, List.all_cons]
theorem all_iff (p : Nat → Bool) (n i : Nat) : allFrom p n i = true ↔ ∀ j, i ≤ j → j < n → p j = true := by
  unfold allFrom
  rw [List.all_eq_true]
  constructor
  · intro h j h1 h2
    exact h j (List.mem_range'_1.2 ⟨h1, by omega⟩)
  · intro h j hj
    have := List.mem_range'_1.1 hj
    exact h j this.1 (by omega)
theorem and_low (x : Int) : 0 ≤ Go.bits .and .i64 x 255 ∧ Go.bits .and .i64 x 255 ≤ 255 := by
  have h : ((BitVec.ofInt 64 x) &&& (BitVec.ofInt 64 255)).toNat ≤ 255 := by
    rw [BitVec.toNat_and]
    exact Nat.and_le_right
  have e : Go.bits .and .i64 x 255 = IntKind.i64.wrap ((((BitVec.ofInt 64 x) &&& (BitVec.ofInt 64 255)).toNat : Nat) : Int) := rfl
  rw [e]
  generalize ((BitVec.ofInt 64 x) &&& (BitVec.ofInt 64 255)).toNat = n at h
  have e2 : IntKind.i64.wrap ((n : Nat) : Int) = n := by
    simp only [IntKind.wrap, IntKind.bits, IntKind.signed]
    simp
    omega
  rw [e2]
  omega
theorem draw_new (l : List Int) (hl : l.length ≤ 1048576) : ∃ h, Ev (fun k => spec_l01New.f k l) (l, 0, h) := by
  unfold spec_l01New.f
  have loop : ∀ (d i : Nat) (h : Int), i + d = l.length → ∃ h', Ev (fun k => spec_l01New.l0 k l h (i : Int)) (l, 0, h') := by
    intro d
    induction d with
    | zero =>
      intro i h hi
      refine ⟨h, Ev.step (fun k => spec_l01New.l0.eq_2 _ _ _ k) ?_⟩
      simp only [if_neg (show ¬ (i : Int) < (l.length : Int) by omega)]
      exact Ev.now _
    | succ d ih =>
      intro i h hi
      by_cases hc : (i : Int) < 4000
      · obtain ⟨h', hh⟩ := ih (i + 1) (Go.bits .and .i64 (wrap64 ((wrap64 ((wrap64 (h * 131)) + (wrap64 (rd l i)))) + 7)) 1073741823) (by omega)
        refine ⟨h', Ev.step (fun k => spec_l01New.l0.eq_2 _ _ _ k) ?_⟩
        simp only [if_pos (show (i : Int) < (l.length : Int) by omega), if_pos hc, if_pos (show (0 : Int) ≤ (i : Int) by omega)]
        rw [wrap_succ i (by omega)]
        exact hh
      · refine ⟨h, Ev.step (fun k => spec_l01New.l0.eq_2 _ _ _ k) ?_⟩
        simp only [if_pos (show (i : Int) < (l.length : Int) by omega), if_neg hc]
        exact Ev.now _
  exact loop l.length 0 _ (by omega)
/-- A place in the bytes of a draw. -/
def Cur (l : List Int) (i : Int) : Prop := 0 ≤ i ∧ i ≤ (l.length : Int)
theorem draw_byte (l : List Int) (hl : l.length ≤ 1048576) (i h : Int) (hi : Cur l i) : ∃ v i' h', spec_l01Byte.f l i h = some (v, i', h') ∧ Cur l i' ∧ 0 ≤ v ∧ v ≤ 255 := by
  unfold spec_l01Byte.f
  unfold Cur at *
  by_cases hc : i < (l.length : Int)
  · rw [if_pos hc, if_pos hi.1]
    exact ⟨_, _, _, rfl, by rw [wrap_id (by omega) (by omega)]; omega, (and_low _).1, (and_low _).2⟩
  · rw [if_neg hc]
    exact ⟨_, _, _, rfl, hi, (and_low _).1, (and_low _).2⟩
theorem tmod_low (v n : Int) (h0 : 0 ≤ v) (hn : 0 < n) : 0 ≤ Int.tmod v n ∧ Int.tmod v n < n :=
  ⟨Int.tmod_nonneg n h0, Int.tmod_lt_of_pos v hn⟩
theorem draw_below (l : List Int) (hl : l.length ≤ 1048576) (i h n : Int) (hi : Cur l i) (hn : 0 < n) : ∃ v i' h', spec_l01Below.f l i h n = some (v, i', h') ∧ Cur l i' ∧ 0 ≤ v ∧ v < n := by
  unfold spec_l01Below.f
  rw [if_neg (by omega)]
  by_cases hc : n ≤ 256
  · rw [if_pos hc]
    obtain ⟨v, i1, h1, e, c1, v0, v1⟩ := draw_byte l hl i h hi
    rw [e]
    simp only [Option.bind_some]
    rw [if_neg (by omega)]
    exact ⟨_, _, _, rfl, c1, tmod_low v n v0 hn⟩
  · rw [if_neg hc]
    obtain ⟨a, i1, h1, e1, c1, a0, a1⟩ := draw_byte l hl i h hi
    obtain ⟨b, i2, h2, e2, c2, b0, b1⟩ := draw_byte l hl i1 h1 c1
    obtain ⟨c, i3, h3, e3, c3, x0, x1⟩ := draw_byte l hl i2 h2 c2
    obtain ⟨d, i4, h4, e4, c4, d0, d1⟩ := draw_byte l hl i3 h3 c3
    simp only [e1, e2, e3, e4, Option.bind_some]
    rw [if_neg (by omega)]
    refine ⟨_, _, _, rfl, c4, ?_⟩
    rw [wrap_id (x := a * 16777216) (by omega) (by omega), wrap_id (x := b * 65536) (by omega) (by omega), wrap_id (x := c * 256) (by omega) (by omega),
      wrap_id (x := a * 16777216 + b * 65536) (by omega) (by omega), wrap_id (x := a * 16777216 + b * 65536 + c * 256) (by omega) (by omega), wrap_id (by omega) (by omega)]
    exact tmod_low _ n (by omega) hn
theorem draw_pick (l : List Int) (hl : l.length ≤ 1048576) (i h : Int) (m : List Int) (hi : Cur l i) (hm : 0 < m.length) : ∃ v i' h', spec_l01PickInt.f l i h m = some (v, i', h') ∧ Cur l i' ∧ v ∈ m := by
  unfold spec_l01PickInt.f
  obtain ⟨v, i1, h1, e, c1, v0, v1⟩ := draw_below l hl i h (m.length : Int) hi (by omega)
  rw [e]
  simp only [Option.bind_some]
  rw [if_pos v0, if_pos v1]
  refine ⟨_, _, _, rfl, c1, ?_⟩
  obtain ⟨n, rfl⟩ := Int.eq_ofNat_of_zero_le v0
  rw [rd_lt m n (by omega)]
  exact List.getElem_mem _
theorem draw_co (l : List Int) (hl : l.length ≤ 1048576) (i h : Int) (hi : Cur l i) : ∃ a b v i1 h1 i2 h2 i3 h3, spec_l01Below.f l i h 33 = some (a, i1, h1) ∧ spec_l01Below.f l i1 h1 41 = some (b, i2, h2) ∧
    spec_l01PickInt.f l i2 h2 (([0, 32, a, wrap64 (b - 4)] : List Int)) = some (v, i3, h3) ∧ Cur l i3 ∧ -4 ≤ v ∧ v ≤ 36 := by
  obtain ⟨a, i1, h1, e1, c1, a0, a1⟩ := draw_below l hl i h 33 hi (by omega)
  obtain ⟨b, i2, h2, e2, c2, b0, b1⟩ := draw_below l hl i1 h1 41 c1 (by omega)
  obtain ⟨v, i3, h3, e3, c3, hv⟩ := draw_pick l hl i2 h2 [0, 32, a, wrap64 (b - 4)] c2 (by simp)
  refine ⟨a, b, v, i1, h1, i2, h2, i3, h3, e1, e2, e3, c3, ?_⟩
  rw [wrap_id (x := b - 4) (by omega) (by omega)] at hv
  simp only [List.mem_cons, List.not_mem_nil, or_false] at hv
  omega
theorem draw_point (l : List Int) (hl : l.length ≤ 1048576) (i h : Int) (hi : Cur l i) : ∃ x y i' h', spec_l02Point.f l i h = some (x, y, i', h') ∧ Cur l i' ∧ (-4 ≤ x ∧ x ≤ 36) ∧ (-4 ≤ y ∧ y ≤ 36) := by
  obtain ⟨a, b, v, i1, h1, i2, h2, i3, h3, e1, e2, e3, c3, v0, v1⟩ := draw_co l hl i h hi
  obtain ⟨a', b', v', i4, h4, i5, h5, i6, h6, e4, e5, e6, c6, w0, w1⟩ := draw_co l hl i3 h3 c3
  refine ⟨v, v', i6, h6, ?_, c6, ⟨v0, v1⟩, ⟨w0, w1⟩⟩
  simp only [spec_l02Point.f, e1, e2, e3, e4, e5, e6, Option.bind_some]
theorem impl_in (a b c : Int) : impl_within.f a b c = some (decide (b ≤ a ∧ a ≤ c)) := by
  unfold impl_within.f
  by_cases h : b ≤ a <;> simp [h]
theorem impl_coord (a : Int) : impl_coordOk.f a = some (decide (-200 ≤ a ∧ a ≤ 200)) := by
  simp only [impl_coordOk.f, impl_in, Option.bind_some]
def coordsB (a b : Int) : Bool := decide ((-200 ≤ a ∧ a ≤ 200) ∧ (-200 ≤ b ∧ b ≤ 200))
theorem impl_point (a b : Int) : impl_PointOk.f a b = some (coordsB a b) := by
  simp only [impl_PointOk.f, impl_coord, Option.bind_some, coordsB]
  by_cases h : -200 ≤ a ∧ a ≤ 200
  · simp only [decide_eq_true h, if_true]
    congr 1
    exact decide_eq_decide.2 ⟨fun h' => ⟨h, h'⟩, fun h' => h'.2⟩
  · simp only [decide_eq_false h, Bool.false_eq_true, if_false]
    congr 1
    exact (decide_eq_false fun h' => h h'.1).symm
def turnB (q s dx dy : Int) : Bool := decide ((0 ≤ q ∧ q ≤ 3) ∧ (1 ≤ s ∧ s ≤ 4) ∧ (-200 ≤ dx ∧ dx ≤ 200) ∧ (-200 ≤ dy ∧ dy ≤ 200))
/-- So many quarters of a turn. -/
def turnN : Nat → Int → Int → Int × Int
  | 0, x, y => (x, y)
  | n + 1, x, y => turnN n (wrap64 (-y)) x
def rawM (q s dx dy px py : Int) : Int × Int :=
  (wrap64 ((turnN q.toNat (wrap64 (px * s)) (wrap64 (py * s))).1 + dx), wrap64 ((turnN q.toNat (wrap64 (px * s)) (wrap64 (py * s))).2 + dy))
theorem impl_turn (q s dx dy : Int) : impl_TurnOk.f q s dx dy = some (turnB q s dx dy) := by
  simp only [impl_TurnOk.f, impl_coord, impl_in, Option.bind_some, decide_eq_true_eq, turnB]
  repeat' split
  all_goals congr 1
  all_goals first | (symm; exact decide_eq_false (by omega)) | exact decide_eq_decide.2 (by omega)
theorem impl_quart_loop : ∀ (d : Nat) (n x y : Int), n ≤ 3 → d = n.toNat → Ev (fun k => impl_quarters.l0 k n x y) (turnN d x y) := by
  intro d
  induction d with
  | zero =>
    intro n x y h3 hd
    refine Ev.step (fun k => impl_quarters.l0.eq_2 _ _ _ k) ?_
    simp only [if_neg (show ¬ n > 0 by omega)]
    exact Ev.now _
  | succ d ih =>
    intro n x y h3 hd
    refine Ev.step (fun k => impl_quarters.l0.eq_2 _ _ _ k) ?_
    simp only [if_pos (show n > 0 by omega)]
    rw [wrap_id (x := n - 1) (by omega) (by omega)]
    exact ih (n - 1) _ _ (by omega) (by omega)
theorem impl_quart (n x y : Int) (h : n ≤ 3) : Ev (fun k => impl_quarters.f k x y n) (turnN n.toNat x y) := by
  unfold impl_quarters.f
  exact impl_quart_loop n.toNat n x y h rfl
theorem impl_moved (q s dx dy px py : Int) (hq : q ≤ 3) : Ev (fun k => impl_moved.f k q s dx dy px py) (rawM q s dx dy px py) := by
  unfold impl_moved.f rawM
  exact Ev.bind (impl_quart q _ _ hq) (Ev.now _)
def joinM (a b c d p q r s : Int) : Int × Int × Int × Int × Bool :=
  if (turnB a b c d && turnB p q r s) = true then
    if turnB (Int.tmod (wrap64 (a + p)) 4) (wrap64 (b * q)) (rawM p q r s c d).1 (rawM p q r s c d).2 = true then
      (Int.tmod (wrap64 (a + p)) 4, wrap64 (b * q), (rawM p q r s c d).1, (rawM p q r s c d).2, true)
    else (0, 0, 0, 0, false)
  else (0, 0, 0, 0, false)
theorem impl_join (a b c d p q r s : Int) : Ev (fun k => impl_JoinTurns.f k a b c d p q r s) (joinM a b c d p q r s) := by
  simp only [impl_JoinTurns.f, impl_turn, Option.bind_some, joinM]
  have j1 : Ev (fun k => impl_JoinTurns.j0 k true a b c d p q r s) (0, 0, 0, 0, false) := by
    refine Ev.step (fun k => impl_JoinTurns.j0.eq_2 _ _ _ _ _ _ _ _ _ k) ?_
    simp only [if_true]
    exact Ev.now _
  cases h1 : turnB a b c d with
  | false =>
    simp only [Bool.false_eq_true, if_false, Bool.false_and]
    exact j1
  | true =>
    simp only [if_true, Bool.true_and]
    cases h2 : turnB p q r s with
    | false =>
      simp only [Bool.not_false, Bool.false_eq_true, if_false]
      exact j1
    | true =>
      have hp : p ≤ 3 := by
        have := of_decide_eq_true h2
        omega
      simp only [Bool.not_true, if_true]
      refine Ev.step (fun k => impl_JoinTurns.j0.eq_2 _ _ _ _ _ _ _ _ _ k) ?_
      simp only [Bool.false_eq_true, if_false]
      refine Ev.bind (impl_moved p q r s c d hp) ?_
      simp only [impl_turn, Option.bind_some]
      cases turnB (Int.tmod (wrap64 (a + p)) 4) (wrap64 (b * q)) (rawM p q r s c d).1 (rawM p q r s c d).2 with
      | false =>
        simp only [Bool.false_eq_true, if_false]
        exact Ev.now _
      | true =>
        simp only [if_true]
        exact Ev.now _
def applyM (q s dx dy px py : Int) : Int × Int :=
  if turnB q s dx dy = true then if coordsB px py = true then if coordsB (rawM q s dx dy px py).1 (rawM q s dx dy px py).2 = true then ((rawM q s dx dy px py).1, (rawM q s dx dy px py).2) else (px, py) else (px, py) else (px, py)
theorem impl_apply (q s dx dy px py : Int) : Ev (fun k => impl_ApplyTurn.f k q s dx dy px py) (applyM q s dx dy px py) := by
  simp only [impl_ApplyTurn.f, impl_turn, Option.bind_some, applyM]
  have j1 : Ev (fun k => impl_ApplyTurn.j0 k true q s dx dy px py) (px, py) := by
    refine Ev.step (fun k => impl_ApplyTurn.j0.eq_2 _ _ _ _ _ _ _ k) ?_
    simp only [if_true]
    exact Ev.now _
  cases h1 : turnB q s dx dy with
  | false =>
    simp only [Bool.false_eq_true, if_false]
    exact j1
  | true =>
    have hq : q ≤ 3 := by
      have := of_decide_eq_true h1
      omega
    simp only [if_true, impl_point, Option.bind_some]
    cases h2 : coordsB px py with
    | false =>
      simp only [Bool.not_false, Bool.false_eq_true, if_false]
      exact j1
    | true =>
      simp only [Bool.not_true, if_true]
      refine Ev.step (fun k => impl_ApplyTurn.j0.eq_2 _ _ _ _ _ _ _ k) ?_
      simp only [Bool.false_eq_true, if_false]
      refine Ev.bind (impl_moved q s dx dy px py hq) ?_
      simp only [impl_point, Option.bind_some]
      cases h3 : coordsB (rawM q s dx dy px py).1 (rawM q s dx dy px py).2 with
      | false =>
        simp only [Bool.false_eq_true, if_false]
        exact Ev.now _
      | true =>
        simp only [if_true]
        exact Ev.now _
theorem back_facts (q dx dy : Int) (h0 : 0 ≤ q) (h3 : q ≤ 3) (hx : -200 ≤ dx ∧ dx ≤ 200) (hy : -200 ≤ dy ∧ dy ≤ 200) :
    (0 ≤ Int.tmod (4 - q) 4 ∧ Int.tmod (4 - q) 4 ≤ 3) ∧
    turnB (Int.tmod (4 - q) 4) 1 (turnN (Int.tmod (4 - q) 4).toNat (-dx) (-dy)).1 (turnN (Int.tmod (4 - q) 4).toNat (-dx) (-dy)).2 = true := by
  have four : q = 0 ∨ q = 1 ∨ q = 2 ∨ q = 3 := by omega
  rcases four with rfl | rfl | rfl | rfl
  · simp only [show Int.tmod (4 - 0) 4 = 0 from rfl, show ((0 : Int)).toNat = 0 from rfl, turnN, turnB, decide_eq_true_eq, wrap64]
    omega
  · simp only [show Int.tmod (4 - 1) 4 = 3 from rfl, show ((3 : Int)).toNat = 3 from rfl, turnN, turnB, decide_eq_true_eq, wrap64]
    omega
  · simp only [show Int.tmod (4 - 2) 4 = 2 from rfl, show ((2 : Int)).toNat = 2 from rfl, turnN, turnB, decide_eq_true_eq, wrap64]
    omega
  · simp only [show Int.tmod (4 - 3) 4 = 1 from rfl, show ((1 : Int)).toNat = 1 from rfl, turnN, turnB, decide_eq_true_eq, wrap64]
    omega
theorem impl_back (q dx dy : Int) (h1 : turnB q 1 dx dy = true) : Ev (fun k => impl_BackTurn.f k q 1 dx dy) (Int.tmod (4 - q) 4, 1, (turnN (Int.tmod (4 - q) 4).toNat (-dx) (-dy)).1, (turnN (Int.tmod (4 - q) 4).toNat (-dx) (-dy)).2, true) := by
  simp only [impl_BackTurn.f, impl_turn, Option.bind_some]
  have hh := of_decide_eq_true h1
  obtain ⟨f0, f3⟩ := back_facts q dx dy (by omega) (by omega) (by omega) (by omega)
  simp only [h1, if_true, bne_self_eq_false]
  refine Ev.step (fun k => impl_BackTurn.j0.eq_2 _ _ _ _ _ k) ?_
  simp only [Bool.false_eq_true, if_false]
  rw [wrap_id (x := 4 - q) (by omega) (by omega), wrap_id (x := -dx) (by omega) (by omega), wrap_id (x := -dy) (by omega) (by omega)]
  refine Ev.bind (impl_quart _ _ _ f0.2) ?_
  simp only [impl_turn, Option.bind_some, f3, if_true]
  exact Ev.now _
/-- Quarters of a turn, of numbers that are not great. -/
def quart (q x y : Int) : Int × Int := if q = 0 then (x, y) else if q = 1 then (-y, x) else if q = 2 then (-x, -y) else (y, -x)
theorem turn_quart (q x y : Int) (h0 : 0 ≤ q) (h3 : q ≤ 3) (hx : -1000 ≤ x ∧ x ≤ 1000) (hy : -1000 ≤ y ∧ y ≤ 1000) : turnN q.toNat x y = quart q x y := by
  have four : q = 0 ∨ q = 1 ∨ q = 2 ∨ q = 3 := by omega
  rcases four with rfl | rfl | rfl | rfl
  · rfl
  · show (wrap64 (-y), x) = (-y, x)
    rw [wrap_id (by omega) (by omega)]
  · show (wrap64 (-x), wrap64 (-y)) = (-x, -y)
    rw [wrap_id (by omega) (by omega), wrap_id (by omega) (by omega)]
  · show (wrap64 (-wrap64 (-y)), wrap64 (-x)) = (y, -x)
    rw [wrap_id (x := -x) (by omega) (by omega), wrap_id (x := -y) (by omega) (by omega), wrap_id (by omega) (by omega), Int.neg_neg]
theorem quart_low (q x y m : Int) (hx : -m ≤ x ∧ x ≤ m) (hy : -m ≤ y ∧ y ≤ m) : (-m ≤ (quart q x y).1 ∧ (quart q x y).1 ≤ m) ∧ (-m ≤ (quart q x y).2 ∧ (quart q x y).2 ≤ m) := by
  unfold quart
  repeat' split
  all_goals simp only
  all_goals omega
theorem raw_quart (q s dx dy px py : Int) (h0 : 0 ≤ q) (h3 : q ≤ 3) (hx : -500 ≤ px * s ∧ px * s ≤ 500) (hy : -500 ≤ py * s ∧ py * s ≤ 500) (hdx : -200 ≤ dx ∧ dx ≤ 200) (hdy : -200 ≤ dy ∧ dy ≤ 200) :
    rawM q s dx dy px py = ((quart q (px * s) (py * s)).1 + dx, (quart q (px * s) (py * s)).2 + dy) := by
  unfold rawM
  have b := quart_low q (px * s) (py * s) 500 hx hy
  rw [wrap_id (x := px * s) (by omega) (by omega), wrap_id (x := py * s) (by omega) (by omega), turn_quart q _ _ h0 h3 (by omega) (by omega), wrap_id (by omega) (by omega), wrap_id (by omega) (by omega)]
theorem apply_ok (q s dx dy px py : Int) (h1 : turnB q s dx dy = true) (hp : coordsB px py = true) (hr : coordsB (rawM q s dx dy px py).1 (rawM q s dx dy px py).2 = true) : applyM q s dx dy px py = ((rawM q s dx dy px py).1, (rawM q s dx dy px py).2) := by
  unfold applyM
  rw [if_pos h1, if_pos hp, if_pos hr]
theorem sum_quart (a p x y : Int) (h0 : 0 ≤ a) (h3 : a ≤ 3) (k0 : 0 ≤ p) (k3 : p ≤ 3) : quart (Int.tmod (a + p) 4) x y = quart p (quart a x y).1 (quart a x y).2 := by
  have fa : a = 0 ∨ a = 1 ∨ a = 2 ∨ a = 3 := by omega
  have fp : p = 0 ∨ p = 1 ∨ p = 2 ∨ p = 3 := by omega
  have e0 : ∀ x y : Int, quart 0 x y = (x, y) := fun _ _ => rfl
  have e1 : ∀ x y : Int, quart 1 x y = (-y, x) := fun _ _ => rfl
  have e2 : ∀ x y : Int, quart 2 x y = (-x, -y) := fun _ _ => rfl
  have e3 : ∀ x y : Int, quart 3 x y = (y, -x) := fun _ _ => rfl
  rcases fa with rfl | rfl | rfl | rfl <;> rcases fp with rfl | rfl | rfl | rfl <;>
    simp only [show Int.tmod (0 + 0) 4 = 0 from rfl, show Int.tmod (0 + 1) 4 = 1 from rfl, show Int.tmod (0 + 2) 4 = 2 from rfl, show Int.tmod (0 + 3) 4 = 3 from rfl,
      show Int.tmod (1 + 0) 4 = 1 from rfl, show Int.tmod (1 + 1) 4 = 2 from rfl, show Int.tmod (1 + 2) 4 = 3 from rfl, show Int.tmod (1 + 3) 4 = 0 from rfl,
      show Int.tmod (2 + 0) 4 = 2 from rfl, show Int.tmod (2 + 1) 4 = 3 from rfl, show Int.tmod (2 + 2) 4 = 0 from rfl, show Int.tmod (2 + 3) 4 = 1 from rfl,
      show Int.tmod (3 + 0) 4 = 3 from rfl, show Int.tmod (3 + 1) 4 = 0 from rfl, show Int.tmod (3 + 2) 4 = 1 from rfl, show Int.tmod (3 + 3) 4 = 2 from rfl, e0, e1, e2, e3, Int.neg_neg]
theorem quart_add (p x y u v : Int) (k0 : 0 ≤ p) (k3 : p ≤ 3) : quart p (x + u) (y + v) = ((quart p x y).1 + (quart p u v).1, (quart p x y).2 + (quart p u v).2) := by
  unfold quart
  repeat' split
  all_goals simp only [Int.neg_add]
theorem back_quart (q x y : Int) (h0 : 0 ≤ q) (h3 : q ≤ 3) : quart (Int.tmod (4 - q) 4) (quart q x y).1 (quart q x y).2 = (x, y) := by
  have four : q = 0 ∨ q = 1 ∨ q = 2 ∨ q = 3 := by omega
  have e0 : ∀ x y : Int, quart 0 x y = (x, y) := fun _ _ => rfl
  have e1 : ∀ x y : Int, quart 1 x y = (-y, x) := fun _ _ => rfl
  have e2 : ∀ x y : Int, quart 2 x y = (-x, -y) := fun _ _ => rfl
  have e3 : ∀ x y : Int, quart 3 x y = (y, -x) := fun _ _ => rfl
  rcases four with rfl | rfl | rfl | rfl <;>
    simp only [show Int.tmod (4 - 0) 4 = 0 from rfl, show Int.tmod (4 - 1) 4 = 3 from rfl, show Int.tmod (4 - 2) 4 = 2 from rfl, show Int.tmod (4 - 3) 4 = 1 from rfl, e0, e1, e2, e3, Int.neg_neg]
theorem quart_neg (q x y : Int) : quart q (-x) (-y) = (-(quart q x y).1, -(quart q x y).2) := by
  unfold quart
  repeat' split
  all_goals simp only
theorem mul_four (x b : Int) (hx : -4 ≤ x ∧ x ≤ 36) (hb : 1 ≤ b ∧ b ≤ 4) : -144 ≤ x * b ∧ x * b ≤ 144 := by
  have f : b = 1 ∨ b = 2 ∨ b = 3 ∨ b = 4 := by omega
  rcases f with rfl | rfl | rfl | rfl <;> omega
theorem draw_turn (l : List Int) (hl : l.length ≤ 1048576) (i h : Int) (hi : Cur l i) : ∃ q s dx dy i' h', spec_l03Turn.f l i h = some (q, s, dx, dy, i', h') ∧ Cur l i' ∧
    (0 ≤ q ∧ q ≤ 3) ∧ (1 ≤ s ∧ s ≤ 4) ∧ (-20 ≤ dx ∧ dx ≤ 20) ∧ (-20 ≤ dy ∧ dy ≤ 20) := by
  obtain ⟨q, i1, h1, e1, c1, q0, q1⟩ := draw_below l hl i h 4 hi (by omega)
  obtain ⟨s, i2, h2, e2, c2, hs⟩ := draw_pick l hl i1 h1 [1, 1, 2, 4] c1 (by simp)
  obtain ⟨u, i3, h3, e3, c3, u0, u1⟩ := draw_below l hl i2 h2 41 c2 (by omega)
  obtain ⟨v, i4, h4, e4, c4, v0, v1⟩ := draw_below l hl i3 h3 41 c3 (by omega)
  refine ⟨q, s, wrap64 (u - 20), wrap64 (v - 20), i4, h4, ?_, c4, by omega, ?_, ?_, ?_⟩
  · simp only [spec_l03Turn.f, e1, e2, e3, e4, Option.bind_some]
  · simp only [List.mem_cons, List.not_mem_nil, or_false] at hs
    omega
  · rw [wrap_id (by omega) (by omega)]
    omega
  · rw [wrap_id (by omega) (by omega)]
    omega
theorem FnTurns : laws_FnTurns.Pure := by
  intro l hm hs hw
  refine Ev.rounds ?_
  simp only [laws_FnTurns.f, laws_big.f, Option.bind_some, decide_eq_true_eq]
  by_cases hb : (l.length : Int) > 1048576
  · simp only [if_pos hb]
    exact Ev.now _
  · simp only [if_neg hb]
    have hl : l.length ≤ 1048576 := by omega
    obtain ⟨h0, e0⟩ := draw_new l hl
    obtain ⟨a, b, c, d, i1, h1, e1, c1, a1, b1, c1', d1⟩ := draw_turn l hl 0 h0 ⟨by omega, by omega⟩
    obtain ⟨p, q, r, s, i2, h2, e2, c2, p1, q1, r1, s1⟩ := draw_turn l hl i1 h1 c1
    obtain ⟨x, y, i3, h3, e3, c3, hx, hy⟩ := draw_point l hl i2 h2 c2
    have e : Ev (fun k => spec_DrawTurns.f k l) (a, b, c, d, p, q, r, s, x, y) := by
      unfold spec_DrawTurns.f
      refine Ev.bind e0 ?_
      simp only [e1, e2, e3, Option.bind_some]
      exact Ev.now _
    refine Ev.bind e ?_
    clear e e0 e1 e2 e3 c1 c2 c3
    have ta : turnB a b c d = true := decide_eq_true (by omega)
    have tb : turnB p 1 r s = true := decide_eq_true (by omega)
    have rb := raw_quart p 1 r s c d p1.1 p1.2 (by omega) (by omega) (by omega) (by omega)
    rw [Int.mul_one, Int.mul_one] at rb
    have lb := quart_low p c d 20 (by omega) (by omega)
    have tm : 0 ≤ Int.tmod (a + p) 4 ∧ Int.tmod (a + p) 4 < 4 := ⟨Int.tmod_nonneg 4 (by omega), Int.tmod_lt_of_pos _ (by omega)⟩
    have tj : turnB (Int.tmod (a + p) 4) b (rawM p 1 r s c d).1 (rawM p 1 r s c d).2 = true := by
      rw [rb]
      refine decide_eq_true ?_
      simp only
      omega
    have hj : joinM a b c d p 1 r s = (Int.tmod (a + p) 4, b, (rawM p 1 r s c d).1, (rawM p 1 r s c d).2, true) := by
      unfold joinM
      rw [ta, tb, wrap_id (x := a + p) (by omega) (by omega), Int.mul_one, wrap_id (x := b) (by omega) (by omega)]
      simp only [Bool.and_self, if_true, tj]
    refine Ev.bind (impl_join a b c d p 1 r s) ?_
    rw [hj]
    simp only [if_true, impl_turn, Option.bind_some, tj]
    have cp : coordsB x y = true := decide_eq_true (by omega)
    have mx1 := mul_four x b hx b1
    have my1 := mul_four y b hy b1
    have lx := quart_low a (x * b) (y * b) 144 mx1 my1
    have ra := raw_quart a b c d x y a1.1 a1.2 (by omega) (by omega) (by omega) (by omega)
    have ca : coordsB (rawM a b c d x y).1 (rawM a b c d x y).2 = true := by
      rw [ra]
      refine decide_eq_true ?_
      simp only
      omega
    have lj := quart_low (Int.tmod (a + p) 4) (x * b) (y * b) 144 mx1 my1
    have lr : (-40 ≤ (rawM p 1 r s c d).1 ∧ (rawM p 1 r s c d).1 ≤ 40) ∧ (-40 ≤ (rawM p 1 r s c d).2 ∧ (rawM p 1 r s c d).2 ≤ 40) := by
      rw [rb]
      simp only
      omega
    have rj := raw_quart (Int.tmod (a + p) 4) b (rawM p 1 r s c d).1 (rawM p 1 r s c d).2 x y tm.1 (by omega) (by omega) (by omega) (by omega) (by omega)
    have cj : coordsB (rawM (Int.tmod (a + p) 4) b (rawM p 1 r s c d).1 (rawM p 1 r s c d).2 x y).1 (rawM (Int.tmod (a + p) 4) b (rawM p 1 r s c d).1 (rawM p 1 r s c d).2 x y).2 = true := by
      rw [rj]
      refine decide_eq_true ?_
      simp only
      omega
    have la : (-164 ≤ (rawM a b c d x y).1 ∧ (rawM a b c d x y).1 ≤ 164) ∧ (-164 ≤ (rawM a b c d x y).2 ∧ (rawM a b c d x y).2 ≤ 164) := by
      rw [ra]
      simp only
      omega
    have rr := raw_quart p 1 r s (rawM a b c d x y).1 (rawM a b c d x y).2 p1.1 p1.2 (by omega) (by omega) (by omega) (by omega)
    rw [Int.mul_one, Int.mul_one] at rr
    have lrr := quart_low p (rawM a b c d x y).1 (rawM a b c d x y).2 164 (by omega) (by omega)
    have cr : coordsB (rawM p 1 r s (rawM a b c d x y).1 (rawM a b c d x y).2).1 (rawM p 1 r s (rawM a b c d x y).1 (rawM a b c d x y).2).2 = true := by
      rw [rr]
      refine decide_eq_true ?_
      simp only
      omega
    have same : rawM (Int.tmod (a + p) 4) b (rawM p 1 r s c d).1 (rawM p 1 r s c d).2 x y = rawM p 1 r s (rawM a b c d x y).1 (rawM a b c d x y).2 := by
      rw [rj, rr, rb, ra]
      simp only
      rw [sum_quart a p (x * b) (y * b) a1.1 a1.2 p1.1 p1.2, quart_add p _ _ c d p1.1 p1.2]
      simp only [Prod.mk.injEq]
      omega
    refine Ev.bind (impl_apply _ _ _ _ x y) ?_
    refine Ev.bind (impl_apply a b c d x y) ?_
    rw [apply_ok _ _ _ _ _ _ ta cp ca]
    refine Ev.bind (impl_apply p 1 r s _ _) ?_
    rw [apply_ok _ _ _ _ _ _ tb ca cr, apply_ok _ _ _ _ _ _ tj cp cj, same]
    simp only [beq_self_eq_true, Bool.not_true, Bool.or_self]
    refine Ev.step (fun k => laws_FnTurns.j0.eq_2 _ _ _ _ _ _ _ k) ?_
    simp only [Bool.false_eq_true, if_false]
    refine Ev.bind (impl_back p r s tb) ?_
    simp only [if_true]
    have rp := raw_quart p 1 r s x y p1.1 p1.2 (by omega) (by omega) (by omega) (by omega)
    rw [Int.mul_one, Int.mul_one] at rp
    have lp := quart_low p x y 36 (by omega) (by omega)
    have lpr : (-56 ≤ (rawM p 1 r s x y).1 ∧ (rawM p 1 r s x y).1 ≤ 56) ∧ (-56 ≤ (rawM p 1 r s x y).2 ∧ (rawM p 1 r s x y).2 ≤ 56) := by
      rw [rp]
      simp only
      omega
    have cpr : coordsB (rawM p 1 r s x y).1 (rawM p 1 r s x y).2 = true := decide_eq_true (by omega)
    obtain ⟨f0, f3⟩ := back_facts p r s p1.1 p1.2 (by omega) (by omega)
    rw [turn_quart _ _ _ f0.1 f0.2 (by omega) (by omega)] at f3 ⊢
    have lk := quart_low (Int.tmod (4 - p) 4) (-r) (-s) 20 (by omega) (by omega)
    have rk := raw_quart (Int.tmod (4 - p) 4) 1 (quart (Int.tmod (4 - p) 4) (-r) (-s)).1 (quart (Int.tmod (4 - p) 4) (-r) (-s)).2 (rawM p 1 r s x y).1 (rawM p 1 r s x y).2 f0.1 f0.2 (by omega) (by omega) (by omega) (by omega)
    rw [Int.mul_one, Int.mul_one] at rk
    have back : rawM (Int.tmod (4 - p) 4) 1 (quart (Int.tmod (4 - p) 4) (-r) (-s)).1 (quart (Int.tmod (4 - p) 4) (-r) (-s)).2 (rawM p 1 r s x y).1 (rawM p 1 r s x y).2 = (x, y) := by
      rw [rk, rp]
      simp only
      rw [quart_add _ _ _ r s f0.1 f0.2, back_quart p x y p1.1 p1.2, quart_neg]
      simp only [Prod.mk.injEq]
      omega
    refine Ev.bind (impl_apply p 1 r s x y) ?_
    rw [apply_ok _ _ _ _ _ _ tb cp cpr]
    refine Ev.bind (impl_apply _ _ _ _ _ _) ?_
    rw [apply_ok _ _ _ _ _ _ f3 cpr (by rw [back]; exact cp), back]
    simp only [beq_self_eq_true, Bool.and_self, if_true, impl_Identity.f, Option.bind_some]
    have ri := raw_quart 0 1 0 0 x y (by omega) (by omega) (by omega) (by omega) (by omega) (by omega)
    have ti : turnB 0 1 0 0 = true := by decide
    have ident : rawM 0 1 0 0 x y = (x, y) := by
      rw [ri, Int.mul_one, Int.mul_one, Int.add_zero, Int.add_zero]
      rfl
    refine Ev.bind (impl_apply 0 1 0 0 x y) ?_
    rw [apply_ok _ _ _ _ _ _ ti cp (by rw [ident]; exact cp), ident]
    simp only [beq_self_eq_true, Bool.and_self]
    exact Ev.now _

end Go.Proofs.Ytgpiboajpolmoaa.Pure
