/- A rectangle contains as many dots as its area. (P8) This is its pure statement, over numbers and lists, as printed from the program; the row is built on it.
   Conditions: none. -/
import Derived.Test.YtgpiboajpolmoaaGFnRectanglesx5
namespace Go.Proofs.Ytgpiboajpolmoaa.Pure
set_option linter.unusedSimpArgs false
set_option linter.unusedVariables false
open Go.RowKit Go.Proofs.Ytgpiboajpolmoaa.GFnRectangles Go.Proofs.YtgpiboajpolmoaaW.PrintWords Go.Proofs.YtgpiboajpolmoaaW.PrintLast

theorem wrap_id {x : Int} (h0 : -9223372036854775808 ≤ x) (h1 : x ≤ 9223372036854775807) : wrap64 x = x := by
  unfold wrap64
  omega
theorem wrap_succ (i : Nat) (h : i < 4611686018427387904) : wrap64 ((i : Int) + 1) = ((i + 1 : Nat) : Int) := by
  rw [wrap_id (by omega) (by omega)]
  omega
theorem rd_lt (l : List Int) (i : Nat) (h : i < l.length) : rd l (i : Int) = l[i] := by
  unfold rd
  rw [Int.toNat_natCast, List.getD_eq_getElem?_getD, List.getElem?_eq_getElem h]
  rfl
theorem set_take {α : Type} (l x : List α) (i : Nat) (hi : i < l.length) (hx : x.length = l.length) (h : x.take i = l.take i) :
    (x.set i l[i]).take (i + 1) = l.take (i + 1) := by
  rw [List.take_succ_eq_append_getElem (by simp; omega), List.take_succ_eq_append_getElem hi, List.getElem_set_self, List.take_set_of_le (Nat.le_refl i), h]
def allFrom (p : Nat → Bool) (n i : Nat) : Bool := (List.range' i (n - i)).all p
theorem all_end (p : Nat → Bool) (n : Nat) : allFrom p n n = true := by simp [allFrom]
theorem all_step (p : Nat → Bool) (n i : Nat) (h : i < n) : allFrom p n i = (p i && allFrom p n (i + 1)) := by
  unfold allFrom
  rw [show n - i = (n - (i + 1)) + 1 by omega, List.range'_succ, List.all_cons]
theorem all_iff (p : Nat → Bool) (n i : Nat) : allFrom p n i = true ↔ ∀ j, i ≤ j → j < n → p j = true := by
  unfold allFrom
  rw [List.all_eq_true]
  constructor
  · intro h j h1 h2
    exact h j (List.mem_range'_1.2 ⟨h1, by omega⟩)
  · intro h j hj
    have := List.mem_range'_1.1 hj
    exact h j this.1 (by omega)
theorem and_low (x : Int) : 0 ≤ Go.bits .and .i64 x 255 ∧ Go.bits .and .i64 x 255 ≤ 255 := by
  have h : ((BitVec.ofInt 64 x) &&& (BitVec.ofInt 64 255)).toNat ≤ 255 := by
    rw [BitVec.toNat_and]
    exact Nat.and_le_right
  have e : Go.bits .and .i64 x 255 = IntKind.i64.wrap ((((BitVec.ofInt 64 x) &&& (BitVec.ofInt 64 255)).toNat : Nat) : Int) := rfl
  rw [e]
  generalize ((BitVec.ofInt 64 x) &&& (BitVec.ofInt 64 255)).toNat = n at h
  have e2 : IntKind.i64.wrap ((n : Nat) : Int) = n := by
    simp only [IntKind.wrap, IntKind.bits, IntKind.signed]
    simp
    omega
  rw [e2]
  omega
theorem draw_new (l : List Int) (hl : l.length ≤ 1048576) : ∃ h, Ev (fun k => spec_l01New.f k l) (l, 0, h) := by
  unfold spec_l01New.f
  have loop : ∀ (d i : Nat) (h : Int), i + d = l.length → ∃ h', Ev (fun k => spec_l01New.l0 k l h (i : Int)) (l, 0, h') := by
    intro d
    induction d with
    | zero =>
      intro i h hi
      refine ⟨h, Ev.step (fun k => spec_l01New.l0.eq_2 _ _ _ k) ?_⟩
      simp only [if_neg (show ¬ (i : Int) < (l.length : Int) by omega)]
      exact Ev.now _
    | succ d ih =>
      intro i h hi
      by_cases hc : (i : Int) < 4000
      · obtain ⟨h', hh⟩ := ih (i + 1) (Go.bits .and .i64 (wrap64 ((wrap64 ((wrap64 (h * 131)) + (wrap64 (rd l i)))) + 7)) 1073741823) (by omega)
        refine ⟨h', Ev.step (fun k => spec_l01New.l0.eq_2 _ _ _ k) ?_⟩
        simp only [if_pos (show (i : Int) < (l.length : Int) by omega), if_pos hc, if_pos (show (0 : Int) ≤ (i : Int) by omega)]
        rw [wrap_succ i (by omega)]
        exact hh
      · refine ⟨h, Ev.step (fun k => spec_l01New.l0.eq_2 _ _ _ k) ?_⟩
        simp only [if_pos (show (i : Int) < (l.length : Int) by omega), if_neg hc]
        exact Ev.now _
  exact loop l.length 0 _ (by omega)
/-- A place in the bytes of a draw. -/
def Cur (l : List Int) (i : Int) : Prop := 0 ≤ i ∧ i ≤ (l.length : Int)
theorem draw_byte (l : List Int) (hl : l.length ≤ 1048576) (i h : Int) (hi : Cur l i) : ∃ v i' h', spec_l01Byte.f l i h = some (v, i', h') ∧ Cur l i' ∧ 0 ≤ v ∧ v ≤ 255 := by
  unfold spec_l01Byte.f
  unfold Cur at *
  by_cases hc : i < (l.length : Int)
  · rw [if_pos hc, if_pos hi.1]
    exact ⟨_, _, _, rfl, by rw [wrap_id (by omega) (by omega)]; omega, (and_low _).1, (and_low _).2⟩
  · rw [if_neg hc]
    exact ⟨_, _, _, rfl, hi, (and_low _).1, (and_low _).2⟩
theorem tmod_low (v n : Int) (h0 : 0 ≤ v) (hn : 0 < n) : 0 ≤ Int.tmod v n ∧ Int.tmod v n < n :=
  ⟨Int.tmod_nonneg n h0, Int.tmod_lt_of_pos v hn⟩
theorem draw_below (l : List Int) (hl : l.length ≤ 1048576) (i h n : Int) (hi : Cur l i) (hn : 0 < n) : ∃ v i' h', spec_l01Below.f l i h n = some (v, i', h') ∧ Cur l i' ∧ 0 ≤ v ∧ v < n := by
  unfold spec_l01Below.f
  rw [if_neg (by omega)]
  by_cases hc : n ≤ 256
  · rw [if_pos hc]
    obtain ⟨v, i1, h1, e, c1, v0, v1⟩ := draw_byte l hl i h hi
    rw [e]
    simp only [Option.bind_some]
    rw [if_neg (by omega)]
    exact ⟨_, _, _, rfl, c1, tmod_low v n v0 hn⟩
  · rw [if_neg hc]
    obtain ⟨a, i1, h1, e1, c1, a0, a1⟩ := draw_byte l hl i h hi
    obtain ⟨b, i2, h2, e2, c2, b0, b1⟩ := draw_byte l hl i1 h1 c1
    obtain ⟨c, i3, h3, e3, c3, x0, x1⟩ := draw_byte l hl i2 h2 c2
    obtain ⟨d, i4, h4, e4, c4, d0, d1⟩ := draw_byte l hl i3 h3 c3
    simp only [e1, e2, e3, e4, Option.bind_some]
    rw [if_neg (by omega)]
    refine ⟨_, _, _, rfl, c4, ?_⟩
    rw [wrap_id (x := a * 16777216) (by omega) (by omega), wrap_id (x := b * 65536) (by omega) (by omega), wrap_id (x := c * 256) (by omega) (by omega),
      wrap_id (x := a * 16777216 + b * 65536) (by omega) (by omega), wrap_id (x := a * 16777216 + b * 65536 + c * 256) (by omega) (by omega), wrap_id (by omega) (by omega)]
    exact tmod_low _ n (by omega) hn
theorem draw_pick (l : List Int) (hl : l.length ≤ 1048576) (i h : Int) (m : List Int) (hi : Cur l i) (hm : 0 < m.length) : ∃ v i' h', spec_l01PickInt.f l i h m = some (v, i', h') ∧ Cur l i' ∧ v ∈ m := by
  unfold spec_l01PickInt.f
  obtain ⟨v, i1, h1, e, c1, v0, v1⟩ := draw_below l hl i h (m.length : Int) hi (by omega)
  rw [e]
  simp only [Option.bind_some]
  rw [if_pos v0, if_pos v1]
  refine ⟨_, _, _, rfl, c1, ?_⟩
  obtain ⟨n, rfl⟩ := Int.eq_ofNat_of_zero_le v0
  rw [rd_lt m n (by omega)]
  exact List.getElem_mem _
theorem draw_co (l : List Int) (hl : l.length ≤ 1048576) (i h : Int) (hi : Cur l i) : ∃ a b v i1 h1 i2 h2 i3 h3, spec_l01Below.f l i h 33 = some (a, i1, h1) ∧ spec_l01Below.f l i1 h1 41 = some (b, i2, h2) ∧
    spec_l01PickInt.f l i2 h2 (([0, 32, a, wrap64 (b - 4)] : List Int)) = some (v, i3, h3) ∧ Cur l i3 ∧ -4 ≤ v ∧ v ≤ 36 := by
  obtain ⟨a, i1, h1, e1, c1, a0, a1⟩ := draw_below l hl i h 33 hi (by omega)
  obtain ⟨b, i2, h2, e2, c2, b0, b1⟩ := draw_below l hl i1 h1 41 c1 (by omega)
  obtain ⟨v, i3, h3, e3, c3, hv⟩ := draw_pick l hl i2 h2 [0, 32, a, wrap64 (b - 4)] c2 (by simp)
  refine ⟨a, b, v, i1, h1, i2, h2, i3, h3, e1, e2, e3, c3, ?_⟩
  rw [wrap_id (x := b - 4) (by omega) (by omega)] at hv
  simp only [List.mem_cons, List.not_mem_nil, or_false] at hv
  omega
theorem draw_point (l : List Int) (hl : l.length ≤ 1048576) (i h : Int) (hi : Cur l i) : ∃ x y i' h', spec_l02Point.f l i h = some (x, y, i', h') ∧ Cur l i' ∧ (-4 ≤ x ∧ x ≤ 36) ∧ (-4 ≤ y ∧ y ≤ 36) := by
  obtain ⟨a, b, v, i1, h1, i2, h2, i3, h3, e1, e2, e3, c3, v0, v1⟩ := draw_co l hl i h hi
  obtain ⟨a', b', v', i4, h4, i5, h5, i6, h6, e4, e5, e6, c6, w0, w1⟩ := draw_co l hl i3 h3 c3
  refine ⟨v, v', i6, h6, ?_, c6, ⟨v0, v1⟩, ⟨w0, w1⟩⟩
  simp only [spec_l02Point.f, e1, e2, e3, e4, e5, e6, Option.bind_some]
def SmallBox (a b c d : Int) : Prop := -4 ≤ a ∧ a ≤ c ∧ c ≤ 36 ∧ -4 ≤ b ∧ b ≤ d ∧ d ≤ 36
theorem draw_box (l : List Int) (hl : l.length ≤ 1048576) (i h : Int) (hi : Cur l i) : ∃ a b c d i' h', spec_l02Box.f l i h = some (a, b, c, d, i', h') ∧ Cur l i' ∧ SmallBox a b c d := by
  obtain ⟨x, y, i1, h1, e1, c1, x0, y0⟩ := draw_point l hl i h hi
  obtain ⟨p, q, i2, h2, e2, c2, p0, q0⟩ := draw_point l hl i1 h1 c1
  refine ⟨mn x p, mn y q, mx x p, mx y q, i2, h2, ?_, c2, ?_⟩
  · simp only [spec_l02Box.f, e1, e2, Option.bind_some]
  · unfold SmallBox mn mx
    repeat' split
    all_goals omega
theorem draw_boxes (l : List Int) (hl : l.length ≤ 1048576) : ∃ a b c d p q r s, Ev (fun k => spec_DrawBoxes.f k l) (a, b, c, d, p, q, r, s) ∧ SmallBox a b c d ∧ SmallBox p q r s := by
  obtain ⟨h0, e0⟩ := draw_new l hl
  have c0 : Cur l 0 := ⟨by omega, by omega⟩
  obtain ⟨a, b, c, d, i1, h1, e1, c1, s1⟩ := draw_box l hl 0 h0 c0
  obtain ⟨p, q, r, s, i2, h2, e2, c2, s2⟩ := draw_box l hl i1 h1 c1
  refine ⟨a, b, c, d, p, q, r, s, ?_, s1, s2⟩
  unfold spec_DrawBoxes.f
  refine Ev.bind e0 ?_
  simp only [e1, e2, Option.bind_some]
  exact Ev.now _
theorem spec_in (a b c : Int) : spec_l01In.f a b c = some (decide (b ≤ a ∧ a ≤ c)) := by
  unfold spec_l01In.f
  by_cases h : b ≤ a <;> simp [h]
theorem impl_in (a b c : Int) : impl_within.f a b c = some (decide (b ≤ a ∧ a ≤ c)) := by
  unfold impl_within.f
  by_cases h : b ≤ a <;> simp [h]
def inB (a b c : Int) : Bool := decide (b ≤ a ∧ a ≤ c)
theorem spec_coord (a : Int) : spec_l02In.f a = some (decide (-200 ≤ a ∧ a ≤ 200)) := by
  simp only [spec_l02In.f, spec_in, Option.bind_some]
theorem impl_coord (a : Int) : impl_coordOk.f a = some (decide (-200 ≤ a ∧ a ≤ 200)) := by
  simp only [impl_coordOk.f, impl_in, Option.bind_some]
theorem impl_point (a b : Int) : impl_PointOk.f a b = some (decide ((-200 ≤ a ∧ a ≤ 200) ∧ (-200 ≤ b ∧ b ≤ 200))) := by
  simp only [impl_PointOk.f, impl_coord, Option.bind_some]
  by_cases h : -200 ≤ a ∧ a ≤ 200
  · simp only [decide_eq_true h, if_true]
    congr 1
    exact decide_eq_decide.2 ⟨fun h' => ⟨h, h'⟩, fun h' => h'.2⟩
  · simp only [decide_eq_false h, Bool.false_eq_true, if_false]
    congr 1
    exact (decide_eq_false fun h' => h h'.1).symm
def ptB (p : S48) : Bool := decide ((-200 ≤ p.f0 ∧ p.f0 ≤ 200) ∧ (-200 ≤ p.f1 ∧ p.f1 ≤ 200))
def pathB (l : List S48) : Bool := decide (l.length ≤ 8) && l.all ptB
theorem rdiPoint_lt (l : List S48) (i : Nat) (h : i < l.length) : rd_T48 l (i : Int) = l[i] := by
  unfold rd_T48
  rw [Int.toNat_natCast, List.getD_eq_getElem?_getD, List.getElem?_eq_getElem h]
  rfl
theorem impl_points_loop (l : List S48) (hl : l.length ≤ 1048576) : ∀ (d i : Nat), i + d = l.length →
    Ev (fun k => impl_pointsOk.l0 k l (l.length : Int) (i : Int)) ((l.drop i).all ptB) := by
  intro d
  induction d with
  | zero =>
    intro i hi
    refine Ev.step (fun k => impl_pointsOk.l0.eq_2 _ _ _ k) ?_
    simp only [if_neg (show ¬ (i : Int) < (l.length : Int) by omega)]
    rw [List.drop_of_length_le (by omega)]
    exact Ev.now _
  | succ d ih =>
    intro i hi
    refine Ev.step (fun k => impl_pointsOk.l0.eq_2 _ _ _ k) ?_
    simp only [if_pos (show (i : Int) < (l.length : Int) by omega), if_pos (show (0 : Int) ≤ (i : Int) by omega), impl_point, Option.bind_some]
    rw [wrap_succ i (by omega), rdiPoint_lt l i (by omega), List.drop_eq_getElem_cons (show i < l.length by omega), List.all_cons]
    change Ev (fun k => if ptB l[i] = true then impl_pointsOk.l0 k l (l.length : Int) ((i + 1 : Nat) : Int) else some false) _
    cases hc : ptB l[i] with
    | true =>
      simp only [if_true, Bool.true_and]
      exact ih (i + 1) (by omega)
    | false =>
      simp only [Bool.false_and, Bool.false_eq_true, if_false]
      exact Ev.now _
theorem impl_points (l : List S48) (hl : l.length ≤ 1048576) : Ev (fun k => impl_pointsOk.f k l) (l.all ptB) := by
  unfold impl_pointsOk.f
  simpa using impl_points_loop l hl l.length 0 (by omega)
theorem impl_path (l : List S48) : Ev (fun k => impl_pathOk.f k l) (pathB l) := by
  unfold impl_pathOk.f pathB
  by_cases h : l.length ≤ 8
  · simp only [if_pos (show (l.length : Int) ≤ 8 by omega), decide_eq_true h, Bool.true_and]
    exact Ev.bind (impl_points l (by omega)) (Ev.now _)
  · simp only [if_neg (show ¬ (l.length : Int) ≤ 8 by omega), decide_eq_false h, Bool.false_and]
    exact Ev.now _
theorem tmod_nat (i n : Nat) : Int.tmod ((i : Nat) : Int) (n : Int) = ((i % n : Nat) : Int) := rfl
def xorUpTo (f : Nat → Bool) : Nat → Bool
  | 0 => false
  | n + 1 => xorUpTo f n ^^ f n
def flips (g : Nat → Bool) : Nat → Nat
  | 0 => 0
  | n + 1 => flips g n + (if g n = g (n + 1) then 0 else 1)
theorem flips_xor (f g : Nat → Bool) (n : Nat) : flips (fun x => f x ^^ g x) n ≤ flips f n + flips g n := by
  induction n with
  | zero => simp [flips]
  | succ n ih =>
    simp only [flips]
    have h : (if (f n ^^ g n) = (f (n + 1) ^^ g (n + 1)) then 0 else 1) ≤ (if f n = f (n + 1) then 0 else 1) + (if g n = g (n + 1) then 0 else 1) := by
      cases f n <;> cases f (n + 1) <;> cases g n <;> cases g (n + 1) <;> simp
    omega
theorem flips_false (n : Nat) : flips (fun _ => false) n = 0 := by
  induction n with
  | zero => rfl
  | succ n ih => simp [flips, ih]
theorem flips_down (g : Nat → Bool) (h : ∀ x, g (x + 1) = true → g x = true) (n : Nat) : flips g n + (g n).toNat ≤ 1 := by
  induction n with
  | zero =>
    simp only [flips]
    cases g 0 <;> simp
  | succ n ih =>
    simp only [flips]
    have := h n
    cases h0 : g n <;> cases h1 : g (n + 1) <;> simp_all
theorem flips_many (c : Nat → Nat → Bool) (h : ∀ i x, c i (x + 1) = true → c i x = true) (n : Nat) : ∀ m, flips (fun x => xorUpTo (fun i => c i x) m) n ≤ m
  | 0 => by simp [xorUpTo, flips_false]
  | m + 1 => by
    have h1 := flips_many c h n m
    have h2 := flips_xor (fun x => xorUpTo (fun i => c i x) m) (c m) n
    have h3 := flips_down (c m) (h m) n
    simp only [xorUpTo]
    omega
theorem flips_shift (g : Nat → Bool) (n : Nat) : flips g (n + 1) = (if g 0 = g 1 then 0 else 1) + flips (fun x => g (x + 1)) n := by
  induction n with
  | zero => simp [flips]
  | succ n ih =>
    rw [flips, ih]
    simp only [flips]
    omega
theorem xor_pairs (s : Nat → Bool) : ∀ m, xorUpTo (fun i => s i ^^ s (i + 1)) m = (s 0 ^^ s m)
  | 0 => by simp [xorUpTo]
  | m + 1 => by
    rw [xorUpTo, xor_pairs s m]
    cases s 0 <;> cases s m <;> cases s (m + 1) <;> rfl
theorem xor_congr (f g : Nat → Bool) : ∀ m, (∀ i, i < m → f i = g i) → xorUpTo f m = xorUpTo g m
  | 0, _ => rfl
  | m + 1, h => by rw [xorUpTo, xorUpTo, xor_congr f g m (fun i hi => h i (by omega)), h m (by omega)]
/-- Round a closed row, the changes cancel. -/
theorem xor_ring (s : Nat → Bool) (m : Nat) : xorUpTo (fun i => s i ^^ s ((i + 1) % m)) m = false := by
  cases m with
  | zero => rfl
  | succ m =>
    rw [xorUpTo, Nat.mod_self]
    rw [xor_congr _ (fun i => s i ^^ s (i + 1)) m (fun i hi => by rw [Nat.mod_eq_of_lt (by omega)]), xor_pairs]
    cases s 0 <;> cases s m <;> rfl
theorem mul_bound (a b A B : Int) (h1 : -A ≤ a) (h2 : a ≤ A) (h3 : -B ≤ b) (h4 : b ≤ B) : -(A * B) ≤ a * b ∧ a * b ≤ A * B := by
  have e1 : 0 ≤ (A - a) * (B + b) := Int.mul_nonneg (by omega) (by omega)
  have e2 : 0 ≤ (A + a) * (B - b) := Int.mul_nonneg (by omega) (by omega)
  have e3 : 0 ≤ (A - a) * (B - b) := Int.mul_nonneg (by omega) (by omega)
  have e4 : 0 ≤ (A + a) * (B + b) := Int.mul_nonneg (by omega) (by omega)
  grind
/-- Whether a side passes on the right of a dot's center, at its height. -/
def crossB (ax ay bx b_y x y : Int) : Bool :=
  if decide (ay > y) = decide (b_y > y) then false
  else if b_y - ay < 0 then decide (2 * ax * (b_y - ay) + (2 * y + 1 - 2 * ay) * (bx - ax) < (2 * x + 1) * (b_y - ay))
  else decide (2 * ax * (b_y - ay) + (2 * y + 1 - 2 * ay) * (bx - ax) > (2 * x + 1) * (b_y - ay))
theorem impl_cross (ax ay bx b_y x y : Int) (h1 : -200 ≤ ax ∧ ax ≤ 200) (h2 : -200 ≤ ay ∧ ay ≤ 200) (h3 : -200 ≤ bx ∧ bx ≤ 200) (h4 : -200 ≤ b_y ∧ b_y ≤ 200) (h5 : -200 ≤ x ∧ x ≤ 200) (h6 : -200 ≤ y ∧ y ≤ 200) :
    impl_crosses.f ax ay bx b_y x y = some (crossB ax ay bx b_y x y) := by
  have m1 := mul_bound (2 * ax) (b_y - ay) 400 400 (by omega) (by omega) (by omega) (by omega)
  have m2 := mul_bound (2 * y + 1 - 2 * ay) (bx - ax) 801 400 (by omega) (by omega) (by omega) (by omega)
  have m3 := mul_bound (2 * x + 1) (b_y - ay) 401 400 (by omega) (by omega) (by omega) (by omega)
  unfold impl_crosses.f crossB
  rw [wrap_id (x := b_y - ay) (by omega) (by omega), wrap_id (x := 2 * ax) (by omega) (by omega), wrap_id (x := 2 * y) (by omega) (by omega), wrap_id (x := 2 * y + 1) (by omega) (by omega),
    wrap_id (x := 2 * ay) (by omega) (by omega), wrap_id (x := 2 * y + 1 - 2 * ay) (by omega) (by omega), wrap_id (x := bx - ax) (by omega) (by omega), wrap_id (x := 2 * x) (by omega) (by omega),
    wrap_id (x := 2 * x + 1) (by omega) (by omega)]
  generalize 2 * ax * (b_y - ay) = p at *
  generalize (2 * y + 1 - 2 * ay) * (bx - ax) = q at *
  generalize (2 * x + 1) * (b_y - ay) = r at *
  rw [wrap_id (x := p) (by omega) (by omega), wrap_id (x := q) (by omega) (by omega), wrap_id (x := r) (by omega) (by omega), wrap_id (x := p + q) (by omega) (by omega)]
  by_cases h : decide (ay > y) = decide (b_y > y)
  · rw [if_pos (by rw [h]; exact beq_self_eq_true _), if_pos h]
  · rw [if_neg (by rw [beq_iff_eq]; exact h), if_neg h]
    split <;> rfl
def sideB (l : List S48) (x y : Int) (i : Nat) : Bool :=
  let a := rd_T48 l (i : Int)
  let b := rd_T48 l (((i + 1) % l.length : Nat) : Int)
  crossB a.f0 a.f1 b.f0 b.f1 x y
def insB (l : List S48) (x y : Int) : Bool := xorUpTo (sideB l x y) l.length
def coB (x : Int) : Bool := decide (-200 ≤ x ∧ x ≤ 200)
def insideB (l : List S48) (x y : Int) : Bool := pathB l && coB x && coB y && insB l x y
theorem pt_at (l : List S48) (h : l.all ptB = true) (i : Nat) (hi : i < l.length) :
    (-200 ≤ (rd_T48 l (i : Int)).f0 ∧ (rd_T48 l (i : Int)).f0 ≤ 200) ∧ (-200 ≤ (rd_T48 l (i : Int)).f1 ∧ (rd_T48 l (i : Int)).f1 ≤ 200) := by
  rw [rdiPoint_lt l i hi]
  exact of_decide_eq_true (List.all_eq_true.1 h l[i] (List.getElem_mem hi))
theorem path_len (l : List S48) (h : pathB l = true) : l.length ≤ 8 ∧ l.all ptB = true := by
  unfold pathB at h
  rw [Bool.and_eq_true] at h
  exact ⟨of_decide_eq_true h.1, h.2⟩
theorem impl_inside_loop (l : List S48) (x y : Int) (hl : l.length ≤ 8) (hp : l.all ptB = true) (hx : -200 ≤ x ∧ x ≤ 200) (hy : -200 ≤ y ∧ y ≤ 200) : ∀ (d i : Nat), i + d = l.length →
    Ev (fun k => impl_InsidePath.l0 k l x y (xorUpTo (sideB l x y) i) l (l.length : Int) (i : Int)) (insB l x y) := by
  intro d
  induction d with
  | zero =>
    intro i hi
    refine Ev.step (fun k => impl_InsidePath.l0.eq_2 _ _ _ _ _ _ _ k) ?_
    simp only [if_neg (show ¬ (i : Int) < (l.length : Int) by omega)]
    rw [show i = l.length by omega]
    exact Ev.now _
  | succ d ih =>
    intro i hi
    have hm : (i + 1) % l.length < l.length := Nat.mod_lt _ (by omega)
    have ha := pt_at l hp i (by omega)
    have hb := pt_at l hp _ hm
    refine Ev.step (fun k => impl_InsidePath.l0.eq_2 _ _ _ _ _ _ _ k) ?_
    rw [wrap_succ i (by omega), tmod_nat]
    simp only [if_pos (show (i : Int) < (l.length : Int) by omega), if_pos (show (0 : Int) ≤ (i : Int) by omega), if_neg (show ¬ (l.length : Int) = 0 by omega),
      if_pos (show (0 : Int) ≤ (((i + 1) % l.length : Nat) : Int) by omega), if_pos (show (((i + 1) % l.length : Nat) : Int) < (l.length : Int) by omega),
      impl_cross _ _ _ _ _ _ ha.1 ha.2 hb.1 hb.2 hx hy, Option.bind_some]
    have := ih (i + 1) (by omega)
    simp only [xorUpTo] at this
    change Ev (fun k => if sideB l x y i = true then _ else _) _
    cases h : sideB l x y i with
    | true =>
      rw [h, Bool.xor_true] at this
      simpa using this
    | false =>
      rw [h, Bool.xor_false] at this
      simpa using this
theorem impl_inside (l : List S48) (x y : Int) : Ev (fun k => impl_InsidePath.f k l x y) (insideB l x y) := by
  unfold impl_InsidePath.f insideB
  refine Ev.bind (impl_path l) ?_
  have j1 : Ev (fun k => impl_InsidePath.j0 k l x y true) false := by
    refine Ev.step (fun k => impl_InsidePath.j0.eq_2 _ _ _ _ k) ?_
    simp only [if_true]
    exact Ev.now _
  cases hp : pathB l with
  | false =>
    simp only [Bool.false_eq_true, if_false, Bool.false_and]
    exact j1
  | true =>
    simp only [if_true, impl_coord, Option.bind_some, Bool.true_and]
    by_cases hx : -200 ≤ x ∧ x ≤ 200
    · simp only [decide_eq_true hx, if_true]
      rw [show coB x = true from decide_eq_true hx]
      by_cases hy : -200 ≤ y ∧ y ≤ 200
      · rw [show coB y = true from decide_eq_true hy]
        simp only [decide_eq_true hy, Bool.not_true, Bool.true_and]
        refine Ev.step (fun k => impl_InsidePath.j0.eq_2 _ _ _ _ k) ?_
        simp only [Bool.false_eq_true, if_false]
        exact impl_inside_loop l x y (path_len l hp).1 (path_len l hp).2 hx hy l.length 0 (by omega)
      · rw [show coB y = false from decide_eq_false hy]
        simp only [decide_eq_false hy, Bool.not_false, Bool.and_false, Bool.false_and]
        exact j1
    · rw [show coB x = false from decide_eq_false hx]
      simp only [decide_eq_false hx, Bool.false_eq_true, if_false, Bool.false_and]
      exact j1
/-- The dots of a row from a column on, added to n. -/
def rowTo (l : List S48) (y : Nat) (n x : Nat) : Nat → Nat
  | 0 => n
  | d + 1 => if insideB l (x : Int) (y : Int) = true then rowTo l y (n + 1) (x + 1) d else rowTo l y n (x + 1) d
def rowsTo (l : List S48) (n y : Nat) : Nat → Nat
  | 0 => n
  | d + 1 => rowsTo l (rowTo l y n 0 32) (y + 1) d
theorem rowTo_le (l : List S48) (y : Nat) : ∀ (d n x : Nat), rowTo l y n x d ≤ n + d
  | 0, n, x => by simp [rowTo]
  | d + 1, n, x => by
    simp only [rowTo]
    split
    · have := rowTo_le l y d (n + 1) (x + 1)
      omega
    · have := rowTo_le l y d n (x + 1)
      omega
theorem impl_count_row (l : List S48) (y : Nat) (r : Int) : ∀ (d x n : Nat), x + d = 32 → n ≤ 1024 → n + d ≤ 1024 →
    Ev (fun k => impl_CountInside.l0 k l ((rowTo l y n x d : Nat) : Int) (wrap64 ((y : Int) + 1))) r → Ev (fun k => impl_CountInside.l1 k l (n : Int) (y : Int) (x : Int)) r := by
  intro d
  induction d with
  | zero =>
    intro x n hx hn hd hr
    refine Ev.step (fun k => impl_CountInside.l1.eq_2 _ _ _ _ k) ?_
    simp only [if_neg (show ¬ (x : Int) < 32 by omega)]
    exact hr
  | succ d ih =>
    intro x n hx hn hd hr
    refine Ev.step (fun k => impl_CountInside.l1.eq_2 _ _ _ _ k) ?_
    simp only [if_pos (show (x : Int) < 32 by omega)]
    refine Ev.bind (impl_inside l x y) ?_
    rw [wrap_succ x (by omega), wrap_succ n (by omega)]
    simp only [rowTo] at hr
    cases hi : insideB l (x : Int) (y : Int) with
    | true =>
      rw [hi] at hr
      simp only [if_true] at hr ⊢
      exact ih (x + 1) (n + 1) (by omega) (by omega) (by omega) hr
    | false =>
      rw [hi] at hr
      simp only [Bool.false_eq_true, if_false] at hr ⊢
      exact ih (x + 1) n (by omega) (by omega) (by omega) hr
theorem impl_count_rows (l : List S48) : ∀ (d y n : Nat), y + d = 32 → n + 32 * d ≤ 1024 →
    Ev (fun k => impl_CountInside.l0 k l (n : Int) (y : Int)) ((rowsTo l n y d : Nat) : Int) := by
  intro d
  induction d with
  | zero =>
    intro y n hy hn
    refine Ev.step (fun k => impl_CountInside.l0.eq_2 _ _ _ k) ?_
    simp only [if_neg (show ¬ (y : Int) < 32 by omega)]
    exact Ev.now _
  | succ d ih =>
    intro y n hy hn
    refine Ev.step (fun k => impl_CountInside.l0.eq_2 _ _ _ k) ?_
    simp only [if_pos (show (y : Int) < 32 by omega)]
    refine impl_count_row l y _ 32 0 n (by omega) (by omega) (by omega) ?_
    rw [wrap_succ y (by omega)]
    have := rowTo_le l y 32 n 0
    exact ih (y + 1) _ (by omega) (by omega)
theorem impl_count (l : List S48) : Ev (fun k => impl_CountInside.f k l) ((rowsTo l 0 0 32 : Nat) : Int) := by
  unfold impl_CountInside.f
  exact impl_count_rows l 32 0 0 (by omega) (by omega)
def areaTerm (l : List S48) (i : Nat) : Int :=
  let a := rd_T48 l (i : Int)
  let b := rd_T48 l (((i + 1) % l.length : Nat) : Int)
  wrap64 (wrap64 (a.f0 * b.f1) - wrap64 (b.f0 * a.f1))
def areaTo (l : List S48) : Nat → Int
  | 0 => 0
  | i + 1 => wrap64 (areaTo l i + areaTerm l i)
theorem wrap_mix (s p q : Int) : wrap64 (wrap64 (s + wrap64 p) - wrap64 q) = wrap64 (s + wrap64 (wrap64 p - wrap64 q)) := by
  unfold wrap64
  omega
def areaOf (l : List S48) : Int := if pathB l = true then areaTo l l.length else 0
theorem impl_area_loop (l : List S48) (hl : l.length ≤ 1048576) : ∀ (d i : Nat), i + d = l.length →
    Ev (fun k => impl_AreaTwice.l0 k l (areaTo l i) l (l.length : Int) (i : Int)) (areaTo l l.length) := by
  intro d
  induction d with
  | zero =>
    intro i hi
    refine Ev.step (fun k => impl_AreaTwice.l0.eq_2 _ _ _ _ _ k) ?_
    simp only [if_neg (show ¬ (i : Int) < (l.length : Int) by omega)]
    rw [show i = l.length by omega]
    exact Ev.now _
  | succ d ih =>
    intro i hi
    have hm : (i + 1) % l.length < l.length := Nat.mod_lt _ (by omega)
    refine Ev.step (fun k => impl_AreaTwice.l0.eq_2 _ _ _ _ _ k) ?_
    rw [wrap_succ i (by omega), tmod_nat]
    simp only [if_pos (show (i : Int) < (l.length : Int) by omega), if_pos (show (0 : Int) ≤ (i : Int) by omega), if_neg (show ¬ (l.length : Int) = 0 by omega),
      if_pos (show (0 : Int) ≤ (((i + 1) % l.length : Nat) : Int) by omega), if_pos (show (((i + 1) % l.length : Nat) : Int) < (l.length : Int) by omega)]
    exact ih (i + 1) (by omega)
theorem impl_area (l : List S48) : Ev (fun k => impl_AreaTwice.f k l) (areaOf l) := by
  unfold impl_AreaTwice.f areaOf
  refine Ev.bind (impl_path l) ?_
  cases h : pathB l
  · simp only [Bool.false_eq_true, if_false]
    exact Ev.now _
  · simp only [if_true]
    have h8 : l.length ≤ 8 := by
      unfold pathB at h
      simp at h
      exact h.1
    exact impl_area_loop l (by omega) l.length 0 (by omega)
theorem box_same (a b c d : Int) : impl_BoxOk.f a b c d = spec_BoxOk.f a b c d := by
  simp only [impl_BoxOk.f, spec_BoxOk.f, spec_coord, impl_coord]
def boxB (a b c d : Int) : Bool := decide ((-200 ≤ a ∧ a ≤ 200) ∧ (-200 ≤ b ∧ b ≤ 200) ∧ (-200 ≤ c ∧ c ≤ 200) ∧ (-200 ≤ d ∧ d ≤ 200) ∧ a ≤ c ∧ b ≤ d)
theorem spec_box (a b c d : Int) : spec_BoxOk.f a b c d = some (boxB a b c d) := by
  simp only [spec_BoxOk.f, spec_coord, Option.bind_some, decide_eq_true_eq, boxB]
  repeat' split
  all_goals congr 1
  all_goals first | (symm; exact decide_eq_false (by omega)) | exact decide_eq_decide.2 (by omega)
theorem impl_box (a b c d : Int) : impl_BoxOk.f a b c d = some (boxB a b c d) := by rw [box_same, spec_box]
def meetM (a b c d p q r s : Int) : Int × Int × Int × Int :=
  if boxB a b c d = true then if boxB p q r s = true then if mx a p ≥ mn c r then (0, 0, 0, 0) else if mx b q ≥ mn d s then (0, 0, 0, 0) else (mx a p, mx b q, mn c r, mn d s) else (0, 0, 0, 0) else (0, 0, 0, 0)
theorem impl_meet (a b c d p q r s : Int) : Ev (fun k => impl_MeetBox.f k a b c d p q r s) (meetM a b c d p q r s) := by
  simp only [impl_MeetBox.f, impl_box, Option.bind_some, meetM]
  have j (t : Bool) : Ev (fun k => impl_MeetBox.j0 k t a b c d p q r s) (if t = true then (0, 0, 0, 0) else if mx a p ≥ mn c r then (0, 0, 0, 0) else if mx b q ≥ mn d s then (0, 0, 0, 0) else (mx a p, mx b q, mn c r, mn d s)) := by
    refine Ev.step (fun k => impl_MeetBox.j0.eq_2 _ _ _ _ _ _ _ _ _ k) ?_
    refine Ev.congr (fun k => ?_) (Ev.now _)
    repeat' split
    all_goals rfl
  cases h1 : boxB a b c d with
  | false =>
    simp only [Bool.false_eq_true, if_false]
    exact j true
  | true =>
    simp only [if_true]
    cases h2 : boxB p q r s with
    | false =>
      simp only [Bool.not_false, Bool.false_eq_true, if_false]
      exact j true
    | true =>
      simp only [Bool.not_true, if_true]
      exact j false
def dotsM (a b c d : Int) : Int := if boxB a b c d = true then wrap64 (wrap64 (c - a) * wrap64 (d - b)) else 0
theorem impl_countdots (a b c d : Int) : impl_CountDots.f a b c d = some (dotsM a b c d) := by
  simp only [impl_CountDots.f, impl_box, Option.bind_some, dotsM]
  split <;> rfl
theorem dots_small (a b c d : Int) (h : boxB a b c d = true) : dotsM a b c d = (c - a) * (d - b) := by
  have hh := of_decide_eq_true h
  have m := mul_bound (c - a) (d - b) 400 400 (by omega) (by omega) (by omega) (by omega)
  rw [dotsM, if_pos h, wrap_id (x := c - a) (by omega) (by omega), wrap_id (x := d - b) (by omega) (by omega)]
  generalize (c - a) * (d - b) = e at *
  exact wrap_id (by omega) (by omega)
theorem spec_countdots (a b c d : Int) : spec_CountDots.f a b c d = some (dotsM a b c d) := by
  simp only [spec_CountDots.f, spec_box, Option.bind_some, dotsM]
  split <;> rfl
/-- How many of d numbers from x on lie from a up to b. -/
def cut (a b x d : Int) : Int := if mx x a ≥ mn (x + d) b then 0 else mn (x + d) b - mx x a
theorem row_cut (l : List S48) (y : Nat) (a b : Int) (h : ∀ x : Nat, x < 32 → insideB l (x : Int) (y : Int) = decide (a ≤ (x : Int) ∧ (x : Int) < b)) : ∀ (d x n : Nat), x + d = 32 →
    ((rowTo l y n x d : Nat) : Int) = n + cut a b x d := by
  intro d
  induction d with
  | zero =>
    intro x n hx
    simp only [rowTo, cut, mx, mn]
    split <;> omega
  | succ d ih =>
    intro x n hx
    simp only [rowTo, h x (by omega)]
    by_cases hc : a ≤ (x : Int) ∧ (x : Int) < b
    · rw [if_pos (decide_eq_true hc), ih (x + 1) (n + 1) (by omega)]
      simp only [cut, mx, mn]
      repeat' split
      all_goals omega
    · rw [if_neg (by rw [decide_eq_false hc]; simp), ih (x + 1) n (by omega)]
      simp only [cut, mx, mn]
      repeat' split
      all_goals omega
theorem row_none (l : List S48) (y : Nat) (h : ∀ x : Nat, x < 32 → insideB l (x : Int) (y : Int) = false) : ∀ (d x n : Nat), x + d = 32 → rowTo l y n x d = n := by
  intro d
  induction d with
  | zero => intro x n hx; rfl
  | succ d ih =>
    intro x n hx
    simp only [rowTo, h x (by omega)]
    rw [if_neg (by simp)]
    exact ih (x + 1) n (by omega)
theorem rows_cut (l : List S48) (a b c e : Int) (h : ∀ x y : Nat, x < 32 → y < 32 → insideB l (x : Int) (y : Int) = decide ((a ≤ (x : Int) ∧ (x : Int) < b) ∧ (c ≤ (y : Int) ∧ (y : Int) < e))) : ∀ (d y n : Nat), y + d = 32 →
    ((rowsTo l n y d : Nat) : Int) = n + cut a b 0 32 * cut c e y d := by
  intro d
  induction d with
  | zero =>
    intro y n hy
    have : cut c e y ((0 : Nat) : Int) = 0 := by
      simp only [cut, mx, mn]
      repeat' split
      all_goals omega
    rw [this]
    simp [rowsTo]
  | succ d ih =>
    intro y n hy
    simp only [rowsTo]
    rw [ih (y + 1) _ (by omega)]
    by_cases hc : c ≤ (y : Int) ∧ (y : Int) < e
    · have := row_cut l y a b (fun x hx => by rw [h x y hx (by omega)]; exact decide_eq_decide.2 ⟨fun k => k.1, fun k => ⟨k, hc⟩⟩) 32 0 n (by omega)
      rw [this]
      have e1 : cut c e (y : Int) ((d + 1 : Nat) : Int) = 1 + cut c e ((y + 1 : Nat) : Int) (d : Int) := by
        simp only [cut, mx, mn]
        repeat' split
        all_goals omega
      rw [e1, Int.mul_add]
      have z : cut a b ((0 : Nat) : Int) ((32 : Nat) : Int) = cut a b 0 32 := rfl
      rw [z]
      omega
    · have := row_none l y (fun x hx => by rw [h x y hx (by omega)]; exact decide_eq_false (fun k => hc k.2)) 32 0 n (by omega)
      rw [this]
      have e1 : cut c e (y : Int) ((d + 1 : Nat) : Int) = cut c e ((y + 1 : Nat) : Int) (d : Int) := by
        simp only [cut, mx, mn]
        repeat' split
        all_goals omega
      rw [e1]
def rectL (a b c d : Int) : List S48 := [⟨a, b⟩, ⟨c, b⟩, ⟨c, d⟩, ⟨a, d⟩]
theorem rect_path (a b c d : Int) (h : SmallBox a b c d) : pathB (rectL a b c d) = true := by
  unfold SmallBox at h
  have h4 : (rectL a b c d).all ptB = true := by
    refine List.all_eq_true.2 fun p hp => ?_
    unfold rectL at hp
    simp only [List.mem_cons, List.not_mem_nil, or_false] at hp
    rcases hp with rfl | rfl | rfl | rfl <;> exact decide_eq_true (by simp only; omega)
  unfold pathB
  rw [h4]
  rfl
theorem cut_none (a c : Int) (h : mx a 0 ≥ mn c 32) : cut a c 0 32 = 0 := by
  unfold cut
  rw [if_pos]
  simp only [mx, mn] at *
  repeat' split
  all_goals repeat' split at h
  all_goals omega
theorem cut_some (a c : Int) (h : ¬ mx a 0 ≥ mn c 32) : cut a c 0 32 = mn c 32 - mx a 0 := by
  unfold cut
  simp only [mx, mn] at *
  repeat' split at h
  all_goals repeat' split
  all_goals omega
theorem side_up (a b d x y : Int) (h : b ≤ d) : crossB a b a d x y = decide ((b ≤ y ∧ y < d) ∧ x < a) := by
  unfold crossB
  by_cases hc : b ≤ y ∧ y < d
  · have e1 : decide (b > y) = false := decide_eq_false (by omega)
    have e2 : decide (d > y) = true := decide_eq_true (by omega)
    rw [e1, e2, if_neg (by simp), if_neg (by omega)]
    refine decide_eq_decide.2 ⟨fun k => ⟨hc, ?_⟩, fun k => ?_⟩
    · have k2 : (2 * x + 1) * (d - b) < 2 * a * (d - b) := by
        have : 2 * a * (d - b) + (2 * y + 1 - 2 * b) * (a - a) = 2 * a * (d - b) := by grind
        omega
      have := Int.lt_of_mul_lt_mul_right k2 (by omega)
      omega
    · have k2 : (2 * x + 1) * (d - b) < 2 * a * (d - b) := Int.mul_lt_mul_of_pos_right (by omega) (by omega)
      have : 2 * a * (d - b) + (2 * y + 1 - 2 * b) * (a - a) = 2 * a * (d - b) := by grind
      omega
  · have e1 : decide (b > y) = decide (d > y) := decide_eq_decide.2 (by omega)
    rw [if_pos e1]
    exact (decide_eq_false (fun k => hc k.1)).symm
theorem side_down (a b d x y : Int) (h : b ≤ d) : crossB a d a b x y = decide ((b ≤ y ∧ y < d) ∧ x < a) := by
  unfold crossB
  by_cases hc : b ≤ y ∧ y < d
  · have e1 : decide (b > y) = false := decide_eq_false (by omega)
    have e2 : decide (d > y) = true := decide_eq_true (by omega)
    rw [e1, e2, if_neg (by simp), if_pos (by omega)]
    refine decide_eq_decide.2 ⟨fun k => ⟨hc, ?_⟩, fun k => ?_⟩
    · have k2 : (2 * x + 1) * (d - b) < 2 * a * (d - b) := by
        have : 2 * a * (b - d) + (2 * y + 1 - 2 * d) * (a - a) = -(2 * a * (d - b)) := by grind
        have : (2 * x + 1) * (b - d) = -((2 * x + 1) * (d - b)) := by grind
        omega
      have := Int.lt_of_mul_lt_mul_right k2 (by omega)
      omega
    · have k2 : (2 * x + 1) * (d - b) < 2 * a * (d - b) := Int.mul_lt_mul_of_pos_right (by omega) (by omega)
      have : 2 * a * (b - d) + (2 * y + 1 - 2 * d) * (a - a) = -(2 * a * (d - b)) := by grind
      have : (2 * x + 1) * (b - d) = -((2 * x + 1) * (d - b)) := by grind
      omega
  · have e1 : decide (d > y) = decide (b > y) := decide_eq_decide.2 (by omega)
    rw [if_pos e1]
    exact (decide_eq_false (fun k => hc k.1)).symm
theorem side_flat (a b c x y : Int) : crossB a b c b x y = false := by
  unfold crossB
  rw [if_pos rfl]
theorem rect_inside (a b c d : Int) (h : SmallBox a b c d) (x y : Nat) (hx : x < 32) (hy : y < 32) :
    insideB (rectL a b c d) (x : Int) (y : Int) = decide ((a ≤ (x : Int) ∧ (x : Int) < c) ∧ (b ≤ (y : Int) ∧ (y : Int) < d)) := by
  have hh := h
  unfold SmallBox at h
  unfold insideB
  rw [rect_path a b c d hh, show coB (x : Int) = true from decide_eq_true (by omega), show coB (y : Int) = true from decide_eq_true (by omega)]
  simp only [Bool.true_and]
  have hs : (rectL a b c d).length = 4 := rfl
  have e : insB (rectL a b c d) (x : Int) (y : Int) = ((((false ^^ crossB a b c b x y) ^^ crossB c b c d x y) ^^ crossB c d a d x y) ^^ crossB a d a b x y) := by
    unfold insB
    simp only [hs, xorUpTo, sideB]
    rfl
  rw [e, side_flat, side_flat, side_up c b d x y (by omega), side_down a b d x y (by omega)]
  by_cases h1 : b ≤ (y : Int) ∧ (y : Int) < d
  · by_cases h2 : (x : Int) < a
    · rw [decide_eq_true (show ((b ≤ (y : Int) ∧ (y : Int) < d) ∧ (x : Int) < c) by omega), decide_eq_true (show ((b ≤ (y : Int) ∧ (y : Int) < d) ∧ (x : Int) < a) by omega), decide_eq_false (by omega)]
      rfl
    · by_cases h3 : (x : Int) < c
      · rw [decide_eq_true (show ((b ≤ (y : Int) ∧ (y : Int) < d) ∧ (x : Int) < c) by omega), decide_eq_false (show ¬ ((b ≤ (y : Int) ∧ (y : Int) < d) ∧ (x : Int) < a) by omega), decide_eq_true (by omega)]
        rfl
      · rw [decide_eq_false (show ¬ ((b ≤ (y : Int) ∧ (y : Int) < d) ∧ (x : Int) < c) by omega), decide_eq_false (show ¬ ((b ≤ (y : Int) ∧ (y : Int) < d) ∧ (x : Int) < a) by omega), decide_eq_false (by omega)]
        rfl
  · rw [decide_eq_false (show ¬ ((b ≤ (y : Int) ∧ (y : Int) < d) ∧ (x : Int) < c) by omega), decide_eq_false (show ¬ ((b ≤ (y : Int) ∧ (y : Int) < d) ∧ (x : Int) < a) by omega), decide_eq_false (by omega)]
    rfl
theorem rect_area (a b c d : Int) (h : SmallBox a b c d) : areaOf (rectL a b c d) = 2 * ((c - a) * (d - b)) := by
  have hh := h
  unfold SmallBox at h
  rw [areaOf, rect_path a b c d hh]
  simp only [if_true]
  have m1 := mul_bound a b 36 36 (by omega) (by omega) (by omega) (by omega)
  have m2 := mul_bound c b 36 36 (by omega) (by omega) (by omega) (by omega)
  have m3 := mul_bound c d 36 36 (by omega) (by omega) (by omega) (by omega)
  have m4 := mul_bound a d 36 36 (by omega) (by omega) (by omega) (by omega)
  have hs : (rectL a b c d).length = 4 := rfl
  have e : areaTo (rectL a b c d) (rectL a b c d).length = wrap64 (wrap64 (wrap64 (wrap64 (0 + wrap64 (wrap64 (a * b) - wrap64 (c * b))) + wrap64 (wrap64 (c * d) - wrap64 (c * b))) + wrap64 (wrap64 (c * d) - wrap64 (a * d))) + wrap64 (wrap64 (a * b) - wrap64 (a * d))) := by
    simp only [hs, areaTo, areaTerm]
    rfl
  have g : 2 * ((c - a) * (d - b)) = 2 * (a * b) - 2 * (c * b) + 2 * (c * d) - 2 * (a * d) := by grind
  rw [e, g]
  generalize a * b = p at *
  generalize c * b = q at *
  generalize c * d = r at *
  generalize a * d = s at *
  unfold wrap64
  omega
theorem FnRectangles : laws_FnRectangles.Pure := by
  intro l hm hs hw
  refine Ev.rounds ?_
  simp only [laws_FnRectangles.f, laws_big.f, Option.bind_some, decide_eq_true_eq]
  by_cases hb : (l.length : Int) > 1048576
  · simp only [if_pos hb]
    exact Ev.now _
  · simp only [if_neg hb]
    obtain ⟨a, b, c, d, p, q, r, s, e, s1, _⟩ := draw_boxes l (by omega)
    have hx := s1
    unfold SmallBox at hx
    have b1 : boxB a b c d = true := decide_eq_true (by omega)
    have b2 : boxB 0 0 32 32 = true := by decide
    refine Ev.bind e ?_
    refine Ev.bind (impl_meet a b c d 0 0 32 32) ?_
    refine Ev.bind (impl_count (rectL a b c d)) ?_
    have n1 := rows_cut (rectL a b c d) a c b d (fun x y hx hy => rect_inside a b c d s1 x y hx hy) 32 0 0 (by omega)
    have n2 : dotsM (meetM a b c d 0 0 32 32).1 (meetM a b c d 0 0 32 32).2.1 (meetM a b c d 0 0 32 32).2.2.1 (meetM a b c d 0 0 32 32).2.2.2 = ((rowsTo (rectL a b c d) 0 0 32 : Nat) : Int) := by
      rw [n1]
      have z : cut b d ((0 : Nat) : Int) ((32 : Nat) : Int) = cut b d 0 32 := rfl
      rw [z]
      unfold meetM
      rw [if_pos b1, if_pos b2]
      by_cases h1 : mx a 0 ≥ mn c 32
      · rw [if_pos h1, cut_none a c h1]
        have : dotsM 0 0 0 0 = 0 := by rw [dots_small 0 0 0 0 (by decide)]; rfl
        simpa using this
      · rw [if_neg h1]
        by_cases h2 : mx b 0 ≥ mn d 32
        · rw [if_pos h2, cut_none b d h2]
          have : dotsM 0 0 0 0 = 0 := by rw [dots_small 0 0 0 0 (by decide)]; rfl
          simpa using this
        · rw [if_neg h2]
          have b3 : boxB (mx a 0) (mx b 0) (mn c 32) (mn d 32) = true := by
            clear n1
            refine decide_eq_true ?_
            unfold mx mn at h1 h2 ⊢
            repeat' split
            all_goals repeat' split at h1
            all_goals repeat' split at h2
            all_goals omega
          rw [dots_small _ _ _ _ b3, cut_some a c h1, cut_some b d h2]
          simp
    simp only [impl_countdots, Option.bind_some, n2, if_true]
    refine Ev.bind (impl_area (rectL a b c d)) ?_
    have m := mul_bound (c - a) (d - b) 40 40 (by omega) (by omega) (by omega) (by omega)
    have n3 : areaOf (rectL a b c d) = wrap64 (2 * dotsM a b c d) := by
      rw [rect_area a b c d s1, dots_small a b c d b1]
      generalize (c - a) * (d - b) = e at *
      exact (wrap_id (by omega) (by omega)).symm
    simp only [if_pos n3, spec_countdots, Option.bind_some, beq_self_eq_true]
    exact Ev.now _

end Go.Proofs.Ytgpiboajpolmoaa.Pure
