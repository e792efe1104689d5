/- The program's CountInside returns what the reference's returns, for all arguments. This is its pure statement, over numbers and lists, as printed from the program; the row is built on it.
   Conditions: none. -/
import Derived.Test.YtgpiboajpolmoaaPFnExactCountInsidex4
namespace Go.Proofs.Ytgpiboajpolmoaa.Pure
set_option linter.unusedSimpArgs false
set_option linter.unusedVariables false
open Go.RowKit Go.Proofs.Ytgpiboajpolmoaa.PFnExactCountInside Go.Proofs.YtgpiboajpolmoaaW.PrintWords Go.Proofs.YtgpiboajpolmoaaW.PrintLast

theorem wrap_id {x : Int} (h0 : -9223372036854775808 ≤ x) (h1 : x ≤ 9223372036854775807) : wrap64 x = x := by
  unfold wrap64
  omega
theorem wrap_succ (i : Nat) (h : i < 4611686018427387904) : wrap64 ((i : Int) + 1) = ((i + 1 : Nat) : Int) := by
  rw [wrap_id (by omega) (by omega)]
  omega
theorem rd_lt (l : List Int) (i : Nat) (h : i < l.length) : rd l (i : Int) = l[i] := by
  unfold rd
  rw [Int.toNat_natCast, List.getD_eq_getElem?_getD, List.getElem?_eq_getElem h]
  rfl
theorem set_take {α : Type} (l x : List α) (i : Nat) (hi : i < l.length) (hx : x.length = l.length) (h : x.take i = l.take i) :
    (x.set i l[i]).take (i + 1) = l.take (i + 1) := by
  rw [List.take_succ_eq_append_getElem (by simp; omega), List.take_succ_eq_append_getElem hi, List.getElem_set_self, List.take_set_of_le (Nat.le_refl i), h]
def allFrom (p : Nat → Bool) (n i : Nat) : Bool := (List.range' i (n - i)).all p
theorem all_end (p : Nat → Bool) (n : Nat) : allFrom p n n = true := by simp [allFrom]
theorem all_step (p : Nat → Bool) (n i : Nat) (h : i < n) : allFrom p n i = (p i && allFrom p n (i + 1)) := by
  unfold allFrom
  rw [show n - i = (n - (i + 1)) + 1 by omega, List.range'_succ, List.all_cons]
theorem all_iff (p : Nat → Bool) (n i : Nat) : allFrom p n i = true ↔ ∀ j, i ≤ j → j < n → p j = true := by
  unfold allFrom
  rw [List.all_eq_true]
  constructor
  · intro h j h1 h2
    exact h j (List.mem_range'_1.2 ⟨h1, by omega⟩)
  · intro h j hj
    have := List.mem_range'_1.1 hj
    exact h j this.1 (by omega)
def cvPoint (x : S86) : S48 := ⟨x.f0, x.f1⟩
theorem rdlPoint_lt (l : List S86) (i : Nat) (h : i < l.length) : rd_T86 l (i : Int) = l[i] := by
  unfold rd_T86
  rw [Int.toNat_natCast, List.getD_eq_getElem?_getD, List.getElem?_eq_getElem h]
  rfl
theorem rdiPoint_lt (l : List S48) (i : Nat) (h : i < l.length) : rd_T48 l (i : Int) = l[i] := by
  unfold rd_T48
  rw [Int.toNat_natCast, List.getD_eq_getElem?_getD, List.getElem?_eq_getElem h]
  rfl
theorem toPoint_loop (l : List S86) (hl : l.length ≤ 1048576) : ∀ (d i : Nat) (x : List S48), i + d = l.length → x.length = l.length → x.take i = (l.map cvPoint).take i →
    Ev (fun k => laws_toPointS.l0 k l x (i : Int)) (l.map cvPoint) := by
  intro d
  induction d with
  | zero =>
    intro i x hi hx ht
    refine Ev.step (fun k => laws_toPointS.l0.eq_2 _ _ _ k) ?_
    simp only [if_neg (show ¬ (i : Int) < (l.length : Int) by omega)]
    rw [List.take_of_length_le (by omega), List.take_of_length_le (by simp; omega)] at ht
    subst ht
    exact Ev.now _
  | succ d ih =>
    intro i x hi hx ht
    refine Ev.step (fun k => laws_toPointS.l0.eq_2 _ _ _ k) ?_
    simp only [if_pos (show (i : Int) < (l.length : Int) by omega), if_pos (show (0 : Int) ≤ (i : Int) by omega), if_pos (show (i : Int) < (x.length : Int) by omega), laws_toPoint.f, Option.bind_some]
    rw [wrap_succ i (by omega), rdlPoint_lt l i (by omega), Int.toNat_natCast]
    refine ih (i + 1) _ (by omega) (by simp; omega) ?_
    have := set_take (l.map cvPoint) x i (by simp; omega) (by simp; omega) ht
    rw [List.getElem_map] at this
    exact this
theorem toPoints (l : List S86) (hl : l.length ≤ 1048576) : Ev (fun k => laws_toPointS.f k l) (l.map cvPoint) := by
  unfold laws_toPointS.f
  simp only [if_pos (show (0 : Int) ≤ (l.length : Int) by omega), Int.toNat_natCast, if_pos (show l.length ≤ 17592186044416 by omega)]
  exact toPoint_loop l hl l.length 0 _ (by omega) (by simp) (by simp)
theorem eqPoint_loop (l : List S48) (hl : l.length ≤ 1048577) : ∀ (d i : Nat), i + d = l.length →
    Ev (fun k => laws_eqPointS.l0 k l l (i : Int)) true := by
  intro d
  induction d with
  | zero =>
    intro i hi
    refine Ev.step (fun k => laws_eqPointS.l0.eq_2 _ _ _ k) ?_
    simp only [if_neg (show ¬ (i : Int) < (l.length : Int) by omega)]
    exact Ev.now _
  | succ d ih =>
    intro i hi
    refine Ev.step (fun k => laws_eqPointS.l0.eq_2 _ _ _ k) ?_
    simp only [if_pos (show (i : Int) < (l.length : Int) by omega), if_pos (show (0 : Int) ≤ (i : Int) by omega), laws_eqPoint.f, if_true, Option.bind_some]
    rw [wrap_succ i (by omega)]
    exact ih (i + 1) (by omega)
theorem eqPoints (l : List S48) (hl : l.length ≤ 1048577) : Ev (fun k => laws_eqPointS.f k l l) true := by
  unfold laws_eqPointS.f
  simp only [if_true]
  exact eqPoint_loop l hl l.length 0 (by omega)
theorem szPoints (l : List S86) (hl : l.length ≤ 9223372036854775807) : laws_szPointS.f l 1048576 = (some (if (1048576 : Int) - (l.length : Int) < 0 then (-1 : Int) else (1048576 : Int) - (l.length : Int)) : Option Int) := by
  unfold laws_szPointS.f
  rw [wrap_id (by omega) (by omega)]
  split <;> rfl
theorem spec_in (a b c : Int) : spec_l01In.f a b c = some (decide (b ≤ a ∧ a ≤ c)) := by
  unfold spec_l01In.f
  by_cases h : b ≤ a <;> simp [h]
theorem impl_in (a b c : Int) : impl_within.f a b c = some (decide (b ≤ a ∧ a ≤ c)) := by
  unfold impl_within.f
  by_cases h : b ≤ a <;> simp [h]
def inB (a b c : Int) : Bool := decide (b ≤ a ∧ a ≤ c)
theorem spec_coord (a : Int) : spec_l02In.f a = some (decide (-200 ≤ a ∧ a ≤ 200)) := by
  simp only [spec_l02In.f, spec_in, Option.bind_some]
theorem impl_coord (a : Int) : impl_coordOk.f a = some (decide (-200 ≤ a ∧ a ≤ 200)) := by
  simp only [impl_coordOk.f, impl_in, Option.bind_some]
theorem spec_point (a b : Int) : spec_PointOk.f a b = some (decide ((-200 ≤ a ∧ a ≤ 200) ∧ (-200 ≤ b ∧ b ≤ 200))) := by
  simp only [spec_PointOk.f, spec_coord, Option.bind_some]
  by_cases h : -200 ≤ a ∧ a ≤ 200
  · simp only [decide_eq_true h, if_true]
    congr 1
    exact decide_eq_decide.2 ⟨fun h' => ⟨h, h'⟩, fun h' => h'.2⟩
  · simp only [decide_eq_false h, Bool.false_eq_true, if_false]
    congr 1
    exact (decide_eq_false fun h' => h h'.1).symm
theorem impl_point (a b : Int) : impl_PointOk.f a b = some (decide ((-200 ≤ a ∧ a ≤ 200) ∧ (-200 ≤ b ∧ b ≤ 200))) := by
  have h : impl_PointOk.f a b = spec_PointOk.f a b := by
    simp only [impl_PointOk.f, spec_PointOk.f, spec_coord, impl_coord]
  rw [h, spec_point]
def ptB (p : S48) : Bool := decide ((-200 ≤ p.f0 ∧ p.f0 ≤ 200) ∧ (-200 ≤ p.f1 ∧ p.f1 ≤ 200))
def pathB (l : List S48) : Bool := decide (l.length ≤ 8) && l.all ptB
theorem spec_path_loop (l : List S48) (hl : l.length ≤ 1048576) : ∀ (d i : Nat), i + d = l.length →
    Ev (fun k => spec_l07Points.l0 k l (i : Int)) (decide (l.length ≤ 8) && (l.drop i).all ptB) := by
  intro d
  induction d with
  | zero =>
    intro i hi
    refine Ev.step (fun k => spec_l07Points.l0.eq_2 _ _ k) ?_
    simp only [if_neg (show ¬ (i : Int) < (l.length : Int) by omega)]
    rw [List.drop_of_length_le (by omega)]
    have e : decide ((l.length : Int) ≤ 8) = (decide (l.length ≤ 8) && List.all [] ptB) := by
      simp
      omega
    rw [e]
    exact Ev.now _
  | succ d ih =>
    intro i hi
    refine Ev.step (fun k => spec_l07Points.l0.eq_2 _ _ k) ?_
    simp only [if_pos (show (i : Int) < (l.length : Int) by omega), if_pos (show (0 : Int) ≤ (i : Int) by omega), spec_point, Option.bind_some]
    rw [wrap_succ i (by omega), rdiPoint_lt l i (by omega), List.drop_eq_getElem_cons (show i < l.length by omega), List.all_cons]
    change Ev (fun k => if ptB l[i] = true then spec_l07Points.l0 k l ((i + 1 : Nat) : Int) else some false) _
    cases hc : ptB l[i] with
    | true =>
      simp only [if_true, Bool.true_and]
      exact ih (i + 1) (by omega)
    | false =>
      simp only [Bool.false_and, Bool.and_false, Bool.false_eq_true, if_false]
      exact Ev.now _
theorem spec_path (l : List S48) (hl : l.length ≤ 1048576) : Ev (fun k => spec_l07Points.f k l) (pathB l) := by
  unfold spec_l07Points.f pathB
  simpa using spec_path_loop l hl l.length 0 (by omega)
theorem impl_points_loop (l : List S48) (hl : l.length ≤ 1048576) : ∀ (d i : Nat), i + d = l.length →
    Ev (fun k => impl_pointsOk.l0 k l (l.length : Int) (i : Int)) ((l.drop i).all ptB) := by
  intro d
  induction d with
  | zero =>
    intro i hi
    refine Ev.step (fun k => impl_pointsOk.l0.eq_2 _ _ _ k) ?_
    simp only [if_neg (show ¬ (i : Int) < (l.length : Int) by omega)]
    rw [List.drop_of_length_le (by omega)]
    exact Ev.now _
  | succ d ih =>
    intro i hi
    refine Ev.step (fun k => impl_pointsOk.l0.eq_2 _ _ _ k) ?_
    simp only [if_pos (show (i : Int) < (l.length : Int) by omega), if_pos (show (0 : Int) ≤ (i : Int) by omega), impl_point, Option.bind_some]
    rw [wrap_succ i (by omega), rdiPoint_lt l i (by omega), List.drop_eq_getElem_cons (show i < l.length by omega), List.all_cons]
    change Ev (fun k => if ptB l[i] = true then impl_pointsOk.l0 k l (l.length : Int) ((i + 1 : Nat) : Int) else some false) _
    cases hc : ptB l[i] with
    | true =>
      simp only [if_true, Bool.true_and]
      exact ih (i + 1) (by omega)
    | false =>
      simp only [Bool.false_and, Bool.false_eq_true, if_false]
      exact Ev.now _
theorem impl_points (l : List S48) (hl : l.length ≤ 1048576) : Ev (fun k => impl_pointsOk.f k l) (l.all ptB) := by
  unfold impl_pointsOk.f
  simpa using impl_points_loop l hl l.length 0 (by omega)
theorem impl_path (l : List S48) : Ev (fun k => impl_pathOk.f k l) (pathB l) := by
  unfold impl_pathOk.f pathB
  by_cases h : l.length ≤ 8
  · simp only [if_pos (show (l.length : Int) ≤ 8 by omega), decide_eq_true h, Bool.true_and]
    exact Ev.bind (impl_points l (by omega)) (Ev.now _)
  · simp only [if_neg (show ¬ (l.length : Int) ≤ 8 by omega), decide_eq_false h, Bool.false_and]
    exact Ev.now _
theorem tmod_nat (i n : Nat) : Int.tmod ((i : Nat) : Int) (n : Int) = ((i % n : Nat) : Int) := rfl
def xorUpTo (f : Nat → Bool) : Nat → Bool
  | 0 => false
  | n + 1 => xorUpTo f n ^^ f n
def flips (g : Nat → Bool) : Nat → Nat
  | 0 => 0
  | n + 1 => flips g n + (if g n = g (n + 1) then 0 else 1)
theorem flips_xor (f g : Nat → Bool) (n : Nat) : flips (fun x => f x ^^ g x) n ≤ flips f n + flips g n := by
  induction n with
  | zero => simp [flips]
  | succ n ih =>
    simp only [flips]
    have h : (if (f n ^^ g n) = (f (n + 1) ^^ g (n + 1)) then 0 else 1) ≤ (if f n = f (n + 1) then 0 else 1) + (if g n = g (n + 1) then 0 else 1) := by
      cases f n <;> cases f (n + 1) <;> cases g n <;> cases g (n + 1) <;> simp
    omega
theorem flips_false (n : Nat) : flips (fun _ => false) n = 0 := by
  induction n with
  | zero => rfl
  | succ n ih => simp [flips, ih]
theorem flips_down (g : Nat → Bool) (h : ∀ x, g (x + 1) = true → g x = true) (n : Nat) : flips g n + (g n).toNat ≤ 1 := by
  induction n with
  | zero =>
    simp only [flips]
    cases g 0 <;> simp
  | succ n ih =>
    simp only [flips]
    have := h n
    cases h0 : g n <;> cases h1 : g (n + 1) <;> simp_all
theorem flips_many (c : Nat → Nat → Bool) (h : ∀ i x, c i (x + 1) = true → c i x = true) (n : Nat) : ∀ m, flips (fun x => xorUpTo (fun i => c i x) m) n ≤ m
  | 0 => by simp [xorUpTo, flips_false]
  | m + 1 => by
    have h1 := flips_many c h n m
    have h2 := flips_xor (fun x => xorUpTo (fun i => c i x) m) (c m) n
    have h3 := flips_down (c m) (h m) n
    simp only [xorUpTo]
    omega
theorem flips_shift (g : Nat → Bool) (n : Nat) : flips g (n + 1) = (if g 0 = g 1 then 0 else 1) + flips (fun x => g (x + 1)) n := by
  induction n with
  | zero => simp [flips]
  | succ n ih =>
    rw [flips, ih]
    simp only [flips]
    omega
theorem xor_pairs (s : Nat → Bool) : ∀ m, xorUpTo (fun i => s i ^^ s (i + 1)) m = (s 0 ^^ s m)
  | 0 => by simp [xorUpTo]
  | m + 1 => by
    rw [xorUpTo, xor_pairs s m]
    cases s 0 <;> cases s m <;> cases s (m + 1) <;> rfl
theorem xor_congr (f g : Nat → Bool) : ∀ m, (∀ i, i < m → f i = g i) → xorUpTo f m = xorUpTo g m
  | 0, _ => rfl
  | m + 1, h => by rw [xorUpTo, xorUpTo, xor_congr f g m (fun i hi => h i (by omega)), h m (by omega)]
/-- Round a closed row, the changes cancel. -/
theorem xor_ring (s : Nat → Bool) (m : Nat) : xorUpTo (fun i => s i ^^ s ((i + 1) % m)) m = false := by
  cases m with
  | zero => rfl
  | succ m =>
    rw [xorUpTo, Nat.mod_self]
    rw [xor_congr _ (fun i => s i ^^ s (i + 1)) m (fun i hi => by rw [Nat.mod_eq_of_lt (by omega)]), xor_pairs]
    cases s 0 <;> cases s m <;> rfl
theorem mul_bound (a b A B : Int) (h1 : -A ≤ a) (h2 : a ≤ A) (h3 : -B ≤ b) (h4 : b ≤ B) : -(A * B) ≤ a * b ∧ a * b ≤ A * B := by
  have e1 : 0 ≤ (A - a) * (B + b) := Int.mul_nonneg (by omega) (by omega)
  have e2 : 0 ≤ (A + a) * (B - b) := Int.mul_nonneg (by omega) (by omega)
  have e3 : 0 ≤ (A - a) * (B - b) := Int.mul_nonneg (by omega) (by omega)
  have e4 : 0 ≤ (A + a) * (B + b) := Int.mul_nonneg (by omega) (by omega)
  grind
/-- Whether a side passes on the right of a dot's center, at its height. -/
def crossB (ax ay bx b_y x y : Int) : Bool :=
  if decide (ay > y) = decide (b_y > y) then false
  else if b_y - ay < 0 then decide (2 * ax * (b_y - ay) + (2 * y + 1 - 2 * ay) * (bx - ax) < (2 * x + 1) * (b_y - ay))
  else decide (2 * ax * (b_y - ay) + (2 * y + 1 - 2 * ay) * (bx - ax) > (2 * x + 1) * (b_y - ay))
theorem impl_cross (ax ay bx b_y x y : Int) (h1 : -200 ≤ ax ∧ ax ≤ 200) (h2 : -200 ≤ ay ∧ ay ≤ 200) (h3 : -200 ≤ bx ∧ bx ≤ 200) (h4 : -200 ≤ b_y ∧ b_y ≤ 200) (h5 : -200 ≤ x ∧ x ≤ 200) (h6 : -200 ≤ y ∧ y ≤ 200) :
    impl_crosses.f ax ay bx b_y x y = some (crossB ax ay bx b_y x y) := by
  have m1 := mul_bound (2 * ax) (b_y - ay) 400 400 (by omega) (by omega) (by omega) (by omega)
  have m2 := mul_bound (2 * y + 1 - 2 * ay) (bx - ax) 801 400 (by omega) (by omega) (by omega) (by omega)
  have m3 := mul_bound (2 * x + 1) (b_y - ay) 401 400 (by omega) (by omega) (by omega) (by omega)
  unfold impl_crosses.f crossB
  rw [wrap_id (x := b_y - ay) (by omega) (by omega), wrap_id (x := 2 * ax) (by omega) (by omega), wrap_id (x := 2 * y) (by omega) (by omega), wrap_id (x := 2 * y + 1) (by omega) (by omega),
    wrap_id (x := 2 * ay) (by omega) (by omega), wrap_id (x := 2 * y + 1 - 2 * ay) (by omega) (by omega), wrap_id (x := bx - ax) (by omega) (by omega), wrap_id (x := 2 * x) (by omega) (by omega),
    wrap_id (x := 2 * x + 1) (by omega) (by omega)]
  generalize 2 * ax * (b_y - ay) = p at *
  generalize (2 * y + 1 - 2 * ay) * (bx - ax) = q at *
  generalize (2 * x + 1) * (b_y - ay) = r at *
  rw [wrap_id (x := p) (by omega) (by omega), wrap_id (x := q) (by omega) (by omega), wrap_id (x := r) (by omega) (by omega), wrap_id (x := p + q) (by omega) (by omega)]
  by_cases h : decide (ay > y) = decide (b_y > y)
  · rw [if_pos (by rw [h]; exact beq_self_eq_true _), if_pos h]
  · rw [if_neg (by rw [beq_iff_eq]; exact h), if_neg h]
    split <;> rfl
theorem cross_up (ax ay bx b_y x y : Int) : ((2 * x + 1 - 2 * ax) * 2) * (b_y - ay) < ((2 * y + 1 - 2 * ay) * 2) * (bx - ax) ↔ 2 * ax * (b_y - ay) + (2 * y + 1 - 2 * ay) * (bx - ax) > (2 * x + 1) * (b_y - ay) := by
  grind
theorem cross_down (ax ay bx b_y x y : Int) : ((2 * x + 1 - 2 * bx) * 2) * (ay - b_y) < ((2 * y + 1 - 2 * b_y) * 2) * (ax - bx) ↔ 2 * ax * (b_y - ay) + (2 * y + 1 - 2 * ay) * (bx - ax) < (2 * x + 1) * (b_y - ay) := by
  grind
theorem spec_cross (ax ay bx b_y x y : Int) (h1 : -200 ≤ ax ∧ ax ≤ 200) (h2 : -200 ≤ ay ∧ ay ≤ 200) (h3 : -200 ≤ bx ∧ bx ≤ 200) (h4 : -200 ≤ b_y ∧ b_y ≤ 200) (h5 : -200 ≤ x ∧ x ≤ 200) (h6 : -200 ≤ y ∧ y ≤ 200) :
    spec_l08Crosses.f ax ay bx b_y x y = some (crossB ax ay bx b_y x y) := by
  unfold spec_l08Crosses.f crossB
  rw [wrap_id (x := 2 * ay) (by omega) (by omega), wrap_id (x := 2 * y) (by omega) (by omega), wrap_id (x := 2 * y + 1) (by omega) (by omega), wrap_id (x := 2 * b_y) (by omega) (by omega),
    wrap_id (x := 2 * x) (by omega) (by omega), wrap_id (x := 2 * x + 1) (by omega) (by omega), wrap_id (x := 2 * ax) (by omega) (by omega), wrap_id (x := 2 * bx) (by omega) (by omega)]
  rw [wrap_id (x := 2 * x + 1 - 2 * bx) (by omega) (by omega), wrap_id (x := 2 * y + 1 - 2 * b_y) (by omega) (by omega), wrap_id (x := 2 * x + 1 - 2 * ax) (by omega) (by omega), wrap_id (x := 2 * y + 1 - 2 * ay) (by omega) (by omega)]
  rw [wrap_id (x := (2 * x + 1 - 2 * bx) * 2) (by omega) (by omega), wrap_id (x := (2 * y + 1 - 2 * b_y) * 2) (by omega) (by omega), wrap_id (x := (2 * x + 1 - 2 * ax) * 2) (by omega) (by omega), wrap_id (x := (2 * y + 1 - 2 * ay) * 2) (by omega) (by omega)]
  rw [wrap_id (x := ay - b_y) (by omega) (by omega), wrap_id (x := ax - bx) (by omega) (by omega), wrap_id (x := b_y - ay) (by omega) (by omega), wrap_id (x := bx - ax) (by omega) (by omega)]
  have m1 := mul_bound ((2 * x + 1 - 2 * bx) * 2) (ay - b_y) 1604 400 (by omega) (by omega) (by omega) (by omega)
  have m2 := mul_bound ((2 * y + 1 - 2 * b_y) * 2) (ax - bx) 1604 400 (by omega) (by omega) (by omega) (by omega)
  have m3 := mul_bound ((2 * x + 1 - 2 * ax) * 2) (b_y - ay) 1604 400 (by omega) (by omega) (by omega) (by omega)
  have m4 := mul_bound ((2 * y + 1 - 2 * ay) * 2) (bx - ax) 1604 400 (by omega) (by omega) (by omega) (by omega)
  have k1 := cross_up ax ay bx b_y x y
  have k2 := cross_down ax ay bx b_y x y
  generalize ((2 * x + 1 - 2 * bx) * 2) * (ay - b_y) = p1 at *
  generalize ((2 * y + 1 - 2 * b_y) * 2) * (ax - bx) = p2 at *
  generalize ((2 * x + 1 - 2 * ax) * 2) * (b_y - ay) = p3 at *
  generalize ((2 * y + 1 - 2 * ay) * 2) * (bx - ax) = p4 at *
  rw [wrap_id (x := p1) (by omega) (by omega), wrap_id (x := p2) (by omega) (by omega), wrap_id (x := p3) (by omega) (by omega), wrap_id (x := p4) (by omega) (by omega)]
  have ea : decide (2 * ay > 2 * y + 1) = decide (ay > y) := decide_eq_decide.2 (by omega)
  have eb : decide (2 * b_y > 2 * y + 1) = decide (b_y > y) := decide_eq_decide.2 (by omega)
  rw [ea, eb]
  by_cases h : decide (ay > y) = decide (b_y > y)
  · rw [if_pos (by rw [h]; exact beq_self_eq_true _), if_pos h]
  · rw [if_neg (by rw [beq_iff_eq]; exact h), if_neg h]
    by_cases hd : ay > b_y
    · rw [if_pos hd, if_pos (by omega)]
      congr 1
      exact decide_eq_decide.2 k2
    · rw [if_neg hd, if_neg (by omega)]
      congr 1
      exact decide_eq_decide.2 k1
def sideB (l : List S48) (x y : Int) (i : Nat) : Bool :=
  let a := rd_T48 l (i : Int)
  let b := rd_T48 l (((i + 1) % l.length : Nat) : Int)
  crossB a.f0 a.f1 b.f0 b.f1 x y
def insB (l : List S48) (x y : Int) : Bool := xorUpTo (sideB l x y) l.length
def coB (x : Int) : Bool := decide (-200 ≤ x ∧ x ≤ 200)
def insideB (l : List S48) (x y : Int) : Bool := pathB l && coB x && coB y && insB l x y
theorem pt_at (l : List S48) (h : l.all ptB = true) (i : Nat) (hi : i < l.length) :
    (-200 ≤ (rd_T48 l (i : Int)).f0 ∧ (rd_T48 l (i : Int)).f0 ≤ 200) ∧ (-200 ≤ (rd_T48 l (i : Int)).f1 ∧ (rd_T48 l (i : Int)).f1 ≤ 200) := by
  rw [rdiPoint_lt l i hi]
  exact of_decide_eq_true (List.all_eq_true.1 h l[i] (List.getElem_mem hi))
theorem path_len (l : List S48) (h : pathB l = true) : l.length ≤ 8 ∧ l.all ptB = true := by
  unfold pathB at h
  rw [Bool.and_eq_true] at h
  exact ⟨of_decide_eq_true h.1, h.2⟩
theorem impl_inside_loop (l : List S48) (x y : Int) (hl : l.length ≤ 8) (hp : l.all ptB = true) (hx : -200 ≤ x ∧ x ≤ 200) (hy : -200 ≤ y ∧ y ≤ 200) : ∀ (d i : Nat), i + d = l.length →
    Ev (fun k => impl_InsidePath.l0 k l x y (xorUpTo (sideB l x y) i) l (l.length : Int) (i : Int)) (insB l x y) := by
  intro d
  induction d with
  | zero =>
    intro i hi
    refine Ev.step (fun k => impl_InsidePath.l0.eq_2 _ _ _ _ _ _ _ k) ?_
    simp only [if_neg (show ¬ (i : Int) < (l.length : Int) by omega)]
    rw [show i = l.length by omega]
    exact Ev.now _
  | succ d ih =>
    intro i hi
    have hm : (i + 1) % l.length < l.length := Nat.mod_lt _ (by omega)
    have ha := pt_at l hp i (by omega)
    have hb := pt_at l hp _ hm
    refine Ev.step (fun k => impl_InsidePath.l0.eq_2 _ _ _ _ _ _ _ k) ?_
    rw [wrap_succ i (by omega), tmod_nat]
    simp only [if_pos (show (i : Int) < (l.length : Int) by omega), if_pos (show (0 : Int) ≤ (i : Int) by omega), if_neg (show ¬ (l.length : Int) = 0 by omega),
      if_pos (show (0 : Int) ≤ (((i + 1) % l.length : Nat) : Int) by omega), if_pos (show (((i + 1) % l.length : Nat) : Int) < (l.length : Int) by omega),
      impl_cross _ _ _ _ _ _ ha.1 ha.2 hb.1 hb.2 hx hy, Option.bind_some]
    have := ih (i + 1) (by omega)
    simp only [xorUpTo] at this
    change Ev (fun k => if sideB l x y i = true then _ else _) _
    cases h : sideB l x y i with
    | true =>
      rw [h, Bool.xor_true] at this
      simpa using this
    | false =>
      rw [h, Bool.xor_false] at this
      simpa using this
theorem impl_inside (l : List S48) (x y : Int) : Ev (fun k => impl_InsidePath.f k l x y) (insideB l x y) := by
  unfold impl_InsidePath.f insideB
  refine Ev.bind (impl_path l) ?_
  have j1 : Ev (fun k => impl_InsidePath.j0 k l x y true) false := by
    refine Ev.step (fun k => impl_InsidePath.j0.eq_2 _ _ _ _ k) ?_
    simp only [if_true]
    exact Ev.now _
  cases hp : pathB l with
  | false =>
    simp only [Bool.false_eq_true, if_false, Bool.false_and]
    exact j1
  | true =>
    simp only [if_true, impl_coord, Option.bind_some, Bool.true_and]
    by_cases hx : -200 ≤ x ∧ x ≤ 200
    · simp only [decide_eq_true hx, if_true]
      rw [show coB x = true from decide_eq_true hx]
      by_cases hy : -200 ≤ y ∧ y ≤ 200
      · rw [show coB y = true from decide_eq_true hy]
        simp only [decide_eq_true hy, Bool.not_true, Bool.true_and]
        refine Ev.step (fun k => impl_InsidePath.j0.eq_2 _ _ _ _ k) ?_
        simp only [Bool.false_eq_true, if_false]
        exact impl_inside_loop l x y (path_len l hp).1 (path_len l hp).2 hx hy l.length 0 (by omega)
      · rw [show coB y = false from decide_eq_false hy]
        simp only [decide_eq_false hy, Bool.not_false, Bool.and_false, Bool.false_and]
        exact j1
    · rw [show coB x = false from decide_eq_false hx]
      simp only [decide_eq_false hx, Bool.false_eq_true, if_false, Bool.false_and]
      exact j1
theorem spec_in_loop (l : List S48) (x y : Int) (hl : l.length ≤ 8) (hp : l.all ptB = true) (hx : -200 ≤ x ∧ x ≤ 200) (hy : -200 ≤ y ∧ y ≤ 200) : ∀ (d i : Nat), i + d = l.length →
    Ev (fun k => spec_l08In.l0 k l x y (xorUpTo (sideB l x y) i) (i : Int)) (insB l x y) := by
  intro d
  induction d with
  | zero =>
    intro i hi
    refine Ev.step (fun k => spec_l08In.l0.eq_2 _ _ _ _ _ k) ?_
    simp only [if_neg (show ¬ (i : Int) < (l.length : Int) by omega)]
    rw [show i = l.length by omega]
    exact Ev.now _
  | succ d ih =>
    intro i hi
    have hm : (i + 1) % l.length < l.length := Nat.mod_lt _ (by omega)
    have ha := pt_at l hp i (by omega)
    have hb := pt_at l hp _ hm
    refine Ev.step (fun k => spec_l08In.l0.eq_2 _ _ _ _ _ k) ?_
    rw [wrap_succ i (by omega), tmod_nat]
    simp only [if_pos (show (i : Int) < (l.length : Int) by omega), if_pos (show (0 : Int) ≤ (i : Int) by omega), if_neg (show ¬ (l.length : Int) = 0 by omega),
      if_pos (show (0 : Int) ≤ (((i + 1) % l.length : Nat) : Int) by omega), if_pos (show (((i + 1) % l.length : Nat) : Int) < (l.length : Int) by omega),
      spec_cross _ _ _ _ _ _ ha.1 ha.2 hb.1 hb.2 hx hy, Option.bind_some]
    have := ih (i + 1) (by omega)
    simp only [xorUpTo] at this
    change Ev (fun k => if sideB l x y i = true then _ else _) _
    cases h : sideB l x y i with
    | true =>
      rw [h, Bool.xor_true] at this
      simpa using this
    | false =>
      rw [h, Bool.xor_false] at this
      simpa using this
theorem spec_inside (l : List S48) (x y : Int) (hl : l.length ≤ 1048576) : Ev (fun k => spec_InsidePath.f k l x y) (insideB l x y) := by
  unfold spec_InsidePath.f insideB
  refine Ev.bind (spec_path l hl) ?_
  cases hp : pathB l with
  | false =>
    simp only [Bool.false_eq_true, if_false, Bool.false_and]
    exact Ev.now _
  | true =>
    simp only [if_true, spec_coord, Option.bind_some, Bool.true_and]
    by_cases hx : -200 ≤ x ∧ x ≤ 200
    · simp only [decide_eq_true hx, if_true]
      rw [show coB x = true from decide_eq_true hx]
      by_cases hy : -200 ≤ y ∧ y ≤ 200
      · rw [show coB y = true from decide_eq_true hy]
        simp only [decide_eq_true hy, if_true, Bool.true_and]
        unfold spec_l08In.f
        exact Ev.bind (spec_in_loop l x y (path_len l hp).1 (path_len l hp).2 hx hy l.length 0 (by omega)) (Ev.now _)
      · rw [show coB y = false from decide_eq_false hy]
        simp only [decide_eq_false hy, Bool.false_eq_true, if_false, Bool.and_false, Bool.false_and]
        exact Ev.now _
    · rw [show coB x = false from decide_eq_false hx]
      simp only [decide_eq_false hx, Bool.false_eq_true, if_false, Bool.false_and]
      exact Ev.now _
/-- The dots of a row from a column on, added to n. -/
def rowTo (l : List S48) (y : Nat) (n x : Nat) : Nat → Nat
  | 0 => n
  | d + 1 => if insideB l (x : Int) (y : Int) = true then rowTo l y (n + 1) (x + 1) d else rowTo l y n (x + 1) d
def rowsTo (l : List S48) (n y : Nat) : Nat → Nat
  | 0 => n
  | d + 1 => rowsTo l (rowTo l y n 0 32) (y + 1) d
theorem rowTo_le (l : List S48) (y : Nat) : ∀ (d n x : Nat), rowTo l y n x d ≤ n + d
  | 0, n, x => by simp [rowTo]
  | d + 1, n, x => by
    simp only [rowTo]
    split
    · have := rowTo_le l y d (n + 1) (x + 1)
      omega
    · have := rowTo_le l y d n (x + 1)
      omega
theorem impl_count_row (l : List S48) (y : Nat) (r : Int) : ∀ (d x n : Nat), x + d = 32 → n ≤ 1024 → n + d ≤ 1024 →
    Ev (fun k => impl_CountInside.l0 k l ((rowTo l y n x d : Nat) : Int) (wrap64 ((y : Int) + 1))) r → Ev (fun k => impl_CountInside.l1 k l (n : Int) (y : Int) (x : Int)) r := by
  intro d
  induction d with
  | zero =>
    intro x n hx hn hd hr
    refine Ev.step (fun k => impl_CountInside.l1.eq_2 _ _ _ _ k) ?_
    simp only [if_neg (show ¬ (x : Int) < 32 by omega)]
    exact hr
  | succ d ih =>
    intro x n hx hn hd hr
    refine Ev.step (fun k => impl_CountInside.l1.eq_2 _ _ _ _ k) ?_
    simp only [if_pos (show (x : Int) < 32 by omega)]
    refine Ev.bind (impl_inside l x y) ?_
    rw [wrap_succ x (by omega), wrap_succ n (by omega)]
    simp only [rowTo] at hr
    cases hi : insideB l (x : Int) (y : Int) with
    | true =>
      rw [hi] at hr
      simp only [if_true] at hr ⊢
      exact ih (x + 1) (n + 1) (by omega) (by omega) (by omega) hr
    | false =>
      rw [hi] at hr
      simp only [Bool.false_eq_true, if_false] at hr ⊢
      exact ih (x + 1) n (by omega) (by omega) (by omega) hr
theorem impl_count_rows (l : List S48) : ∀ (d y n : Nat), y + d = 32 → n + 32 * d ≤ 1024 →
    Ev (fun k => impl_CountInside.l0 k l (n : Int) (y : Int)) ((rowsTo l n y d : Nat) : Int) := by
  intro d
  induction d with
  | zero =>
    intro y n hy hn
    refine Ev.step (fun k => impl_CountInside.l0.eq_2 _ _ _ k) ?_
    simp only [if_neg (show ¬ (y : Int) < 32 by omega)]
    exact Ev.now _
  | succ d ih =>
    intro y n hy hn
    refine Ev.step (fun k => impl_CountInside.l0.eq_2 _ _ _ k) ?_
    simp only [if_pos (show (y : Int) < 32 by omega)]
    refine impl_count_row l y _ 32 0 n (by omega) (by omega) (by omega) ?_
    rw [wrap_succ y (by omega)]
    have := rowTo_le l y 32 n 0
    exact ih (y + 1) _ (by omega) (by omega)
theorem impl_count (l : List S48) : Ev (fun k => impl_CountInside.f k l) ((rowsTo l 0 0 32 : Nat) : Int) := by
  unfold impl_CountInside.f
  exact impl_count_rows l 32 0 0 (by omega) (by omega)
theorem spec_count_row (l : List S48) (y : Nat) (r : Int) (hl : l.length ≤ 1048576) : ∀ (d x n : Nat), x + d = 32 → n ≤ 1024 → n + d ≤ 1024 →
    Ev (fun k => spec_CountInside.l0 k l ((rowTo l y n x d : Nat) : Int) (wrap64 ((y : Int) + 1))) r → Ev (fun k => spec_CountInside.l1 k l (n : Int) (y : Int) (x : Int)) r := by
  intro d
  induction d with
  | zero =>
    intro x n hx hn hd hr
    refine Ev.step (fun k => spec_CountInside.l1.eq_2 _ _ _ _ k) ?_
    simp only [if_neg (show ¬ (x : Int) < 32 by omega)]
    exact hr
  | succ d ih =>
    intro x n hx hn hd hr
    refine Ev.step (fun k => spec_CountInside.l1.eq_2 _ _ _ _ k) ?_
    simp only [if_pos (show (x : Int) < 32 by omega)]
    refine Ev.bind (spec_inside l x y hl) ?_
    rw [wrap_succ x (by omega), wrap_succ n (by omega)]
    simp only [rowTo] at hr
    cases hi : insideB l (x : Int) (y : Int) with
    | true =>
      rw [hi] at hr
      simp only [if_true] at hr ⊢
      exact ih (x + 1) (n + 1) (by omega) (by omega) (by omega) hr
    | false =>
      rw [hi] at hr
      simp only [Bool.false_eq_true, if_false] at hr ⊢
      exact ih (x + 1) n (by omega) (by omega) (by omega) hr
theorem spec_count_rows (l : List S48) (hl : l.length ≤ 1048576) : ∀ (d y n : Nat), y + d = 32 → n + 32 * d ≤ 1024 →
    Ev (fun k => spec_CountInside.l0 k l (n : Int) (y : Int)) ((rowsTo l n y d : Nat) : Int) := by
  intro d
  induction d with
  | zero =>
    intro y n hy hn
    refine Ev.step (fun k => spec_CountInside.l0.eq_2 _ _ _ k) ?_
    simp only [if_neg (show ¬ (y : Int) < 32 by omega)]
    exact Ev.now _
  | succ d ih =>
    intro y n hy hn
    refine Ev.step (fun k => spec_CountInside.l0.eq_2 _ _ _ k) ?_
    simp only [if_pos (show (y : Int) < 32 by omega)]
    refine spec_count_row l y _ hl 32 0 n (by omega) (by omega) (by omega) ?_
    rw [wrap_succ y (by omega)]
    have := rowTo_le l y 32 n 0
    exact ih (y + 1) _ (by omega) (by omega)
theorem spec_count (l : List S48) (hl : l.length ≤ 1048576) : Ev (fun k => spec_CountInside.f k l) ((rowsTo l 0 0 32 : Nat) : Int) := by
  unfold spec_CountInside.f
  exact spec_count_rows l hl 32 0 0 (by omega) (by omega)
theorem FnExactCountInside (l : List S86) (hl : l.length ≤ 9223372036854775807) (_ : ∀ x ∈ l, (Lit.int .i64 x.f0).wf = true ∧ (Lit.int .i64 x.f1).wf = true) : ∃ k, laws_FnExactCountInside.f k l = some true := by
  refine Ev.rounds ?_
  simp only [laws_FnExactCountInside.f, szPoints l hl, Option.bind_some]
  by_cases h : (1048576 : Int) - l.length < 0
  · simp only [if_pos h, if_pos (show (-1 : Int) < 0 by omega)]
    exact Ev.now _
  · simp only [if_neg h]
    refine Ev.bind (toPoints l (by omega)) ?_
    refine Ev.bind (spec_count _ (by simp; omega)) ?_
    refine Ev.bind (toPoints l (by omega)) ?_
    refine Ev.bind (impl_count _) ?_
    simp only [if_true]
    refine Ev.bind (toPoints l (by omega)) ?_
    refine Ev.bind (eqPoints _ (by simp; omega)) ?_
    simp only [if_true]
    exact Ev.now _

end Go.Proofs.Ytgpiboajpolmoaa.Pure
