/- The program's AreaTwice returns what the reference's returns, for all arguments. This is its pure statement, over numbers and lists, as printed from the program; the row is built on it.
   Conditions: none. -/
import Derived.Test.YtgpiboajpolmoaaPFnExactAreaTwicex2
namespace Go.Proofs.Ytgpiboajpolmoaa.Pure
set_option linter.unusedSimpArgs false
set_option linter.unusedVariables false
open Go.RowKit Go.Proofs.Ytgpiboajpolmoaa.PFnExactAreaTwice Go.Proofs.YtgpiboajpolmoaaW.PrintWords Go.Proofs.YtgpiboajpolmoaaW.PrintLast

theorem wrap_id {x : Int} (h0 : -9223372036854775808 ≤ x) (h1 : x ≤ 9223372036854775807) : wrap64 x = x := by
  unfold wrap64
  omega
theorem wrap_succ (i : Nat) (h : i < 4611686018427387904) : wrap64 ((i : Int) + 1) = ((i + 1 : Nat) : Int) := by
  rw [wrap_id (by omega) (by omega)]
  omega
theorem rd_lt (l : List Int) (i : Nat) (h : i < l.length) : rd l (i : Int) = l[i] := by
  unfold rd
  rw [Int.toNat_natCast, List.getD_eq_getElem?_getD, List.getElem?_eq_getElem h]
  rfl
theorem set_take {α : Type} (l x : List α) (i : Nat) (hi : i < l.length) (hx : x.length = l.length) (h : x.take i = l.take i) :
    (x.set i l[i]).take (i + 1) = l.take (i + 1) := by
  rw [List.take_succ_eq_append_getElem (by simp; omega), List.take_succ_eq_append_getElem hi, List.getElem_set_self, List.take_set_of_le (Nat.le_refl i), h]
def cvPoint (x : S86) : S48 := ⟨x.f0, x.f1⟩
theorem rdlPoint_lt (l : List S86) (i : Nat) (h : i < l.length) : rd_T86 l (i : Int) = l[i] := by
  unfold rd_T86
  rw [Int.toNat_natCast, List.getD_eq_getElem?_getD, List.getElem?_eq_getElem h]
  rfl
theorem rdiPoint_lt (l : List S48) (i : Nat) (h : i < l.length) : rd_T48 l (i : Int) = l[i] := by
  unfold rd_T48
  rw [Int.toNat_natCast, List.getD_eq_getElem?_getD, List.getElem?_eq_getElem h]
  rfl
theorem toPoint_loop (l : List S86) (hl : l.length ≤ 1048576) : ∀ (d i : Nat) (x : List S48), i + d = l.length → x.length = l.length → x.take i = (l.map cvPoint).take i →
    Ev (fun k => laws_toPointS.l0 k l x (i : Int)) (l.map cvPoint) := by
  intro d
  induction d with
  | zero =>
    intro i x hi hx ht
    refine Ev.step (fun k => laws_toPointS.l0.eq_2 _ _ _ k) ?_
    simp only [if_neg (show ¬ (i : Int) < (l.length : Int) by omega)]
    rw [List.take_of_length_le (by omega), List.take_of_length_le (by simp; omega)] at ht
    subst ht
    exact Ev.now _
  | succ d ih =>
    intro i x hi hx ht
    refine Ev.step (fun k => laws_toPointS.l0.eq_2 _ _ _ k) ?_
    simp only [if_pos (show (i : Int) < (l.length : Int) by omega), if_pos (show (0 : Int) ≤ (i : Int) by omega), if_pos (show (i : Int) < (x.length : Int) by omega), laws_toPoint.f, Option.bind_some]
    rw [wrap_succ i (by omega), rdlPoint_lt l i (by omega), Int.toNat_natCast]
    refine ih (i + 1) _ (by omega) (by simp; omega) ?_
    have := set_take (l.map cvPoint) x i (by simp; omega) (by simp; omega) ht
    rw [List.getElem_map] at this
    exact this
theorem toPoints (l : List S86) (hl : l.length ≤ 1048576) : Ev (fun k => laws_toPointS.f k l) (l.map cvPoint) := by
  unfold laws_toPointS.f
  simp only [if_pos (show (0 : Int) ≤ (l.length : Int) by omega), Int.toNat_natCast, if_pos (show l.length ≤ 17592186044416 by omega)]
  exact toPoint_loop l hl l.length 0 _ (by omega) (by simp) (by simp)
theorem eqPoint_loop (l : List S48) (hl : l.length ≤ 1048577) : ∀ (d i : Nat), i + d = l.length →
    Ev (fun k => laws_eqPointS.l0 k l l (i : Int)) true := by
  intro d
  induction d with
  | zero =>
    intro i hi
    refine Ev.step (fun k => laws_eqPointS.l0.eq_2 _ _ _ k) ?_
    simp only [if_neg (show ¬ (i : Int) < (l.length : Int) by omega)]
    exact Ev.now _
  | succ d ih =>
    intro i hi
    refine Ev.step (fun k => laws_eqPointS.l0.eq_2 _ _ _ k) ?_
    simp only [if_pos (show (i : Int) < (l.length : Int) by omega), if_pos (show (0 : Int) ≤ (i : Int) by omega), laws_eqPoint.f, if_true, Option.bind_some]
    rw [wrap_succ i (by omega)]
    exact ih (i + 1) (by omega)
theorem eqPoints (l : List S48) (hl : l.length ≤ 1048577) : Ev (fun k => laws_eqPointS.f k l l) true := by
  unfold laws_eqPointS.f
  simp only [if_true]
  exact eqPoint_loop l hl l.length 0 (by omega)
theorem szPoints (l : List S86) (hl : l.length ≤ 9223372036854775807) : laws_szPointS.f l 1048576 = (some (if (1048576 : Int) - (l.length : Int) < 0 then (-1 : Int) else (1048576 : Int) - (l.length : Int)) : Option Int) := by
  unfold laws_szPointS.f
  rw [wrap_id (by omega) (by omega)]
  split <;> rfl
theorem spec_in (a b c : Int) : spec_l01In.f a b c = some (decide (b ≤ a ∧ a ≤ c)) := by
  unfold spec_l01In.f
  by_cases h : b ≤ a <;> simp [h]
theorem impl_in (a b c : Int) : impl_within.f a b c = some (decide (b ≤ a ∧ a ≤ c)) := by
  unfold impl_within.f
  by_cases h : b ≤ a <;> simp [h]
def inB (a b c : Int) : Bool := decide (b ≤ a ∧ a ≤ c)
theorem spec_coord (a : Int) : spec_l02In.f a = some (decide (-200 ≤ a ∧ a ≤ 200)) := by
  simp only [spec_l02In.f, spec_in, Option.bind_some]
theorem impl_coord (a : Int) : impl_coordOk.f a = some (decide (-200 ≤ a ∧ a ≤ 200)) := by
  simp only [impl_coordOk.f, impl_in, Option.bind_some]
theorem spec_point (a b : Int) : spec_PointOk.f a b = some (decide ((-200 ≤ a ∧ a ≤ 200) ∧ (-200 ≤ b ∧ b ≤ 200))) := by
  simp only [spec_PointOk.f, spec_coord, Option.bind_some]
  by_cases h : -200 ≤ a ∧ a ≤ 200
  · simp only [decide_eq_true h, if_true]
    congr 1
    exact decide_eq_decide.2 ⟨fun h' => ⟨h, h'⟩, fun h' => h'.2⟩
  · simp only [decide_eq_false h, Bool.false_eq_true, if_false]
    congr 1
    exact (decide_eq_false fun h' => h h'.1).symm
theorem impl_point (a b : Int) : impl_PointOk.f a b = some (decide ((-200 ≤ a ∧ a ≤ 200) ∧ (-200 ≤ b ∧ b ≤ 200))) := by
  have h : impl_PointOk.f a b = spec_PointOk.f a b := by
    simp only [impl_PointOk.f, spec_PointOk.f, spec_coord, impl_coord]
  rw [h, spec_point]
def ptB (p : S48) : Bool := decide ((-200 ≤ p.f0 ∧ p.f0 ≤ 200) ∧ (-200 ≤ p.f1 ∧ p.f1 ≤ 200))
def pathB (l : List S48) : Bool := decide (l.length ≤ 8) && l.all ptB
theorem spec_path_loop (l : List S48) (hl : l.length ≤ 1048576) : ∀ (d i : Nat), i + d = l.length →
    Ev (fun k => spec_l07Points.l0 k l (i : Int)) (decide (l.length ≤ 8) && (l.drop i).all ptB) := by
  intro d
  induction d with
  | zero =>
    intro i hi
    refine Ev.step (fun k => spec_l07Points.l0.eq_2 _ _ k) ?_
    simp only [if_neg (show ¬ (i : Int) < (l.length : Int) by omega)]
    rw [List.drop_of_length_le (by omega)]
    have e : decide ((l.length : Int) ≤ 8) = (decide (l.length ≤ 8) && List.all [] ptB) := by
      simp
      omega
    rw [e]
    exact Ev.now _
  | succ d ih =>
    intro i hi
    refine Ev.step (fun k => spec_l07Points.l0.eq_2 _ _ k) ?_
    simp only [if_pos (show (i : Int) < (l.length : Int) by omega), if_pos (show (0 : Int) ≤ (i : Int) by omega), spec_point, Option.bind_some]
    rw [wrap_succ i (by omega), rdiPoint_lt l i (by omega), List.drop_eq_getElem_cons (show i < l.length by omega), List.all_cons]
    change Ev (fun k => if ptB l[i] = true then spec_l07Points.l0 k l ((i + 1 : Nat) : Int) else some false) _
    cases hc : ptB l[i] with
    | true =>
      simp only [if_true, Bool.true_and]
      exact ih (i + 1) (by omega)
    | false =>
      simp only [Bool.false_and, Bool.and_false, Bool.false_eq_true, if_false]
      exact Ev.now _
theorem spec_path (l : List S48) (hl : l.length ≤ 1048576) : Ev (fun k => spec_l07Points.f k l) (pathB l) := by
  unfold spec_l07Points.f pathB
  simpa using spec_path_loop l hl l.length 0 (by omega)
theorem impl_points_loop (l : List S48) (hl : l.length ≤ 1048576) : ∀ (d i : Nat), i + d = l.length →
    Ev (fun k => impl_pointsOk.l0 k l (l.length : Int) (i : Int)) ((l.drop i).all ptB) := by
  intro d
  induction d with
  | zero =>
    intro i hi
    refine Ev.step (fun k => impl_pointsOk.l0.eq_2 _ _ _ k) ?_
    simp only [if_neg (show ¬ (i : Int) < (l.length : Int) by omega)]
    rw [List.drop_of_length_le (by omega)]
    exact Ev.now _
  | succ d ih =>
    intro i hi
    refine Ev.step (fun k => impl_pointsOk.l0.eq_2 _ _ _ k) ?_
    simp only [if_pos (show (i : Int) < (l.length : Int) by omega), if_pos (show (0 : Int) ≤ (i : Int) by omega), impl_point, Option.bind_some]
    rw [wrap_succ i (by omega), rdiPoint_lt l i (by omega), List.drop_eq_getElem_cons (show i < l.length by omega), List.all_cons]
    change Ev (fun k => if ptB l[i] = true then impl_pointsOk.l0 k l (l.length : Int) ((i + 1 : Nat) : Int) else some false) _
    cases hc : ptB l[i] with
    | true =>
      simp only [if_true, Bool.true_and]
      exact ih (i + 1) (by omega)
    | false =>
      simp only [Bool.false_and, Bool.false_eq_true, if_false]
      exact Ev.now _
theorem impl_points (l : List S48) (hl : l.length ≤ 1048576) : Ev (fun k => impl_pointsOk.f k l) (l.all ptB) := by
  unfold impl_pointsOk.f
  simpa using impl_points_loop l hl l.length 0 (by omega)
theorem impl_path (l : List S48) : Ev (fun k => impl_pathOk.f k l) (pathB l) := by
  unfold impl_pathOk.f pathB
  by_cases h : l.length ≤ 8
  · simp only [if_pos (show (l.length : Int) ≤ 8 by omega), decide_eq_true h, Bool.true_and]
    exact Ev.bind (impl_points l (by omega)) (Ev.now _)
  · simp only [if_neg (show ¬ (l.length : Int) ≤ 8 by omega), decide_eq_false h, Bool.false_and]
    exact Ev.now _
theorem tmod_nat (i n : Nat) : Int.tmod ((i : Nat) : Int) (n : Int) = ((i % n : Nat) : Int) := rfl
def areaTerm (l : List S48) (i : Nat) : Int :=
  let a := rd_T48 l (i : Int)
  let b := rd_T48 l (((i + 1) % l.length : Nat) : Int)
  wrap64 (wrap64 (a.f0 * b.f1) - wrap64 (b.f0 * a.f1))
def areaTo (l : List S48) : Nat → Int
  | 0 => 0
  | i + 1 => wrap64 (areaTo l i + areaTerm l i)
theorem wrap_mix (s p q : Int) : wrap64 (wrap64 (s + wrap64 p) - wrap64 q) = wrap64 (s + wrap64 (wrap64 p - wrap64 q)) := by
  unfold wrap64
  omega
def areaOf (l : List S48) : Int := if pathB l = true then areaTo l l.length else 0
theorem spec_area_loop (l : List S48) (hl : l.length ≤ 1048576) : ∀ (d i : Nat), i + d = l.length →
    Ev (fun k => spec_AreaTwice.l0 k l (areaTo l i) (i : Int)) (areaTo l l.length) := by
  intro d
  induction d with
  | zero =>
    intro i hi
    refine Ev.step (fun k => spec_AreaTwice.l0.eq_2 _ _ _ k) ?_
    simp only [if_neg (show ¬ (i : Int) < (l.length : Int) by omega)]
    rw [show i = l.length by omega]
    exact Ev.now _
  | succ d ih =>
    intro i hi
    have hm : (i + 1) % l.length < l.length := Nat.mod_lt _ (by omega)
    refine Ev.step (fun k => spec_AreaTwice.l0.eq_2 _ _ _ k) ?_
    rw [wrap_succ i (by omega), tmod_nat]
    simp only [if_pos (show (i : Int) < (l.length : Int) by omega), if_pos (show (0 : Int) ≤ (i : Int) by omega), if_neg (show ¬ (l.length : Int) = 0 by omega),
      if_pos (show (0 : Int) ≤ (((i + 1) % l.length : Nat) : Int) by omega), if_pos (show (((i + 1) % l.length : Nat) : Int) < (l.length : Int) by omega)]
    rw [wrap_mix]
    exact ih (i + 1) (by omega)
theorem spec_area (l : List S48) (hl : l.length ≤ 1048576) : Ev (fun k => spec_AreaTwice.f k l) (areaOf l) := by
  unfold spec_AreaTwice.f areaOf
  refine Ev.bind (spec_path l hl) ?_
  cases pathB l
  · simp only [Bool.false_eq_true, if_false]
    exact Ev.now _
  · simp only [if_true]
    exact spec_area_loop l hl l.length 0 (by omega)
theorem impl_area_loop (l : List S48) (hl : l.length ≤ 1048576) : ∀ (d i : Nat), i + d = l.length →
    Ev (fun k => impl_AreaTwice.l0 k l (areaTo l i) l (l.length : Int) (i : Int)) (areaTo l l.length) := by
  intro d
  induction d with
  | zero =>
    intro i hi
    refine Ev.step (fun k => impl_AreaTwice.l0.eq_2 _ _ _ _ _ k) ?_
    simp only [if_neg (show ¬ (i : Int) < (l.length : Int) by omega)]
    rw [show i = l.length by omega]
    exact Ev.now _
  | succ d ih =>
    intro i hi
    have hm : (i + 1) % l.length < l.length := Nat.mod_lt _ (by omega)
    refine Ev.step (fun k => impl_AreaTwice.l0.eq_2 _ _ _ _ _ k) ?_
    rw [wrap_succ i (by omega), tmod_nat]
    simp only [if_pos (show (i : Int) < (l.length : Int) by omega), if_pos (show (0 : Int) ≤ (i : Int) by omega), if_neg (show ¬ (l.length : Int) = 0 by omega),
      if_pos (show (0 : Int) ≤ (((i + 1) % l.length : Nat) : Int) by omega), if_pos (show (((i + 1) % l.length : Nat) : Int) < (l.length : Int) by omega)]
    exact ih (i + 1) (by omega)
theorem impl_area (l : List S48) : Ev (fun k => impl_AreaTwice.f k l) (areaOf l) := by
  unfold impl_AreaTwice.f areaOf
  refine Ev.bind (impl_path l) ?_
  cases h : pathB l
  · simp only [Bool.false_eq_true, if_false]
    exact Ev.now _
  · simp only [if_true]
    have h8 : l.length ≤ 8 := by
      unfold pathB at h
      simp at h
      exact h.1
    exact impl_area_loop l (by omega) l.length 0 (by omega)
theorem FnExactAreaTwice (l : List S86) (hl : l.length ≤ 9223372036854775807) (_ : ∀ x ∈ l, (Lit.int .i64 x.f0).wf = true ∧ (Lit.int .i64 x.f1).wf = true) : ∃ k, laws_FnExactAreaTwice.f k l = some true := by
  refine Ev.rounds ?_
  simp only [laws_FnExactAreaTwice.f, szPoints l hl, Option.bind_some]
  by_cases h : (1048576 : Int) - l.length < 0
  · simp only [if_pos h, if_pos (show (-1 : Int) < 0 by omega)]
    exact Ev.now _
  · simp only [if_neg h]
    refine Ev.bind (toPoints l (by omega)) ?_
    refine Ev.bind (spec_area _ (by simp; omega)) ?_
    refine Ev.bind (toPoints l (by omega)) ?_
    refine Ev.bind (impl_area _) ?_
    simp only [if_true]
    refine Ev.bind (toPoints l (by omega)) ?_
    refine Ev.bind (eqPoints _ (by simp; omega)) ?_
    simp only [if_true]
    exact Ev.now _

end Go.Proofs.Ytgpiboajpolmoaa.Pure
