/- The spans of a row contain exactly the dots inside the path. (P9) This is its pure statement, over numbers and lists, as printed from the program; the row is built on it.
   Conditions: none. -/
import Derived.Test.YtmgjdmmggdmheaaGFnSpansx4
namespace Go.Proofs.Ytmgjdmmggdmheaa.Pure
set_option linter.unusedSimpArgs false
set_option linter.unusedVariables false
open Go.RowKit Go.Proofs.Ytmgjdmmggdmheaa.GFnSpans Go.Proofs.YtmgjdmmggdmheaaW.PrintWords Go.Proofs.YtmgjdmmggdmheaaW.PrintLast

theorem wrap_id {x : Int} (h0 : -9223372036854775808 ≤ x) (h1 : x ≤ 9223372036854775807) : wrap64 x = x := by
  unfold wrap64
  omega
theorem wrap_succ (i : Nat) (h : i < 4611686018427387904) : wrap64 ((i : Int) + 1) = ((i + 1 : Nat) : Int) := by
  rw [wrap_id (by omega) (by omega)]
  omega
theorem rd_lt (l : List Int) (i : Nat) (h : i < l.length) : rd l (i : Int) = l[i] := by
  unfold rd
  rw [Int.toNat_natCast, List.getD_eq_getElem?_getD, List.getElem?_eq_getElem h]
  rfl
theorem set_take {α : Type} (l x : List α) (i : Nat) (hi : i < l.length) (hx : x.length = l.length) (h : x.take i = l.take i) :
    (x.set i l[i]).take (i + 1) = l.take (i + 1) := by
  rw [List.take_succ_eq_append_getElem (by simp; omega), List.take_succ_eq_append_getElem hi, List.getElem_set_self, List.take_set_of_le (Nat.le_refl i), h]
def allFrom (p : Nat → Bool) (n i : Nat) : Bool := (List.range' i (n - i)).all p
theorem all_end (p : Nat → Bool) (n : Nat) : allFrom p n n = true := by simp [allFrom]
theorem all_step (p : Nat → Bool) (n i : Nat) (h : i < n) : allFrom p n i = (p i && allFrom p n (i + 1)) := by
  unfold allFrom
  rw [show n - i = (n - (i + 1)) + 1 by omega, List.range'_succ, List.all_cons]
theorem all_iff (p : Nat → Bool) (n i : Nat) : allFrom p n i = true ↔ ∀ j, i ≤ j → j < n → p j = true := by
  unfold allFrom
  rw [List.all_eq_true]
  constructor
  · intro h j h1 h2
    exact h j (List.mem_range'_1.2 ⟨h1, by omega⟩)
  · intro h j hj
    have := List.mem_range'_1.1 hj
    exact h j this.1 (by omega)
theorem and_low (x : Int) : 0 ≤ Go.bits .and .i64 x 255 ∧ Go.bits .and .i64 x 255 ≤ 255 := by
  have h : ((BitVec.ofInt 64 x) &&& (BitVec.ofInt 64 255)).toNat ≤ 255 := by
    rw [BitVec.toNat_and]
    exact Nat.and_le_right
  have e : Go.bits .and .i64 x 255 = IntKind.i64.wrap ((((BitVec.ofInt 64 x) &&& (BitVec.ofInt 64 255)).toNat : Nat) : Int) := rfl
  rw [e]
  generalize ((BitVec.ofInt 64 x) &&& (BitVec.ofInt 64 255)).toNat = n at h
  have e2 : IntKind.i64.wrap ((n : Nat) : Int) = n := by
    simp only [IntKind.wrap, IntKind.bits, IntKind.signed]
    simp
    omega
  rw [e2]
  omega
theorem draw_new (l : List Int) (hl : l.length ≤ 1048576) : ∃ h, Ev (fun k => spec_l01New.f k l) (l, 0, h) := by
  unfold spec_l01New.f
  have loop : ∀ (d i : Nat) (h : Int), i + d = l.length → ∃ h', Ev (fun k => spec_l01New.l0 k l h (i : Int)) (l, 0, h') := by
    intro d
    induction d with
    | zero =>
      intro i h hi
      refine ⟨h, Ev.step (fun k => spec_l01New.l0.eq_2 _ _ _ k) ?_⟩
      simp only [if_neg (show ¬ (i : Int) < (l.length : Int) by omega)]
      exact Ev.now _
    | succ d ih =>
      intro i h hi
      by_cases hc : (i : Int) < 4000
      · obtain ⟨h', hh⟩ := ih (i + 1) (Go.bits .and .i64 (wrap64 ((wrap64 ((wrap64 (h * 131)) + (wrap64 (rd l i)))) + 7)) 1073741823) (by omega)
        refine ⟨h', Ev.step (fun k => spec_l01New.l0.eq_2 _ _ _ k) ?_⟩
        simp only [if_pos (show (i : Int) < (l.length : Int) by omega), if_pos hc, if_pos (show (0 : Int) ≤ (i : Int) by omega)]
        rw [wrap_succ i (by omega)]
        exact hh
      · refine ⟨h, Ev.step (fun k => spec_l01New.l0.eq_2 _ _ _ k) ?_⟩
        simp only [if_pos (show (i : Int) < (l.length : Int) by omega), if_neg hc]
        exact Ev.now _
  exact loop l.length 0 _ (by omega)
/-- A place in the bytes of a draw. -/
def Cur (l : List Int) (i : Int) : Prop := 0 ≤ i ∧ i ≤ (l.length : Int)
theorem draw_byte (l : List Int) (hl : l.length ≤ 1048576) (i h : Int) (hi : Cur l i) : ∃ v i' h', spec_l01Byte.f l i h = some (v, i', h') ∧ Cur l i' ∧ 0 ≤ v ∧ v ≤ 255 := by
  unfold spec_l01Byte.f
  unfold Cur at *
  by_cases hc : i < (l.length : Int)
  · rw [if_pos hc, if_pos hi.1]
    exact ⟨_, _, _, rfl, by rw [wrap_id (by omega) (by omega)]; omega, (and_low _).1, (and_low _).2⟩
  · rw [if_neg hc]
    exact ⟨_, _, _, rfl, hi, (and_low _).1, (and_low _).2⟩
theorem tmod_low (v n : Int) (h0 : 0 ≤ v) (hn : 0 < n) : 0 ≤ Int.tmod v n ∧ Int.tmod v n < n :=
  ⟨Int.tmod_nonneg n h0, Int.tmod_lt_of_pos v hn⟩
theorem draw_below (l : List Int) (hl : l.length ≤ 1048576) (i h n : Int) (hi : Cur l i) (hn : 0 < n) : ∃ v i' h', spec_l01Below.f l i h n = some (v, i', h') ∧ Cur l i' ∧ 0 ≤ v ∧ v < n := by
  unfold spec_l01Below.f
  rw [if_neg (by omega)]
  by_cases hc : n ≤ 256
  · rw [if_pos hc]
    obtain ⟨v, i1, h1, e, c1, v0, v1⟩ := draw_byte l hl i h hi
    rw [e]
    simp only [Option.bind_some]
    rw [if_neg (by omega)]
    exact ⟨_, _, _, rfl, c1, tmod_low v n v0 hn⟩
  · rw [if_neg hc]
    obtain ⟨a, i1, h1, e1, c1, a0, a1⟩ := draw_byte l hl i h hi
    obtain ⟨b, i2, h2, e2, c2, b0, b1⟩ := draw_byte l hl i1 h1 c1
    obtain ⟨c, i3, h3, e3, c3, x0, x1⟩ := draw_byte l hl i2 h2 c2
    obtain ⟨d, i4, h4, e4, c4, d0, d1⟩ := draw_byte l hl i3 h3 c3
    simp only [e1, e2, e3, e4, Option.bind_some]
    rw [if_neg (by omega)]
    refine ⟨_, _, _, rfl, c4, ?_⟩
    rw [wrap_id (x := a * 16777216) (by omega) (by omega), wrap_id (x := b * 65536) (by omega) (by omega), wrap_id (x := c * 256) (by omega) (by omega),
      wrap_id (x := a * 16777216 + b * 65536) (by omega) (by omega), wrap_id (x := a * 16777216 + b * 65536 + c * 256) (by omega) (by omega), wrap_id (by omega) (by omega)]
    exact tmod_low _ n (by omega) hn
theorem draw_pick (l : List Int) (hl : l.length ≤ 1048576) (i h : Int) (m : List Int) (hi : Cur l i) (hm : 0 < m.length) : ∃ v i' h', spec_l01PickInt.f l i h m = some (v, i', h') ∧ Cur l i' ∧ v ∈ m := by
  unfold spec_l01PickInt.f
  obtain ⟨v, i1, h1, e, c1, v0, v1⟩ := draw_below l hl i h (m.length : Int) hi (by omega)
  rw [e]
  simp only [Option.bind_some]
  rw [if_pos v0, if_pos v1]
  refine ⟨_, _, _, rfl, c1, ?_⟩
  obtain ⟨n, rfl⟩ := Int.eq_ofNat_of_zero_le v0
  rw [rd_lt m n (by omega)]
  exact List.getElem_mem _
theorem draw_co (l : List Int) (hl : l.length ≤ 1048576) (i h : Int) (hi : Cur l i) : ∃ a b v i1 h1 i2 h2 i3 h3, spec_l01Below.f l i h 33 = some (a, i1, h1) ∧ spec_l01Below.f l i1 h1 41 = some (b, i2, h2) ∧
    spec_l01PickInt.f l i2 h2 (([0, 32, a, wrap64 (b - 4)] : List Int)) = some (v, i3, h3) ∧ Cur l i3 ∧ -4 ≤ v ∧ v ≤ 36 := by
  obtain ⟨a, i1, h1, e1, c1, a0, a1⟩ := draw_below l hl i h 33 hi (by omega)
  obtain ⟨b, i2, h2, e2, c2, b0, b1⟩ := draw_below l hl i1 h1 41 c1 (by omega)
  obtain ⟨v, i3, h3, e3, c3, hv⟩ := draw_pick l hl i2 h2 [0, 32, a, wrap64 (b - 4)] c2 (by simp)
  refine ⟨a, b, v, i1, h1, i2, h2, i3, h3, e1, e2, e3, c3, ?_⟩
  rw [wrap_id (x := b - 4) (by omega) (by omega)] at hv
  simp only [List.mem_cons, List.not_mem_nil, or_false] at hv
  omega
theorem draw_point (l : List Int) (hl : l.length ≤ 1048576) (i h : Int) (hi : Cur l i) : ∃ x y i' h', spec_l02Point.f l i h = some (x, y, i', h') ∧ Cur l i' ∧ (-4 ≤ x ∧ x ≤ 36) ∧ (-4 ≤ y ∧ y ≤ 36) := by
  obtain ⟨a, b, v, i1, h1, i2, h2, i3, h3, e1, e2, e3, c3, v0, v1⟩ := draw_co l hl i h hi
  obtain ⟨a', b', v', i4, h4, i5, h5, i6, h6, e4, e5, e6, c6, w0, w1⟩ := draw_co l hl i3 h3 c3
  refine ⟨v, v', i6, h6, ?_, c6, ⟨v0, v1⟩, ⟨w0, w1⟩⟩
  simp only [spec_l02Point.f, e1, e2, e3, e4, e5, e6, Option.bind_some]
def ptB (p : S64) : Bool := decide ((-200 ≤ p.f0 ∧ p.f0 ≤ 200) ∧ (-200 ≤ p.f1 ∧ p.f1 ≤ 200))
def pathB (l : List S64) : Bool := decide (l.length ≤ 8) && l.all ptB
def nearB (p : S64) : Prop := (-4 ≤ p.f0 ∧ p.f0 ≤ 36) ∧ (-4 ≤ p.f1 ∧ p.f1 ≤ 36)
theorem draw_shape (l : List Int) (hl : l.length ≤ 1048576) : ∃ q, Ev (fun k => spec_DrawShape.f k l) q ∧ 3 ≤ q.length ∧ q.length ≤ 6 ∧ ∀ p ∈ q, nearB p := by
  obtain ⟨h0, e0⟩ := draw_new l hl
  have c0 : Cur l 0 := ⟨by omega, by omega⟩
  obtain ⟨b, i1, h1, e1, c1, b0, b1⟩ := draw_below l hl 0 h0 4 c0 (by omega)
  have loop : ∀ (d j : Nat) (i h : Int) (q : List S64), Cur l i → (j : Int) + d = 3 + b → q.length = j → (∀ p ∈ q, nearB p) →
      ∃ q' i' h', Ev (fun k => spec_l08Path.l0 k q (3 + b) (j : Int) l i h) (q', i', h') ∧ q'.length = j + d ∧ (∀ p ∈ q', nearB p) := by
    intro d
    induction d with
    | zero =>
      intro j i h q hc hj hq hp
      refine ⟨q, i, h, Ev.step (fun k => spec_l08Path.l0.eq_2 _ _ _ _ _ _ k) ?_, hq, hp⟩
      simp only [if_neg (show ¬ (j : Int) < 3 + b by omega)]
      exact Ev.now _
    | succ d ih =>
      intro j i h q hc hj hq hp
      obtain ⟨x, y, i2, h2, e2, c2, hx, hy⟩ := draw_point l hl i h hc
      obtain ⟨q', i', h', e', hl', hp'⟩ := ih (j + 1) i2 h2 (q ++ [⟨x, y⟩]) c2 (by omega) (by simp; omega) (by
        intro p hm
        rw [List.mem_append] at hm
        rcases hm with hm | hm
        · exact hp p hm
        · rw [List.mem_singleton] at hm
          subst hm
          exact ⟨hx, hy⟩)
      refine ⟨q', i', h', Ev.step (fun k => spec_l08Path.l0.eq_2 _ _ _ _ _ _ k) ?_, by omega, hp'⟩
      simp only [if_pos (show (j : Int) < 3 + b by omega), e2, Option.bind_some, if_pos (show q.length < 8796093022208 by omega)]
      rw [wrap_succ j (by omega)]
      exact e'
  obtain ⟨n, hn⟩ := Int.eq_ofNat_of_zero_le b0
  obtain ⟨q, i', h', e, hlen, hp⟩ := loop (3 + n) 0 i1 h1 [] c1 (by omega) rfl (by simp)
  refine ⟨q, ?_, by omega, by omega, hp⟩
  unfold spec_DrawShape.f
  refine Ev.bind e0 ?_
  refine Ev.bind (a := (q, i', h')) ?_ (Ev.now _)
  unfold spec_l08Path.f
  simp only [e1, Option.bind_some]
  rw [wrap_id (x := 3 + b) (by omega) (by omega)]
  exact e
theorem near_path (q : List S64) (h6 : q.length ≤ 6) (hp : ∀ p ∈ q, nearB p) : pathB q = true := by
  unfold pathB
  rw [decide_eq_true (by omega), Bool.true_and, List.all_eq_true]
  intro p hm
  have := hp p hm
  unfold nearB at this
  exact decide_eq_true (by omega)
theorem draw_places (l : List Int) (hl : l.length ≤ 1048576) : ∃ q, Ev (fun k => spec_DrawPlaces.f k l) q ∧ q.length = 12 ∧ ∀ p ∈ q, 0 ≤ p ∧ p < 10000 := by
  obtain ⟨h0, e0⟩ := draw_new l hl
  have loop : ∀ (d j : Nat) (i h : Int) (q : List Int), Cur l i → j + d = 12 → q.length = j → (∀ p ∈ q, 0 ≤ p ∧ p < 10000) →
      ∃ q', Ev (fun k => spec_DrawPlaces.l0 k q (j : Int) l i h) q' ∧ q'.length = 12 ∧ (∀ p ∈ q', 0 ≤ p ∧ p < 10000) := by
    intro d
    induction d with
    | zero =>
      intro j i h q hc hj hq hp
      refine ⟨q, Ev.step (fun k => spec_DrawPlaces.l0.eq_2 _ _ _ _ _ k) ?_, by omega, hp⟩
      simp only [if_neg (show ¬ (j : Int) < 12 by omega)]
      exact Ev.now _
    | succ d ih =>
      intro j i h q hc hj hq hp
      obtain ⟨v, i2, h2, e2, c2, v0, v1⟩ := draw_below l hl i h 10000 hc (by omega)
      obtain ⟨q', e', hl', hp'⟩ := ih (j + 1) i2 h2 (q ++ [v]) c2 (by omega) (by simp; omega) (by
        intro p hm
        rw [List.mem_append] at hm
        rcases hm with hm | hm
        · exact hp p hm
        · rw [List.mem_singleton] at hm
          subst hm
          exact ⟨v0, v1⟩)
      refine ⟨q', Ev.step (fun k => spec_DrawPlaces.l0.eq_2 _ _ _ _ _ k) ?_, hl', hp'⟩
      simp only [if_pos (show (j : Int) < 12 by omega), e2, Option.bind_some, if_pos (show q.length < 17592186044416 by omega)]
      rw [wrap_succ j (by omega)]
      exact e'
  obtain ⟨q, e, hlen, hp⟩ := loop 12 0 0 h0 [] ⟨by omega, by omega⟩ (by omega) rfl (by simp)
  refine ⟨q, ?_, hlen, hp⟩
  unfold spec_DrawPlaces.f
  exact Ev.bind e0 e
theorem place_at (q : List Int) (hq : q.length = 12) (hp : ∀ p ∈ q, 0 ≤ p ∧ p < 10000) (i : Nat) (hi : i < 12) : 0 ≤ rd q (i : Int) ∧ rd q (i : Int) < 10000 := by
  rw [rd_lt q i (by omega)]
  exact hp _ (List.getElem_mem _)
theorem impl_in (a b c : Int) : impl_within.f a b c = some (decide (b ≤ a ∧ a ≤ c)) := by
  unfold impl_within.f
  by_cases h : b ≤ a <;> simp [h]
theorem impl_coord (a : Int) : impl_coordOk.f a = some (decide (-200 ≤ a ∧ a ≤ 200)) := by
  simp only [impl_coordOk.f, impl_in, Option.bind_some]
theorem impl_point (a b : Int) : impl_PointOk.f a b = some (decide ((-200 ≤ a ∧ a ≤ 200) ∧ (-200 ≤ b ∧ b ≤ 200))) := by
  simp only [impl_PointOk.f, impl_coord, Option.bind_some]
  by_cases h : -200 ≤ a ∧ a ≤ 200
  · simp only [decide_eq_true h, if_true]
    congr 1
    exact decide_eq_decide.2 ⟨fun h' => ⟨h, h'⟩, fun h' => h'.2⟩
  · simp only [decide_eq_false h, Bool.false_eq_true, if_false]
    congr 1
    exact (decide_eq_false fun h' => h h'.1).symm
theorem rdiPoint_lt (l : List S64) (i : Nat) (h : i < l.length) : rd_T64 l (i : Int) = l[i] := by
  unfold rd_T64
  rw [Int.toNat_natCast, List.getD_eq_getElem?_getD, List.getElem?_eq_getElem h]
  rfl
theorem rdiSpan_lt (l : List S84) (i : Nat) (h : i < l.length) : rd_T84 l (i : Int) = l[i] := by
  unfold rd_T84
  rw [Int.toNat_natCast, List.getD_eq_getElem?_getD, List.getElem?_eq_getElem h]
  rfl
theorem impl_points_loop (l : List S64) (hl : l.length ≤ 1048576) : ∀ (d i : Nat), i + d = l.length →
    Ev (fun k => impl_pointsOk.l0 k l (l.length : Int) (i : Int)) ((l.drop i).all ptB) := by
  intro d
  induction d with
  | zero =>
    intro i hi
    refine Ev.step (fun k => impl_pointsOk.l0.eq_2 _ _ _ k) ?_
    simp only [if_neg (show ¬ (i : Int) < (l.length : Int) by omega)]
    rw [List.drop_of_length_le (by omega)]
    exact Ev.now _
  | succ d ih =>
    intro i hi
    refine Ev.step (fun k => impl_pointsOk.l0.eq_2 _ _ _ k) ?_
    simp only [if_pos (show (i : Int) < (l.length : Int) by omega), if_pos (show (0 : Int) ≤ (i : Int) by omega), impl_point, Option.bind_some]
    rw [wrap_succ i (by omega), rdiPoint_lt l i (by omega), List.drop_eq_getElem_cons (show i < l.length by omega), List.all_cons]
    change Ev (fun k => if ptB l[i] = true then impl_pointsOk.l0 k l (l.length : Int) ((i + 1 : Nat) : Int) else some false) _
    cases hc : ptB l[i] with
    | true =>
      simp only [if_true, Bool.true_and]
      exact ih (i + 1) (by omega)
    | false =>
      simp only [Bool.false_and, Bool.false_eq_true, if_false]
      exact Ev.now _
theorem impl_points (l : List S64) (hl : l.length ≤ 1048576) : Ev (fun k => impl_pointsOk.f k l) (l.all ptB) := by
  unfold impl_pointsOk.f
  simpa using impl_points_loop l hl l.length 0 (by omega)
theorem impl_path (l : List S64) : Ev (fun k => impl_pathOk.f k l) (pathB l) := by
  unfold impl_pathOk.f pathB
  by_cases h : l.length ≤ 8
  · simp only [if_pos (show (l.length : Int) ≤ 8 by omega), decide_eq_true h, Bool.true_and]
    exact Ev.bind (impl_points l (by omega)) (Ev.now _)
  · simp only [if_neg (show ¬ (l.length : Int) ≤ 8 by omega), decide_eq_false h, Bool.false_and]
    exact Ev.now _
theorem tmod_nat (i n : Nat) : Int.tmod ((i : Nat) : Int) (n : Int) = ((i % n : Nat) : Int) := rfl
def xorUpTo (f : Nat → Bool) : Nat → Bool
  | 0 => false
  | n + 1 => xorUpTo f n ^^ f n
def flips (g : Nat → Bool) : Nat → Nat
  | 0 => 0
  | n + 1 => flips g n + (if g n = g (n + 1) then 0 else 1)
theorem flips_xor (f g : Nat → Bool) (n : Nat) : flips (fun x => f x ^^ g x) n ≤ flips f n + flips g n := by
  induction n with
  | zero => simp [flips]
  | succ n ih =>
    simp only [flips]
    have h : (if (f n ^^ g n) = (f (n + 1) ^^ g (n + 1)) then 0 else 1) ≤ (if f n = f (n + 1) then 0 else 1) + (if g n = g (n + 1) then 0 else 1) := by
      cases f n <;> cases f (n + 1) <;> cases g n <;> cases g (n + 1) <;> simp
    omega
theorem flips_false (n : Nat) : flips (fun _ => false) n = 0 := by
  induction n with
  | zero => rfl
  | succ n ih => simp [flips, ih]
theorem flips_down (g : Nat → Bool) (h : ∀ x, g (x + 1) = true → g x = true) (n : Nat) : flips g n + (g n).toNat ≤ 1 := by
  induction n with
  | zero =>
    simp only [flips]
    cases g 0 <;> simp
  | succ n ih =>
    simp only [flips]
    have := h n
    cases h0 : g n <;> cases h1 : g (n + 1) <;> simp_all
theorem flips_many (c : Nat → Nat → Bool) (h : ∀ i x, c i (x + 1) = true → c i x = true) (n : Nat) : ∀ m, flips (fun x => xorUpTo (fun i => c i x) m) n ≤ m
  | 0 => by simp [xorUpTo, flips_false]
  | m + 1 => by
    have h1 := flips_many c h n m
    have h2 := flips_xor (fun x => xorUpTo (fun i => c i x) m) (c m) n
    have h3 := flips_down (c m) (h m) n
    simp only [xorUpTo]
    omega
theorem flips_shift (g : Nat → Bool) (n : Nat) : flips g (n + 1) = (if g 0 = g 1 then 0 else 1) + flips (fun x => g (x + 1)) n := by
  induction n with
  | zero => simp [flips]
  | succ n ih =>
    rw [flips, ih]
    simp only [flips]
    omega
theorem xor_pairs (s : Nat → Bool) : ∀ m, xorUpTo (fun i => s i ^^ s (i + 1)) m = (s 0 ^^ s m)
  | 0 => by simp [xorUpTo]
  | m + 1 => by
    rw [xorUpTo, xor_pairs s m]
    cases s 0 <;> cases s m <;> cases s (m + 1) <;> rfl
theorem xor_congr (f g : Nat → Bool) : ∀ m, (∀ i, i < m → f i = g i) → xorUpTo f m = xorUpTo g m
  | 0, _ => rfl
  | m + 1, h => by rw [xorUpTo, xorUpTo, xor_congr f g m (fun i hi => h i (by omega)), h m (by omega)]
/-- Round a closed row, the changes cancel. -/
theorem xor_ring (s : Nat → Bool) (m : Nat) : xorUpTo (fun i => s i ^^ s ((i + 1) % m)) m = false := by
  cases m with
  | zero => rfl
  | succ m =>
    rw [xorUpTo, Nat.mod_self]
    rw [xor_congr _ (fun i => s i ^^ s (i + 1)) m (fun i hi => by rw [Nat.mod_eq_of_lt (by omega)]), xor_pairs]
    cases s 0 <;> cases s m <;> rfl
theorem mul_bound (a b A B : Int) (h1 : -A ≤ a) (h2 : a ≤ A) (h3 : -B ≤ b) (h4 : b ≤ B) : -(A * B) ≤ a * b ∧ a * b ≤ A * B := by
  have e1 : 0 ≤ (A - a) * (B + b) := Int.mul_nonneg (by omega) (by omega)
  have e2 : 0 ≤ (A + a) * (B - b) := Int.mul_nonneg (by omega) (by omega)
  have e3 : 0 ≤ (A - a) * (B - b) := Int.mul_nonneg (by omega) (by omega)
  have e4 : 0 ≤ (A + a) * (B + b) := Int.mul_nonneg (by omega) (by omega)
  grind
/-- Whether a side passes on the right of a dot's center, at its height. -/
def crossB (ax ay bx b_y x y : Int) : Bool :=
  if decide (ay > y) = decide (b_y > y) then false
  else if b_y - ay < 0 then decide (2 * ax * (b_y - ay) + (2 * y + 1 - 2 * ay) * (bx - ax) < (2 * x + 1) * (b_y - ay))
  else decide (2 * ax * (b_y - ay) + (2 * y + 1 - 2 * ay) * (bx - ax) > (2 * x + 1) * (b_y - ay))
theorem impl_cross (ax ay bx b_y x y : Int) (h1 : -200 ≤ ax ∧ ax ≤ 200) (h2 : -200 ≤ ay ∧ ay ≤ 200) (h3 : -200 ≤ bx ∧ bx ≤ 200) (h4 : -200 ≤ b_y ∧ b_y ≤ 200) (h5 : -200 ≤ x ∧ x ≤ 200) (h6 : -200 ≤ y ∧ y ≤ 200) :
    impl_crosses.f ax ay bx b_y x y = some (crossB ax ay bx b_y x y) := by
  have m1 := mul_bound (2 * ax) (b_y - ay) 400 400 (by omega) (by omega) (by omega) (by omega)
  have m2 := mul_bound (2 * y + 1 - 2 * ay) (bx - ax) 801 400 (by omega) (by omega) (by omega) (by omega)
  have m3 := mul_bound (2 * x + 1) (b_y - ay) 401 400 (by omega) (by omega) (by omega) (by omega)
  unfold impl_crosses.f crossB
  rw [wrap_id (x := b_y - ay) (by omega) (by omega), wrap_id (x := 2 * ax) (by omega) (by omega), wrap_id (x := 2 * y) (by omega) (by omega), wrap_id (x := 2 * y + 1) (by omega) (by omega),
    wrap_id (x := 2 * ay) (by omega) (by omega), wrap_id (x := 2 * y + 1 - 2 * ay) (by omega) (by omega), wrap_id (x := bx - ax) (by omega) (by omega), wrap_id (x := 2 * x) (by omega) (by omega),
    wrap_id (x := 2 * x + 1) (by omega) (by omega)]
  generalize 2 * ax * (b_y - ay) = p at *
  generalize (2 * y + 1 - 2 * ay) * (bx - ax) = q at *
  generalize (2 * x + 1) * (b_y - ay) = r at *
  rw [wrap_id (x := p) (by omega) (by omega), wrap_id (x := q) (by omega) (by omega), wrap_id (x := r) (by omega) (by omega), wrap_id (x := p + q) (by omega) (by omega)]
  by_cases h : decide (ay > y) = decide (b_y > y)
  · rw [if_pos (by rw [h]; exact beq_self_eq_true _), if_pos h]
  · rw [if_neg (by rw [beq_iff_eq]; exact h), if_neg h]
    split <;> rfl
theorem cross_mono (ax ay bx b_y x y : Int) (h : crossB ax ay bx b_y (x + 1) y = true) : crossB ax ay bx b_y x y = true := by
  unfold crossB at *
  by_cases hc : decide (ay > y) = decide (b_y > y)
  · rw [if_pos hc] at h
    cases h
  · rw [if_neg hc] at h ⊢
    have e : (2 * (x + 1) + 1) * (b_y - ay) = (2 * x + 1) * (b_y - ay) + 2 * (b_y - ay) := by grind
    by_cases hd : b_y - ay < 0
    · rw [if_pos hd, decide_eq_true_eq] at h ⊢
      omega
    · rw [if_neg hd, decide_eq_true_eq] at h ⊢
      omega
theorem mean_low (ax bx u v m : Int) (h1 : m ≤ ax) (h2 : m ≤ bx) (hu : 0 ≤ u) (hv : 0 ≤ v) : m * (u + v) ≤ ax * u + bx * v := by
  have a := Int.mul_le_mul_of_nonneg_right h1 hu
  have b := Int.mul_le_mul_of_nonneg_right h2 hv
  rw [Int.mul_add]
  omega
theorem mean_high (ax bx u v m : Int) (h1 : ax ≤ m) (h2 : bx ≤ m) (hu : 0 ≤ u) (hv : 0 ≤ v) : ax * u + bx * v ≤ m * (u + v) := by
  have a := Int.mul_le_mul_of_nonneg_right h1 hu
  have b := Int.mul_le_mul_of_nonneg_right h2 hv
  rw [Int.mul_add]
  omega
theorem cross_low (ax ay bx b_y x y : Int) (h1 : -4 ≤ ax) (h2 : -4 ≤ bx) (hx : x ≤ -5) : crossB ax ay bx b_y x y = (decide (ay > y) ^^ decide (b_y > y)) := by
  unfold crossB
  by_cases hc : decide (ay > y) = decide (b_y > y)
  · rw [if_pos hc, hc, Bool.xor_self]
  · rw [if_neg hc]
    have hr : (decide (ay > y) ^^ decide (b_y > y)) = true := by
      revert hc
      cases decide (ay > y) <;> cases decide (b_y > y) <;> simp
    rw [hr]
    by_cases hd : b_y - ay < 0
    · have ha : ay > y ∧ ¬ b_y > y := by
        by_cases k : ay > y
        · refine ⟨k, fun k2 => hc ?_⟩
          rw [decide_eq_true k, decide_eq_true k2]
        · exfalso
          apply hc
          rw [decide_eq_false k, decide_eq_false (by omega)]
      rw [if_pos hd, decide_eq_true_eq]
      have m := mean_low ax bx (2 * y + 1 - 2 * b_y) (2 * ay - (2 * y + 1)) (-4) h1 h2 (by omega) (by omega)
      have e : 2 * ax * (b_y - ay) + (2 * y + 1 - 2 * ay) * (bx - ax) = -(ax * (2 * y + 1 - 2 * b_y) + bx * (2 * ay - (2 * y + 1))) := by grind
      have e2 : (-4 : Int) * ((2 * y + 1 - 2 * b_y) + (2 * ay - (2 * y + 1))) = 8 * (b_y - ay) := by grind
      have m2 : (-9 : Int) * (b_y - ay) ≤ (2 * x + 1) * (b_y - ay) := by
        have := Int.mul_le_mul_of_nonneg_right (show 2 * x + 1 ≤ -9 by omega) (show 0 ≤ ay - b_y by omega)
        have e3 : (2 * x + 1) * (ay - b_y) = -((2 * x + 1) * (b_y - ay)) := by grind
        omega
      omega
    · have ha : ¬ ay > y ∧ b_y > y := by
        by_cases k : ay > y
        · exfalso
          apply hc
          rw [decide_eq_true k, decide_eq_true (by omega)]
        · refine ⟨k, ?_⟩
          by_cases k2 : b_y > y
          · exact k2
          · exfalso
            apply hc
            rw [decide_eq_false k, decide_eq_false k2]
      rw [if_neg hd, decide_eq_true_eq]
      have m := mean_low ax bx (2 * b_y - (2 * y + 1)) (2 * y + 1 - 2 * ay) (-4) h1 h2 (by omega) (by omega)
      have e : 2 * ax * (b_y - ay) + (2 * y + 1 - 2 * ay) * (bx - ax) = ax * (2 * b_y - (2 * y + 1)) + bx * (2 * y + 1 - 2 * ay) := by grind
      have e2 : (-4 : Int) * ((2 * b_y - (2 * y + 1)) + (2 * y + 1 - 2 * ay)) = -8 * (b_y - ay) := by grind
      have m2 := Int.mul_le_mul_of_nonneg_right (show 2 * x + 1 ≤ -9 by omega) (show 0 ≤ b_y - ay by omega)
      omega
theorem cross_high (ax ay bx b_y x y : Int) (h1 : ax ≤ 36) (h2 : bx ≤ 36) (hx : 36 ≤ x) : crossB ax ay bx b_y x y = false := by
  unfold crossB
  by_cases hc : decide (ay > y) = decide (b_y > y)
  · rw [if_pos hc]
  · rw [if_neg hc]
    by_cases hd : b_y - ay < 0
    · have ha : ay > y ∧ ¬ b_y > y := by
        by_cases k : ay > y
        · refine ⟨k, fun k2 => hc ?_⟩
          rw [decide_eq_true k, decide_eq_true k2]
        · exfalso
          apply hc
          rw [decide_eq_false k, decide_eq_false (by omega)]
      rw [if_pos hd, decide_eq_false_iff_not]
      have m := mean_high ax bx (2 * y + 1 - 2 * b_y) (2 * ay - (2 * y + 1)) 36 h1 h2 (by omega) (by omega)
      have e : 2 * ax * (b_y - ay) + (2 * y + 1 - 2 * ay) * (bx - ax) = -(ax * (2 * y + 1 - 2 * b_y) + bx * (2 * ay - (2 * y + 1))) := by grind
      have e2 : (36 : Int) * ((2 * y + 1 - 2 * b_y) + (2 * ay - (2 * y + 1))) = -72 * (b_y - ay) := by grind
      have m2 : (2 * x + 1) * (b_y - ay) ≤ 73 * (b_y - ay) := by
        have := Int.mul_le_mul_of_nonneg_right (show 73 ≤ 2 * x + 1 by omega) (show 0 ≤ ay - b_y by omega)
        have e3 : (2 * x + 1) * (ay - b_y) = -((2 * x + 1) * (b_y - ay)) := by grind
        omega
      omega
    · have ha : ¬ ay > y ∧ b_y > y := by
        by_cases k : ay > y
        · exfalso
          apply hc
          rw [decide_eq_true k, decide_eq_true (by omega)]
        · refine ⟨k, ?_⟩
          by_cases k2 : b_y > y
          · exact k2
          · exfalso
            apply hc
            rw [decide_eq_false k, decide_eq_false k2]
      rw [if_neg hd, decide_eq_false_iff_not]
      have m := mean_high ax bx (2 * b_y - (2 * y + 1)) (2 * y + 1 - 2 * ay) 36 h1 h2 (by omega) (by omega)
      have e : 2 * ax * (b_y - ay) + (2 * y + 1 - 2 * ay) * (bx - ax) = ax * (2 * b_y - (2 * y + 1)) + bx * (2 * y + 1 - 2 * ay) := by grind
      have e2 : (36 : Int) * ((2 * b_y - (2 * y + 1)) + (2 * y + 1 - 2 * ay)) = 72 * (b_y - ay) := by grind
      have m2 := Int.mul_le_mul_of_nonneg_right (show 73 ≤ 2 * x + 1 by omega) (show 0 ≤ b_y - ay by omega)
      omega
def sideB (l : List S64) (x y : Int) (i : Nat) : Bool :=
  let a := rd_T64 l (i : Int)
  let b := rd_T64 l (((i + 1) % l.length : Nat) : Int)
  crossB a.f0 a.f1 b.f0 b.f1 x y
def insB (l : List S64) (x y : Int) : Bool := xorUpTo (sideB l x y) l.length
def coB (x : Int) : Bool := decide (-200 ≤ x ∧ x ≤ 200)
def insideB (l : List S64) (x y : Int) : Bool := pathB l && coB x && coB y && insB l x y
theorem pt_at (l : List S64) (h : l.all ptB = true) (i : Nat) (hi : i < l.length) :
    (-200 ≤ (rd_T64 l (i : Int)).f0 ∧ (rd_T64 l (i : Int)).f0 ≤ 200) ∧ (-200 ≤ (rd_T64 l (i : Int)).f1 ∧ (rd_T64 l (i : Int)).f1 ≤ 200) := by
  rw [rdiPoint_lt l i hi]
  exact of_decide_eq_true (List.all_eq_true.1 h l[i] (List.getElem_mem hi))
theorem path_len (l : List S64) (h : pathB l = true) : l.length ≤ 8 ∧ l.all ptB = true := by
  unfold pathB at h
  rw [Bool.and_eq_true] at h
  exact ⟨of_decide_eq_true h.1, h.2⟩
theorem impl_inside_loop (l : List S64) (x y : Int) (hl : l.length ≤ 8) (hp : l.all ptB = true) (hx : -200 ≤ x ∧ x ≤ 200) (hy : -200 ≤ y ∧ y ≤ 200) : ∀ (d i : Nat), i + d = l.length →
    Ev (fun k => impl_InsidePath.l0 k l x y (xorUpTo (sideB l x y) i) l (l.length : Int) (i : Int)) (insB l x y) := by
  intro d
  induction d with
  | zero =>
    intro i hi
    refine Ev.step (fun k => impl_InsidePath.l0.eq_2 _ _ _ _ _ _ _ k) ?_
    simp only [if_neg (show ¬ (i : Int) < (l.length : Int) by omega)]
    rw [show i = l.length by omega]
    exact Ev.now _
  | succ d ih =>
    intro i hi
    have hm : (i + 1) % l.length < l.length := Nat.mod_lt _ (by omega)
    have ha := pt_at l hp i (by omega)
    have hb := pt_at l hp _ hm
    refine Ev.step (fun k => impl_InsidePath.l0.eq_2 _ _ _ _ _ _ _ k) ?_
    rw [wrap_succ i (by omega), tmod_nat]
    simp only [if_pos (show (i : Int) < (l.length : Int) by omega), if_pos (show (0 : Int) ≤ (i : Int) by omega), if_neg (show ¬ (l.length : Int) = 0 by omega),
      if_pos (show (0 : Int) ≤ (((i + 1) % l.length : Nat) : Int) by omega), if_pos (show (((i + 1) % l.length : Nat) : Int) < (l.length : Int) by omega),
      impl_cross _ _ _ _ _ _ ha.1 ha.2 hb.1 hb.2 hx hy, Option.bind_some]
    have := ih (i + 1) (by omega)
    simp only [xorUpTo] at this
    change Ev (fun k => if sideB l x y i = true then _ else _) _
    cases h : sideB l x y i with
    | true =>
      rw [h, Bool.xor_true] at this
      simpa using this
    | false =>
      rw [h, Bool.xor_false] at this
      simpa using this
theorem impl_inside (l : List S64) (x y : Int) : Ev (fun k => impl_InsidePath.f k l x y) (insideB l x y) := by
  unfold impl_InsidePath.f insideB
  refine Ev.bind (impl_path l) ?_
  have j1 : Ev (fun k => impl_InsidePath.j0 k l x y true) false := by
    refine Ev.step (fun k => impl_InsidePath.j0.eq_2 _ _ _ _ k) ?_
    simp only [if_true]
    exact Ev.now _
  cases hp : pathB l with
  | false =>
    simp only [Bool.false_eq_true, if_false, Bool.false_and]
    exact j1
  | true =>
    simp only [if_true, impl_coord, Option.bind_some, Bool.true_and]
    by_cases hx : -200 ≤ x ∧ x ≤ 200
    · simp only [decide_eq_true hx, if_true]
      rw [show coB x = true from decide_eq_true hx]
      by_cases hy : -200 ≤ y ∧ y ≤ 200
      · rw [show coB y = true from decide_eq_true hy]
        simp only [decide_eq_true hy, Bool.not_true, Bool.true_and]
        refine Ev.step (fun k => impl_InsidePath.j0.eq_2 _ _ _ _ k) ?_
        simp only [Bool.false_eq_true, if_false]
        exact impl_inside_loop l x y (path_len l hp).1 (path_len l hp).2 hx hy l.length 0 (by omega)
      · rw [show coB y = false from decide_eq_false hy]
        simp only [decide_eq_false hy, Bool.not_false, Bool.and_false, Bool.false_and]
        exact j1
    · rw [show coB x = false from decide_eq_false hx]
      simp only [decide_eq_false hx, Bool.false_eq_true, if_false, Bool.false_and]
      exact j1
def spanAt (l : List S84) (i : Nat) : Bool :=
  decide ((rd_T84 l (i : Int)).f0 < (rd_T84 l (i : Int)).f1) && (decide (i = 0) || decide ((rd_T84 l ((i - 1 : Nat) : Int)).f1 < (rd_T84 l (i : Int)).f0))
def spansB (l : List S84) : Bool := decide (l.length ≤ 8) && allFrom (spanAt l) l.length 0
theorem wrap_pred (i : Nat) (h0 : 0 < i) (h : i < 4611686018427387904) : wrap64 ((i : Int) - 1) = ((i - 1 : Nat) : Int) := by
  rw [wrap_id (by omega) (by omega)]
  omega
theorem impl_spans_loop (l : List S84) (hl : l.length ≤ 1048576) : ∀ (d i : Nat), i + d = l.length →
    Ev (fun k => impl_SpansOk.l0 k l l (l.length : Int) (i : Int)) (allFrom (spanAt l) l.length i) := by
  intro d
  induction d with
  | zero =>
    intro i hi
    refine Ev.step (fun k => impl_SpansOk.l0.eq_2 _ _ _ _ k) ?_
    simp only [if_neg (show ¬ (i : Int) < (l.length : Int) by omega)]
    rw [show i = l.length by omega, all_end]
    exact Ev.now _
  | succ d ih =>
    intro i hi
    have hn := ih (i + 1) (by omega)
    refine Ev.step (fun k => impl_SpansOk.l0.eq_2 _ _ _ _ k) ?_
    simp only [if_pos (show (i : Int) < (l.length : Int) by omega), if_pos (show (0 : Int) ≤ (i : Int) by omega)]
    rw [wrap_succ i (by omega), all_step _ _ _ (show i < l.length by omega)]
    by_cases h1 : (rd_T84 l (i : Int)).f0 ≥ (rd_T84 l (i : Int)).f1
    · simp only [if_pos h1]
      rw [show spanAt l i = false by unfold spanAt; rw [decide_eq_false (by omega)]; rfl]
      simp only [Bool.false_and]
      exact Ev.now _
    · simp only [if_neg h1]
      by_cases h2 : i = 0
      · subst h2
        simp only [if_neg (show ¬ ((0 : Nat) : Int) > 0 by omega)]
        rw [show spanAt l 0 = true by unfold spanAt; rw [decide_eq_true (by omega)]; rfl, Bool.true_and]
        exact hn
      · rw [wrap_pred i (by omega) (by omega)]
        simp only [if_pos (show (i : Int) > 0 by omega), if_pos (show (0 : Int) ≤ ((i - 1 : Nat) : Int) by omega), if_pos (show ((i - 1 : Nat) : Int) < (l.length : Int) by omega)]
        by_cases h3 : (rd_T84 l ((i - 1 : Nat) : Int)).f1 ≥ (rd_T84 l (i : Int)).f0
        · simp only [if_pos h3]
          rw [show spanAt l i = false by unfold spanAt; rw [decide_eq_false h2, decide_eq_false (show ¬ (rd_T84 l ((i - 1 : Nat) : Int)).f1 < (rd_T84 l (i : Int)).f0 by omega)]; simp]
          simp only [Bool.false_and]
          exact Ev.now _
        · simp only [if_neg h3]
          rw [show spanAt l i = true by unfold spanAt; rw [decide_eq_true (show (rd_T84 l (i : Int)).f0 < (rd_T84 l (i : Int)).f1 by omega), decide_eq_true (show (rd_T84 l ((i - 1 : Nat) : Int)).f1 < (rd_T84 l (i : Int)).f0 by omega)]; simp, Bool.true_and]
          exact hn
theorem impl_spans (l : List S84) : Ev (fun k => impl_SpansOk.f k l) (spansB l) := by
  unfold impl_SpansOk.f spansB
  by_cases h : l.length ≤ 8
  · simp only [if_neg (show ¬ (l.length : Int) > 8 by omega), decide_eq_true h, Bool.true_and]
    exact impl_spans_loop l (by omega) l.length 0 (by omega)
  · simp only [if_pos (show (l.length : Int) > 8 by omega), decide_eq_false h, Bool.false_and]
    exact Ev.now _
def overB (l : List S84) (x : Int) (i : Nat) : Bool := decide ((rd_T84 l (i : Int)).f0 ≤ x ∧ x < (rd_T84 l (i : Int)).f1)
def inSpansB (l : List S84) (x : Int) : Bool := !allFrom (fun i => !overB l x i) l.length 0
theorem impl_in_loop (l : List S84) (x : Int) (hl : l.length ≤ 1048576) : ∀ (d i : Nat), i + d = l.length →
    Ev (fun k => impl_InSpans.l0 k x l (l.length : Int) (i : Int)) (!allFrom (fun i => !overB l x i) l.length i) := by
  intro d
  induction d with
  | zero =>
    intro i hi
    refine Ev.step (fun k => impl_InSpans.l0.eq_2 _ _ _ _ k) ?_
    simp only [if_neg (show ¬ (i : Int) < (l.length : Int) by omega)]
    rw [show i = l.length by omega, all_end]
    exact Ev.now _
  | succ d ih =>
    intro i hi
    have hn := ih (i + 1) (by omega)
    refine Ev.step (fun k => impl_InSpans.l0.eq_2 _ _ _ _ k) ?_
    simp only [if_pos (show (i : Int) < (l.length : Int) by omega), if_pos (show (0 : Int) ≤ (i : Int) by omega)]
    rw [wrap_succ i (by omega), all_step _ _ _ (show i < l.length by omega)]
    by_cases h1 : x ≥ (rd_T84 l (i : Int)).f0
    · simp only [if_pos h1]
      by_cases h2 : x < (rd_T84 l (i : Int)).f1
      · simp only [if_pos h2]
        rw [show overB l x i = true from decide_eq_true (by omega)]
        exact Ev.now _
      · simp only [if_neg h2]
        rw [show overB l x i = false from decide_eq_false (by omega)]
        exact hn
    · simp only [if_neg h1]
      rw [show overB l x i = false from decide_eq_false (by omega)]
      exact hn
theorem impl_inspans (l : List S84) (x : Int) (hl : l.length ≤ 1048576) : Ev (fun k => impl_InSpans.f k l x) (inSpansB l x) := by
  unfold impl_InSpans.f inSpansB
  exact impl_in_loop l x hl l.length 0 (by omega)
def dotsTo (l : List S84) : Nat → Int
  | 0 => 0
  | i + 1 => wrap64 (dotsTo l i + wrap64 ((rd_T84 l (i : Int)).f1 - (rd_T84 l (i : Int)).f0))
def dotsOf (l : List S84) : Int := if spansB l = true then dotsTo l l.length else 0
theorem impl_dots_loop (l : List S84) (hl : l.length ≤ 1048576) : ∀ (d i : Nat), i + d = l.length →
    Ev (fun k => impl_SpanDots.l0 k (dotsTo l i) l (l.length : Int) (i : Int)) (dotsTo l l.length) := by
  intro d
  induction d with
  | zero =>
    intro i hi
    refine Ev.step (fun k => impl_SpanDots.l0.eq_2 _ _ _ _ k) ?_
    simp only [if_neg (show ¬ (i : Int) < (l.length : Int) by omega)]
    rw [show i = l.length by omega]
    exact Ev.now _
  | succ d ih =>
    intro i hi
    refine Ev.step (fun k => impl_SpanDots.l0.eq_2 _ _ _ _ k) ?_
    simp only [if_pos (show (i : Int) < (l.length : Int) by omega), if_pos (show (0 : Int) ≤ (i : Int) by omega)]
    rw [wrap_succ i (by omega)]
    exact ih (i + 1) (by omega)
theorem impl_dots (l : List S84) : Ev (fun k => impl_SpanDots.f k l) (dotsOf l) := by
  unfold impl_SpanDots.f dotsOf
  refine Ev.bind (impl_spans l) ?_
  cases h : spansB l
  · simp only [Bool.false_eq_true, if_false]
    exact Ev.now _
  · simp only [if_true]
    have h8 : l.length ≤ 8 := by
      unfold spansB at h
      rw [Bool.and_eq_true] at h
      exact of_decide_eq_true h.1
    exact impl_dots_loop l (by omega) l.length 0 (by omega)
def sp (l : List S84) (i : Nat) : S84 := rd_T84 l (i : Int)
theorem sp_push (l : List S84) (s : S84) (i : Nat) (h : i ≤ l.length) : sp (l ++ [s]) i = if i = l.length then s else sp l i := by
  unfold sp
  by_cases hi : i = l.length
  · subst hi
    rw [if_pos rfl, rdiSpan_lt _ _ (by simp)]
    simp
  · rw [if_neg hi, rdiSpan_lt _ _ (by simp; omega), rdiSpan_lt _ _ (by omega), List.getElem_append_left]
theorem sp_set (l : List S84) (s : S84) (m i : Nat) (h : i < l.length) : sp (l.set m s) i = if i = m then s else sp l i := by
  unfold sp
  rw [rdiSpan_lt _ _ (by simp; omega), rdiSpan_lt _ _ h, List.getElem_set]
  by_cases hi : i = m
  · rw [if_pos hi.symm, if_pos hi]
  · rw [if_neg (Ne.symm hi), if_neg hi]
def sumTo (l : List S84) : Nat → Int
  | 0 => 0
  | i + 1 => sumTo l i + ((sp l i).f1 - (sp l i).f0)
theorem sum_congr (l m : List S84) : ∀ n, (∀ i, i < n → sp l i = sp m i) → sumTo l n = sumTo m n
  | 0, _ => rfl
  | n + 1, h => by rw [sumTo, sumTo, sum_congr l m n (fun i hi => h i (by omega)), h n (by omega)]
/-- One dot more to the right. -/
def scanStep (g : Int → Bool) (l : List S84) (x : Int) : List S84 :=
  if g x = true then
    if 0 < l.length ∧ (sp l (l.length - 1)).f1 = x then l.set (l.length - 1) ⟨(sp l (l.length - 1)).f0, x + 1⟩ else l ++ [⟨x, x + 1⟩]
  else l
def scan (g : Int → Bool) (l : List S84) (x : Int) : Nat → List S84
  | 0 => l
  | d + 1 => scan g (scanStep g l x) (x + 1) d
/-- Whether the dot before the j-th (from -200 on) is inside. -/
def before (g : Int → Bool) : Nat → Bool
  | 0 => false
  | j + 1 => g (-200 + (j : Int))
def cntTo (g : Int → Bool) : Nat → Int
  | 0 => 0
  | j + 1 => cntTo g j + (if g (-200 + (j : Int)) = true then 1 else 0)
structure Runs (g : Int → Bool) (l : List S84) (j : Nat) : Prop where
  each : ∀ i, i < l.length → (sp l i).f0 < (sp l i).f1 ∧ (sp l i).f1 ≤ -200 + (j : Int) ∧ -200 ≤ (sp l i).f0
  apart : ∀ i, 0 < i → i < l.length → (sp l (i - 1)).f1 < (sp l i).f0
  mem : ∀ w : Int, (∃ i, i < l.length ∧ (sp l i).f0 ≤ w ∧ w < (sp l i).f1) ↔ (-200 ≤ w ∧ w < -200 + (j : Int) ∧ g w = true)
  last : (0 < l.length ∧ (sp l (l.length - 1)).f1 = -200 + (j : Int)) ↔ before g j = true
  count : 2 * l.length = flips (before g) j + (before g j).toNat
  sum : sumTo l l.length = cntTo g j
theorem runs_none (g : Int → Bool) : Runs g [] 0 where
  each := fun i h => by simp at h
  apart := fun i _ h => by simp at h
  mem := fun w => ⟨fun ⟨i, h, _⟩ => by simp at h, fun h => by omega⟩
  last := ⟨fun h => by simp at h, fun h => by simp [before] at h⟩
  count := by simp [flips, before]
  sum := rfl
theorem runs_step (g : Int → Bool) (l : List S84) (j : Nat) (h : Runs g l j) : Runs g (scanStep g l (-200 + (j : Int))) (j + 1) := by
  unfold scanStep
  have hc : (-200 + ((j + 1 : Nat) : Int)) = -200 + (j : Int) + 1 := by omega
  by_cases hg : g (-200 + (j : Int)) = true
  · rw [if_pos hg]
    have hb : before g (j + 1) = true := hg
    by_cases hl : 0 < l.length ∧ (sp l (l.length - 1)).f1 = -200 + (j : Int)
    · rw [if_pos hl]
      have h1 : before g j = true := h.last.1 hl
      have hn : (l.set (l.length - 1) (⟨(sp l (l.length - 1)).f0, -200 + (j : Int) + 1⟩ : S84)).length = l.length := by simp
      have hs : ∀ i, i < l.length → sp (l.set (l.length - 1) (⟨(sp l (l.length - 1)).f0, -200 + (j : Int) + 1⟩ : S84)) i = if i = l.length - 1 then ⟨(sp l (l.length - 1)).f0, -200 + (j : Int) + 1⟩ else sp l i := fun i hi => sp_set l _ _ i hi
      generalize l.set (l.length - 1) (⟨(sp l (l.length - 1)).f0, -200 + (j : Int) + 1⟩ : S84) = m at hn hs
      refine ⟨fun i hi => ?_, fun i h0 hi => ?_, fun w => ⟨fun ⟨i, hi, hw⟩ => ?_, fun hw => ?_⟩, ⟨fun _ => hb, fun _ => ?_⟩, ?_, ?_⟩
      · rw [hs i (by omega)]
        have := h.each i (by omega)
        by_cases hi2 : i = l.length - 1
        · rw [if_pos hi2]
          subst hi2
          simp only
          omega
        · rw [if_neg hi2]
          omega
      · rw [hs i (by omega), hs (i - 1) (by omega), if_neg (show ¬ i - 1 = l.length - 1 by omega)]
        have := h.apart i h0 (by omega)
        by_cases hi2 : i = l.length - 1
        · rw [if_pos hi2]
          rw [hi2] at this
          rw [hi2]
          exact this
        · rw [if_neg hi2]
          exact this
      · rw [hs i (by omega)] at hw
        by_cases hi2 : i = l.length - 1
        · rw [if_pos hi2] at hw
          simp only at hw
          by_cases hw2 : w < -200 + (j : Int)
          · have := (h.mem w).1 ⟨l.length - 1, by omega, by omega, by omega⟩
            exact ⟨this.1, by omega, this.2.2⟩
          · have e : w = -200 + (j : Int) := by omega
            rw [e]
            exact ⟨by omega, by omega, hg⟩
        · rw [if_neg hi2] at hw
          have := (h.mem w).1 ⟨i, by omega, hw.1, hw.2⟩
          exact ⟨this.1, by omega, this.2.2⟩
      · by_cases hw2 : w < -200 + (j : Int)
        · obtain ⟨i, hi, hiw⟩ := (h.mem w).2 ⟨hw.1, hw2, hw.2.2⟩
          refine ⟨i, by omega, ?_⟩
          rw [hs i hi]
          by_cases hi2 : i = l.length - 1
          · rw [if_pos hi2]
            subst hi2
            simp only
            omega
          · rw [if_neg hi2]
            exact hiw
        · refine ⟨l.length - 1, by omega, ?_⟩
          rw [hs _ (by omega), if_pos rfl]
          have := h.each (l.length - 1) (by omega)
          simp only
          omega
      · rw [hn, hs _ (by omega), if_pos rfl]
        exact ⟨hl.1, by simp only; omega⟩
      · rw [hn, flips, hb, h1, h.count, h1]
        simp
      · rw [hn, cntTo, ← h.sum, if_pos hg]
        obtain ⟨n, hn2⟩ : ∃ n, l.length = n + 1 := ⟨l.length - 1, by omega⟩
        rw [hn2, sumTo, sumTo, sum_congr m l n (fun i hi => by rw [hs i (by omega), if_neg (by omega)]), hs n (by omega), if_pos (by omega)]
        have e : l.length - 1 = n := by omega
        rw [e] at hl ⊢
        simp only
        omega
    · rw [if_neg hl]
      have h1 : before g j = false := by
        cases hbj : before g j
        · rfl
        · exact absurd (h.last.2 hbj) hl
      have hn : (l ++ [(⟨-200 + (j : Int), -200 + (j : Int) + 1⟩ : S84)]).length = l.length + 1 := by simp
      have hs : ∀ i, i ≤ l.length → sp (l ++ [(⟨-200 + (j : Int), -200 + (j : Int) + 1⟩ : S84)]) i = if i = l.length then ⟨-200 + (j : Int), -200 + (j : Int) + 1⟩ else sp l i := fun i hi => sp_push l _ i hi
      generalize l ++ [(⟨-200 + (j : Int), -200 + (j : Int) + 1⟩ : S84)] = m at hn hs
      refine ⟨fun i hi => ?_, fun i h0 hi => ?_, fun w => ⟨fun ⟨i, hi, hw⟩ => ?_, fun hw => ?_⟩, ⟨fun _ => hb, fun _ => ?_⟩, ?_, ?_⟩
      · rw [hs i (by omega)]
        by_cases hi2 : i = l.length
        · rw [if_pos hi2]
          simp only
          omega
        · rw [if_neg hi2]
          have := h.each i (by omega)
          omega
      · rw [hs i (by omega), hs (i - 1) (by omega), if_neg (show ¬ i - 1 = l.length by omega)]
        by_cases hi2 : i = l.length
        · rw [if_pos hi2]
          have e := h.each (i - 1) (by omega)
          have : ¬ (sp l (i - 1)).f1 = -200 + (j : Int) := fun k => hl ⟨by omega, by rw [← hi2]; exact k⟩
          simp only
          omega
        · rw [if_neg hi2]
          exact h.apart i h0 (by omega)
      · rw [hs i (by omega)] at hw
        by_cases hi2 : i = l.length
        · rw [if_pos hi2] at hw
          simp only at hw
          have e : w = -200 + (j : Int) := by omega
          rw [e]
          exact ⟨by omega, by omega, hg⟩
        · rw [if_neg hi2] at hw
          have := (h.mem w).1 ⟨i, by omega, hw.1, hw.2⟩
          exact ⟨this.1, by omega, this.2.2⟩
      · by_cases hw2 : w < -200 + (j : Int)
        · obtain ⟨i, hi, hiw⟩ := (h.mem w).2 ⟨hw.1, hw2, hw.2.2⟩
          refine ⟨i, by omega, ?_⟩
          rw [hs i (by omega), if_neg (by omega)]
          exact hiw
        · refine ⟨l.length, by omega, ?_⟩
          rw [hs _ (by omega), if_pos rfl]
          simp only
          omega
      · rw [hn, Nat.add_sub_cancel, hs _ (by omega), if_pos rfl]
        exact ⟨by omega, by simp only; omega⟩
      · have := h.count
        rw [h1] at this
        rw [hn, flips, hb, h1]
        simp at this ⊢
        omega
      · rw [hn, cntTo, ← h.sum, if_pos hg, sumTo, sum_congr m l l.length (fun i hi => by rw [hs i (by omega), if_neg (by omega)]), hs _ (by omega), if_pos rfl]
        simp only
        omega
  · rw [if_neg hg]
    have hf : g (-200 + (j : Int)) = false := by simpa using hg
    have hb : before g (j + 1) = false := hf
    refine ⟨fun i hi => ?_, h.apart, fun w => ⟨fun hw => ?_, fun hw => ?_⟩, ⟨fun hw => ?_, fun hw => ?_⟩, ?_, ?_⟩
    · have := h.each i hi
      omega
    · have := (h.mem w).1 hw
      exact ⟨this.1, by omega, this.2.2⟩
    · refine (h.mem w).2 ⟨hw.1, ?_, hw.2.2⟩
      by_cases e : w = -200 + (j : Int)
      · rw [e, hf] at hw
        exact absurd hw.2.2 (by simp)
      · omega
    · have := h.each (l.length - 1) (by omega)
      omega
    · rw [hb] at hw
      cases hw
    · have := h.count
      rw [flips, hb, this]
      cases before g j <;> simp
    · rw [h.sum, cntTo, hf]
      simp
theorem runs_scan (g : Int → Bool) : ∀ (d j : Nat) (l : List S84), Runs g l j → Runs g (scan g l (-200 + (j : Int)) d) (j + d)
  | 0, j, l, h => h
  | d + 1, j, l, h => by
    have := runs_scan g d (j + 1) _ (runs_step g l j h)
    rw [scan, show -200 + (j : Int) + 1 = -200 + ((j + 1 : Nat) : Int) by omega, show j + (d + 1) = j + 1 + d by omega]
    exact this
theorem impl_scan (q : List S64) (y : Int) : ∀ (d : Nat) (l : List S84) (x : Int), x + d = 201 → -200 ≤ x → (l.length : Int) ≤ x + 200 →
    (∀ i, i < l.length → -1000 ≤ (sp l i).f1 ∧ (sp l i).f1 ≤ 1000) →
    Ev (fun k => impl_SpansAt.l0 k q y l x) (scan (fun x => insideB q x y) l x d) := by
  intro d
  induction d with
  | zero =>
    intro l x hx hx0 hl hb
    refine Ev.step (fun k => impl_SpansAt.l0.eq_2 _ _ _ _ k) ?_
    simp only [if_neg (show ¬ x ≤ 200 by omega)]
    exact Ev.now _
  | succ d ih =>
    intro l x hx hx0 hl hb
    refine Ev.step (fun k => impl_SpansAt.l0.eq_2 _ _ _ _ k) ?_
    simp only [if_pos (show x ≤ 200 by omega)]
    refine Ev.bind (impl_inside q x y) ?_
    rw [wrap_id (x := x + 1) (by omega) (by omega)]
    rw [scan]
    unfold scanStep
    change Ev _ (scan _ (if insideB q x y = true then _ else _) (x + 1) d)
    have hcap : l.length < 8796093022208 := by omega
    have push : Ev (fun k => impl_SpansAt.l0 k q y (l ++ [(⟨x, x + 1⟩ : S84)]) (x + 1)) (scan (fun x => insideB q x y) (l ++ [⟨x, x + 1⟩]) (x + 1) d) := by
      refine ih _ (x + 1) (by omega) (by omega) (by simp; omega) (fun i hi => ?_)
      rw [sp_push l _ i (by simp at hi; omega)]
      split
      · simp only
        omega
      · exact hb i (by simp at hi; omega)
    cases hg : insideB q x y with
    | false =>
      simp only [Bool.false_eq_true, if_false]
      exact ih l (x + 1) (by omega) (by omega) (by omega) hb
    | true =>
      simp only [if_true]
      by_cases h0 : 0 < l.length
      · have hw : wrap64 ((l.length : Int) - 1) = ((l.length - 1 : Nat) : Int) := wrap_pred l.length h0 (by omega)
        rw [hw]
        simp only [if_pos (show (l.length : Int) > 0 by omega), if_pos (show (0 : Int) ≤ ((l.length - 1 : Nat) : Int) by omega), if_pos (show ((l.length - 1 : Nat) : Int) < (l.length : Int) by omega), Int.toNat_natCast]
        by_cases h1 : (sp l (l.length - 1)).f1 = x
        · simp only [if_pos (show (rd_T84 l ((l.length - 1 : Nat) : Int)).f1 = x from h1), if_pos (show 0 < l.length ∧ (sp l (l.length - 1)).f1 = x from ⟨h0, h1⟩)]
          have e : wrap64 ((rd_T84 l ((l.length - 1 : Nat) : Int)).f1 + 1) = x + 1 := by
            rw [show (rd_T84 l ((l.length - 1 : Nat) : Int)).f1 = x from h1]
            exact wrap_id (by omega) (by omega)
          rw [e]
          refine ih _ (x + 1) (by omega) (by omega) (by simp; omega) (fun i hi => ?_)
          have hi' : i < l.length := by simpa using hi
          rw [sp_set l _ _ i hi']
          split
          · simp only
            omega
          · exact hb i hi'
        · simp only [if_neg (show ¬ (rd_T84 l ((l.length - 1 : Nat) : Int)).f1 = x from h1), if_neg (show ¬ (0 < l.length ∧ (sp l (l.length - 1)).f1 = x) from fun k => h1 k.2), if_pos hcap]
          exact push
      · simp only [if_neg (show ¬ (l.length : Int) > 0 by omega), if_neg (show ¬ (0 < l.length ∧ (sp l (l.length - 1)).f1 = x) from fun k => h0 k.1), if_pos hcap]
        exact push
def spansM (q : List S64) (y : Int) : List S84 := scan (fun x => insideB q x y) [] (-200) 401
theorem impl_spansat (q : List S64) (y : Int) (hq : pathB q = true) (hy : -200 ≤ y ∧ y ≤ 200) : Ev (fun k => impl_SpansAt.f k q y) (spansM q y) := by
  unfold impl_SpansAt.f
  refine Ev.bind (impl_path q) ?_
  simp only [hq, if_true, impl_coord, Option.bind_some, decide_eq_true hy, Bool.not_true]
  refine Ev.step (fun k => impl_SpansAt.j0.eq_2 _ _ _ k) ?_
  simp only [Bool.false_eq_true, if_false]
  exact impl_scan q y 401 [] (-200) (by omega) (by omega) (by simp) (fun i hi => by simp at hi)
theorem near_at (q : List S64) (hp : ∀ p ∈ q, nearB p) (i : Nat) (hi : i < q.length) : nearB (rd_T64 q (i : Int)) := by
  rw [rdiPoint_lt q i hi]
  exact hp _ (List.getElem_mem _)
theorem ins_low (q : List S64) (hp : ∀ p ∈ q, nearB p) (x y : Int) (hx : x ≤ -5) : insB q x y = false := by
  unfold insB
  rw [xor_congr _ (fun i => decide ((rd_T64 q (i : Int)).f1 > y) ^^ decide ((rd_T64 q (((i + 1) % q.length : Nat) : Int)).f1 > y)) q.length (fun i hi => ?_)]
  · exact xor_ring (fun i => decide ((rd_T64 q (i : Int)).f1 > y)) q.length
  · have a := near_at q hp i hi
    have b := near_at q hp ((i + 1) % q.length) (Nat.mod_lt _ (by omega))
    exact cross_low _ _ _ _ x y a.1.1 b.1.1 hx
theorem ins_high (q : List S64) (hp : ∀ p ∈ q, nearB p) (x y : Int) (hx : 36 ≤ x) : insB q x y = false := by
  unfold insB
  rw [xor_congr _ (fun _ => false) q.length (fun i hi => ?_)]
  · have : ∀ n, xorUpTo (fun _ => false) n = false := by
      intro n
      induction n with
      | zero => rfl
      | succ n ih => rw [xorUpTo, ih]; rfl
    exact this _
  · have a := near_at q hp i hi
    have b := near_at q hp ((i + 1) % q.length) (Nat.mod_lt _ (by omega))
    exact cross_high _ _ _ _ x y a.1.2 b.1.2 hx
theorem in_eq (q : List S64) (hq : pathB q = true) (x y : Int) (hx : -200 ≤ x ∧ x ≤ 200) (hy : -200 ≤ y ∧ y ≤ 200) : insideB q x y = insB q x y := by
  unfold insideB
  rw [hq, show coB x = true from decide_eq_true hx, show coB y = true from decide_eq_true hy]
  simp
theorem flips_congr (f g : Nat → Bool) : ∀ n, (∀ i, i ≤ n → f i = g i) → flips f n = flips g n
  | 0, _ => rfl
  | n + 1, h => by rw [flips, flips, flips_congr f g n (fun i hi => h i (by omega)), h n (by omega), h (n + 1) (by omega)]
theorem flips_before (g : Int → Bool) (n : Nat) (h : before g 1 = false) : flips (before g) (n + 1) = flips (fun j => before g (j + 1)) n := by
  have f := flips_shift (before g) n
  rw [h, show before g 0 = false from rfl, if_pos rfl, Nat.zero_add] at f
  exact f
theorem dots_sum (l : List S84) (h : ∀ i, i < l.length → -1000 ≤ (sp l i).f0 ∧ (sp l i).f0 ≤ 1000 ∧ -1000 ≤ (sp l i).f1 ∧ (sp l i).f1 ≤ 1000) (hl : l.length ≤ 1000) : ∀ n, n ≤ l.length →
    dotsTo l n = sumTo l n ∧ -(2000 * (n : Int)) ≤ sumTo l n ∧ sumTo l n ≤ 2000 * n
  | 0, _ => ⟨rfl, by simp [sumTo], by simp [sumTo]⟩
  | n + 1, hn => by
    have ih := dots_sum l h hl n (by omega)
    have b := h n (by omega)
    have e : dotsTo l (n + 1) = wrap64 (dotsTo l n + wrap64 ((sp l n).f1 - (sp l n).f0)) := rfl
    rw [e, sumTo, ih.1, wrap_id (x := (sp l n).f1 - (sp l n).f0) (by omega) (by omega), wrap_id (by omega) (by omega)]
    exact ⟨rfl, by omega, by omega⟩
theorem cnt_same (g : Int → Bool) : ∀ (d j : Nat), (∀ i : Nat, j ≤ i → i < j + d → g (-200 + (i : Int)) = false) → cntTo g (j + d) = cntTo g j
  | 0, j, _ => rfl
  | d + 1, j, h => by
    rw [show j + (d + 1) = (j + d) + 1 by omega, cntTo, cnt_same g d j (fun i h1 h2 => h i h1 (by omega)), h (j + d) (by omega) (by omega)]
    simp
theorem cnt_bound (g : Int → Bool) : ∀ j : Nat, 0 ≤ cntTo g j ∧ cntTo g j ≤ j
  | 0 => ⟨by simp [cntTo], by simp [cntTo]⟩
  | j + 1 => by
    have := cnt_bound g j
    rw [cntTo]
    split <;> omega
theorem FnSpans : laws_FnSpans.Pure := by
  intro l hm hs hw
  refine Ev.rounds ?_
  simp only [laws_FnSpans.f, laws_big.f, Option.bind_some, decide_eq_true_eq]
  by_cases hb : (l.length : Int) > 1048576
  · simp only [if_pos hb]
    exact Ev.now _
  · simp only [if_neg hb]
    obtain ⟨q, eq, q3, q6, qn⟩ := draw_shape l (by omega)
    obtain ⟨p, ep, p12, pn⟩ := draw_places l (by omega)
    have hq := near_path q q6 qn
    refine Ev.bind eq ?_
    refine Ev.bind ep ?_
    simp only [if_pos (show (0 : Int) < (p.length : Int) by omega)]
    have h0 : 0 ≤ rd p 0 ∧ rd p 0 < 10000 := place_at p p12 pn 0 (by omega)
    have ht := tmod_low (rd p 0) 34 h0.1 (by omega)
    rw [wrap_id (x := Int.tmod (rd p 0) 34 - 1) (by omega) (by omega)]
    have hy : -200 ≤ Int.tmod (rd p 0) 34 - 1 ∧ Int.tmod (rd p 0) 34 - 1 ≤ 200 := by omega
    generalize Int.tmod (rd p 0) 34 - 1 = y at hy ⊢
    refine Ev.bind (impl_spansat q y hq hy) ?_
    have R : Runs (fun x => insideB q x y) (spansM q y) 401 := runs_scan (fun x => insideB q x y) 401 0 [] (runs_none _)
    generalize spansM q y = s at R
    have glow : ∀ x : Int, -200 ≤ x → x ≤ -5 → insideB q x y = false := fun x a b => by rw [in_eq q hq x y ⟨a, by omega⟩ hy, ins_low q qn x y b]
    have ghigh : ∀ x : Int, 36 ≤ x → x ≤ 200 → insideB q x y = false := fun x a b => by rw [in_eq q hq x y ⟨by omega, b⟩ hy, ins_high q qn x y a]
    have hlen : 2 * s.length ≤ q.length := by
      have c := R.count
      have b1 : before (fun x => insideB q x y) 401 = false := ghigh (-200 + ((400 : Nat) : Int)) (by omega) (by omega)
      have b2 : before (fun x => insideB q x y) 1 = false := glow (-200 + ((0 : Nat) : Int)) (by omega) (by omega)
      rw [b1, show (401 : Nat) = 400 + 1 from rfl, flips_before _ 400 b2] at c
      have f2 := flips_many (fun i j => sideB q (-200 + (j : Int)) y i) (fun i j h => by
        have h' : sideB q (-200 + (j : Int) + 1) y i = true := by
          rw [show -200 + (j : Int) + 1 = -200 + ((j + 1 : Nat) : Int) by omega]
          exact h
        exact cross_mono _ _ _ _ _ _ h') 400 q.length
      have f3 : flips (fun j => before (fun x => insideB q x y) (j + 1)) 400 = flips (fun j => xorUpTo (fun i => sideB q (-200 + (j : Int)) y i) q.length) 400 :=
        flips_congr _ _ 400 (fun j hj => in_eq q hq (-200 + (j : Int)) y (by omega) hy)
      rw [f3, Bool.toNat_false, Nat.add_zero] at c
      rw [c]
      exact f2
    have hok : spansB s = true := by
      unfold spansB
      rw [decide_eq_true (by omega), Bool.true_and, all_iff]
      intro i _ hi
      unfold spanAt
      rw [decide_eq_true (show (rd_T84 s (i : Int)).f0 < (rd_T84 s (i : Int)).f1 from (R.each i hi).1), Bool.true_and]
      by_cases h : i = 0
      · rw [decide_eq_true h, Bool.true_or]
      · rw [decide_eq_true (show (rd_T84 s ((i - 1 : Nat) : Int)).f1 < (rd_T84 s (i : Int)).f0 from R.apart i (by omega) hi), Bool.or_true]
    have hin : ∀ x : Int, -200 ≤ x → x ≤ 200 → inSpansB s x = insideB q x y := by
      intro x a b
      have m := R.mem x
      cases hg : insideB q x y with
      | true =>
        obtain ⟨i, hi, hx⟩ := m.2 ⟨a, by omega, hg⟩
        unfold inSpansB
        have : allFrom (fun i => !overB s x i) s.length 0 ≠ true := by
          rw [Ne, all_iff]
          intro k
          have := k i (by omega) hi
          rw [show overB s x i = true from decide_eq_true hx] at this
          cases this
        simpa using this
      | false =>
        unfold inSpansB
        have : allFrom (fun i => !overB s x i) s.length 0 = true := by
          rw [all_iff]
          intro i _ hi
          rw [show overB s x i = false from decide_eq_false fun hx => by
            have := (m.1 ⟨i, hi, hx⟩).2.2
            simp only [hg] at this
            cases this]
          rfl
        rw [this]
        rfl
    have hdots : dotsOf s = cntTo (fun x => insideB q x y) 242 := by
      have d := dots_sum s (fun i hi => by
        have := R.each i hi
        omega) (by omega) s.length (Nat.le_refl _)
      unfold dotsOf
      rw [if_pos hok, d.1, R.sum]
      exact cnt_same _ 159 242 (fun i h1 h2 => ghigh _ (by omega) (by omega))
    have loop : ∀ (d j : Nat), j + d = 242 → 192 ≤ j → Ev (fun k => laws_FnSpans.l0 k q y s (cntTo (fun x => insideB q x y) j) (-200 + (j : Int))) true := by
      intro d
      induction d with
      | zero =>
        intro j hj h8
        refine Ev.step (fun k => laws_FnSpans.l0.eq_2 _ _ _ _ _ k) ?_
        simp only [if_neg (show ¬ -200 + (j : Int) < 42 by omega)]
        refine Ev.bind (impl_spans s) ?_
        simp only [hok, if_true]
        refine Ev.bind (impl_dots s) ?_
        rw [show j = 242 by omega]
        simp only [if_pos hdots]
        rw [wrap_id (x := 2 * (s.length : Int)) (by omega) (by omega), decide_eq_true (by omega)]
        exact Ev.now _
      | succ d ih =>
        intro j hj h8
        refine Ev.step (fun k => laws_FnSpans.l0.eq_2 _ _ _ _ _ k) ?_
        simp only [if_pos (show -200 + (j : Int) < 42 by omega)]
        refine Ev.bind (impl_inside q _ y) ?_
        refine Ev.bind (impl_inspans s _ (by omega)) ?_
        rw [hin _ (by omega) (by omega)]
        simp only [bne_self_eq_false, Bool.false_eq_true, if_false]
        have := ih (j + 1) (by omega) (by omega)
        have cb := cnt_bound (fun x => insideB q x y) j
        rw [cntTo, show -200 + ((j + 1 : Nat) : Int) = -200 + (j : Int) + 1 by omega] at this
        rw [wrap_id (x := -200 + (j : Int) + 1) (by omega) (by omega)]
        cases hg : insideB q (-200 + (j : Int)) y with
        | true =>
          simp only [hg, if_true] at this
          simp only [laws_btoi.f, if_true, Option.bind_some]
          rw [wrap_id (by omega) (by omega)]
          exact this
        | false =>
          simp only [hg, Bool.false_eq_true, if_false] at this
          simp only [laws_btoi.f, Bool.false_eq_true, if_false, Option.bind_some]
          rw [wrap_id (by omega) (by omega)]
          exact this
    have c0 : cntTo (fun x => insideB q x y) 192 = 0 := cnt_same _ 192 0 (fun i h1 h2 => glow _ (by omega) (by omega))
    have := loop 50 192 (by omega) (by omega)
    rw [c0] at this
    exact this

end Go.Proofs.Ytmgjdmmggdmheaa.Pure
