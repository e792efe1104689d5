/- Exchanging twice, negating twice, and taking away what was added give the stack back. (P5) This is its pure statement, over numbers and lists, as printed from the program; the row is built on it.
   Conditions: none. -/
import Derived.Test.YtgpiboajpolmoaaGFnStacksx4
namespace Go.Proofs.Ytgpiboajpolmoaa.Pure
set_option linter.unusedSimpArgs false
set_option linter.unusedVariables false
open Go.RowKit Go.Proofs.Ytgpiboajpolmoaa.GFnStacks Go.Proofs.YtgpiboajpolmoaaW.PrintWords Go.Proofs.YtgpiboajpolmoaaW.PrintLast

theorem wrap_id {x : Int} (h0 : -9223372036854775808 ≤ x) (h1 : x ≤ 9223372036854775807) : wrap64 x = x := by
  unfold wrap64
  omega
theorem wrap_succ (i : Nat) (h : i < 4611686018427387904) : wrap64 ((i : Int) + 1) = ((i + 1 : Nat) : Int) := by
  rw [wrap_id (by omega) (by omega)]
  omega
theorem rd_lt (l : List Int) (i : Nat) (h : i < l.length) : rd l (i : Int) = l[i] := by
  unfold rd
  rw [Int.toNat_natCast, List.getD_eq_getElem?_getD, List.getElem?_eq_getElem h]
  rfl
theorem set_take {α : Type} (l x : List α) (i : Nat) (hi : i < l.length) (hx : x.length = l.length) (h : x.take i = l.take i) :
    (x.set i l[i]).take (i + 1) = l.take (i + 1) := by
  rw [List.take_succ_eq_append_getElem (by simp; omega), List.take_succ_eq_append_getElem hi, List.getElem_set_self, List.take_set_of_le (Nat.le_refl i), h]
def allFrom (p : Nat → Bool) (n i : Nat) : Bool := (List.range' i (n - i)).all p
theorem all_end (p : Nat → Bool) (n : Nat) : allFrom p n n = true := by simp [allFrom]
theorem all_step (p : Nat → Bool) (n i : Nat) (h : i < n) : allFrom p n i = (p i && allFrom p n (i + 1)) := by
  unfold allFrom
  rw [show n - i = (n - (i + 1)) + 1 by omega, List.range'_succ, List.all_cons]
theorem all_iff (p : Nat → Bool) (n i : Nat) : allFrom p n i = true ↔ ∀ j, i ≤ j → j < n → p j = true := by
  unfold allFrom
  rw [List.all_eq_true]
  constructor
  · intro h j h1 h2
    exact h j (List.mem_range'_1.2 ⟨h1, by omega⟩)
  · intro h j hj
    have := List.mem_range'_1.1 hj
    exact h j this.1 (by omega)
theorem and_low (x : Int) : 0 ≤ Go.bits .and .i64 x 255 ∧ Go.bits .and .i64 x 255 ≤ 255 := by
  have h : ((BitVec.ofInt 64 x) &&& (BitVec.ofInt 64 255)).toNat ≤ 255 := by
    rw [BitVec.toNat_and]
    exact Nat.and_le_right
  have e : Go.bits .and .i64 x 255 = IntKind.i64.wrap ((((BitVec.ofInt 64 x) &&& (BitVec.ofInt 64 255)).toNat : Nat) : Int) := rfl
  rw [e]
  generalize ((BitVec.ofInt 64 x) &&& (BitVec.ofInt 64 255)).toNat = n at h
  have e2 : IntKind.i64.wrap ((n : Nat) : Int) = n := by
    simp only [IntKind.wrap, IntKind.bits, IntKind.signed]
    simp
    omega
  rw [e2]
  omega
theorem draw_new (l : List Int) (hl : l.length ≤ 1048576) : ∃ h, Ev (fun k => spec_l01New.f k l) (l, 0, h) := by
  unfold spec_l01New.f
  have loop : ∀ (d i : Nat) (h : Int), i + d = l.length → ∃ h', Ev (fun k => spec_l01New.l0 k l h (i : Int)) (l, 0, h') := by
    intro d
    induction d with
    | zero =>
      intro i h hi
      refine ⟨h, Ev.step (fun k => spec_l01New.l0.eq_2 _ _ _ k) ?_⟩
      simp only [if_neg (show ¬ (i : Int) < (l.length : Int) by omega)]
      exact Ev.now _
    | succ d ih =>
      intro i h hi
      by_cases hc : (i : Int) < 4000
      · obtain ⟨h', hh⟩ := ih (i + 1) (Go.bits .and .i64 (wrap64 ((wrap64 ((wrap64 (h * 131)) + (wrap64 (rd l i)))) + 7)) 1073741823) (by omega)
        refine ⟨h', Ev.step (fun k => spec_l01New.l0.eq_2 _ _ _ k) ?_⟩
        simp only [if_pos (show (i : Int) < (l.length : Int) by omega), if_pos hc, if_pos (show (0 : Int) ≤ (i : Int) by omega)]
        rw [wrap_succ i (by omega)]
        exact hh
      · refine ⟨h, Ev.step (fun k => spec_l01New.l0.eq_2 _ _ _ k) ?_⟩
        simp only [if_pos (show (i : Int) < (l.length : Int) by omega), if_neg hc]
        exact Ev.now _
  exact loop l.length 0 _ (by omega)
/-- A place in the bytes of a draw. -/
def Cur (l : List Int) (i : Int) : Prop := 0 ≤ i ∧ i ≤ (l.length : Int)
theorem draw_byte (l : List Int) (hl : l.length ≤ 1048576) (i h : Int) (hi : Cur l i) : ∃ v i' h', spec_l01Byte.f l i h = some (v, i', h') ∧ Cur l i' ∧ 0 ≤ v ∧ v ≤ 255 := by
  unfold spec_l01Byte.f
  unfold Cur at *
  by_cases hc : i < (l.length : Int)
  · rw [if_pos hc, if_pos hi.1]
    exact ⟨_, _, _, rfl, by rw [wrap_id (by omega) (by omega)]; omega, (and_low _).1, (and_low _).2⟩
  · rw [if_neg hc]
    exact ⟨_, _, _, rfl, hi, (and_low _).1, (and_low _).2⟩
theorem tmod_low (v n : Int) (h0 : 0 ≤ v) (hn : 0 < n) : 0 ≤ Int.tmod v n ∧ Int.tmod v n < n :=
  ⟨Int.tmod_nonneg n h0, Int.tmod_lt_of_pos v hn⟩
theorem draw_below (l : List Int) (hl : l.length ≤ 1048576) (i h n : Int) (hi : Cur l i) (hn : 0 < n) : ∃ v i' h', spec_l01Below.f l i h n = some (v, i', h') ∧ Cur l i' ∧ 0 ≤ v ∧ v < n := by
  unfold spec_l01Below.f
  rw [if_neg (by omega)]
  by_cases hc : n ≤ 256
  · rw [if_pos hc]
    obtain ⟨v, i1, h1, e, c1, v0, v1⟩ := draw_byte l hl i h hi
    rw [e]
    simp only [Option.bind_some]
    rw [if_neg (by omega)]
    exact ⟨_, _, _, rfl, c1, tmod_low v n v0 hn⟩
  · rw [if_neg hc]
    obtain ⟨a, i1, h1, e1, c1, a0, a1⟩ := draw_byte l hl i h hi
    obtain ⟨b, i2, h2, e2, c2, b0, b1⟩ := draw_byte l hl i1 h1 c1
    obtain ⟨c, i3, h3, e3, c3, x0, x1⟩ := draw_byte l hl i2 h2 c2
    obtain ⟨d, i4, h4, e4, c4, d0, d1⟩ := draw_byte l hl i3 h3 c3
    simp only [e1, e2, e3, e4, Option.bind_some]
    rw [if_neg (by omega)]
    refine ⟨_, _, _, rfl, c4, ?_⟩
    rw [wrap_id (x := a * 16777216) (by omega) (by omega), wrap_id (x := b * 65536) (by omega) (by omega), wrap_id (x := c * 256) (by omega) (by omega),
      wrap_id (x := a * 16777216 + b * 65536) (by omega) (by omega), wrap_id (x := a * 16777216 + b * 65536 + c * 256) (by omega) (by omega), wrap_id (by omega) (by omega)]
    exact tmod_low _ n (by omega) hn
theorem draw_pick (l : List Int) (hl : l.length ≤ 1048576) (i h : Int) (m : List Int) (hi : Cur l i) (hm : 0 < m.length) : ∃ v i' h', spec_l01PickInt.f l i h m = some (v, i', h') ∧ Cur l i' ∧ v ∈ m := by
  unfold spec_l01PickInt.f
  obtain ⟨v, i1, h1, e, c1, v0, v1⟩ := draw_below l hl i h (m.length : Int) hi (by omega)
  rw [e]
  simp only [Option.bind_some]
  rw [if_pos v0, if_pos v1]
  refine ⟨_, _, _, rfl, c1, ?_⟩
  obtain ⟨n, rfl⟩ := Int.eq_ofNat_of_zero_le v0
  rw [rd_lt m n (by omega)]
  exact List.getElem_mem _
theorem draw_places (l : List Int) (hl : l.length ≤ 1048576) : ∃ q, Ev (fun k => spec_DrawPlaces.f k l) q ∧ q.length = 12 ∧ ∀ p ∈ q, 0 ≤ p ∧ p < 10000 := by
  obtain ⟨h0, e0⟩ := draw_new l hl
  have loop : ∀ (d j : Nat) (i h : Int) (q : List Int), Cur l i → j + d = 12 → q.length = j → (∀ p ∈ q, 0 ≤ p ∧ p < 10000) →
      ∃ q', Ev (fun k => spec_DrawPlaces.l0 k q (j : Int) l i h) q' ∧ q'.length = 12 ∧ (∀ p ∈ q', 0 ≤ p ∧ p < 10000) := by
    intro d
    induction d with
    | zero =>
      intro j i h q hc hj hq hp
      refine ⟨q, Ev.step (fun k => spec_DrawPlaces.l0.eq_2 _ _ _ _ _ k) ?_, by omega, hp⟩
      simp only [if_neg (show ¬ (j : Int) < 12 by omega)]
      exact Ev.now _
    | succ d ih =>
      intro j i h q hc hj hq hp
      obtain ⟨v, i2, h2, e2, c2, v0, v1⟩ := draw_below l hl i h 10000 hc (by omega)
      obtain ⟨q', e', hl', hp'⟩ := ih (j + 1) i2 h2 (q ++ [v]) c2 (by omega) (by simp; omega) (by
        intro p hm
        rw [List.mem_append] at hm
        rcases hm with hm | hm
        · exact hp p hm
        · rw [List.mem_singleton] at hm
          subst hm
          exact ⟨v0, v1⟩)
      refine ⟨q', Ev.step (fun k => spec_DrawPlaces.l0.eq_2 _ _ _ _ _ k) ?_, hl', hp'⟩
      simp only [if_pos (show (j : Int) < 12 by omega), e2, Option.bind_some, if_pos (show q.length < 17592186044416 by omega)]
      rw [wrap_succ j (by omega)]
      exact e'
  obtain ⟨q, e, hlen, hp⟩ := loop 12 0 0 h0 [] ⟨by omega, by omega⟩ (by omega) rfl (by simp)
  refine ⟨q, ?_, hlen, hp⟩
  unfold spec_DrawPlaces.f
  exact Ev.bind e0 e
theorem place_at (q : List Int) (hq : q.length = 12) (hp : ∀ p ∈ q, 0 ≤ p ∧ p < 10000) (i : Nat) (hi : i < 12) : 0 ≤ rd q (i : Int) ∧ rd q (i : Int) < 10000 := by
  rw [rd_lt q i (by omega)]
  exact hp _ (List.getElem_mem _)
theorem impl_in (a b c : Int) : impl_within.f a b c = some (decide (b ≤ a ∧ a ≤ c)) := by
  unfold impl_within.f
  by_cases h : b ≤ a <;> simp [h]
def okN (x : Int) : Bool := decide (-9999 ≤ x ∧ x ≤ 9999)
def stackB (l : List Int) : Bool := decide (l.length ≤ 12) && l.all okN
theorem impl_stack_loop (l : List Int) (hl : l.length ≤ 12) : ∀ (d i : Nat), i + d = l.length →
    Ev (fun k => impl_StackOk.l0 k l (l.length : Int) (i : Int)) ((l.drop i).all okN) := by
  intro d
  induction d with
  | zero =>
    intro i hi
    refine Ev.step (fun k => impl_StackOk.l0.eq_2 _ _ _ k) ?_
    simp only [if_neg (show ¬ (i : Int) < (l.length : Int) by omega)]
    rw [List.drop_of_length_le (by omega)]
    exact Ev.now _
  | succ d ih =>
    intro i hi
    refine Ev.step (fun k => impl_StackOk.l0.eq_2 _ _ _ k) ?_
    simp only [if_pos (show (i : Int) < (l.length : Int) by omega), if_pos (show (0 : Int) ≤ (i : Int) by omega), impl_in, Option.bind_some]
    rw [wrap_succ i (by omega), rd_lt l i (by omega), List.drop_eq_getElem_cons (show i < l.length by omega), List.all_cons]
    by_cases hc : -9999 ≤ l[i] ∧ l[i] ≤ 9999
    · have ho : okN l[i] = true := decide_eq_true hc
      simp only [decide_eq_true hc, if_true, ho, Bool.true_and]
      exact ih (i + 1) (by omega)
    · have ho : okN l[i] = false := decide_eq_false hc
      simp only [decide_eq_false hc, ho, Bool.false_and, Bool.false_eq_true, if_false]
      exact Ev.now _
theorem impl_stack (l : List Int) : Ev (fun k => impl_StackOk.f k l) (stackB l) := by
  unfold impl_StackOk.f stackB
  by_cases h : l.length ≤ 12
  · simp only [if_neg (show ¬ (l.length : Int) > 12 by omega), decide_eq_true h, Bool.true_and]
    simpa using impl_stack_loop l h l.length 0 (by omega)
  · simp only [if_pos (show (l.length : Int) > 12 by omega), decide_eq_false h, Bool.false_and]
    exact Ev.now _
theorem impl_clone (l : List Int) (h : l.length ≤ 1048578) : slices_Clone_int_int.f l = some l := by
  unfold slices_Clone_int_int.f
  rw [if_pos (by omega)]
def pushM (l : List Int) (n : Int) : List Int × Bool := if (stackB l && stackB (l ++ [n])) = true then (l ++ [n], true) else (l, false)
theorem impl_push (l : List Int) (n : Int) (hl : l.length ≤ 1048577) : Ev (fun k => impl_PushNumber.f k l n) (pushM l n) := by
  have h1 : (l ++ [n]).length ≤ 1048578 := by
    rw [List.length_append, List.length_singleton]
    omega
  unfold impl_PushNumber.f pushM
  simp only [impl_clone l (by omega), Option.bind_some, if_pos (show l.length < 17592186044416 by omega)]
  refine Ev.bind (impl_stack l) ?_
  cases stackB l with
  | false =>
    simp only [Bool.false_eq_true, if_false, Bool.false_and]
    exact Ev.now _
  | true =>
    simp only [if_true, Bool.true_and]
    refine Ev.bind (impl_stack (l ++ [n])) ?_
    cases stackB (l ++ [n]) with
    | false =>
      simp only [Bool.false_eq_true, if_false]
      exact Ev.now _
    | true =>
      simp only [if_true]
      exact Ev.now _
theorem stack_len (l : List Int) (h : stackB l = true) : l.length ≤ 12 := by
  unfold stackB at h
  rw [Bool.and_eq_true] at h
  exact of_decide_eq_true h.1
def takeM (l : List Int) (n : Int) : List Int × List Int × Bool := if (stackB l && decide (0 ≤ n ∧ n ≤ (l.length : Int))) = true then (l.take (l.length - n.toNat), l.drop (l.length - n.toNat), true) else (l, [], false)
theorem impl_take (l : List Int) (n : Int) (hl : l.length ≤ 1048578) : Ev (fun k => impl_TakeNumbers.f k l n) (takeM l n) := by
  unfold impl_TakeNumbers.f takeM
  refine Ev.bind (impl_stack l) ?_
  have j1 : Ev (fun k => impl_TakeNumbers.j0 k l n true) (l, [], false) := by
    refine Ev.step (fun k => impl_TakeNumbers.j0.eq_2 _ _ _ k) ?_
    simp only [if_true, impl_clone l hl, Option.bind_some]
    exact Ev.now _
  cases h : stackB l with
  | false =>
    simp only [Bool.false_eq_true, if_false, Bool.false_and]
    exact j1
  | true =>
    have h12 := stack_len l h
    simp only [if_true, Bool.true_and, impl_in, Option.bind_some]
    by_cases hn : 0 ≤ n ∧ n ≤ (l.length : Int)
    · simp only [decide_eq_true hn, Bool.not_true, if_true]
      refine Ev.step (fun k => impl_TakeNumbers.j0.eq_2 _ _ _ k) ?_
      have e : (((l.length : Int) - n)).toNat = l.length - n.toNat := by omega
      rw [wrap_id (x := (l.length : Int) - n) (by omega) (by omega), e]
      simp only [Bool.false_eq_true, if_false, if_pos (show 0 ≤ (l.length : Int) - n by omega), if_pos (show (l.length : Int) - n ≤ (l.length : Int) by omega)]
      rw [impl_clone _ (by simp; omega), impl_clone _ (by simp; omega)]
      exact Ev.now _
    · simp only [decide_eq_false hn, Bool.not_false, Bool.false_eq_true, if_false]
      exact j1
def needM (s : ByteArray) : Int := if s.toList = ([110, 101, 103] : List UInt8) then 1 else (if s.toList = ([100, 117, 112] : List UInt8) then 1 else (if s.toList = ([112, 111, 112] : List UInt8) then 1 else 2))
def opOut (y l : List Int) (s : ByteArray) : List Int := if s.toList = ([97, 100, 100] : List UInt8) then y ++ [wrap64 (rd l 0 + rd l 1)] else (if s.toList = ([115, 117, 98] : List UInt8) then y ++ [wrap64 (rd l 0 - rd l 1)] else (if s.toList = ([109, 117, 108] : List UInt8) then y ++ [wrap64 (rd l 0 * rd l 1)] else (if s.toList = ([101, 120, 99, 104] : List UInt8) then y ++ [rd l 1, rd l 0] else (if s.toList = ([110, 101, 103] : List UInt8) then y ++ [wrap64 (-(rd l 0))] else (if s.toList = ([100, 117, 112] : List UInt8) then y ++ [rd l 0, rd l 0] else (y))))))
def opFin (l o : List Int) : List Int × Bool := if stackB o = true then (o, true) else (l, false)
def opB (s : ByteArray) : Bool := (impl_IsStackOp.f s).getD false
theorem op_some (s : ByteArray) : impl_IsStackOp.f s = some (opB s) := by
  have ht : ∃ b, impl_IsStackOp.f s = some b := by
    unfold impl_IsStackOp.f
    repeat' split
    all_goals exact ⟨_, rfl⟩
  obtain ⟨b, hb⟩ := ht
  unfold opB
  rw [hb]
  rfl
def opM (l : List Int) (s : ByteArray) : List Int × Bool := if ((takeM l (needM s)).2.2 && opB s) = true then opFin l (opOut (takeM l (needM s)).1 (takeM l (needM s)).2.1 s) else (l, false)
theorem take_lens (l : List Int) (n : Int) (h : (takeM l n).2.2 = true) : (takeM l n).1.length ≤ 12 ∧ ((takeM l n).2.1.length : Int) = n := by
  unfold takeM at h ⊢
  by_cases hc : (stackB l && decide (0 ≤ n ∧ n ≤ (l.length : Int))) = true
  · simp only [if_pos hc] at h ⊢
    rw [Bool.and_eq_true] at hc
    have h1 := stack_len l hc.1
    have h2 := of_decide_eq_true hc.2
    simp only [List.length_take, List.length_drop]
    omega
  · simp only [if_neg hc] at h
    exact absurd h (by decide)
theorem impl_fin (l o : List Int) (hl : l.length ≤ 1048577) (ho : o.length ≤ 14) : Ev (fun k => impl_StackOp.j2 k l o) (opFin l o) := by
  unfold opFin
  refine Ev.step (fun k => impl_StackOp.j2.eq_2 _ _ k) ?_
  refine Ev.bind (impl_stack o) ?_
  cases stackB o with
  | false =>
    simp only [Bool.false_eq_true, if_false, impl_clone l (show l.length ≤ 1048578 by omega), Option.bind_some]
    exact Ev.now _
  | true =>
    simp only [if_true]
    exact Ev.now _
theorem impl_out (x y l : List Int) (s : ByteArray) (hx : x.length ≤ 1048577) (hy : y.length ≤ 12) (hl : (l.length : Int) = needM s) :
    Ev (fun k => impl_StackOp.j1 k x s y l false) (opFin x (opOut y l s)) := by
  unfold opOut
  refine Ev.step (fun k => impl_StackOp.j1.eq_2 _ _ _ _ _ k) ?_
  simp only [Bool.false_eq_true, if_false, Option.bind_some, List.length_cons, List.length_nil]
  by_cases h0 : s.toList = ([97, 100, 100] : List UInt8)
  · have hn : needM s = 2 := by
      unfold needM
      rw [h0]
      decide
    simp only [if_pos h0, if_pos (show 0 < (l.length : Int) by omega), if_pos (show 1 < (l.length : Int) by omega), if_pos (show y.length < 17592186044416 by omega), if_pos (show y.length + (0 + 1 + 1) < 17592186044416 by omega)]
    exact impl_fin _ _ hx (by simp; try omega)
  simp only [if_neg h0]
  by_cases h1 : s.toList = ([115, 117, 98] : List UInt8)
  · have hn : needM s = 2 := by
      unfold needM
      rw [h1]
      decide
    simp only [if_pos h1, if_pos (show 0 < (l.length : Int) by omega), if_pos (show 1 < (l.length : Int) by omega), if_pos (show y.length < 17592186044416 by omega), if_pos (show y.length + (0 + 1 + 1) < 17592186044416 by omega)]
    exact impl_fin _ _ hx (by simp; try omega)
  simp only [if_neg h1]
  by_cases h2 : s.toList = ([109, 117, 108] : List UInt8)
  · have hn : needM s = 2 := by
      unfold needM
      rw [h2]
      decide
    simp only [if_pos h2, if_pos (show 0 < (l.length : Int) by omega), if_pos (show 1 < (l.length : Int) by omega), if_pos (show y.length < 17592186044416 by omega), if_pos (show y.length + (0 + 1 + 1) < 17592186044416 by omega)]
    exact impl_fin _ _ hx (by simp; try omega)
  simp only [if_neg h2]
  by_cases h3 : s.toList = ([101, 120, 99, 104] : List UInt8)
  · have hn : needM s = 2 := by
      unfold needM
      rw [h3]
      decide
    simp only [if_pos h3, if_pos (show 0 < (l.length : Int) by omega), if_pos (show 1 < (l.length : Int) by omega), if_pos (show y.length < 17592186044416 by omega), if_pos (show y.length + (0 + 1 + 1) < 17592186044416 by omega)]
    exact impl_fin _ _ hx (by simp; try omega)
  simp only [if_neg h3]
  by_cases h4 : s.toList = ([110, 101, 103] : List UInt8)
  · have hn : needM s = 1 := by
      unfold needM
      rw [h4]
      decide
    simp only [if_pos h4, if_pos (show 0 < (l.length : Int) by omega), if_pos (show y.length < 17592186044416 by omega), if_pos (show y.length + (0 + 1 + 1) < 17592186044416 by omega)]
    exact impl_fin _ _ hx (by simp; try omega)
  simp only [if_neg h4]
  by_cases h5 : s.toList = ([100, 117, 112] : List UInt8)
  · have hn : needM s = 1 := by
      unfold needM
      rw [h5]
      decide
    simp only [if_pos h5, if_pos (show 0 < (l.length : Int) by omega), if_pos (show y.length < 17592186044416 by omega), if_pos (show y.length + (0 + 1 + 1) < 17592186044416 by omega)]
    exact impl_fin _ _ hx (by simp; try omega)
  simp only [if_neg h5]
  exact impl_fin _ _ hx (by omega)
theorem impl_op (l : List Int) (s : ByteArray) (hl : l.length ≤ 1048577) : Ev (fun k => impl_StackOp.f k l s) (opM l s) := by
  have h1 : Ev (fun k => impl_StackOp.j0 k l s (needM s)) (opM l s) := by
    refine Ev.step (fun k => impl_StackOp.j0.eq_2 _ _ _ k) ?_
    refine Ev.bind (impl_take l _ (by omega)) ?_
    unfold opM
    have j (y m : List Int) : Ev (fun k => impl_StackOp.j1 k l s y m true) (l, false) := by
      refine Ev.step (fun k => impl_StackOp.j1.eq_2 _ _ _ _ _ k) ?_
      simp only [if_true, impl_clone l (show l.length ≤ 1048578 by omega), Option.bind_some]
      exact Ev.now _
    by_cases h : (takeM l (needM s)).2.2 = true
    · simp only [if_pos h, op_some, Option.bind_some]
      obtain ⟨h2, h3⟩ := take_lens _ _ h
      cases ho : opB s with
      | false =>
        simp only [Bool.not_false, h, Bool.and_false, Bool.false_eq_true, if_false]
        exact j _ _
      | true =>
        simp only [Bool.not_true, h, Bool.and_true, if_true]
        exact impl_out _ _ _ _ (by omega) h2 h3
    · simp only [if_neg h, eq_false_of_ne_true h, Bool.false_and, Bool.false_eq_true, if_false]
      exact j _ _
  unfold impl_StackOp.f
  by_cases a1 : s.toList = ([110, 101, 103] : List UInt8)
  · simp only [if_pos a1]
    have : needM s = 1 := by unfold needM; rw [if_pos a1]
    rw [this] at h1
    exact h1
  simp only [if_neg a1]
  by_cases a2 : s.toList = ([100, 117, 112] : List UInt8)
  · simp only [if_pos a2]
    have : needM s = 1 := by unfold needM; rw [if_neg a1, if_pos a2]
    rw [this] at h1
    exact h1
  simp only [if_neg a2]
  by_cases a3 : s.toList = ([112, 111, 112] : List UInt8)
  · simp only [if_pos a3]
    have : needM s = 1 := by unfold needM; rw [if_neg a1, if_neg a2, if_pos a3]
    rw [this] at h1
    exact h1
  · simp only [if_neg a3]
    have : needM s = 2 := by unfold needM; rw [if_neg a1, if_neg a2, if_neg a3]
    rw [this] at h1
    exact h1
theorem draw_stack (l : List Int) (hl : l.length ≤ 1048576) : ∃ q, Ev (fun k => spec_DrawStack.f k l) q ∧ q.length ≤ 8 ∧ ∀ p ∈ q, -9999 ≤ p ∧ p ≤ 9999 := by
  obtain ⟨h0, e0⟩ := draw_new l hl
  have loop : ∀ (d j m : Nat) (i h : Int) (q : List Int), Cur l i → j + d = m → m ≤ 8 → q.length = j → (∀ p ∈ q, -9999 ≤ p ∧ p ≤ 9999) →
      ∃ q' i' h', Ev (fun k => spec_l05Stack.l0 k q (m : Int) (j : Int) l i h) (q', i', h') ∧ q'.length ≤ 8 ∧ (∀ p ∈ q', -9999 ≤ p ∧ p ≤ 9999) := by
    intro d
    induction d with
    | zero =>
      intro j m i h q hc hj hm hq hp
      refine ⟨q, i, h, Ev.step (fun k => spec_l05Stack.l0.eq_2 _ _ _ _ _ _ k) ?_, by omega, hp⟩
      simp only [if_neg (show ¬ (j : Int) < (m : Int) by omega)]
      exact Ev.now _
    | succ d ih =>
      intro j m i h q hc hj hm hq hp
      obtain ⟨v, i2, h2, e2, c2, v0, v1⟩ := draw_below l hl i h 200 hc (by omega)
      obtain ⟨u, i3, h3, e3, c3, hu⟩ := draw_pick l hl i2 h2 [0, 1, (-1), 9999, (-9999), v] c2 (by simp)
      have hu2 : -9999 ≤ u ∧ u ≤ 9999 := by
        simp only [List.mem_cons, List.not_mem_nil, or_false] at hu
        omega
      obtain ⟨q', i', h', e', hl', hp'⟩ := ih (j + 1) m i3 h3 (q ++ [u]) c3 (by omega) hm (by simp; omega) (by
        intro p hm
        rw [List.mem_append] at hm
        rcases hm with hm | hm
        · exact hp p hm
        · rw [List.mem_singleton] at hm
          subst hm
          exact hu2)
      refine ⟨q', i', h', Ev.step (fun k => spec_l05Stack.l0.eq_2 _ _ _ _ _ _ k) ?_, hl', hp'⟩
      simp only [if_pos (show (j : Int) < (m : Int) by omega), e2, e3, Option.bind_some, if_pos (show q.length < 17592186044416 by omega)]
      rw [wrap_succ j (by omega)]
      exact e'
  obtain ⟨m, i1, h1, e1, c1, m0, m1⟩ := draw_below l hl 0 h0 9 ⟨by omega, by omega⟩ (by omega)
  obtain ⟨n, rfl⟩ := Int.eq_ofNat_of_zero_le m0
  obtain ⟨q, i', h', e, hlen, hp⟩ := loop n 0 n i1 h1 [] c1 (by omega) (by omega) rfl (by simp)
  refine ⟨q, ?_, hlen, hp⟩
  unfold spec_DrawStack.f
  refine Ev.bind e0 ?_
  have e5 : Ev (fun k => spec_l05Stack.f k l 0 h0) (q, i', h') := by
    unfold spec_l05Stack.f
    simp only [e1, Option.bind_some]
    exact e
  refine Ev.bind e5 ?_
  exact Ev.now _
theorem same_ints_loop (l m : List Int) (h : l = m) (hl : l.length ≤ 1048577) : ∀ (d i : Nat), i + d = l.length →
    Ev (fun k => laws_sameInts.l0 k l m (i : Int)) true := by
  subst h
  intro d
  induction d with
  | zero =>
    intro i hi
    refine Ev.step (fun k => laws_sameInts.l0.eq_2 _ _ _ k) ?_
    simp only [if_neg (show ¬ (i : Int) < (l.length : Int) by omega)]
    exact Ev.now _
  | succ d ih =>
    intro i hi
    refine Ev.step (fun k => laws_sameInts.l0.eq_2 _ _ _ k) ?_
    simp only [if_pos (show (i : Int) < (l.length : Int) by omega), if_pos (show (0 : Int) ≤ (i : Int) by omega), if_true]
    rw [wrap_succ i (by omega)]
    exact ih (i + 1) (by omega)
theorem same_ints (l : List Int) (hl : l.length ≤ 1048577) : Ev (fun k => laws_sameInts.f k l l) true := by
  unfold laws_sameInts.f
  simp only [if_true]
  simpa using same_ints_loop l l rfl hl l.length 0 (by omega)
theorem stack_ok (l : List Int) (h : l.length ≤ 12) (hp : ∀ p ∈ l, -9999 ≤ p ∧ p ≤ 9999) : stackB l = true := by
  unfold stackB
  rw [decide_eq_true h, Bool.true_and, List.all_eq_true]
  intro x hx
  exact decide_eq_true (hp x hx)
theorem stack_mem (l : List Int) (h : stackB l = true) : ∀ p ∈ l, -9999 ≤ p ∧ p ≤ 9999 := by
  unfold stackB at h
  rw [Bool.and_eq_true, List.all_eq_true] at h
  intro x hx
  exact of_decide_eq_true (h.2 x hx)
theorem take_ok (q m : List Int) (h : stackB (q ++ m) = true) : takeM (q ++ m) (m.length : Int) = (q, m, true) := by
  unfold takeM
  rw [h, decide_eq_true (show 0 ≤ (m.length : Int) ∧ (m.length : Int) ≤ ((q ++ m).length : Int) by rw [List.length_append]; omega)]
  simp only [Bool.and_self, if_true, Int.toNat_natCast, List.length_append]
  rw [show q.length + m.length - m.length = q.length by omega, List.take_left, List.drop_left]
theorem push_ok (q : List Int) (n : Int) (h : stackB (q ++ [n]) = true) : pushM q n = (q ++ [n], true) := by
  have h1 : stackB q = true := by
    have h2 := stack_len _ h
    rw [List.length_append] at h2
    exact stack_ok q (by omega) fun p hp => stack_mem _ h p (List.mem_append_left _ hp)
  unfold pushM
  rw [h, h1]
  rfl
def needL (s : List UInt8) : Int := if s = ([110, 101, 103] : List UInt8) then 1 else (if s = ([100, 117, 112] : List UInt8) then 1 else (if s = ([112, 111, 112] : List UInt8) then 1 else 2))
def outL (y l : List Int) (s : List UInt8) : List Int := if s = ([97, 100, 100] : List UInt8) then y ++ [wrap64 (rd l 0 + rd l 1)] else (if s = ([115, 117, 98] : List UInt8) then y ++ [wrap64 (rd l 0 - rd l 1)] else (if s = ([109, 117, 108] : List UInt8) then y ++ [wrap64 (rd l 0 * rd l 1)] else (if s = ([101, 120, 99, 104] : List UInt8) then y ++ [rd l 1, rd l 0] else (if s = ([110, 101, 103] : List UInt8) then y ++ [wrap64 (-(rd l 0))] else (if s = ([100, 117, 112] : List UInt8) then y ++ [rd l 0, rd l 0] else (y))))))
def opL (s : List UInt8) : Bool := (if s = ([97, 100, 100] : List UInt8) then (some true) else (if s = ([115, 117, 98] : List UInt8) then (some true) else (if s = ([109, 117, 108] : List UInt8) then (some true) else (if s = ([110, 101, 103] : List UInt8) then (some true) else (if s = ([100, 117, 112] : List UInt8) then (some true) else (if s = ([112, 111, 112] : List UInt8) then (some true) else (if s = ([101, 120, 99, 104] : List UInt8) then (some true) else (some false)))))))).getD false
theorem needM_l (s : ByteArray) : needM s = needL s.toList := rfl
theorem opOut_l (y l : List Int) (s : ByteArray) : opOut y l s = outL y l s.toList := rfl
theorem opB_l (s : ByteArray) : opB s = opL s.toList := rfl
theorem tl_exch : (⟨#[101, 120, 99, 104]⟩ : ByteArray).toList = [101, 120, 99, 104] := by kernel_rfl
theorem tl_neg : (⟨#[110, 101, 103]⟩ : ByteArray).toList = [110, 101, 103] := by kernel_rfl
theorem tl_dup : (⟨#[100, 117, 112]⟩ : ByteArray).toList = [100, 117, 112] := by kernel_rfl
theorem tl_pop : (⟨#[112, 111, 112]⟩ : ByteArray).toList = [112, 111, 112] := by kernel_rfl
theorem tl_add : (⟨#[97, 100, 100]⟩ : ByteArray).toList = [97, 100, 100] := by kernel_rfl
theorem op_ok (q m o : List Int) (s : ByteArray) (L : List UInt8) (hL : s.toList = L) (hn : needL L = (m.length : Int)) (hb : opL L = true) (h : stackB (q ++ m) = true) (ho : outL q m L = o) (hs : stackB o = true) : opM (q ++ m) s = (o, true) := by
  unfold opM
  rw [needM_l, opB_l, hL, hn, take_ok q m h]
  simp only [hb, Bool.and_self, if_true]
  unfold opFin
  rw [opOut_l, hL, ho, hs]
  rfl
theorem FnStacks : laws_FnStacks.Pure := by
  intro l hm hs hw
  unfold laws_FnStacks.f laws_big.f
  simp only [Option.bind_some]
  by_cases hb : (l.length : Int) > 1048576
  · refine Ev.rounds ?_
    simp only [decide_eq_true hb, if_true]
    exact Ev.now _
  refine Ev.rounds ?_
  simp only [decide_eq_false hb, Bool.false_eq_true, if_false]
  obtain ⟨q, eq, hq, hqp⟩ := draw_stack l (by omega)
  obtain ⟨p, ep, hp, hpp⟩ := draw_places l (by omega)
  refine Ev.bind eq ?_
  refine Ev.bind ep ?_
  simp only [if_pos (show 0 < (p.length : Int) by omega), if_pos (show 1 < (p.length : Int) by omega)]
  have a0 := place_at p hp hpp 0 (by omega)
  have b0 := place_at p hp hpp 1 (by omega)
  have ha := tmod_low (rd p 0) 50 a0.1 (by omega)
  have hb := tmod_low (rd p 1) 50 b0.1 (by omega)
  generalize Int.tmod (rd p 0) 50 = a at ha
  generalize Int.tmod (rd p 1) 50 = b at hb
  clear a0 b0
  have mem (o : List Int) (m : List Int) (hm : m.length ≤ 4) (ho : ∀ x ∈ m, -9999 ≤ x ∧ x ≤ 9999) : stackB (q ++ m) = true := by
    refine stack_ok _ (by rw [List.length_append]; omega) ?_
    intro x hx
    rw [List.mem_append] at hx
    rcases hx with hx | hx
    · exact hqp x hx
    · exact ho x hx
  have s1 : stackB (q ++ [a]) = true := mem [] [a] (by simp) (by simp; omega)
  have s2 : stackB (q ++ [a, b]) = true := mem [] [a, b] (by simp) (by simp; omega)
  have s3 : stackB (q ++ [b, a]) = true := mem [] [b, a] (by simp) (by simp; omega)
  have s4 : stackB (q ++ [a, -b]) = true := mem [] [a, -b] (by simp) (by simp; omega)
  have s5 : stackB (q ++ [a, b, b]) = true := mem [] [a, b, b] (by simp) (by simp; omega)
  have s6 : stackB (q ++ [a + b]) = true := mem [] [a + b] (by simp) (by simp; omega)
  have p1 := impl_push q a (by omega)
  rw [push_ok q a s1] at p1
  have e2 : (q ++ [a]) ++ [b] = q ++ [a, b] := by simp
  have e3 : (q ++ [a]) ++ [-b] = q ++ [a, -b] := by simp
  have e4 : (q ++ [a]) ++ [b, b] = q ++ [a, b, b] := by simp
  have e5 : (q ++ [a, b]) ++ [b] = q ++ [a, b, b] := by simp
  have n1 : (q ++ [a]).length ≤ 1048577 := by simp; omega
  have n2 : (q ++ [a, b]).length ≤ 1048577 := by simp; omega
  have n3 : (q ++ [b, a]).length ≤ 1048577 := by simp; omega
  have n4 : (q ++ [a, -b]).length ≤ 1048577 := by simp; omega
  have n5 : (q ++ [a, b, b]).length ≤ 1048577 := by simp; omega
  have p2 := impl_push (q ++ [a]) b n1
  rw [push_ok (q ++ [a]) b (by rw [e2]; exact s2), e2] at p2
  have x1 := impl_op (q ++ [a, b]) (⟨#[101, 120, 99, 104]⟩ : ByteArray) n2
  rw [op_ok q [a, b] (q ++ [b, a]) _ _ tl_exch rfl rfl s2 rfl s3] at x1
  have x2 := impl_op (q ++ [b, a]) (⟨#[101, 120, 99, 104]⟩ : ByteArray) n3
  rw [op_ok q [b, a] (q ++ [a, b]) _ _ tl_exch rfl rfl s3 rfl s2] at x2
  have x3 := impl_op (q ++ [a, b]) (⟨#[110, 101, 103]⟩ : ByteArray) n2
  have w3 : wrap64 (-b) = -b := wrap_id (by omega) (by omega)
  have w4 : wrap64 (-(-b)) = b := by rw [Int.neg_neg]; exact wrap_id (by omega) (by omega)
  have w5 : wrap64 (a + b) = a + b := wrap_id (by omega) (by omega)
  rw [← e2, op_ok (q ++ [a]) [b] (q ++ [a, -b]) _ _ tl_neg rfl rfl (by rw [e2]; exact s2) (by rw [← e3]; exact congrArg (fun z => (q ++ [a]) ++ [z]) w3) s4, e2] at x3
  have x4 := impl_op (q ++ [a, -b]) (⟨#[110, 101, 103]⟩ : ByteArray) n4
  rw [← e3, op_ok (q ++ [a]) [-b] (q ++ [a, b]) _ _ tl_neg rfl rfl (by rw [e3]; exact s4) (by rw [← e2]; exact congrArg (fun z => (q ++ [a]) ++ [z]) w4) s2, e3] at x4
  have x5 := impl_op (q ++ [a, b]) (⟨#[100, 117, 112]⟩ : ByteArray) n2
  rw [← e2, op_ok (q ++ [a]) [b] (q ++ [a, b, b]) _ _ tl_dup rfl rfl (by rw [e2]; exact s2) (by rw [← e4]; rfl) s5, e2] at x5
  have x6 := impl_op (q ++ [a, b, b]) (⟨#[112, 111, 112]⟩ : ByteArray) n5
  rw [← e5, op_ok (q ++ [a, b]) [b] (q ++ [a, b]) _ _ tl_pop rfl rfl (by rw [e5]; exact s5) rfl s2, e5] at x6
  have x7 := impl_op (q ++ [a, b]) (⟨#[97, 100, 100]⟩ : ByteArray) n2
  rw [op_ok q [a, b] (q ++ [a + b]) _ _ tl_add rfl rfl s2 (congrArg (fun z => q ++ [z]) w5) s6] at x7
  have x8 := impl_take (q ++ [a, b]) 2 (by omega)
  rw [show (2 : Int) = (([a, b] : List Int).length : Int) from rfl, take_ok q [a, b] s2] at x8
  have x9 := impl_stack (q ++ [a, b])
  rw [s2] at x9
  refine Ev.bind p1 ?_
  refine Ev.bind p2 ?_
  refine Ev.bind x1 ?_
  refine Ev.bind x2 ?_
  refine Ev.bind x3 ?_
  refine Ev.bind x4 ?_
  refine Ev.bind x5 ?_
  refine Ev.bind x6 ?_
  refine Ev.bind x7 ?_
  refine Ev.bind x8 ?_
  simp only [if_true]
  refine Ev.bind (same_ints _ n2) ?_
  simp only [if_true]
  refine Ev.bind (same_ints _ n2) ?_
  simp only [if_true]
  refine Ev.bind (same_ints _ n2) ?_
  simp only [if_true]
  refine Ev.bind (same_ints _ (by omega)) ?_
  simp only [if_true]
  refine Ev.bind (same_ints _ (by simp)) ?_
  have h1 : ((q ++ [a + b]).length : Int) = (q.length : Int) + 1 := by simp
  have h2 : rd (q ++ [a + b]) (q.length : Int) = a + b := by
    rw [rd_lt _ q.length (by simp)]
    simp
  rw [h1, h2, w5, wrap_id (x := (q.length : Int) + 1) (by omega) (by omega)]
  simp only [if_true, if_pos (show (0 : Int) ≤ (q.length : Int) by omega), if_pos (show (q.length : Int) < (q.length : Int) + 1 by omega)]
  refine Ev.bind x9 ?_
  have x10 : impl_IsStackOp.f (⟨#[101, 120, 99, 104]⟩ : ByteArray) = some true := by
    rw [op_some, opB_l, tl_exch]
    rfl
  simp only [if_true, x10, Option.bind_some]
  exact Ev.now _

end Go.Proofs.Ytgpiboajpolmoaa.Pure
