/- Exactly the numbers in the range 0 to MaxUint can be parsed from their decimal text. (P1) This is its pure statement, over numbers and lists, as printed from the program; the row is built on it.
   Conditions: none. -/
import Derived.Test.YtmhnnmjjebolpaaDoorGFnNumbersx2
namespace Go.Proofs.YtmhnnmjjebolpaaDoor.Pure
set_option linter.unusedSimpArgs false
set_option linter.unusedVariables false
open Go.RowKit Go.Proofs.YtmhnnmjjebolpaaDoor.GFnNumbers Go.Proofs.YtmhnnmjjebolpaaDoorW.PrintWords Go.Proofs.YtmhnnmjjebolpaaDoorW.PrintLast

theorem wrap_id {x : Int} (h0 : -9223372036854775808 ≤ x) (h1 : x ≤ 9223372036854775807) : wrap64 x = x := by
  unfold wrap64
  omega
theorem wrap_succ (i : Nat) (h : i < 4611686018427387904) : wrap64 ((i : Int) + 1) = ((i + 1 : Nat) : Int) := by
  rw [wrap_id (by omega) (by omega)]
  omega
theorem rd_lt (l : List Int) (i : Nat) (h : i < l.length) : rd l (i : Int) = l[i] := by
  unfold rd
  rw [Int.toNat_natCast, List.getD_eq_getElem?_getD, List.getElem?_eq_getElem h]
  rfl
theorem set_take {α : Type} (l x : List α) (i : Nat) (hi : i < l.length) (hx : x.length = l.length) (h : x.take i = l.take i) :
    (x.set i l[i]).take (i + 1) = l.take (i + 1) := by
  rw [List.take_succ_eq_append_getElem (by simp; omega), List.take_succ_eq_append_getElem hi, List.getElem_set_self, List.take_set_of_le (Nat.le_refl i), h]
def allFrom (p : Nat → Bool) (n i : Nat) : Bool := (List.range' i (n - i)).all p
theorem all_end (p : Nat → Bool) (n : Nat) : allFrom p n n = true := by simp [allFrom]
theorem all_step (p : Nat → Bool) (n i : Nat) (h : i < n) : allFrom p n i = (p i && allFrom p n (i + 1)) := by
  unfold allFrom
  rw [show n - i = (n - (i + 1)) + 1 by omega, List.range'_succ, List.all_cons]
theorem all_iff (p : Nat → Bool) (n i : Nat) : allFrom p n i = true ↔ ∀ j, i ≤ j → j < n → p j = true := by
  unfold allFrom
  rw [List.all_eq_true]
  constructor
  · intro h j h1 h2
    exact h j (List.mem_range'_1.2 ⟨h1, by omega⟩)
  · intro h j hj
    have := List.mem_range'_1.1 hj
    exact h j this.1 (by omega)
theorem and_low (x : Int) : 0 ≤ Go.bits .and .i64 x 255 ∧ Go.bits .and .i64 x 255 ≤ 255 := by
  have h : ((BitVec.ofInt 64 x) &&& (BitVec.ofInt 64 255)).toNat ≤ 255 := by
    rw [BitVec.toNat_and]
    exact Nat.and_le_right
  have e : Go.bits .and .i64 x 255 = IntKind.i64.wrap ((((BitVec.ofInt 64 x) &&& (BitVec.ofInt 64 255)).toNat : Nat) : Int) := rfl
  rw [e]
  generalize ((BitVec.ofInt 64 x) &&& (BitVec.ofInt 64 255)).toNat = n at h
  have e2 : IntKind.i64.wrap ((n : Nat) : Int) = n := by
    simp only [IntKind.wrap, IntKind.bits, IntKind.signed]
    simp
    omega
  rw [e2]
  omega
theorem draw_new (l : List Int) (hl : l.length ≤ 1048576) : ∃ h, Ev (fun k => spec_l01New.f k l) (l, 0, h) := by
  unfold spec_l01New.f
  have loop : ∀ (d i : Nat) (h : Int), i + d = l.length → ∃ h', Ev (fun k => spec_l01New.l0 k l h (i : Int)) (l, 0, h') := by
    intro d
    induction d with
    | zero =>
      intro i h hi
      refine ⟨h, Ev.step (fun k => spec_l01New.l0.eq_2 _ _ _ k) ?_⟩
      simp only [if_neg (show ¬ (i : Int) < (l.length : Int) by omega)]
      exact Ev.now _
    | succ d ih =>
      intro i h hi
      by_cases hc : (i : Int) < 4000
      · obtain ⟨h', hh⟩ := ih (i + 1) (Go.bits .and .i64 (wrap64 ((wrap64 ((wrap64 (h * 131)) + (wrap64 (rd l i)))) + 7)) 1073741823) (by omega)
        refine ⟨h', Ev.step (fun k => spec_l01New.l0.eq_2 _ _ _ k) ?_⟩
        simp only [if_pos (show (i : Int) < (l.length : Int) by omega), if_pos hc, if_pos (show (0 : Int) ≤ (i : Int) by omega)]
        rw [wrap_succ i (by omega)]
        exact hh
      · refine ⟨h, Ev.step (fun k => spec_l01New.l0.eq_2 _ _ _ k) ?_⟩
        simp only [if_pos (show (i : Int) < (l.length : Int) by omega), if_neg hc]
        exact Ev.now _
  exact loop l.length 0 _ (by omega)
/-- A place in the bytes of a draw. -/
def Cur (l : List Int) (i : Int) : Prop := 0 ≤ i ∧ i ≤ (l.length : Int)
theorem draw_byte (l : List Int) (hl : l.length ≤ 1048576) (i h : Int) (hi : Cur l i) : ∃ v i' h', spec_l01Byte.f l i h = some (v, i', h') ∧ Cur l i' ∧ 0 ≤ v ∧ v ≤ 255 := by
  unfold spec_l01Byte.f
  unfold Cur at *
  by_cases hc : i < (l.length : Int)
  · rw [if_pos hc, if_pos hi.1]
    exact ⟨_, _, _, rfl, by rw [wrap_id (by omega) (by omega)]; omega, (and_low _).1, (and_low _).2⟩
  · rw [if_neg hc]
    exact ⟨_, _, _, rfl, hi, (and_low _).1, (and_low _).2⟩
theorem tmod_low (v n : Int) (h0 : 0 ≤ v) (hn : 0 < n) : 0 ≤ Int.tmod v n ∧ Int.tmod v n < n :=
  ⟨Int.tmod_nonneg n h0, Int.tmod_lt_of_pos v hn⟩
theorem draw_below (l : List Int) (hl : l.length ≤ 1048576) (i h n : Int) (hi : Cur l i) (hn : 0 < n) : ∃ v i' h', spec_l01Below.f l i h n = some (v, i', h') ∧ Cur l i' ∧ 0 ≤ v ∧ v < n := by
  unfold spec_l01Below.f
  rw [if_neg (by omega)]
  by_cases hc : n ≤ 256
  · rw [if_pos hc]
    obtain ⟨v, i1, h1, e, c1, v0, v1⟩ := draw_byte l hl i h hi
    rw [e]
    simp only [Option.bind_some]
    rw [if_neg (by omega)]
    exact ⟨_, _, _, rfl, c1, tmod_low v n v0 hn⟩
  · rw [if_neg hc]
    obtain ⟨a, i1, h1, e1, c1, a0, a1⟩ := draw_byte l hl i h hi
    obtain ⟨b, i2, h2, e2, c2, b0, b1⟩ := draw_byte l hl i1 h1 c1
    obtain ⟨c, i3, h3, e3, c3, x0, x1⟩ := draw_byte l hl i2 h2 c2
    obtain ⟨d, i4, h4, e4, c4, d0, d1⟩ := draw_byte l hl i3 h3 c3
    simp only [e1, e2, e3, e4, Option.bind_some]
    rw [if_neg (by omega)]
    refine ⟨_, _, _, rfl, c4, ?_⟩
    rw [wrap_id (x := a * 16777216) (by omega) (by omega), wrap_id (x := b * 65536) (by omega) (by omega), wrap_id (x := c * 256) (by omega) (by omega),
      wrap_id (x := a * 16777216 + b * 65536) (by omega) (by omega), wrap_id (x := a * 16777216 + b * 65536 + c * 256) (by omega) (by omega), wrap_id (by omega) (by omega)]
    exact tmod_low _ n (by omega) hn
theorem draw_once (l : List Int) (hl : l.length ≤ 1048576) (i h n : Int) (hi : Cur l i) (hn : 0 < n) : ∃ v i' h', spec_l01Once.f l i h n = some (v, i', h') ∧ Cur l i' := by
  unfold spec_l01Once.f
  obtain ⟨v, i1, h1, e, c1, _⟩ := draw_below l hl i h n hi hn
  rw [e]
  exact ⟨_, _, _, rfl, c1⟩
theorem draw_pick (l : List Int) (hl : l.length ≤ 1048576) (i h : Int) (m : List Int) (hi : Cur l i) (hm : 0 < m.length) : ∃ v i' h', spec_l01PickInt.f l i h m = some (v, i', h') ∧ Cur l i' ∧ v ∈ m := by
  unfold spec_l01PickInt.f
  obtain ⟨v, i1, h1, e, c1, v0, v1⟩ := draw_below l hl i h (m.length : Int) hi (by omega)
  rw [e]
  simp only [Option.bind_some]
  rw [if_pos v0, if_pos v1]
  refine ⟨_, _, _, rfl, c1, ?_⟩
  obtain ⟨n, rfl⟩ := Int.eq_ofNat_of_zero_le v0
  rw [rd_lt m n (by omega)]
  exact List.getElem_mem _
theorem draw_number (l : List Int) (hl : l.length ≤ 1048576) (i h : Int) (hi : Cur l i) : ∃ v i' h', spec_l01Number.f l i h = some (v, i', h') ∧ Cur l i' ∧ -9223372036854775808 ≤ v ∧ v ≤ 9223372036854775807 := by
  unfold spec_l01Number.f
  obtain ⟨v, i1, h1, e, c1, _⟩ := draw_below l hl i h 4 hi (by omega)
  rw [e]
  simp only [Option.bind_some]
  by_cases h0 : v = 0
  · rw [if_pos h0]
    obtain ⟨v, i2, h2, e2, c2, hv⟩ := draw_pick l hl i1 h1 [(-1), 0, 127, 128, 16383, 16384, 1000000000, 1000000001, 9223372036854775807, (-9223372036854775808)] c1 (by simp)
    rw [e2]
    refine ⟨_, _, _, rfl, c2, ?_⟩
    simp only [List.mem_cons, List.not_mem_nil, or_false] at hv
    omega
  · rw [if_neg h0]
    by_cases h1 : v = 1
    · rw [if_pos h1]
      obtain ⟨v, i2, h2, e2, c2, v0, v1⟩ := draw_below l hl i1 _ 1000000000 c1 (by omega)
      rw [e2]
      exact ⟨_, _, _, rfl, c2, by omega, by omega⟩
    · rw [if_neg h1]
      obtain ⟨v, i2, h2, e2, c2, v0, v1⟩ := draw_below l hl i1 _ 400 c1 (by omega)
      rw [e2]
      exact ⟨_, _, _, rfl, c2, by omega, by omega⟩
theorem str_app (a b : List UInt8) : (⟨a.toArray⟩ : ByteArray) ++ ⟨b.toArray⟩ = ⟨(a ++ b).toArray⟩ := by
  apply ByteArray.ext
  rw [ByteArray.data_append]
  simp
theorem nDigits_le : ∀ (k m : Nat), m < 10 ^ (k + 1) → Lib.nDigits m ≤ k + 1
  | 0, m, h => by rw [Lib.nDigits, dif_pos (by omega)]; omega
  | k + 1, m, h => by
    by_cases h10 : m < 10
    · rw [Lib.nDigits, dif_pos h10]; omega
    · rw [Lib.nDigits, dif_neg h10]
      have := nDigits_le k (m / 10) (by rw [Nat.pow_succ] at h; omega)
      omega
theorem bt_get (a : ByteArray) (i : Nat) (h : i < a.size) : bt a (i : Int) = ((a.data.getD i 0).toNat : Int) := by
  have e : a.data.getD i 0 = a[i] := by
    rw [Array.getD_eq_getD_getElem?, Array.getElem?_eq_getElem (show i < a.data.size from h)]
    rfl
  rw [e]
  unfold bt
  rw [dif_pos (show (i : Int).toNat < a.size by omega)]
  rfl
theorem drop_bytes (a : ByteArray) (i : Nat) (h : i < a.size) : a.data.toList.drop i = a.data.getD i 0 :: a.data.toList.drop (i + 1) := by
  have hl : i < a.data.toList.length := by rw [Array.length_toList]; exact h
  rw [List.drop_eq_getElem_cons hl]
  congr 1
  rw [Array.getD_eq_getD_getElem?, Array.getElem?_eq_getElem (show i < a.data.size from h), Array.getElem_toList]
  rfl
theorem size_toList (a : ByteArray) : a.data.toList.length = a.size := by rw [Array.length_toList]; rfl
theorem size_mk (l : List UInt8) : (⟨l.toArray⟩ : ByteArray).size = l.length := by simp [ByteArray.size]
theorem toList_mk (l : List UInt8) : (⟨l.toArray⟩ : ByteArray).toList = l := by rw [Lib.toList_data]
/-- The number that a row of digits goes on to denote. -/
def digs : List UInt8 → Nat → Option Nat
  | [], n => some n
  | u :: r, n => if 48 ≤ u.toNat ∧ u.toNat ≤ 57 then digs r (10 * n + (u.toNat - 48)) else none
def fin (l : List UInt8) : Option Nat → Int × Bool
  | none => (0, false)
  | some n => if n > 1000000000 then (0, false) else if Lib.decDigits n = l then ((n : Int), true) else (0, false)
/-- What ParseUint answers. -/
def parM (l : List UInt8) : Int × Bool := if l.length > 10 then (0, false) else fin l (digs l 0)
theorem dec_ne (n : Nat) : Lib.decDigits n ≠ [] := by
  rw [Lib.decDigits]
  split <;> simp
theorem impl_parse_loop (a : ByteArray) (ha : a.size ≤ 10) : ∀ (d i n : Nat), i + d = a.size → n < 10 ^ i →
    Ev (fun k => impl_ParseUint.l0 k a (n : Int) (i : Int)) (fin a.data.toList (digs (a.data.toList.drop i) n)) := by
  intro d
  induction d with
  | zero =>
    intro i n hi hn
    have hp : 10 ^ i ≤ 10 ^ 10 := Nat.pow_le_pow_right (by omega) (by omega)
    have hq : (10 : Nat) ^ 10 = 10000000000 := by decide
    refine Ev.step (fun k => impl_ParseUint.l0.eq_2 _ _ _ k) ?_
    simp only [if_neg (show ¬ (i : Int) < (a.size : Int) by omega)]
    rw [List.drop_of_length_le (by rw [size_toList]; omega), digs]
    unfold fin
    by_cases hb : (n : Int) > 1000000000
    · simp only [if_pos hb, if_pos (show n > 1000000000 by omega)]
      exact Ev.now _
    · simp only [if_neg hb, if_neg (show ¬ n > 1000000000 by omega)]
      unfold impl_FormatInt.f
      simp only [if_pos (show -9223372036854775808 ≤ (n : Int) ∧ (n : Int) ≤ 9223372036854775807 by omega), Option.bind_some]
      rw [Lib.itoa_nonneg, toList_mk, Lib.toList_data]
      split <;> exact Ev.now _
  | succ d ih =>
    intro i n hi hn
    have hp : 10 ^ i ≤ 10 ^ 10 := Nat.pow_le_pow_right (by omega) (by omega)
    have hq : (10 : Nat) ^ 10 = 10000000000 := by decide
    have hu : (a.data.getD i 0).toNat < 256 := (a.data.getD i 0).toNat_lt
    refine Ev.step (fun k => impl_ParseUint.l0.eq_2 _ _ _ k) ?_
    simp only [if_pos (show (i : Int) < (a.size : Int) by omega), if_pos (show (0 : Int) ≤ (i : Int) by omega), bt_get a i (by omega)]
    rw [drop_bytes a i (by omega), digs]
    generalize (a.data.getD i 0).toNat = u at hu
    by_cases h1 : (u : Int) < 48
    · simp only [if_pos h1]
      rw [if_neg (by omega)]
      exact Ev.now _
    simp only [if_neg h1]
    by_cases h2 : (u : Int) > 57
    · simp only [if_pos h2]
      rw [if_neg (by omega)]
      exact Ev.now _
    simp only [if_neg h2]
    rw [if_pos (by omega)]
    have e : wrap64 (wrap64 ((n : Int) * 10) + ((u : Int) - 48) % 256) = ((10 * n + (u - 48) : Nat) : Int) := by
      rw [wrap_id (x := (n : Int) * 10) (by omega) (by omega), wrap_id (by omega) (by omega)]
      omega
    rw [e, wrap_succ i (by omega)]
    exact ih (i + 1) _ (by omega) (by rw [Nat.pow_succ]; omega)
theorem impl_parse (a : ByteArray) : Ev (fun k => impl_ParseUint.f k a) (parM a.data.toList) := by
  unfold impl_ParseUint.f
  by_cases h0 : (a.size : Int) = 0
  · simp only [if_pos h0]
    have hl : a.data.toList = [] := List.length_eq_zero_iff.1 (by rw [size_toList]; omega)
    have e : parM a.data.toList = (0, false) := by
      rw [hl]
      unfold parM fin
      rw [if_neg (by simp)]
      simp only [digs]
      rw [if_neg (by omega), if_neg (dec_ne 0)]
    rw [e]
    refine Ev.step (fun k => impl_ParseUint.j0.eq_2 _ _ k) ?_
    simp only [if_true]
    exact Ev.now _
  · simp only [if_neg h0]
    refine Ev.step (fun k => impl_ParseUint.j0.eq_2 _ _ k) ?_
    unfold parM
    rw [size_toList]
    by_cases h : (a.size : Int) > 10
    · simp only [decide_eq_true h, if_true, if_pos (show a.size > 10 by omega)]
      exact Ev.now _
    · simp only [decide_eq_false h, Bool.false_eq_true, if_false, if_neg (show ¬ a.size > 10 by omega)]
      exact impl_parse_loop a (by omega) a.size 0 0 (by omega) (by decide)
theorem digs_app : ∀ (a b : List UInt8) (n : Nat), digs (a ++ b) n = (digs a n).bind (digs b)
  | [], b, n => rfl
  | u :: r, b, n => by
    simp only [List.cons_append, digs]
    split
    · exact digs_app r b _
    · rfl
theorem digit_byte (n : Nat) (h : n < 10) : (UInt8.ofNat (48 + n)).toNat = 48 + n := by
  rw [UInt8.toNat_ofNat']
  omega
theorem digs_dec : ∀ (d m : Nat), m ≤ d → digs (Lib.decDigits m) 0 = some m := by
  intro d
  induction d with
  | zero =>
    intro m hm
    obtain rfl : m = 0 := by omega
    rw [Lib.decDigits_one (by omega)]
    simp only [digs, digit_byte 0 (by omega)]
    rfl
  | succ d ih =>
    intro m hm
    by_cases h10 : m < 10
    · rw [Lib.decDigits_one h10]
      simp only [digs, digit_byte m h10]
      rw [if_pos (by omega)]
      congr 1
      omega
    · rw [Lib.decDigits, dif_neg h10, digs_app, ih (m / 10) (by omega)]
      simp only [Option.bind_some, digs, digit_byte (m % 10) (Nat.mod_lt _ (by omega))]
      rw [if_pos (by omega)]
      congr 1
      omega
theorem par_dec (n : Nat) (h : n ≤ 1000000000) : parM (Lib.decDigits n) = ((n : Int), true) := by
  unfold parM
  have := nDigits_le 9 n (by have : (10 : Nat) ^ (9 + 1) = 10000000000 := by decide
                             omega)
  rw [Lib.decDigits_length, if_neg (by omega), digs_dec n n (Nat.le_refl _)]
  unfold fin
  simp only
  rw [if_neg (by omega)]
  simp only [if_true]
theorem par_big (n : Nat) (h : n > 1000000000) : parM (Lib.decDigits n) = (0, false) := by
  unfold parM
  split
  · rfl
  · rw [digs_dec n n (Nat.le_refl _)]
    unfold fin
    simp only
    rw [if_pos h]
theorem par_neg (l : List UInt8) : parM (45 :: l) = (0, false) := by
  unfold parM
  split
  · rfl
  · have e : digs (45 :: l) 0 = none := by
      rw [digs, if_neg]
      decide
    rw [e]
    rfl
theorem itoa_ne (a : Int) : Lib.itoa a ≠ [] := by
  unfold Lib.itoa
  split
  · simp
  · exact dec_ne _
theorem draw_format (l : List Int) (hl : l.length ≤ 1048576) : ∃ v, Ev (fun k => spec_DrawFormatInt.f k l) v ∧ -9223372036854775808 ≤ v ∧ v ≤ 9223372036854775807 := by
  unfold spec_DrawFormatInt.f
  obtain ⟨h0, e0⟩ := draw_new l hl
  have c0 : Cur l 0 := ⟨by omega, by omega⟩
  obtain ⟨b, i1, h1, e1, c1⟩ := draw_once l hl 0 h0 3 c0 (by omega)
  cases b with
  | true =>
    obtain ⟨v2, i2, h2, e2, c2, _⟩ := draw_below l hl i1 h1 1000000 c1 (by omega)
    obtain ⟨v3, i3, h3, e3, c3, _⟩ := draw_below l hl i2 h2 2000000 c2 (by omega)
    refine ⟨wrap64 (v2 * wrap64 (v3 - 1000000)), Ev.bind e0 ?_, ?_⟩
    · simp only [e1, e2, e3, Option.bind_some, if_true]
      exact Ev.now _
    · generalize v2 * wrap64 (v3 - 1000000) = z
      unfold wrap64
      omega
  | false =>
    obtain ⟨v2, i2, h2, e2, c2, hv⟩ := draw_number l hl i1 h1 c1
    refine ⟨v2, Ev.bind e0 ?_, hv⟩
    simp only [e1, e2, Option.bind_some, Bool.false_eq_true, if_false]
    exact Ev.now _
theorem FnNumbers : laws_FnNumbers.Pure := by
  intro l hm hs hw
  refine Ev.rounds ?_
  simp only [laws_FnNumbers.f, laws_big.f, Option.bind_some, decide_eq_true_eq]
  by_cases hb : (l.length : Int) > 1048576
  · simp only [if_pos hb]
    exact Ev.now _
  simp only [if_neg hb]
  obtain ⟨n, e, n0, n1⟩ := draw_format l (by omega)
  refine Ev.bind e ?_
  unfold impl_FormatInt.f
  simp only [if_pos (show -9223372036854775808 ≤ n ∧ n ≤ 9223372036854775807 from ⟨n0, n1⟩), Option.bind_some]
  refine Ev.bind (impl_parse _) ?_
  rw [toList_mk]
  simp only [if_neg (itoa_ne n)]
  refine Ev.congr (fun k => ?_) (Ev.now true)
  by_cases hn : n ≥ 0
  · rw [if_pos hn]
    obtain ⟨m, rfl⟩ := Int.eq_ofNat_of_zero_le hn
    rw [Lib.itoa_nonneg]
    by_cases hm : m ≤ 1000000000
    · rw [par_dec m hm]
      simp only [decide_eq_true (show (m : Int) ≤ 1000000000 by omega), if_pos (show (m : Int) ≤ 1000000000 by omega), beq_self_eq_true, if_true]
    · rw [par_big m (by omega)]
      simp only [decide_eq_false (show ¬ (m : Int) ≤ 1000000000 by omega), if_neg (show ¬ (m : Int) ≤ 1000000000 by omega), beq_self_eq_true, if_true]
  · rw [if_neg hn]
    have e : Lib.itoa n = 45 :: Lib.decDigits n.natAbs := by
      unfold Lib.itoa
      rw [if_pos (by omega)]
    rw [e, par_neg]
    simp

end Go.Proofs.YtmhnnmjjebolpaaDoor.Pure
