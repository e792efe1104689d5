/- The program's ParseUint returns what the reference's returns, for all arguments. This is its pure statement, over numbers and lists, as printed from the program; the row is built on it.
   Conditions: none. -/
import Derived.Test.YtmhnnmjjebolpaaDoorGFnExactParseUintx1
namespace Go.Proofs.YtmhnnmjjebolpaaDoor.Pure
set_option linter.unusedSimpArgs false
set_option linter.unusedVariables false
open Go.RowKit Go.Proofs.YtmhnnmjjebolpaaDoor.GFnExactParseUint Go.Proofs.YtmhnnmjjebolpaaDoorW.PrintWords Go.Proofs.YtmhnnmjjebolpaaDoorW.PrintLast

theorem wrap_id {x : Int} (h0 : -9223372036854775808 ≤ x) (h1 : x ≤ 9223372036854775807) : wrap64 x = x := by
  unfold wrap64
  omega
theorem wrap_succ (i : Nat) (h : i < 4611686018427387904) : wrap64 ((i : Int) + 1) = ((i + 1 : Nat) : Int) := by
  rw [wrap_id (by omega) (by omega)]
  omega
theorem rd_lt (l : List Int) (i : Nat) (h : i < l.length) : rd l (i : Int) = l[i] := by
  unfold rd
  rw [Int.toNat_natCast, List.getD_eq_getElem?_getD, List.getElem?_eq_getElem h]
  rfl
theorem set_take {α : Type} (l x : List α) (i : Nat) (hi : i < l.length) (hx : x.length = l.length) (h : x.take i = l.take i) :
    (x.set i l[i]).take (i + 1) = l.take (i + 1) := by
  rw [List.take_succ_eq_append_getElem (by simp; omega), List.take_succ_eq_append_getElem hi, List.getElem_set_self, List.take_set_of_le (Nat.le_refl i), h]
def allFrom (p : Nat → Bool) (n i : Nat) : Bool := (List.range' i (n - i)).all p
theorem all_end (p : Nat → Bool) (n : Nat) : allFrom p n n = true := by simp [allFrom]
theorem all_step (p : Nat → Bool) (n i : Nat) (h : i < n) : allFrom p n i = (p i && allFrom p n (i + 1)) := by
  unfold allFrom
  rw [show n - i = (n - (i + 1)) + 1 by omega, List.range'_succ, List.all_cons]
theorem all_iff (p : Nat → Bool) (n i : Nat) : allFrom p n i = true ↔ ∀ j, i ≤ j → j < n → p j = true := by
  unfold allFrom
  rw [List.all_eq_true]
  constructor
  · intro h j h1 h2
    exact h j (List.mem_range'_1.2 ⟨h1, by omega⟩)
  · intro h j hj
    have := List.mem_range'_1.1 hj
    exact h j this.1 (by omega)
theorem str_app (a b : List UInt8) : (⟨a.toArray⟩ : ByteArray) ++ ⟨b.toArray⟩ = ⟨(a ++ b).toArray⟩ := by
  apply ByteArray.ext
  rw [ByteArray.data_append]
  simp
theorem nDigits_le : ∀ (k m : Nat), m < 10 ^ (k + 1) → Lib.nDigits m ≤ k + 1
  | 0, m, h => by rw [Lib.nDigits, dif_pos (by omega)]; omega
  | k + 1, m, h => by
    by_cases h10 : m < 10
    · rw [Lib.nDigits, dif_pos h10]; omega
    · rw [Lib.nDigits, dif_neg h10]
      have := nDigits_le k (m / 10) (by rw [Nat.pow_succ] at h; omega)
      omega
theorem fig_digit : ∀ n : Nat, n < 10 → spec_l01Figure.f (n : Int) = some ((48 + n : Nat) : Int) := by decide +kernel
theorem str_digit : ∀ n : Nat, n < 10 → strOfNums [((48 + n : Nat) : Int)] = ⟨[UInt8.ofNat (48 + n)].toArray⟩ := by
  intro n hn
  show (⟨#[UInt8.ofNat ((48 + n : Nat) : Int).toNat]⟩ : ByteArray) = _
  rw [Int.toNat_natCast]
def signed (b : Bool) (l : List UInt8) : List UInt8 := if b = true then 45 :: l else l
theorem spec_fmt_loop (b : Bool) : ∀ (d m : Nat) (x : Int) (l : List UInt8), m ≤ d → m ≠ 0 → m ≤ 9223372036854775808 → (x = (m : Int) ∨ x = -(m : Int)) → -9223372036854775808 ≤ x → x ≤ 9223372036854775807 → l.length + Lib.nDigits m ≤ 100 →
    Ev (fun k => spec_FormatInt.l0 k x b ⟨l.toArray⟩) ⟨(signed b (Lib.decDigits m ++ l)).toArray⟩ := by
  intro d
  induction d with
  | zero => intro m x l h1 h2; omega
  | succ d ih =>
    intro m x l hmd hm0 hm hx hx0 hx1 hl
    have hm10 : m % 10 < 10 := Nat.mod_lt _ (by omega)
    have hnx : ¬ x = 0 := by rcases hx with rfl | rfl <;> omega
    have t1 : x.tmod 10 = if x < 0 then -((m % 10 : Nat) : Int) else ((m % 10 : Nat) : Int) := by
      rcases hx with rfl | rfl
      · rw [if_neg (by omega)]; rfl
      · rw [if_pos (by omega), Int.neg_tmod]; rfl
    have t2 : x.tdiv 10 = (if x < 0 then -((m / 10 : Nat) : Int) else ((m / 10 : Nat) : Int)) := by
      rcases hx with rfl | rfl
      · rw [if_neg (by omega)]; rfl
      · rw [if_pos (by omega), Int.neg_tdiv]; rfl
    have w2 : wrap64 (x.tdiv 10) = x.tdiv 10 := wrap_id (by rw [t2]; split <;> omega) (by rw [t2]; split <;> omega)
    have hsz : (⟨l.toArray⟩ : ByteArray).size = l.length := by simp [ByteArray.size]
    have hsz1 : (⟨[UInt8.ofNat (48 + m % 10)].toArray⟩ : ByteArray).size = 1 := rfl
    -- the next round, whichever sign
    have next : Ev (fun k => spec_FormatInt.l0 k (x.tdiv 10) b ((⟨[UInt8.ofNat (48 + m % 10)].toArray⟩ : ByteArray) ++ ⟨l.toArray⟩)) ⟨(signed b (Lib.decDigits m ++ l)).toArray⟩ := by
      rw [str_app]
      by_cases h10 : m < 10
      · have e0 : x.tdiv 10 = 0 := by rw [t2]; split <;> omega
        rw [e0]
        refine Ev.step (fun k => spec_FormatInt.l0.eq_2 _ _ _ k) ?_
        simp only [if_true]
        have ed : Lib.decDigits m = [UInt8.ofNat (48 + m % 10)] := by rw [Lib.decDigits, dif_pos h10, Nat.mod_eq_of_lt h10]
        rw [ed]
        unfold signed
        cases b
        · simp only [Bool.false_eq_true, if_false]
          exact Ev.now _
        · simp only [if_true]
          rw [if_pos (by
            have : (⟨([UInt8.ofNat (48 + m % 10)] ++ l).toArray⟩ : ByteArray).size = l.length + 1 := by simp [ByteArray.size]
            rw [this]
            omega)]
          rw [show (⟨#[45]⟩ : ByteArray) = ⟨[(45 : UInt8)].toArray⟩ from rfl, str_app]
          exact Ev.now _
      · have ed : Lib.decDigits m = Lib.decDigits (m / 10) ++ [UInt8.ofNat (48 + m % 10)] := by rw [Lib.decDigits, dif_neg h10]
        have en : Lib.nDigits m = Lib.nDigits (m / 10) + 1 := by rw [Lib.nDigits, dif_neg h10]
        rw [ed, List.append_assoc]
        refine ih (m / 10) _ _ (by omega) (by omega) (by omega) ?_ ?_ ?_ ?_
        · rw [t2]; split
          · exact Or.inr rfl
          · exact Or.inl rfl
        · rw [t2]; split <;> omega
        · rw [t2]; split <;> omega
        · simp only [List.length_append, List.length_cons, List.length_nil]; omega
    refine Ev.step (fun k => spec_FormatInt.l0.eq_2 _ _ _ k) ?_
    simp only [if_neg hnx]
    by_cases hneg : (x.tmod 10) < 0
    · have e1 : wrap64 (-(x.tmod 10)) = ((m % 10 : Nat) : Int) := by
        rw [t1] at hneg ⊢
        split at hneg
        · rename_i h; rw [if_pos h, wrap_id (by omega) (by omega)]; omega
        · omega
      simp only [if_pos hneg, e1, fig_digit _ hm10, Option.bind_some, str_digit _ hm10, hsz, hsz1, if_pos (show 1 + l.length ≤ 9223372036854775807 by omega), w2]
      exact next
    · have e1 : x.tmod 10 = ((m % 10 : Nat) : Int) := by
        rw [t1] at hneg ⊢
        split at hneg
        · rename_i h; rw [if_pos h]; omega
        · rename_i h; rw [if_neg h]
      simp only [if_neg hneg]
      simp only [e1, fig_digit _ hm10, Option.bind_some, str_digit _ hm10, hsz, hsz1, if_pos (show 1 + l.length ≤ 9223372036854775807 by omega), w2]
      exact next
theorem spec_fmt (a : Int) (h0 : -9223372036854775808 ≤ a) (h1 : a ≤ 9223372036854775807) : Ev (fun k => spec_FormatInt.f k a) ⟨(Lib.itoa a).toArray⟩ := by
  unfold spec_FormatInt.f
  by_cases hz : a = 0
  · subst hz
    simp only [if_true]
    have e : Lib.itoa 0 = [48] := by
      unfold Lib.itoa
      rw [if_neg (by omega)]
      exact Lib.decDigits_one (i := 0) (by omega)
    rw [e]
    exact Ev.now _
  · simp only [if_neg hz]
    have hb := spec_fmt_loop (decide (a < 0)) a.natAbs a.natAbs a [] (Nat.le_refl _) (by omega) (by omega) (by omega) h0 h1 (by
      have := nDigits_le 19 a.natAbs (by have : (10 : Nat) ^ (19 + 1) = 100000000000000000000 := by decide
                                         omega)
      simp only [List.length_nil]; omega)
    have e : signed (decide (a < 0)) (Lib.decDigits a.natAbs ++ []) = Lib.itoa a := by
      unfold signed Lib.itoa
      rw [List.append_nil]
      by_cases hn : a < 0
      · rw [if_pos (decide_eq_true hn), if_pos hn]
      · rw [if_neg (by simpa using hn), if_neg hn]
        rw [show a.natAbs = a.toNat by omega]
    rw [e] at hb
    exact hb
theorem bt_get (a : ByteArray) (i : Nat) (h : i < a.size) : bt a (i : Int) = ((a.data.getD i 0).toNat : Int) := by
  have e : a.data.getD i 0 = a[i] := by
    rw [Array.getD_eq_getD_getElem?, Array.getElem?_eq_getElem (show i < a.data.size from h)]
    rfl
  rw [e]
  unfold bt
  rw [dif_pos (show (i : Int).toNat < a.size by omega)]
  rfl
theorem drop_bytes (a : ByteArray) (i : Nat) (h : i < a.size) : a.data.toList.drop i = a.data.getD i 0 :: a.data.toList.drop (i + 1) := by
  have hl : i < a.data.toList.length := by rw [Array.length_toList]; exact h
  rw [List.drop_eq_getElem_cons hl]
  congr 1
  rw [Array.getD_eq_getD_getElem?, Array.getElem?_eq_getElem (show i < a.data.size from h), Array.getElem_toList]
  rfl
theorem size_toList (a : ByteArray) : a.data.toList.length = a.size := by rw [Array.length_toList]; rfl
theorem size_mk (l : List UInt8) : (⟨l.toArray⟩ : ByteArray).size = l.length := by simp [ByteArray.size]
theorem toList_mk (l : List UInt8) : (⟨l.toArray⟩ : ByteArray).toList = l := by rw [Lib.toList_data]
/-- The number that a row of digits goes on to denote. -/
def digs : List UInt8 → Nat → Option Nat
  | [], n => some n
  | u :: r, n => if 48 ≤ u.toNat ∧ u.toNat ≤ 57 then digs r (10 * n + (u.toNat - 48)) else none
def fin (l : List UInt8) : Option Nat → Int × Bool
  | none => (0, false)
  | some n => if n > 1000000000 then (0, false) else if Lib.decDigits n = l then ((n : Int), true) else (0, false)
/-- What ParseUint answers. -/
def parM (l : List UInt8) : Int × Bool := if l.length > 10 then (0, false) else fin l (digs l 0)
theorem dec_ne (n : Nat) : Lib.decDigits n ≠ [] := by
  rw [Lib.decDigits]
  split <;> simp
theorem spec_parse_loop (a : ByteArray) (ha : a.size ≤ 10) : ∀ (d i n : Nat), i + d = a.size → n < 10 ^ i →
    Ev (fun k => spec_ParseUint.l0 k a (n : Int) (i : Int)) (fin a.data.toList (digs (a.data.toList.drop i) n)) := by
  intro d
  induction d with
  | zero =>
    intro i n hi hn
    have hp : 10 ^ i ≤ 10 ^ 10 := Nat.pow_le_pow_right (by omega) (by omega)
    have hq : (10 : Nat) ^ 10 = 10000000000 := by decide
    refine Ev.step (fun k => spec_ParseUint.l0.eq_2 _ _ _ k) ?_
    simp only [if_neg (show ¬ (i : Int) < (a.size : Int) by omega)]
    rw [List.drop_of_length_le (by rw [size_toList]; omega), digs]
    unfold fin
    by_cases hb : (n : Int) > 1000000000
    · simp only [if_pos hb, if_pos (show n > 1000000000 by omega)]
      exact Ev.now _
    · simp only [if_neg hb, if_neg (show ¬ n > 1000000000 by omega)]
      refine Ev.bind (spec_fmt (n : Int) (by omega) (by omega)) ?_
      rw [Lib.itoa_nonneg, toList_mk, Lib.toList_data]
      split <;> exact Ev.now _
  | succ d ih =>
    intro i n hi hn
    have hp : 10 ^ i ≤ 10 ^ 10 := Nat.pow_le_pow_right (by omega) (by omega)
    have hq : (10 : Nat) ^ 10 = 10000000000 := by decide
    have hu : (a.data.getD i 0).toNat < 256 := (a.data.getD i 0).toNat_lt
    refine Ev.step (fun k => spec_ParseUint.l0.eq_2 _ _ _ k) ?_
    simp only [if_pos (show (i : Int) < (a.size : Int) by omega), if_pos (show (0 : Int) ≤ (i : Int) by omega), bt_get a i (by omega)]
    rw [drop_bytes a i (by omega), digs]
    generalize (a.data.getD i 0).toNat = u at hu
    by_cases h1 : (u : Int) < 48
    · simp only [if_pos h1]
      rw [if_neg (by omega)]
      exact Ev.now _
    simp only [if_neg h1]
    by_cases h2 : (u : Int) > 57
    · simp only [if_pos h2]
      rw [if_neg (by omega)]
      exact Ev.now _
    simp only [if_neg h2]
    rw [if_pos (by omega)]
    have e : wrap64 (wrap64 (wrap64 (10 * (n : Int)) + wrap64 (u : Int)) - 48) = ((10 * n + (u - 48) : Nat) : Int) := by
      rw [wrap_id (x := 10 * (n : Int)) (by omega) (by omega), wrap_id (x := (u : Int)) (by omega) (by omega), wrap_id (x := 10 * (n : Int) + (u : Int)) (by omega) (by omega), wrap_id (by omega) (by omega)]
      omega
    rw [e, wrap_succ i (by omega)]
    exact ih (i + 1) _ (by omega) (by rw [Nat.pow_succ]; omega)
theorem spec_parse (a : ByteArray) : Ev (fun k => spec_ParseUint.f k a) (parM a.data.toList) := by
  unfold spec_ParseUint.f parM
  rw [size_toList]
  by_cases h : (a.size : Int) > 10
  · simp only [if_pos h, if_pos (show a.size > 10 by omega)]
    exact Ev.now _
  · simp only [if_neg h, if_neg (show ¬ a.size > 10 by omega)]
    exact spec_parse_loop a (by omega) a.size 0 0 (by omega) (by decide)
theorem impl_parse_loop (a : ByteArray) (ha : a.size ≤ 10) : ∀ (d i n : Nat), i + d = a.size → n < 10 ^ i →
    Ev (fun k => impl_ParseUint.l0 k a (n : Int) (i : Int)) (fin a.data.toList (digs (a.data.toList.drop i) n)) := by
  intro d
  induction d with
  | zero =>
    intro i n hi hn
    have hp : 10 ^ i ≤ 10 ^ 10 := Nat.pow_le_pow_right (by omega) (by omega)
    have hq : (10 : Nat) ^ 10 = 10000000000 := by decide
    refine Ev.step (fun k => impl_ParseUint.l0.eq_2 _ _ _ k) ?_
    simp only [if_neg (show ¬ (i : Int) < (a.size : Int) by omega)]
    rw [List.drop_of_length_le (by rw [size_toList]; omega), digs]
    unfold fin
    by_cases hb : (n : Int) > 1000000000
    · simp only [if_pos hb, if_pos (show n > 1000000000 by omega)]
      exact Ev.now _
    · simp only [if_neg hb, if_neg (show ¬ n > 1000000000 by omega)]
      unfold impl_FormatInt.f
      simp only [if_pos (show -9223372036854775808 ≤ (n : Int) ∧ (n : Int) ≤ 9223372036854775807 by omega), Option.bind_some]
      rw [Lib.itoa_nonneg, toList_mk, Lib.toList_data]
      split <;> exact Ev.now _
  | succ d ih =>
    intro i n hi hn
    have hp : 10 ^ i ≤ 10 ^ 10 := Nat.pow_le_pow_right (by omega) (by omega)
    have hq : (10 : Nat) ^ 10 = 10000000000 := by decide
    have hu : (a.data.getD i 0).toNat < 256 := (a.data.getD i 0).toNat_lt
    refine Ev.step (fun k => impl_ParseUint.l0.eq_2 _ _ _ k) ?_
    simp only [if_pos (show (i : Int) < (a.size : Int) by omega), if_pos (show (0 : Int) ≤ (i : Int) by omega), bt_get a i (by omega)]
    rw [drop_bytes a i (by omega), digs]
    generalize (a.data.getD i 0).toNat = u at hu
    by_cases h1 : (u : Int) < 48
    · simp only [if_pos h1]
      rw [if_neg (by omega)]
      exact Ev.now _
    simp only [if_neg h1]
    by_cases h2 : (u : Int) > 57
    · simp only [if_pos h2]
      rw [if_neg (by omega)]
      exact Ev.now _
    simp only [if_neg h2]
    rw [if_pos (by omega)]
    have e : wrap64 (wrap64 ((n : Int) * 10) + ((u : Int) - 48) % 256) = ((10 * n + (u - 48) : Nat) : Int) := by
      rw [wrap_id (x := (n : Int) * 10) (by omega) (by omega), wrap_id (by omega) (by omega)]
      omega
    rw [e, wrap_succ i (by omega)]
    exact ih (i + 1) _ (by omega) (by rw [Nat.pow_succ]; omega)
theorem impl_parse (a : ByteArray) : Ev (fun k => impl_ParseUint.f k a) (parM a.data.toList) := by
  unfold impl_ParseUint.f
  by_cases h0 : (a.size : Int) = 0
  · simp only [if_pos h0]
    have hl : a.data.toList = [] := List.length_eq_zero_iff.1 (by rw [size_toList]; omega)
    have e : parM a.data.toList = (0, false) := by
      rw [hl]
      unfold parM fin
      rw [if_neg (by simp)]
      simp only [digs]
      rw [if_neg (by omega), if_neg (dec_ne 0)]
    rw [e]
    refine Ev.step (fun k => impl_ParseUint.j0.eq_2 _ _ k) ?_
    simp only [if_true]
    exact Ev.now _
  · simp only [if_neg h0]
    refine Ev.step (fun k => impl_ParseUint.j0.eq_2 _ _ k) ?_
    unfold parM
    rw [size_toList]
    by_cases h : (a.size : Int) > 10
    · simp only [decide_eq_true h, if_true, if_pos (show a.size > 10 by omega)]
      exact Ev.now _
    · simp only [decide_eq_false h, Bool.false_eq_true, if_false, if_neg (show ¬ a.size > 10 by omega)]
      exact impl_parse_loop a (by omega) a.size 0 0 (by omega) (by decide)
theorem FnExactParseUint : laws_FnExactParseUint.Pure := by
  intro a ha
  refine Ev.rounds ?_
  unfold laws_FnExactParseUint.f
  by_cases hb : (a.size : Int) > 1048576
  · simp only [if_pos hb]
    exact Ev.now _
  simp only [if_neg hb]
  refine Ev.bind (spec_parse a) ?_
  refine Ev.bind (impl_parse a) ?_
  simp only [if_true, bne_self_eq_false, Bool.false_eq_true, if_false]
  exact Ev.now _

end Go.Proofs.YtmhnnmjjebolpaaDoor.Pure
