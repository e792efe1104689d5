/- A string can be decoded from its hexadecimal encoding, and longer strings are rejected. (P1) This is its pure statement, over numbers and lists, as printed from the program; the row is built on it.
   Conditions: none. -/
import Derived.Test.YtbfeaekgbgfcjaaDoorGFnHexTextx2
namespace Go.Proofs.YtbfeaekgbgfcjaaDoor.Pure
set_option linter.unusedSimpArgs false
set_option linter.unusedVariables false
open Go.RowKit Go.Proofs.YtbfeaekgbgfcjaaDoor.GFnHexText Go.Proofs.YtbfeaekgbgfcjaaDoorW.PrintWords Go.Proofs.YtbfeaekgbgfcjaaDoorW.PrintLast

theorem wrap_id {x : Int} (h0 : -9223372036854775808 ≤ x) (h1 : x ≤ 9223372036854775807) : wrap64 x = x := by
  unfold wrap64
  omega
theorem wrap_succ (i : Nat) (h : i < 4611686018427387904) : wrap64 ((i : Int) + 1) = ((i + 1 : Nat) : Int) := by
  rw [wrap_id (by omega) (by omega)]
  omega
theorem rd_lt (l : List Int) (i : Nat) (h : i < l.length) : rd l (i : Int) = l[i] := by
  unfold rd
  rw [Int.toNat_natCast, List.getD_eq_getElem?_getD, List.getElem?_eq_getElem h]
  rfl
theorem set_take {α : Type} (l x : List α) (i : Nat) (hi : i < l.length) (hx : x.length = l.length) (h : x.take i = l.take i) :
    (x.set i l[i]).take (i + 1) = l.take (i + 1) := by
  rw [List.take_succ_eq_append_getElem (by simp; omega), List.take_succ_eq_append_getElem hi, List.getElem_set_self, List.take_set_of_le (Nat.le_refl i), h]
def allFrom (p : Nat → Bool) (n i : Nat) : Bool := (List.range' i (n - i)).all p
theorem all_end (p : Nat → Bool) (n : Nat) : allFrom p n n = true := by simp [allFrom]
theorem all_step (p : Nat → Bool) (n i : Nat) (h : i < n) : allFrom p n i = (p i && allFrom p n (i + 1)) := by
  unfold allFrom
  rw [show n - i = (n - (i + 1)) + 1 by omega, List.range'_succ, List.all_cons]
theorem all_iff (p : Nat → Bool) (n i : Nat) : allFrom p n i = true ↔ ∀ j, i ≤ j → j < n → p j = true := by
  unfold allFrom
  rw [List.all_eq_true]
  constructor
  · intro h j h1 h2
    exact h j (List.mem_range'_1.2 ⟨h1, by omega⟩)
  · intro h j hj
    have := List.mem_range'_1.1 hj
    exact h j this.1 (by omega)
theorem str_app (a b : List UInt8) : (⟨a.toArray⟩ : ByteArray) ++ ⟨b.toArray⟩ = ⟨(a ++ b).toArray⟩ := by
  apply ByteArray.ext
  rw [ByteArray.data_append]
  simp
theorem bt_get (a : ByteArray) (i : Nat) (h : i < a.size) : bt a (i : Int) = ((a.data.getD i 0).toNat : Int) := by
  have e : a.data.getD i 0 = a[i] := by
    rw [Array.getD_eq_getD_getElem?, Array.getElem?_eq_getElem (show i < a.data.size from h)]
    rfl
  rw [e]
  unfold bt
  rw [dif_pos (show (i : Int).toNat < a.size by omega)]
  rfl
theorem drop_bytes (a : ByteArray) (i : Nat) (h : i < a.size) : a.data.toList.drop i = a.data.getD i 0 :: a.data.toList.drop (i + 1) := by
  have hl : i < a.data.toList.length := by rw [Array.length_toList]; exact h
  rw [List.drop_eq_getElem_cons hl]
  congr 1
  rw [Array.getD_eq_getD_getElem?, Array.getElem?_eq_getElem (show i < a.data.size from h), Array.getElem_toList]
  rfl
theorem size_toList (a : ByteArray) : a.data.toList.length = a.size := by rw [Array.length_toList]; rfl
theorem size_mk (l : List UInt8) : (⟨l.toArray⟩ : ByteArray).size = l.length := by simp [ByteArray.size]
theorem toList_mk (l : List UInt8) : (⟨l.toArray⟩ : ByteArray).toList = l := by rw [Lib.toList_data]
theorem and_low (x : Int) : 0 ≤ Go.bits .and .i64 x 255 ∧ Go.bits .and .i64 x 255 ≤ 255 := by
  have h : ((BitVec.ofInt 64 x) &&& (BitVec.ofInt 64 255)).toNat ≤ 255 := by
    rw [BitVec.toNat_and]
    exact Nat.and_le_right
  have e : Go.bits .and .i64 x 255 = IntKind.i64.wrap ((((BitVec.ofInt 64 x) &&& (BitVec.ofInt 64 255)).toNat : Nat) : Int) := rfl
  rw [e]
  generalize ((BitVec.ofInt 64 x) &&& (BitVec.ofInt 64 255)).toNat = n at h
  have e2 : IntKind.i64.wrap ((n : Nat) : Int) = n := by
    simp only [IntKind.wrap, IntKind.bits, IntKind.signed]
    simp
    omega
  rw [e2]
  omega
theorem draw_new (l : List Int) (hl : l.length ≤ 1048576) : ∃ h, Ev (fun k => spec_l01New.f k l) (l, 0, h) := by
  unfold spec_l01New.f
  have loop : ∀ (d i : Nat) (h : Int), i + d = l.length → ∃ h', Ev (fun k => spec_l01New.l0 k l h (i : Int)) (l, 0, h') := by
    intro d
    induction d with
    | zero =>
      intro i h hi
      refine ⟨h, Ev.step (fun k => spec_l01New.l0.eq_2 _ _ _ k) ?_⟩
      simp only [if_neg (show ¬ (i : Int) < (l.length : Int) by omega)]
      exact Ev.now _
    | succ d ih =>
      intro i h hi
      by_cases hc : (i : Int) < 4000
      · obtain ⟨h', hh⟩ := ih (i + 1) (Go.bits .and .i64 (wrap64 ((wrap64 ((wrap64 (h * 131)) + (wrap64 (rd l i)))) + 7)) 1073741823) (by omega)
        refine ⟨h', Ev.step (fun k => spec_l01New.l0.eq_2 _ _ _ k) ?_⟩
        simp only [if_pos (show (i : Int) < (l.length : Int) by omega), if_pos hc, if_pos (show (0 : Int) ≤ (i : Int) by omega)]
        rw [wrap_succ i (by omega)]
        exact hh
      · refine ⟨h, Ev.step (fun k => spec_l01New.l0.eq_2 _ _ _ k) ?_⟩
        simp only [if_pos (show (i : Int) < (l.length : Int) by omega), if_neg hc]
        exact Ev.now _
  exact loop l.length 0 _ (by omega)
/-- A place in the bytes of a draw. -/
def Cur (l : List Int) (i : Int) : Prop := 0 ≤ i ∧ i ≤ (l.length : Int)
theorem draw_byte (l : List Int) (hl : l.length ≤ 1048576) (i h : Int) (hi : Cur l i) : ∃ v i' h', spec_l01Byte.f l i h = some (v, i', h') ∧ Cur l i' ∧ 0 ≤ v ∧ v ≤ 255 := by
  unfold spec_l01Byte.f
  unfold Cur at *
  by_cases hc : i < (l.length : Int)
  · rw [if_pos hc, if_pos hi.1]
    exact ⟨_, _, _, rfl, by rw [wrap_id (by omega) (by omega)]; omega, (and_low _).1, (and_low _).2⟩
  · rw [if_neg hc]
    exact ⟨_, _, _, rfl, hi, (and_low _).1, (and_low _).2⟩
theorem tmod_low (v n : Int) (h0 : 0 ≤ v) (hn : 0 < n) : 0 ≤ Int.tmod v n ∧ Int.tmod v n < n :=
  ⟨Int.tmod_nonneg n h0, Int.tmod_lt_of_pos v hn⟩
theorem draw_below (l : List Int) (hl : l.length ≤ 1048576) (i h n : Int) (hi : Cur l i) (hn : 0 < n) : ∃ v i' h', spec_l01Below.f l i h n = some (v, i', h') ∧ Cur l i' ∧ 0 ≤ v ∧ v < n := by
  unfold spec_l01Below.f
  rw [if_neg (by omega)]
  by_cases hc : n ≤ 256
  · rw [if_pos hc]
    obtain ⟨v, i1, h1, e, c1, v0, v1⟩ := draw_byte l hl i h hi
    rw [e]
    simp only [Option.bind_some]
    rw [if_neg (by omega)]
    exact ⟨_, _, _, rfl, c1, tmod_low v n v0 hn⟩
  · rw [if_neg hc]
    obtain ⟨a, i1, h1, e1, c1, a0, a1⟩ := draw_byte l hl i h hi
    obtain ⟨b, i2, h2, e2, c2, b0, b1⟩ := draw_byte l hl i1 h1 c1
    obtain ⟨c, i3, h3, e3, c3, x0, x1⟩ := draw_byte l hl i2 h2 c2
    obtain ⟨d, i4, h4, e4, c4, d0, d1⟩ := draw_byte l hl i3 h3 c3
    simp only [e1, e2, e3, e4, Option.bind_some]
    rw [if_neg (by omega)]
    refine ⟨_, _, _, rfl, c4, ?_⟩
    rw [wrap_id (x := a * 16777216) (by omega) (by omega), wrap_id (x := b * 65536) (by omega) (by omega), wrap_id (x := c * 256) (by omega) (by omega),
      wrap_id (x := a * 16777216 + b * 65536) (by omega) (by omega), wrap_id (x := a * 16777216 + b * 65536 + c * 256) (by omega) (by omega), wrap_id (by omega) (by omega)]
    exact tmod_low _ n (by omega) hn
theorem draw_once (l : List Int) (hl : l.length ≤ 1048576) (i h n : Int) (hi : Cur l i) (hn : 0 < n) : ∃ v i' h', spec_l01Once.f l i h n = some (v, i', h') ∧ Cur l i' := by
  unfold spec_l01Once.f
  obtain ⟨v, i1, h1, e, c1, _⟩ := draw_below l hl i h n hi hn
  rw [e]
  exact ⟨_, _, _, rfl, c1⟩
theorem size_nums (l : List Int) : (strOfNums l).size = l.length := by
  show (l.map _).toArray.size = l.length
  simp
theorem draw_long (n : Nat) (hn : n ≤ 1048576) (x : Int) : ∃ t, Ev (fun k => spec_l01Long.f k (n : Int) x) t ∧ t.size = n := by
  unfold spec_l01Long.f
  simp only [if_pos (show (0 : Int) ≤ (n : Int) by omega), Int.toNat_natCast, if_pos (show n ≤ 281474976710656 by omega)]
  have loop : ∀ (d i : Nat) (z : List Int), i + d = n → z.length = n → ∃ t, Ev (fun k => spec_l01Long.l0 k (n : Int) x z (i : Int)) t ∧ t.size = n := by
    intro d
    induction d with
    | zero =>
      intro i z hi hz
      refine ⟨strOfNums z, Ev.step (fun k => spec_l01Long.l0.eq_2 _ _ _ _ k) ?_, by rw [size_nums, hz]⟩
      simp only [if_neg (show ¬ (i : Int) < (n : Int) by omega)]
      exact Ev.now _
    | succ d ih =>
      intro i z hi hz
      obtain ⟨t, ht, hs⟩ := ih (i + 1) (z.set i x) (by omega) (by simp; omega)
      refine ⟨t, Ev.step (fun k => spec_l01Long.l0.eq_2 _ _ _ _ k) ?_, hs⟩
      simp only [if_pos (show (i : Int) < (n : Int) by omega), if_pos (show (0 : Int) ≤ (i : Int) by omega), if_pos (show (i : Int) < (z.length : Int) by omega), Int.toNat_natCast, wrap_succ i (by omega)]
      exact ht
  exact loop n 0 _ (by omega) (by simp)
theorem dig_lit : ∀ m : Nat, m < 16 → digI ((litU.data.getD m 0).toNat : Int) = (m : Int) := by decide +kernel
theorem hex_at (a : ByteArray) : ∀ (n j : Nat), j < n → (hexU a n)[2 * j]? = some (litU.data.getD ((a.data.getD j 0).toNat / 16) 0) ∧ (hexU a n)[2 * j + 1]? = some (litU.data.getD ((a.data.getD j 0).toNat % 16) 0) := by
  intro n
  induction n with
  | zero => intro j hj; omega
  | succ n ih =>
    intro j hj
    have hl := hexU_len a n
    rw [hexU]
    by_cases hjn : j < n
    · obtain ⟨h1, h2⟩ := ih j hjn
      rw [List.getElem?_append_left (by omega), List.getElem?_append_left (by omega)]
      exact ⟨h1, h2⟩
    · obtain rfl : j = n := by omega
      rw [List.getElem?_append_right (by omega), List.getElem?_append_right (by omega), hl, Nat.sub_self, show 2 * j + 1 - 2 * j = 1 by omega]
      exact ⟨rfl, rfl⟩
theorem bt_mk (l : List UInt8) (i : Nat) (u : UInt8) (h : l[i]? = some u) : bt ⟨l.toArray⟩ (i : Int) = (u.toNat : Int) := by
  have hi : i < l.length := (List.getElem?_eq_some_iff.1 h).1
  rw [bt_get _ i (by rw [size_mk]; exact hi)]
  show (((l.toArray).getD i 0).toNat : Int) = _
  rw [Array.getD_eq_getD_getElem?, List.getElem?_toArray, h]
  rfl
theorem pair_back (a : ByteArray) (j : Nat) (h : j < a.size) : pairOk ⟨(hexU a a.size).toArray⟩ j = true ∧ pairU ⟨(hexU a a.size).toArray⟩ j = a.data.getD j 0 := by
  obtain ⟨h1, h2⟩ := hex_at a a.size j h
  have hu : (a.data.getD j 0).toNat < 256 := (a.data.getD j 0).toNat_lt
  unfold pairOk pairU
  rw [bt_mk _ _ _ h1, bt_mk _ _ _ h2, dig_lit _ (by omega), dig_lit _ (by omega)]
  refine ⟨decide_eq_true (by omega), ?_⟩
  have e : (16 * (((a.data.getD j 0).toNat / 16 : Nat) : Int) + (((a.data.getD j 0).toNat % 16 : Nat) : Int)).toNat = (a.data.getD j 0).toNat := by omega
  rw [e]
  exact UInt8.ofNat_toNat
theorem dec_back (a : ByteArray) : ∀ (i : Nat), i ≤ a.size → decU ⟨(hexU a a.size).toArray⟩ i = a.data.toList.take i := by
  intro i
  induction i with
  | zero => intro _; rfl
  | succ i ih =>
    intro hi
    rw [decU, ih (by omega), (pair_back a i (by omega)).2, List.take_succ_eq_append_getElem (by rw [size_toList]; omega)]
    congr 2
    rw [Array.getD_eq_getD_getElem?, Array.getElem?_eq_getElem (show i < a.data.size by exact hi), Array.getElem_toList]
    rfl
theorem hex_back (a : ByteArray) : decR ⟨(hexU a a.size).toArray⟩ = (a, true) := by
  have hs : (⟨(hexU a a.size).toArray⟩ : ByteArray).size / 2 = a.size := by rw [size_mk, hexU_len]; omega
  unfold decR
  rw [hs, if_pos (by
    rw [List.all_eq_true]
    intro j hj
    exact (pair_back a j (List.mem_range.1 hj)).1), dec_back a a.size (Nat.le_refl _), List.take_of_length_le (by rw [size_toList]; omega)]
theorem draw_text (l : List Int) (hl : l.length ≤ 1048576) (n : Nat) (hn : n ≤ 5000) (i h : Int) (hi : Cur l i) : ∃ t i' h', Ev (fun k => spec_l01Text.f k l i h (n : Int)) (t, i', h') ∧ t.size = n := by
  unfold spec_l01Text.f
  simp only [if_neg (show ¬ (n : Int) > 5000 by omega)]
  have loop : ∀ (d j : Nat), j + d = n → ∀ (out : List Int) (ix h : Int), out.length = j → Cur l ix → ∃ t i' h', Ev (fun k => spec_l01Text.l0 k (n : Int) out (j : Int) l ix h) (t, i', h') ∧ t.size = n := by
    intro d
    induction d with
    | zero =>
      intro j hj out ix h ho hc
      refine ⟨strOfNums out, ix, h, Ev.step (fun k => spec_l01Text.l0.eq_2 _ _ _ _ _ _ k) ?_, by rw [size_nums]; omega⟩
      simp only [if_neg (show ¬ (j : Int) < (n : Int) by omega)]
      exact Ev.now _
    | succ d ih =>
      intro j hj out ix h ho hc
      obtain ⟨v, i1, h1, e1, c1, _⟩ := draw_byte l hl ix h hc
      obtain ⟨t, i2, h2, ht, hs⟩ := ih (j + 1) (by omega) (out ++ [v % 256]) i1 h1 (by simp; omega) c1
      refine ⟨t, i2, h2, Ev.step (fun k => spec_l01Text.l0.eq_2 _ _ _ _ _ _ k) ?_, hs⟩
      simp only [if_pos (show (j : Int) < (n : Int) by omega), e1, Option.bind_some, if_pos (show out.length < 140737488355328 by omega), wrap_succ j (by omega)]
      exact ht
  obtain ⟨t, i2, h2, ht, hs⟩ := loop n 0 (by omega) [] i h rfl hi
  refine ⟨t, i2, h2, Ev.step (fun k => spec_l01Text.j0.eq_2 _ _ _ _ k) ?_, hs⟩
  exact ht
theorem draw_encode (l : List Int) (hl : l.length ≤ 1048576) : ∃ t, Ev (fun k => spec_DrawEncodeHex.f k l) t ∧ t.size ≤ 20001 := by
  unfold spec_DrawEncodeHex.f
  obtain ⟨h0, e0⟩ := draw_new l hl
  have c0 : Cur l 0 := ⟨by omega, by omega⟩
  obtain ⟨b, i1, h1, e1, c1⟩ := draw_once l hl 0 h0 60 c0 (by omega)
  cases b with
  | true =>
    obtain ⟨v, i2, h2, e2, c2, v0, v1⟩ := draw_below l hl i1 h1 2 c1 (by omega)
    have ew : wrap64 (20000 + v) = ((20000 + v.toNat : Nat) : Int) := by rw [wrap_id (by omega) (by omega)]; omega
    obtain ⟨t, ht, hs⟩ := draw_long (20000 + v.toNat) (by omega) 200
    refine ⟨t, Ev.bind e0 ?_, by omega⟩
    simp only [e1, e2, Option.bind_some, if_true, ew]
    refine Ev.bind ht ?_
    exact Ev.now _
  | false =>
    obtain ⟨v, i2, h2, e2, c2, v0, v1⟩ := draw_below l hl i1 h1 30 c1 (by omega)
    obtain ⟨m, rfl⟩ := Int.eq_ofNat_of_zero_le v0
    obtain ⟨t, i3, h3, ht, hs⟩ := draw_text l hl m (by omega) i2 h2 c2
    refine ⟨t, Ev.bind e0 ?_, by omega⟩
    simp only [e1, e2, Option.bind_some, Bool.false_eq_true, if_false]
    refine Ev.bind ht ?_
    exact Ev.now _
theorem FnHexText : laws_FnHexText.Pure := by
  intro l hm hs hw
  refine Ev.rounds ?_
  simp only [laws_FnHexText.f, laws_big.f, Option.bind_some, decide_eq_true_eq]
  by_cases hb : (l.length : Int) > 1048576
  · simp only [if_pos hb]
    exact Ev.now _
  simp only [if_neg hb]
  obtain ⟨a, e, ha⟩ := draw_encode l (by omega)
  refine Ev.bind e ?_
  refine Ev.congr (fun k => ?_) (Ev.now true)
  unfold impl_EncodeHex.f
  by_cases h2 : (a.size : Int) > 20000
  · simp only [if_pos h2, Option.bind_some, Bool.false_eq_true, if_false]
    have en : (⟨#[]⟩ : ByteArray).toList = ([] : List UInt8) := by rw [Lib.toList_data]
    have e10 : Lib.itoa 10 = [49, 48] := by
      rw [show (10 : Int) = ((10 : Nat) : Int) from rfl, Lib.itoa_nonneg, Lib.decDigits_two (by omega) (by omega)]
      rfl
    rw [if_pos en]
    unfold impl_FormatInt.f
    rw [if_pos (by omega)]
    simp only [Option.bind_some, toList_mk, e10]
    rfl
  · simp only [if_neg h2, Option.bind_some]
    unfold impl_DecodeHex.f
    have hz : (⟨(hexU a a.size).toArray⟩ : ByteArray).size = 2 * a.size := by rw [size_mk, hexU_len]
    rw [if_pos (by rw [hz]; omega), hex_back]
    simp only [Option.bind_some, if_true, hz]
    rw [wrap_id (by omega) (by omega)]
    have : (((2 * a.size : Nat) : Int) == 2 * (a.size : Int)) = true := by
      rw [beq_iff_eq]
      omega
    rw [this]

end Go.Proofs.YtbfeaekgbgfcjaaDoor.Pure
