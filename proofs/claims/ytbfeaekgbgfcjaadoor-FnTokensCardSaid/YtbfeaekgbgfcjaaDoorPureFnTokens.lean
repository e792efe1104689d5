/- Tokens are read back from their text. (P4) This is its pure statement, over numbers and lists, as printed from the program; the row is built on it.
   Conditions: none. -/
import Derived.Test.YtbfeaekgbgfcjaaDoorGFnTokensx6
namespace Go.Proofs.YtbfeaekgbgfcjaaDoor.Pure
set_option linter.unusedSimpArgs false
set_option linter.unusedVariables false
open Go.RowKit Go.Proofs.YtbfeaekgbgfcjaaDoor.GFnTokens Go.Proofs.YtbfeaekgbgfcjaaDoorW.PrintWords Go.Proofs.YtbfeaekgbgfcjaaDoorW.PrintLast

theorem wrap_id {x : Int} (h0 : -9223372036854775808 ≤ x) (h1 : x ≤ 9223372036854775807) : wrap64 x = x := by
  unfold wrap64
  omega
theorem wrap_succ (i : Nat) (h : i < 4611686018427387904) : wrap64 ((i : Int) + 1) = ((i + 1 : Nat) : Int) := by
  rw [wrap_id (by omega) (by omega)]
  omega
theorem rd_lt (l : List Int) (i : Nat) (h : i < l.length) : rd l (i : Int) = l[i] := by
  unfold rd
  rw [Int.toNat_natCast, List.getD_eq_getElem?_getD, List.getElem?_eq_getElem h]
  rfl
theorem set_take {α : Type} (l x : List α) (i : Nat) (hi : i < l.length) (hx : x.length = l.length) (h : x.take i = l.take i) :
    (x.set i l[i]).take (i + 1) = l.take (i + 1) := by
  rw [List.take_succ_eq_append_getElem (by simp; omega), List.take_succ_eq_append_getElem hi, List.getElem_set_self, List.take_set_of_le (Nat.le_refl i), h]
def allFrom (p : Nat → Bool) (n i : Nat) : Bool := (List.range' i (n - i)).all p
theorem all_end (p : Nat → Bool) (n : Nat) : allFrom p n n = true := by simp [allFrom]
theorem all_step (p : Nat → Bool) (n i : Nat) (h : i < n) : allFrom p n i = (p i && allFrom p n (i + 1)) := by
  unfold allFrom
  rw [show n - i = (n - (i + 1)) + 1 by omega, List.range'_succ, List.all_cons]
theorem all_iff (p : Nat → Bool) (n i : Nat) : allFrom p n i = true ↔ ∀ j, i ≤ j → j < n → p j = true := by
  unfold allFrom
  rw [List.all_eq_true]
  constructor
  · intro h j h1 h2
    exact h j (List.mem_range'_1.2 ⟨h1, by omega⟩)
  · intro h j hj
    have := List.mem_range'_1.1 hj
    exact h j this.1 (by omega)
theorem str_app (a b : List UInt8) : (⟨a.toArray⟩ : ByteArray) ++ ⟨b.toArray⟩ = ⟨(a ++ b).toArray⟩ := by
  apply ByteArray.ext
  rw [ByteArray.data_append]
  simp
theorem impl_in (a b c : Int) : impl_within.f a b c = some (decide (b ≤ a ∧ a ≤ c)) := by
  unfold impl_within.f
  by_cases h : b ≤ a <;> simp [h]
def letterB (s : ByteArray) (i : Nat) : Bool := decide (97 ≤ bt s (i : Int) ∧ bt s (i : Int) ≤ 122)
def lettersB (s : ByteArray) (i : Nat) : Bool := (List.range' i (s.size - i)).all (letterB s)
def nameB (s : ByteArray) : Bool := decide (1 ≤ s.size ∧ s.size ≤ 8) && lettersB s 0
theorem letters_end (s : ByteArray) : lettersB s s.size = true := by simp [lettersB]
theorem letters_step (s : ByteArray) (i : Nat) (h : i < s.size) : lettersB s i = (letterB s i && lettersB s (i + 1)) := by
  unfold lettersB
  rw [show s.size - i = (s.size - (i + 1)) + 1 by omega, List.range'_succ, List.all_cons]
def tokenB (s : ByteArray) (n : Int) : Bool := if s.toList = ([] : List UInt8) then decide (-999 ≤ n ∧ n ≤ 999) else nameB s && (n == 0)
theorem impl_letters (s : ByteArray) (hs : s.size ≤ 1048577) : ∀ (d i : Nat), i + d = s.size →
    Ev (fun k => impl_IsName.l0 k s (i : Int)) (lettersB s i) := by
  intro d
  induction d with
  | zero =>
    intro i hi
    refine Ev.step (fun k => impl_IsName.l0.eq_2 _ _ k) ?_
    simp only [if_neg (show ¬ (i : Int) < (s.size : Int) by omega)]
    rw [show i = s.size by omega, letters_end]
    exact Ev.now _
  | succ d ih =>
    intro i hi
    refine Ev.step (fun k => impl_IsName.l0.eq_2 _ _ k) ?_
    simp only [if_pos (show (i : Int) < (s.size : Int) by omega), if_pos (show (0 : Int) ≤ (i : Int) by omega)]
    rw [wrap_succ i (by omega), letters_step s i (by omega)]
    by_cases h1 : bt s (i : Int) < 97
    · simp only [if_pos h1]
      rw [show letterB s i = false from decide_eq_false (by omega)]
      exact Ev.now _
    · simp only [if_neg h1]
      by_cases h2 : bt s (i : Int) > 122
      · simp only [if_pos h2]
        rw [show letterB s i = false from decide_eq_false (by omega)]
        exact Ev.now _
      · simp only [if_neg h2]
        rw [show letterB s i = true from decide_eq_true (by omega), Bool.true_and]
        exact ih (i + 1) (by omega)
theorem impl_name (s : ByteArray) (hs : s.size ≤ 1048577) : Ev (fun k => impl_IsName.f k s) (nameB s) := by
  unfold impl_IsName.f nameB
  have j (t : Bool) : Ev (fun k => impl_IsName.j0 k s t) (!t && lettersB s 0) := by
    refine Ev.step (fun k => impl_IsName.j0.eq_2 _ _ k) ?_
    cases t
    · simp only [Bool.false_eq_true, if_false, Bool.not_false, Bool.true_and]
      exact impl_letters s hs s.size 0 (by omega)
    · simp only [if_true]
      exact Ev.now _
  by_cases h : (s.size : Int) < 1
  · simp only [if_pos h]
    rw [decide_eq_false (by omega)]
    exact j true
  · simp only [if_neg h]
    have e : decide (1 ≤ s.size ∧ s.size ≤ 8) = !decide ((s.size : Int) > 8) := by
      by_cases h8 : s.size ≤ 8
      · rw [decide_eq_true (by omega), decide_eq_false (by omega)]
        rfl
      · rw [decide_eq_false (by omega), decide_eq_true (by omega)]
        rfl
    rw [e]
    exact j _
theorem impl_token (s : ByteArray) (n : Int) (hs : s.size ≤ 1048577) : Ev (fun k => impl_TokenOk.f k s n) (tokenB s n) := by
  unfold impl_TokenOk.f tokenB
  by_cases h : s.toList = ([] : List UInt8)
  · simp only [if_pos h, impl_in, Option.bind_some]
    exact Ev.now _
  · simp only [if_neg h]
    refine Ev.bind (impl_name s hs) ?_
    cases nameB s <;> simp <;> exact Ev.now _
theorem rdiToken_lt (l : List S43) (i : Nat) (h : i < l.length) : rd_T43 l (i : Int) = l[i] := by
  unfold rd_T43
  rw [Int.toNat_natCast, List.getD_eq_getElem?_getD, List.getElem?_eq_getElem h]
  rfl
theorem and_low (x : Int) : 0 ≤ Go.bits .and .i64 x 255 ∧ Go.bits .and .i64 x 255 ≤ 255 := by
  have h : ((BitVec.ofInt 64 x) &&& (BitVec.ofInt 64 255)).toNat ≤ 255 := by
    rw [BitVec.toNat_and]
    exact Nat.and_le_right
  have e : Go.bits .and .i64 x 255 = IntKind.i64.wrap ((((BitVec.ofInt 64 x) &&& (BitVec.ofInt 64 255)).toNat : Nat) : Int) := rfl
  rw [e]
  generalize ((BitVec.ofInt 64 x) &&& (BitVec.ofInt 64 255)).toNat = n at h
  have e2 : IntKind.i64.wrap ((n : Nat) : Int) = n := by
    simp only [IntKind.wrap, IntKind.bits, IntKind.signed]
    simp
    omega
  rw [e2]
  omega
theorem draw_new (l : List Int) (hl : l.length ≤ 1048576) : ∃ h, Ev (fun k => spec_l01New.f k l) (l, 0, h) := by
  unfold spec_l01New.f
  have loop : ∀ (d i : Nat) (h : Int), i + d = l.length → ∃ h', Ev (fun k => spec_l01New.l0 k l h (i : Int)) (l, 0, h') := by
    intro d
    induction d with
    | zero =>
      intro i h hi
      refine ⟨h, Ev.step (fun k => spec_l01New.l0.eq_2 _ _ _ k) ?_⟩
      simp only [if_neg (show ¬ (i : Int) < (l.length : Int) by omega)]
      exact Ev.now _
    | succ d ih =>
      intro i h hi
      by_cases hc : (i : Int) < 4000
      · obtain ⟨h', hh⟩ := ih (i + 1) (Go.bits .and .i64 (wrap64 ((wrap64 ((wrap64 (h * 131)) + (wrap64 (rd l i)))) + 7)) 1073741823) (by omega)
        refine ⟨h', Ev.step (fun k => spec_l01New.l0.eq_2 _ _ _ k) ?_⟩
        simp only [if_pos (show (i : Int) < (l.length : Int) by omega), if_pos hc, if_pos (show (0 : Int) ≤ (i : Int) by omega)]
        rw [wrap_succ i (by omega)]
        exact hh
      · refine ⟨h, Ev.step (fun k => spec_l01New.l0.eq_2 _ _ _ k) ?_⟩
        simp only [if_pos (show (i : Int) < (l.length : Int) by omega), if_neg hc]
        exact Ev.now _
  exact loop l.length 0 _ (by omega)
/-- A place in the bytes of a draw. -/
def Cur (l : List Int) (i : Int) : Prop := 0 ≤ i ∧ i ≤ (l.length : Int)
theorem draw_byte (l : List Int) (hl : l.length ≤ 1048576) (i h : Int) (hi : Cur l i) : ∃ v i' h', spec_l01Byte.f l i h = some (v, i', h') ∧ Cur l i' ∧ 0 ≤ v ∧ v ≤ 255 := by
  unfold spec_l01Byte.f
  unfold Cur at *
  by_cases hc : i < (l.length : Int)
  · rw [if_pos hc, if_pos hi.1]
    exact ⟨_, _, _, rfl, by rw [wrap_id (by omega) (by omega)]; omega, (and_low _).1, (and_low _).2⟩
  · rw [if_neg hc]
    exact ⟨_, _, _, rfl, hi, (and_low _).1, (and_low _).2⟩
theorem tmod_low (v n : Int) (h0 : 0 ≤ v) (hn : 0 < n) : 0 ≤ Int.tmod v n ∧ Int.tmod v n < n :=
  ⟨Int.tmod_nonneg n h0, Int.tmod_lt_of_pos v hn⟩
theorem draw_below (l : List Int) (hl : l.length ≤ 1048576) (i h n : Int) (hi : Cur l i) (hn : 0 < n) : ∃ v i' h', spec_l01Below.f l i h n = some (v, i', h') ∧ Cur l i' ∧ 0 ≤ v ∧ v < n := by
  unfold spec_l01Below.f
  rw [if_neg (by omega)]
  by_cases hc : n ≤ 256
  · rw [if_pos hc]
    obtain ⟨v, i1, h1, e, c1, v0, v1⟩ := draw_byte l hl i h hi
    rw [e]
    simp only [Option.bind_some]
    rw [if_neg (by omega)]
    exact ⟨_, _, _, rfl, c1, tmod_low v n v0 hn⟩
  · rw [if_neg hc]
    obtain ⟨a, i1, h1, e1, c1, a0, a1⟩ := draw_byte l hl i h hi
    obtain ⟨b, i2, h2, e2, c2, b0, b1⟩ := draw_byte l hl i1 h1 c1
    obtain ⟨c, i3, h3, e3, c3, x0, x1⟩ := draw_byte l hl i2 h2 c2
    obtain ⟨d, i4, h4, e4, c4, d0, d1⟩ := draw_byte l hl i3 h3 c3
    simp only [e1, e2, e3, e4, Option.bind_some]
    rw [if_neg (by omega)]
    refine ⟨_, _, _, rfl, c4, ?_⟩
    rw [wrap_id (x := a * 16777216) (by omega) (by omega), wrap_id (x := b * 65536) (by omega) (by omega), wrap_id (x := c * 256) (by omega) (by omega),
      wrap_id (x := a * 16777216 + b * 65536) (by omega) (by omega), wrap_id (x := a * 16777216 + b * 65536 + c * 256) (by omega) (by omega), wrap_id (by omega) (by omega)]
    exact tmod_low _ n (by omega) hn
theorem draw_once (l : List Int) (hl : l.length ≤ 1048576) (i h n : Int) (hi : Cur l i) (hn : 0 < n) : ∃ v i' h', spec_l01Once.f l i h n = some (v, i', h') ∧ Cur l i' := by
  unfold spec_l01Once.f
  obtain ⟨v, i1, h1, e, c1, _⟩ := draw_below l hl i h n hi hn
  rw [e]
  exact ⟨_, _, _, rfl, c1⟩
theorem draw_pick (l : List Int) (hl : l.length ≤ 1048576) (i h : Int) (m : List Int) (hi : Cur l i) (hm : 0 < m.length) : ∃ v i' h', spec_l01PickInt.f l i h m = some (v, i', h') ∧ Cur l i' ∧ v ∈ m := by
  unfold spec_l01PickInt.f
  obtain ⟨v, i1, h1, e, c1, v0, v1⟩ := draw_below l hl i h (m.length : Int) hi (by omega)
  rw [e]
  simp only [Option.bind_some]
  rw [if_pos v0, if_pos v1]
  refine ⟨_, _, _, rfl, c1, ?_⟩
  obtain ⟨n, rfl⟩ := Int.eq_ofNat_of_zero_le v0
  rw [rd_lt m n (by omega)]
  exact List.getElem_mem _
theorem rdOf_lt (l : List ByteArray) (i : Nat) (h : i < l.length) : rdOf ByteArray.empty l (i : Int) = l[i] := by
  unfold rdOf
  rw [Int.toNat_natCast, List.getD_eq_getElem?_getD, List.getElem?_eq_getElem h]
  rfl
theorem draw_pickS (l : List Int) (hl : l.length ≤ 1048576) (i h : Int) (m : List ByteArray) (hi : Cur l i) (hm : 0 < m.length) : ∃ v i' h', spec_l01Pick.f l i h m = some (v, i', h') ∧ Cur l i' ∧ v ∈ m := by
  unfold spec_l01Pick.f
  obtain ⟨v, i1, h1, e, c1, v0, v1⟩ := draw_below l hl i h (m.length : Int) hi (by omega)
  rw [e]
  simp only [Option.bind_some]
  rw [if_pos v0, if_pos v1]
  refine ⟨_, _, _, rfl, c1, ?_⟩
  obtain ⟨n, rfl⟩ := Int.eq_ofNat_of_zero_le v0
  rw [rdOf_lt m n (by omega)]
  exact List.getElem_mem _
/-- A valid token, by its parts. -/
def VT (x : S43) : Prop := (x.f0 = ⟨#[]⟩ ∧ -999 ≤ x.f1 ∧ x.f1 ≤ 999) ∨ (nameB x.f0 = true ∧ x.f1 = 0)
theorem names_ok : ∀ v ∈ ([(⟨#[109, 111, 118, 101, 116, 111]⟩ : ByteArray), (⟨#[108, 105, 110, 101, 116, 111]⟩ : ByteArray), (⟨#[102, 105, 108, 108]⟩ : ByteArray), (⟨#[103, 114, 97, 121]⟩ : ByteArray), (⟨#[114, 101, 99, 116]⟩ : ByteArray), (⟨#[115, 97, 118, 101]⟩ : ByteArray), (⟨#[114, 101, 115, 116, 111, 114, 101]⟩ : ByteArray), (⟨#[115, 104, 105, 102, 116]⟩ : ByteArray), (⟨#[116, 117, 114, 110]⟩ : ByteArray), (⟨#[115, 99, 97, 108, 101]⟩ : ByteArray), (⟨#[99, 108, 105, 112]⟩ : ByteArray), (⟨#[97, 100, 100]⟩ : ByteArray), (⟨#[115, 117, 98]⟩ : ByteArray), (⟨#[100, 117, 112]⟩ : ByteArray), (⟨#[112, 111, 112]⟩ : ByteArray), (⟨#[101, 120, 99, 104]⟩ : ByteArray), (⟨#[110, 101, 119]⟩ : ByteArray)] : List ByteArray), nameB v = true := by
  intro v hv
  simp only [List.mem_cons, List.not_mem_nil, or_false] at hv
  rcases hv with rfl | rfl | rfl | rfl | rfl | rfl | rfl | rfl | rfl | rfl | rfl | rfl | rfl | rfl | rfl | rfl | rfl <;> decide +kernel
theorem draw_token (l : List Int) (hl : l.length ≤ 1048576) (i h : Int) (hi : Cur l i) : ∃ (x : S43) (i' h' : Int), spec_l04Token.f l i h = some (x.f0, x.f1, i', h') ∧ Cur l i' ∧ VT x := by
  unfold spec_l04Token.f spec_l04Names.f
  obtain ⟨b, i1, h1, e1, c1⟩ := draw_once l hl i h 2 hi (by omega)
  rw [e1]
  simp only [Option.bind_some]
  cases b with
  | true =>
    obtain ⟨u, i2, h2, e2, c2, u0, u1⟩ := draw_below l hl i1 h1 33 c1 (by omega)
    obtain ⟨v, i3, h3, e3, c3, v0, v1⟩ := draw_below l hl i2 h2 33 c2 (by omega)
    obtain ⟨z, i4, h4, e4, c4, hz⟩ := draw_pick l hl i3 h3 [0, 8, u, v, (-4)] c3 (by simp)
    refine ⟨⟨⟨#[]⟩, z⟩, i4, h4, ?_, c4, Or.inl ⟨rfl, ?_⟩⟩
    · simp only [if_true, e2, e3, e4, Option.bind_some]
    · simp only [List.mem_cons, List.not_mem_nil, or_false] at hz
      show -999 ≤ z ∧ z ≤ 999
      omega
  | false =>
    obtain ⟨z, i4, h4, e4, c4, hz⟩ := draw_pickS l hl i1 h1 _ c1 (show 0 < ([(⟨#[109, 111, 118, 101, 116, 111]⟩ : ByteArray), (⟨#[108, 105, 110, 101, 116, 111]⟩ : ByteArray), (⟨#[102, 105, 108, 108]⟩ : ByteArray), (⟨#[103, 114, 97, 121]⟩ : ByteArray), (⟨#[114, 101, 99, 116]⟩ : ByteArray), (⟨#[115, 97, 118, 101]⟩ : ByteArray), (⟨#[114, 101, 115, 116, 111, 114, 101]⟩ : ByteArray), (⟨#[115, 104, 105, 102, 116]⟩ : ByteArray), (⟨#[116, 117, 114, 110]⟩ : ByteArray), (⟨#[115, 99, 97, 108, 101]⟩ : ByteArray), (⟨#[99, 108, 105, 112]⟩ : ByteArray), (⟨#[97, 100, 100]⟩ : ByteArray), (⟨#[115, 117, 98]⟩ : ByteArray), (⟨#[100, 117, 112]⟩ : ByteArray), (⟨#[112, 111, 112]⟩ : ByteArray), (⟨#[101, 120, 99, 104]⟩ : ByteArray), (⟨#[110, 101, 119]⟩ : ByteArray)] : List ByteArray).length by simp)
    refine ⟨⟨z, 0⟩, i4, h4, ?_, c4, Or.inr ⟨names_ok z hz, rfl⟩⟩
    simp only [Bool.false_eq_true, if_false, e4, Option.bind_some]
theorem draw_tokens (l : List Int) (hl : l.length ≤ 1048576) : ∃ r, Ev (fun k => spec_DrawTokens.f k l) r ∧ r.length ≤ 20 ∧ ∀ x ∈ r, VT x := by
  unfold spec_DrawTokens.f
  obtain ⟨h0, e0⟩ := draw_new l hl
  have c0 : Cur l 0 := ⟨by omega, by omega⟩
  obtain ⟨n, i1, h1, e1, c1, n0, n1⟩ := draw_below l hl 0 h0 20 c0 (by omega)
  obtain ⟨m, rfl⟩ := Int.eq_ofNat_of_zero_le n0
  have loop : ∀ (d i : Nat), i + d = m → ∀ (out : List S43) (ix h : Int), out.length = i → (∀ x ∈ out, VT x) → Cur l ix → ∃ r, Ev (fun k => spec_DrawTokens.l0 k out (m : Int) (i : Int) l ix h) r ∧ r.length ≤ 20 ∧ ∀ x ∈ r, VT x := by
    intro d
    induction d with
    | zero =>
      intro i hi out ix h ho hv hc
      refine ⟨out, Ev.step (fun k => spec_DrawTokens.l0.eq_2 _ _ _ _ _ _ k) ?_, by omega, hv⟩
      simp only [if_neg (show ¬ (i : Int) < (m : Int) by omega)]
      exact Ev.now _
    | succ d ih =>
      intro i hi out ix h ho hv hc
      obtain ⟨x, i2, h2, e2, c2, hx⟩ := draw_token l hl ix h hc
      obtain ⟨r, hr, hr1, hr2⟩ := ih (i + 1) (by omega) (out ++ [x]) i2 h2 (by simp; omega) (fun y hy => by
        rcases List.mem_append.1 hy with hy | hy
        · exact hv y hy
        · rw [List.mem_singleton] at hy
          subst hy
          exact hx) c2
      refine ⟨r, Ev.step (fun k => spec_DrawTokens.l0.eq_2 _ _ _ _ _ _ k) ?_, hr1, hr2⟩
      simp only [if_pos (show (i : Int) < (m : Int) by omega), e2, Option.bind_some, if_pos (show out.length < 5864062014805 by omega), wrap_succ i (by omega)]
      exact hr
  obtain ⟨r, hr, hr1, hr2⟩ := loop m 0 (by omega) [] i1 h1 rfl (by simp) c1
  refine ⟨r, Ev.bind e0 ?_, hr1, hr2⟩
  simp only [e1, Option.bind_some]
  exact hr
def tokAt (l : List S43) (i : Nat) : Bool := tokenB (rd_T43 l (i : Int)).f0 (rd_T43 l (i : Int)).f1
theorem rd_size (l : List S43) (hs : ∀ x ∈ l, x.f0.size ≤ 1048576) (i : Nat) (hi : i < l.length) : (rd_T43 l (i : Int)).f0.size ≤ 1048577 := by
  rw [rdiToken_lt l i hi]
  have := hs l[i] (List.getElem_mem _)
  omega
theorem impl_tokens_loop (l : List S43) (hl : l.length ≤ 1048576) (hs : ∀ x ∈ l, x.f0.size ≤ 1048576) : ∀ (d i : Nat), i + d = l.length →
    Ev (fun k => impl_tokensOk.l0 k l (l.length : Int) (i : Int)) (allFrom (tokAt l) l.length i) := by
  intro d
  induction d with
  | zero =>
    intro i hi
    refine Ev.step (fun k => impl_tokensOk.l0.eq_2 _ _ _ k) ?_
    simp only [if_neg (show ¬ (i : Int) < (l.length : Int) by omega)]
    rw [show i = l.length by omega, all_end]
    exact Ev.now _
  | succ d ih =>
    intro i hi
    refine Ev.step (fun k => impl_tokensOk.l0.eq_2 _ _ _ k) ?_
    simp only [if_pos (show (i : Int) < (l.length : Int) by omega), if_pos (show (0 : Int) ≤ (i : Int) by omega)]
    rw [wrap_succ i (by omega), all_step _ _ _ (show i < l.length by omega)]
    refine Ev.bind (impl_token _ _ (rd_size l hs i (by omega))) ?_
    change Ev (fun k => if tokAt l i = true then _ else _) _
    cases tokAt l i with
    | false =>
      simp only [Bool.false_eq_true, if_false, Bool.false_and]
      exact Ev.now _
    | true =>
      simp only [if_true, Bool.true_and]
      exact ih (i + 1) (by omega)
theorem impl_tokens (l : List S43) (hl : l.length ≤ 1048576) (hs : ∀ x ∈ l, x.f0.size ≤ 1048576) : Ev (fun k => impl_tokensOk.f k l) (allFrom (tokAt l) l.length 0) := by
  unfold impl_tokensOk.f
  exact impl_tokens_loop l hl hs l.length 0 (by omega)
theorem nDigits_le : ∀ (k m : Nat), m < 10 ^ (k + 1) → Lib.nDigits m ≤ k + 1
  | 0, m, h => by rw [Lib.nDigits, dif_pos (by omega)]; omega
  | k + 1, m, h => by
    by_cases h10 : m < 10
    · rw [Lib.nDigits, dif_pos h10]; omega
    · rw [Lib.nDigits, dif_neg h10]
      have := nDigits_le k (m / 10) (by rw [Nat.pow_succ] at h; omega)
      omega
theorem bt_get (a : ByteArray) (i : Nat) (h : i < a.size) : bt a (i : Int) = ((a.data.getD i 0).toNat : Int) := by
  have e : a.data.getD i 0 = a[i] := by
    rw [Array.getD_eq_getD_getElem?, Array.getElem?_eq_getElem (show i < a.data.size from h)]
    rfl
  rw [e]
  unfold bt
  rw [dif_pos (show (i : Int).toNat < a.size by omega)]
  rfl
theorem drop_bytes (a : ByteArray) (i : Nat) (h : i < a.size) : a.data.toList.drop i = a.data.getD i 0 :: a.data.toList.drop (i + 1) := by
  have hl : i < a.data.toList.length := by rw [Array.length_toList]; exact h
  rw [List.drop_eq_getElem_cons hl]
  congr 1
  rw [Array.getD_eq_getD_getElem?, Array.getElem?_eq_getElem (show i < a.data.size from h), Array.getElem_toList]
  rfl
theorem size_toList (a : ByteArray) : a.data.toList.length = a.size := by rw [Array.length_toList]; rfl
theorem size_mk (l : List UInt8) : (⟨l.toArray⟩ : ByteArray).size = l.length := by simp [ByteArray.size]
theorem toList_mk (l : List UInt8) : (⟨l.toArray⟩ : ByteArray).toList = l := by rw [Lib.toList_data]
/-- A token's text. -/
def txt (x : S43) : List UInt8 := if x.f0.toList = ([] : List UInt8) then Lib.itoa x.f1 else x.f0.data.toList
theorem itoa_len (n : Int) (h0 : -9223372036854775808 ≤ n) (h1 : n ≤ 9223372036854775807) : (Lib.itoa n).length ≤ 21 := by
  have h20 : (10 : Nat) ^ (19 + 1) = 100000000000000000000 := by decide
  unfold Lib.itoa
  split
  · have := nDigits_le 19 n.natAbs (by omega)
    simp only [List.length_cons, Lib.decDigits_length]
    omega
  · have := nDigits_le 19 n.toNat (by omega)
    rw [Lib.decDigits_length]
    omega
theorem tok_num (x : S43) (h : tokenB x.f0 x.f1 = true) (he : x.f0.toList = ([] : List UInt8)) : -999 ≤ x.f1 ∧ x.f1 ≤ 999 := by
  unfold tokenB at h
  rw [if_pos he] at h
  exact of_decide_eq_true h
theorem tok_name (x : S43) (h : tokenB x.f0 x.f1 = true) (he : ¬ x.f0.toList = ([] : List UInt8)) : nameB x.f0 = true ∧ x.f1 = 0 := by
  unfold tokenB at h
  rw [if_neg he, Bool.and_eq_true] at h
  exact ⟨h.1, by simpa using h.2⟩
theorem name_size (s : ByteArray) (h : nameB s = true) : 1 ≤ s.size ∧ s.size ≤ 8 := by
  unfold nameB at h
  rw [Bool.and_eq_true] at h
  exact of_decide_eq_true h.1
theorem txt_len (x : S43) (h : tokenB x.f0 x.f1 = true) : (txt x).length ≤ 21 := by
  unfold txt
  split
  · rename_i he
    have := tok_num x h he
    exact itoa_len _ (by omega) (by omega)
  · rename_i he
    have := name_size _ (tok_name x h he).1
    rw [size_toList]
    omega
theorem join_len : ∀ (xs : List (List UInt8)), (∀ x ∈ xs, x.length ≤ 21) → (Lib.join xs [32]).length ≤ 22 * xs.length
  | [], _ => by simp [Lib.join_nil]
  | x :: r, h => by
    rw [Lib.join_cons, List.length_append, Lib.joinTail_length]
    have hx := h x (by simp)
    have hr : ∀ (r : List (List UInt8)), (∀ y ∈ r, y.length ≤ 21) → Lib.lens r ≤ 21 * r.length := by
      intro r
      induction r with
      | nil => intro _; simp [Lib.lens]
      | cons y r ih =>
        intro hy
        have h1 := hy y (by simp)
        have h2 := ih (fun z hz => hy z (by simp [hz]))
        have e : Lib.lens (y :: r) = y.length + Lib.lens r := by simp [Lib.lens]
        rw [e, List.length_cons]
        omega
    have := hr r (fun z hz => h z (by simp [hz]))
    simp only [List.length_cons, List.length_nil]
    omega
theorem join_snoc (xs : List (List UInt8)) (y : List UInt8) (h : xs ≠ []) : Lib.join (xs ++ [y]) [32] = Lib.join xs [32] ++ [32] ++ y := by
  cases xs with
  | nil => exact absurd rfl h
  | cons x r =>
    rw [List.cons_append, Lib.join_cons, Lib.join_cons]
    simp [Lib.joinTail]
/-- What FormatTokens answers. -/
def fmtM (l : List S43) : ByteArray × Bool := if l.length ≤ 60 ∧ allFrom (tokAt l) l.length 0 = true then (⟨(Lib.join (l.map txt) [32]).toArray⟩, true) else (⟨#[]⟩, false)
theorem impl_fmtint (n : Int) (h0 : -9223372036854775808 ≤ n) (h1 : n ≤ 9223372036854775807) : impl_FormatInt.f n = some ⟨(Lib.itoa n).toArray⟩ := by
  unfold impl_FormatInt.f
  rw [if_pos ⟨h0, h1⟩]
theorem tok_all (l : List S43) (h : allFrom (tokAt l) l.length 0 = true) : ∀ x ∈ l, tokenB x.f0 x.f1 = true := by
  intro x hx
  obtain ⟨j, hj, rfl⟩ := List.getElem_of_mem hx
  have := (all_iff (tokAt l) l.length 0).1 h j (Nat.zero_le _) hj
  unfold tokAt at this
  rw [rdiToken_lt l j hj] at this
  exact this
theorem mk_txt (x : S43) (h : ¬ x.f0.toList = ([] : List UInt8)) : (⟨(txt x).toArray⟩ : ByteArray) = x.f0 := by
  unfold txt
  rw [if_neg h]
theorem impl_ft_loop (l : List S43) (hl : l.length ≤ 60) (ht : ∀ x ∈ l, tokenB x.f0 x.f1 = true) : ∀ (d i : Nat) (out : List ByteArray), i + d = l.length → out = (l.take i).map (fun x => (⟨(txt x).toArray⟩ : ByteArray)) →
    Ev (fun k => impl_FormatTokens.l0 k out l (l.length : Int) (i : Int)) (⟨(Lib.join (l.map txt) [32]).toArray⟩, true) := by
  intro d
  induction d with
  | zero =>
    intro i out hi ho
    refine Ev.step (fun k => impl_FormatTokens.l0.eq_2 _ _ _ _ k) ?_
    simp only [if_neg (show ¬ (i : Int) < (l.length : Int) by omega)]
    rw [List.take_of_length_le (by omega)] at ho
    have e : out.map (·.data.toList) = l.map txt := by
      rw [ho, List.map_map]
      exact List.map_congr_left fun x _ => rfl
    have hj := join_len (l.map txt) (fun y hy => by
      obtain ⟨x, hx, rfl⟩ := List.mem_map.1 hy
      exact txt_len x (ht x hx))
    rw [List.length_map] at hj
    have hlo : out.length = l.length := by rw [ho, List.length_map]
    unfold strings_Join.f
    rw [e]
    have e32 : (⟨#[32]⟩ : ByteArray).data.toList = [32] := rfl
    rw [e32, if_pos ⟨by omega, by omega⟩]
    simp only [Option.bind_some]
    exact Ev.now _
  | succ d ih =>
    intro i out hi ho
    have hil : i < l.length := by omega
    have hx := ht l[i] (List.getElem_mem _)
    have hlo : out.length ≤ 60 := by rw [ho, List.length_map, List.length_take]; omega
    have hnext : out ++ [(⟨(txt l[i]).toArray⟩ : ByteArray)] = (l.take (i + 1)).map (fun x => (⟨(txt x).toArray⟩ : ByteArray)) := by
      rw [List.take_succ_eq_append_getElem hil, List.map_append, ho]
      rfl
    refine Ev.step (fun k => impl_FormatTokens.l0.eq_2 _ _ _ _ k) ?_
    simp only [if_pos (show (i : Int) < (l.length : Int) by omega), if_pos (show (0 : Int) ≤ (i : Int) by omega), rdiToken_lt l i hil, wrap_succ i (by omega), if_pos (show out.length < 8796093022208 by omega)]
    by_cases he : l[i].f0.toList = ([] : List UInt8)
    · have hn := tok_num l[i] hx he
      simp only [if_pos he, impl_fmtint _ (show -9223372036854775808 ≤ l[i].f1 by omega) (show l[i].f1 ≤ 9223372036854775807 by omega), Option.bind_some]
      have e : Lib.itoa l[i].f1 = txt l[i] := by unfold txt; rw [if_pos he]
      rw [e]
      exact ih (i + 1) _ (by omega) hnext
    · simp only [if_neg he]
      rw [← mk_txt l[i] he]
      exact ih (i + 1) _ (by omega) hnext
theorem impl_format (l : List S43) (hl : l.length ≤ 1048576) (hs : ∀ x ∈ l, x.f0.size ≤ 1048576) : Ev (fun k => impl_FormatTokens.f k l) (fmtM l) := by
  unfold impl_FormatTokens.f fmtM
  by_cases h : (l.length : Int) > 60
  · simp only [if_pos h]
    rw [if_neg (by omega)]
    refine Ev.step (fun k => impl_FormatTokens.j0.eq_2 _ _ k) ?_
    simp only [if_true]
    exact Ev.now _
  · simp only [if_neg h]
    refine Ev.bind (impl_tokens l hl hs) ?_
    refine Ev.step (fun k => impl_FormatTokens.j0.eq_2 _ _ k) ?_
    cases ha : allFrom (tokAt l) l.length 0 with
    | false =>
      rw [if_neg (by simp)]
      simp only [Bool.not_false, if_true]
      exact Ev.now _
    | true =>
      rw [if_pos ⟨by omega, rfl⟩]
      simp only [Bool.not_true, Bool.false_eq_true, if_false]
      exact impl_ft_loop l (by omega) (tok_all l ha) l.length 0 [] (by omega) rfl
/-- The number that a row of digits goes on to denote. -/
def digs : List UInt8 → Nat → Option Nat
  | [], n => some n
  | u :: r, n => if 48 ≤ u.toNat ∧ u.toNat ≤ 57 then digs r (10 * n + (u.toNat - 48)) else none
def fin (l : List UInt8) : Option Nat → Int × Bool
  | none => (0, false)
  | some n => if n > 1000000000 then (0, false) else if Lib.decDigits n = l then ((n : Int), true) else (0, false)
/-- What ParseUint answers. -/
def parM (l : List UInt8) : Int × Bool := if l.length > 10 then (0, false) else fin l (digs l 0)
theorem dec_ne (n : Nat) : Lib.decDigits n ≠ [] := by
  rw [Lib.decDigits]
  split <;> simp
theorem impl_parse_loop (a : ByteArray) (ha : a.size ≤ 10) : ∀ (d i n : Nat), i + d = a.size → n < 10 ^ i →
    Ev (fun k => impl_ParseUint.l0 k a (n : Int) (i : Int)) (fin a.data.toList (digs (a.data.toList.drop i) n)) := by
  intro d
  induction d with
  | zero =>
    intro i n hi hn
    have hp : 10 ^ i ≤ 10 ^ 10 := Nat.pow_le_pow_right (by omega) (by omega)
    have hq : (10 : Nat) ^ 10 = 10000000000 := by decide
    refine Ev.step (fun k => impl_ParseUint.l0.eq_2 _ _ _ k) ?_
    simp only [if_neg (show ¬ (i : Int) < (a.size : Int) by omega)]
    rw [List.drop_of_length_le (by rw [size_toList]; omega), digs]
    unfold fin
    by_cases hb : (n : Int) > 1000000000
    · simp only [if_pos hb, if_pos (show n > 1000000000 by omega)]
      exact Ev.now _
    · simp only [if_neg hb, if_neg (show ¬ n > 1000000000 by omega)]
      unfold impl_FormatInt.f
      simp only [if_pos (show -9223372036854775808 ≤ (n : Int) ∧ (n : Int) ≤ 9223372036854775807 by omega), Option.bind_some]
      rw [Lib.itoa_nonneg, toList_mk, Lib.toList_data]
      split <;> exact Ev.now _
  | succ d ih =>
    intro i n hi hn
    have hp : 10 ^ i ≤ 10 ^ 10 := Nat.pow_le_pow_right (by omega) (by omega)
    have hq : (10 : Nat) ^ 10 = 10000000000 := by decide
    have hu : (a.data.getD i 0).toNat < 256 := (a.data.getD i 0).toNat_lt
    refine Ev.step (fun k => impl_ParseUint.l0.eq_2 _ _ _ k) ?_
    simp only [if_pos (show (i : Int) < (a.size : Int) by omega), if_pos (show (0 : Int) ≤ (i : Int) by omega), bt_get a i (by omega)]
    rw [drop_bytes a i (by omega), digs]
    generalize (a.data.getD i 0).toNat = u at hu
    by_cases h1 : (u : Int) < 48
    · simp only [if_pos h1]
      rw [if_neg (by omega)]
      exact Ev.now _
    simp only [if_neg h1]
    by_cases h2 : (u : Int) > 57
    · simp only [if_pos h2]
      rw [if_neg (by omega)]
      exact Ev.now _
    simp only [if_neg h2]
    rw [if_pos (by omega)]
    have e : wrap64 (wrap64 ((n : Int) * 10) + ((u : Int) - 48) % 256) = ((10 * n + (u - 48) : Nat) : Int) := by
      rw [wrap_id (x := (n : Int) * 10) (by omega) (by omega), wrap_id (by omega) (by omega)]
      omega
    rw [e, wrap_succ i (by omega)]
    exact ih (i + 1) _ (by omega) (by rw [Nat.pow_succ]; omega)
theorem impl_parse (a : ByteArray) : Ev (fun k => impl_ParseUint.f k a) (parM a.data.toList) := by
  unfold impl_ParseUint.f
  by_cases h0 : (a.size : Int) = 0
  · simp only [if_pos h0]
    have hl : a.data.toList = [] := List.length_eq_zero_iff.1 (by rw [size_toList]; omega)
    have e : parM a.data.toList = (0, false) := by
      rw [hl]
      unfold parM fin
      rw [if_neg (by simp)]
      simp only [digs]
      rw [if_neg (by omega), if_neg (dec_ne 0)]
    rw [e]
    refine Ev.step (fun k => impl_ParseUint.j0.eq_2 _ _ k) ?_
    simp only [if_true]
    exact Ev.now _
  · simp only [if_neg h0]
    refine Ev.step (fun k => impl_ParseUint.j0.eq_2 _ _ k) ?_
    unfold parM
    rw [size_toList]
    by_cases h : (a.size : Int) > 10
    · simp only [decide_eq_true h, if_true, if_pos (show a.size > 10 by omega)]
      exact Ev.now _
    · simp only [decide_eq_false h, Bool.false_eq_true, if_false, if_neg (show ¬ a.size > 10 by omega)]
      exact impl_parse_loop a (by omega) a.size 0 0 (by omega) (by decide)
/-- The pieces between spaces, 'cur' the begun one. -/
def pc : List UInt8 → List UInt8 → List (List UInt8)
  | [], cur => [cur]
  | u :: r, cur => if u = 32 then cur :: pc r [] else pc r (cur ++ [u])
theorem pc_miss : ∀ (l cur : List UInt8), Lib.indexByte l 32 = -1 → pc l cur = [cur ++ l]
  | [], cur, _ => by simp [pc]
  | u :: r, cur, h => by
    unfold Lib.indexByte at h
    by_cases hu : u = 32
    · subst hu
      simp at h
    · have hb : (u == 32) = false := beq_eq_false_iff_ne.2 hu
      rw [hb] at h
      simp only [Bool.false_eq_true, if_false] at h
      have hr : Lib.indexByte r 32 = -1 := by
        by_cases h1 : Lib.indexByte r 32 = -1
        · exact h1
        · have h2 : (Lib.indexByte r 32 == -1) = false := beq_eq_false_iff_ne.2 h1
          rw [h2] at h
          simp only [Bool.false_eq_true, if_false] at h
          have := Lib.indexByte_ge r 32
          omega
      rw [pc, if_neg hu, pc_miss r _ hr]
      simp
theorem pc_hit : ∀ (l cur : List UInt8) (i : Nat), Lib.indexByte l 32 = (i : Int) → pc l cur = (cur ++ l.take i) :: pc (l.drop (i + 1)) []
  | [], cur, i, h => by
    unfold Lib.indexByte at h
    omega
  | u :: r, cur, i, h => by
    unfold Lib.indexByte at h
    by_cases hu : u = 32
    · subst hu
      simp only [beq_self_eq_true, if_true] at h
      obtain rfl : i = 0 := by omega
      simp [pc]
    · have hb : (u == 32) = false := beq_eq_false_iff_ne.2 hu
      rw [hb] at h
      simp only [Bool.false_eq_true, if_false] at h
      by_cases h1 : Lib.indexByte r 32 = -1
      · have h2 : (Lib.indexByte r 32 == -1) = true := beq_iff_eq.2 h1
        rw [h2] at h
        simp only [if_true] at h
        omega
      · have h2 : (Lib.indexByte r 32 == -1) = false := beq_eq_false_iff_ne.2 h1
        rw [h2] at h
        simp only [Bool.false_eq_true, if_false] at h
        have hg := Lib.indexByte_ge r 32
        obtain ⟨j, rfl⟩ : ∃ j, i = j + 1 := ⟨i - 1, by omega⟩
        rw [pc, if_neg hu, pc_hit r _ j (by omega)]
        simp
theorem split_pc : ∀ (d : Nat) (l : List UInt8), l.length ≤ d → Lib.splitK [32] 0 (Lib.count l [32]) l = pc l [] := by
  intro d
  induction d with
  | zero =>
    intro l hl
    have : l = [] := List.length_eq_zero_iff.1 (by omega)
    subst this
    rfl
  | succ d ih =>
    intro l hl
    have hg := Lib.indexByte_ge l 32
    by_cases h : Lib.indexByte l 32 = -1
    · rw [Lib.count_miss (by rw [Lib.index_one]; exact h), pc_miss l [] h]
      rfl
    · obtain ⟨i, hi⟩ : ∃ i : Nat, Lib.indexByte l 32 = i := ⟨(Lib.indexByte l 32).toNat, by omega⟩
      have hx : Lib.index l [32] = i := by rw [Lib.index_one]; exact hi
      have hroom := Lib.index_room l [32] (by rw [hx]; omega)
      rw [hx] at hroom
      have e : ((i : Int) == -1) = false := by rw [beq_eq_false_iff_ne]; omega
      rw [Lib.count_hit (by simp) hx, Nat.add_comm 1, Lib.splitK, hx, e]
      simp only [Bool.false_eq_true, if_false, Int.toNat_natCast, Nat.add_zero, List.length_cons, List.length_nil, Nat.zero_add] at hroom ⊢
      rw [ih _ (by rw [List.length_drop]; omega), pc_hit l [] i hi]
      simp
def mkB (l : List UInt8) : ByteArray := ⟨l.toArray⟩
theorem mkB_data (a : ByteArray) : mkB a.data.toList = a := rfl
theorem split_mk (a : ByteArray) : Lib.splitB ⟨#[32]⟩ 0 (Lib.countB a ⟨#[32]⟩) a = (pc a.data.toList []).map mkB := by
  have h := Lib.splitB_data ⟨#[32]⟩ 0 (Lib.countB a ⟨#[32]⟩) a
  have h2 := split_pc a.data.toList.length a.data.toList (Nat.le_refl _)
  rw [← h2]
  have h3 : Lib.splitK (⟨#[32]⟩ : ByteArray).data.toList 0 (Lib.countB a ⟨#[32]⟩) a.data.toList = Lib.splitK [32] 0 (Lib.count a.data.toList [32]) a.data.toList := rfl
  rw [← h3, ← h, List.map_map]
  exact ((List.map_congr_left fun x _ => mkB_data x).trans (List.map_id _)).symm
/-- The pieces that are not empty. -/
def flds (l cur : List UInt8) : List (List UInt8) := (pc l cur).filter fun p => !p.isEmpty
def okB (l : List UInt8) : Bool := l.all fun u => decide (32 ≤ u.toNat ∧ u.toNat ≤ 126)
def fin2 (F : List ByteArray) : List ByteArray × Bool := if F.length > 24 then ([], false) else (F, true)
/-- What SplitFields answers. -/
def splM (l : List UInt8) : List ByteArray × Bool := if l.length > 600 then ([], false) else if okB l = true then fin2 ((flds l []).map mkB) else ([], false)
theorem flds_nil (cur : List UInt8) : flds [] cur = if cur = [] then [] else [cur] := by
  unfold flds pc
  cases cur <;> simp
theorem flds_sp (r cur : List UInt8) : flds (32 :: r) cur = (if cur = [] then [] else [cur]) ++ flds r [] := by
  unfold flds
  rw [pc, if_pos rfl]
  cases cur <;> simp
theorem flds_by (u : UInt8) (r cur : List UInt8) (h : u ≠ 32) : flds (u :: r) cur = flds r (cur ++ [u]) := by
  unfold flds
  rw [pc, if_neg h]
theorem pc_len : ∀ (l cur : List UInt8), (pc l cur).length ≤ l.length + 1
  | [], cur => by simp [pc]
  | u :: r, cur => by
    rw [pc]
    split
    · have := pc_len r []
      simp only [List.length_cons]; omega
    · have := pc_len r (cur ++ [u])
      simp only [List.length_cons]; omega
theorem flds_len (l cur : List UInt8) : (flds l cur).length ≤ l.length + 1 := Nat.le_trans (List.length_filter_le _ _) (pc_len l cur)
theorem mkB_eq_nil (l : List UInt8) : (mkB l).toList = [] ↔ l = [] := by
  rw [Lib.toList_data]
  exact Iff.rfl
theorem splM_len (l : List UInt8) : (splM l).1.length ≤ 24 := by
  unfold splM fin2
  split
  · simp
  · split
    · split
      · simp
      · show ((flds l []).map mkB).length ≤ 24
        omega
    · simp
theorem impl_spl1 (P : List (List UInt8)) (hP : P.length ≤ 1000) : ∀ (d i : Nat) (out : List ByteArray), i + d = P.length → out.length ≤ i →
    Ev (fun k => impl_SplitFields.l1 k out (P.map mkB) (P.length : Int) (i : Int)) (fin2 (out ++ ((P.drop i).filter fun p => !p.isEmpty).map mkB)) := by
  intro d
  induction d with
  | zero =>
    intro i out hi ho
    refine Ev.step (fun k => impl_SplitFields.l1.eq_2 _ _ _ _ k) ?_
    simp only [if_neg (show ¬ (i : Int) < (P.length : Int) by omega)]
    rw [List.drop_of_length_le (by omega)]
    simp only [List.filter_nil, List.map_nil, List.append_nil]
    unfold fin2
    by_cases h : (out.length : Int) > 24
    · simp only [if_pos h, if_pos (show out.length > 24 by omega)]
      exact Ev.now _
    · simp only [if_neg h, if_neg (show ¬ out.length > 24 by omega)]
      exact Ev.now _
  | succ d ih =>
    intro i out hi ho
    have hl : i < P.length := by omega
    have hm : i < (P.map mkB).length := by simpa using hl
    refine Ev.step (fun k => impl_SplitFields.l1.eq_2 _ _ _ _ k) ?_
    rw [List.drop_eq_getElem_cons hl]
    simp only [if_pos (show (i : Int) < (P.length : Int) by omega), if_pos (show (0 : Int) ≤ (i : Int) by omega), if_pos (show (i : Int) < ((P.map mkB).length : Int) by simp; omega), rdOf_lt _ i hm, List.getElem_map, wrap_succ i (by omega)]
    by_cases he : P[i] = []
    · simp only [if_pos ((mkB_eq_nil _).2 he)]
      have h := ih (i + 1) out (by omega) (by omega)
      rw [List.filter_cons, he]
      exact h
    · simp only [if_neg (fun x => he ((mkB_eq_nil _).1 x)), if_pos (show out.length < 8796093022208 by omega)]
      have h := ih (i + 1) (out ++ [mkB P[i]]) (by omega) (by simp; omega)
      have hb : (!(P[i]).isEmpty) = true := by
        cases hp : P[i] with
        | nil => exact absurd hp he
        | cons a b => rfl
      rw [List.filter_cons, if_pos hb, List.map_cons]
      rw [List.append_assoc] at h
      exact h
theorem impl_spl0 (a : ByteArray) (ha : a.size ≤ 600) : ∀ (d i : Nat), i + d = a.size →
    Ev (fun k => impl_SplitFields.l0 k a (i : Int)) (if okB (a.data.toList.drop i) = true then fin2 ((flds a.data.toList []).map mkB) else ([], false)) := by
  intro d
  induction d with
  | zero =>
    intro i hi
    refine Ev.step (fun k => impl_SplitFields.l0.eq_2 _ _ k) ?_
    simp only [if_neg (show ¬ (i : Int) < (a.size : Int) by omega)]
    rw [List.drop_of_length_le (by rw [size_toList]; omega)]
    rw [if_pos (show okB [] = true from rfl)]
    unfold strings_Split.f
    have h1 : (⟨#[32]⟩ : ByteArray).size = 1 := rfl
    rw [if_pos ⟨by omega, by omega⟩, split_mk]
    have hl := pc_len a.data.toList []
    rw [size_toList] at hl
    simp only [Option.bind_some, List.length_map]
    exact impl_spl1 (pc a.data.toList []) (by omega) _ 0 [] (Nat.zero_add _) (Nat.le_refl _)
  | succ d ih =>
    intro i hi
    have hu : (a.data.getD i 0).toNat < 256 := (a.data.getD i 0).toNat_lt
    refine Ev.step (fun k => impl_SplitFields.l0.eq_2 _ _ k) ?_
    simp only [if_pos (show (i : Int) < (a.size : Int) by omega), if_pos (show (0 : Int) ≤ (i : Int) by omega), bt_get a i (by omega), wrap_succ i (by omega)]
    rw [drop_bytes a i (by omega)]
    have ho : okB (a.data.getD i 0 :: a.data.toList.drop (i + 1)) = (decide (32 ≤ (a.data.getD i 0).toNat ∧ (a.data.getD i 0).toNat ≤ 126) && okB (a.data.toList.drop (i + 1))) := rfl
    rw [ho]
    generalize (a.data.getD i 0).toNat = u at hu
    by_cases h1 : (u : Int) < 32
    · simp only [if_pos h1]
      rw [decide_eq_false (by omega), Bool.false_and]
      exact Ev.now _
    simp only [if_neg h1]
    by_cases h2 : (u : Int) > 126
    · simp only [if_pos h2]
      rw [decide_eq_false (by omega), Bool.false_and]
      exact Ev.now _
    simp only [if_neg h2]
    rw [decide_eq_true (by omega), Bool.true_and]
    exact ih (i + 1) (by omega)
theorem impl_split (a : ByteArray) : Ev (fun k => impl_SplitFields.f k a) (splM a.data.toList) := by
  unfold impl_SplitFields.f splM
  rw [size_toList]
  by_cases h : (a.size : Int) > 600
  · simp only [if_pos h, if_pos (show a.size > 600 by omega)]
    exact Ev.now _
  · simp only [if_neg h, if_neg (show ¬ a.size > 600 by omega)]
    exact impl_spl0 a (by omega) a.size 0 (by omega)
theorem par_cases (l : List UInt8) : parM l = (0, false) ∨ ∃ n : Nat, n ≤ 1000000000 ∧ l = Lib.decDigits n ∧ parM l = ((n : Int), true) := by
  unfold parM
  split
  · exact Or.inl rfl
  · cases h : digs l 0 with
    | none => exact Or.inl rfl
    | some n =>
      unfold fin
      simp only
      by_cases h1 : n > 1000000000
      · rw [if_pos h1]
        exact Or.inl rfl
      · rw [if_neg h1]
        by_cases h2 : Lib.decDigits n = l
        · rw [if_pos h2]
          exact Or.inr ⟨n, by omega, h2.symm, rfl⟩
        · rw [if_neg h2]
          exact Or.inl rfl
theorem par_bad (u : UInt8) (r : List UInt8) (h : ¬ (48 ≤ u.toNat ∧ u.toNat ≤ 57)) : parM (u :: r) = (0, false) := by
  unfold parM
  split
  · rfl
  · rw [digs, if_neg h]
    rfl
/-- A field's token: a name, or a number in its own spelling. -/
def numM (f : ByteArray) : Int × Bool := if f.size > 1 ∧ bt f 0 = 45 then (-(parM (f.extract 1 f.size).data.toList).1, (parM (f.extract 1 f.size).data.toList).2 && decide (1 ≤ (parM (f.extract 1 f.size).data.toList).1 ∧ (parM (f.extract 1 f.size).data.toList).1 ≤ 999)) else ((parM f.data.toList).1, (parM f.data.toList).2 && decide ((parM f.data.toList).1 ≤ 999))
def tokM (f : ByteArray) : Option S43 := if (numM f).2 = true then some ⟨⟨#[]⟩, (numM f).1⟩ else if nameB f = true then some ⟨f, 0⟩ else none
def scanL : List ByteArray → Option (List S43)
  | [] => some []
  | f :: r => (tokM f).bind fun t => (scanL r).map fun ts => t :: ts
def fin3 (out : List S43) : Option (List S43) → List S43 × Bool
  | none => ([], false)
  | some ts => (out ++ ts, true)
def scanM (a : ByteArray) : List S43 × Bool := if (splM a.data.toList).2 = true then fin3 [] (scanL (splM a.data.toList).1) else ([], false)
theorem fin3_step (out : List S43) (f : ByteArray) (r : List ByteArray) (t : S43) (h : tokM f = some t) : fin3 out (scanL (f :: r)) = fin3 (out ++ [t]) (scanL r) := by
  simp only [scanL, h, Option.bind_some]
  cases scanL r with
  | none => rfl
  | some ts => simp [fin3]
theorem fin3_fail (out : List S43) (f : ByteArray) (r : List ByteArray) (h : tokM f = none) : fin3 out (scanL (f :: r)) = ([], false) := by
  simp only [scanL, h, Option.bind_none]
  rfl
theorem pc_each : ∀ (l cur : List UInt8), ∀ p ∈ pc l cur, p.length ≤ cur.length + l.length
  | [], cur, p, hp => by
    simp only [pc, List.mem_singleton] at hp
    subst hp
    simp
  | u :: r, cur, p, hp => by
    rw [pc] at hp
    split at hp
    · rcases List.mem_cons.1 hp with rfl | hp
      · simp only [List.length_cons]; omega
      · have := pc_each r [] p hp
        simp only [List.length_cons, List.length_nil] at this ⊢; omega
    · have := pc_each r _ p hp
      simp only [List.length_append, List.length_cons, List.length_nil] at this ⊢; omega
/-- The fields are not empty and not long. -/
theorem splM_each (l : List UInt8) : ∀ f ∈ (splM l).1, 1 ≤ f.size ∧ f.size ≤ 600 := by
  unfold splM
  split
  · intro f hf; simp at hf
  · split
    · unfold fin2
      split
      · intro f hf; simp at hf
      · intro f hf
        have hf2 : f ∈ (flds l []).map mkB := hf
        obtain ⟨p, hp, rfl⟩ := List.mem_map.1 hf2
        obtain ⟨hp1, hp2⟩ := List.mem_filter.1 hp
        have := pc_each l [] p hp1
        have hs : (mkB p).size = p.length := size_mk p
        have hne : p ≠ [] := by
          intro h; subst h; simp at hp2
        have := List.length_pos_iff.2 hne
        simp only [List.length_nil] at *
        omega
    · intro f hf; simp at hf
theorem first_byte (f : ByteArray) (h : 1 ≤ f.size) : f.data.toList = f.data.getD 0 0 :: f.data.toList.drop 1 := by
  have := drop_bytes f 0 (by omega)
  simpa using this
theorem bt_zero (f : ByteArray) (h : 1 ≤ f.size) : bt f 0 = ((f.data.getD 0 0).toNat : Int) := by
  have := bt_get f 0 (by omega)
  simpa using this
theorem name_first (f : ByteArray) (h : nameB f = true) : 97 ≤ bt f 0 := by
  unfold nameB at h
  rw [Bool.and_eq_true] at h
  obtain ⟨h1, h2⟩ := h
  have h1 := of_decide_eq_true h1
  rw [letters_step f 0 (by omega), Bool.and_eq_true] at h2
  have := of_decide_eq_true h2.1
  have h3 := this.1
  simpa using h3
/-- A name is no number. -/
theorem name_no_num (f : ByteArray) (h : nameB f = true) : (numM f).2 = false := by
  have h1 := name_first f h
  have hs : 1 ≤ f.size := by
    unfold nameB at h
    rw [Bool.and_eq_true] at h
    exact (of_decide_eq_true h.1).1
  unfold numM
  rw [if_neg (by omega)]
  rw [bt_zero f hs] at h1
  have : parM f.data.toList = (0, false) := by
    rw [first_byte f hs]
    exact par_bad _ _ (by omega)
  rw [this]
  rfl
theorem itoa_negd (n : Nat) (h : 1 ≤ n) : Lib.itoa (-(n : Int)) = 45 :: Lib.decDigits n := Lib.itoa_neg n h
theorem impl_tok (f : ByteArray) (h1 : 1 ≤ f.size) (h2 : f.size ≤ 600) (P : List ByteArray) (out : List S43) (i : Nat) (hi : i < P.length) (hP : P.length ≤ 1000) (ho : out.length ≤ 1000) (hf : P[i] = f) (R : List S43 × Bool) (hn : tokM f = none → R = ([], false))
    (hs : ∀ t, tokM f = some t → Ev (fun k => impl_ScanText.l0 k (out ++ [t]) P (P.length : Int) ((i + 1 : Nat) : Int)) R) : Ev (fun k => impl_ScanText.l0 k out P (P.length : Int) (i : Int)) R := by
  have hrd : rdOf ByteArray.empty P (i : Int) = f := by rw [rdOf_lt P i hi, hf]
  refine Ev.step (fun k => impl_ScanText.l0.eq_2 _ _ _ _ k) ?_
  simp only [if_pos (show (i : Int) < (P.length : Int) by omega), if_pos (show (0 : Int) ≤ (i : Int) by omega), hrd]
  refine Ev.bind (impl_name f (by omega)) ?_
  cases hnm : nameB f with
  | true =>
    simp only [if_true, if_pos (show out.length < 5864062014805 by omega), wrap_succ i (by omega)]
    refine hs _ ?_
    unfold tokM
    rw [name_no_num f hnm, if_neg (by simp), hnm, if_pos rfl]
  | false =>
    simp only [Bool.false_eq_true, if_false, if_pos (show (0 : Int) < (f.size : Int) by omega)]
    have htok : tokM f = if (numM f).2 = true then some ⟨⟨#[]⟩, (numM f).1⟩ else none := by
      unfold tokM
      rw [hnm]
      split <;> rfl
    -- the shared end: a sign and the digits behind it
    have rest : ∀ (sg : Int) (dg : ByteArray), (sg = 1 ∨ sg = -1) →
        (parM dg.data.toList = (0, false) → tokM f = none) →
        (∀ n : Nat, n ≤ 1000000000 → parM dg.data.toList = ((n : Int), true) → (n > 999 → tokM f = none) ∧ (n ≤ 999 → if Lib.itoa (sg * (n : Int)) = f.data.toList then tokM f = some ⟨⟨#[]⟩, sg * (n : Int)⟩ else tokM f = none)) →
        Ev (fun k => impl_ScanText.j2 k out f sg dg P (P.length : Int) (i : Int)) R := by
      intro sg dg hsg hbad hgood
      refine Ev.step (fun k => impl_ScanText.j2.eq_2 _ _ _ _ _ _ _ k) ?_
      refine Ev.bind (impl_parse dg) ?_
      rcases par_cases dg.data.toList with hp | ⟨n, hn0, hdl, hp⟩
      · rw [hp]
        simp only [Bool.false_eq_true, if_false]
        rw [hn (hbad hp)]
        exact Ev.now _
      · rw [hp]
        obtain ⟨g1, g2⟩ := hgood n hn0 hp
        simp only [if_true]
        by_cases h9 : (n : Int) > 999
        · simp only [if_pos h9]
          rw [hn (g1 (by omega))]
          exact Ev.now _
        · simp only [if_neg h9]
          have e : wrap64 (sg * (n : Int)) = sg * (n : Int) := by rcases hsg with rfl | rfl <;> exact wrap_id (by omega) (by omega)
          have hr : -9223372036854775808 ≤ sg * (n : Int) ∧ sg * (n : Int) ≤ 9223372036854775807 := by rcases hsg with rfl | rfl <;> omega
          have g3 := g2 (by omega)
          unfold impl_FormatInt.f
          simp only [e, if_pos hr, Option.bind_some, toList_mk, Lib.toList_data]
          by_cases hq : Lib.itoa (sg * (n : Int)) = f.data.toList
          · rw [if_pos hq] at g3
            simp only [if_pos hq, if_pos (show out.length < 5864062014805 by omega), wrap_succ i (by omega)]
            exact hs _ g3
          · rw [if_neg hq] at g3
            simp only [if_neg hq]
            rw [hn g3]
            exact Ev.now _
    by_cases h45 : bt f 0 = 45
    · simp only [if_pos h45, if_pos (show (1 : Int) ≤ (f.size : Int) by omega)]
      have hu : f.data.getD 0 0 = 45 := by
        rw [bt_zero f h1] at h45
        apply UInt8.toNat_inj.1
        show _ = 45
        omega
      have hfl : f.data.toList = 45 :: (f.extract 1 f.size).data.toList := by
        rw [Lib.extract_to_end, ← hu]
        exact first_byte f h1
      refine rest (-1) _ (Or.inr rfl) ?_ ?_
      · intro hp
        have hz : (numM f).2 = false := by
          unfold numM
          by_cases hs1 : f.size > 1
          · rw [if_pos ⟨hs1, h45⟩, hp]
            rfl
          · rw [if_neg (fun h => hs1 h.1), hfl, par_bad 45 _ (by decide)]
            rfl
        rw [htok, if_neg (by rw [hz]; decide)]
      · intro n hn0 hp
        have hs1 : f.size > 1 := by
          rcases par_cases (f.extract 1 f.size).data.toList with h | ⟨m, _, hm, h⟩
          · rw [hp] at h
            simp at h
          · have := congrArg List.length hfl
            rw [hm, size_toList] at this
            have hne := List.length_pos_iff.2 (dec_ne m)
            simp only [List.length_cons] at this
            omega
        have hnum : numM f = (-(n : Int), true && decide (1 ≤ (n : Int) ∧ (n : Int) ≤ 999)) := by
          unfold numM
          rw [if_pos ⟨hs1, h45⟩, hp]
        have hdl : (f.extract 1 f.size).data.toList = Lib.decDigits n := by
          rcases par_cases (f.extract 1 f.size).data.toList with h | ⟨m, _, hm, h⟩
          · rw [hp] at h
            simp at h
          · rw [hp] at h
            have : (n : Int) = (m : Int) := congrArg Prod.fst h
            rw [hm, show n = m by omega]
        refine ⟨fun h9 => ?_, fun h9 => ?_⟩
        · rw [htok, hnum, decide_eq_false (by omega)]
          rfl
        · by_cases h0 : n = 0
          · subst h0
            have : Lib.itoa (-1 * ((0 : Nat) : Int)) ≠ f.data.toList := by
              rw [hfl]
              have e0 : Lib.itoa (-1 * ((0 : Nat) : Int)) = Lib.decDigits 0 := by
                rw [show (-1 * ((0 : Nat) : Int)) = ((0 : Nat) : Int) by omega, Lib.itoa_nonneg]
              rw [e0, Lib.decDigits_one (by omega)]
              intro h
              have := List.cons.inj h
              exact absurd this.1 (by decide)
            rw [if_neg this, htok, hnum, decide_eq_false (by omega)]
            rfl
          · have : Lib.itoa (-1 * (n : Int)) = f.data.toList := by
              rw [show -1 * (n : Int) = -(n : Int) by omega, itoa_negd n (by omega), hfl, hdl]
            rw [if_pos this, htok, hnum, decide_eq_true (by omega)]
            rw [show -1 * (n : Int) = -(n : Int) by omega]
            rfl
    · simp only [if_neg h45]
      have hnum0 : numM f = ((parM f.data.toList).1, (parM f.data.toList).2 && decide ((parM f.data.toList).1 ≤ 999)) := by
        unfold numM
        rw [if_neg (by omega)]
      refine rest 1 _ (Or.inl rfl) ?_ ?_
      · intro hp
        rw [htok, hnum0, hp, if_neg (by decide)]
      · intro n hn0 hp
        have hdl : f.data.toList = Lib.decDigits n := by
          rcases par_cases f.data.toList with h | ⟨m, _, hm, h⟩
          · rw [hp] at h
            simp at h
          · rw [hp] at h
            have : (n : Int) = (m : Int) := congrArg Prod.fst h
            rw [hm, show n = m by omega]
        refine ⟨fun h9 => ?_, fun h9 => ?_⟩
        · rw [htok, hnum0, hp]
          simp only
          rw [decide_eq_false (by omega)]
          rfl
        · have : Lib.itoa (1 * (n : Int)) = f.data.toList := by
            rw [Int.one_mul, Lib.itoa_nonneg, hdl]
          rw [if_pos this, htok, hnum0, hp]
          simp only
          rw [decide_eq_true (by omega), Int.one_mul]
          rfl
theorem impl_scan_loop (P : List ByteArray) (hP : P.length ≤ 24) (hE : ∀ f ∈ P, 1 ≤ f.size ∧ f.size ≤ 600) : ∀ (d i : Nat) (out : List S43), i + d = P.length → out.length ≤ i →
    Ev (fun k => impl_ScanText.l0 k out P (P.length : Int) (i : Int)) (fin3 out (scanL (P.drop i))) := by
  intro d
  induction d with
  | zero =>
    intro i out hi ho
    refine Ev.step (fun k => impl_ScanText.l0.eq_2 _ _ _ _ k) ?_
    simp only [if_neg (show ¬ (i : Int) < (P.length : Int) by omega)]
    rw [List.drop_of_length_le (by omega)]
    simp only [scanL, fin3, List.append_nil]
    exact Ev.now _
  | succ d ih =>
    intro i out hi ho
    have hil : i < P.length := by omega
    have he := hE P[i] (List.getElem_mem _)
    rw [List.drop_eq_getElem_cons hil]
    refine impl_tok P[i] he.1 he.2 P out i hil (by omega) (by omega) rfl _ (fin3_fail out _ _) ?_
    intro t ht
    rw [fin3_step out _ _ t ht]
    exact ih (i + 1) (out ++ [t]) (by omega) (by simp; omega)
theorem impl_scan (a : ByteArray) : Ev (fun k => impl_ScanText.f k a) (scanM a) := by
  unfold impl_ScanText.f scanM
  have hl := splM_len a.data.toList
  refine Ev.bind (impl_split a) ?_
  cases hb : (splM a.data.toList).2 with
  | false =>
    simp only [Bool.false_eq_true, if_false]
    refine Ev.step (fun k => impl_ScanText.j0.eq_2 _ _ k) ?_
    simp only [if_true]
    exact Ev.now _
  | true =>
    simp only [if_true, decide_eq_false (show ¬ ((splM a.data.toList).1.length : Int) > 60 by omega)]
    refine Ev.step (fun k => impl_ScanText.j0.eq_2 _ _ k) ?_
    simp only [Bool.false_eq_true, if_false]
    exact impl_scan_loop _ hl (splM_each _) (splM a.data.toList).1.length 0 [] (by omega) (Nat.le_refl _)
theorem okB_app (a b : List UInt8) : okB (a ++ b) = (okB a && okB b) := by unfold okB; rw [List.all_append]
theorem pc_ok : ∀ (l cur : List UInt8), okB l = true → okB cur = true → ∀ p ∈ pc l cur, okB p = true
  | [], cur, _, hc, p, hp => by
    simp only [pc, List.mem_singleton] at hp
    subst hp
    exact hc
  | u :: r, cur, hl, hc, p, hp => by
    have h1 : okB (u :: r) = (okB [u] && okB r) := okB_app [u] r
    rw [h1, Bool.and_eq_true] at hl
    rw [pc] at hp
    split at hp
    · rcases List.mem_cons.1 hp with rfl | hp
      · exact hc
      · exact pc_ok r [] hl.2 rfl p hp
    · exact pc_ok r _ hl.2 (by rw [okB_app, hc, hl.1]; rfl) p hp
theorem pc_no : ∀ (l cur : List UInt8), (32 : UInt8) ∉ cur → ∀ p ∈ pc l cur, (32 : UInt8) ∉ p
  | [], cur, hc, p, hp => by
    simp only [pc, List.mem_singleton] at hp
    subst hp
    exact hc
  | u :: r, cur, hc, p, hp => by
    rw [pc] at hp
    split at hp
    · rcases List.mem_cons.1 hp with rfl | hp
      · exact hc
      · exact pc_no r [] (by simp) p hp
    · rename_i hu
      refine pc_no r _ ?_ p hp
      rw [List.mem_append, List.mem_singleton]
      rintro (h | h)
      · exact hc h
      · exact hu h.symm
theorem flds_run : ∀ (p r cur : List UInt8), (32 : UInt8) ∉ p → flds (p ++ r) cur = flds r (cur ++ p)
  | [], r, cur, _ => by simp
  | u :: p, r, cur, h => by
    rw [List.cons_append, flds_by _ _ _ (fun hu => h (by simp [hu])), flds_run p r _ (fun hm => h (by simp [hm]))]
    simp
def line (F : List (List UInt8)) : List UInt8 := (F.map (· ++ [32])).flatten
theorem flds_line : ∀ (F : List (List UInt8)), (∀ p ∈ F, p ≠ [] ∧ (32 : UInt8) ∉ p) → flds (line F) [] = F
  | [], _ => rfl
  | p :: r, h => by
    have hp := h p (by simp)
    have e : line (p :: r) = p ++ (32 :: line r) := by simp [line]
    rw [e, flds_run p _ _ hp.2, List.nil_append, flds_sp, if_neg hp.1, flds_line r (fun q hq => h q (by simp [hq]))]
    rfl
theorem okB_line : ∀ (F : List (List UInt8)), (∀ p ∈ F, okB p = true) → okB (line F) = true
  | [], _ => rfl
  | p :: r, h => by
    have e : line (p :: r) = p ++ ([32] ++ line r) := by simp [line]
    rw [e, okB_app, okB_app, h p (by simp), okB_line r (fun q hq => h q (by simp [hq]))]
    rfl
theorem digs_app : ∀ (a b : List UInt8) (n : Nat), digs (a ++ b) n = (digs a n).bind (digs b)
  | [], b, n => rfl
  | u :: r, b, n => by
    simp only [List.cons_append, digs]
    split
    · exact digs_app r b _
    · rfl
theorem digit_byte (n : Nat) (h : n < 10) : (UInt8.ofNat (48 + n)).toNat = 48 + n := by
  rw [UInt8.toNat_ofNat']
  omega
theorem digs_dec : ∀ (d m : Nat), m ≤ d → digs (Lib.decDigits m) 0 = some m := by
  intro d
  induction d with
  | zero =>
    intro m hm
    obtain rfl : m = 0 := by omega
    rw [Lib.decDigits_one (by omega)]
    simp only [digs, digit_byte 0 (by omega)]
    rfl
  | succ d ih =>
    intro m hm
    by_cases h10 : m < 10
    · rw [Lib.decDigits_one h10]
      simp only [digs, digit_byte m h10]
      rw [if_pos (by omega)]
      congr 1
      omega
    · rw [Lib.decDigits, dif_neg h10, digs_app, ih (m / 10) (by omega)]
      simp only [Option.bind_some, digs, digit_byte (m % 10) (Nat.mod_lt _ (by omega))]
      rw [if_pos (by omega)]
      congr 1
      omega
theorem par_dec (n : Nat) (h : n ≤ 1000000000) : parM (Lib.decDigits n) = ((n : Int), true) := by
  unfold parM
  have := nDigits_le 9 n (by have : (10 : Nat) ^ (9 + 1) = 10000000000 := by decide
                             omega)
  rw [Lib.decDigits_length, if_neg (by omega), digs_dec n n (Nat.le_refl _)]
  unfold fin
  simp only
  rw [if_neg (by omega)]
  simp only [if_true]
theorem par_big (n : Nat) (h : n > 1000000000) : parM (Lib.decDigits n) = (0, false) := by
  unfold parM
  split
  · rfl
  · rw [digs_dec n n (Nat.le_refl _)]
    unfold fin
    simp only
    rw [if_pos h]
theorem par_neg (l : List UInt8) : parM (45 :: l) = (0, false) := by
  unfold parM
  split
  · rfl
  · have e : digs (45 :: l) 0 = none := by
      rw [digs, if_neg]
      decide
    rw [e]
    rfl
theorem e_nil : (⟨#[]⟩ : ByteArray).toList = ([] : List UInt8) := (mkB_eq_nil []).2 rfl
theorem vt_tok (x : S43) (h : VT x) : tokenB x.f0 x.f1 = true := by
  unfold tokenB
  rcases h with ⟨h1, h2⟩ | ⟨h1, h2⟩
  · rw [h1, if_pos e_nil]
    exact decide_eq_true h2
  · have := name_size _ h1
    rw [if_neg (fun hn => by
      rw [Lib.toList_data] at hn
      have := congrArg List.length hn
      rw [size_toList, List.length_nil] at this
      omega), h1, h2]
    rfl
theorem dec_bytes : ∀ (d m : Nat), m ≤ d → ∀ u ∈ Lib.decDigits m, 48 ≤ u.toNat ∧ u.toNat ≤ 57 := by
  intro d
  induction d with
  | zero =>
    intro m hm u hu
    obtain rfl : m = 0 := by omega
    rw [Lib.decDigits_one (by omega), List.mem_singleton] at hu
    subst hu
    decide
  | succ d ih =>
    intro m hm u hu
    by_cases h10 : m < 10
    · rw [Lib.decDigits_one h10, List.mem_singleton] at hu
      subst hu
      rw [digit_byte m h10]
      omega
    · rw [Lib.decDigits, dif_neg h10, List.mem_append, List.mem_singleton] at hu
      rcases hu with hu | rfl
      · exact ih (m / 10) (by omega) u hu
      · rw [digit_byte (m % 10) (Nat.mod_lt _ (by omega))]
        omega
theorem okB_of (l : List UInt8) (h : ∀ u ∈ l, 33 ≤ u.toNat ∧ u.toNat ≤ 126) : okB l = true ∧ (32 : UInt8) ∉ l := by
  refine ⟨?_, ?_⟩
  · unfold okB
    rw [List.all_eq_true]
    intro u hu
    have := h u hu
    exact decide_eq_true (by omega)
  · intro hm
    have := h 32 hm
    have e : (32 : UInt8).toNat = 32 := rfl
    omega
theorem name_bytes (f : ByteArray) (h : nameB f = true) : ∀ u ∈ f.data.toList, 97 ≤ u.toNat ∧ u.toNat ≤ 122 := by
  intro u hu
  obtain ⟨j, hj, rfl⟩ := List.getElem_of_mem hu
  rw [size_toList] at hj
  unfold nameB at h
  rw [Bool.and_eq_true] at h
  have h2 := h.2
  unfold lettersB at h2
  rw [List.all_eq_true] at h2
  have h3 := of_decide_eq_true (h2 j (List.mem_range'_1.2 ⟨by omega, by omega⟩))
  rw [bt_get f j hj] at h3
  have e : f.data.getD j 0 = f.data.toList[j]'(by rw [size_toList]; exact hj) := by
    rw [Array.getD_eq_getD_getElem?, Array.getElem?_eq_getElem (show j < f.data.size from hj), Array.getElem_toList]
    rfl
  rw [e] at h3
  omega
theorem txt_ok (x : S43) (h : VT x) : txt x ≠ [] ∧ (32 : UInt8) ∉ txt x ∧ okB (txt x) = true := by
  have key : txt x ≠ [] ∧ ∀ u ∈ txt x, 33 ≤ u.toNat ∧ u.toNat ≤ 126 := by
    unfold txt
    rcases h with ⟨h1, h2⟩ | ⟨h1, h2⟩
    · rw [h1, if_pos e_nil]
      unfold Lib.itoa
      split
      · refine ⟨by simp, fun u hu => ?_⟩
        rcases List.mem_cons.1 hu with rfl | hu
        · decide
        · have := dec_bytes _ _ (Nat.le_refl _) u hu
          omega
      · refine ⟨dec_ne _, fun u hu => ?_⟩
        have := dec_bytes _ _ (Nat.le_refl _) u hu
        omega
    · have hs := name_size _ h1
      have hne : x.f0.data.toList ≠ [] := by
        intro hn
        have := congrArg List.length hn
        rw [size_toList, List.length_nil] at this
        omega
      rw [if_neg (fun hn => hne (by rw [Lib.toList_data] at hn; exact hn))]
      refine ⟨hne, fun u hu => ?_⟩
      have := name_bytes _ h1 u hu
      omega
  have := okB_of _ key.2
  exact ⟨key.1, this.2, this.1⟩
theorem dec_first (n : Nat) : ∃ u r, Lib.decDigits n = u :: r ∧ 48 ≤ u.toNat ∧ u.toNat ≤ 57 := by
  cases h : Lib.decDigits n with
  | nil => exact absurd h (dec_ne n)
  | cons u r => exact ⟨u, r, rfl, dec_bytes n n (Nat.le_refl _) u (by rw [h]; simp)⟩
theorem tok_txt (x : S43) (h : VT x) : tokM (mkB (txt x)) = some x := by
  rcases h with ⟨h1, h2, h3⟩ | ⟨h1, h2⟩
  · obtain ⟨s, n⟩ := x
    have g1 : s = ⟨#[]⟩ := h1
    have g2 : -999 ≤ n := h2
    have g3 : n ≤ 999 := h3
    clear h1 h2 h3
    subst g1
    have et : txt ⟨⟨#[]⟩, n⟩ = Lib.itoa n := by
      unfold txt
      exact if_pos e_nil
    rw [et]
    by_cases hn : n < 0
    · obtain ⟨m, rfl⟩ : ∃ m : Nat, n = -(m : Int) := ⟨n.natAbs, by omega⟩
      rw [Lib.itoa_neg m (by omega)]
      have hsz : (mkB (45 :: Lib.decDigits m)).size = (Lib.decDigits m).length + 1 := by
        show (⟨(45 :: Lib.decDigits m).toArray⟩ : ByteArray).size = _
        rw [size_mk, List.length_cons]
      have hpos := List.length_pos_iff.2 (dec_ne m)
      have hb : bt (mkB (45 :: Lib.decDigits m)) 0 = 45 := by
        rw [bt_zero _ (by omega)]
        rfl
      have hx : ((mkB (45 :: Lib.decDigits m)).extract 1 (mkB (45 :: Lib.decDigits m)).size).data.toList = Lib.decDigits m := by
        rw [Lib.extract_to_end]
        rfl
      have hnum : numM (mkB (45 :: Lib.decDigits m)) = (-(m : Int), true) := by
        unfold numM
        rw [if_pos ⟨by omega, hb⟩, hx, par_dec m (by omega)]
        simp only
        rw [decide_eq_true (by omega)]
        rfl
      unfold tokM
      rw [hnum, if_pos rfl]
    · obtain ⟨m, rfl⟩ := Int.eq_ofNat_of_zero_le (show 0 ≤ n by omega)
      rw [Lib.itoa_nonneg]
      obtain ⟨u, r, hd, hu1, hu2⟩ := dec_first m
      have hsz : 1 ≤ (mkB (Lib.decDigits m)).size := by
        show 1 ≤ (⟨(Lib.decDigits m).toArray⟩ : ByteArray).size
        rw [size_mk]
        exact List.length_pos_iff.2 (dec_ne m)
      have hb : bt (mkB (Lib.decDigits m)) 0 = (u.toNat : Int) := by
        rw [bt_zero _ hsz, hd]
        rfl
      have hx : (mkB (Lib.decDigits m)).data.toList = Lib.decDigits m := rfl
      have hnum : numM (mkB (Lib.decDigits m)) = ((m : Int), true) := by
        unfold numM
        rw [if_neg (by rw [hb]; omega), hx, par_dec m (by omega)]
        simp only
        rw [decide_eq_true (by omega)]
        rfl
      unfold tokM
      rw [hnum, if_pos rfl]
  · obtain ⟨s, n⟩ := x
    have h1 : nameB s = true := h1
    have h2 : n = 0 := h2
    subst h2
    have hs : 1 ≤ s.size ∧ s.size ≤ 8 := name_size s h1
    have et : mkB (txt ⟨s, 0⟩) = s := by
      unfold txt
      rw [if_neg (fun hn => by
        have hn : s.toList = [] := hn
        rw [Lib.toList_data] at hn
        have := congrArg List.length hn
        rw [size_toList, List.length_nil] at this
        omega)]
      rfl
    rw [et]
    unfold tokM
    rw [name_no_num s h1, if_neg (by simp), h1, if_pos rfl]
theorem scan_texts : ∀ (l : List S43), (∀ x ∈ l, VT x) → scanL ((l.map txt).map mkB) = some l
  | [], _ => rfl
  | x :: r, h => by
    simp only [List.map_cons, scanL, tok_txt x (h x (by simp)), scan_texts r (fun y hy => h y (by simp [hy])), Option.bind_some, Option.map_some]
theorem tail_line : ∀ (r : List (List UInt8)), Lib.joinTail [32] r ++ [32] = 32 :: line r
  | [] => rfl
  | y :: r => by
    have e : Lib.joinTail [32] (y :: r) = [32] ++ y ++ Lib.joinTail [32] r := by simp [Lib.joinTail]
    have e2 : line (y :: r) = y ++ [32] ++ line r := by simp [line]
    rw [e, List.append_assoc, tail_line r, e2]
    simp
theorem join_line (xs : List (List UInt8)) (h : xs ≠ []) : Lib.join xs [32] ++ [32] = line xs := by
  cases xs with
  | nil => exact absurd rfl h
  | cons x r =>
    rw [Lib.join_cons, List.append_assoc, tail_line]
    simp [line]
theorem scan_back (l : List S43) (hl : l.length ≤ 20) (hv : ∀ x ∈ l, VT x) : scanM ⟨([32, 32] ++ Lib.join (l.map txt) [32] ++ [32]).toArray⟩ = (l, true) := by
  have hF : ∀ p ∈ l.map txt, p ≠ [] ∧ (32 : UInt8) ∉ p ∧ okB p = true := by
    intro p hp
    obtain ⟨x, hx, rfl⟩ := List.mem_map.1 hp
    exact txt_ok x (hv x hx)
  have hj := join_len (l.map txt) (fun y hy => by
    obtain ⟨x, hx, rfl⟩ := List.mem_map.1 hy
    exact txt_len x (vt_tok x (hv x hx)))
  rw [List.length_map] at hj
  have hf : flds ([32, 32] ++ Lib.join (l.map txt) [32] ++ [32]) [] = l.map txt := by
    rw [List.append_assoc]
    show flds (32 :: 32 :: (Lib.join (l.map txt) [32] ++ [32])) [] = _
    rw [flds_sp, flds_sp, if_pos rfl, List.nil_append, List.nil_append]
    by_cases hne : l.map txt = []
    · rw [hne]
      rfl
    · rw [join_line _ hne, flds_line _ fun p hp => ⟨(hF p hp).1, (hF p hp).2.1⟩]
  have ho : okB ([32, 32] ++ Lib.join (l.map txt) [32] ++ [32]) = true := by
    rw [List.append_assoc, okB_app]
    have e : okB [32, 32] = true := rfl
    rw [e, Bool.true_and]
    by_cases hne : l.map txt = []
    · rw [hne]
      rfl
    · rw [join_line _ hne]
      exact okB_line _ fun p hp => (hF p hp).2.2
  have hs : splM ([32, 32] ++ Lib.join (l.map txt) [32] ++ [32]) = ((l.map txt).map mkB, true) := by
    unfold splM
    rw [if_neg (by simp only [List.length_append, List.length_cons, List.length_nil]; omega), if_pos ho, hf]
    unfold fin2
    rw [if_neg (by rw [List.length_map, List.length_map]; omega)]
  unfold scanM
  have e : (⟨([32, 32] ++ Lib.join (l.map txt) [32] ++ [32]).toArray⟩ : ByteArray).data.toList = [32, 32] ++ Lib.join (l.map txt) [32] ++ [32] := rfl
  rw [e, hs]
  simp only [if_true, scan_texts l hv, fin3, List.nil_append]
theorem tokens_loop (l : List S43) (hl : l.length ≤ 20) (hv : ∀ x ∈ l, VT x) : ∀ (d i : Nat), i + d = l.length → Ev (fun k => laws_FnTokens.l0 k l l (i : Int)) true := by
  intro d
  induction d with
  | zero =>
    intro i hi
    refine Ev.step (fun k => laws_FnTokens.l0.eq_2 _ _ _ k) ?_
    simp only [if_neg (show ¬ (i : Int) < (l.length : Int) by omega)]
    exact Ev.now _
  | succ d ih =>
    intro i hi
    have hil : i < l.length := by omega
    have hx := hv l[i] (List.getElem_mem _)
    have ht := vt_tok _ hx
    refine Ev.step (fun k => laws_FnTokens.l0.eq_2 _ _ _ k) ?_
    simp only [if_pos (show (i : Int) < (l.length : Int) by omega), if_pos (show (0 : Int) ≤ (i : Int) by omega), rdiToken_lt l i hil, beq_self_eq_true, Bool.not_true, Bool.or_self, Bool.false_eq_true, if_false, wrap_succ i (by omega)]
    have hz : l[i].f0.size ≤ 1048577 := by
      rcases hx with ⟨h1, _⟩ | ⟨h1, _⟩
      · rw [h1]; decide
      · have := name_size _ h1; omega
    refine Ev.bind (impl_token _ _ hz) ?_
    simp only [ht, if_true]
    by_cases he : l[i].f0.toList = ([] : List UInt8)
    · simp only [if_pos he]
      exact ih (i + 1) (by omega)
    · simp only [if_neg he]
      refine Ev.bind (impl_name _ hz) ?_
      have hn := (tok_name _ ht he).1
      simp only [hn, if_true]
      exact ih (i + 1) (by omega)
theorem FnTokens : laws_FnTokens.Pure := by
  intro l hm hs hw
  refine Ev.rounds ?_
  simp only [laws_FnTokens.f, laws_big.f, Option.bind_some, decide_eq_true_eq]
  by_cases hb : (l.length : Int) > 1048576
  · simp only [if_pos hb]
    exact Ev.now _
  simp only [if_neg hb]
  obtain ⟨r, e, hr, hv⟩ := draw_tokens l (by omega)
  refine Ev.bind e ?_
  have hsz : ∀ x ∈ r, x.f0.size ≤ 1048576 := by
    intro x hx
    rcases hv x hx with ⟨h1, _⟩ | ⟨h1, _⟩
    · rw [h1]; decide
    · have := name_size _ h1; omega
  refine Ev.bind (impl_format r (by omega) hsz) ?_
  have hall : allFrom (tokAt r) r.length 0 = true := by
    rw [all_iff]
    intro j _ hj
    unfold tokAt
    rw [rdiToken_lt r j hj]
    exact vt_tok _ (hv _ (List.getElem_mem _))
  have hf : fmtM r = (⟨(Lib.join (r.map txt) [32]).toArray⟩, true) := by
    unfold fmtM
    rw [if_pos ⟨by omega, hall⟩]
  have hj := join_len (r.map txt) (fun y hy => by
    obtain ⟨x, hx, rfl⟩ := List.mem_map.1 hy
    exact txt_len x (vt_tok x (hv x hx)))
  rw [List.length_map] at hj
  rw [hf]
  have e2 : (⟨#[32, 32]⟩ : ByteArray) = ⟨([32, 32] : List UInt8).toArray⟩ := rfl
  have e1 : (⟨#[32]⟩ : ByteArray) = ⟨([32] : List UInt8).toArray⟩ := rfl
  simp only [e2, e1, str_app, size_mk, List.length_append, List.length_cons, List.length_nil, if_pos (show 2 + (Lib.join (r.map txt) [32]).length ≤ 9223372036854775807 by omega), if_pos (show 0 + 1 + 1 + (Lib.join (r.map txt) [32]).length + 1 ≤ 9223372036854775807 by omega)]
  refine Ev.bind (impl_scan _) ?_
  rw [scan_back r hr hv]
  simp only [if_true, bne_self_eq_false]
  refine Ev.step (fun k => laws_FnTokens.j0.eq_2 _ _ _ k) ?_
  simp only [Bool.false_eq_true, if_false]
  exact tokens_loop r hr hv r.length 0 (by omega)

end Go.Proofs.YtbfeaekgbgfcjaaDoor.Pure
