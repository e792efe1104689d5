/- The program's DecodeHex returns what the reference's returns, for all arguments. This is its pure statement, over numbers and lists, as printed from the program; the row is built on it.
   Conditions: none. -/
import Derived.Test.YtmgjdmmggdmheaaGFnExactDecodeHexx1
namespace Go.Proofs.Ytmgjdmmggdmheaa.Pure
set_option linter.unusedSimpArgs false
set_option linter.unusedVariables false
open Go.RowKit Go.Proofs.Ytmgjdmmggdmheaa.GFnExactDecodeHex Go.Proofs.YtmgjdmmggdmheaaW.PrintWords Go.Proofs.YtmgjdmmggdmheaaW.PrintLast

theorem wrap_id {x : Int} (h0 : -9223372036854775808 ≤ x) (h1 : x ≤ 9223372036854775807) : wrap64 x = x := by
  unfold wrap64
  omega
theorem wrap_succ (i : Nat) (h : i < 4611686018427387904) : wrap64 ((i : Int) + 1) = ((i + 1 : Nat) : Int) := by
  rw [wrap_id (by omega) (by omega)]
  omega
theorem rd_lt (l : List Int) (i : Nat) (h : i < l.length) : rd l (i : Int) = l[i] := by
  unfold rd
  rw [Int.toNat_natCast, List.getD_eq_getElem?_getD, List.getElem?_eq_getElem h]
  rfl
theorem set_take {α : Type} (l x : List α) (i : Nat) (hi : i < l.length) (hx : x.length = l.length) (h : x.take i = l.take i) :
    (x.set i l[i]).take (i + 1) = l.take (i + 1) := by
  rw [List.take_succ_eq_append_getElem (by simp; omega), List.take_succ_eq_append_getElem hi, List.getElem_set_self, List.take_set_of_le (Nat.le_refl i), h]
def allFrom (p : Nat → Bool) (n i : Nat) : Bool := (List.range' i (n - i)).all p
theorem all_end (p : Nat → Bool) (n : Nat) : allFrom p n n = true := by simp [allFrom]
theorem all_step (p : Nat → Bool) (n i : Nat) (h : i < n) : allFrom p n i = (p i && allFrom p n (i + 1)) := by
  unfold allFrom
  rw [show n - i = (n - (i + 1)) + 1 by omega, List.range'_succ, List.all_cons]
theorem all_iff (p : Nat → Bool) (n i : Nat) : allFrom p n i = true ↔ ∀ j, i ≤ j → j < n → p j = true := by
  unfold allFrom
  rw [List.all_eq_true]
  constructor
  · intro h j h1 h2
    exact h j (List.mem_range'_1.2 ⟨h1, by omega⟩)
  · intro h j hj
    have := List.mem_range'_1.1 hj
    exact h j this.1 (by omega)
theorem str_nums (l : List UInt8) : strOfNums (l.map fun u => (u.toNat : Int)) = ⟨l.toArray⟩ := by
  unfold strOfNums
  rw [List.map_map]
  have e : l.map ((fun n : Int => UInt8.ofNat n.toNat) ∘ fun u : UInt8 => (u.toNat : Int)) = l := by
    refine (List.map_congr_left fun u _ => ?_).trans (List.map_id l)
    show UInt8.ofNat (u.toNat : Int).toNat = u
    rw [Int.toNat_natCast]
    exact UInt8.ofNat_toNat
  rw [e]
theorem spec_val (c : Int) (hc : 0 ≤ c ∧ c ≤ 255) : Ev (fun k => spec_l01Value.f k c) (digI c) := by
  unfold spec_l01Value.f digI
  have j (b : Bool) (hb : b = true → 48 ≤ c ∧ c ≤ 57) (hn : b = false → ¬ (48 ≤ c ∧ c ≤ 57)) : Ev (fun k => spec_l01Value.j0 k c b) (if 48 ≤ c ∧ c ≤ 57 then c - 48 else if 97 ≤ c ∧ c ≤ 102 then c - 87 else -1) := by
    refine Ev.step (fun k => spec_l01Value.j0.eq_2 _ _ k) ?_
    cases b with
    | true =>
      have h := hb rfl
      simp only [if_true, if_pos h]
      rw [wrap_id (x := c) (by omega) (by omega), wrap_id (x := c - 48) (by omega) (by omega)]
      exact Ev.now _
    | false =>
      have h := hn rfl
      simp only [Bool.false_eq_true, if_false, if_neg h]
      by_cases h1 : c ≥ 97
      · by_cases h2 : c ≤ 102
        · simp only [if_pos h1, if_pos h2, if_pos (show 97 ≤ c ∧ c ≤ 102 from ⟨h1, h2⟩)]
          rw [wrap_id (x := c) (by omega) (by omega), wrap_id (x := c - 97) (by omega) (by omega), wrap_id (x := c - 97 + 10) (by omega) (by omega), show c - 97 + 10 = c - 87 by omega]
          exact Ev.now _
        · simp only [if_pos h1, if_neg h2, if_neg (show ¬ (97 ≤ c ∧ c ≤ 102) from fun h => h2 h.2)]
          exact Ev.now _
      · simp only [if_neg h1, if_neg (show ¬ (97 ≤ c ∧ c ≤ 102) from fun h => h1 h.1)]
        exact Ev.now _
  by_cases h : c ≥ 48
  · simp only [if_pos h]
    refine j _ (fun hb => ⟨h, of_decide_eq_true hb⟩) (fun hb hh => ?_)
    exact absurd hh.2 (of_decide_eq_false hb)
  · simp only [if_neg h]
    exact j false (fun hb => by cases hb) (fun _ hh => h hh.1)
theorem sum_nat : ∀ m : Nat, m < 16 → ∀ n : Nat, n < 16 → (wrap64 ((wrap64 (16 * (m : Int))) + (n : Int))) % 256 = ((UInt8.ofNat (16 * (m : Int) + (n : Int)).toNat).toNat : Int) := by decide +kernel
theorem sum_int (X Y : Int) (hX : 0 ≤ X ∧ X < 16) (hY : 0 ≤ Y ∧ Y < 16) : (wrap64 ((wrap64 (16 * X)) + Y)) % 256 = ((UInt8.ofNat (16 * X + Y).toNat).toNat : Int) := by
  obtain ⟨m, rfl⟩ := Int.eq_ofNat_of_zero_le hX.1
  obtain ⟨n, rfl⟩ := Int.eq_ofNat_of_zero_le hY.1
  exact sum_nat m (by omega) n (by omega)
theorem dec_bad (a : ByteArray) (j : Nat) (hj : j < a.size / 2) (h : pairOk a j = false) : decR a = (⟨#[]⟩, false) := by
  unfold decR
  rw [if_neg]
  intro hall
  rw [List.all_eq_true] at hall
  have := hall j (List.mem_range.2 hj)
  rw [h] at this
  cases this
theorem spec_dec_loop (a : ByteArray) (ha : a.size ≤ 40000) (he : a.size % 2 = 0) : ∀ (d j : Nat), j + d = a.size / 2 → (List.range j).all (pairOk a) = true →
    Ev (fun k => spec_DecodeHex.l0 k a ((decU a j).map fun u => (u.toNat : Int)) ((2 * j : Nat) : Int)) (decR a) := by
  intro d
  induction d with
  | zero =>
    intro j hj ho
    refine Ev.step (fun k => spec_DecodeHex.l0.eq_2 _ _ _ k) ?_
    simp only [if_neg (show ¬ ((2 * j : Nat) : Int) < (a.size : Int) by omega)]
    rw [str_nums]
    have hj2 : j = a.size / 2 := by omega
    subst hj2
    unfold decR
    rw [if_pos ho]
    exact Ev.now _
  | succ d ih =>
    intro j hj ho
    refine Ev.step (fun k => spec_DecodeHex.l0.eq_2 _ _ _ k) ?_
    have w1 : wrap64 (((2 * j : Nat) : Int) + 1) = ((2 * j + 1 : Nat) : Int) := by rw [wrap_id (by omega) (by omega)]; omega
    have w2 : wrap64 (((2 * j : Nat) : Int) + 2) = ((2 * (j + 1) : Nat) : Int) := by rw [wrap_id (by omega) (by omega)]; omega
    have hlen : ((decU a j).map fun u => (u.toNat : Int)).length = j := by rw [List.length_map, decU_len]
    simp only [w1, w2, if_pos (show ((2 * j : Nat) : Int) < (a.size : Int) by omega), if_pos (show (0 : Int) ≤ ((2 * j : Nat) : Int) by omega), if_pos (show (0 : Int) ≤ ((2 * j + 1 : Nat) : Int) by omega), if_pos (show ((2 * j + 1 : Nat) : Int) < (a.size : Int) by omega), if_pos (show ((decU a j).map fun u => (u.toNat : Int)).length < 140737488355328 by omega)]
    refine Ev.bind (spec_val _ (bt_range a _)) ?_
    refine Ev.bind (spec_val _ (bt_range a _)) ?_
    have b1 := digI_le (bt a ((2 * j : Nat) : Int))
    have b2 := digI_le (bt a ((2 * j + 1 : Nat) : Int))
    by_cases h1 : digI (bt a ((2 * j : Nat) : Int)) < 0
    · simp only [if_pos h1]
      rw [dec_bad a j (by omega) (decide_eq_false (by omega))]
      exact Ev.now _
    · simp only [if_neg h1]
      by_cases h2 : digI (bt a ((2 * j + 1 : Nat) : Int)) < 0
      · simp only [if_pos h2]
        rw [dec_bad a j (by omega) (decide_eq_false (by omega))]
        exact Ev.now _
      · simp only [if_neg h2]
        rw [sum_int _ _ (by omega) (by omega)]
        have h := ih (j + 1) (by omega) (by
          rw [List.range_succ, List.all_append, ho, Bool.true_and, List.all_cons, List.all_nil, Bool.and_true]
          exact decide_eq_true (by omega))
        rw [decU, List.map_append] at h
        exact h
theorem FnExactDecodeHex : laws_FnExactDecodeHex.Pure := by
  intro a ha
  refine Ev.rounds ?_
  unfold laws_FnExactDecodeHex.f
  by_cases hb : (a.size : Int) > 1048576
  · simp only [if_pos hb]
    exact Ev.now _
  simp only [if_neg hb]
  have hs : Ev (fun k => spec_DecodeHex.f k a) (if a.size ≤ 40000 ∧ a.size % 2 = 0 then decR a else (⟨#[]⟩, false)) := by
    unfold spec_DecodeHex.f
    have bad : Ev (fun k => spec_DecodeHex.j0 k a true) (⟨#[]⟩, false) := by
      refine Ev.step (fun k => spec_DecodeHex.j0.eq_2 _ _ k) ?_
      simp only [if_true]
      exact Ev.now _
    by_cases h1 : (a.size : Int) > 40000
    · simp only [if_pos h1, if_neg (show ¬ (a.size ≤ 40000 ∧ a.size % 2 = 0) by omega)]
      exact bad
    · simp only [if_neg h1]
      by_cases h2 : a.size % 2 = 0
      · rw [if_pos ⟨by omega, h2⟩]
        have e : (((a.size : Int) % 2) != 0) = false := by
          rw [show ((a.size : Int) % 2) = 0 by omega]
          rfl
        rw [e]
        refine Ev.step (fun k => spec_DecodeHex.j0.eq_2 _ _ k) ?_
        simp only [Bool.false_eq_true, if_false]
        exact spec_dec_loop a (by omega) h2 (a.size / 2) 0 (by omega) rfl
      · rw [if_neg (fun h => h2 h.2)]
        have e : (((a.size : Int) % 2) != 0) = true := by
          rw [show ((a.size : Int) % 2) = 1 by omega]
          rfl
        rw [e]
        exact bad
  have hi : impl_DecodeHex.f a = some (if a.size ≤ 40000 ∧ a.size % 2 = 0 then decR a else (⟨#[]⟩, false)) := by
    unfold impl_DecodeHex.f
    rw [if_pos (show a.size ≤ 2097152 by omega)]
    split <;> rfl
  refine Ev.bind hs ?_
  simp only [hi, Option.bind_some, if_true, bne_self_eq_false, Bool.false_eq_true, if_false]
  exact Ev.now _

end Go.Proofs.Ytmgjdmmggdmheaa.Pure
