/- The program's EncodeHex returns what the reference's returns, for all arguments. This is its pure statement, over numbers and lists, as printed from the program; the row is built on it.
   Conditions: none. -/
import Derived.Test.YtmgjdmmggdmheaaGFnExactEncodeHexx1
namespace Go.Proofs.Ytmgjdmmggdmheaa.Pure
set_option linter.unusedSimpArgs false
set_option linter.unusedVariables false
open Go.RowKit Go.Proofs.Ytmgjdmmggdmheaa.GFnExactEncodeHex Go.Proofs.YtmgjdmmggdmheaaW.PrintWords Go.Proofs.YtmgjdmmggdmheaaW.PrintLast

theorem wrap_id {x : Int} (h0 : -9223372036854775808 ≤ x) (h1 : x ≤ 9223372036854775807) : wrap64 x = x := by
  unfold wrap64
  omega
theorem wrap_succ (i : Nat) (h : i < 4611686018427387904) : wrap64 ((i : Int) + 1) = ((i + 1 : Nat) : Int) := by
  rw [wrap_id (by omega) (by omega)]
  omega
theorem rd_lt (l : List Int) (i : Nat) (h : i < l.length) : rd l (i : Int) = l[i] := by
  unfold rd
  rw [Int.toNat_natCast, List.getD_eq_getElem?_getD, List.getElem?_eq_getElem h]
  rfl
theorem set_take {α : Type} (l x : List α) (i : Nat) (hi : i < l.length) (hx : x.length = l.length) (h : x.take i = l.take i) :
    (x.set i l[i]).take (i + 1) = l.take (i + 1) := by
  rw [List.take_succ_eq_append_getElem (by simp; omega), List.take_succ_eq_append_getElem hi, List.getElem_set_self, List.take_set_of_le (Nat.le_refl i), h]
def allFrom (p : Nat → Bool) (n i : Nat) : Bool := (List.range' i (n - i)).all p
theorem all_end (p : Nat → Bool) (n : Nat) : allFrom p n n = true := by simp [allFrom]
theorem all_step (p : Nat → Bool) (n i : Nat) (h : i < n) : allFrom p n i = (p i && allFrom p n (i + 1)) := by
  unfold allFrom
  rw [show n - i = (n - (i + 1)) + 1 by omega, List.range'_succ, List.all_cons]
theorem all_iff (p : Nat → Bool) (n i : Nat) : allFrom p n i = true ↔ ∀ j, i ≤ j → j < n → p j = true := by
  unfold allFrom
  rw [List.all_eq_true]
  constructor
  · intro h j h1 h2
    exact h j (List.mem_range'_1.2 ⟨h1, by omega⟩)
  · intro h j hj
    have := List.mem_range'_1.1 hj
    exact h j this.1 (by omega)
theorem fig_all : ∀ n : Nat, n < 16 → spec_l01Figure.f (n : Int) = some ((litU.data.getD n 0).toNat : Int) := by decide +kernel
theorem bt_get (a : ByteArray) (i : Nat) (h : i < a.size) : bt a (i : Int) = ((a.data.getD i 0).toNat : Int) := by
  have e : a.data.getD i 0 = a[i] := by
    rw [Array.getD_eq_getD_getElem?, Array.getElem?_eq_getElem (show i < a.data.size from h)]
    rfl
  rw [e]
  unfold bt
  rw [dif_pos (show (i : Int).toNat < a.size by omega)]
  rfl
theorem str_nums (l : List UInt8) : strOfNums (l.map fun u => (u.toNat : Int)) = ⟨l.toArray⟩ := by
  unfold strOfNums
  rw [List.map_map]
  have e : l.map ((fun n : Int => UInt8.ofNat n.toNat) ∘ fun u : UInt8 => (u.toNat : Int)) = l := by
    refine (List.map_congr_left fun u _ => ?_).trans (List.map_id l)
    show UInt8.ofNat (u.toNat : Int).toNat = u
    rw [Int.toNat_natCast]
    exact UInt8.ofNat_toNat
  rw [e]
theorem spec_hex_loop (a : ByteArray) (ha : a.size ≤ 20000) : ∀ (d i : Nat), i + d = a.size →
    Ev (fun k => spec_EncodeHex.l0 k a ((hexU a i).map fun u => (u.toNat : Int)) (i : Int)) (⟨(hexU a a.size).toArray⟩, true) := by
  intro d
  induction d with
  | zero =>
    intro i hi
    refine Ev.step (fun k => spec_EncodeHex.l0.eq_2 _ _ _ k) ?_
    simp only [if_neg (show ¬ (i : Int) < (a.size : Int) by omega)]
    rw [show i = a.size by omega, str_nums]
    exact Ev.now _
  | succ d ih =>
    intro i hi
    have hb : (a.data.getD i 0).toNat < 256 := (a.data.getD i 0).toNat_lt
    have e1 : wrap64 (Int.tdiv (wrap64 (bt a (i : Int))) 16) = (((a.data.getD i 0).toNat / 16 : Nat) : Int) := by
      rw [bt_get a i (by omega), wrap_id (x := ((a.data.getD i 0).toNat : Int)) (by omega) (by omega)]
      rw [show Int.tdiv ((a.data.getD i 0).toNat : Int) 16 = (((a.data.getD i 0).toNat / 16 : Nat) : Int) from rfl]
      exact wrap_id (by omega) (by omega)
    have e2 : Int.tmod (wrap64 (bt a (i : Int))) 16 = (((a.data.getD i 0).toNat % 16 : Nat) : Int) := by
      rw [bt_get a i (by omega), wrap_id (x := ((a.data.getD i 0).toNat : Int)) (by omega) (by omega)]
      rfl
    refine Ev.step (fun k => spec_EncodeHex.l0.eq_2 _ _ _ k) ?_
    have hlen : ((hexU a i).map fun u => (u.toNat : Int)).length = 2 * i := by rw [List.length_map, hexU_len]
    simp only [if_pos (show (i : Int) < (a.size : Int) by omega), if_pos (show (0 : Int) ≤ (i : Int) by omega), e1, e2, fig_all _ (show (a.data.getD i 0).toNat / 16 < 16 by omega), fig_all _ (show (a.data.getD i 0).toNat % 16 < 16 by omega), Option.bind_some, List.length_cons, List.length_nil]
    simp only [if_pos (show ((hexU a i).map fun u => (u.toNat : Int)).length + (0 + 1 + 1) < 140737488355328 by omega)]
    rw [wrap_succ i (by omega)]
    have h := ih (i + 1) (by omega)
    rw [hexU, List.map_append] at h
    exact h
theorem FnExactEncodeHex : laws_FnExactEncodeHex.Pure := by
  intro a ha
  refine Ev.rounds ?_
  unfold laws_FnExactEncodeHex.f
  by_cases hb : (a.size : Int) > 1048576
  · simp only [if_pos hb]
    exact Ev.now _
  simp only [if_neg hb]
  unfold spec_EncodeHex.f impl_EncodeHex.f
  by_cases h2 : (a.size : Int) > 20000
  · simp only [if_pos h2, Option.bind_some, if_true, bne_self_eq_false, Bool.false_eq_true, if_false]
    exact Ev.now _
  simp only [if_neg h2]
  refine Ev.bind (spec_hex_loop a (by omega) a.size 0 (by omega)) ?_
  simp only [Option.bind_some, if_true, bne_self_eq_false, Bool.false_eq_true, if_false]
  exact Ev.now _

end Go.Proofs.Ytmgjdmmggdmheaa.Pure
