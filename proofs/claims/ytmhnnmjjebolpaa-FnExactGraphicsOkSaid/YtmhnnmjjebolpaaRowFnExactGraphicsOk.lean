/- The row of FnExactGraphicsOk: a struct of five fields (a slice, a struct of four numbers, a slice of structs, a number, a struct of four numbers), opened cell by cell.
   Conditions: none. -/
import Derived.Test.YtmhnnmjjebolpaaRows
import Derived.Test.YtmhnnmjjebolpaaPFnExactGraphicsOkx4
import Derived.Test.YtmhnnmjjebolpaaPureFnExactGraphicsOk
import Derived.WalkKit
import Derived.ProofKit
import Derived.OpenShut
import Derived.ShutString
import Derived.ChangeOld
import Derived.Below
import Derived.SizedLaws
import Derived.Carry
import Derived.Lib.SmallJoins
import Derived.Test.YtmhnnmjjebolpaaSlices
namespace Go.Proofs.Ytmhnnmjjebolpaa.fnExactGraphicsOk
open Go.Joins Go.ChangeShapes Go.WideShapes Go.ChangeAt Go.RowKit Go.Deep
open Go.Proofs.YtmhnnmjjebolpaaW.PrintWords
set_option linter.unusedVariables false
set_option linter.unusedSimpArgs false
section
variable {H : Type} {enc : TypeId × Value → H} {P : Program} {w : World} {base : Nat} {spare : Nat → Bool} {held : Bool}
theorem array11 {α : Type} {cs : Array α} (h : cs.size = 11) : ∃ c0 c1 c2 c3 c4 c5 c6 c7 c8 c9 c10, cs = #[c0, c1, c2, c3, c4, c5, c6, c7, c8, c9, c10] := by
  obtain ⟨l⟩ := cs
  match l, h with
  | [c0, c1, c2, c3, c4, c5, c6, c7, c8, c9, c10], _ => exact ⟨c0, c1, c2, c3, c4, c5, c6, c7, c8, c9, c10, rfl⟩
theorem trod_struct5 {t : TypeId} {f0 f1 f2 f3 f4 : Field} {fuel : Nat} {cs : List Value} {x : DataW H × List MemPlace} (ht : P.underlying t = some (.struct #[f0, f1, f2, f3, f4])) (h : DataW.trod enc P w base spare held fuel t cs = some x) :
    ∃ y0 y1 y2 y3 y4 n, DataW.trod enc P w base spare held n f0.type ((cs.drop f0.offset).take (P.cellsOf f0.type)) = some y0 ∧
      DataW.trod enc P w base spare held n f1.type ((cs.drop f1.offset).take (P.cellsOf f1.type)) = some y1 ∧ DataW.trod enc P w base spare held n f2.type ((cs.drop f2.offset).take (P.cellsOf f2.type)) = some y2 ∧
      DataW.trod enc P w base spare held n f3.type ((cs.drop f3.offset).take (P.cellsOf f3.type)) = some y3 ∧ DataW.trod enc P w base spare held n f4.type ((cs.drop f4.offset).take (P.cellsOf f4.type)) = some y4 := by
  obtain ⟨xs, n, _, rfl, hl, hlen, hf⟩ := DataW.trod_struct ht h
  match xs, hlen with
  | [y0, y1, y2, y3, y4], _ => exact ⟨y0, y1, y2, y3, y4, n, by simpa using hf 0 f0 rfl, by simpa using hf 1 f1 rfl, by simpa using hf 2 f2 rfl, by simpa using hf 3 f3 rfl, by simpa using hf 4 f4 rfl⟩
theorem open_gfx {r : Reach} {b0 : Nat} {t : TypeId} {f0 f1 f2 f3 f4 : Field} {v : Value} {d : DataW H} {p : List MemPlace} (hs : P.underlying t = some (.struct #[f0, f1, f2, f3, f4]))
    (ho : f0.offset = 0 ∧ f1.offset = 1 ∧ f2.offset = 5 ∧ f3.offset = 6 ∧ f4.offset = 7) (hk : P.cellsOf f0.type = 1 ∧ P.cellsOf f1.type = 4 ∧ P.cellsOf f2.type = 1 ∧ P.cellsOf f3.type = 1 ∧ P.cellsOf f4.type = 4) (hC : P.cellsOf t = 11)
    (hv : Value.okWide P w r b0 t v) (h : DataW.Trod enc P w base spare held t v d p) :
    ∃ (c0 c1 c2 c3 c4 c5 c6 c7 c8 c9 c10 : Value) (y0 y1 y2 y3 y4 : DataW H × List MemPlace) (n : Nat), v = .agg #[c0, c1, c2, c3, c4, c5, c6, c7, c8, c9, c10] ∧
      DataW.trod enc P w base spare held n f0.type [c0] = some y0 ∧ DataW.trod enc P w base spare held n f1.type [c1, c2, c3, c4] = some y1 ∧ DataW.trod enc P w base spare held n f2.type [c5] = some y2 ∧
      DataW.trod enc P w base spare held n f3.type [c6] = some y3 ∧ DataW.trod enc P w base spare held n f4.type [c7, c8, c9, c10] = some y4 := by
  obtain ⟨cs, rfl, hsz⟩ := okWide_struct hs hv
  obtain ⟨c0, c1, c2, c3, c4, c5, c6, c7, c8, c9, c10, rfl⟩ := array11 (hsz.trans hC)
  obtain ⟨fuel, hf⟩ := h
  obtain ⟨y0, y1, y2, y3, y4, n, h0, h1, h2, h3, h4⟩ := trod_struct5 hs hf
  obtain ⟨o0, o1, o2, o3, o4⟩ := ho
  obtain ⟨k0, k1, k2, k3, k4⟩ := hk
  exact ⟨c0, c1, c2, c3, c4, c5, c6, c7, c8, c9, c10, y0, y1, y2, y3, y4, n, rfl, by simpa [Value.cells, o0, k0] using h0, by simpa [Value.cells, o1, k1] using h1, by simpa [Value.cells, o2, k2] using h2, by simpa [Value.cells, o3, k3] using h3, by simpa [Value.cells, o4, k4] using h4⟩
theorem open_four {t : TypeId} {f0 f1 f2 f3 : Field} {m : Nat} {c0 c1 c2 c3 : Value} {y : DataW H × List MemPlace} (hs : P.underlying t = some (.struct #[f0, f1, f2, f3])) (hone : oneCellFields P #[f0, f1, f2, f3] = true)
    (h : DataW.trod enc P w base spare held m t [c0, c1, c2, c3] = some y) :
    ∃ (y0 y1 y2 y3 : DataW H × List MemPlace) (n : Nat), DataW.trod enc P w base spare held n f0.type [c0] = some y0 ∧ DataW.trod enc P w base spare held n f1.type [c1] = some y1 ∧
      DataW.trod enc P w base spare held n f2.type [c2] = some y2 ∧ DataW.trod enc P w base spare held n f3.type [c3] = some y3 := by
  obtain ⟨y0, y1, y2, y3, n, -, -, h0, h1, h2, h3⟩ := trod_struct4 hs h
  obtain ⟨o0, k0⟩ := hone_of hone 0 f0 rfl
  obtain ⟨o1, k1⟩ := hone_of hone 1 f1 rfl
  obtain ⟨o2, k2⟩ := hone_of hone 2 f2 rfl
  obtain ⟨o3, k3⟩ := hone_of hone 3 f3 rfl
  exact ⟨y0, y1, y2, y3, n, by simpa [o0, k0] using h0, by simpa [o1, k1] using h1, by simpa [o2, k2] using h2, by simpa [o3, k3] using h3⟩
theorem int_cell {k : IntKind} {t : TypeId} {n : Nat} {c : Value} {y : DataW H × List MemPlace} (ht : P.underlying t = some (.int k)) (h : DataW.trod enc P w base spare held n t [c] = some y) : ∃ z, c = .int k z := by
  obtain ⟨z, e, _, _⟩ := DataW.trod_int ht h
  exact ⟨z, by simpa using e⟩
theorem open_int_row {t e : TypeId} {k : IntKind} {n : Nat} {a : Option Addr} {len cap : Nat} {y : DataW H × List MemPlace} (ht : P.underlying t = some (.slice e)) (he : P.underlying e = some (.int k)) (hc : P.cellsOf e = 1)
    (h : DataW.trod enc P w base spare held n t [.slice a len cap] = some y) :
    len ≤ cap ∧ cap ≤ maxLen ∧ ∀ i, i < len → ∃ ad, a = some ad ∧ ∃ z, w.cell? (ad.add i) = some (.int k z) := by
  rcases open_ints ht he hc h with ⟨hcs, _⟩ | ⟨x, l, c, zs, hcs, _, hl, hm, hz, _, hcell, _⟩
  · simp at hcs
    obtain ⟨rfl, rfl, rfl⟩ := hcs
    exact ⟨Nat.le_refl _, Nat.zero_le _, fun i hi => by omega⟩
  · simp at hcs
    obtain ⟨rfl, rfl, rfl⟩ := hcs
    refine ⟨hl, hm, fun i hi => ⟨x, rfl, _, hcell i ?_⟩⟩
    rw [hz]
    split <;> omega
end
theorem own : ownKnob Try.prog.godebug = none := by kernel_rfl
theorem laidOut : laidOutB Try.prog = true := by kernel_rfl
set_option maxRecDepth 100000 in
theorem lifted (os : Os) (started : os.Started) (H : Type) (enc : TypeId × Value → H) :
    ReturnsInHanded {} Try.checked os 8 .any (Rows.fnExactGraphicsOkSpec.pre6 enc Try.prog Try.f8 Rows.fnExactGraphicsOkRow.domain false) (Rows.fnExactGraphicsOkSpec.post enc Try.prog Try.f8 false true false false) := by
  refine returnsInHanded_of_change_sized (C := Try.checked) own started (by kernel_rfl) Try.func8
    (ChangeSpec.witness6 (enc := enc) (C := Try.checked) false ⟨#[], #[.agg #[.slice none 0 0, .int .i64 0, .int .i64 0, .int .i64 0, .int .i64 0, .slice none 0 0, .int .i64 0, .int .i64 0, .int .i64 0, .int .i64 0, .int .i64 0]], []⟩ 8 (by kernel_rfl) (by kernel_rfl) (by kernel_rfl) (by kernel_rfl)) ?_
  intro W base args ds gs before hval0 hW hcnd hsz0 _
  have hval : ∀ (j : Nat) t v, Try.f8.params[j]? = some t → args[j]? = some v → Value.okWide Try.prog W .any base t v := hval0
  have hW' := hW
  obtain ⟨p, q, hA0, hV, rfl, hfz, hnd⟩ := hW
  have hA : DataW.TrodAll enc Try.prog W 0 (fun _ => true) true Try.f8.params.toList args.toList ds p := hA0
  rw [Try.params8] at hA hval
  obtain ⟨v0, vs0, d0, ds0, p0, q0, hargs, rfl, rfl, h0, r0⟩ := trodAll_cons hA
  obtain ⟨rfl, rfl, rfl⟩ := trodAll_nil r0
  obtain rfl : args = #[v0] := by cases args; simp_all
  obtain ⟨rfl, rfl⟩ := trodVars_none hV
  have k0 := h0
  have lt0 : ∀ x ∈ p0, x.block < W.heap.size := by obtain ⟨m, hm⟩ := k0; exact DataW.trod_lt m _ _ _ hm
  obtain ⟨c0, c1, c2, c3, c4, c5, c6, c7, c8, c9, c10, y0, y1, y2, y3, y4, n, rfl, g0, g1, g2, g3, g4⟩ := open_gfx Try.underlying58 ⟨rfl, rfl, rfl, rfl, rfl⟩ ⟨by kernel_rfl, by kernel_rfl, by kernel_rfl, by kernel_rfl, by kernel_rfl⟩ (by kernel_rfl) (hval 0 58 v0 rfl rfl) h0
  obtain ⟨A0, len0, cap0, e0⟩ := slice_form Try.underlying26 g0
  obtain rfl : c0 = .slice A0 len0 cap0 := by simpa using e0
  obtain ⟨A5, len5, cap5, e5⟩ := slice_form Try.underlying54 g2
  obtain rfl : c5 = .slice A5 len5 cap5 := by simpa using e5
  obtain ⟨_, _, _, _, _, s1, s2, s3, s4⟩ := open_four Try.underlying53 (by kernel_rfl) g1
  obtain ⟨a1, rfl⟩ := int_cell Try.underlying3 s1
  obtain ⟨a2, rfl⟩ := int_cell Try.underlying3 s2
  obtain ⟨a3, rfl⟩ := int_cell Try.underlying3 s3
  obtain ⟨a4, rfl⟩ := int_cell Try.underlying3 s4
  obtain ⟨a6, rfl⟩ := int_cell Try.underlying3 g3
  obtain ⟨_, _, _, _, _, s7, s8, s9, s10⟩ := open_four Try.underlying56 (by kernel_rfl) g4
  obtain ⟨a7, rfl⟩ := int_cell Try.underlying3 s7
  obtain ⟨a8, rfl⟩ := int_cell Try.underlying3 s8
  obtain ⟨a9, rfl⟩ := int_cell Try.underlying3 s9
  obtain ⟨a10, rfl⟩ := int_cell Try.underlying3 s10
  obtain ⟨hlc0, hcm0, hrow0⟩ := open_int_row Try.underlying26 Try.underlying3 (by kernel_rfl) g0
  have hbig0 : len0 ≤ 9223372036854775807 := Nat.le_trans hlc0 hcm0
  obtain ⟨l0, rfl, hr0, _⟩ := RowSlices.rows_of (d := Kd.int .i64) (a := A0) hbig0 (fun _ => True) (fun i hi => by
    obtain ⟨ad, ea, z, hz⟩ := hrow0 i hi
    refine ⟨ad, ea, z, [.int .i64 z], rfl, rfl, trivial, fun j u hj => ?_⟩
    match j, hj with
    | 0, hj =>
      obtain rfl := Option.some.inj hj
      have e : i * (Kd.int .i64).sz + 0 = i := Nat.mul_one i
      rw [e]
      exact hz
    | j + 1, hj => simp at hj)
  obtain ⟨hlc5, hcm5, hrow5⟩ := RowSlices.open_row2 Try.underlying54 Try.underlying108 (by kernel_rfl) (by kernel_rfl) ⟨n, g2⟩
  have hbig5 : len5 ≤ 9223372036854775807 := Nat.le_trans hlc5 hcm5
  obtain ⟨l5, rfl, hr5, _⟩ := RowSlices.rows_of (d := PFnExactGraphicsOk.k108) (a := A5) hbig5 (fun _ => True) (fun i hi => by
    obtain ⟨ad, ea, v0, v1, n, y0, y1, c0, c1, t0, t1⟩ := hrow5 i hi
    obtain ⟨b0, e0, _, g0⟩ := DataW.trod_int Try.underlying3 t0
    obtain rfl : v0 = .int .i64 b0 := by simpa using e0
    obtain ⟨b1, e1, _, g1⟩ := DataW.trod_int Try.underlying3 t1
    obtain rfl : v1 = .int .i64 b1 := by simpa using e1
    exact ⟨ad, ea, ⟨b0, b1⟩, [.int .i64 b0, .int .i64 b1], rfl, PFnExactGraphicsOk.k108_mk W ⟨b0, b1⟩, trivial, fun j u hj => by
      match j, hj with
      | 0, hj => obtain rfl := Option.some.inj hj; exact c0
      | 1, hj => obtain rfl := Option.some.inj hj; exact c1
      | j + 2, hj => simp at hj⟩)
  clear hA0 hval0 hsz0
  obtain ⟨k, hk⟩ := Pure.FnExactGraphicsOk l0 a1 a2 a3 a4 l5 a6 a7 a8 a9 a10 hbig0 hbig5
  refine (PFnExactGraphicsOk.laws_FnExactGraphicsOk.calls k A0 cap0 l0 a1 a2 a3 a4 A5 cap5 l5 a6 a7 a8 a9 a10 true W hr0 hlc0 hr5 hlc5 hk).mono fun e W' ⟨he, bel0⟩ => ?_
  have bel : Below W.heap.size W W' := bel0
  subst he
  exact ⟨_, rfl, _, _, _, [], _, [], hW', trodAll_mk1 (shut_bool Try.underlying4 _), (trodAll_cons_mk (Below.trod laidOut (by kernel_rfl) (of_decide_eq_true (by kernel_rfl)) k0 bel lt0) trodAll_mk0), rfl, bel.frame _, fun h => by cases h⟩
theorem over : Rows.fnExactGraphicsOkRow.holds Try.pinned (OpenSpec.ofChange Rows.fnExactGraphicsOkSpec) :=
  OpenClaim.holds_of_wide 8 Try.f8 rfl rfl rfl rfl rfl rfl rfl ⟨rfl, rfl, rfl, rfl, rfl⟩ rfl rfl rfl rfl rfl (by kernel_rfl) Try.func8 (by kernel_rfl)
    (of_decide_eq_true (by kernel_rfl)) (by unfold Func.isWrapper; first | (rw [if_pos (by decide +kernel)]; kernel_rfl) | (rw [if_neg (by decide +kernel)]; exact ⟨rfl, rfl⟩))
    (fun os started H enc _ => lifted os started H enc)
theorem proved : Rows.FnExactGraphicsOkSaid := over
end Go.Proofs.Ytmhnnmjjebolpaa.fnExactGraphicsOk
namespace Go.Proofs.Ytmhnnmjjebolpaa
/-- The row, under a short name, for the claim. -/
theorem fnExactGraphicsOk_holds : Rows.FnExactGraphicsOkSaid := fnExactGraphicsOk.proved
#print axioms fnExactGraphicsOk_holds
end Go.Proofs.Ytmhnnmjjebolpaa
