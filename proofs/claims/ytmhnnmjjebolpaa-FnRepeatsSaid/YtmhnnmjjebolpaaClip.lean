/- slices.Clip at tokens: the same elements at the same place, no spare capacity. Conditions: the slice's length is at most its capacity. -/
import Derived.Test.YtmhnnmjjebolpaaWMore
import Derived.Test.YtmhnnmjjebolpaaProg
import Derived.WalkKit
import Derived.ProofKit
namespace Go.Proofs.Ytmhnnmjjebolpaa.Clip
open Go.RowKit Go.Proofs.YtmhnnmjjebolpaaW.PrintWords
theorem bound (v : Nat) (c : Nat) (code : BoundsCode) (h : v ≤ c) (W : World) : (Instr.sliceBound (.int .i64 (v : Int)) c code).run Try.prog W = .ok v W := by
  unfold Instr.sliceBound
  simp [go_sem]
  omega
theorem cut (A : Option Addr) (n c : Nat) (hc : n ≤ c) (W : World) : (Instr.slice 36 (.slice A n c) none (some (.int .i64 (n : Int))) (some (.int .i64 (n : Int)))).run Try.prog W = .ok (.slice A n n) W := by
  unfold Instr.slice Instr.sliceBounds
  simp [run_underlying Try.underlying36, bound _ _ _ hc, go_sem, Try.sizeOf51]
set_option maxHeartbeats 4000000 in
theorem clip (A : Option Addr) (n c : Nat) (hc : n ≤ c) (w : World) : Calls Try.prog 90 #[.slice A n c] w fun e w' => e = .returned (.slice A n n) ∧ w' = w := by
  have hcut := cut A n c hc
  clear hc
  go_enter Try.func90, Try.ntmps90
  go_wp2
  go_ret
  exact ⟨rfl, rfl⟩
/-- the clipped form of a slice -/
def clp : Value → Value | .slice a n _ => .slice a n n | v => v
end Go.Proofs.Ytmhnnmjjebolpaa.Clip
