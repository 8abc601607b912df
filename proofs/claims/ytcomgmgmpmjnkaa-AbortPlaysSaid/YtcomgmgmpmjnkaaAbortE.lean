/- Contract of the closure of package abort's Gone. -/
import Derived.Test.YtcomgmgmpmjnkaaAbortD
set_option linter.unusedVariables false
namespace Go.Proofs.Ytcomgmgmpmjnkaa.AbortE
open Go.RowKit Go.Proofs.Ytcomgmgmpmjnkaa.Base Go.Proofs.Ytcomgmgmpmjnkaa.Row Go.Proofs.Ytcomgmgmpmjnkaa.App Go.Proofs.Ytcomgmgmpmjnkaa.Multi Go.Proofs.Ytcomgmgmpmjnkaa.Del Go.Proofs.Ytcomgmgmpmjnkaa.AbortMath Go.Proofs.Ytcomgmgmpmjnkaa.Abort Go.Proofs.Ytcomgmgmpmjnkaa.Abort2 Go.Proofs.Ytcomgmgmpmjnkaa.Abort3 Go.Proofs.Ytcomgmgmpmjnkaa.Abort6

set_option maxRecDepth 100000 in
theorem gone1_c (x : Wt) (e : Int) (b : Nat) (w : World) (h1 : w.cell? ⟨b, 0, none⟩ = some (.int .i64 e)) :
    Calls Try.prog 69 #[.agg (wa x), .pointer (some ⟨b, 0, none⟩)] w fun r w' => r = .returned (.bool (x.e == e)) ∧ Below w.heap.size w w' := by
  obtain ⟨xe, xk, xn, xl⟩ := x
  have B1 := bl_alloc (bl_refl w) (.cells (wa ⟨xe, xk, xn, xl⟩) 73)
  have h1 := bl_cell B1 h1
  simp only [wa] at h1 B1 ⊢
  go_enter Try.func69, Try.ntmps69
  go_wp2
  go_ret
  exact ⟨rfl, B1⟩
end Go.Proofs.Ytcomgmgmpmjnkaa.AbortE
