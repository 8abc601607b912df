/- DirNames: at every text the law's text returns true. -/
import Derived.Test.YthihpejhhimkaaaDoorDir7
set_option linter.unusedVariables false
namespace Go.Proofs.YthihpejhhimkaaaDoor.DirNames
open Go.RowKit Go.Proofs.YthihpejhhimkaaaDoor.Base Go.Proofs.YthihpejhhimkaaaDoor.Row Go.Proofs.YthihpejhhimkaaaDoor.Dir Go.Proofs.YthihpejhhimkaaaDoor.Dir7

set_option maxRecDepth 100000 in
set_option maxHeartbeats 1000000 in
theorem walk (s : ByteArray) (w : World) (hs : s.size ≤ 140737488351232) :
    Calls Tryd.prog 4 #[.string s] w fun r w' => r = .returned (.bool true) ∧ Below w.heap.size w w' := by
  have hs2 : s.size ≤ maxLen := by unfold maxLen; omega
  have hN := Lib.hid (fun w' => name_c s w' hs2)
  have hR := Lib.hid (fun w' => rname_c s w' hs2)
  have hA := Lib.hid (fun w' => awake_c w')
  have hq : (nameB s == nameB s) = true := by simp
  generalize nameB s = b at *
  go_enter Tryd.func4, Tryd.ntmps4
  go_wp2_with fail
  refine (hN.out _).mono ?_
  rintro r w1 ⟨rfl, rfl⟩
  go_wp2_with fail
  refine (hR.out _).mono ?_
  rintro r w1 ⟨rfl, rfl⟩
  go_wp2_with fail
  refine (hA.out _).mono ?_
  rintro r w2 ⟨rfl, b2⟩
  go_wp2_with fail
  go_ret
  exact ⟨rfl, b2⟩
end Go.Proofs.YthihpejhhimkaaaDoor.DirNames
