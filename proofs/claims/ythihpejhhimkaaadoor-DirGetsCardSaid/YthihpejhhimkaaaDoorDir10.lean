/- Contract of the reference's Put. -/
import Derived.Test.YthihpejhhimkaaaDoorDir9
set_option linter.unusedVariables false
namespace Go.Proofs.YthihpejhhimkaaaDoor.Dir10
open Go.RowKit Go.Proofs.YthihpejhhimkaaaDoor.Base Go.Proofs.YthihpejhhimkaaaDoor.Row Go.Proofs.YthihpejhhimkaaaDoor.App Go.Proofs.YthihpejhhimkaaaDoor.Multi Go.Proofs.YthihpejhhimkaaaDoor.StEq Go.Proofs.YthihpejhhimkaaaDoor.Held Go.Proofs.YthihpejhhimkaaaDoor.Out Go.Proofs.YthihpejhhimkaaaDoor.HeldW Go.Proofs.YthihpejhhimkaaaDoor.HeldX Go.Proofs.YthihpejhhimkaaaDoor.DiskMath Go.Proofs.YthihpejhhimkaaaDoor.Dir Go.Proofs.YthihpejhhimkaaaDoor.Dir2 Go.Proofs.YthihpejhhimkaaaDoor.Dir3 Go.Proofs.YthihpejhhimkaaaDoor.Dir4 Go.Proofs.YthihpejhhimkaaaDoor.Dir5 Go.Proofs.YthihpejhhimkaaaDoor.Dir9

/-- A list with other values laid over it. -/
def ov (l : List Int) (o : Nat) (xs : List Int) : List Int := l.take o ++ (xs ++ l.drop (o + xs.length))
theorem ov_len (l : List Int) (o : Nat) (xs : List Int) (h : o + xs.length ≤ l.length) : (ov l o xs).length = l.length := by
  unfold ov
  rw [List.length_append, List.length_append, List.length_take, List.length_drop]
  omega
theorem ov_nil (l : List Int) (o : Nat) : ov l o [] = l := by
  unfold ov
  simp
theorem ov_snoc (l : List Int) (o : Nat) (xs : List Int) (x : Int) (h : o + xs.length < l.length) : (ov l o xs).set (o + xs.length) x = ov l o (xs ++ [x]) := by
  apply List.ext_getElem?
  intro i
  unfold ov
  rw [List.getElem?_set]
  simp only [List.getElem?_append, List.length_append, List.length_take, List.length_drop, List.length_cons, List.length_nil, List.getElem?_take, List.getElem?_drop]
  have hm : min o l.length = o := by omega
  rw [hm]
  by_cases h1 : i < o
  · rw [if_neg (by omega)]
    simp only [if_pos h1]
  · rw [if_neg h1]
    by_cases h2 : o + xs.length = i
    · subst h2
      rw [if_pos rfl, if_pos (by omega), if_neg h1, if_pos (by omega), if_neg (by omega)]
      simp
    · rw [if_neg h2, if_neg h1]
      by_cases h3 : i - o < xs.length
      · rw [if_pos h3, if_pos (by omega), if_pos h3]
      · rw [if_neg h3, if_neg (by omega)]
        congr 1
        omega
theorem ov_mid (l : List Int) (o k : Nat) (xs : List Int) (x : Int) (hk : k < xs.length) (h : o + xs.length ≤ l.length) : (ov l o xs).set (o + k) x = ov l o (xs.set k x) := by
  unfold ov
  rw [List.length_set, List.set_append_right _ _ (by rw [List.length_take]; omega), List.length_take, show o + k - min o l.length = k by omega, List.set_append_left _ _ hk]
end Go.Proofs.YthihpejhhimkaaaDoor.Dir10
