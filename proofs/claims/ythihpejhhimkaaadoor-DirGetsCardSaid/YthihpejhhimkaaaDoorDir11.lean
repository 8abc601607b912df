/- Contract of the reference's Put: the walk. -/
import Derived.Test.YthihpejhhimkaaaDoorDir10
set_option linter.unusedVariables false
namespace Go.Proofs.YthihpejhhimkaaaDoor.Dir11
open Go.RowKit Go.Proofs.YthihpejhhimkaaaDoor.Base Go.Proofs.YthihpejhhimkaaaDoor.Row Go.Proofs.YthihpejhhimkaaaDoor.App Go.Proofs.YthihpejhhimkaaaDoor.Multi Go.Proofs.YthihpejhhimkaaaDoor.StEq Go.Proofs.YthihpejhhimkaaaDoor.Held Go.Proofs.YthihpejhhimkaaaDoor.Out Go.Proofs.YthihpejhhimkaaaDoor.HeldW Go.Proofs.YthihpejhhimkaaaDoor.HeldX Go.Proofs.YthihpejhhimkaaaDoor.DiskMath Go.Proofs.YthihpejhhimkaaaDoor.Dir Go.Proofs.YthihpejhhimkaaaDoor.Dir2 Go.Proofs.YthihpejhhimkaaaDoor.Dir3 Go.Proofs.YthihpejhhimkaaaDoor.Dir4 Go.Proofs.YthihpejhhimkaaaDoor.Dir5 Go.Proofs.YthihpejhhimkaaaDoor.Dir9 Go.Proofs.YthihpejhhimkaaaDoor.Dir10

theorem nums_set (L : List Int) (k : Nat) (v : Int) : (nums .u8 L).toArray.setIfInBounds k (.int .u8 v) = (nums .u8 (L.set k v)).toArray := by
  unfold nums
  rw [List.setIfInBounds_toArray, List.map_set]
theorem z_snoc (d : Bk) (o k : Nat) (h : o + k < 64) : (ov d.l o (List.replicate k 0)).set (o + k) 0 = ov d.l o (List.replicate (k + 1) 0) := by
  have hl := d.h
  have h1 := ov_snoc d.l o (List.replicate k 0) 0 (by rw [List.length_replicate]; omega)
  rw [List.length_replicate] at h1
  rw [h1, List.replicate_succ']
/-- The entry of which the name has been written up to a place. -/
def upto (e : En) (k : Nat) : List Int := e.i :: 0 :: ((byts e.s).take k ++ List.replicate (14 - k) 0)
theorem upto_len (e : En) (k : Nat) (h : k ≤ e.s.size) (h14 : e.s.size ≤ 14) : (upto e k).length = 16 := by
  unfold upto
  simp only [List.length_cons, List.length_append, List.length_take, List.length_replicate, byts_len]
  omega
theorem upto_zero (e : En) : (List.replicate 16 (0 : Int)).set 0 e.i = upto e 0 := by
  unfold upto
  rfl
theorem upto_set (e : En) (k : Nat) (h : k < e.s.size) (h14 : e.s.size ≤ 14) : (upto e k).set (2 + k) ((byts e.s)[k]?.getD 0) = upto e (k + 1) := by
  have hl := byts_len e.s
  apply List.ext_getElem?
  intro i
  unfold upto
  rw [show 2 + k = k + 1 + 1 by omega, List.set_cons_succ, List.set_cons_succ]
  match i with
  | 0 => rfl
  | 1 => rfl
  | i + 2 =>
    simp only [List.getElem?_cons_succ, List.getElem?_set, List.getElem?_append, List.length_append, List.length_take, List.length_replicate, List.getElem?_take, List.getElem?_replicate]
    rw [hl, show min k e.s.size = k by omega, show min (k + 1) e.s.size = k + 1 by omega]
    by_cases h1 : k = i
    · subst h1
      rw [if_pos rfl, if_pos (by omega), List.getElem?_eq_getElem (show k < (byts e.s).length by omega)]
      repeat (first | rw [if_pos (by omega)] | rw [if_neg (by omega)])
      rfl
    · rw [if_neg h1]
      by_cases h2 : i < k
      · repeat (first | rw [if_pos (by omega)] | rw [if_neg (by omega)])
      · by_cases h3 : i - k < 14 - k
        · repeat (first | rw [if_pos (by omega)] | rw [if_neg (by omega)])
        · repeat (first | rw [if_pos (by omega)] | rw [if_neg (by omega)])
theorem upto_end (e : En) : upto e e.s.size = ent e := by
  unfold upto ent
  rw [List.take_of_length_le (by rw [byts_len]; exact Nat.le_refl _)]
end Go.Proofs.YthihpejhhimkaaaDoor.Dir11
