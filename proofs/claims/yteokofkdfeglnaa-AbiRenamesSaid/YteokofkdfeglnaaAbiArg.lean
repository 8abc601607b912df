/- The argument of the laws of layer 14: a call, opened. -/
import Derived.Test.YteokofkdfeglnaaFlat
import Derived.Test.YteokofkdfeglnaaAbi5
set_option linter.unusedVariables false
namespace Go.Proofs.Yteokofkdfeglnaa.AbiArg
open Go.RowKit Go.ChangeShapes Go.WideShapes Go.Deep Go.Proofs.Yteokofkdfeglnaa.Base Go.Proofs.Yteokofkdfeglnaa.Row Go.Proofs.Yteokofkdfeglnaa.Flat Go.Proofs.Yteokofkdfeglnaa.StEq Go.Proofs.Yteokofkdfeglnaa.Abi3 Go.Proofs.Yteokofkdfeglnaa.Abi5

theorem f_int : FlatOf Try.prog 3 [isI .i64] := flat_int Try.underlying3 (by kernel_rfl)
theorem f_u32 : FlatOf Try.prog 23 [isI .u32] := flat_int Try.underlying23 (by kernel_rfl)
theorem f_four : FlatOf Try.prog 22 (List.replicate 4 [isI .i64]).flatten := flat_array Try.underlying22 f_int (by kernel_rfl)
theorem f_words : FlatOf Try.prog 25 (List.replicate 16 [isI .u32]).flatten := flat_array Try.underlying25 f_u32 (by kernel_rfl)
theorem f_regs : FlatOf Try.prog 24 (List.replicate 16 [isI .u32]).flatten := flat_array Try.underlying24 f_u32 (by kernel_rfl)
def x17 : List (Value → Prop) := ([(List.replicate 16 [isI .u32]).flatten, [isI .u32]] : List (List (Value → Prop))).flatten
theorem f_cx : FlatOf Try.prog 27 x17 :=
  flat_struct Try.underlying27 _ (by kernel_rfl) fun j ps h => by
    match j, h with
    | 0, h => simp at h; subst h; exact ⟨_, rfl, rfl, f_regs⟩
    | 1, h => simp at h; subst h; exact ⟨_, rfl, rfl, f_u32⟩
def c38 : List (Value → Prop) := ([[isI .i64], (List.replicate 4 [isI .i64]).flatten, (List.replicate 16 [isI .u32]).flatten, x17] : List (List (Value → Prop))).flatten
theorem f_call : FlatOf Try.prog 29 c38 :=
  flat_struct Try.underlying29 _ (by kernel_rfl) fun j ps h => by
    match j, h with
    | 0, h => simp at h; subst h; exact ⟨_, rfl, rfl, f_int⟩
    | 1, h => simp at h; subst h; exact ⟨_, rfl, rfl, f_four⟩
    | 2, h => simp at h; subst h; exact ⟨_, rfl, rfl, f_words⟩
    | 3, h => simp at h; subst h; exact ⟨_, rfl, rfl, f_cx⟩
theorem at5 : ∀ i, i < 16 → c38[5 + i]? = some (isI .u32)
  | 0, _ => rfl | 1, _ => rfl | 2, _ => rfl | 3, _ => rfl | 4, _ => rfl | 5, _ => rfl | 6, _ => rfl | 7, _ => rfl
  | 8, _ => rfl | 9, _ => rfl | 10, _ => rfl | 11, _ => rfl | 12, _ => rfl | 13, _ => rfl | 14, _ => rfl | 15, _ => rfl
  | i + 16, h => absurd h (by omega)
theorem at21 : ∀ i, i < 16 → c38[21 + i]? = some (isI .u32)
  | 0, _ => rfl | 1, _ => rfl | 2, _ => rfl | 3, _ => rfl | 4, _ => rfl | 5, _ => rfl | 6, _ => rfl | 7, _ => rfl
  | 8, _ => rfl | 9, _ => rfl | 10, _ => rfl | 11, _ => rfl | 12, _ => rfl | 13, _ => rfl | 14, _ => rfl | 15, _ => rfl
  | i + 16, h => absurd h (by omega)
/-- A call. -/
def Call1 (v : Value) : Prop := ∃ op n0 n1 n2 n3 ws rs pc, ws.length = 16 ∧ rs.length = 16 ∧ v = .agg (ca op n0 n1 n2 n3 ws rs pc)
set_option maxRecDepth 100000 in
theorem call_of {H : Type} {enc : TypeId × Value → H} {W : World} {base : Nat} {v : Value} {d : DataW H} {p : List MemPlace} (hv : Value.okWide Try.prog W .any base 29 v)
    (h : DataW.Trod enc Try.prog W 0 (fun _ => true) true 29 v d p) : Call1 v := by
  obtain ⟨cs, rfl, _⟩ := okWide_struct Try.underlying29 hv
  obtain ⟨hsz, hi⟩ := open_flat f_call rfl h
  obtain ⟨_, h0, op, rfl, _⟩ := hi 0 _ rfl
  obtain ⟨_, h1, n0, rfl, _⟩ := hi 1 _ rfl
  obtain ⟨_, h2, n1, rfl, _⟩ := hi 2 _ rfl
  obtain ⟨_, h3, n2, rfl, _⟩ := hi 3 _ rfl
  obtain ⟨_, h4, n3, rfl, _⟩ := hi 4 _ rfl
  obtain ⟨_, h37, pc, rfl, _⟩ := hi 37 _ rfl
  obtain ⟨ws, hw, hwc, _⟩ := ints_of (cs := cs) (k := .u32) (o := 5) 16 (fun i hi' => by obtain ⟨_, hx, x, rfl, hxw⟩ := hi (5 + i) _ (at5 i hi'); exact ⟨x, hx, hxw⟩)
  obtain ⟨rs, hr, hrc, _⟩ := ints_of (cs := cs) (k := .u32) (o := 21) 16 (fun i hi' => by obtain ⟨_, hx, x, rfl, hxw⟩ := hi (21 + i) _ (at21 i hi'); exact ⟨x, hx, hxw⟩)
  have hs38 : cs.size = 38 := hsz
  refine ⟨op, n0, n1, n2, n3, ws, rs, pc, hw, hr, ?_⟩
  congr 1
  apply Array.ext_getElem?
  intro i
  rcases Nat.lt_or_ge i 5 with hi5 | hi5
  · match i, hi5 with
    | 0, _ => exact h0
    | 1, _ => exact h1
    | 2, _ => exact h2
    | 3, _ => exact h3
    | 4, _ => exact h4
  · rcases Nat.lt_or_ge i 21 with hi21 | hi21
    · obtain ⟨j, rfl⟩ : ∃ j, i = 5 + j := ⟨i - 5, by omega⟩
      rw [hwc j (by omega)]
      have hj : j < (nums .u32 ws).length := by rw [nums_length, hw]; omega
      rw [List.getElem?_eq_getElem hj]
      exact (ca_ws op n0 n1 n2 n3 ws rs pc j _ (List.getElem?_eq_getElem hj)).symm
    · rcases Nat.lt_or_ge i 37 with hi37 | hi37
      · obtain ⟨j, rfl⟩ : ∃ j, i = 21 + j := ⟨i - 21, by omega⟩
        rw [hrc j (by omega)]
        have hj : j < (nums .u32 rs).length := by rw [nums_length, hr]; omega
        rw [List.getElem?_eq_getElem hj]
        refine (ca_cx op n0 n1 n2 n3 ws rs pc hw j _ ?_).symm
        rw [cxL, List.getElem?_append_left hj]
        exact List.getElem?_eq_getElem hj
      · rcases Nat.lt_or_ge i 38 with hi38 | hi38
        · obtain rfl : i = 37 := by omega
          rw [h37]
          refine (ca_cx op n0 n1 n2 n3 ws rs pc hw 16 _ ?_).symm
          rw [cxL, List.getElem?_append_right (by rw [nums_length, hr]; omega), nums_length, hr]
          rfl
        · rw [Array.getElem?_eq_none (by omega), Array.getElem?_eq_none (by rw [ca_size _ _ _ _ _ _ _ _ hw hr]; omega)]
end Go.Proofs.Yteokofkdfeglnaa.AbiArg
