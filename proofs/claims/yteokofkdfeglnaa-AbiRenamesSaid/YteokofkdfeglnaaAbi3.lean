/- Contracts of package abi: the chapter's examples. -/
import Derived.Test.YteokofkdfeglnaaAbi2
set_option linter.unusedVariables false
namespace Go.Proofs.Yteokofkdfeglnaa.Abi3
open Go.RowKit Go.Proofs.Yteokofkdfeglnaa.Base Go.Proofs.Yteokofkdfeglnaa.Row Go.Proofs.Yteokofkdfeglnaa.App Go.Proofs.Yteokofkdfeglnaa.Multi Go.Proofs.Yteokofkdfeglnaa.Abi Go.Proofs.Yteokofkdfeglnaa.Abi2

/-- A letter's greatest number. -/
def mo (c : Int) : Int := if c = 97 then 15 else if c = 103 then 31 else if c = 119 then 4294967295 else if c = 116 then 1 else if c = 117 then 4096 else if c = 107 then 3 else 511
set_option maxRecDepth 100000 in
theorem most_c (c : Int) (w : World) : Calls Try.prog 36 #[.int .u8 c] w fun r w' => r = .returned (.int .i64 (mo c)) ∧ w = w' := by
  have h : c = 97 ∨ c = 103 ∨ c = 119 ∨ c = 116 ∨ c = 117 ∨ c = 107 ∨ ((c == 97) = false ∧ (c == 103) = false ∧ (c == 119) = false ∧ (c == 116) = false ∧ (c == 117) = false ∧ (c == 107) = false) := by
    by_cases h1 : c = 97
    · exact .inl h1
    by_cases h2 : c = 103
    · exact .inr (.inl h2)
    by_cases h3 : c = 119
    · exact .inr (.inr (.inl h3))
    by_cases h4 : c = 116
    · exact .inr (.inr (.inr (.inl h4)))
    by_cases h5 : c = 117
    · exact .inr (.inr (.inr (.inr (.inl h5))))
    by_cases h6 : c = 107
    · exact .inr (.inr (.inr (.inr (.inr (.inl h6)))))
    exact .inr (.inr (.inr (.inr (.inr (.inr ⟨by simpa using h1, by simpa using h2, by simpa using h3, by simpa using h4, by simpa using h5, by simpa using h6⟩)))))
  rcases h with rfl | rfl | rfl | rfl | rfl | rfl | ⟨q1, q2, q3, q4, q5, q6⟩
  · go_enter Try.func36, Try.ntmps36
    go_wp2
    go_ret
    exact ⟨rfl, rfl⟩
  · go_enter Try.func36, Try.ntmps36
    go_wp2
    go_ret
    exact ⟨rfl, rfl⟩
  · go_enter Try.func36, Try.ntmps36
    go_wp2
    go_ret
    exact ⟨rfl, rfl⟩
  · go_enter Try.func36, Try.ntmps36
    go_wp2
    go_ret
    exact ⟨rfl, rfl⟩
  · go_enter Try.func36, Try.ntmps36
    go_wp2
    go_ret
    exact ⟨rfl, rfl⟩
  · go_enter Try.func36, Try.ntmps36
    go_wp2
    go_ret
    exact ⟨rfl, rfl⟩
  · have hm : Hid (mo c = 511) := Lib.hid (by simp at q1 q2 q3 q4 q5 q6; simp [mo, q1, q2, q3, q4, q5, q6])
    rw [hm.out]
    go_enter Try.func36, Try.ntmps36
    go_wp2
    go_ret
    exact ⟨rfl, rfl⟩

/-- An element of an array value. -/
theorem run_idx {P : Program} {w : World} (t n e : Nat) (k ke : IntKind) (ht : P.underlying t = some (.array n e)) (he : P.underlying e = some (.int ke)) (hs : (P.info? e).map (·.size) = some 1)
    (cs : Array Value) (i : Nat) (hi : i < n) (v : Value) (hv : cs[i]? = some v) : (Instr.index t (.agg cs) (.int k i)).run P w = .ok v w := by
  obtain ⟨j, hj, hjs⟩ := Option.map_eq_some_iff.1 hs
  have hz : (sizeOf e).run P w = .ok 1 w := by simp [sizeOf, typeInfo, hj, hjs]
  have hp := run_part_int (P := P) (w := w) e ke he cs (i * 1) v (by simpa using hv)
  rw [Nat.mul_one] at hp
  simp [Instr.index, run_underlying ht, asIntOf, hz, hp, hi]

/-- A call's cells. -/
def cc (op : Int) (ns ws ps : List Int) : Array Value := (Value.int .i64 op :: (nums .i64 ns ++ (nums .u32 ws ++ nums .u32 ps))).toArray
def z16 : List Int := [0, 0, 0, 0, 0, 0, 0, 0, 0, 0, 0, 0, 0, 0, 0, 0]
def z17 : List Int := [0, 0, 0, 0, 0, 0, 0, 0, 0, 0, 0, 0, 0, 0, 0, 0, 0]
theorem form1 : F 1 = ⟨#[102, 97]⟩ := rfl
set_option maxRecDepth 100000 in
set_option maxHeartbeats 2000000 in
theorem check_ex (w : World) : Calls Try.prog 11 #[.agg (cc 1 [3, 16, 0, 0] z16 z17)] w fun r w' => r = .returned (.int .i64 1) ∧ Below w.heap.size w w' := by
  have hF := Lib.hid (fun w => form_c 1 w)
  rw [form1] at hF
  have hM1 := Lib.hid (fun w => most_c 102 w)
  rw [show mo 102 = 511 from rfl] at hM1
  have hM2 := Lib.hid (fun w => most_c 97 w)
  rw [show mo 97 = 15 from rfl] at hM2
  go_enter Try.func11, Try.ntmps11
  go_wp2_with (first
    | ((with_reducible refine wl_box rfl 29 _ rfl (cc 1 [3, 16, 0, 0] z16 z17) rfl ?_); intro w1 k1 b1 s1; have f0 := k1.cellv 0 (.int .i64 1) rfl; have f1 := k1.cellv 1 (.int .i64 3) rfl; have f2 := k1.cellv 2 (.int .i64 16) rfl; have f3 := k1.cellv 3 (.int .i64 0) rfl; have f4 := k1.cellv 4 (.int .i64 0) rfl))
  refine (hF.out _).mono ?_
  rintro r w2 ⟨rfl, rfl⟩
  go_wp2_with fail
  have e0 : (Instr.index 22 (.agg #[.int .i64 3, .int .i64 16, .int .i64 0, .int .i64 0]) (.int .i64 0)).run Try.prog w1 = .ok (.int .i64 3) w1 := run_idx (P := Try.prog) (w := w1) 22 4 3 .i64 .i64 rfl rfl rfl #[.int .i64 3, .int .i64 16, .int .i64 0, .int .i64 0] 0 (by omega) (.int .i64 3) rfl
  replace e0 := Lib.hid e0
  have e1 : (Instr.index 22 (.agg #[.int .i64 3, .int .i64 16, .int .i64 0, .int .i64 0]) (.int .i64 1)).run Try.prog w1 = .ok (.int .i64 16) w1 := run_idx (P := Try.prog) (w := w1) 22 4 3 .i64 .i64 rfl rfl rfl #[.int .i64 3, .int .i64 16, .int .i64 0, .int .i64 0] 1 (by omega) (.int .i64 16) rfl
  replace e1 := Lib.hid e1
  go_loopw [13] (fun i wr => (i = .int .i64 0 ∨ i = .int .i64 1) ∧ w1 = wr) (fun i _ => 4 - (intOf i).toNat)
  case atStart => exact ⟨.inl rfl, rfl⟩
  case round =>
    obtain ⟨h | h, rfl⟩ := hrel
    · subst h
      go_wp2_with fail
      rw [e0.out]
      go_wp2_with fail
      refine (hM1.out _).mono ?_
      rintro r w2 ⟨rfl, rfl⟩
      go_wp2_with fail
      go_roundw
      case rel => exact ⟨.inr rfl, trivial⟩
      case measure => first | (simp [intOf]; done) | (simp [intOf]; omega)
    · subst h
      go_wp2_with fail
      rw [e1.out]
      go_wp2_with fail
      refine (hM2.out _).mono ?_
      rintro r w2 ⟨rfl, rfl⟩
      go_wp2_with fail
      go_ret
      exact ⟨rfl, b1⟩
end Go.Proofs.Yteokofkdfeglnaa.Abi3
