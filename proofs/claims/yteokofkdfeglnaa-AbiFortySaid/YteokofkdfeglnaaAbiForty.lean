/- The law AbiForty. -/
import Derived.Test.YteokofkdfeglnaaAbi4
set_option linter.unusedVariables false
namespace Go.Proofs.Yteokofkdfeglnaa.AbiForty
open Go.RowKit Go.Proofs.Yteokofkdfeglnaa.Base Go.Proofs.Yteokofkdfeglnaa.Row Go.Proofs.Yteokofkdfeglnaa.App Go.Proofs.Yteokofkdfeglnaa.Multi Go.Proofs.Yteokofkdfeglnaa.Abi Go.Proofs.Yteokofkdfeglnaa.Abi2 Go.Proofs.Yteokofkdfeglnaa.Abi3 Go.Proofs.Yteokofkdfeglnaa.Abi4

/-- How many calls there are among the first k of -50, -49, .. -/
def cnt : Nat → Int
  | 0 => 0
  | k + 1 => if Kn (F ((k : Int) - 50)) = true then cnt k + 1 else cnt k
theorem cnt_yes {k : Nat} (h : Kn (F ((k : Int) - 50)) = true) : cnt (k + 1) = cnt k + 1 := by simp [cnt, h]
theorem cnt_no {k : Nat} (h : Kn (F ((k : Int) - 50)) = false) : cnt (k + 1) = cnt k := by simp [cnt, h]
theorem cnt_le : ∀ k, 0 ≤ cnt k ∧ cnt k ≤ k
  | 0 => by simp [cnt]
  | k + 1 => by
    have := cnt_le k
    unfold cnt
    split <;> omega
theorem cnt_all : cnt 150 = 40 := by decide +kernel
theorem kn_eq (op : Int) : Kn (F op) = (decide (1 ≤ op) && decide (op ≤ 40)) := by
  by_cases h1 : 1 ≤ op
  · by_cases h2 : op ≤ 40
    · rw [kn_in op h1 h2]; simp [h1, h2]
    · rw [kn_out op (by omega)]; simp [h2]
  · rw [kn_out op (by omega)]; simp [h1]

set_option maxRecDepth 100000 in
set_option maxHeartbeats 2000000 in
theorem main (op : Int) (w : World) : Calls Try.prog 4 #[.int .i64 op] w fun e w' => e = .returned (.bool true) ∧ Below w.heap.size w w' := by
  have hK := Lib.hid (fun i w => known_c i w)
  have hE := Lib.hid (kn_eq op)
  go_enter Try.func4, Try.ntmps4
  go_wp2_with fail
  go_loopw [3, 4] (fun n i wr => ∃ k : Nat, k ≤ 150 ∧ n = .int .i64 (cnt k) ∧ i = .int .i64 ((k : Int) - 50) ∧ w = wr) (fun _ i _ => (100 - intOf i).toNat)
  case atStart => exact ⟨0, by omega, rfl, rfl, rfl⟩
  case round =>
    obtain ⟨k, hk, rfl, rfl, rfl⟩ := hrel
    have hc := cnt_le k
    by_cases hlt : k < 150
    · have hq : decide ((k : Int) - 50 < 100) = true := by simp; omega
      have hu := hK.out ((k : Int) - 50)
      cases hb : Kn (F ((k : Int) - 50))
      · rw [hb] at hu
        replace hu := Lib.hid hu
        have hn := Lib.hid (cnt_no hb)
        generalize cnt k = c at *
        clear hb
        go_wp2_with fail
        refine (hu.out _).mono ?_
        rintro r w2 ⟨rfl, rfl⟩
        go_wp2_with fail
        go_roundw
        case rel => exact ⟨k + 1, by omega, by rw [hn.out], by go_num, by first | rfl | trivial⟩
        case measure => first | (simp [intOf]; done) | (simp [intOf]; omega)
      · rw [hb] at hu
        replace hu := Lib.hid hu
        have hn := Lib.hid (cnt_yes hb)
        generalize cnt k = c at *
        clear hb
        go_wp2_with fail
        refine (hu.out _).mono ?_
        rintro r w2 ⟨rfl, rfl⟩
        go_wp2_with fail
        go_roundw
        case rel => exact ⟨k + 1, by omega, by rw [hn.out] <;> go_num, by go_num, by first | rfl | trivial⟩
        case measure => first | (simp [intOf]; done) | (simp [intOf]; omega)
    · obtain rfl : k = 150 := by omega
      clear hk hlt hc
      rw [cnt_all, show ((150 : Nat) : Int) - 50 = 100 by omega]
      go_wp2_with fail
      refine (hK.out _ _).mono ?_
      rintro r w2 ⟨rfl, rfl⟩
      rw [hE.out]
      by_cases h1 : 1 ≤ op
      · have q1 : decide (1 ≤ op) = true := by simpa using h1
        by_cases h2 : op ≤ 40
        · have q2 : decide (op ≤ 40) = true := by simpa using h2
          rw [q1, q2, Bool.true_and]
          go_wp2_with fail
          refine (awake_c _).mono ?_
          rintro r w3 ⟨rfl, b3⟩
          go_wp2_with fail
          go_ret
          exact ⟨rfl, b3⟩
        · have q2 : decide (op ≤ 40) = false := by simpa using h2
          rw [q1, q2, Bool.true_and]
          go_wp2_with fail
          refine (awake_c _).mono ?_
          rintro r w3 ⟨rfl, b3⟩
          go_wp2_with fail
          go_ret
          exact ⟨rfl, b3⟩
      · have q1 : decide (1 ≤ op) = false := by simpa using h1
        rw [q1, Bool.false_and]
        go_wp2_with fail
        refine (awake_c _).mono ?_
        rintro r w3 ⟨rfl, b3⟩
        go_wp2_with fail
        go_ret
        exact ⟨rfl, b3⟩
theorem walk (a0 : Int) (w : World) (w0 : (Lit.int .i64 a0).wf = true) : Calls Try.prog 4 #[.int .i64 a0] w fun e w' => e = .returned (.bool true) ∧ Below w.heap.size w w' := main a0 w
end Go.Proofs.Yteokofkdfeglnaa.AbiForty
