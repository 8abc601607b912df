/- Contracts of package abi: forms. -/
import Derived.Test.YteokofkdfeglnaaMulti
import Derived.Test.YteokofkdfeglnaaProg
import Derived.Lib.Bytealg
set_option linter.unusedVariables false
namespace Go.Proofs.Yteokofkdfeglnaa.Abi
open Go.RowKit Go.Proofs.Yteokofkdfeglnaa.Base Go.Proofs.Yteokofkdfeglnaa.Row Go.Proofs.Yteokofkdfeglnaa.App Go.Proofs.Yteokofkdfeglnaa.Multi

/-- The letters of each call. -/
def tab : List (List UInt8) := [[45], [102, 97], [102, 97, 119], [102], [102], [102, 102], [102], [102, 102], [102], [102, 119], [102, 102], [115, 103, 102, 116], [115, 103], [115, 103], [115], [115], [115, 103], [115, 117], [115, 119], [115, 119, 119], [102], [98], [98], [98], [98], [98, 102], [102, 98], [98], [98, 98], [112, 119], [112], [112], [112], [107, 110], [107], [107, 110], [107], [107, 110], [], [], []]
def fl (op : Int) : List UInt8 := (tab[op.toNat]?).getD [45]
def F (op : Int) : ByteArray := ⟨(fl op).toArray⟩
theorem F_out {op : Int} (h : op < 1 ∨ 40 < op) : F op = ⟨#[45]⟩ := by
  unfold F fl
  rcases h with h | h
  · rw [show op.toNat = 0 by omega]; rfl
  · rw [List.getElem?_eq_none (by show 41 ≤ op.toNat; omega)]; rfl

set_option maxRecDepth 100000 in
theorem form_out (op : Int) (w : World) (h : op < 1 ∨ 40 < op) :
    Calls Try.prog 35 #[.int .i64 op] w fun r w' => r = .returned (.string (F op)) ∧ w = w' := by
  have hF := Lib.hid (F_out h)
  have q1 : (op == 1) = false := by rw [beq_eq_false_iff_ne]; omega
  have q2 : (op == 2) = false := by rw [beq_eq_false_iff_ne]; omega
  have q3 : (op == 3) = false := by rw [beq_eq_false_iff_ne]; omega
  have q4 : (op == 4) = false := by rw [beq_eq_false_iff_ne]; omega
  have q5 : (op == 5) = false := by rw [beq_eq_false_iff_ne]; omega
  have q6 : (op == 6) = false := by rw [beq_eq_false_iff_ne]; omega
  have q7 : (op == 7) = false := by rw [beq_eq_false_iff_ne]; omega
  have q8 : (op == 8) = false := by rw [beq_eq_false_iff_ne]; omega
  have q9 : (op == 9) = false := by rw [beq_eq_false_iff_ne]; omega
  have q10 : (op == 10) = false := by rw [beq_eq_false_iff_ne]; omega
  have q11 : (op == 11) = false := by rw [beq_eq_false_iff_ne]; omega
  have q12 : (op == 12) = false := by rw [beq_eq_false_iff_ne]; omega
  have q13 : (op == 13) = false := by rw [beq_eq_false_iff_ne]; omega
  have q14 : (op == 14) = false := by rw [beq_eq_false_iff_ne]; omega
  have q15 : (op == 15) = false := by rw [beq_eq_false_iff_ne]; omega
  have q16 : (op == 16) = false := by rw [beq_eq_false_iff_ne]; omega
  have q17 : (op == 17) = false := by rw [beq_eq_false_iff_ne]; omega
  have q18 : (op == 18) = false := by rw [beq_eq_false_iff_ne]; omega
  have q19 : (op == 19) = false := by rw [beq_eq_false_iff_ne]; omega
  have q20 : (op == 20) = false := by rw [beq_eq_false_iff_ne]; omega
  have q21 : (op == 21) = false := by rw [beq_eq_false_iff_ne]; omega
  have q22 : (op == 22) = false := by rw [beq_eq_false_iff_ne]; omega
  have q23 : (op == 23) = false := by rw [beq_eq_false_iff_ne]; omega
  have q24 : (op == 24) = false := by rw [beq_eq_false_iff_ne]; omega
  have q25 : (op == 25) = false := by rw [beq_eq_false_iff_ne]; omega
  have q26 : (op == 26) = false := by rw [beq_eq_false_iff_ne]; omega
  have q27 : (op == 27) = false := by rw [beq_eq_false_iff_ne]; omega
  have q28 : (op == 28) = false := by rw [beq_eq_false_iff_ne]; omega
  have q29 : (op == 29) = false := by rw [beq_eq_false_iff_ne]; omega
  have q30 : (op == 30) = false := by rw [beq_eq_false_iff_ne]; omega
  have q31 : (op == 31) = false := by rw [beq_eq_false_iff_ne]; omega
  have q32 : (op == 32) = false := by rw [beq_eq_false_iff_ne]; omega
  have q33 : (op == 33) = false := by rw [beq_eq_false_iff_ne]; omega
  have q34 : (op == 34) = false := by rw [beq_eq_false_iff_ne]; omega
  have q35 : (op == 35) = false := by rw [beq_eq_false_iff_ne]; omega
  have q36 : (op == 36) = false := by rw [beq_eq_false_iff_ne]; omega
  have q37 : (op == 37) = false := by rw [beq_eq_false_iff_ne]; omega
  have q38 : (op == 38) = false := by rw [beq_eq_false_iff_ne]; omega
  have q39 : (op == 39) = false := by rw [beq_eq_false_iff_ne]; omega
  have q40 : (op == 40) = false := by rw [beq_eq_false_iff_ne]; omega
  clear h
  rw [hF.out]
  go_enter Try.func35, Try.ntmps35
  go_wp2
  go_ret
  exact ⟨rfl, rfl⟩
set_option maxRecDepth 100000 in
set_option maxHeartbeats 4000000 in
theorem form_in (op : Int) (w : World) (h1 : 1 ≤ op) (h2 : op ≤ 40) :
    Calls Try.prog 35 #[.int .i64 op] w fun r w' => r = .returned (.string (F op)) ∧ w = w' := by
  have h : op = 1 ∨ op = 2 ∨ op = 3 ∨ op = 4 ∨ op = 5 ∨ op = 6 ∨ op = 7 ∨ op = 8 ∨ op = 9 ∨ op = 10 ∨ op = 11 ∨ op = 12 ∨ op = 13 ∨ op = 14 ∨ op = 15 ∨ op = 16 ∨ op = 17 ∨ op = 18 ∨ op = 19 ∨ op = 20 ∨ op = 21 ∨ op = 22 ∨ op = 23 ∨ op = 24 ∨ op = 25 ∨ op = 26 ∨ op = 27 ∨ op = 28 ∨ op = 29 ∨ op = 30 ∨ op = 31 ∨ op = 32 ∨ op = 33 ∨ op = 34 ∨ op = 35 ∨ op = 36 ∨ op = 37 ∨ op = 38 ∨ op = 39 ∨ op = 40 := by omega
  clear h1 h2
  rcases h with rfl | rfl | rfl | rfl | rfl | rfl | rfl | rfl | rfl | rfl | rfl | rfl | rfl | rfl | rfl | rfl | rfl | rfl | rfl | rfl | rfl | rfl | rfl | rfl | rfl | rfl | rfl | rfl | rfl | rfl | rfl | rfl | rfl | rfl | rfl | rfl | rfl | rfl | rfl | rfl
  all_goals (
    go_enter Try.func35, Try.ntmps35
    go_wp2
    go_ret
    exact ⟨rfl, rfl⟩)
theorem form_c (op : Int) (w : World) : Calls Try.prog 35 #[.int .i64 op] w fun r w' => r = .returned (.string (F op)) ∧ w = w' := by
  by_cases h : op < 1 ∨ 40 < op
  · exact form_out op w h
  · exact form_in op w (by omega) (by omega)

/-- The reference's table, as it lies. -/
def tabV : Array Value := (tab.map fun x => Value.string ⟨x.toArray⟩).toArray
theorem tabV_get (k : Nat) (h : k < 41) : tabV[k]? = some (.string (F k)) := by
  unfold tabV F fl
  rw [List.getElem?_toArray, List.getElem?_map, Int.toNat_natCast, List.getElem?_eq_getElem (by exact h)]; rfl
set_option maxRecDepth 100000 in
set_option maxHeartbeats 4000000 in
theorem rform_c (op : Int) (w : World) :
    Calls Try.prog 13 #[.int .i64 op] w fun r w' => r = .returned (.string (F op)) ∧ Below w.heap.size w w' := by
  by_cases h : 1 ≤ op ∧ op ≤ 40
  · obtain ⟨k, rfl⟩ : ∃ k : Nat, op = k := ⟨op.toNat, by omega⟩
    have hc := (Blk.new w 9 tabV).cellv k _ (tabV_get k (by omega))
    have q1 : decide ((k : Int) < 1) = false := by simp; omega
    have q2 : decide (41 ≤ (k : Int)) = false := by simp; omega
    have q3 : (k : Int) < 41 := by omega
    have q4 : k < 41 := by omega
    clear h
    go_enter Try.func13, Try.ntmps13
    go_wp2
    go_ret
    have hT := tabV_get k (by omega)
    unfold tabV at hT
    rw [List.getElem?_toArray] at hT
    have hT2 := Option.some.inj ((List.getElem?_eq_getElem (l := tab.map fun x => Value.string ⟨x.toArray⟩) (show k < 41 from q4)).symm.trans hT)
    exact ⟨ret_val hT2, bl_alloc (bl_refl w) _⟩
  · have hF := Lib.hid (F_out (op := op) (by omega))
    rw [hF.out]
    by_cases h1 : op < 1
    · have q1 : decide (op < 1) = true := by simpa using h1
      clear h h1
      go_enter Try.func13, Try.ntmps13
      go_wp2
      go_ret
      exact ⟨rfl, bl_alloc (bl_refl w) _⟩
    · have q1 : decide (op < 1) = false := by simpa using h1
      have q2 : decide (41 ≤ op) = true := by simp; omega
      clear h h1
      go_enter Try.func13, Try.ntmps13
      go_wp2
      go_ret
      exact ⟨rfl, bl_alloc (bl_refl w) _⟩

/-- Is it none's form? -/
def Kn (s : ByteArray) : Bool := !(s.toList == [45])
theorem kn_in (op : Int) (h1 : 1 ≤ op) (h2 : op ≤ 40) : Kn (F op) = true := by
  have h : ∀ k : Fin 40, Kn (F ((k.1 + 1 : Nat) : Int)) = true := by decide +kernel
  have := h ⟨op.toNat - 1, by omega⟩
  rwa [show ((op.toNat - 1 + 1 : Nat) : Int) = op by omega] at this
theorem kn_out (op : Int) (h : op < 1 ∨ 40 < op) : Kn (F op) = false := by
  rw [F_out h]
  decide +kernel
set_option maxRecDepth 100000 in
theorem known_c (op : Int) (w : World) : Calls Try.prog 12 #[.int .i64 op] w fun r w' => r = .returned (.bool (Kn (F op))) ∧ w = w' := by
  have hF := Lib.hid (form_c op w)
  generalize F op = s at *
  go_enter Try.func12, Try.ntmps12
  go_wp2_with fail
  refine (hF.out).mono ?_
  rintro r w1 ⟨rfl, rfl⟩
  go_wp2
  go_ret
  exact ⟨rfl, rfl⟩

/-! ### the place of a letter -/
theorem ibs (s : ByteArray) (c : Int) (w : World) : (callFunc 48 #[.string s, .int .u8 c]).run Try.prog w = .ok (.value (.int .i64 (Lib.indexByte s.data.toList c.toNat.toUInt8))) w := by
  rw [run_callFunc_extern Try.func48 (by kernel_rfl) (by kernel_rfl) (by kernel_rfl) (e := Extern.BytealgIndexByte.indexByte) (by kernel_rfl), Lib.run_indexByteString]
  rfl
theorem index2_c (s : ByteArray) (c : Int) (w : World) :
    Calls Try.prog 45 #[.string s, .int .u8 c] w fun r w' => r = .returned (.int .i64 (Lib.indexByte s.data.toList c.toNat.toUInt8)) ∧ w = w' := by
  have h := ibs s c w
  generalize Lib.indexByte s.data.toList c.toNat.toUInt8 = v at *
  go_enter Try.func45, Try.ntmps45
  go_wp2
  go_ret
  exact ⟨rfl, rfl⟩
theorem index_c (s : ByteArray) (c : Int) (w : World) :
    Calls Try.prog 37 #[.string s, .int .u8 c] w fun r w' => r = .returned (.int .i64 (Lib.indexByte s.data.toList c.toNat.toUInt8)) ∧ w = w' := by
  have h := Lib.hid (index2_c s c w)
  generalize Lib.indexByte s.data.toList c.toNat.toUInt8 = v at *
  go_enter Try.func37, Try.ntmps37
  go_wp2_with fail
  refine (h.out).mono ?_
  rintro r w1 ⟨rfl, rfl⟩
  go_wp2
  go_ret
  exact ⟨rfl, rfl⟩
end Go.Proofs.Yteokofkdfeglnaa.Abi
