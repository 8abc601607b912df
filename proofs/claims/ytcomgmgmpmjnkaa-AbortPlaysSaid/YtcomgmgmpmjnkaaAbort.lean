/- Contracts of package abort: what may be, where a want stands, asking. -/
import Derived.Test.YtcomgmgmpmjnkaaAbortMath
import Derived.Test.YtcomgmgmpmjnkaaProg
import Derived.Lib.SliceRun
import Derived.Lib.Walk
set_option linter.unusedVariables false
namespace Go.Proofs.Ytcomgmgmpmjnkaa.Abort
open Go.RowKit Go.Proofs.Ytcomgmgmpmjnkaa.Base Go.Proofs.Ytcomgmgmpmjnkaa.Row Go.Proofs.Ytcomgmgmpmjnkaa.App Go.Proofs.Ytcomgmgmpmjnkaa.Multi Go.Proofs.Ytcomgmgmpmjnkaa.AbortMath

theorem chain8 : ∀ a b c d e f g h : Bool, a = false ∨ (a = true ∧ b = false) ∨ (a = true ∧ b = true ∧ c = false) ∨ (a = true ∧ b = true ∧ c = true ∧ d = false) ∨ (a = true ∧ b = true ∧ c = true ∧ d = true ∧ e = false) ∨ (a = true ∧ b = true ∧ c = true ∧ d = true ∧ e = true ∧ f = false) ∨ (a = true ∧ b = true ∧ c = true ∧ d = true ∧ e = true ∧ f = true ∧ g = false) ∨ (a = true ∧ b = true ∧ c = true ∧ d = true ∧ e = true ∧ f = true ∧ g = true ∧ h = false) ∨ (a = true ∧ b = true ∧ c = true ∧ d = true ∧ e = true ∧ f = true ∧ g = true ∧ h = true) := by
  intro a b c d e f g h
  cases a <;> simp
  cases b <;> simp
  cases c <;> simp
  cases d <;> simp
  cases e <;> simp
  cases f <;> simp
  cases g <;> simp
theorem may_b (x : Wt) : may x = (decide (0 ≤ x.e) && (decide (x.e < 16) && (decide (0 ≤ x.k) && (decide (x.k < 4) && (decide (0 ≤ x.n) && (decide (x.n < 512) && (decide (1 ≤ x.l) && decide (x.l ≤ 100)))))))) := by
  unfold may
  rw [Bool.eq_iff_iff]
  simp
theorem may_b' (x : Wt) : may x = (decide (0 ≤ x.e) && (decide (x.e ≤ 15) && (decide (0 ≤ x.k) && (decide (x.k ≤ 3) && (decide (0 ≤ x.n) && (decide (x.n ≤ 511) && (decide (1 ≤ x.l) && decide (x.l ≤ 100)))))))) := by
  unfold may
  rw [Bool.eq_iff_iff]
  simp
  omega

set_option maxRecDepth 100000 in
set_option maxHeartbeats 1000000 in
theorem may_c (x : Wt) (w : World) :
    Calls Try.prog 62 #[.agg (wa x)] w fun r w' => r = .returned (.bool (may x)) ∧ Below w.heap.size w w' := by
  have hm := Lib.hid (may_b x)
  obtain ⟨e, k, n, l⟩ := x
  simp only [wa] at hm ⊢
  rcases chain8 (decide (0 ≤ e)) (decide (e < 16)) (decide (0 ≤ k)) (decide (k < 4)) (decide (0 ≤ n)) (decide (n < 512)) (decide (1 ≤ l)) (decide (l ≤ 100)) with q | ⟨q1, q⟩ | ⟨q1, q2, q⟩ | ⟨q1, q2, q3, q⟩ | ⟨q1, q2, q3, q4, q⟩ | ⟨q1, q2, q3, q4, q5, q⟩ | ⟨q1, q2, q3, q4, q5, q6, q⟩ | ⟨q1, q2, q3, q4, q5, q6, q7, q⟩ | ⟨q1, q2, q3, q4, q5, q6, q7, q⟩
  all_goals (
    go_enter Try.func62, Try.ntmps62
    go_wp2
    go_ret
    refine ⟨ret_bool ?_, bl_alloc (bl_refl w) _⟩
    rw [hm.out]
    simp only [Bool.true_and, Bool.false_and, Bool.and_false, *])
set_option maxRecDepth 100000 in
set_option maxHeartbeats 1000000 in
theorem right_c (x : Wt) (w : World) :
    Calls Try.prog 65 #[.agg (wa x)] w fun r w' => r = .returned (.bool (may x)) ∧ Below w.heap.size w w' := by
  have hm := Lib.hid (may_b' x)
  obtain ⟨e, k, n, l⟩ := x
  simp only [wa] at hm ⊢
  rcases chain8 (decide (0 ≤ e)) (decide (e ≤ 15)) (decide (0 ≤ k)) (decide (k ≤ 3)) (decide (0 ≤ n)) (decide (n ≤ 511)) (decide (1 ≤ l)) (decide (l ≤ 100)) with q | ⟨q1, q⟩ | ⟨q1, q2, q⟩ | ⟨q1, q2, q3, q⟩ | ⟨q1, q2, q3, q4, q⟩ | ⟨q1, q2, q3, q4, q5, q⟩ | ⟨q1, q2, q3, q4, q5, q6, q⟩ | ⟨q1, q2, q3, q4, q5, q6, q7, q⟩ | ⟨q1, q2, q3, q4, q5, q6, q7, q⟩
  all_goals (
    go_enter Try.func65, Try.ntmps65
    go_wp2
    go_ret
    refine ⟨ret_bool ?_, bl_alloc (bl_refl w) _⟩
    rw [hm.out]
    simp only [Bool.true_and, Bool.false_and, Bool.and_false, *])
set_option maxRecDepth 100000 in
theorem want_c (x : Wt) (w : World) :
    Calls Try.prog 26 #[.agg (wa x)] w fun r w' => r = .returned (.agg (wa x)) ∧ Below w.heap.size w w' := by
  obtain ⟨e, k, n, l⟩ := x
  simp only [wa]
  go_enter Try.func26, Try.ntmps26
  go_wp2
  refine bodyPost_ret (v := .agg #[.int .i64 e, .int .i64 k, .int .i64 n, .int .i64 l]) (by simp [results, Try.results26, go_sem]) rfl ⟨rfl, ?_⟩
  exact bl_alloc (bl_alloc (bl_refl w) _) _

theorem chain3 : ∀ a b c : Bool, a = false ∨ (a = true ∧ b = false) ∨ (a = true ∧ b = true) := by decide
set_option maxRecDepth 100000 in
theorem hit_c (x : Wt) (e k n : Int) (b1 b2 b3 : Nat) (w : World) (h1 : w.cell? ⟨b1, 0, none⟩ = some (.int .i64 e)) (h2 : w.cell? ⟨b2, 0, none⟩ = some (.int .i64 k)) (h3 : w.cell? ⟨b3, 0, none⟩ = some (.int .i64 n)) :
    Calls Try.prog 83 #[.agg (wa x), .pointer (some ⟨b1, 0, none⟩), .pointer (some ⟨b2, 0, none⟩), .pointer (some ⟨b3, 0, none⟩)] w fun r w' => r = .returned (.bool (hit e k n x)) ∧ Below w.heap.size w w' := by
  obtain ⟨xe, xk, xn, xl⟩ := x
  have hm : Hid (hit e k n ⟨xe, xk, xn, xl⟩ = (xe == e && (xk == k && xn == n))) := Lib.hid (by simp [hit, Bool.and_assoc])
  have B1 := bl_alloc (bl_refl w) (.cells (wa ⟨xe, xk, xn, xl⟩) 73)
  have h1 := bl_cell B1 h1
  have h2 := bl_cell B1 h2
  have h3 := bl_cell B1 h3
  simp only [wa] at h1 h2 h3 B1 ⊢
  rcases chain3 (xe == e) (xk == k) true with q | ⟨q1, q⟩ | ⟨q1, q⟩
  all_goals (
    go_enter Try.func83, Try.ntmps83
    go_wp2
    go_ret
    refine ⟨ret_bool ?_, B1⟩
    rw [hm.out]
    simp only [Bool.true_and, Bool.false_and, Bool.and_false, *])
end Go.Proofs.Ytcomgmgmpmjnkaa.Abort
