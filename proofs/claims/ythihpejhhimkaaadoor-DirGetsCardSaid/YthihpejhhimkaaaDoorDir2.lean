/- Contracts of package dir and its reference: entries. -/
import Derived.Test.YthihpejhhimkaaaDoorDir
set_option linter.unusedVariables false
namespace Go.Proofs.YthihpejhhimkaaaDoor.Dir2
open Go.RowKit Go.Proofs.YthihpejhhimkaaaDoor.Base Go.Proofs.YthihpejhhimkaaaDoor.Row Go.Proofs.YthihpejhhimkaaaDoor.App Go.Proofs.YthihpejhhimkaaaDoor.Multi Go.Proofs.YthihpejhhimkaaaDoor.StEq Go.Proofs.YthihpejhhimkaaaDoor.Held Go.Proofs.YthihpejhhimkaaaDoor.Out Go.Proofs.YthihpejhhimkaaaDoor.HeldW Go.Proofs.YthihpejhhimkaaaDoor.HeldX Go.Proofs.YthihpejhhimkaaaDoor.Dir

/-- An entry. -/
structure En where
  s : ByteArray
  i : Int
def ea (e : En) : Array Value := #[.string e.s, .int .i64 e.i]
theorem ea_one (e : En) : ∀ v ∈ ea e, v.oneCell' = true := by
  intro v hv
  simp [ea] at hv
  rcases hv with rfl | rfl <;> rfl
def rightB (e : En) : Bool := (e.s.toList.isEmpty && e.i == 0) || (nameB e.s && (decide (0 < e.i) && decide (e.i < 32)))
theorem right_zero {e : En} (h1 : e.s.toList = []) (h2 : e.i = 0) : rightB e = true := by simp [rightB, h1, h2]
theorem right_else {e : En} (h : ¬ (e.s.toList = [] ∧ e.i = 0)) : rightB e = (nameB e.s && (decide (0 < e.i) && decide (e.i < 32))) := by
  have h1 : (e.s.toList.isEmpty && e.i == 0) = false := by
    rw [Bool.eq_false_iff]
    intro h2
    rw [Bool.and_eq_true, beq_iff_eq] at h2
    exact h ⟨by simpa using h2.1, h2.2⟩
  unfold rightB
  rw [h1, Bool.false_or]
theorem and3 : ∀ a b c : Bool, a = false ∨ (a = true ∧ b = false) ∨ (a = true ∧ b = true ∧ c = false) ∨ (a = true ∧ b = true ∧ c = true) := by decide
set_option maxRecDepth 100000 in
set_option maxHeartbeats 2000000 in
theorem right_c (e : En) (w : World) (hs : e.s.size ≤ maxLen) :
    Calls Tryd.prog 28 #[.agg (ea e)] w fun r w' => r = .returned (.bool (rightB e)) ∧ Below w.heap.size w w' := by
  have hN := fun w' => name_c e.s w' hs
  by_cases hz : e.s.toList = [] ∧ e.i = 0
  · have hr := Lib.hid (right_zero hz.1 hz.2)
    obtain ⟨s, i⟩ := e
    obtain ⟨h1, h2⟩ := hz
    simp only [ea] at h1 h2 ⊢
    clear hN
    subst h2
    go_enter Tryd.func28, Tryd.ntmps28
    go_wp2_with fail
    go_ret
    exact ⟨ret_bool hr.out.symm, bl_alloc (bl_refl w) _⟩
  · have hr := Lib.hid (right_else hz)
    obtain ⟨s, i⟩ := e
    simp only [ea] at hN hz hr ⊢
    have hcase : (¬ s.toList = []) ∨ (s.toList = [] ∧ ¬ i = 0) := by
      by_cases h1 : s.toList = []
      · exact .inr ⟨h1, fun h2 => hz ⟨h1, h2⟩⟩
      · exact .inl h1
    clear hz
    rcases and3 (nameB s) (decide (0 < i)) (decide (i < 32)) with q | ⟨q, q1⟩ | ⟨q, q1, q2⟩ | ⟨q, q1, q2⟩
    all_goals (
      rw [q] at hN
      replace hN := Lib.hid hN
      have hr2 := hr.out
      simp only [Bool.false_and, Bool.true_and, *] at hr2
      have hr3 := Lib.hid hr2
      clear hr hr2 q
      try have p1 : ¬ 0 < i := by simpa using q1
      try have p2 : 0 < i := by simpa using q1
      try have p3 : ¬ i < 32 := by simpa using q2
      try have p4 : i < 32 := by simpa using q2
      rcases hcase with h1 | ⟨h1, h2⟩
      all_goals (
        try have h2b : (i == 0) = false := by simpa using h2
        go_enter Tryd.func28, Tryd.ntmps28
        go_wp2_with fail
        refine (hN.out _).mono ?_
        rintro r w1 ⟨rfl, rfl⟩
        go_wp2_with fail
        go_ret
        exact ⟨ret_bool (by rw [hr3.out]), bl_alloc (bl_refl w) _⟩))
theorem lt1 (i : Int) : decide (1 ≤ i) = decide (0 < i) := by
  by_cases h : 0 < i
  · have : 1 ≤ i := by omega
    simp [h, this]
  · have : ¬ 1 ≤ i := by omega
    simp [h, this]
theorem le31 (i : Int) : decide (i ≤ 31) = decide (i < 32) := by
  by_cases h : i < 32
  · have : i ≤ 31 := by omega
    simp [h, this]
  · have : ¬ i ≤ 31 := by omega
    simp [h, this]
set_option maxRecDepth 100000 in
set_option maxHeartbeats 2000000 in
theorem rright_c (e : En) (w : World) (hs : e.s.size ≤ maxLen) :
    Calls Tryd.prog 12 #[.agg (ea e)] w fun r w' => r = .returned (.bool (rightB e)) ∧ Below w.heap.size w w' := by
  have hN := fun w' => rname_c e.s w' hs
  by_cases hz : e.s.toList = [] ∧ e.i = 0
  · have hr := Lib.hid (right_zero hz.1 hz.2)
    obtain ⟨s, i⟩ := e
    obtain ⟨h1, h2⟩ := hz
    simp only [ea] at h1 h2 ⊢
    clear hN
    subst h2
    go_enter Tryd.func12, Tryd.ntmps12
    go_wp2_with fail
    go_ret
    exact ⟨ret_bool hr.out.symm, bl_alloc (bl_refl w) _⟩
  · have hr := Lib.hid (right_else hz)
    obtain ⟨s, i⟩ := e
    simp only [ea] at hN hz hr ⊢
    have hcase : (¬ s.toList = []) ∨ (s.toList = [] ∧ ¬ i = 0) := by
      by_cases h1 : s.toList = []
      · exact .inr ⟨h1, fun h2 => hz ⟨h1, h2⟩⟩
      · exact .inl h1
    clear hz
    rw [← lt1, ← le31] at hr
    rcases and3 (nameB s) (decide (1 ≤ i)) (decide (i ≤ 31)) with q | ⟨q, q1⟩ | ⟨q, q1, q2⟩ | ⟨q, q1, q2⟩
    all_goals (
      rw [q] at hN
      replace hN := Lib.hid hN
      have hr2 := hr.out
      simp only [Bool.false_and, Bool.true_and, *] at hr2
      have hr3 := Lib.hid hr2
      clear hr hr2 q
      try have p1 : ¬ 1 ≤ i := by simpa using q1
      try have p2 : 1 ≤ i := by simpa using q1
      try have p3 : ¬ i ≤ 31 := by simpa using q2
      try have p4 : i ≤ 31 := by simpa using q2
      rcases hcase with h1 | ⟨h1, h2⟩
      all_goals (
        try have h2b : (i == 0) = false := by simpa using h2
        go_enter Tryd.func12, Tryd.ntmps12
        go_wp2_with fail
        refine (hN.out _).mono ?_
        rintro r w1 ⟨rfl, rfl⟩
        go_wp2_with fail
        go_ret
        exact ⟨ret_bool (by rw [hr3.out]), bl_alloc (bl_refl w) _⟩))
end Go.Proofs.YthihpejhhimkaaaDoor.Dir2
