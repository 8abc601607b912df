/- The least name of a list of wants. No program in sight. -/
import Derived.Test.YtcomgmgmpmjnkaaAbortC
set_option linter.unusedVariables false
namespace Go.Proofs.Ytcomgmgmpmjnkaa.AbortD
open Go.Proofs.Ytcomgmgmpmjnkaa.AbortMath Go.Proofs.Ytcomgmgmpmjnkaa.Abort2 Go.Proofs.Ytcomgmgmpmjnkaa.Abort6 Go.Proofs.Ytcomgmgmpmjnkaa.Abort7 Go.Proofs.Ytcomgmgmpmjnkaa.AbortB Go.Proofs.Ytcomgmgmpmjnkaa.AbortC

def Least (e k : Int) (l : List Wt) (p : Int × Bool) : Prop :=
  (p.2 = false → p.1 = 0 ∧ ∀ x ∈ l, ¬ (x.e = e ∧ x.k = k)) ∧ (p.2 = true → (∃ x ∈ l, x.e = e ∧ x.k = k ∧ x.n = p.1) ∧ ∀ x ∈ l, x.e = e → x.k = k → p.1 ≤ x.n)
theorem least_step {e k : Int} {l : List Wt} {p : Int × Bool} (h : Least e k l p) (x : Wt) : Least e k (l ++ [x]) (fstep e k p x) := by
  obtain ⟨b, o⟩ := p
  obtain ⟨h0, h1⟩ := h
  unfold fstep
  simp only at h0 h1 ⊢
  split
  · rename_i hc
    refine ⟨fun h => by simp at h, fun _ => ⟨⟨x, by simp, hc.1, hc.2.1, rfl⟩, fun y hy h2 h3 => ?_⟩⟩
    rcases List.mem_append.1 hy with hy | hy
    · cases o with
      | false => exact absurd ⟨h2, h3⟩ ((h0 rfl).2 y hy)
      | true =>
        have h4 := (h1 rfl).2 y hy h2 h3
        rcases hc.2.2 with h5 | h5
        · cases h5
        · simp only; omega
    · obtain rfl : y = x := by simpa using hy
      exact Int.le_refl _
  · rename_i hc
    refine ⟨fun h => ⟨(h0 h).1, fun y hy => ?_⟩, fun h => ⟨?_, fun y hy h2 h3 => ?_⟩⟩
    · rcases List.mem_append.1 hy with hy | hy
      · exact (h0 h).2 y hy
      · obtain rfl : y = x := by simpa using hy
        intro h2
        exact hc ⟨h2.1, h2.2, .inl h⟩
    · obtain ⟨y, hy, h2⟩ := (h1 h).1
      exact ⟨y, List.mem_append_left _ hy, h2⟩
    · rcases List.mem_append.1 hy with hy | hy
      · exact (h1 h).2 y hy h2 h3
      · obtain rfl : y = x := by simpa using hy
        rcases Int.lt_or_le y.n b with h4 | h4
        · exact absurd ⟨h2, h3, .inr h4⟩ hc
        · exact h4
theorem least_fold (e k : Int) : ∀ (r l : List Wt) (p : Int × Bool), Least e k l p → Least e k (l ++ r) (r.foldl (fstep e k) p)
  | [], l, p, h => by simpa using h
  | x :: r, l, p, h => by
    have h2 := least_fold e k r (l ++ [x]) (fstep e k p x) (least_step h x)
    simpa using h2
theorem least_fst (l : List Wt) (e k : Int) : Least e k l (fst_ l e k) := by
  have h := least_fold e k l [] (0, false) ⟨fun _ => ⟨rfl, by simp⟩, fun h => by cases h⟩
  simpa [fst_] using h
/-- What the program tells is what the reference tells. -/
theorem fst_low {l : List Wt} (h : Fit l) (e k : Int) : fst_ l e k = if low l e k < 512 then ((low l e k : Int), true) else (0, false) := by
  have hL := least_fst l e k
  rcases hp : fst_ l e k with ⟨b, o⟩
  rw [hp] at hL
  obtain ⟨h0, h1⟩ := hL
  simp only at h0 h1
  cases o with
  | false =>
    obtain ⟨rfl, h2⟩ := h0 rfl
    rw [if_neg]
    intro hlt
    obtain ⟨x, hx, h3⟩ := List.any_eq_true.1 (low_yes hlt)
    simp [hit] at h3
    exact h2 x hx ⟨h3.1.1, h3.1.2⟩
  | true =>
    obtain ⟨⟨x, hx, rfl, rfl, rfl⟩, h2⟩ := h1 rfl
    obtain ⟨a1, a2, a3, a4, a5, a6, a7, a8⟩ := may_l (h.2 x hx)
    obtain ⟨m, hm⟩ : ∃ m : Nat, (m : Int) = x.n := ⟨x.n.toNat, by omega⟩
    have hhas : has l x.e x.k (m : Int) = true := List.any_eq_true.2 ⟨x, hx, by rw [hm]; simp [hit]⟩
    have hle : low l x.e x.k ≤ m := by
      rcases Nat.lt_or_ge m (low l x.e x.k) with h3 | h3
      · have := low_no m h3
        rw [hhas] at this; cases this
      · exact h3
    have hlt : low l x.e x.k < 512 := by omega
    obtain ⟨y, hy, h3⟩ := List.any_eq_true.1 (low_yes hlt)
    simp [hit] at h3
    have h4 := h2 y hy h3.1.1 h3.1.2
    rw [if_pos hlt]
    have : x.n = (low l x.e x.k : Int) := by omega
    rw [← this]
end Go.Proofs.Ytcomgmgmpmjnkaa.AbortD
