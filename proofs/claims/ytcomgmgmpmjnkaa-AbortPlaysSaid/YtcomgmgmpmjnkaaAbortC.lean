/- Plain laws of the lists of wants for AbortPlays. No program in sight. -/
import Derived.Test.YtcomgmgmpmjnkaaAbortB
set_option linter.unusedVariables false
namespace Go.Proofs.Ytcomgmgmpmjnkaa.AbortC
open Go.Proofs.Ytcomgmgmpmjnkaa.AbortMath Go.Proofs.Ytcomgmgmpmjnkaa.Abort6 Go.Proofs.Ytcomgmgmpmjnkaa.AbortB

theorem off_hit {e k n : Int} (hk : 0 ≤ k) (x : Wt) : off e k n x = hit e k n x := by
  unfold off hit
  rw [show decide (k < 0) = false by simp; omega, Bool.false_or, Bool.and_assoc]
/-- No two wants of one name. -/
def Nd (l : List Wt) : Prop := l.Pairwise (fun x y => hit x.e x.k x.n y = false)
theorem hit_key {e k n : Int} {x : Wt} (h : hit e k n x = true) (y : Wt) : hit x.e x.k x.n y = hit e k n y := by
  unfold hit at h ⊢
  simp at h
  obtain ⟨⟨rfl, rfl⟩, rfl⟩ := h
  rfl
theorem back_hit (e k n : Int) : ∀ l : List Wt, Nd l → pback l e k n = l.filter (fun x => !hit e k n x)
  | [], _ => by simp [pback]
  | x :: r, h => by
    obtain ⟨h1, h2⟩ := List.pairwise_cons.1 h
    have ih := back_hit e k n r h2
    unfold pback has at_ at ih ⊢
    rw [List.any_cons, List.findIdx_cons]
    cases hx : hit e k n x with
    | true =>
      rw [Bool.true_or, if_pos rfl]
      simp only [hx, Bool.not_true, List.filter_cons, cond_true, List.eraseIdx_cons_zero, Bool.false_eq_true, if_false]
      symm
      rw [List.filter_eq_self]
      intro y hy
      rw [← hit_key hx, h1 y hy]; rfl
    | false =>
      rw [Bool.false_or]
      simp only [hx, Bool.not_false, List.filter_cons, cond_false, List.eraseIdx_cons_succ, if_true]
      rw [← ih]
      split <;> rfl
theorem back_wout {l : List Wt} {e k n : Int} (h : Nd l) (hk : 0 ≤ k) : pback l e k n = wout l e k n := by
  rw [back_hit e k n l h]
  unfold wout
  congr 1
  funext x
  rw [off_hit hk]
theorem nd_sub {l m : List Wt} (h : Nd l) (hs : m.Sublist l) : Nd m := List.Pairwise.sublist hs h
theorem nd_outs {l : List Wt} (h : Nd l) : Nd (outs l) := by
  unfold Nd outs
  rw [List.pairwise_map]
  exact List.Pairwise.sublist List.filter_sublist h
theorem nd_wout {l : List Wt} {e k n : Int} (h : Nd l) : Nd (wout l e k n) := nd_sub h List.filter_sublist
theorem nd_ask {l : List Wt} {x : Wt} (h : Nd l) : Nd (pask l x).2 := by
  unfold pask
  split
  · split
    · exact h
    · rename_i h2
      split
      · exact h
      · show Nd (l ++ [x])
        unfold Nd
        rw [List.pairwise_append]
        refine ⟨h, List.pairwise_singleton _ _, fun y hy z hz => ?_⟩
        obtain rfl : z = x := by simpa using hz
        have h3 : hit z.e z.k z.n y = false := by
          cases hb : hit z.e z.k z.n y with
          | false => rfl
          | true => exact absurd (List.any_eq_true.2 ⟨y, hy, hb⟩) h2
        cases hb : hit y.e y.k y.n z with
        | false => rfl
        | true =>
          have h4 := hit_key hb y
          rw [h3] at h4
          simp [hit] at h4
  · exact h
theorem neg_has {l : List Wt} {e k n : Int} (h : Fit l) (hk : k < 0) : has l e k n = false := by
  cases hb : has l e k n with
  | false => rfl
  | true =>
    obtain ⟨x, hx, h2⟩ := List.any_eq_true.1 hb
    have h3 := (may_l (h.2 x hx)).2.2.1
    simp [hit] at h2
    omega
theorem wout_fit {l : List Wt} {e k n : Int} (h : Fit l) : Fit (wout l e k n) :=
  ⟨Nat.le_trans (List.length_filter_le _ _) h.1, fun x hx => h.2 x (List.mem_filter.1 hx).1⟩
/-- Whether something went: the shorter list. -/
theorem back_len {l : List Wt} {e k n : Int} (hk : 0 ≤ k) : decide ((wout l e k n).length < l.length) = has l e k n := by
  have e1 : wout l e k n = l.filter (fun x => !hit e k n x) := by
    unfold wout
    congr 1
    funext x
    rw [off_hit hk]
  rw [e1]
  cases hb : has l e k n with
  | false =>
    rw [decide_eq_false_iff_not, List.filter_eq_self.2]
    · omega
    · intro x hx
      cases h2 : hit e k n x with
      | false => rfl
      | true => exact absurd (List.any_eq_true.2 ⟨x, hx, h2⟩) (by unfold has at hb; rw [hb]; decide)
  | true =>
    obtain ⟨x, hx, h2⟩ := List.any_eq_true.1 hb
    rw [decide_eq_true_eq]
    refine List.length_filter_lt_length_iff_exists.2 ⟨x, hx, ?_⟩
    simp [h2]
end Go.Proofs.Ytcomgmgmpmjnkaa.AbortC
