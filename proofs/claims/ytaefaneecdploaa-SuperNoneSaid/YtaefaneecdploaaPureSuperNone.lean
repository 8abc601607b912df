/- The plain law of SuperNone: what the printed functions of super.Log, super.Inode and the law compute is true at every int. -/
import Derived.Test.YtaefaneecdploaaPSuperNonex1
namespace Go.Proofs.Ytaefaneecdploaa.Pure
open Go.RowKit Go.Proofs.Ytaefaneecdploaa.PSuperNone Go.Proofs.YtaefaneecdploaaW.PrintWords Go.Proofs.YtaefaneecdploaaW.PrintLast

theorem awake_true : onionskinlaw23_awake.f = some true := by decide +kernel

theorem log_out (a : Int) (h : a < 0 ∨ 16 ≤ a) : super_Log.f a = some (0, false) := by
  unfold super_Log.f
  by_cases h0 : a < 0
  · rw [if_pos h0]
  · rw [if_neg h0, if_pos (by omega)]
theorem inode_out (a : Int) (h : a < 0 ∨ 32 ≤ a) : super_Inode.f a = some (0, 0, false) := by
  unfold super_Inode.f
  by_cases h0 : a < 0
  · rw [if_pos h0]
  · rw [if_neg h0, if_pos (by omega)]

theorem small : ∀ n : Fin 32, onionskinlaw23_SuperNone.f (n.val : Int) = some true := by decide +kernel

theorem SuperNone : onionskinlaw23_SuperNone.Pure := by
  intro a _
  by_cases h0 : a < 0
  · unfold onionskinlaw23_SuperNone.f
    rw [log_out a (.inl h0), inode_out a (.inl h0), awake_true]
    have : ¬ (a ≥ 0) := by omega
    simp [this, wrap64]
  · by_cases h1 : a < 32
    · have h := small ⟨a.toNat, by omega⟩
      have e : ((a.toNat : Nat) : Int) = a := Int.toNat_of_nonneg (by omega)
      simpa [e] using h
    · unfold onionskinlaw23_SuperNone.f
      rw [log_out a (.inr (by omega)), inode_out a (.inr (by omega)), awake_true]
      have g0 : a ≥ 0 := by omega
      have g1 : ¬ (a < 16) := by omega
      have g2 : ¬ (a < 32) := by omega
      simp [g0, g1, g2, wrap64]

end Go.Proofs.Ytaefaneecdploaa.Pure
