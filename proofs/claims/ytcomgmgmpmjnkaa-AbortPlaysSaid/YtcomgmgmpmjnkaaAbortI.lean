/- Contract of the law's comparison of lists of wants. -/
import Derived.Test.YtcomgmgmpmjnkaaAbortH
set_option linter.unusedVariables false
namespace Go.Proofs.Ytcomgmgmpmjnkaa.AbortI
open Go.RowKit Go.Proofs.Ytcomgmgmpmjnkaa.Base Go.Proofs.Ytcomgmgmpmjnkaa.Row Go.Proofs.Ytcomgmgmpmjnkaa.App Go.Proofs.Ytcomgmgmpmjnkaa.Multi Go.Proofs.Ytcomgmgmpmjnkaa.AbortMath Go.Proofs.Ytcomgmgmpmjnkaa.Abort Go.Proofs.Ytcomgmgmpmjnkaa.Abort2 Go.Proofs.Ytcomgmgmpmjnkaa.Abort3

set_option maxRecDepth 100000 in
set_option maxHeartbeats 4000000 in
theorem same_c (A A' : Option Addr) (n c c' : Nat) (l : List Wt) (w : World) (R1 : RF wv 4 w A n l) (R2 : RF wv 4 w A' n l) :
    Calls Try.prog 35 #[.slice A n c, .slice A' n c'] w fun r w' => r = .returned (.bool true) ∧ Below w.heap.size w w' := by
  have hE := Lib.hid (fun x w' => want_c x w')
  have hmx := R1.max
  have q : ((n : Int) != (n : Int)) = false := by simp
  go_enter Try.func35, Try.ntmps35
  go_wp2_with fail
  go_loopw [5] (fun i wr => ∃ k : Nat, k ≤ n ∧ i = .int .i64 k ∧ Below w.heap.size w wr) (fun i _ => n - (intOf i).toNat)
  case atStart => exact ⟨0, by omega, rfl, bl_refl _⟩
  case round =>
    obtain ⟨k, hk, rfl, HB⟩ := hrel
    obtain ⟨wo, rfl⟩ : ∃ wo : World, wo = wr := ⟨_, rfl⟩
    by_cases hlt : k < n
    · have hq : decide ((k : Int) < (n : Int)) = true := by simp; omega
      have hq1 : (k : Int) < (n : Int) := by omega
      obtain ⟨g1, o1, x, rfl, hx, hc1⟩ := (R1.below HB).at_ k hlt
      obtain ⟨g2, o2, x', rfl, hx', hc2⟩ := (R2.below HB).at_ k hlt
      obtain rfl : x' = x := by
        rw [hx] at hx'
        injection hx' with h
        exact h.symm
      obtain ⟨xs, xp, xf, xw⟩ := x'
      have hEx0 : ∀ w', Calls Try.prog 26 #[.agg #[.int .i64 xs, .int .i64 xp, .int .i64 xf, .int .i64 xw]] w' fun r w'' => r = .returned (.agg #[.int .i64 xs, .int .i64 xp, .int .i64 xf, .int .i64 xw]) ∧ Below w'.heap.size w' w'' := fun w' => hE.out ⟨xs, xp, xf, xw⟩ w'
      have hEx := Lib.hid hEx0
      clear hEx0
      have C1 := Lib.hid hc1
      have C2 := Lib.hid hc2
      have HX := bl_drew HB
      have hbd := bl_drew (bl_refl wo)
      obtain ⟨c0, c1, c2, c3⟩ := range4 (range_below hbd C1.out)
      obtain ⟨d0, d1, d2, d3⟩ := range4 (range_below hbd C2.out)
      simp only at c0 c1 c2 c3 d0 d1 d2 d3
      clear hx hx' hc1 hc2 R1 R2
      go_wp2_with fail
      go_region_held3 (fun w' => (w'.cell? ⟨g1, o1 + k * 4, none⟩ = some (.int .i64 xs) ∧ w'.cell? ⟨g1, o1 + k * 4 + 1, none⟩ = some (.int .i64 xp) ∧ w'.cell? ⟨g1, o1 + k * 4 + 2, none⟩ = some (.int .i64 xf) ∧ w'.cell? ⟨g1, o1 + k * 4 + 3, none⟩ = some (.int .i64 xw)) ∧ w'.cell? ⟨g2, o2 + k * 4, none⟩ = some (.int .i64 xs) ∧ w'.cell? ⟨g2, o2 + k * 4 + 1, none⟩ = some (.int .i64 xp) ∧ w'.cell? ⟨g2, o2 + k * 4 + 2, none⟩ = some (.int .i64 xf) ∧ w'.cell? ⟨g2, o2 + k * 4 + 3, none⟩ = some (.int .i64 xw))
        (first
          | exact ⟨range4 (range_below hbd C1.out), range4 (range_below hbd C2.out)⟩
          | go_keep)
        (first
          | (go_at_call 26; refine (hEx.out _).mono ?_; rintro r wa ⟨rfl, ba⟩; have hbd := bl_then hbd ba; have HX := bl_then HX ba))
      all_goals (
        go_wp2_with fail
        go_roundw
        case rel => exact ⟨k + 1, by omega, by go_num, HX⟩
        case measure => first | (simp [intOf]; done) | (simp [intOf]; omega))
    · have hq : decide ((k : Int) < (n : Int)) = false := by simp; omega
      go_wp2_with fail
      go_ret
      exact ⟨rfl, HB⟩
end Go.Proofs.Ytcomgmgmpmjnkaa.AbortI
