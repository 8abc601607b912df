/- Contracts of package abort and its reference: the least name; the reference's turn and asking. -/
import Derived.Test.YtcomgmgmpmjnkaaAbort6
set_option linter.unusedVariables false
namespace Go.Proofs.Ytcomgmgmpmjnkaa.Abort7
open Go.RowKit Go.Proofs.Ytcomgmgmpmjnkaa.Base Go.Proofs.Ytcomgmgmpmjnkaa.Row Go.Proofs.Ytcomgmgmpmjnkaa.App Go.Proofs.Ytcomgmgmpmjnkaa.Multi Go.Proofs.Ytcomgmgmpmjnkaa.AbortMath Go.Proofs.Ytcomgmgmpmjnkaa.Abort Go.Proofs.Ytcomgmgmpmjnkaa.Abort2 Go.Proofs.Ytcomgmgmpmjnkaa.Abort3 Go.Proofs.Ytcomgmgmpmjnkaa.Abort4 Go.Proofs.Ytcomgmgmpmjnkaa.Abort5 Go.Proofs.Ytcomgmgmpmjnkaa.Abort6

/-- The least name of a kind, or 512. -/
def low (l : List Wt) (e k : Int) : Nat := (List.range 512).findIdx (fun i : Nat => has l e k (i : Int))
theorem low_le (l : List Wt) (e k : Int) : low l e k ≤ 512 := by
  have := List.findIdx_le_length (xs := List.range 512) (p := fun i : Nat => has l e k (i : Int))
  simpa [low] using this
theorem low_no {l : List Wt} {e k : Int} (j : Nat) (hj : j < low l e k) : has l e k (j : Int) = false := by
  have h1 := List.not_of_lt_findIdx hj
  simpa using h1
theorem low_yes {l : List Wt} {e k : Int} (h : low l e k < 512) : has l e k (low l e k : Int) = true := by
  have h1 := List.findIdx_getElem (xs := List.range 512) (p := fun i : Nat => has l e k (i : Int)) (w := by rw [List.length_range]; exact h)
  rwa [List.getElem_range] at h1
set_option maxRecDepth 100000 in
set_option maxHeartbeats 1000000 in
theorem rfirst_c (A : Option Addr) (n c : Nat) (l : List Wt) (e k : Int) (w : World) (hr : RF wv 4 w A n l) :
    Calls Try.prog 37 #[.slice A n c, .int .i64 e, .int .i64 k] w fun r w' => r = .returned (.int .i64 (wI 512 (low l e k))) ∧ w = w' := by
  have hH := Lib.hid (fun nm => has_c A n c l e k nm w hr)
  have hle := Lib.hid (low_le l e k)
  clear hr
  go_enter Try.func37, Try.ntmps37
  go_wp2_with fail
  go_loopw [7] (fun i wr => ∃ j : Nat, j ≤ low l e k ∧ i = .int .i64 j ∧ w = wr) (fun i _ => 512 - (intOf i).toNat)
  case atStart => exact ⟨0, by omega, rfl, rfl⟩
  case round =>
    obtain ⟨j, hj, rfl, rfl⟩ := hrel
    by_cases hlt : j < 512
    · have hq : decide ((j : Int) < 512) = true := by simp; omega
      have hC := Lib.hid (hH.out (j : Int))
      cases hh : has l e k (j : Int) with
      | true =>
        have hfin : Hid (j = low l e k) := Lib.hid (by
          rcases Nat.lt_or_ge j (low l e k) with h | h
          · have := low_no j h
            rw [this] at hh; cases hh
          · omega)
        rw [hh] at hC
        clear hh
        go_wp2_with fail
        refine (hC.out).mono ?_
        rintro r w1 ⟨rfl, rfl⟩
        go_wp2
        go_ret
        refine ⟨ret_int ?_, rfl⟩
        rw [← hfin.out]
        simp [wI, hlt]
      | false =>
        have hfin : Hid (j + 1 ≤ low l e k) := Lib.hid (by
          rcases Nat.lt_or_ge j (low l e k) with h | h
          · exact h
          · have e1 : j = low l e k := by omega
            have := low_yes (l := l) (e := e) (k := k) (by omega)
            rw [← e1, hh] at this; cases this)
        rw [hh] at hC
        clear hh
        go_wp2_with fail
        refine (hC.out).mono ?_
        rintro r w1 ⟨rfl, rfl⟩
        go_wp2
        go_roundw
        case rel => exact ⟨j + 1, hfin.out, by go_num, trivial⟩
        case measure => first | (simp [intOf]; done) | (simp [intOf]; omega)
    · have hq : decide ((j : Int) < 512) = false := by simp; omega
      have hfin : Hid (low l e k = 512) := Lib.hid (by have := hle.out; omega)
      go_wp2
      go_ret
      refine ⟨ret_int ?_, rfl⟩
      rw [hfin.out]
      simp [wI]

/-- The least name, told while one goes along. -/
def fstep (e k : Int) (b : Int × Bool) (x : Wt) : Int × Bool := if x.e = e ∧ x.k = k ∧ (b.2 = false ∨ x.n < b.1) then (x.n, true) else b
def fst_ (l : List Wt) (e k : Int) : Int × Bool := l.foldl (fstep e k) (0, false)
theorem fst_succ {l : List Wt} {e k : Int} {i : Nat} {x : Wt} (hx : l[i]? = some x) : fst_ (l.take (i + 1)) e k = fstep e k (fst_ (l.take i) e k) x := by
  obtain ⟨hi, rfl⟩ := List.getElem?_eq_some_iff.1 hx
  unfold fst_
  rw [List.take_succ_eq_append_getElem hi, List.foldl_append]
  rfl
theorem fstep_eq (e k : Int) (b1 : Int) (b2 : Bool) (x : Wt) : fstep e k (b1, b2) x = if (x.e == e && (x.k == k && (!b2 || decide (x.n < b1)))) = true then (x.n, true) else (b1, b2) := by
  unfold fstep
  congr 1
  simp
set_option maxRecDepth 100000 in
set_option maxHeartbeats 2000000 in
theorem first_c (A : Option Addr) (n c : Nat) (l : List Wt) (e k : Int) (w : World) (hr : RF wv 4 w A n l) :
    Calls Try.prog 36 #[.agg (lv A n c), .int .i64 e, .int .i64 k] w fun r w' => r = .returned (.tuple #[.int .i64 (fst_ l e k).1, .bool (fst_ l e k).2]) ∧ Below w.heap.size w w' := by
  have hlen := Lib.hid hr.len
  have hmx := hr.max
  go_enter Try.func36, Try.ntmps36
  go_wp2_with ((with_reducible refine wl_box rfl 67 _ rfl (lv A n c) rfl ?_); intro w1 k1 b1 s1; have f0 := k1.cellv 0 (.slice A n c) rfl)
  go_loopw [8, 9, 15] (fun b o i wr => ∃ j : Nat, j ≤ n ∧ i = .int .i64 j ∧ b = .int .i64 (fst_ (l.take j) e k).1 ∧ o = .bool (fst_ (l.take j) e k).2 ∧ Below w.heap.size w wr) (fun _ _ i _ => n - (intOf i).toNat)
  case atStart => exact ⟨0, by omega, rfl, rfl, rfl, b1⟩
  case round =>
    obtain ⟨j, hj, rfl, rfl, rfl, HB⟩ := hrel
    obtain ⟨wo, rfl⟩ : ∃ wo : World, wo = wr := ⟨_, rfl⟩
    by_cases hlt : j < n
    · have hq : decide ((j : Int) < (n : Int)) = true := by simp; omega
      obtain ⟨g, o, x, rfl, hx, hcells⟩ := (hr.below HB).at_ j hlt
      obtain ⟨d0, d1, d2, d3⟩ := range4 hcells
      have hs0 := fst_succ (e := e) (k := k) hx
      clear hcells hx
      obtain ⟨xe, xk, xn, xl⟩ := x
      simp only at d0 d1 d2 d3
      revert hs0
      rcases hf : fst_ (l.take j) e k with ⟨v1, v2⟩
      intro hs0
      rw [fstep_eq] at hs0
      simp only at hs0
      have hs := Lib.hid hs0
      clear hs0 hf
      cases v2
      · rcases chain3 (xe == e) (xk == k) true with q | ⟨q1, q⟩ | ⟨q1, q⟩
        case inr.inr =>
          rw [if_pos (by simp only [Bool.true_and, Bool.false_and, Bool.and_false, Bool.not_false, Bool.true_or, *])] at hs
          go_wp2
          go_roundw
          case rel => exact ⟨j + 1, by omega, by go_num, by rw [hs.out], by rw [hs.out], bl_alloc HB _⟩
          case measure => first | (simp [intOf]; done) | (simp [intOf]; omega)
        all_goals (
          rw [if_neg (by simp only [Bool.true_and, Bool.false_and, Bool.and_false, Bool.not_false, Bool.true_or, *]; decide)] at hs
          go_wp2
          go_roundw
          case rel => exact ⟨j + 1, by omega, by go_num, by rw [hs.out], by rw [hs.out], bl_alloc HB _⟩
          case measure => first | (simp [intOf]; done) | (simp [intOf]; omega))
      · rcases off4 (xe == e) false (xk == k) (decide (xn < v1)) with q | ⟨q1, q⟩ | ⟨q1, q2, q⟩ | ⟨q1, q2, q3, q⟩ | ⟨q1, q2, q3, q⟩
        case inr.inl => cases q
        case inr.inr.inr.inr =>
          rw [if_pos (by simp only [Bool.true_and, Bool.false_and, Bool.and_false, Bool.not_true, Bool.false_or, *])] at hs
          go_wp2
          go_roundw
          case rel => exact ⟨j + 1, by omega, by go_num, by rw [hs.out], by rw [hs.out], bl_alloc HB _⟩
          case measure => first | (simp [intOf]; done) | (simp [intOf]; omega)
        all_goals (
          rw [if_neg (by simp only [Bool.true_and, Bool.false_and, Bool.and_false, Bool.not_true, Bool.false_or, *]; decide)] at hs
          go_wp2
          go_roundw
          case rel => exact ⟨j + 1, by omega, by go_num, by rw [hs.out], by rw [hs.out], bl_alloc HB _⟩
          case measure => first | (simp [intOf]; done) | (simp [intOf]; omega))
    · obtain rfl : j = n := by omega
      have hq : decide ((j : Int) < (j : Int)) = false := by simp
      have hfin : Hid (l.take j = l) := Lib.hid (List.take_of_length_le (by rw [hlen.out]; omega))
      rw [hfin.out]
      go_wp2
      go_ret2
      exact ⟨rfl, HB⟩
end Go.Proofs.Ytcomgmgmpmjnkaa.Abort7
