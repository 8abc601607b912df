/- Contracts of the reference of package abort: Without. -/
import Derived.Test.YtcomgmgmpmjnkaaAbort5
set_option linter.unusedVariables false
namespace Go.Proofs.Ytcomgmgmpmjnkaa.Abort6
open Go.RowKit Go.Proofs.Ytcomgmgmpmjnkaa.Base Go.Proofs.Ytcomgmgmpmjnkaa.Row Go.Proofs.Ytcomgmgmpmjnkaa.App Go.Proofs.Ytcomgmgmpmjnkaa.Multi Go.Proofs.Ytcomgmgmpmjnkaa.AbortMath Go.Proofs.Ytcomgmgmpmjnkaa.Abort Go.Proofs.Ytcomgmgmpmjnkaa.Abort2 Go.Proofs.Ytcomgmgmpmjnkaa.Abort3 Go.Proofs.Ytcomgmgmpmjnkaa.Abort4 Go.Proofs.Ytcomgmgmpmjnkaa.Abort5

/-- What of a list goes: an environment's, or a name's. -/
def off (e k n : Int) (x : Wt) : Bool := x.e == e && (decide (k < 0) || (x.k == k && x.n == n))
def wout (l : List Wt) (e k n : Int) : List Wt := l.filter (fun x => !off e k n x)
theorem wout_succ {l : List Wt} {e k n : Int} {i : Nat} {x : Wt} (hx : l[i]? = some x) : wout (l.take (i + 1)) e k n = wout (l.take i) e k n ++ (if off e k n x then [] else [x]) := by
  obtain ⟨hi, rfl⟩ := List.getElem?_eq_some_iff.1 hx
  unfold wout
  rw [List.take_succ_eq_append_getElem hi, List.filter_append]
  cases h : off e k n l[i] <;> simp [h]
theorem wout_le (l : List Wt) (e k n : Int) (i : Nat) : (wout (l.take i) e k n).length ≤ i := by
  unfold wout
  exact Nat.le_trans (List.length_filter_le _ _) (by rw [List.length_take]; omega)
/-- A list of the reference's. -/
def IsR (w : World) (A : Option Addr) (n c : Nat) (l : List Wt) : Prop := IsT wv 4 64 w A n c l
theorem IsR.below {w w1 : World} {A : Option Addr} {n c : Nat} {l : List Wt} (h : IsR w A n c l) (hb : Below w.heap.size w w1) : IsR w1 A n c l := ist_below h hb
theorem IsR.own {w : World} {base : Nat} {A : Option Addr} {n c : Nat} {l : List Wt} (h : w.ownsRow base 64 4 (.slice A n c) n (l.flatMap wv)) : IsR w A n c l := ist_own wv_len (by decide) h
def ROut (l : List Wt) (w w' : World) (r : Ending) : Prop := (∃ A1 c1, r = .returned (.slice A1 l.length c1) ∧ IsR w' A1 l.length c1 l) ∧ Below w.heap.size w w'

theorem off4 : ∀ a b c d : Bool, a = false ∨ (a = true ∧ b = true) ∨ (a = true ∧ b = false ∧ c = false) ∨ (a = true ∧ b = false ∧ c = true ∧ d = false) ∨ (a = true ∧ b = false ∧ c = true ∧ d = true) := by decide
set_option maxRecDepth 100000 in
set_option maxHeartbeats 2000000 in
theorem wout_c (A : Option Addr) (n c : Nat) (l : List Wt) (e k nm : Int) (w : World) (hr : RF wv 4 w A n l) (hn : n ≤ 64) :
    Calls Try.prog 32 #[.slice A n c, .int .i64 e, .int .i64 k, .int .i64 nm] w fun r w' => ROut (wout l e k nm) w w' r := by
  have hlen := Lib.hid hr.len
  have hmx := hr.max
  go_enter Try.func32, Try.ntmps32
  go_wp2_with fail
  go_loopw [9, 10] (fun o i wr => ∃ (j : Nat) (A1 : Option Addr) (c1 m : Nat), j ≤ n ∧ m = (wout (l.take j) e k nm).length ∧ i = .int .i64 j ∧ o = .slice A1 m c1 ∧ wr.ownsRow w.heap.size 64 4 (.slice A1 m c1) m ((wout (l.take j) e k nm).flatMap wv) ∧ Below w.heap.size w wr) (fun _ i _ => n - (intOf i).toNat)
  case atStart => exact ⟨0, none, 0, 0, by omega, by simp [wout], rfl, rfl, own_nil _ _ _ _, bl_refl _⟩
  case round =>
    obtain ⟨j, A1, c1, m, hk, hm, rfl, rfl, HO, HB⟩ := hrel
    obtain ⟨wo, rfl⟩ : ∃ wo : World, wo = wr := ⟨_, rfl⟩
    by_cases hlt : j < n
    · have hq : decide ((j : Int) < (n : Int)) = true := by simp; omega
      obtain ⟨g, o, x, rfl, hx, hcells⟩ := (hr.below HB).at_ j hlt
      obtain ⟨d0, d1, d2, d3⟩ := range4 hcells
      have hws := Lib.hid (wout_succ (e := e) (k := k) (n := nm) hx)
      have hwl := Lib.hid (wout_le l e k nm j)
      replace hm := Lib.hid hm
      have sz := HB.size
      clear hcells hx
      obtain ⟨xe, xk, xn, xl⟩ := x
      simp only at d0 d1 d2 d3
      have hK : Hid (off e k nm ⟨xe, xk, xn, xl⟩ = (xe == e && (decide (k < 0) || (xk == k && xn == nm)))) := Lib.hid rfl
      rcases off4 (xe == e) (decide (k < 0)) (xk == k) (xn == nm) with q | ⟨q1, q⟩ | ⟨q1, q2, q⟩ | ⟨q1, q2, q3, q⟩ | ⟨q1, q2, q3, q⟩
      case inr.inl | inr.inr.inr.inr =>
        have hc : Hid (off e k nm ⟨xe, xk, xn, xl⟩ = true) := Lib.hid (by rw [hK.out]; simp only [Bool.true_and, Bool.false_and, Bool.and_false, Bool.true_or, Bool.false_or, *])
        rw [if_pos hc.out] at hws
        go_wp2_with fail
        go_roundw
        case rel => exact ⟨j + 1, A1, c1, m, by omega, by rw [hws.out, List.append_nil]; exact hm.out, by go_num, rfl, by rw [hws.out, List.append_nil]; exact HO, HB⟩
        case measure => first | (simp [intOf]; done) | (simp [intOf]; omega)
      all_goals (
        have hc : Hid (off e k nm ⟨xe, xk, xn, xl⟩ = false) := Lib.hid (by rw [hK.out]; simp only [Bool.true_and, Bool.false_and, Bool.and_false, Bool.true_or, Bool.false_or, *])
        rw [if_neg (by rw [hc.out]; decide)] at hws
        go_wp2_with (at_builtin; refine app_onef (w0 := w) (f := wv) w.heap.size 4 32 wv_len wv_one (.agg (wa ⟨0, 0, 0, 0⟩)) rfl _ _ 80 64 rfl Try.underlying80 info_rwant rfl (by decide) (by decide) (.slice A1 m c1) m (wout (l.take j) e k nm) rfl HO (⟨xe, xk, xn, xl⟩ : Wt) _ rfl wo.heap.size rfl rfl ?d1 ?d2 ?d3 ?_)
        case d1 => have := hwl.out; have := hm.out; omega
        case d2 => exact HB
        case d3 => omega
        intro A5 c5 w5 HO5 B5 s5 _
        go_wp2_with fail
        go_roundw
        case rel => exact ⟨j + 1, A5, c5, m + 1, by omega, by rw [hws.out, List.length_append, ← hm.out]; rfl, by go_num, rfl, by rw [hws.out, List.flatMap_append, List.flatMap_singleton]; exact HO5, B5⟩
        case measure => first | (simp [intOf]; done) | (simp [intOf]; omega))
    · obtain rfl : j = n := by omega
      have hq : decide ((j : Int) < (j : Int)) = false := by simp
      rw [List.take_of_length_le (by rw [hlen.out]; omega)] at HO hm
      subst hm
      go_wp2_with fail
      go_ret
      exact ⟨⟨A1, c1, rfl, IsR.own HO⟩, HB⟩
end Go.Proofs.Ytcomgmgmpmjnkaa.Abort6
