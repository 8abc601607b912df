/- Contracts of package slots. -/
import Derived.Test.YtcomgmgmpmjnkaaApp
import Derived.Test.YtcomgmgmpmjnkaaProg
import Derived.Lib.SliceRun
set_option linter.unusedVariables false
namespace Go.Proofs.Ytcomgmgmpmjnkaa.Slots
open Go.RowKit Go.Proofs.Ytcomgmgmpmjnkaa.Base Go.Proofs.Ytcomgmgmpmjnkaa.Row Go.Proofs.Ytcomgmgmpmjnkaa.App

theorem info_int : (Try.prog.info? 3).map (fun i => (i.zero, i.size, i.bytes)) = some (some (.int .i64 0), 1, 8) := by kernel_rfl
def ClonePost (l : List Int) (n : Nat) (w w' : World) (r : Ending) : Prop := (∃ A1 c1, r = .returned (.slice A1 n c1) ∧ w'.ownsRow w.heap.size 3 1 (.slice A1 n c1) n (nums .i64 l)) ∧ Below w.heap.size w w'
set_option maxRecDepth 100000 in
theorem clone_c (A : Option Addr) (n c : Nat) (l : List Int) (w : World) (hr : Rd w .i64 A n l) (hA : A = none → c = 0) (hn : n ≤ 1000000000) :
    Calls Try.prog 70 #[.slice A n c] w fun r w' => ClonePost l n w w' r := by
  cases A with
  | none =>
    obtain rfl : c = 0 := hA rfl
    obtain rfl : n = 0 := by
      rcases Nat.eq_zero_or_pos n with hm | hm
      · exact hm
      · obtain ⟨ad, e', _⟩ := hr.cells hm
        cases e'
    obtain rfl : l = [] := List.length_eq_zero_iff.1 hr.len
    clear hr hA
    have hnil := Lib.run_eql_slice_nil (P := Try.prog) w 94 3 none 0 0 0 0 Try.underlying94
    go_enter Try.func70, Try.ntmps70
    go_wp2
    go_ret
    exact ⟨⟨none, 0, rfl, own_nil _ _ _ _⟩, bl_refl _⟩
  | some ad =>
    have hA' := Lib.hid hA
    clear hA
    have hnil := Lib.run_eql_slice_nil (P := Try.prog) w 94 3 (some ad) n c 0 0 Try.underlying94
    have HO := World.ownsRow_lit (base := w.heap.size) w #[] 0 (e := 3) (size := 1) (Nat.le_refl _) (by simp [maxLen]) rfl
    have B1 := bl_alloc (bl_refl w) (.cells #[] 3)
    have hr1 := hr.below B1
    clear hr
    go_enter Try.func70, Try.ntmps70
    go_wp2_with (at_builtin; refine app_rd (w0 := w) w.heap.size 8 .i64 (.int .i64 0) rfl _ _ 94 3 rfl Try.underlying94 info_int rfl (by decide) (.slice (some ⟨w.heap.size, 0, none⟩) 0 0) 0 [] rfl HO (some ad) n c l rfl hr1 hA'.out ?d1 B1 ?d3 ?_)
    case d1 => omega
    intro A3 c3 w5 HO5 B5 s5
    go_wp2
    go_ret
    exact ⟨⟨A3, c3, rfl, by simpa using HO5⟩, B5⟩

def rv (A : Option Addr) (n c : Nat) (t : Int) : Array Value := #[.slice A n c, .int .i64 t]
theorem size_v (v : Array Value) (h : v.size = 2) : (Try.prog.info? 96).map (·.size) = some v.size := by rw [h]; kernel_rfl
theorem new_v : (Try.prog.info? 96).map (fun i => i.zero.map (·.cells)) = some (some (rv none 0 0 0)) := by kernel_rfl
theorem zero_v : Try.prog.built 96 [] = some (rv none 0 0 0) := by kernel_rfl
theorem one_v (A : Option Addr) (n c : Nat) (t : Int) : ∀ v ∈ rv A n c t, v.oneCell' = true := by
  intro v hv
  simp [rv] at hv
  rcases hv with rfl | rfl <;> rfl

set_option maxRecDepth 100000 in
set_option maxHeartbeats 2000000 in
theorem next_yes (A : Option Addr) (n c t : Nat) (l : List Int) (w : World) (hr : Rd w .i64 A n l) (ht : t < n) :
    Calls Try.prog 40 #[.agg (rv A n c t)] w fun r w' => r = .returned (.tuple #[.agg (rv A n c ((t + 1) % n : Nat)), .int .i64 (l[t]?.getD 0), .bool true]) ∧ Below w.heap.size w w' := by
  have hmx := hr.max
  obtain ⟨ad, rfl, hc⟩ := hr.at_ t ht
  have hc1 := bl_cell (bl_alloc (bl_alloc (bl_refl w) (.cells (rv (some ad) n c t) 96)) (.cells (rv none 0 0 0) 96)) hc
  have hc1b := bl_cell (bl_alloc (bl_alloc (bl_refl w) (.cells (rv (some ad) n c t) 96)) (.cells (rv (some ad) n c (((t : Int) + 1) % (n : Int))) 96)) hc
  have q1 : ((n : Int) == 0) = false := by simp; omega
  have q2 : ((n : Int) != 0) = true := by simp; omega
  have q3 : (t : Int) < (n : Int) := by omega
  have e1 : wrap64 ((t : Int) + 1) = (t : Int) + 1 := by unfold wrap64; omega
  have e2 : ((t : Int) + 1).tmod n = ((t + 1) % n : Nat) := by rw [Int.tmod_eq_emod_of_nonneg (by omega), Int.natCast_emod]; simp
  generalize l[t]?.getD 0 = y at *
  clear hr
  simp only [rv] at hc1 hc1b ⊢
  go_enter Try.func40, Try.ntmps40
  go_wp2
  go_region
  go_wp2
  refine bodyPost_ret (res_cell_tmp2 rfl _ _ _ (w.heap.size + 1) 96 (rv (some ad) n c (((t : Int) + 1) % (n : Int))) _ rfl (Blk.drew (by have := Blk.new (w.alloc (.cells (rv (some ad) n c t) 96)) 96 (rv (some ad) n c (((t : Int) + 1) % (n : Int))); simpa [rv] using this)) Try.underlying96 rfl (size_v _ rfl)) rfl ⟨by rw [Int.natCast_emod]; rfl, bl_drew (bl_alloc (bl_alloc (bl_refl w) _) _)⟩

/-- How many slots an environment has among the first k. -/
def count (l : List Int) (env : Int) (k : Nat) : Nat := ((l.take k).filter (· == env)).length
theorem count_succ (l : List Int) (env : Int) (k : Nat) (hk : k < l.length) : count l env (k + 1) = count l env k + (if l[k]?.getD 0 = env then 1 else 0) := by
  unfold count
  rw [List.take_succ_eq_append_getElem hk, List.filter_append, List.length_append, List.getElem?_eq_getElem hk, Option.getD_some]
  by_cases h : l[k] = env <;> simp [h]
theorem count_le (l : List Int) (env : Int) (k : Nat) : count l env k ≤ k := by
  unfold count
  exact Nat.le_trans (List.length_filter_le _ _) (by rw [List.length_take]; omega)

set_option maxRecDepth 100000 in
set_option maxHeartbeats 2000000 in
theorem share_c (A : Option Addr) (n c : Nat) (t env : Int) (l : List Int) (w : World) (hr : Rd w .i64 A n l) :
    Calls Try.prog 42 #[.agg #[.slice A n c, .int .i64 t], .int .i64 env] w fun r w' => r = .returned (.int .i64 (count l env n : Nat)) ∧ Below w.heap.size w w' := by
  have hmx := hr.max
  have hlen := Lib.hid hr.len
  have B1 := bl_alloc (bl_refl w) (.cells #[.slice A n c, .int .i64 t] 96)
  have hr1 := hr.below B1
  clear hr
  go_enter Try.func42, Try.ntmps42
  go_wp2
  generalize (w.alloc (.cells #[.slice A n c, .int .i64 t] 96)) = w1 at *
  go_loopw [5, 11] (fun m i wr => ∃ k : Nat, k ≤ n ∧ m = .int .i64 (count l env k : Nat) ∧ i = .int .i64 k ∧ w1 = wr) (fun _ i _ => n - (intOf i).toNat)
  case atStart => exact ⟨0, by omega, rfl, rfl, rfl⟩
  case round =>
    obtain ⟨k, hk, rfl, rfl, rfl⟩ := hrel
    by_cases hlt : k < n
    · have hq : decide ((k : Int) < (n : Int)) = true := by simp; omega
      obtain ⟨ad, rfl, hca⟩ := hr1.at_ k hlt
      have hcs := Lib.hid (count_succ l env k (by rw [hlen.out]; exact hlt))
      have hcl := Lib.hid (count_le l env k)
      by_cases hx : l[k]?.getD 0 = env
      · have hq2 : (l[k]?.getD 0 == env) = true := by simp [hx]
        rw [if_pos hx] at hcs
        have hx' := Lib.hid hx
        generalize l[k]?.getD 0 = y at *
        clear hx
        go_wp2
        go_roundw
        case rel => exact ⟨k + 1, by omega, by rw [hcs.out, show wrap64 ((count l env k : Nat) + 1 : Int) = ((count l env k + 1 : Nat) : Int) from by have := hcl.out; unfold wrap64; omega], by go_num, trivial⟩
        case measure => first | (simp [intOf]; done) | (simp [intOf]; omega)
      · have hq2 : (l[k]?.getD 0 == env) = false := by simpa using hx
        rw [if_neg hx] at hcs
        generalize l[k]?.getD 0 = y at *
        clear hx
        go_wp2
        go_roundw
        case rel => exact ⟨k + 1, by omega, by rw [hcs.out]; rfl, by go_num, trivial⟩
        case measure => first | (simp [intOf]; done) | (simp [intOf]; omega)
    · obtain rfl : k = n := by omega
      have hq : decide ((k : Int) < (k : Int)) = false := by simp
      go_wp2
      go_ret
      exact ⟨rfl, B1⟩

set_option maxRecDepth 100000 in
theorem len_c (A : Option Addr) (n c : Nat) (t : Int) (w : World) :
    Calls Try.prog 46 #[.agg #[.slice A n c, .int .i64 t]] w fun r w' => r = .returned (.int .i64 n) ∧ Below w.heap.size w w' := by
  go_enter Try.func46, Try.ntmps46
  go_wp2
  go_ret
  exact ⟨rfl, bl_alloc (bl_refl w) _⟩

/-- The place of the k-th slot from t on. -/
def wN (n m : Nat) : Int := if m < n then (m : Int) else 0
def wB (n m : Nat) : Bool := decide (m < n)
def nth (l : List Int) (n t k : Nat) : Int := l[(t + k) % n]?.getD 0
set_option maxRecDepth 100000 in
set_option maxHeartbeats 2000000 in
theorem wait_c (A : Option Addr) (n c t : Nat) (env : Int) (l : List Int) (w : World) (hr : Rd w .i64 A n l) (hn : n ≤ 1000) (ht : t ≤ 1000) (m : Nat) (hm : m ≤ n) (hno : ∀ j, j < m → ¬ nth l n t j = env) (hyes : m < n → nth l n t m = env) :
    Calls Try.prog 44 #[.agg #[.slice A n c, .int .i64 t], .int .i64 env] w fun r w' => r = .returned (.tuple #[.int .i64 (wN n m), .bool (wB n m)]) ∧ Below w.heap.size w w' := by
  have B1 := bl_alloc (bl_refl w) (.cells #[.slice A n c, .int .i64 t] 96)
  have hr1 := hr.below B1
  have f0 := (Blk.new w 96 #[.slice A n c, .int .i64 t]).cellv 0 (.slice A n c) rfl
  have f1 := (Blk.new w 96 #[.slice A n c, .int .i64 t]).cellv 1 (.int .i64 t) rfl
  have hno' := Lib.hid hno
  have hyes' := Lib.hid hyes
  clear hr hno hyes
  go_enter Try.func44, Try.ntmps44
  go_wp2
  generalize (w.alloc (.cells #[.slice A n c, .int .i64 t] 96)) = w1 at *
  go_loopw [10] (fun i wr => ∃ k : Nat, k ≤ m ∧ i = .int .i64 k ∧ Below w1.heap.size w1 wr) (fun i _ => n - (intOf i).toNat)
  case atStart => exact ⟨0, by omega, rfl, bl_refl _⟩
  case round =>
    obtain ⟨k, hk, rfl, HB⟩ := hrel
    obtain ⟨wo, rfl⟩ : ∃ wo : World, wo = wr := ⟨_, rfl⟩
    by_cases hlt : k < n
    · have hq : decide ((k : Int) < (n : Int)) = true := by simp; omega
      have f0' := bl_cell HB f0
      have f1' := bl_cell HB f1
      clear f0 f1
      have hjn : (t + k) % n < n := Nat.mod_lt _ (by omega)
      obtain ⟨ad, rfl, hca⟩ := (hr1.below HB).at_ ((t + k) % n) hjn
      have e1 : wrap64 ((t : Int) + (k : Int)) = (t : Int) + (k : Int) := by unfold wrap64; omega
      have e2 : ((t : Int) + (k : Int)) % (n : Int) = ((t + k) % n : Nat) := by rw [Int.natCast_emod, Int.natCast_add]
      have e3 : ((t : Int) + (k : Int)).tmod (n : Int) = ((t + k) % n : Nat) := by rw [Int.tmod_eq_emod_of_nonneg (by omega)]; exact e2
      have hne : ¬ n = 0 := by omega
      obtain ⟨j, hj⟩ : ∃ j, (t + k) % n = j := ⟨_, rfl⟩
      rw [hj] at hca e2 e3 hjn
      have hj' := Lib.hid hj
      clear hj
      have hji : (j : Int) < (n : Int) := by omega
      by_cases hx : l[j]?.getD 0 = env
      · have hkm : Hid (k = m) := Lib.hid (by
          rcases Nat.lt_or_ge k m with h | h
          · exact absurd (by unfold nth; rw [hj'.out]; exact hx) (hno'.out k h)
          · omega)
        have hq2 : (l[j]?.getD 0 == env) = true := by simp [hx]
        generalize l[j]?.getD 0 = y at *
        clear hx
        go_wp2
        go_quiet (fail)
        go_wp2
        go_ret2
        refine ⟨by rw [← hkm.out]; simp [wN, wB, hlt], bl_drewN (bl_then B1 HB) _⟩
      · have hkm : Hid (k < m) := Lib.hid (by
          rcases Nat.lt_or_ge k m with h | h
          · exact h
          · obtain rfl : k = m := by omega
            exact absurd (by have := hyes'.out hlt; unfold nth at this; rwa [hj'.out] at this) hx)
        have hq2 : (l[j]?.getD 0 == env) = false := by simpa using hx
        generalize l[j]?.getD 0 = y at *
        clear hx
        go_wp2
        go_quiet (fail)
        go_wp2
        go_roundw
        case rel => exact ⟨k + 1, hkm.out, by go_num, bl_drewN HB _⟩
        case measure => first | (simp [intOf]; done) | (simp [intOf]; omega)
    · have hq : decide ((k : Int) < (n : Int)) = false := by simp; omega
      have hkm : Hid (m = n) := Lib.hid (by omega)
      go_wp2
      go_ret2
      refine ⟨by rw [hkm.out]; simp [wN, wB], bl_then B1 HB⟩
end Go.Proofs.Ytcomgmgmpmjnkaa.Slots
