/- Contracts of package slots (without an environment), and of the reference. -/
import Derived.Test.YtcomgmgmpmjnkaaSlots3
set_option linter.unusedVariables false
namespace Go.Proofs.Ytcomgmgmpmjnkaa.Slots4
open Go.RowKit Go.Proofs.Ytcomgmgmpmjnkaa.Base Go.Proofs.Ytcomgmgmpmjnkaa.Row Go.Proofs.Ytcomgmgmpmjnkaa.App Go.Proofs.Ytcomgmgmpmjnkaa.Slots Go.Proofs.Ytcomgmgmpmjnkaa.Slots2 Go.Proofs.Ytcomgmgmpmjnkaa.Slots3

theorem size_int : (Try.prog.info? 3).map (·.size) = some 1 := by kernel_rfl
theorem size_ints : (Try.prog.info? 94).map (·.size) = some 1 := by kernel_rfl

/-- What is not an environment's. -/
def fil (l : List Int) (env : Int) : List Int := l.filter (fun x => !(x == env))
theorem fil_succ (l : List Int) (env : Int) (k : Nat) (hk : k < l.length) : fil (l.take (k + 1)) env = fil (l.take k) env ++ (if l[k]?.getD 0 = env then [] else [l[k]?.getD 0]) := by
  unfold fil
  rw [List.take_succ_eq_append_getElem hk, List.filter_append, List.getElem?_eq_getElem hk, Option.getD_some]
  by_cases h : l[k] = env <;> simp [h]
theorem fil_le (l : List Int) (env : Int) (k : Nat) : (fil (l.take k) env).length ≤ k := by
  unfold fil
  exact Nat.le_trans (List.length_filter_le _ _) (by rw [List.length_take]; omega)

def FilPost (l : List Int) (env : Int) (w w' : World) (r : Ending) : Prop := (∃ A1 c1, r = .returned (.slice A1 (fil l env).length c1) ∧ w'.ownsRow w.heap.size 3 1 (.slice A1 (fil l env).length c1) (fil l env).length (nums .i64 (fil l env))) ∧ Below w.heap.size w w'

set_option maxRecDepth 100000 in
set_option maxHeartbeats 2000000 in
theorem refwithout_c (A : Option Addr) (n c : Nat) (env : Int) (l : List Int) (w : World) (hr : Rd w .i64 A n l) (hn : n ≤ 1000) :
    Calls Try.prog 49 #[.slice A n c, .int .i64 env] w fun r w' => FilPost l env w w' r := by
  have hlen := Lib.hid hr.len
  have hmx := hr.max
  go_enter Try.func49, Try.ntmps49
  go_wp2
  go_loopw [5, 6] (fun o i wr => ∃ (k : Nat) (A1 : Option Addr) (c1 m : Nat), k ≤ n ∧ m = (fil (l.take k) env).length ∧ i = .int .i64 k ∧ o = .slice A1 m c1 ∧ wr.ownsRow w.heap.size 3 1 (.slice A1 m c1) m (nums .i64 (fil (l.take k) env)) ∧ Below w.heap.size w wr) (fun _ i _ => n - (intOf i).toNat)
  case atStart => exact ⟨0, none, 0, 0, by omega, by simp [fil], rfl, rfl, by simpa [fil, nums] using own_nil _ _ _ _, bl_refl _⟩
  case round =>
    obtain ⟨k, A1, c1, m, hk, hm, rfl, rfl, HO, HB⟩ := hrel
    obtain ⟨wo, rfl⟩ : ∃ wo : World, wo = wr := ⟨_, rfl⟩
    by_cases hlt : k < n
    · have hq : decide ((k : Int) < (n : Int)) = true := by simp; omega
      obtain ⟨ad, rfl, hca⟩ := (hr.below HB).at_ k hlt
      have hcs := Lib.hid (fil_succ l env k (by rw [hlen.out]; exact hlt))
      have hml := Lib.hid (fil_le l env k)
      have hm := Lib.hid hm
      by_cases hx : l[k]?.getD 0 = env
      · have hq2 : (l[k]?.getD 0 != env) = false := by simp [hx]
        rw [if_pos hx] at hcs
        generalize l[k]?.getD 0 = y at *
        clear hx
        go_wp2
        go_roundw
        case rel => exact ⟨k + 1, A1, c1, m, by omega, by rw [hcs.out, List.append_nil]; exact hm.out, by go_num, rfl, by rw [hcs.out, List.append_nil]; exact HO, HB⟩
        case measure => first | (simp [intOf]; done) | (simp [intOf]; omega)
      · have hq2 : (l[k]?.getD 0 != env) = true := by simpa using hx
        rw [if_neg hx] at hcs
        generalize l[k]?.getD 0 = y at *
        clear hx
        go_wp2_with (at_builtin; refine app_one (w0 := w) w.heap.size 8 (.int .i64 0) rfl _ _ 94 3 rfl Try.underlying94 info_int rfl (by decide) (.slice A1 m c1) m _ rfl HO (.int .i64 y) rfl rfl ?d1 HB HB.size ?_)
        case d1 => have := hml.out; have := hm.out; omega
        intro A2 c2 w3 HO3 HB3 hs3 _
        go_wp2
        go_roundw
        case rel => exact ⟨k + 1, A2, c2, (fil (l.take k) env).length + 1, by omega, by rw [hcs.out, List.length_append]; rfl, by go_num, by first | rfl | rw [← hm.out], by rw [hcs.out, nums_append]; first | exact HO3 | (rw [← hm.out]; exact HO3), HB3⟩
        case measure => first | (simp [intOf]; done) | (simp [intOf]; omega)
    · obtain rfl : k = n := by omega
      have hq : decide ((k : Int) < (k : Int)) = false := by simp
      rw [List.take_of_length_le (by rw [hlen.out]; omega)] at HO hm
      subst hm
      go_wp2
      go_ret
      exact ⟨⟨A1, c1, rfl, HO⟩, HB⟩

set_option maxRecDepth 100000 in
set_option maxHeartbeats 2000000 in
theorem right_c (A : Option Addr) (n c : Nat) (l : List Int) (w : World) (hr : Rd w .i64 A n l) :
    Calls Try.prog 45 #[.slice A n c] w fun r w' => r = .returned (.bool (okL l)) ∧ w = w' := by
  have hmx := hr.max
  have hlen := Lib.hid hr.len
  by_cases hlong : 32 < n
  · have hq : decide (32 < (n : Int)) = true := by simp; omega
    have hno := Lib.hid (okL_long l (by rw [hlen.out]; exact hlong))
    clear hr hlong
    go_enter Try.func45, Try.ntmps45
    go_wp2
    go_ret
    exact ⟨ret_bool hno.out.symm, rfl⟩
  · have hq : decide (32 < (n : Int)) = false := by simp; omega
    go_enter Try.func45, Try.ntmps45
    go_wp2
    go_loopw [3] (fun i wr => ∃ k : Nat, k ≤ n ∧ i = .int .i64 k ∧ Hid (∀ j, j < k → 0 ≤ l[j]?.getD 0 ∧ l[j]?.getD 0 < 16) ∧ w = wr) (fun i _ => n - (intOf i).toNat)
    case atStart => exact ⟨0, by omega, rfl, Lib.hid (fun j hj => absurd hj (by omega)), rfl⟩
    case round =>
      obtain ⟨k, hk, rfl, HK, rfl⟩ := hrel
      by_cases hlt : k < n
      · have hq1 : decide ((k : Int) < (n : Int)) = true := by simp; omega
        obtain ⟨ad, rfl, hca⟩ := hr.at_ k hlt
        have hnoF : Hid (¬ (0 ≤ l[k]?.getD 0 ∧ l[k]?.getD 0 < 16) → okL l = false) := Lib.hid (okL_no l k (by rw [hlen.out]; exact hlt))
        have hsucc : Hid ((0 ≤ l[k]?.getD 0 ∧ l[k]?.getD 0 < 16) → ∀ j, j < k + 1 → 0 ≤ l[j]?.getD 0 ∧ l[j]?.getD 0 < 16) := Lib.hid (fun h j hj => by
          rcases Nat.lt_or_ge j k with h' | h'
          · exact HK.out j h'
          · obtain rfl : j = k := by omega
            exact h)
        generalize l[k]?.getD 0 = y at *
        by_cases h0 : 0 ≤ y
        · have q0 : decide (y < 0) = false := by simp; omega
          by_cases h1 : y < 16
          · have q1 : decide (15 < y) = false := by simp; omega
            have HK' := Lib.hid (hsucc.out ⟨h0, h1⟩)
            go_wp2
            go_roundw
            case rel => exact ⟨k + 1, by omega, by go_num, HK', trivial⟩
            case measure => first | (simp [intOf]; done) | (simp [intOf]; omega)
          · have q1 : decide (15 < y) = true := by simp; omega
            have hno := Lib.hid (hnoF.out (fun h => h1 h.2))
            go_wp2
            go_ret
            exact ⟨ret_bool hno.out.symm, rfl⟩
        · have q0 : decide (y < 0) = true := by simp; omega
          have hno := Lib.hid (hnoF.out (fun h => h0 h.1))
          go_wp2
          go_ret
          exact ⟨ret_bool hno.out.symm, rfl⟩
      · obtain rfl : k = n := by omega
        have hq1 : decide ((k : Int) < (k : Int)) = false := by simp
        have hyes := Lib.hid (okL_yes l k hlen.out (by omega) HK.out)
        go_wp2
        go_ret
        exact ⟨ret_bool hyes.out.symm, rfl⟩

/-- The place of the first one of an environment, or -1. -/
def wR (n m : Nat) : Int := if m < n then (m : Int) else -1
set_option maxRecDepth 100000 in
theorem refwait_c (A : Option Addr) (n c : Nat) (env : Int) (l : List Int) (w : World) (hr : Rd w .i64 A n l) (m : Nat) (hm : m ≤ n) (hno : ∀ j, j < m → ¬ l[j]?.getD 0 = env) (hyes : m < n → l[m]?.getD 0 = env) :
    Calls Try.prog 50 #[.slice A n c, .int .i64 env] w fun r w' => r = .returned (.int .i64 (wR n m)) ∧ w = w' := by
  have hmx := hr.max
  have hno' := Lib.hid hno
  have hyes' := Lib.hid hyes
  clear hno hyes
  go_enter Try.func50, Try.ntmps50
  go_wp2
  go_loopw [5] (fun i wr => ∃ k : Nat, k ≤ m ∧ i = .int .i64 k ∧ w = wr) (fun i _ => n - (intOf i).toNat)
  case atStart => exact ⟨0, by omega, rfl, rfl⟩
  case round =>
    obtain ⟨k, hk, rfl, rfl⟩ := hrel
    by_cases hlt : k < n
    · have hq : decide ((k : Int) < (n : Int)) = true := by simp; omega
      obtain ⟨ad, rfl, hca⟩ := hr.at_ k hlt
      by_cases hx : l[k]?.getD 0 = env
      · have hkm : Hid (k = m) := Lib.hid (by
          rcases Nat.lt_or_ge k m with h | h
          · exact absurd hx (hno'.out k h)
          · omega)
        have hq2 : (l[k]?.getD 0 == env) = true := by simp [hx]
        generalize l[k]?.getD 0 = y at *
        clear hx
        go_wp2
        go_ret
        exact ⟨by rw [← hkm.out]; simp [wR, hlt], rfl⟩
      · have hkm : Hid (k < m) := Lib.hid (by
          rcases Nat.lt_or_ge k m with h | h
          · exact h
          · obtain rfl : k = m := by omega
            exact absurd (hyes'.out hlt) hx)
        have hq2 : (l[k]?.getD 0 == env) = false := by simpa using hx
        generalize l[k]?.getD 0 = y at *
        clear hx
        go_wp2
        go_roundw
        case rel => exact ⟨k + 1, hkm.out, by go_num, trivial⟩
        case measure => first | (simp [intOf]; done) | (simp [intOf]; omega)
    · have hq : decide ((k : Int) < (n : Int)) = false := by simp; omega
      have hkm : Hid (m = n) := Lib.hid (by omega)
      go_wp2
      go_ret
      exact ⟨by rw [hkm.out]; simp [wR], rfl⟩

/-- The slots behind the one whose turn it is, and that one. -/
def nx (l : List Int) : List Int := l.tail ++ l.take 1
def NxPost (l : List Int) (n : Nat) (w w' : World) (r : Ending) : Prop := (∃ A1 c1, r = .returned (.slice A1 n c1) ∧ w'.ownsRow w.heap.size 3 1 (.slice A1 n c1) n (nums .i64 (nx l))) ∧ Below w.heap.size w w'
set_option maxRecDepth 100000 in
set_option maxHeartbeats 2000000 in
theorem refnext_c (A : Option Addr) (n c : Nat) (l : List Int) (w : World) (hr : Rd w .i64 A n l) (hnc : n ≤ c) (hn : n ≤ 1000) :
    Calls Try.prog 47 #[.slice A n c] w fun r w' => NxPost l n w w' r := by
  by_cases h0 : n = 0
  · subst h0
    obtain rfl : l = [] := List.length_eq_zero_iff.1 hr.len
    clear hr
    go_enter Try.func47, Try.ntmps47
    go_wp2
    go_ret
    exact ⟨⟨none, 0, rfl, own_nil _ _ _ _⟩, bl_refl _⟩
  · obtain ⟨ad, rfl, hc0⟩ := hr.at_ 0 (by omega)
    have hq : ((n : Int) == 0) = false := by simp; omega
    have q1 : 1 ≤ n := by omega
    have q1i : (1 : Int) ≤ (n : Int) := by omega
    have q2 : 0 < n := by omega
    have q2i : (0 : Int) < (n : Int) := by omega
    have q3 : (n : Int) ≤ (c : Int) := by omega
    have hcut := hr.cut q1 hnc
    have hO := own_nil w w.heap.size 3 1
    have hd : l.drop 1 = l.tail := by simp
    have hnx : Hid (nx l = l.tail ++ [l[0]?.getD 0]) := Lib.hid (by
      cases l with
      | nil => exact absurd hr.len (by simp; omega)
      | cons x r => rfl)
    rw [hd] at hcut
    rw [show ad.add 0 = ad from by simp [Addr.add]] at hc0
    clear hr hd
    generalize l[0]?.getD 0 = y at *
    by_cases hc1 : c = 1
    · subst hc1
      obtain rfl : n = 1 := by omega
      have hlt : Hid (l.tail = []) := Lib.hid (List.length_eq_zero_iff.1 (by have := hcut.len; omega))
      clear hcut
      go_enter Try.func47, Try.ntmps47
      go_wp2_with (at_builtin; refine app_one (w0 := w) w.heap.size 8 (.int .i64 0) rfl _ _ 94 3 rfl Try.underlying94 info_int rfl (by decide) (.slice none 0 0) 0 [] rfl hO (.int .i64 y) rfl rfl ?d1 (bl_refl w) (Nat.le_refl _) ?_)
      case d1 => omega
      intro A4 c4 w4 HO4 B4 s4 _
      go_wp2
      go_ret
      refine ⟨⟨A4, c4, rfl, ?_⟩, B4⟩
      rw [hnx.out, hlt.out]
      exact HO4
    · have hcut' : Rd w .i64 (some (ad.add 1)) (n - 1) l.tail := by simpa [hc1] using hcut
      clear hcut
      go_enter Try.func47, Try.ntmps47
      go_wp2_with (at_builtin; refine app_rd (w0 := w) w.heap.size 8 .i64 (.int .i64 0) rfl _ _ 94 3 rfl Try.underlying94 info_int rfl (by decide) (.slice none 0 0) 0 [] rfl hO (some (ad.add 1)) (n - 1) (c - 1) l.tail rfl hcut' (fun h => by cases h) ?d1 (bl_refl w) (Nat.le_refl _) ?_)
      case d1 => omega
      intro A3 c3 w3 HO3 B3 s3
      have hc3 := bl_cell B3 hc0
      try rw [List.nil_append, show 0 + (n - 1) = n - 1 by omega] at HO3
      try rw [show 0 + (n - 1) = n - 1 by omega]
      clear hc0
      go_wp2_with (at_builtin; refine app_one (w0 := w) w.heap.size 8 (.int .i64 0) rfl _ _ 94 3 rfl Try.underlying94 info_int rfl (by decide) (.slice A3 (n - 1) c3) (n - 1) _ rfl HO3 (.int .i64 y) rfl rfl ?d1 B3 s3 ?_)
      case d1 => omega
      intro A4 c4 w4 HO4 B4 s4 _
      try rw [show n - 1 + 1 = n by omega] at HO4
      try rw [show n - 1 + 1 = n by omega]
      go_wp2
      go_ret
      refine ⟨⟨A4, c4, rfl, ?_⟩, B4⟩
      rw [hnx.out, nums_append]
      exact HO4
end Go.Proofs.Ytcomgmgmpmjnkaa.Slots4
