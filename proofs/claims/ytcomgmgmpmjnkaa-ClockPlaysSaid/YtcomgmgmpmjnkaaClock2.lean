/- Contracts of package clock's meter, and of the reference's state. -/
import Derived.Test.YtcomgmgmpmjnkaaClock
set_option linter.unusedVariables false
namespace Go.Proofs.Ytcomgmgmpmjnkaa.Clock2
open Go.RowKit Go.Proofs.Ytcomgmgmpmjnkaa.Base Go.Proofs.Ytcomgmgmpmjnkaa.Row Go.Proofs.Ytcomgmgmpmjnkaa.Clock

section
variable (g i : Nat) (w : World)
theorem loadI (x : Int) (hc : w.cell? ⟨g, i, none⟩ = some (.int .i64 x)) :
    Calls Try.prog 61 #[.pointer (some ⟨g, i, none⟩)] w fun e w' => e = .returned (.int .i64 x) ∧ w = w' := by
  have h := run_call_load (P := Try.prog) Try.func81 (by kernel_rfl) (by kernel_rfl) (by kernel_rfl) .i64 (by kernel_rfl) hc
  go_enter Try.func61, Try.ntmps61
  go_wp2
  go_ret
  exact ⟨rfl, rfl⟩
theorem addI (x y : Int) (hc : w.cell? ⟨g, i, none⟩ = some (.int .i64 x)) (hz : w.frozen? ⟨g, i, none⟩ = false) :
    Calls Try.prog 59 #[.pointer (some ⟨g, i, none⟩), .int .i64 y] w fun e w' => e = .returned (.int .i64 (wrap64 (x + y))) ∧ w' = w.setCell ⟨g, i, none⟩ (.int .i64 (wrap64 (x + y))) := by
  have h := run_call_add (P := Try.prog) Try.func79 (by kernel_rfl) (by kernel_rfl) (by kernel_rfl) .i64 (by kernel_rfl) hc hz (y := y) (s := IntKind.i64.wrap (x + y)) rfl
  go_enter Try.func59, Try.ntmps59
  go_wp2
  go_ret
  exact ⟨rfl, rfl⟩
theorem swapI (x y : Int) (hc : w.cell? ⟨g, i, none⟩ = some (.int .i64 x)) (hz : w.frozen? ⟨g, i, none⟩ = false) :
    Calls Try.prog 60 #[.pointer (some ⟨g, i, none⟩), .int .i64 y] w fun e w' => e = .returned (.int .i64 x) ∧ w' = w.setCell ⟨g, i, none⟩ (.int .i64 y) := by
  have h := run_call_swap (P := Try.prog) Try.func80 (by kernel_rfl) (by kernel_rfl) (by kernel_rfl) .i64 (by kernel_rfl) (y := y) hc hz
  go_enter Try.func60, Try.ntmps60
  go_wp2
  go_ret
  exact ⟨rfl, rfl⟩
end

theorem now_c (g : Nat) (w : World) (x : Int) (h : Cl w g x) :
    Calls Try.prog 22 #[.pointer (some ⟨g, 0, none⟩)] w fun e w' => e = .returned (.int .u64 x) ∧ w = w' := by
  have c0 := Lib.hid (Blk.cellv h 0 (.int .u64 x) rfl)
  clear h
  go_enter Try.func22, Try.ntmps22
  go_wp2_with fail
  refine (load64 g 0 w x c0.out).mono ?_
  rintro e w1 ⟨rfl, rfl⟩
  go_wp2
  go_ret
  exact ⟨rfl, rfl⟩

def inB (e : Int) : Bool := decide (0 ≤ e ∧ e < 16)
theorem in_c (e : Int) (w : World) :
    Calls Try.prog 58 #[.int .i64 e] w fun r w' => r = .returned (.bool (inB e)) ∧ w = w' := by
  by_cases h0 : 0 ≤ e
  · have q0 : decide (0 ≤ e) = true := by simpa using h0
    have hr : Hid (inB e = decide (e < 16)) := Lib.hid (by simp [inB, h0])
    rw [hr.out]
    clear h0
    go_enter Try.func58, Try.ntmps58
    go_wp2
    go_ret
    exact ⟨rfl, rfl⟩
  · have q0 : decide (0 ≤ e) = false := by simpa using h0
    have hr : Hid (inB e = false) := Lib.hid (by simp [inB, h0])
    rw [hr.out]
    clear h0
    go_enter Try.func58, Try.ntmps58
    go_wp2
    go_ret
    exact ⟨rfl, rfl⟩
theorem inB_yes (e : Nat) (h : e < 16) : inB e = true := by simp [inB]; omega
theorem inB_nat {e : Int} (h : inB e = true) : ∃ k : Nat, e = k ∧ k < 16 := by
  unfold inB at h
  rw [decide_eq_true_eq] at h
  exact ⟨e.toNat, by omega, by omega⟩

def mc (S : List Int) : Array Value := (nums .i64 S).toArray
theorem mc_get (S : List Int) (i : Nat) (h : i < S.length) : (mc S)[i]? = some (.int .i64 (S[i]?.getD 0)) := by
  unfold mc nums
  simp [List.getElem?_eq_getElem h]
theorem mc_set (S : List Int) (i : Nat) (v : Int) : (mc S).setIfInBounds i (.int .i64 v) = mc (S.set i v) := by
  unfold mc nums
  simp [List.map_set]
/-- A meter in memory. -/
def Mt (w : World) (g : Nat) (S : List Int) : Prop := Blk w g 48 (mc S)

/-! ### what both compute -/
def pOf (S : List Int) (e : Int) : Int := if inB e then S[e.toNat]?.getD 0 else 0
def spB (e n : Int) : Bool := decide (0 ≤ e ∧ e < 16 ∧ 0 ≤ n ∧ n ≤ 4096)
def pSpend (S : List Int) (e n : Int) : List Int := if spB e n then S.set e.toNat (wrap64 (S[e.toNat]?.getD 0 + n)) else S
def pClear (S : List Int) (e : Int) : List Int := if inB e then S.set e.toNat 0 else S
theorem spend_len (S : List Int) (e n : Int) : (pSpend S e n).length = S.length := by unfold pSpend; split <;> simp
theorem clear_len (S : List Int) (e : Int) : (pClear S e).length = S.length := by unfold pClear; split <;> simp
def sum (S : List Int) : Nat → Int
  | 0 => 0
  | k + 1 => wrap64 (sum S k + S[k]?.getD 0)

set_option maxRecDepth 100000 in
theorem spent_yes (g e : Nat) (S : List Int) (w : World) (h : Mt w g S) (hl : S.length = 16) (he : e < 16) :
    Calls Try.prog 23 #[.pointer (some ⟨g, 0, none⟩), .int .i64 e] w fun r w' => r = .returned (.int .i64 (S[e]?.getD 0)) ∧ w = w' := by
  have hI := Lib.hid (in_c e w)
  rw [inB_yes e he] at hI
  have c := Lib.hid (Blk.cellv h e _ (mc_get S e (by omega)))
  have q3 : (e : Int) < 16 := by omega
  generalize S[e]?.getD 0 = v at *
  clear h
  go_enter Try.func23, Try.ntmps23
  go_wp2_with fail
  refine (hI.out).mono ?_
  rintro r w1 ⟨rfl, rfl⟩
  go_wp2_with fail
  refine (loadI g e w _ c.out).mono ?_
  rintro r w1 ⟨rfl, rfl⟩
  go_wp2
  go_ret
  exact ⟨rfl, rfl⟩
set_option maxRecDepth 100000 in
theorem spent_no (g : Nat) (e : Int) (w : World) (he : inB e = false) :
    Calls Try.prog 23 #[.pointer (some ⟨g, 0, none⟩), .int .i64 e] w fun r w' => r = .returned (.int .i64 0) ∧ w = w' := by
  have hI := Lib.hid (in_c e w)
  rw [he] at hI
  clear he
  go_enter Try.func23, Try.ntmps23
  go_wp2_with fail
  refine (hI.out).mono ?_
  rintro r w1 ⟨rfl, rfl⟩
  go_wp2
  go_ret
  exact ⟨rfl, rfl⟩
theorem spent_c (g : Nat) (e : Int) (S : List Int) (w : World) (h : Mt w g S) (hl : S.length = 16) :
    Calls Try.prog 23 #[.pointer (some ⟨g, 0, none⟩), .int .i64 e] w fun r w' => r = .returned (.int .i64 (pOf S e)) ∧ w = w' := by
  cases he : inB e with
  | true =>
    obtain ⟨k, rfl, hk⟩ := inB_nat he
    have := spent_yes g k S w h hl hk
    simpa [pOf, he] using this
  | false =>
    have := spent_no g e w he
    simpa [pOf, he] using this
set_option maxRecDepth 100000 in
theorem clear_c (g : Nat) (e : Int) (S : List Int) (w : World) (h : Mt w g S) (hl : S.length = 16) :
    Calls Try.prog 19 #[.pointer (some ⟨g, 0, none⟩), .int .i64 e] w fun r w' => r = .returned (.int .i64 (pOf S e)) ∧ Mt w' g (pClear S e) ∧ w.grownBy w' (some g) := by
  cases he : inB e with
  | true =>
    have hr : Hid (pOf S e = S[e.toNat]?.getD 0 ∧ pClear S e = S.set e.toNat 0) := Lib.hid ⟨by simp [pOf, he], by simp [pClear, he]⟩
    rw [hr.out.1, hr.out.2]
    obtain ⟨k, rfl, hk⟩ := inB_nat he
    rw [Int.toNat_natCast]
    have hI := Lib.hid (in_c k w)
    rw [he] at hI
    have c := Lib.hid (Blk.cellv h k _ (mc_get S k (by omega)))
    have z := Lib.hid (Blk.frozen h k)
    have q3 : (k : Int) < 16 := by omega
    have hh := Lib.hid h
    generalize S[k]?.getD 0 = v at *
    clear h he hr
    go_enter Try.func19, Try.ntmps19
    go_wp2_with fail
    refine (hI.out).mono ?_
    rintro r w1 ⟨rfl, rfl⟩
    go_wp2_with fail
    refine (swapI g k w _ 0 c.out z.out).mono ?_
    rintro r w1 ⟨rfl, rfl⟩
    go_wp2
    go_ret
    refine ⟨rfl, ?_, grownBy_set _ _ _ _⟩
    have := Blk.set_ hh.out k (.int .i64 0)
    rw [mc_set] at this
    exact this
  | false =>
    have hr : Hid (pOf S e = 0 ∧ pClear S e = S) := Lib.hid ⟨by simp [pOf, he], by simp [pClear, he]⟩
    rw [hr.out.1, hr.out.2]
    have hI := Lib.hid (in_c e w)
    rw [he] at hI
    have hh := Lib.hid h
    clear h he hr
    go_enter Try.func19, Try.ntmps19
    go_wp2_with fail
    refine (hI.out).mono ?_
    rintro r w1 ⟨rfl, rfl⟩
    go_wp2
    go_ret
    exact ⟨rfl, hh.out, World.grownBy.refl _ _⟩
set_option maxRecDepth 100000 in
theorem spend_c (g : Nat) (e n : Int) (S : List Int) (w : World) (h : Mt w g S) (hl : S.length = 16) :
    Calls Try.prog 17 #[.pointer (some ⟨g, 0, none⟩), .int .i64 e, .int .i64 n] w fun r w' => r = .returned (.bool (spB e n)) ∧ Mt w' g (pSpend S e n) ∧ w.grownBy w' (some g) := by
  have hI := Lib.hid (in_c e w)
  have hh := Lib.hid h
  cases he : inB e with
  | true =>
    obtain ⟨k, rfl, hk⟩ := inB_nat he
    rw [he] at hI
    by_cases h0 : n < 0
    · have q0 : decide (n < 0) = true := by simpa using h0
      have hr : Hid (spB k n = false ∧ pSpend S k n = S) := Lib.hid (by
        have : spB k n = false := decide_eq_false (by omega)
        exact ⟨this, by simp [pSpend, this]⟩)
      rw [hr.out.1, hr.out.2]
      clear h0 h he hr
      go_enter Try.func17, Try.ntmps17
      go_wp2_with fail
      refine (hI.out).mono ?_
      rintro r w1 ⟨rfl, rfl⟩
      go_wp2
      go_ret
      exact ⟨rfl, hh.out, World.grownBy.refl _ _⟩
    · have q0 : decide (n < 0) = false := by simpa using h0
      by_cases h1 : 4096 < n
      · have q1 : decide (4096 < n) = true := by simpa using h1
        have hr : Hid (spB k n = false ∧ pSpend S k n = S) := Lib.hid (by
          have : spB k n = false := decide_eq_false (by omega)
          exact ⟨this, by simp [pSpend, this]⟩)
        rw [hr.out.1, hr.out.2]
        clear h0 h1 h he hr
        go_enter Try.func17, Try.ntmps17
        go_wp2_with fail
        refine (hI.out).mono ?_
        rintro r w1 ⟨rfl, rfl⟩
        go_wp2
        go_ret
        exact ⟨rfl, hh.out, World.grownBy.refl _ _⟩
      · have q1 : decide (4096 < n) = false := by simpa using h1
        have hr : Hid (spB k n = true ∧ pSpend S k n = S.set k (wrap64 (S[k]?.getD 0 + n))) := Lib.hid (by
          have : spB k n = true := decide_eq_true (by omega)
          exact ⟨this, by simp [pSpend, this]⟩)
        rw [hr.out.1, hr.out.2]
        have c := Lib.hid (Blk.cellv h k _ (mc_get S k (by omega)))
        have z := Lib.hid (Blk.frozen h k)
        have q3 : (k : Int) < 16 := by omega
        generalize S[k]?.getD 0 = v at *
        clear h0 h1 h he hr
        go_enter Try.func17, Try.ntmps17
        go_wp2_with fail
        refine (hI.out).mono ?_
        rintro r w1 ⟨rfl, rfl⟩
        go_wp2_with fail
        refine (addI g k w _ n c.out z.out).mono ?_
        rintro r w1 ⟨rfl, rfl⟩
        go_wp2
        go_ret
        refine ⟨rfl, ?_, grownBy_set _ _ _ _⟩
        have := Blk.set_ hh.out k (.int .i64 (wrap64 (v + n)))
        rw [mc_set] at this
        exact this
  | false =>
    rw [he] at hI
    have hr : Hid (spB e n = false ∧ pSpend S e n = S) := Lib.hid (by
      have : spB e n = false := decide_eq_false (by
        unfold inB at he
        rw [decide_eq_false_iff_not] at he
        omega)
      exact ⟨this, by simp [pSpend, this]⟩)
    rw [hr.out.1, hr.out.2]
    clear h he hr
    go_enter Try.func17, Try.ntmps17
    go_wp2_with fail
    refine (hI.out).mono ?_
    rintro r w1 ⟨rfl, rfl⟩
    go_wp2
    go_ret
    exact ⟨rfl, hh.out, World.grownBy.refl _ _⟩
set_option maxRecDepth 100000 in
theorem all_c (g : Nat) (S : List Int) (w : World) (h : Mt w g S) (hl : S.length = 16) :
    Calls Try.prog 24 #[.pointer (some ⟨g, 0, none⟩)] w fun r w' => r = .returned (.int .i64 (sum S 16)) ∧ w = w' := by
  have hS := Lib.hid (fun e he => spent_yes g e S w h hl he)
  clear h
  go_enter Try.func24, Try.ntmps24
  go_wp2
  go_loopw [3, 5] (fun n i wr => ∃ k : Nat, k ≤ 16 ∧ n = .int .i64 (sum S k) ∧ i = .int .i64 k ∧ w = wr) (fun _ i _ => 16 - (intOf i).toNat)
  case atStart => exact ⟨0, by omega, rfl, rfl, rfl⟩
  case round =>
    obtain ⟨k, hk, rfl, rfl, rfl⟩ := hrel
    by_cases hlt : k < 16
    · have hq : decide ((k : Int) < 16) = true := by simp; omega
      have hs : Hid (sum S (k + 1) = wrap64 (sum S k + S[k]?.getD 0)) := Lib.hid rfl
      go_wp2_with fail
      refine (hS.out k hlt).mono ?_
      rintro e w1 ⟨rfl, rfl⟩
      go_wp2_with fail
      go_roundw
      case rel => exact ⟨k + 1, by omega, by rw [hs.out, List.getElem?_eq_getElem (show k < S.length by omega)]; rfl, by go_num, trivial⟩
      case measure => first | (simp [intOf]; done) | (simp [intOf]; omega)
    · have hk16 : k = 16 := by omega
      subst hk16
      have hq : decide (((16 : Nat) : Int) < 16) = false := by simp
      go_wp2
      go_ret
      exact ⟨rfl, rfl⟩

/-! ### the reference's state -/
def sc (t : Int) (S : List Int) (a : Int) (b : Bool) : Array Value := (Value.int .u64 t :: (nums .i64 S ++ [.int .u64 a, .bool b])).toArray
theorem sc_get (t : Int) (S : List Int) (a : Int) (b : Bool) (i : Nat) (h : i < S.length) : (sc t S a b)[1 + i]? = some (.int .i64 (S[i]?.getD 0)) := by
  unfold sc nums
  rw [Nat.add_comm]
  simp [List.getElem?_append_left, h]
theorem sc_at (t : Int) (S : List Int) (a : Int) (b : Bool) (h : S.length = 16) : (sc t S a b)[17]? = some (.int .u64 a) := by
  unfold sc nums
  simp [h]
theorem sc_b (t : Int) (S : List Int) (a : Int) (b : Bool) (h : S.length = 16) : (sc t S a b)[18]? = some (.bool b) := by
  unfold sc nums
  simp [h]
theorem sc_set0 (t t' : Int) (S : List Int) (a : Int) (b : Bool) : (sc t S a b).setIfInBounds 0 (.int .u64 t') = sc t' S a b := rfl
theorem sc_set (t : Int) (S : List Int) (a : Int) (b : Bool) (i : Nat) (v : Int) (h : i < S.length) : (sc t S a b).setIfInBounds (1 + i) (.int .i64 v) = sc t (S.set i v) a b := by
  unfold sc nums
  rw [Nat.add_comm]
  simp [List.map_set, List.set_append_left, h]
theorem sc_seta (t : Int) (S : List Int) (a a' : Int) (b : Bool) (h : S.length = 16) : (sc t S a b).setIfInBounds 17 (.int .u64 a') = sc t S a' b := by
  unfold sc nums
  simp [List.set_append_right, h]
theorem sc_setb (t : Int) (S : List Int) (a : Int) (b b' : Bool) (h : S.length = 16) : (sc t S a b).setIfInBounds 18 (.bool b') = sc t S a b' := by
  unfold sc nums
  simp [List.set_append_right, h]
theorem sc_size (t : Int) (S : List Int) (a : Int) (b : Bool) (h : S.length = 16) : (sc t S a b).size = 19 := by
  simp [sc, nums, h]
def St (w : World) (g : Nat) (t : Int) (S : List Int) (a : Int) (b : Bool) : Prop := Blk w g 52 (sc t S a b)
end Go.Proofs.Ytcomgmgmpmjnkaa.Clock2
