/- Contracts of package ledger: a ledger is a lock and 16 times 8 numbers. -/
import Derived.Test.YteokofkdfeglnaaRow
import Derived.Test.YteokofkdfeglnaaLocks
import Derived.Defers
import Derived.Deep.RegionHeld3
set_option linter.unusedVariables false
namespace Go.Proofs.Yteokofkdfeglnaa.Ledger
open Go.RowKit Go.Proofs.Yteokofkdfeglnaa.Base Go.Proofs.Yteokofkdfeglnaa.Row

theorem grown_drew (w : World) (g : Nat) : w.grownBy w.drew (some g) := grown_of_below (bl_drew (bl_refl w)) _
theorem grown_drewN (w : World) (g n : Nat) : w.grownBy (w.drewN n) (some g) := grown_of_below (bl_drewN (bl_refl w) n) _

/-- A lock's two cells, then numbers. -/
def lc (m : Int) (L : List Int) : Array Value := (Value.int .i32 m :: Value.int .u32 0 :: nums .i64 L).toArray
theorem lc_get (m : Int) (L : List Int) (i : Nat) (h : i < L.length) : (lc m L)[2 + i]? = some (.int .i64 (L[i]?.getD 0)) := by
  unfold lc nums
  rw [Nat.add_comm]
  simp [List.getElem?_eq_getElem h]
theorem lc_set (m : Int) (L : List Int) (i : Nat) (v : Int) : (lc m L).setIfInBounds (2 + i) (.int .i64 v) = lc m (L.set i v) := by
  unfold lc nums
  rw [Nat.add_comm]
  simp [List.map_set]
theorem lc_lock (m m' : Int) (L : List Int) : (lc m L).setIfInBounds 0 (.int .i32 m') = lc m' L := rfl
theorem lc_size (m : Int) (L : List Int) : (lc m L).size = 2 + L.length := by
  simp [lc, nums]; omega

def Lg (w : World) (g : Nat) (m : Int) (L : List Int) : Prop := Blk w g 80 (lc m L)

theorem lock_c (g : Nat) (L : List Int) (w : World) (h : Lg w g 0 L) :
    Calls Try.prog 42 #[.pointer (some ⟨g, 0, none⟩)] w fun e w' => e = .returned (.tuple #[]) ∧ Lg w' g 1 L ∧ w.grownBy w' (some g) := by
  refine (Go.MuLone.lock_free muLib ⟨g, 0, none⟩ w (Blk.cellv h 0 _ rfl) (Blk.frozen h 0)).mono ?_
  rintro e w' ⟨rfl, rfl⟩
  exact ⟨rfl, Blk.set_ h 0 _, grownBy_set _ _ _ _⟩
theorem unlock_d (g : Nat) (L : List Int) (u : FrameMode) (w : World) (h : Lg w g 1 L) :
    CallsD Try.prog 43 #[.pointer (some ⟨g, 0, none⟩)] u w fun e u' w' => u' = u ∧ e = .returned (.tuple #[]) ∧ Lg w' g 0 L ∧ w.grownBy w' (some g) := by
  refine (Go.MuLone.unlock_deferred muLib ⟨g, 0, none⟩ u w (Blk.cellv h 0 _ rfl) (Blk.frozen h 0)).mono ?_
  rintro e u' w' ⟨rfl, rfl, rfl⟩
  exact ⟨rfl, rfl, Blk.set_ h 0 _, grownBy_set _ _ _ _⟩

/-- May these be? -/
def lmay (e k n : Int) : Bool := decide (0 ≤ e ∧ e < 16 ∧ 0 ≤ k ∧ k < 4 ∧ 0 ≤ n ∧ n ≤ 512)
theorem lmay_nat {e k n : Int} (h : lmay e k n = true) : ∃ e' k' : Nat, e = e' ∧ k = k' ∧ e' < 16 ∧ k' < 4 ∧ 0 ≤ n ∧ n ≤ 512 := by
  unfold lmay at h
  rw [decide_eq_true_eq] at h
  exact ⟨e.toNat, k.toNat, by omega, by omega, by omega, by omega, by omega, by omega⟩

set_option maxRecDepth 100000 in
theorem may_c (e k n : Int) (w : World) :
    Calls Try.prog 41 #[.int .i64 e, .int .i64 k, .int .i64 n] w fun r w' => r = .returned (.bool (lmay e k n)) ∧ w = w' := by
  by_cases h : lmay e k n = true
  · have h' := Lib.hid h
    unfold lmay at h
    rw [decide_eq_true_eq] at h
    obtain ⟨h1, h2, h3, h4, h5, h6⟩ := h
    have q1 := decide_eq_true h1
    have q2 := decide_eq_true h2
    have q3 := decide_eq_true h3
    have q4 := decide_eq_true h4
    have q5 := decide_eq_true h5
    have q6 := decide_eq_true h6
    go_enter Try.func41, Try.ntmps41
    go_wp2
    go_ret
    exact ⟨ret_bool h'.out.symm, rfl⟩
  · have h' := Lib.hid (Bool.eq_false_iff.2 h)
    unfold lmay at h
    rw [decide_eq_true_eq] at h
    by_cases h1 : 0 ≤ e
    · have q1 := decide_eq_true h1
      by_cases h2 : e < 16
      · have q2 := decide_eq_true h2
        by_cases h3 : 0 ≤ k
        · have q3 := decide_eq_true h3
          by_cases h4 : k < 4
          · have q4 := decide_eq_true h4
            by_cases h5 : 0 ≤ n
            · have q5 := decide_eq_true h5
              have q6 : decide (n ≤ 512) = false := by simp; omega
              clear h
              go_enter Try.func41, Try.ntmps41
              go_wp2
              go_ret
              exact ⟨ret_bool h'.out.symm, rfl⟩
            · have q5 := decide_eq_false h5
              clear h
              go_enter Try.func41, Try.ntmps41
              go_wp2
              go_ret
              exact ⟨ret_bool h'.out.symm, rfl⟩
          · have q4 := decide_eq_false h4
            clear h
            go_enter Try.func41, Try.ntmps41
            go_wp2
            go_ret
            exact ⟨ret_bool h'.out.symm, rfl⟩
        · have q3 := decide_eq_false h3
          clear h
          go_enter Try.func41, Try.ntmps41
          go_wp2
          go_ret
          exact ⟨ret_bool h'.out.symm, rfl⟩
      · have q2 := decide_eq_false h2
        clear h
        go_enter Try.func41, Try.ntmps41
        go_wp2
        go_ret
        exact ⟨ret_bool h'.out.symm, rfl⟩
    · have q1 := decide_eq_false h1
      clear h
      go_enter Try.func41, Try.ntmps41
      go_wp2
      go_ret
      exact ⟨ret_bool h'.out.symm, rfl⟩

def qat (L : List Int) (e k : Nat) : Int := L[e * 8 + k]?.getD 0
def uat (L : List Int) (e k : Nat) : Int := L[e * 8 + (4 + k)]?.getD 0
def left (L : List Int) (e k : Nat) : Int := wrap64 (qat L e k - uat L e k)

/-! ### the reference's words -/
set_option maxRecDepth 100000 in
theorem refmay_c (e k n : Int) (w : World) :
    Calls Try.prog 44 #[.int .i64 e, .int .i64 k, .int .i64 n] w fun r w' => r = .returned (.bool (lmay e k n)) ∧ w = w' := by
  by_cases h : lmay e k n = true
  · have h' := Lib.hid h
    unfold lmay at h
    rw [decide_eq_true_eq] at h
    obtain ⟨h1, h2, h3, h4, h5, h6⟩ := h
    have q1 := decide_eq_true h1
    have q2 := decide_eq_true h2
    have q3 := decide_eq_true h3
    have q4 := decide_eq_true h4
    have q5 := decide_eq_true h5
    have q6 := decide_eq_true h6
    go_enter Try.func44, Try.ntmps44
    go_wp2
    go_ret
    exact ⟨ret_bool h'.out.symm, rfl⟩
  · have h' := Lib.hid (Bool.eq_false_iff.2 h)
    unfold lmay at h
    rw [decide_eq_true_eq] at h
    by_cases h1 : 0 ≤ e
    · have q1 := decide_eq_true h1
      by_cases h2 : e < 16
      · have q2 := decide_eq_true h2
        by_cases h3 : 0 ≤ k
        · have q3 := decide_eq_true h3
          by_cases h4 : k < 4
          · have q4 := decide_eq_true h4
            by_cases h5 : 0 ≤ n
            · have q5 := decide_eq_true h5
              have q6 : decide (n ≤ 512) = false := by simp; omega
              clear h
              go_enter Try.func44, Try.ntmps44
              go_wp2
              go_ret
              exact ⟨ret_bool h'.out.symm, rfl⟩
            · have q5 := decide_eq_false h5
              clear h
              go_enter Try.func44, Try.ntmps44
              go_wp2
              go_ret
              exact ⟨ret_bool h'.out.symm, rfl⟩
          · have q4 := decide_eq_false h4
            clear h
            go_enter Try.func44, Try.ntmps44
            go_wp2
            go_ret
            exact ⟨ret_bool h'.out.symm, rfl⟩
        · have q3 := decide_eq_false h3
          clear h
          go_enter Try.func44, Try.ntmps44
          go_wp2
          go_ret
          exact ⟨ret_bool h'.out.symm, rfl⟩
      · have q2 := decide_eq_false h2
        clear h
        go_enter Try.func44, Try.ntmps44
        go_wp2
        go_ret
        exact ⟨ret_bool h'.out.symm, rfl⟩
    · have q1 := decide_eq_false h1
      clear h
      go_enter Try.func44, Try.ntmps44
      go_wp2
      go_ret
      exact ⟨ret_bool h'.out.symm, rfl⟩


theorem lc_set8 (m : Int) (L : List Int) (e j : Nat) (v : Int) : (lc m L).setIfInBounds (2 + e * 8 + j) (.int .i64 v) = lc m (L.set (e * 8 + j) v) := by rw [Nat.add_assoc, lc_set]
theorem lc_set84 (m : Int) (L : List Int) (e j : Nat) (v : Int) : (lc m L).setIfInBounds (2 + e * 8 + 4 + j) (.int .i64 v) = lc m (L.set (e * 8 + (4 + j)) v) := by rw [Nat.add_assoc, Nat.add_assoc, lc_set]
theorem lc_q (m : Int) (L : List Int) (e k : Nat) (hl : L.length = 128) (he : e < 16) (hk : k < 4) : (lc m L)[2 + e * 8 + k]? = some (.int .i64 (qat L e k)) := by rw [Nat.add_assoc]; exact lc_get m L (e * 8 + k) (by omega)
theorem lc_u (m : Int) (L : List Int) (e k : Nat) (hl : L.length = 128) (he : e < 16) (hk : k < 4) : (lc m L)[2 + e * 8 + 4 + k]? = some (.int .i64 (uat L e k)) := by rw [Nat.add_assoc, Nat.add_assoc]; exact lc_get m L (e * 8 + (4 + k)) (by omega)

/-- The reference's ledger: the numbers alone. -/
def rc (L : List Int) : Array Value := (nums .i64 L).toArray
theorem rc_get (L : List Int) (i : Nat) (h : i < L.length) : (rc L)[i]? = some (.int .i64 (L[i]?.getD 0)) := by
  unfold rc nums
  simp [List.getElem?_eq_getElem h]
theorem rc_set (L : List Int) (i : Nat) (v : Int) : (rc L).setIfInBounds i (.int .i64 v) = rc (L.set i v) := by
  unfold rc nums
  simp [List.map_set]
theorem rc_q (L : List Int) (e k : Nat) (hl : L.length = 128) (he : e < 16) (hk : k < 4) : (rc L)[e * 8 + k]? = some (.int .i64 (qat L e k)) := rc_get L (e * 8 + k) (by omega)
theorem rc_u (L : List Int) (e k : Nat) (hl : L.length = 128) (he : e < 16) (hk : k < 4) : (rc L)[e * 8 + 4 + k]? = some (.int .i64 (uat L e k)) := by rw [Nat.add_assoc]; exact rc_get L (e * 8 + (4 + k)) (by omega)
theorem rc_set84 (L : List Int) (e j : Nat) (v : Int) : (rc L).setIfInBounds (e * 8 + 4 + j) (.int .i64 v) = rc (L.set (e * 8 + (4 + j)) v) := by rw [Nat.add_assoc, rc_set]
def Rg (w : World) (g : Nat) (L : List Int) : Prop := Blk w g 59 (rc L)

/-! ### what both compute -/
def pLeft (L : List Int) (e k : Int) : Int := if lmay e k 0 then left L e.toNat k.toNat else 0
def pQuota (L : List Int) (e k : Int) : Int × Int := if lmay e k 0 then (qat L e.toNat k.toNat, uat L e.toNat k.toNat) else (0, 0)
def pTake (L : List Int) (e k n : Int) : Int × List Int :=
  if lmay e k n then (if left L e.toNat k.toNat < n then (21, L) else (0, L.set (e.toNat * 8 + (4 + k.toNat)) (wrap64 (uat L e.toNat k.toNat + n)))) else (1, L)
def pFree (L : List Int) (e k n : Int) : Int × List Int :=
  if lmay e k n then (if uat L e.toNat k.toNat < n then (1, L) else (0, L.set (e.toNat * 8 + (4 + k.toNat)) (wrap64 (uat L e.toNat k.toNat - n)))) else (1, L)

set_option maxRecDepth 100000 in
theorem left_yes (g e k : Nat) (L : List Int) (w : World) (h : Lg w g 0 L) (hl : L.length = 128) (he : e < 16) (hk : k < 4) :
    Calls Try.prog 27 #[.pointer (some ⟨g, 0, none⟩), .int .i64 e, .int .i64 k] w fun r w' => r = .returned (.int .i64 (left L e k)) ∧ Lg w' g 0 L ∧ w.grownBy w' (some g) := by
  have hm : lmay e k 0 = true := by unfold lmay; rw [decide_eq_true_eq]; omega
  have hM := Lib.hid (fun w => may_c e k 0 w)
  rw [hm] at hM
  clear hm
  have i1 : (e : Int) < 16 := by omega
  have i2 : (k : Int) < 4 := by omega
  go_enter_defers Try.func27, Try.ntmps27
  go_wp2_with fail
  refine (hM.out _).mono ?_
  rintro r w1 ⟨rfl, rfl⟩
  go_wp2_with fail
  refine (lock_c g L w h).mono ?_
  rintro r w1 ⟨rfl, k1, g1⟩
  have cq := Blk.cellv k1 _ _ (lc_q 1 L e k hl he hk)
  have cu := Blk.cellv k1 _ _ (lc_u 1 L e k hl he hk)
  go_wp2
  go_quiet (fail)
  go_wp2
  refine leaves_cons (f := 43) (args := #[.pointer (some ⟨g, 0, none⟩)]) (by simp) (by simp [go_sem]) ?_
  refine (unlock_d g L .returning _ (Blk.drewN k1 _)).mono ?_
  rintro r u' w9 ⟨rfl, rfl, k9, g9⟩
  exact ⟨_, results_tmp rfl _ _ _, rfl, k9, World.grownBy.trans g1 (World.grownBy.trans (grown_drewN _ _ _) g9)⟩

set_option maxRecDepth 100000 in
theorem left_no (g : Nat) (e k : Int) (w : World) (hm : lmay e k 0 = false) :
    Calls Try.prog 27 #[.pointer (some ⟨g, 0, none⟩), .int .i64 e, .int .i64 k] w fun r w' => r = .returned (.int .i64 0) ∧ w = w' := by
  have hM := Lib.hid (fun w => may_c e k 0 w)
  rw [hm] at hM
  clear hm
  go_enter_defers Try.func27, Try.ntmps27
  go_wp2_with fail
  refine (hM.out _).mono ?_
  rintro r w1 ⟨rfl, rfl⟩
  go_wp2
  exact ⟨_, results_tmp rfl _ _ _, rfl, rfl⟩
set_option maxRecDepth 100000 in
theorem left_nil (e k : Int) (w : World) :
    Calls Try.prog 27 #[.pointer none, .int .i64 e, .int .i64 k] w fun r w' => r = .returned (.int .i64 0) ∧ w = w' := by
  go_enter_defers Try.func27, Try.ntmps27
  go_wp2
  exact ⟨_, results_tmp rfl _ _ _, rfl, rfl⟩

theorem left_c (g : Nat) (e k : Int) (L : List Int) (w : World) (h : Lg w g 0 L) (hl : L.length = 128) :
    Calls Try.prog 27 #[.pointer (some ⟨g, 0, none⟩), .int .i64 e, .int .i64 k] w fun r w' => r = .returned (.int .i64 (pLeft L e k)) ∧ Lg w' g 0 L ∧ w.grownBy w' (some g) := by
  cases hm : lmay e k 0 with
  | true =>
    obtain ⟨e, k, rfl, rfl, he, hk, _, _⟩ := lmay_nat hm
    have := left_yes g e k L w h hl he hk
    simpa [pLeft, hm] using this
  | false =>
    refine (left_no g e k w hm).mono ?_
    rintro r w1 ⟨rfl, rfl⟩
    exact ⟨by simp [pLeft, hm], h, World.grownBy.refl _ _⟩

set_option maxRecDepth 100000 in
theorem quota_yes (g e k : Nat) (L : List Int) (w : World) (h : Lg w g 0 L) (hl : L.length = 128) (he : e < 16) (hk : k < 4) :
    Calls Try.prog 26 #[.pointer (some ⟨g, 0, none⟩), .int .i64 e, .int .i64 k] w fun r w' => r = .returned (.tuple #[.int .i64 (qat L e k), .int .i64 (uat L e k)]) ∧ Lg w' g 0 L ∧ w.grownBy w' (some g) := by
  have hm : lmay e k 0 = true := by unfold lmay; rw [decide_eq_true_eq]; omega
  have hM := Lib.hid (fun w => may_c e k 0 w)
  rw [hm] at hM
  clear hm
  have i1 : (e : Int) < 16 := by omega
  have i2 : (k : Int) < 4 := by omega
  go_enter_defers Try.func26, Try.ntmps26
  go_wp2_with fail
  refine (hM.out _).mono ?_
  rintro r w1 ⟨rfl, rfl⟩
  go_wp2_with fail
  refine (lock_c g L w h).mono ?_
  rintro r w1 ⟨rfl, k1, g1⟩
  have cq := Blk.cellv k1 _ _ (lc_q 1 L e k hl he hk)
  have cu := Blk.cellv k1 _ _ (lc_u 1 L e k hl he hk)
  go_wp2
  go_quiet (fail)
  go_wp2
  refine leaves_cons (f := 43) (args := #[.pointer (some ⟨g, 0, none⟩)]) (by simp) (by simp [go_sem]) ?_
  refine (unlock_d g L .returning _ (Blk.drewN k1 _)).mono ?_
  rintro r u' w9 ⟨rfl, rfl, k9, g9⟩
  exact ⟨_, results_tmp2 rfl _ _ _, rfl, k9, World.grownBy.trans g1 (World.grownBy.trans (grown_drewN _ _ _) g9)⟩

set_option maxRecDepth 100000 in
theorem quota_no (g : Nat) (e k : Int) (w : World) (hm : lmay e k 0 = false) :
    Calls Try.prog 26 #[.pointer (some ⟨g, 0, none⟩), .int .i64 e, .int .i64 k] w fun r w' => r = .returned (.tuple #[.int .i64 0, .int .i64 0]) ∧ w = w' := by
  have hM := Lib.hid (fun w => may_c e k 0 w)
  rw [hm] at hM
  clear hm
  go_enter_defers Try.func26, Try.ntmps26
  go_wp2_with fail
  refine (hM.out _).mono ?_
  rintro r w1 ⟨rfl, rfl⟩
  go_wp2
  exact ⟨_, results_tmp2 rfl _ _ _, rfl, rfl⟩
set_option maxRecDepth 100000 in
theorem quota_nil (e k : Int) (w : World) :
    Calls Try.prog 26 #[.pointer none, .int .i64 e, .int .i64 k] w fun r w' => r = .returned (.tuple #[.int .i64 0, .int .i64 0]) ∧ w = w' := by
  go_enter_defers Try.func26, Try.ntmps26
  go_wp2
  exact ⟨_, results_tmp2 rfl _ _ _, rfl, rfl⟩

theorem quota_c (g : Nat) (e k : Int) (L : List Int) (w : World) (h : Lg w g 0 L) (hl : L.length = 128) :
    Calls Try.prog 26 #[.pointer (some ⟨g, 0, none⟩), .int .i64 e, .int .i64 k] w fun r w' => r = .returned (.tuple #[.int .i64 (pQuota L e k).1, .int .i64 (pQuota L e k).2]) ∧ Lg w' g 0 L ∧ w.grownBy w' (some g) := by
  cases hm : lmay e k 0 with
  | true =>
    obtain ⟨e, k, rfl, rfl, he, hk, _, _⟩ := lmay_nat hm
    have := quota_yes g e k L w h hl he hk
    simpa [pQuota, hm] using this
  | false =>
    refine (quota_no g e k w hm).mono ?_
    rintro r w1 ⟨rfl, rfl⟩
    exact ⟨by simp [pQuota, hm], h, World.grownBy.refl _ _⟩

set_option maxRecDepth 100000 in
theorem take_yes (g e k : Nat) (n : Int) (L : List Int) (w : World) (h : Lg w g 0 L) (hl : L.length = 128) (he : e < 16) (hk : k < 4) (hn0 : 0 ≤ n) (hn1 : n ≤ 512) :
    Calls Try.prog 30 #[.pointer (some ⟨g, 0, none⟩), .int .i64 e, .int .i64 k, .int .i64 n] w fun r w' => r = .returned (.int .i64 (pTake L e k n).1) ∧ Lg w' g 0 (pTake L e k n).2 ∧ w.grownBy w' (some g) := by
  have hm : lmay e k n = true := by unfold lmay; rw [decide_eq_true_eq]; omega
  have hM := Lib.hid (fun w => may_c e k n w)
  rw [hm] at hM
  have hm' := Lib.hid hm
  clear hm
  have i1 : (e : Int) < 16 := by omega
  have i2 : (k : Int) < 4 := by omega
  by_cases hlt : left L e k < n
  · have hp : Hid (pTake L e k n = (21, L)) := Lib.hid (by simp [pTake, hm'.out, hlt])
    rw [hp.out]
    have hq : decide (left L e k < n) = true := by simpa using hlt
    clear hlt
    go_enter_defers Try.func30, Try.ntmps30
    go_wp2_with fail
    refine (hM.out _).mono ?_
    rintro r w1 ⟨rfl, rfl⟩
    go_wp2_with fail
    refine (lock_c g L w h).mono ?_
    rintro r w1 ⟨rfl, k1, g1⟩
    have cq := Blk.cellv k1 _ _ (lc_q 1 L e k hl he hk)
    have cu := Blk.cellv k1 _ _ (lc_u 1 L e k hl he hk)
    unfold left at hq
    go_wp2
    go_quiet (fail)
    go_wp2
    refine leaves_cons (f := 43) (args := #[.pointer (some ⟨g, 0, none⟩)]) (by simp) (by simp [go_sem]) ?_
    refine (unlock_d g L .returning _ (Blk.drewN k1 _)).mono ?_
    rintro r u' w9 ⟨rfl, rfl, k9, g9⟩
    exact ⟨_, results_tmp rfl _ _ _, rfl, k9, World.grownBy.trans g1 (World.grownBy.trans (grown_drewN _ _ _) g9)⟩
  · have hp : Hid (pTake L e k n = (0, L.set (e * 8 + (4 + k)) (wrap64 (uat L e k + n)))) := Lib.hid (by simp [pTake, hm'.out, hlt])
    rw [hp.out]
    have hq : decide (left L e k < n) = false := by simpa using hlt
    clear hlt
    go_enter_defers Try.func30, Try.ntmps30
    go_wp2_with fail
    refine (hM.out _).mono ?_
    rintro r w1 ⟨rfl, rfl⟩
    go_wp2_with fail
    refine (lock_c g L w h).mono ?_
    rintro r w1 ⟨rfl, k1, g1⟩
    have cq := Blk.cellv k1 _ _ (lc_q 1 L e k hl he hk)
    have cu := Blk.cellv k1 _ _ (lc_u 1 L e k hl he hk)
    have zu := Blk.frozen k1 (2 + e * 8 + 4 + k)
    unfold left at hq
    go_wp2
    go_quiet (fail)
    go_wp2
    go_region
    go_wp2
    refine leaves_cons (f := 43) (args := #[.pointer (some ⟨g, 0, none⟩)]) (by simp) (by simp [go_sem]) ?_
    refine (unlock_d g (L.set (e * 8 + (4 + k)) (wrap64 (uat L e k + n))) .returning _ ?_).mono ?_
    · have K := Blk.set_ k1 (2 + e * 8 + 4 + k) (.int .i64 (wrap64 (uat L e k + n)))
      rw [lc_set84] at K
      exact K
    rintro r u' w9 ⟨rfl, rfl, k9, g9⟩
    exact ⟨_, results_tmp rfl _ _ _, rfl, k9, World.grownBy.trans g1 (World.grownBy.trans (grown_drewN _ _ _) (World.grownBy.trans (grown_drew _ _) (World.grownBy.trans (grownBy_set _ _ _ _) g9)))⟩

set_option maxRecDepth 100000 in
theorem take_no (g : Nat) (e k n : Int) (w : World) (hm : lmay e k n = false) :
    Calls Try.prog 30 #[.pointer (some ⟨g, 0, none⟩), .int .i64 e, .int .i64 k, .int .i64 n] w fun r w' => r = .returned (.int .i64 1) ∧ w = w' := by
  have hM := Lib.hid (fun w => may_c e k n w)
  rw [hm] at hM
  clear hm
  go_enter_defers Try.func30, Try.ntmps30
  go_wp2_with fail
  refine (hM.out _).mono ?_
  rintro r w1 ⟨rfl, rfl⟩
  go_wp2
  exact ⟨_, results_tmp rfl _ _ _, rfl, rfl⟩
set_option maxRecDepth 100000 in
theorem take_nil (e k n : Int) (w : World) :
    Calls Try.prog 30 #[.pointer none, .int .i64 e, .int .i64 k, .int .i64 n] w fun r w' => r = .returned (.int .i64 1) ∧ w = w' := by
  go_enter_defers Try.func30, Try.ntmps30
  go_wp2
  exact ⟨_, results_tmp rfl _ _ _, rfl, rfl⟩

theorem take_c (g : Nat) (e k n : Int) (L : List Int) (w : World) (h : Lg w g 0 L) (hl : L.length = 128) :
    Calls Try.prog 30 #[.pointer (some ⟨g, 0, none⟩), .int .i64 e, .int .i64 k, .int .i64 n] w fun r w' => r = .returned (.int .i64 (pTake L e k n).1) ∧ Lg w' g 0 (pTake L e k n).2 ∧ w.grownBy w' (some g) := by
  cases hm : lmay e k n with
  | true =>
    obtain ⟨e, k, rfl, rfl, he, hk, h0, h1⟩ := lmay_nat hm
    exact take_yes g e k n L w h hl he hk h0 h1
  | false =>
    refine (take_no g e k n w hm).mono ?_
    rintro r w1 ⟨rfl, rfl⟩
    exact ⟨by simp [pTake, hm], by simpa [pTake, hm] using h, World.grownBy.refl _ _⟩

set_option maxRecDepth 100000 in
theorem free_yes (g e k : Nat) (n : Int) (L : List Int) (w : World) (h : Lg w g 0 L) (hl : L.length = 128) (he : e < 16) (hk : k < 4) (hn0 : 0 ≤ n) (hn1 : n ≤ 512) :
    Calls Try.prog 31 #[.pointer (some ⟨g, 0, none⟩), .int .i64 e, .int .i64 k, .int .i64 n] w fun r w' => r = .returned (.int .i64 (pFree L e k n).1) ∧ Lg w' g 0 (pFree L e k n).2 ∧ w.grownBy w' (some g) := by
  have hm : lmay e k n = true := by unfold lmay; rw [decide_eq_true_eq]; omega
  have hM := Lib.hid (fun w => may_c e k n w)
  rw [hm] at hM
  have hm' := Lib.hid hm
  clear hm
  have i1 : (e : Int) < 16 := by omega
  have i2 : (k : Int) < 4 := by omega
  by_cases hlt : uat L e k < n
  · have hp : Hid (pFree L e k n = (1, L)) := Lib.hid (by simp [pFree, hm'.out, hlt])
    rw [hp.out]
    have hq : decide (uat L e k < n) = true := by simpa using hlt
    clear hlt
    go_enter_defers Try.func31, Try.ntmps31
    go_wp2_with fail
    refine (hM.out _).mono ?_
    rintro r w1 ⟨rfl, rfl⟩
    go_wp2_with fail
    refine (lock_c g L w h).mono ?_
    rintro r w1 ⟨rfl, k1, g1⟩
    have cq := Blk.cellv k1 _ _ (lc_q 1 L e k hl he hk)
    have cu := Blk.cellv k1 _ _ (lc_u 1 L e k hl he hk)
    go_wp2
    skip
    refine leaves_cons (f := 43) (args := #[.pointer (some ⟨g, 0, none⟩)]) (by simp) (by simp [go_sem]) ?_
    refine (unlock_d g L .returning _ k1).mono ?_
    rintro r u' w9 ⟨rfl, rfl, k9, g9⟩
    exact ⟨_, results_tmp rfl _ _ _, rfl, k9, World.grownBy.trans g1 g9⟩
  · have hp : Hid (pFree L e k n = (0, L.set (e * 8 + (4 + k)) (wrap64 (uat L e k - n)))) := Lib.hid (by simp [pFree, hm'.out, hlt])
    rw [hp.out]
    have hq : decide (uat L e k < n) = false := by simpa using hlt
    clear hlt
    go_enter_defers Try.func31, Try.ntmps31
    go_wp2_with fail
    refine (hM.out _).mono ?_
    rintro r w1 ⟨rfl, rfl⟩
    go_wp2_with fail
    refine (lock_c g L w h).mono ?_
    rintro r w1 ⟨rfl, k1, g1⟩
    have cq := Blk.cellv k1 _ _ (lc_q 1 L e k hl he hk)
    have cu := Blk.cellv k1 _ _ (lc_u 1 L e k hl he hk)
    have zu := Blk.frozen k1 (2 + e * 8 + 4 + k)
    go_wp2
    go_region
    go_wp2
    refine leaves_cons (f := 43) (args := #[.pointer (some ⟨g, 0, none⟩)]) (by simp) (by simp [go_sem]) ?_
    refine (unlock_d g (L.set (e * 8 + (4 + k)) (wrap64 (uat L e k - n))) .returning _ ?_).mono ?_
    · have K := Blk.set_ k1 (2 + e * 8 + 4 + k) (.int .i64 (wrap64 (uat L e k - n)))
      rw [lc_set84] at K
      exact K
    rintro r u' w9 ⟨rfl, rfl, k9, g9⟩
    exact ⟨_, results_tmp rfl _ _ _, rfl, k9, World.grownBy.trans g1 (World.grownBy.trans (grown_drew _ _) (World.grownBy.trans (grownBy_set _ _ _ _) g9))⟩

set_option maxRecDepth 100000 in
theorem free_no (g : Nat) (e k n : Int) (w : World) (hm : lmay e k n = false) :
    Calls Try.prog 31 #[.pointer (some ⟨g, 0, none⟩), .int .i64 e, .int .i64 k, .int .i64 n] w fun r w' => r = .returned (.int .i64 1) ∧ w = w' := by
  have hM := Lib.hid (fun w => may_c e k n w)
  rw [hm] at hM
  clear hm
  go_enter_defers Try.func31, Try.ntmps31
  go_wp2_with fail
  refine (hM.out _).mono ?_
  rintro r w1 ⟨rfl, rfl⟩
  go_wp2
  exact ⟨_, results_tmp rfl _ _ _, rfl, rfl⟩
set_option maxRecDepth 100000 in
theorem free_nil (e k n : Int) (w : World) :
    Calls Try.prog 31 #[.pointer none, .int .i64 e, .int .i64 k, .int .i64 n] w fun r w' => r = .returned (.int .i64 1) ∧ w = w' := by
  go_enter_defers Try.func31, Try.ntmps31
  go_wp2
  exact ⟨_, results_tmp rfl _ _ _, rfl, rfl⟩

theorem free_c (g : Nat) (e k n : Int) (L : List Int) (w : World) (h : Lg w g 0 L) (hl : L.length = 128) :
    Calls Try.prog 31 #[.pointer (some ⟨g, 0, none⟩), .int .i64 e, .int .i64 k, .int .i64 n] w fun r w' => r = .returned (.int .i64 (pFree L e k n).1) ∧ Lg w' g 0 (pFree L e k n).2 ∧ w.grownBy w' (some g) := by
  cases hm : lmay e k n with
  | true =>
    obtain ⟨e, k, rfl, rfl, he, hk, h0, h1⟩ := lmay_nat hm
    exact free_yes g e k n L w h hl he hk h0 h1
  | false =>
    refine (free_no g e k n w hm).mono ?_
    rintro r w1 ⟨rfl, rfl⟩
    exact ⟨by simp [pFree, hm], by simpa [pFree, hm] using h, World.grownBy.refl _ _⟩
end Go.Proofs.Yteokofkdfeglnaa.Ledger
