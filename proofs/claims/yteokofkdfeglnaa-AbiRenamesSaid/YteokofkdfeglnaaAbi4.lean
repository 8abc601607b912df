/- Contracts of package abi and its reference: the small ones; the chapter's examples. -/
import Derived.Test.YteokofkdfeglnaaAbi3
set_option linter.unusedVariables false
namespace Go.Proofs.Yteokofkdfeglnaa.Abi4
open Go.RowKit Go.Proofs.Yteokofkdfeglnaa.Base Go.Proofs.Yteokofkdfeglnaa.Row Go.Proofs.Yteokofkdfeglnaa.App Go.Proofs.Yteokofkdfeglnaa.Multi Go.Proofs.Yteokofkdfeglnaa.Abi Go.Proofs.Yteokofkdfeglnaa.Abi2 Go.Proofs.Yteokofkdfeglnaa.Abi3

theorem rkind_c (c : UInt8) (w : World) : Calls Try.prog 15 #[.int .u8 (c.toNat : Nat)] w fun r w' => r = .returned (.int .i64 (lk c)) ∧ w = w' := by
  have h : c = 102 ∨ c = 98 ∨ c = 115 ∨ c = 112 ∨ (lk c = -1 ∧ (((c.toNat : Nat) : Int) == 102) = false ∧ (((c.toNat : Nat) : Int) == 98) = false ∧ (((c.toNat : Nat) : Int) == 115) = false ∧ (((c.toNat : Nat) : Int) == 112) = false) := by
    have hall : ∀ k : Fin 256, (UInt8.ofNat k.1) = 102 ∨ (UInt8.ofNat k.1) = 98 ∨ (UInt8.ofNat k.1) = 115 ∨ (UInt8.ofNat k.1) = 112 ∨ (lk (UInt8.ofNat k.1) = -1 ∧ ((((UInt8.ofNat k.1).toNat : Nat) : Int) == 102) = false ∧ ((((UInt8.ofNat k.1).toNat : Nat) : Int) == 98) = false ∧ ((((UInt8.ofNat k.1).toNat : Nat) : Int) == 115) = false ∧ ((((UInt8.ofNat k.1).toNat : Nat) : Int) == 112) = false) := by decide +kernel
    have := hall ⟨c.toNat, c.toNat_lt⟩
    simpa using this
  rcases h with rfl | rfl | rfl | rfl | ⟨hl, q1, q2, q3, q4⟩
  · rw [show lk 102 = 0 by decide]
    go_enter Try.func15, Try.ntmps15
    go_wp2
    go_ret
    exact ⟨rfl, rfl⟩
  · rw [show lk 98 = 1 by decide]
    go_enter Try.func15, Try.ntmps15
    go_wp2
    go_ret
    exact ⟨rfl, rfl⟩
  · rw [show lk 115 = 2 by decide]
    go_enter Try.func15, Try.ntmps15
    go_wp2
    go_ret
    exact ⟨rfl, rfl⟩
  · rw [show lk 112 = 3 by decide]
    go_enter Try.func15, Try.ntmps15
    go_wp2
    go_ret
    exact ⟨rfl, rfl⟩
  · rw [hl]
    generalize ((c.toNat : Nat) : Int) = v at *
    go_enter Try.func15, Try.ntmps15
    go_wp2
    go_ret
    exact ⟨rfl, rfl⟩

def ow (op : Int) : Bool := decide (33 ≤ op) && decide (op ≤ 40)
theorem own_c (op : Int) (w : World) : Calls Try.prog 17 #[.int .i64 op] w fun r w' => r = .returned (.bool (ow op)) ∧ w = w' := by
  by_cases h1 : 33 ≤ op
  · have q1 : decide (33 ≤ op) = true := by simpa using h1
    have hm : Hid (ow op = decide (op ≤ 40)) := Lib.hid (by simp [ow, q1])
    go_enter Try.func17, Try.ntmps17
    go_wp2
    go_ret
    exact ⟨by rw [hm.out]; rfl, rfl⟩
  · have q1 : decide (33 ≤ op) = false := by simpa using h1
    have hm : Hid (ow op = false) := Lib.hid (by simp [ow, q1])
    go_enter Try.func17, Try.ntmps17
    go_wp2
    go_ret
    exact ⟨by rw [hm.out]; rfl, rfl⟩

def chs : List Int := [2, 4, 5, 6, 10, 17, 19, 22, 24, 25, 26]
def chg (op : Int) : Bool := chs.contains op
set_option maxHeartbeats 1000000 in
theorem changes_c (op : Int) (w : World) : Calls Try.prog 18 #[.int .i64 op] w fun r w' => r = .returned (.bool (chg op)) ∧ w = w' := by
  by_cases h : op ∈ chs
  · have hm : Hid (chg op = true) := Lib.hid (by simpa [chg] using h)
    rw [hm.out]
    simp only [chs, List.mem_cons, List.not_mem_nil, or_false] at h
    rcases h with rfl | rfl | rfl | rfl | rfl | rfl | rfl | rfl | rfl | rfl | rfl <;>
    · go_enter Try.func18, Try.ntmps18
      go_wp2
      go_ret
      exact ⟨rfl, rfl⟩
  · have hm : Hid (chg op = false) := Lib.hid (by simpa [chg] using h)
    rw [hm.out]
    simp only [chs, List.mem_cons, List.not_mem_nil, or_false, not_or] at h
    obtain ⟨h1, h2, h3, h4, h5, h6, h7, h8, h9, h10, h11⟩ := h
    have q1 : (op == 2) = false := by simpa using h1
    have q2 : (op == 4) = false := by simpa using h2
    have q3 : (op == 5) = false := by simpa using h3
    have q4 : (op == 6) = false := by simpa using h4
    have q5 : (op == 10) = false := by simpa using h5
    have q6 : (op == 17) = false := by simpa using h6
    have q7 : (op == 19) = false := by simpa using h7
    have q8 : (op == 22) = false := by simpa using h8
    have q9 : (op == 24) = false := by simpa using h9
    have q10 : (op == 25) = false := by simpa using h10
    have q11 : (op == 26) = false := by simpa using h11
    clear h1 h2 h3 h4 h5 h6 h7 h8 h9 h10 h11
    go_enter Try.func18, Try.ntmps18
    go_wp2
    go_ret
    exact ⟨rfl, rfl⟩
set_option maxRecDepth 100000 in
set_option maxHeartbeats 1000000 in
theorem rchanges_c (op : Int) (w : World) : Calls Try.prog 19 #[.int .i64 op] w fun r w' => r = .returned (.bool (chg op)) ∧ w = w' := by
  by_cases h : op ∈ chs
  · have hm : Hid (chg op = true) := Lib.hid (by simpa [chg] using h)
    rw [hm.out]
    simp only [chs, List.mem_cons, List.not_mem_nil, or_false] at h
    rcases h with rfl | rfl | rfl | rfl | rfl | rfl | rfl | rfl | rfl | rfl | rfl <;>
    · go_enter Try.func19, Try.ntmps19
      go_wp2
      go_ret
      exact ⟨rfl, rfl⟩
  · have hm : Hid (chg op = false) := Lib.hid (by simpa [chg] using h)
    rw [hm.out]
    simp only [chs, List.mem_cons, List.not_mem_nil, or_false, not_or] at h
    obtain ⟨h1, h2, h3, h4, h5, h6, h7, h8, h9, h10, h11⟩ := h
    have q1 : (op == 2) = false := by simpa using h1
    have q2 : (op == 4) = false := by simpa using h2
    have q3 : (op == 5) = false := by simpa using h3
    have q4 : (op == 6) = false := by simpa using h4
    have q5 : (op == 10) = false := by simpa using h5
    have q6 : (op == 17) = false := by simpa using h6
    have q7 : (op == 19) = false := by simpa using h7
    have q8 : (op == 22) = false := by simpa using h8
    have q9 : (op == 24) = false := by simpa using h9
    have q10 : (op == 25) = false := by simpa using h10
    have q11 : (op == 26) = false := by simpa using h11
    clear h1 h2 h3 h4 h5 h6 h7 h8 h9 h10 h11
    go_enter Try.func19, Try.ntmps19
    go_wp2
    go_ret
    exact ⟨rfl, rfl⟩

theorem names11 : nm (F 11) (F 11).size = [(0, 2), (2, 0)] := by decide +kernel
set_option maxRecDepth 100000 in
set_option maxHeartbeats 2000000 in
theorem awake_c (w : World) : Calls Try.prog 14 #[] w fun e w' => e = .returned (.bool true) ∧ Below w.heap.size w w' := by
  have hN := Lib.hid (names_c 11 w)
  rw [names11] at hN
  have hC := Lib.hid check_ex
  go_enter Try.func14, Try.ntmps14
  go_wp2_with fail
  refine hN.out.mono ?_
  rintro r w1 ⟨⟨A1, c1, rfl, HO⟩, b1⟩
  have R := RF.of_own nv_len (by omega) HO
  obtain ⟨g, o, x, rfl, hx, hr⟩ := R.at_ 0 (by decide)
  obtain ⟨g', o', x', he, hx', hr'⟩ := R.at_ 1 (by decide)
  injection he with he
  injection he with h1 h2
  subst h1; subst h2
  injection hx with hx
  injection hx' with hx'
  subst hx; subst hx'
  have f0 : w1.cell? ⟨g, o, none⟩ = some (.int .i64 0) := hr 0 _ rfl
  have f1 : w1.cell? ⟨g, o + 1, none⟩ = some (.int .i64 2) := hr 1 _ rfl
  have f2 : w1.cell? ⟨g, o + 2, none⟩ = some (.int .i64 2) := hr' 0 _ rfl
  have f3 : w1.cell? ⟨g, o + 3, none⟩ = some (.int .i64 0) := hr' 1 _ rfl
  clear hr hr' R HO hN
  go_wp2_with fail
  refine (hC.out _).mono ?_
  rintro r w2 ⟨rfl, b2⟩
  go_wp2_with fail
  go_ret
  exact ⟨rfl, bl_then b1 b2⟩
end Go.Proofs.Yteokofkdfeglnaa.Abi4
