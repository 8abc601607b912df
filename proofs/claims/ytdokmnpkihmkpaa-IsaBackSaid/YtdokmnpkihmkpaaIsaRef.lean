/- Contracts of the reference of isa (Valid, Encode, Decode). -/
import Derived.Test.YtdokmnpkihmkpaaIsa3
set_option linter.unusedVariables false
namespace Go.Proofs.Ytdokmnpkihmkpaa.IsaRef
open Go.RowKit Go.Proofs.Ytdokmnpkihmkpaa.Base Go.Proofs.Ytdokmnpkihmkpaa.Row Go.Proofs.Ytdokmnpkihmkpaa.Once Go.Proofs.Ytdokmnpkihmkpaa.Isa Go.Proofs.Ytdokmnpkihmkpaa.Isa2 Go.Proofs.Ytdokmnpkihmkpaa.Math Go.Proofs.Ytdokmnpkihmkpaa.IsaMath Go.Proofs.Ytdokmnpkihmkpaa.Isa3

theorem tri (p : Bool) (x : Int) : p = true ∨ (p = false ∧ (x == 0) = true) ∨ (p = false ∧ (x == 0) = false) := by
  cases p
  · cases x == 0
    · exact .inr (.inr ⟨rfl, rfl⟩)
    · exact .inr (.inl ⟨rfl, rfl⟩)
  · exact .inl rfl

set_option maxRecDepth 100000 in
set_option maxHeartbeats 8000000 in
theorem valid_r (op a b n : Int) (w : World) :
    Calls Try.prog 47 #[.agg (ins op a b n)] w fun r w' => r = .returned (.bool (refB op a b n)) ∧ Below w.heap.size w w' := by
  have B1 := bl_alloc (bl_refl w) (.cells (ins op a b n) 77)
  have KD := Blk.new w 77 (ins op a b n)
  have hF := Lib.hid (fields_r op)
  have d0 := KD.cellv 0 (.int .i64 op) rfl
  have d1 := KD.cellv 1 (.int .i64 a) rfl
  have d2 := KD.cellv 2 (.int .i64 b) rfl
  have d3 := KD.cellv 3 (.int .i64 n) rfl
  clear KD
  cases hk : fk op with
  | false =>
    have hr : Hid (refB op a b n = false) := Lib.hid (by unfold refB; rw [hk]; rfl)
    rw [hk] at hF
    clear hk
    go_enter Try.func47, Try.ntmps47
    go_wp2_with fail
    refine (hF.out _).mono ?_
    rintro r w1 ⟨rfl, rfl⟩
    go_wp2_with fail
    go_ret
    exact ⟨ret_bool hr.out.symm, B1⟩
  | true =>
    by_cases h1 : 0 ≤ a
    case neg =>
      have hr : Hid (refB op a b n = false) := Lib.hid (by unfold refB rng; rw [decide_eq_false (p := 0 ≤ a ∧ a ≤ 15 ∧ 0 ≤ b ∧ b ≤ 15 ∧ -32768 ≤ n ∧ n ≤ 32767) (by omega)]; simp)
      have q1 : decide (a < 0) = true := by simp; omega
      rw [hk] at hF
      clear h1
      clear hk
      go_enter Try.func47, Try.ntmps47
      go_wp2_with fail
      refine (hF.out _).mono ?_
      rintro r w1 ⟨rfl, rfl⟩
      go_wp2_with fail
      go_ret
      exact ⟨ret_bool hr.out.symm, B1⟩
    have q1 : decide (a < 0) = false := by simp; omega
    by_cases h2 : a ≤ 15
    case neg =>
      have hr : Hid (refB op a b n = false) := Lib.hid (by unfold refB rng; rw [decide_eq_false (p := 0 ≤ a ∧ a ≤ 15 ∧ 0 ≤ b ∧ b ≤ 15 ∧ -32768 ≤ n ∧ n ≤ 32767) (by omega)]; simp)
      have q2 : decide (15 < a) = true := by simp; omega
      rw [hk] at hF
      clear h1 h2
      clear hk
      go_enter Try.func47, Try.ntmps47
      go_wp2_with fail
      refine (hF.out _).mono ?_
      rintro r w1 ⟨rfl, rfl⟩
      go_wp2_with fail
      go_ret
      exact ⟨ret_bool hr.out.symm, B1⟩
    have q2 : decide (15 < a) = false := by simp; omega
    by_cases h3 : 0 ≤ b
    case neg =>
      have hr : Hid (refB op a b n = false) := Lib.hid (by unfold refB rng; rw [decide_eq_false (p := 0 ≤ a ∧ a ≤ 15 ∧ 0 ≤ b ∧ b ≤ 15 ∧ -32768 ≤ n ∧ n ≤ 32767) (by omega)]; simp)
      have q3 : decide (b < 0) = true := by simp; omega
      rw [hk] at hF
      clear h1 h2 h3
      clear hk
      go_enter Try.func47, Try.ntmps47
      go_wp2_with fail
      refine (hF.out _).mono ?_
      rintro r w1 ⟨rfl, rfl⟩
      go_wp2_with fail
      go_ret
      exact ⟨ret_bool hr.out.symm, B1⟩
    have q3 : decide (b < 0) = false := by simp; omega
    by_cases h4 : b ≤ 15
    case neg =>
      have hr : Hid (refB op a b n = false) := Lib.hid (by unfold refB rng; rw [decide_eq_false (p := 0 ≤ a ∧ a ≤ 15 ∧ 0 ≤ b ∧ b ≤ 15 ∧ -32768 ≤ n ∧ n ≤ 32767) (by omega)]; simp)
      have q4 : decide (15 < b) = true := by simp; omega
      rw [hk] at hF
      clear h1 h2 h3 h4
      clear hk
      go_enter Try.func47, Try.ntmps47
      go_wp2_with fail
      refine (hF.out _).mono ?_
      rintro r w1 ⟨rfl, rfl⟩
      go_wp2_with fail
      go_ret
      exact ⟨ret_bool hr.out.symm, B1⟩
    have q4 : decide (15 < b) = false := by simp; omega
    by_cases h5 : -32768 ≤ n
    case neg =>
      have hr : Hid (refB op a b n = false) := Lib.hid (by unfold refB rng; rw [decide_eq_false (p := 0 ≤ a ∧ a ≤ 15 ∧ 0 ≤ b ∧ b ≤ 15 ∧ -32768 ≤ n ∧ n ≤ 32767) (by omega)]; simp)
      have q5 : decide (n < -32768) = true := by simp; omega
      rw [hk] at hF
      clear h1 h2 h3 h4 h5
      clear hk
      go_enter Try.func47, Try.ntmps47
      go_wp2_with fail
      refine (hF.out _).mono ?_
      rintro r w1 ⟨rfl, rfl⟩
      go_wp2_with fail
      go_ret
      exact ⟨ret_bool hr.out.symm, B1⟩
    have q5 : decide (n < -32768) = false := by simp; omega
    by_cases h6 : n ≤ 32767
    case neg =>
      have hr : Hid (refB op a b n = false) := Lib.hid (by unfold refB rng; rw [decide_eq_false (p := 0 ≤ a ∧ a ≤ 15 ∧ 0 ≤ b ∧ b ≤ 15 ∧ -32768 ≤ n ∧ n ≤ 32767) (by omega)]; simp)
      have q6 : decide (32767 < n) = true := by simp; omega
      rw [hk] at hF
      clear h1 h2 h3 h4 h5 h6
      clear hk
      go_enter Try.func47, Try.ntmps47
      go_wp2_with fail
      refine (hF.out _).mono ?_
      rintro r w1 ⟨rfl, rfl⟩
      go_wp2_with fail
      go_ret
      exact ⟨ret_bool hr.out.symm, B1⟩
    have q6 : decide (32767 < n) = false := by simp; omega
    have hR : Hid (refB op a b n = ((fa op || a == 0) && (fb op || b == 0) && (fi op || n == 0))) := Lib.hid (by unfold refB rng; rw [hk, decide_eq_true (p := 0 ≤ a ∧ a ≤ 15 ∧ 0 ≤ b ∧ b ≤ 15 ∧ -32768 ≤ n ∧ n ≤ 32767) ⟨h1, h2, h3, h4, h5, h6⟩]; rfl)
    rw [hk] at hF
    clear h1 h2 h3 h4 h5 h6
    rcases tri (fa op) a with x | ⟨x, x'⟩ | ⟨x, x'⟩
    · rcases tri (fb op) b with y | ⟨y, y'⟩ | ⟨y, y'⟩
      · rcases tri (fi op) n with z | ⟨z, z'⟩ | ⟨z, z'⟩
        · have hr : Hid (refB op a b n = true) := Lib.hid (by rw [hR.out, x, y, z]; first | done | rfl)
          rw [x, y, z] at hF
          clear hk
          go_enter Try.func47, Try.ntmps47
          go_wp2_with fail
          refine (hF.out _).mono ?_
          rintro r w1 ⟨rfl, rfl⟩
          go_wp2_with fail
          go_ret
          exact ⟨ret_bool hr.out.symm, B1⟩
        · have hr : Hid (refB op a b n = true) := Lib.hid (by rw [hR.out, x, y, z, z']; first | done | rfl)
          rw [x, y, z] at hF
          clear hk
          go_enter Try.func47, Try.ntmps47
          go_wp2_with fail
          refine (hF.out _).mono ?_
          rintro r w1 ⟨rfl, rfl⟩
          go_wp2_with fail
          go_ret
          exact ⟨ret_bool hr.out.symm, B1⟩
        · have hr : Hid (refB op a b n = false) := Lib.hid (by rw [hR.out, x, y, z, z']; first | done | rfl)
          rw [x, y, z] at hF
          clear hk
          go_enter Try.func47, Try.ntmps47
          go_wp2_with fail
          refine (hF.out _).mono ?_
          rintro r w1 ⟨rfl, rfl⟩
          go_wp2_with fail
          go_ret
          exact ⟨ret_bool hr.out.symm, B1⟩
      · rcases tri (fi op) n with z | ⟨z, z'⟩ | ⟨z, z'⟩
        · have hr : Hid (refB op a b n = true) := Lib.hid (by rw [hR.out, x, y, y', z]; first | done | rfl)
          rw [x, y, z] at hF
          clear hk
          go_enter Try.func47, Try.ntmps47
          go_wp2_with fail
          refine (hF.out _).mono ?_
          rintro r w1 ⟨rfl, rfl⟩
          go_wp2_with fail
          go_ret
          exact ⟨ret_bool hr.out.symm, B1⟩
        · have hr : Hid (refB op a b n = true) := Lib.hid (by rw [hR.out, x, y, y', z, z']; first | done | rfl)
          rw [x, y, z] at hF
          clear hk
          go_enter Try.func47, Try.ntmps47
          go_wp2_with fail
          refine (hF.out _).mono ?_
          rintro r w1 ⟨rfl, rfl⟩
          go_wp2_with fail
          go_ret
          exact ⟨ret_bool hr.out.symm, B1⟩
        · have hr : Hid (refB op a b n = false) := Lib.hid (by rw [hR.out, x, y, y', z, z']; first | done | rfl)
          rw [x, y, z] at hF
          clear hk
          go_enter Try.func47, Try.ntmps47
          go_wp2_with fail
          refine (hF.out _).mono ?_
          rintro r w1 ⟨rfl, rfl⟩
          go_wp2_with fail
          go_ret
          exact ⟨ret_bool hr.out.symm, B1⟩
      · have hr : Hid (refB op a b n = false) := Lib.hid (by rw [hR.out, x, y, y']; first | done | rfl)
        rw [x, y] at hF
        clear hk
        go_enter Try.func47, Try.ntmps47
        go_wp2_with fail
        refine (hF.out _).mono ?_
        rintro r w1 ⟨rfl, rfl⟩
        go_wp2_with fail
        go_ret
        exact ⟨ret_bool hr.out.symm, B1⟩
    · rcases tri (fb op) b with y | ⟨y, y'⟩ | ⟨y, y'⟩
      · rcases tri (fi op) n with z | ⟨z, z'⟩ | ⟨z, z'⟩
        · have hr : Hid (refB op a b n = true) := Lib.hid (by rw [hR.out, x, x', y, z]; first | done | rfl)
          rw [x, y, z] at hF
          clear hk
          go_enter Try.func47, Try.ntmps47
          go_wp2_with fail
          refine (hF.out _).mono ?_
          rintro r w1 ⟨rfl, rfl⟩
          go_wp2_with fail
          go_ret
          exact ⟨ret_bool hr.out.symm, B1⟩
        · have hr : Hid (refB op a b n = true) := Lib.hid (by rw [hR.out, x, x', y, z, z']; first | done | rfl)
          rw [x, y, z] at hF
          clear hk
          go_enter Try.func47, Try.ntmps47
          go_wp2_with fail
          refine (hF.out _).mono ?_
          rintro r w1 ⟨rfl, rfl⟩
          go_wp2_with fail
          go_ret
          exact ⟨ret_bool hr.out.symm, B1⟩
        · have hr : Hid (refB op a b n = false) := Lib.hid (by rw [hR.out, x, x', y, z, z']; first | done | rfl)
          rw [x, y, z] at hF
          clear hk
          go_enter Try.func47, Try.ntmps47
          go_wp2_with fail
          refine (hF.out _).mono ?_
          rintro r w1 ⟨rfl, rfl⟩
          go_wp2_with fail
          go_ret
          exact ⟨ret_bool hr.out.symm, B1⟩
      · rcases tri (fi op) n with z | ⟨z, z'⟩ | ⟨z, z'⟩
        · have hr : Hid (refB op a b n = true) := Lib.hid (by rw [hR.out, x, x', y, y', z]; first | done | rfl)
          rw [x, y, z] at hF
          clear hk
          go_enter Try.func47, Try.ntmps47
          go_wp2_with fail
          refine (hF.out _).mono ?_
          rintro r w1 ⟨rfl, rfl⟩
          go_wp2_with fail
          go_ret
          exact ⟨ret_bool hr.out.symm, B1⟩
        · have hr : Hid (refB op a b n = true) := Lib.hid (by rw [hR.out, x, x', y, y', z, z']; first | done | rfl)
          rw [x, y, z] at hF
          clear hk
          go_enter Try.func47, Try.ntmps47
          go_wp2_with fail
          refine (hF.out _).mono ?_
          rintro r w1 ⟨rfl, rfl⟩
          go_wp2_with fail
          go_ret
          exact ⟨ret_bool hr.out.symm, B1⟩
        · have hr : Hid (refB op a b n = false) := Lib.hid (by rw [hR.out, x, x', y, y', z, z']; first | done | rfl)
          rw [x, y, z] at hF
          clear hk
          go_enter Try.func47, Try.ntmps47
          go_wp2_with fail
          refine (hF.out _).mono ?_
          rintro r w1 ⟨rfl, rfl⟩
          go_wp2_with fail
          go_ret
          exact ⟨ret_bool hr.out.symm, B1⟩
      · have hr : Hid (refB op a b n = false) := Lib.hid (by rw [hR.out, x, x', y, y']; first | done | rfl)
        rw [x, y] at hF
        clear hk
        go_enter Try.func47, Try.ntmps47
        go_wp2_with fail
        refine (hF.out _).mono ?_
        rintro r w1 ⟨rfl, rfl⟩
        go_wp2_with fail
        go_ret
        exact ⟨ret_bool hr.out.symm, B1⟩
    · have hr : Hid (refB op a b n = false) := Lib.hid (by rw [hR.out, x, x']; first | done | rfl)
      rw [x] at hF
      clear hk
      go_enter Try.func47, Try.ntmps47
      go_wp2_with fail
      refine (hF.out _).mono ?_
      rintro r w1 ⟨rfl, rfl⟩
      go_wp2_with fail
      go_ret
      exact ⟨ret_bool hr.out.symm, B1⟩

set_option maxRecDepth 100000 in
set_option maxHeartbeats 4000000 in
theorem encode_r (op a b n : Int) (w : World) :
    Calls Try.prog 45 #[.agg (ins op a b n)] w fun r w' => r = .returned (.tuple #[.int .u32 (encR op a b n), .bool (refB op a b n)]) ∧ Below w.heap.size w w' := by
  have B1 := bl_alloc (bl_refl w) (.cells (ins op a b n) 77)
  have KD := Blk.new w 77 (ins op a b n)
  have hV := Lib.hid (valid_r op a b n)
  have d0 := KD.cellv 0 (.int .i64 op) rfl
  have d1 := KD.cellv 1 (.int .i64 a) rfl
  have d2 := KD.cellv 2 (.int .i64 b) rfl
  have d3 := KD.cellv 3 (.int .i64 n) rfl
  clear KD
  cases hv : refB op a b n with
  | false =>
    have hr : Hid (encR op a b n = 0) := Lib.hid (by simp [encR, hv])
    rw [hr.out]
    rw [hv] at hV
    clear hv
    go_enter Try.func45, Try.ntmps45
    go_wp2_with fail
    refine (hV.out _).mono ?_
    rintro r w1 ⟨rfl, b1⟩
    go_wp2_with fail
    go_ret2
    exact ⟨rfl, bl_then B1 b1⟩
  | true =>
    obtain ⟨r1, r2, r3, r4, r5, r6, r7, r8⟩ := ref_ranges hv
    have hr : Hid (encR op a b n = encN op a b n) := Lib.hid (by simp [encR, hv])
    rw [hr.out]
    rw [hv] at hV
    have w1 : wrap64 (op * 16) = op * 16 := by unfold wrap64; omega
    have w2 : wrap64 (op * 16 + a) = op * 16 + a := by unfold wrap64; omega
    have w3 : wrap64 ((op * 16 + a) * 16) = (op * 16 + a) * 16 := by unfold wrap64; omega
    have w4 : wrap64 ((op * 16 + a) * 16 + b) = (op * 16 + a) * 16 + b := by unfold wrap64; omega
    have w5 : wrap64 (((op * 16 + a) * 16 + b) * 65536) = ((op * 16 + a) * 16 + b) * 65536 := by unfold wrap64; omega
    clear hv
    by_cases h0 : n < 0
    · have q0 : decide (n < 0) = true := by simpa using h0
      have w6 : wrap64 (n + 65536) = n + 65536 := by unfold wrap64; omega
      have w7 : wrap64 (((op * 16 + a) * 16 + b) * 65536 + (n + 65536)) = ((op * 16 + a) * 16 + b) * 65536 + (n + 65536) := by unfold wrap64; omega
      have w8 := Lib.hid (show (((op * 16 + a) * 16 + b) * 65536 + (n + 65536)) % 4294967296 = encN op a b n by unfold encN; omega)
      clear h0 r1 r2 r3 r4 r5 r6 r7 r8
      go_enter Try.func45, Try.ntmps45
      go_wp2_with fail
      refine (hV.out _).mono ?_
      rintro r v1 ⟨rfl, b1⟩
      have e0 := bl_cell b1 d0
      have e1 := bl_cell b1 d1
      have e2 := bl_cell b1 d2
      have e3 := bl_cell b1 d3
      clear d0 d1 d2 d3
      go_wp2_with fail
      go_ret2
      exact ⟨congrArg (fun z => Ending.returned (.tuple #[.int .u32 z, .bool true])) w8.out, bl_then B1 b1⟩
    · have q0 : decide (n < 0) = false := by simpa using h0
      have w7 : wrap64 (((op * 16 + a) * 16 + b) * 65536 + n) = ((op * 16 + a) * 16 + b) * 65536 + n := by unfold wrap64; omega
      have w8 := Lib.hid (show (((op * 16 + a) * 16 + b) * 65536 + n) % 4294967296 = encN op a b n by unfold encN; omega)
      clear h0 r1 r2 r3 r4 r5 r6 r7 r8
      go_enter Try.func45, Try.ntmps45
      go_wp2_with fail
      refine (hV.out _).mono ?_
      rintro r v1 ⟨rfl, b1⟩
      have e0 := bl_cell b1 d0
      have e1 := bl_cell b1 d1
      have e2 := bl_cell b1 d2
      have e3 := bl_cell b1 d3
      clear d0 d1 d2 d3
      go_wp2_with fail
      go_ret2
      exact ⟨congrArg (fun z => Ending.returned (.tuple #[.int .u32 z, .bool true])) w8.out, bl_then B1 b1⟩

set_option maxRecDepth 100000 in
theorem instr_c (op a b n : Int) (w : World) :
    Calls Try.prog 44 #[.agg (ins op a b n)] w fun r w' => r = .returned (.agg (ins op a b n)) ∧ Below w.heap.size w w' := by
  go_enter Try.func44, Try.ntmps44
  go_wp2_with (first
    | ((with_reducible refine wl_box rfl 77 _ rfl (ins op a b n) rfl ?_); intro w1 k1 b1 s1)
    | ((with_reducible refine wl_alloc rfl 94 rfl (ins 0 0 0 0) new_i ?_); intro w2 k2 b2 s2; have d0 := (k1.below b2).cellv 0 (.int .i64 op) rfl; have d1 := (k1.below b2).cellv 1 (.int .i64 a) rfl; have d2 := (k1.below b2).cellv 2 (.int .i64 b) rfl; have d3 := (k1.below b2).cellv 3 (.int .i64 n) rfl)
    | ((refine wl_store (by rfl) 94 _ _ (by rfl) w1.heap.size (by rfl) (ins op a b n) (by rfl) 94 (ins 0 0 0 0) k2 (size_i _ rfl) rfl (one_i _ _ _ _) ?_); intro w3 k3 g3 s3))
  refine bodyPost_ret (res_cell rfl _ _ _ w1.heap.size 94 (ins op a b n) _ rfl k3 Try.underlying94 rfl (size_i _ rfl)) rfl ⟨rfl, ?_⟩
  exact below_grown (bl_then b1 b2) (by have := b1.size; have := b2.size; omega) g3 b1.size
end Go.Proofs.Ytdokmnpkihmkpaa.IsaRef
