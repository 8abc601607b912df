/- Contracts of package cpu in every way: what reckons, what jumps. -/
import Derived.Test.YtdokmnpkihmkpaaCpuC
import Derived.Test.YtdokmnpkihmkpaaIsaMath
set_option linter.unusedVariables false
namespace Go.Proofs.Ytdokmnpkihmkpaa.CpuD
open Go.RowKit Go.Proofs.Ytdokmnpkihmkpaa.Base Go.Proofs.Ytdokmnpkihmkpaa.Row Go.Proofs.Ytdokmnpkihmkpaa.App Go.Proofs.Ytdokmnpkihmkpaa.Multi Go.Proofs.Ytdokmnpkihmkpaa.StEq Go.Proofs.Ytdokmnpkihmkpaa.Held Go.Proofs.Ytdokmnpkihmkpaa.Out Go.Proofs.Ytdokmnpkihmkpaa.HeldW Go.Proofs.Ytdokmnpkihmkpaa.HeldX Go.Proofs.Ytdokmnpkihmkpaa.Once Go.Proofs.Ytdokmnpkihmkpaa.Isa Go.Proofs.Ytdokmnpkihmkpaa.Isa2 Go.Proofs.Ytdokmnpkihmkpaa.Isa3 Go.Proofs.Ytdokmnpkihmkpaa.TlbMath Go.Proofs.Ytdokmnpkihmkpaa.Tlb Go.Proofs.Ytdokmnpkihmkpaa.Tlb3 Go.Proofs.Ytdokmnpkihmkpaa.Frames Go.Proofs.Ytdokmnpkihmkpaa.Frames2 Go.Proofs.Ytdokmnpkihmkpaa.Frames4 Go.Proofs.Ytdokmnpkihmkpaa.Cpu Go.Proofs.Ytdokmnpkihmkpaa.Cpu2 Go.Proofs.Ytdokmnpkihmkpaa.Cpu3 Go.Proofs.Ytdokmnpkihmkpaa.Cpu4 Go.Proofs.Ytdokmnpkihmkpaa.Cpu5 Go.Proofs.Ytdokmnpkihmkpaa.CpuA Go.Proofs.Ytdokmnpkihmkpaa.CpuB Go.Proofs.Ytdokmnpkihmkpaa.CpuC

def IsU (r : Ending) : Prop := ∃ v, r = .returned (.int .u32 v)
def IsB (r : Ending) : Prop := ∃ b, r = .returned (.bool b)
def Rk (g x : Nat) (d : Dn) (w w' : World) : Prop := ∃ d2, Blk w' g 140 (dg x d2) ∧ d2.R = d.R ∧ d2.pc = d.pc ∧ d2.sp = d.sp ∧ Out w w' (fun i => i = g)
theorem less_any (x y : Int) (w : World) :
    Calls Try.prog 86 #[.int .u32 x, .int .u32 y] w fun e w' => IsB e ∧ w = w' := by
  go_enter Try.func86, Try.ntmps86
  go_wp2
  go_ret
  exact ⟨⟨_, rfl⟩, rfl⟩
set_option maxRecDepth 100000 in
set_option maxHeartbeats 2000000 in
theorem rk_3 (g x : Nat) (d : Dn) (a b : Int) (w : World) (HD : Blk w g 140 (dg x d)) (hR : d.R.length = 16) (a0 : 0 ≤ a) (a1 : a < 4294967296) (b0 : 0 ≤ b) (b1 : b < 4294967296) :
    Calls Try.prog 78 #[.pointer (some ⟨g, 0, none⟩), .int .i64 3, .int .u32 a, .int .u32 b] w fun r w' => IsU r ∧ Rk g x d w w' := by
  have HDh := Lib.hid HD
  clear HD
  go_enter Try.func78, Try.ntmps78
  go_wp2_with fail
  go_ret
  exact ⟨⟨_, rfl⟩, d, HDh.out, rfl, rfl, rfl, Out.refl _ _⟩
set_option maxRecDepth 100000 in
set_option maxHeartbeats 2000000 in
theorem rk_4 (g x : Nat) (d : Dn) (a b : Int) (w : World) (HD : Blk w g 140 (dg x d)) (hR : d.R.length = 16) (a0 : 0 ≤ a) (a1 : a < 4294967296) (b0 : 0 ≤ b) (b1 : b < 4294967296) :
    Calls Try.prog 78 #[.pointer (some ⟨g, 0, none⟩), .int .i64 4, .int .u32 a, .int .u32 b] w fun r w' => IsU r ∧ Rk g x d w w' := by
  have HDh := Lib.hid HD
  clear HD
  go_enter Try.func78, Try.ntmps78
  go_wp2_with fail
  go_ret
  exact ⟨⟨_, rfl⟩, d, HDh.out, rfl, rfl, rfl, Out.refl _ _⟩
set_option maxRecDepth 100000 in
set_option maxHeartbeats 2000000 in
theorem rk_5 (g x : Nat) (d : Dn) (a b : Int) (w : World) (HD : Blk w g 140 (dg x d)) (hR : d.R.length = 16) (a0 : 0 ≤ a) (a1 : a < 4294967296) (b0 : 0 ≤ b) (b1 : b < 4294967296) :
    Calls Try.prog 78 #[.pointer (some ⟨g, 0, none⟩), .int .i64 5, .int .u32 a, .int .u32 b] w fun r w' => IsU r ∧ Rk g x d w w' := by
  have HDh := Lib.hid HD
  clear HD
  go_enter Try.func78, Try.ntmps78
  go_wp2_with fail
  go_ret
  exact ⟨⟨_, rfl⟩, d, HDh.out, rfl, rfl, rfl, Out.refl _ _⟩
set_option maxRecDepth 100000 in
set_option maxHeartbeats 2000000 in
theorem rk_6 (g x : Nat) (d : Dn) (a b : Int) (w : World) (HD : Blk w g 140 (dg x d)) (hR : d.R.length = 16) (a0 : 0 ≤ a) (a1 : a < 4294967296) (b0 : 0 ≤ b) (b1 : b < 4294967296) :
    Calls Try.prog 78 #[.pointer (some ⟨g, 0, none⟩), .int .i64 6, .int .u32 a, .int .u32 b] w fun r w' => IsU r ∧ Rk g x d w w' := by
  have HDh := Lib.hid HD
  clear HD
  go_enter Try.func78, Try.ntmps78
  go_wp2_with fail
  go_ret
  exact ⟨⟨_, rfl⟩, d, HDh.out, rfl, rfl, rfl, Out.refl _ _⟩
set_option maxRecDepth 100000 in
set_option maxHeartbeats 2000000 in
theorem rk_8 (g x : Nat) (d : Dn) (a b : Int) (w : World) (HD : Blk w g 140 (dg x d)) (hR : d.R.length = 16) (a0 : 0 ≤ a) (a1 : a < 4294967296) (b0 : 0 ≤ b) (b1 : b < 4294967296) :
    Calls Try.prog 78 #[.pointer (some ⟨g, 0, none⟩), .int .i64 8, .int .u32 a, .int .u32 b] w fun r w' => IsU r ∧ Rk g x d w w' := by
  have HDh := Lib.hid HD
  clear HD
  go_enter Try.func78, Try.ntmps78
  go_wp2_with fail
  go_ret
  exact ⟨⟨_, rfl⟩, d, HDh.out, rfl, rfl, rfl, Out.refl _ _⟩
set_option maxRecDepth 100000 in
set_option maxHeartbeats 2000000 in
theorem rk_9 (g x : Nat) (d : Dn) (a b : Int) (w : World) (HD : Blk w g 140 (dg x d)) (hR : d.R.length = 16) (a0 : 0 ≤ a) (a1 : a < 4294967296) (b0 : 0 ≤ b) (b1 : b < 4294967296) :
    Calls Try.prog 78 #[.pointer (some ⟨g, 0, none⟩), .int .i64 9, .int .u32 a, .int .u32 b] w fun r w' => IsU r ∧ Rk g x d w w' := by
  have HDh := Lib.hid HD
  clear HD
  go_enter Try.func78, Try.ntmps78
  go_wp2_with fail
  go_ret
  exact ⟨⟨_, rfl⟩, d, HDh.out, rfl, rfl, rfl, Out.refl _ _⟩
set_option maxRecDepth 100000 in
set_option maxHeartbeats 2000000 in
theorem rk_10 (g x : Nat) (d : Dn) (a b : Int) (w : World) (HD : Blk w g 140 (dg x d)) (hR : d.R.length = 16) (a0 : 0 ≤ a) (a1 : a < 4294967296) (b0 : 0 ≤ b) (b1 : b < 4294967296) :
    Calls Try.prog 78 #[.pointer (some ⟨g, 0, none⟩), .int .i64 10, .int .u32 a, .int .u32 b] w fun r w' => IsU r ∧ Rk g x d w w' := by
  have HDh := Lib.hid HD
  clear HD
  go_enter Try.func78, Try.ntmps78
  go_wp2_with fail
  go_ret
  exact ⟨⟨_, rfl⟩, d, HDh.out, rfl, rfl, rfl, Out.refl _ _⟩
set_option maxRecDepth 100000 in
set_option maxHeartbeats 2000000 in
theorem rk_11 (g x : Nat) (d : Dn) (a b : Int) (w : World) (HD : Blk w g 140 (dg x d)) (hR : d.R.length = 16) (a0 : 0 ≤ a) (a1 : a < 4294967296) (b0 : 0 ≤ b) (b1 : b < 4294967296) :
    Calls Try.prog 78 #[.pointer (some ⟨g, 0, none⟩), .int .i64 11, .int .u32 a, .int .u32 b] w fun r w' => IsU r ∧ Rk g x d w w' := by
  have HDh := Lib.hid HD
  clear HD
  have hand : bits .and .u32 b 31 = b % 32 := IsaMath.and_mask32 b 5 31 (by omega) (by rfl) b0 b1
  obtain ⟨n, hn, hlt⟩ : ∃ n : Nat, bits .and .u32 b 31 = (n : Int) ∧ n < 32 := ⟨(b % 32).toNat, by rw [hand]; omega, by omega⟩
  clear hand
  go_enter Try.func78, Try.ntmps78
  go_wp2_with fail
  go_ret
  exact ⟨⟨_, rfl⟩, d, HDh.out, rfl, rfl, rfl, Out.refl _ _⟩
set_option maxRecDepth 100000 in
set_option maxHeartbeats 2000000 in
theorem rk_12 (g x : Nat) (d : Dn) (a b : Int) (w : World) (HD : Blk w g 140 (dg x d)) (hR : d.R.length = 16) (a0 : 0 ≤ a) (a1 : a < 4294967296) (b0 : 0 ≤ b) (b1 : b < 4294967296) :
    Calls Try.prog 78 #[.pointer (some ⟨g, 0, none⟩), .int .i64 12, .int .u32 a, .int .u32 b] w fun r w' => IsU r ∧ Rk g x d w w' := by
  have HDh := Lib.hid HD
  clear HD
  have hand : bits .and .u32 b 31 = b % 32 := IsaMath.and_mask32 b 5 31 (by omega) (by rfl) b0 b1
  obtain ⟨n, hn, hlt⟩ : ∃ n : Nat, bits .and .u32 b 31 = (n : Int) ∧ n < 32 := ⟨(b % 32).toNat, by rw [hand]; omega, by omega⟩
  clear hand
  go_enter Try.func78, Try.ntmps78
  go_wp2_with fail
  go_ret
  exact ⟨⟨_, rfl⟩, d, HDh.out, rfl, rfl, rfl, Out.refl _ _⟩
set_option maxRecDepth 100000 in
set_option maxHeartbeats 2000000 in
theorem rk_13 (g x : Nat) (d : Dn) (a b : Int) (w : World) (HD : Blk w g 140 (dg x d)) (hR : d.R.length = 16) (a0 : 0 ≤ a) (a1 : a < 4294967296) (b0 : 0 ≤ b) (b1 : b < 4294967296) :
    Calls Try.prog 78 #[.pointer (some ⟨g, 0, none⟩), .int .i64 13, .int .u32 a, .int .u32 b] w fun r w' => IsU r ∧ Rk g x d w w' := by
  have HDh := Lib.hid HD
  clear HD
  go_enter Try.func78, Try.ntmps78
  go_wp2_with fail
  go_ret
  exact ⟨⟨_, rfl⟩, d, HDh.out, rfl, rfl, rfl, Out.refl _ _⟩
set_option maxRecDepth 100000 in
set_option maxHeartbeats 2000000 in
theorem rk_7 (g x : Nat) (d : Dn) (a b : Int) (w : World) (HD : Blk w g 140 (dg x d)) (hR : d.R.length = 16) (a0 : 0 ≤ a) (a1 : a < 4294967296) (b0 : 0 ≤ b) (b1 : b < 4294967296) (hb : ¬ b = 0) :
    Calls Try.prog 78 #[.pointer (some ⟨g, 0, none⟩), .int .i64 7, .int .u32 a, .int .u32 b] w fun r w' => IsU r ∧ Rk g x d w w' := by
  have HDh := Lib.hid HD
  clear HD
  have hq : (b == 0) = false := by simpa using hb
  go_enter Try.func78, Try.ntmps78
  go_wp2_with fail
  go_ret
  exact ⟨⟨_, rfl⟩, d, HDh.out, rfl, rfl, rfl, Out.refl _ _⟩
set_option maxRecDepth 100000 in
set_option maxHeartbeats 2000000 in
theorem rk_0 (g x : Nat) (d : Dn) (a : Int) (w : World) (HD : Blk w g 140 (dg x d)) (hR : d.R.length = 16) (a0 : 0 ≤ a) (a1 : a < 4294967296) :
    Calls Try.prog 78 #[.pointer (some ⟨g, 0, none⟩), .int .i64 7, .int .u32 a, .int .u32 0] w fun r w' => IsU r ∧ Rk g x d w w' := by
  have ht := Lib.hid (dg_trap x d hR 4 0 false 0)
  have hsz := dg_size x d hR
  obtain ⟨D2, hD⟩ : ∃ D2, D2 = dg x (dt d 4 0 false 0) := ⟨_, rfl⟩
  have hD2 : Hid (∀ w', Blk w' g 140 D2 → Blk w' g 140 (dg x (dt d 4 0 false 0))) := Lib.hid (fun w' h => by rw [← hD]; exact h)
  rw [← hD] at ht
  clear hD
  generalize dg x d = D at *
  go_enter Try.func78, Try.ntmps78
  go_wp2_with (first
    | (refine at_slot 34 rfl ?_; refine wl_build1 rfl 117 0 _ rfl (.int .i64 4) rfl (trc 4) (built_trc 4) ?_)
    | ((refine wl_store_mid rfl 117 (.tmp 36) (.tmp 34) rfl g 19 rfl (trc 4) rfl 140 D HD (size_trc 4) (by rw [hsz]; show 19 + 4 ≤ 23; omega) (trc_one 4) ?_); intro w1 k1 g1 s1))
  rw [show (trc 4).toList = [.int .i64 4, .int .i64 0, .bool false, .int .i64 0] from rfl, ht.out] at k1
  go_ret
  exact ⟨⟨_, rfl⟩, dt d 4 0 false 0, hD2.out _ k1, rfl, rfl, rfl, Out.of_grown g1 (S := fun i => i = g) (fun k e => by injection e with e; exact e.symm)⟩
theorem reckon_c (g x : Nat) (d : Dn) (op a b : Int) (w : World) (HD : Blk w g 140 (dg x d)) (hR : d.R.length = 16) (a0 : 0 ≤ a) (a1 : a < 4294967296) (b0 : 0 ≤ b) (b1 : b < 4294967296) (o0 : 3 ≤ op) (o1 : op ≤ 13) :
    Calls Try.prog 78 #[.pointer (some ⟨g, 0, none⟩), .int .i64 op, .int .u32 a, .int .u32 b] w fun r w' => IsU r ∧ Rk g x d w w' := by
  have h : op = 3 ∨ op = 4 ∨ op = 5 ∨ op = 6 ∨ op = 7 ∨ op = 8 ∨ op = 9 ∨ op = 10 ∨ op = 11 ∨ op = 12 ∨ op = 13 := by omega
  rcases h with rfl | rfl | rfl | rfl | rfl | rfl | rfl | rfl | rfl | rfl | rfl
  · exact rk_3 g x d a b w HD hR a0 a1 b0 b1
  · exact rk_4 g x d a b w HD hR a0 a1 b0 b1
  · exact rk_5 g x d a b w HD hR a0 a1 b0 b1
  · exact rk_6 g x d a b w HD hR a0 a1 b0 b1
  · rcases Decidable.em (b = 0) with rfl | hb
    · exact rk_0 g x d a w HD hR a0 a1
    · exact rk_7 g x d a b w HD hR a0 a1 b0 b1 hb
  · exact rk_8 g x d a b w HD hR a0 a1 b0 b1
  · exact rk_9 g x d a b w HD hR a0 a1 b0 b1
  · exact rk_10 g x d a b w HD hR a0 a1 b0 b1
  · exact rk_11 g x d a b w HD hR a0 a1 b0 b1
  · exact rk_12 g x d a b w HD hR a0 a1 b0 b1
  · exact rk_13 g x d a b w HD hR a0 a1 b0 b1
set_option maxRecDepth 100000 in
set_option maxHeartbeats 4000000 in
theorem jp_18 (g x ra rb : Nat) (d : Dn) (im : Int) (w : World) (HD : Blk w g 140 (dg x d)) (hR : d.R.length = 16) (hr : ∀ i : Nat, 0 ≤ d.R[i]?.getD 0 ∧ d.R[i]?.getD 0 < 4294967296) (ha : ra < 16) (hb : rb < 16) :
    Calls Try.prog 80 #[.pointer (some ⟨g, 0, none⟩), .agg (ins 18 ra rb im)] w fun r w' => IsB r ∧ Below w.heap.size w w' := by
  obtain ⟨rv, hrv⟩ : ∃ rv, d.R[rb]?.getD 0 = rv := ⟨_, rfl⟩
  obtain ⟨rav, hrav⟩ : ∃ rav, d.R[ra]?.getD 0 = rav := ⟨_, rfl⟩
  obtain ⟨v0, v1⟩ : 0 ≤ rv ∧ rv < 4294967296 := by rw [← hrv]; exact hr _
  obtain ⟨u0, u1⟩ : 0 ≤ rav ∧ rav < 4294967296 := by rw [← hrav]; exact hr _
  have hrb := dg_reg x d hR rb hb
  rw [hrv] at hrb
  replace hrb := Lib.hid hrb
  have hra := dg_reg x d hR ra ha
  rw [hrav] at hra
  replace hra := Lib.hid hra
  have hb' : (rb : Int) < 16 := by omega
  have ha' : (ra : Int) < 16 := by omega
  clear hr hrv hrav
  generalize dg x d = D at *
  go_enter Try.func80, Try.ntmps80
  go_upto_region 1 with ((with_reducible refine wl_box rfl 94 _ rfl (ins 18 ra rb im) rfl ?_); intro w1 k1 bb s1)
  have HD := HD.below bb
  refine wp_region_held_drew (S := (fun w' => Blk w' w.heap.size 94 (ins 18 ra rb im) ∧ Blk w' g 140 D)) (by kernel_rfl) (⟨k1.drew, HD.drew⟩) (fun hHeld => ?_)
  refine wpAnyH_take (i := 0) (oi := { dst := some 6, op := Op.move (Operand.tmp 0), type := 138, pos := "cpu.go:123", after := #[], guard := none }) (v := ?_) rfl (by kernel_rfl) (by kernel_rfl) (by kernel_rfl) (fun _ _ _ h => h) ?_ hHeld ?_
  rotate_left
  · refine Or.inl ⟨by rfl, fun w hSw => ?_⟩; skip; go_simp; (try with_reducible rfl)
  try simp only [Act.put, List.setIfInBounds_toArray, List.set_cons_zero, List.set_cons_succ]
  refine wpAnyH_take (i := 1) (oi := { dst := some 7, op := Op.fieldAddr 94 (Operand.tmp 3) 1, type := 0, pos := "cpu.go:123", after := #[], guard := none }) (v := ?_) rfl (by kernel_rfl) (by kernel_rfl) (by kernel_rfl) (fun _ _ _ h => h) ?_ hHeld ?_
  rotate_left
  · refine Or.inl ⟨by rfl, fun w hSw => ?_⟩; skip; go_simp; (try with_reducible rfl)
  try simp only [Act.put, List.setIfInBounds_toArray, List.set_cons_zero, List.set_cons_succ]
  refine wpAnyH_take (i := 2) (oi := { dst := some 8, op := Op.load 3 (Operand.tmp 7), type := 3, pos := "cpu.go:123", after := #[{ on := 1, ground := Ground.data }], guard := none }) (v := ?_) rfl (by kernel_rfl) (by kernel_rfl) (by kernel_rfl) (fun _ _ _ h => h) ?_ hHeld ?_
  rotate_left
  · refine Or.inl ⟨by rfl, fun w' hSw => ?_⟩; have c0 : w'.cell? ⟨w.heap.size, 1, none⟩ = some (.int .i64 ra) := hSw.1.cellv 1 _ rfl; go_simp; (try with_reducible rfl)
  try simp only [Act.put, List.setIfInBounds_toArray, List.set_cons_zero, List.set_cons_succ]
  refine wpAnyH_take (i := 3) (oi := { dst := some 9, op := Op.nilCheck (Operand.tmp 6), type := 0, pos := "cpu.go:123", after := #[{ on := 0, ground := Ground.data }], guard := none }) (v := ?_) rfl (by kernel_rfl) (by kernel_rfl) (by kernel_rfl) (fun _ _ _ h => h) ?_ hHeld ?_
  rotate_left
  · refine Or.inl ⟨by rfl, fun w hSw => ?_⟩; skip; go_simp; (try with_reducible rfl)
  try simp only [Act.put, List.setIfInBounds_toArray, List.set_cons_zero, List.set_cons_succ]
  refine wpAnyH_take (i := 4) (oi := { dst := some 10, op := Op.fieldAddr 140 (Operand.tmp 9) 2, type := 0, pos := "cpu.go:123", after := #[{ on := 3, ground := Ground.data }], guard := none }) (v := ?_) rfl (by kernel_rfl) (by kernel_rfl) (by kernel_rfl) (fun _ _ _ h => h) ?_ hHeld ?_
  rotate_left
  · refine Or.inl ⟨by rfl, fun w hSw => ?_⟩; skip; go_simp; (try with_reducible rfl)
  try simp only [Act.put, List.setIfInBounds_toArray, List.set_cons_zero, List.set_cons_succ]
  refine wpAnyH_take (i := 5) (oi := { dst := some 11, op := Op.fieldAddr 109 (Operand.tmp 10) 0, type := 0, pos := "cpu.go:123", after := #[{ on := 4, ground := Ground.data }], guard := none }) (v := ?_) rfl (by kernel_rfl) (by kernel_rfl) (by kernel_rfl) (fun _ _ _ h => h) ?_ hHeld ?_
  rotate_left
  · refine Or.inl ⟨by rfl, fun w hSw => ?_⟩; skip; go_simp; (try with_reducible rfl)
  try simp only [Act.put, List.setIfInBounds_toArray, List.set_cons_zero, List.set_cons_succ]
  refine wpAnyH_take (i := 6) (oi := { dst := some 12, op := Op.indexAddr 39 (Operand.tmp 11) (Operand.tmp 8), type := 0, pos := "cpu.go:123", after := #[{ on := 5, ground := Ground.data }, { on := 2, ground := Ground.data }], guard := none }) (v := ?_) rfl (by kernel_rfl) (by kernel_rfl) (by kernel_rfl) (fun _ _ _ h => h) ?_ hHeld ?_
  rotate_left
  · refine Or.inl ⟨by rfl, fun w hSw => ?_⟩; skip; go_simp; (try with_reducible rfl)
  try simp only [Act.put, List.setIfInBounds_toArray, List.set_cons_zero, List.set_cons_succ]
  refine wpAnyH_take (i := 7) (oi := { dst := some 13, op := Op.load 28 (Operand.tmp 12), type := 28, pos := "cpu.go:123", after := #[{ on := 6, ground := Ground.data }], guard := none }) (v := ?_) rfl (by kernel_rfl) (by kernel_rfl) (by kernel_rfl) (fun _ _ _ h => h) ?_ hHeld ?_
  rotate_left
  · refine Or.inl ⟨by rfl, fun w' hSw => ?_⟩; have c0 : w'.cell? ⟨g, 2 + ra, none⟩ = some (.int .u32 rav) := hSw.2.cellv _ _ hra.out; go_simp; (try with_reducible rfl)
  try simp only [Act.put, List.setIfInBounds_toArray, List.set_cons_zero, List.set_cons_succ]
  refine wpAnyH_take (i := 8) (oi := { dst := some 5, op := Op.assign (Operand.tmp 13), type := 28, pos := "cpu.go:123", after := #[{ on := 7, ground := Ground.data }, { on := 0, ground := Ground.phase }, { on := 1, ground := Ground.phase }, { on := 2, ground := Ground.phase }, { on := 3, ground := Ground.phase }, { on := 4, ground := Ground.phase }, { on := 5, ground := Ground.phase }, { on := 6, ground := Ground.phase }, { on := 7, ground := Ground.phase }], guard := none }) (v := ?_) rfl (by kernel_rfl) (by kernel_rfl) (by kernel_rfl) (fun _ _ _ h => h) ?_ hHeld ?_
  rotate_left
  · refine Or.inl ⟨by rfl, fun w hSw => ?_⟩; skip; go_simp; (try with_reducible rfl)
  try simp only [Act.put, List.setIfInBounds_toArray, List.set_cons_zero, List.set_cons_succ]
  refine wpAnyH_done (by kernel_rfl) ?_ _
  have k1 := hHeld.1
  have HD := hHeld.2
  have BB := bl_then bb (bl_drew (bl_refl w1))
  clear hHeld bb
  generalize w1.drew = w2 at *
  have i0 : w2.cell? ⟨w.heap.size, 0, none⟩ = some (.int .i64 18) := k1.cellv 0 _ rfl
  go_wp2_with fail
  go_ret
  exact ⟨⟨_, rfl⟩, BB⟩
set_option maxRecDepth 100000 in
set_option maxHeartbeats 4000000 in
theorem jp_19 (g x ra rb : Nat) (d : Dn) (im : Int) (w : World) (HD : Blk w g 140 (dg x d)) (hR : d.R.length = 16) (hr : ∀ i : Nat, 0 ≤ d.R[i]?.getD 0 ∧ d.R[i]?.getD 0 < 4294967296) (ha : ra < 16) (hb : rb < 16) :
    Calls Try.prog 80 #[.pointer (some ⟨g, 0, none⟩), .agg (ins 19 ra rb im)] w fun r w' => IsB r ∧ Below w.heap.size w w' := by
  obtain ⟨rv, hrv⟩ : ∃ rv, d.R[rb]?.getD 0 = rv := ⟨_, rfl⟩
  obtain ⟨rav, hrav⟩ : ∃ rav, d.R[ra]?.getD 0 = rav := ⟨_, rfl⟩
  obtain ⟨v0, v1⟩ : 0 ≤ rv ∧ rv < 4294967296 := by rw [← hrv]; exact hr _
  obtain ⟨u0, u1⟩ : 0 ≤ rav ∧ rav < 4294967296 := by rw [← hrav]; exact hr _
  have hrb := dg_reg x d hR rb hb
  rw [hrv] at hrb
  replace hrb := Lib.hid hrb
  have hra := dg_reg x d hR ra ha
  rw [hrav] at hra
  replace hra := Lib.hid hra
  have hb' : (rb : Int) < 16 := by omega
  have ha' : (ra : Int) < 16 := by omega
  clear hr hrv hrav
  generalize dg x d = D at *
  go_enter Try.func80, Try.ntmps80
  go_upto_region 1 with ((with_reducible refine wl_box rfl 94 _ rfl (ins 19 ra rb im) rfl ?_); intro w1 k1 bb s1)
  have HD := HD.below bb
  refine wp_region_held_drew (S := (fun w' => Blk w' w.heap.size 94 (ins 19 ra rb im) ∧ Blk w' g 140 D)) (by kernel_rfl) (⟨k1.drew, HD.drew⟩) (fun hHeld => ?_)
  refine wpAnyH_take (i := 0) (oi := { dst := some 6, op := Op.move (Operand.tmp 0), type := 138, pos := "cpu.go:123", after := #[], guard := none }) (v := ?_) rfl (by kernel_rfl) (by kernel_rfl) (by kernel_rfl) (fun _ _ _ h => h) ?_ hHeld ?_
  rotate_left
  · refine Or.inl ⟨by rfl, fun w hSw => ?_⟩; skip; go_simp; (try with_reducible rfl)
  try simp only [Act.put, List.setIfInBounds_toArray, List.set_cons_zero, List.set_cons_succ]
  refine wpAnyH_take (i := 1) (oi := { dst := some 7, op := Op.fieldAddr 94 (Operand.tmp 3) 1, type := 0, pos := "cpu.go:123", after := #[], guard := none }) (v := ?_) rfl (by kernel_rfl) (by kernel_rfl) (by kernel_rfl) (fun _ _ _ h => h) ?_ hHeld ?_
  rotate_left
  · refine Or.inl ⟨by rfl, fun w hSw => ?_⟩; skip; go_simp; (try with_reducible rfl)
  try simp only [Act.put, List.setIfInBounds_toArray, List.set_cons_zero, List.set_cons_succ]
  refine wpAnyH_take (i := 2) (oi := { dst := some 8, op := Op.load 3 (Operand.tmp 7), type := 3, pos := "cpu.go:123", after := #[{ on := 1, ground := Ground.data }], guard := none }) (v := ?_) rfl (by kernel_rfl) (by kernel_rfl) (by kernel_rfl) (fun _ _ _ h => h) ?_ hHeld ?_
  rotate_left
  · refine Or.inl ⟨by rfl, fun w' hSw => ?_⟩; have c0 : w'.cell? ⟨w.heap.size, 1, none⟩ = some (.int .i64 ra) := hSw.1.cellv 1 _ rfl; go_simp; (try with_reducible rfl)
  try simp only [Act.put, List.setIfInBounds_toArray, List.set_cons_zero, List.set_cons_succ]
  refine wpAnyH_take (i := 3) (oi := { dst := some 9, op := Op.nilCheck (Operand.tmp 6), type := 0, pos := "cpu.go:123", after := #[{ on := 0, ground := Ground.data }], guard := none }) (v := ?_) rfl (by kernel_rfl) (by kernel_rfl) (by kernel_rfl) (fun _ _ _ h => h) ?_ hHeld ?_
  rotate_left
  · refine Or.inl ⟨by rfl, fun w hSw => ?_⟩; skip; go_simp; (try with_reducible rfl)
  try simp only [Act.put, List.setIfInBounds_toArray, List.set_cons_zero, List.set_cons_succ]
  refine wpAnyH_take (i := 4) (oi := { dst := some 10, op := Op.fieldAddr 140 (Operand.tmp 9) 2, type := 0, pos := "cpu.go:123", after := #[{ on := 3, ground := Ground.data }], guard := none }) (v := ?_) rfl (by kernel_rfl) (by kernel_rfl) (by kernel_rfl) (fun _ _ _ h => h) ?_ hHeld ?_
  rotate_left
  · refine Or.inl ⟨by rfl, fun w hSw => ?_⟩; skip; go_simp; (try with_reducible rfl)
  try simp only [Act.put, List.setIfInBounds_toArray, List.set_cons_zero, List.set_cons_succ]
  refine wpAnyH_take (i := 5) (oi := { dst := some 11, op := Op.fieldAddr 109 (Operand.tmp 10) 0, type := 0, pos := "cpu.go:123", after := #[{ on := 4, ground := Ground.data }], guard := none }) (v := ?_) rfl (by kernel_rfl) (by kernel_rfl) (by kernel_rfl) (fun _ _ _ h => h) ?_ hHeld ?_
  rotate_left
  · refine Or.inl ⟨by rfl, fun w hSw => ?_⟩; skip; go_simp; (try with_reducible rfl)
  try simp only [Act.put, List.setIfInBounds_toArray, List.set_cons_zero, List.set_cons_succ]
  refine wpAnyH_take (i := 6) (oi := { dst := some 12, op := Op.indexAddr 39 (Operand.tmp 11) (Operand.tmp 8), type := 0, pos := "cpu.go:123", after := #[{ on := 5, ground := Ground.data }, { on := 2, ground := Ground.data }], guard := none }) (v := ?_) rfl (by kernel_rfl) (by kernel_rfl) (by kernel_rfl) (fun _ _ _ h => h) ?_ hHeld ?_
  rotate_left
  · refine Or.inl ⟨by rfl, fun w hSw => ?_⟩; skip; go_simp; (try with_reducible rfl)
  try simp only [Act.put, List.setIfInBounds_toArray, List.set_cons_zero, List.set_cons_succ]
  refine wpAnyH_take (i := 7) (oi := { dst := some 13, op := Op.load 28 (Operand.tmp 12), type := 28, pos := "cpu.go:123", after := #[{ on := 6, ground := Ground.data }], guard := none }) (v := ?_) rfl (by kernel_rfl) (by kernel_rfl) (by kernel_rfl) (fun _ _ _ h => h) ?_ hHeld ?_
  rotate_left
  · refine Or.inl ⟨by rfl, fun w' hSw => ?_⟩; have c0 : w'.cell? ⟨g, 2 + ra, none⟩ = some (.int .u32 rav) := hSw.2.cellv _ _ hra.out; go_simp; (try with_reducible rfl)
  try simp only [Act.put, List.setIfInBounds_toArray, List.set_cons_zero, List.set_cons_succ]
  refine wpAnyH_take (i := 8) (oi := { dst := some 5, op := Op.assign (Operand.tmp 13), type := 28, pos := "cpu.go:123", after := #[{ on := 7, ground := Ground.data }, { on := 0, ground := Ground.phase }, { on := 1, ground := Ground.phase }, { on := 2, ground := Ground.phase }, { on := 3, ground := Ground.phase }, { on := 4, ground := Ground.phase }, { on := 5, ground := Ground.phase }, { on := 6, ground := Ground.phase }, { on := 7, ground := Ground.phase }], guard := none }) (v := ?_) rfl (by kernel_rfl) (by kernel_rfl) (by kernel_rfl) (fun _ _ _ h => h) ?_ hHeld ?_
  rotate_left
  · refine Or.inl ⟨by rfl, fun w hSw => ?_⟩; skip; go_simp; (try with_reducible rfl)
  try simp only [Act.put, List.setIfInBounds_toArray, List.set_cons_zero, List.set_cons_succ]
  refine wpAnyH_done (by kernel_rfl) ?_ _
  have k1 := hHeld.1
  have HD := hHeld.2
  have BB := bl_then bb (bl_drew (bl_refl w1))
  clear hHeld bb
  generalize w1.drew = w2 at *
  have i0 : w2.cell? ⟨w.heap.size, 0, none⟩ = some (.int .i64 19) := k1.cellv 0 _ rfl
  go_wp2_with fail
  go_ret
  exact ⟨⟨_, rfl⟩, BB⟩
set_option maxRecDepth 100000 in
set_option maxHeartbeats 4000000 in
theorem jp_20 (g x ra rb : Nat) (d : Dn) (im : Int) (w : World) (HD : Blk w g 140 (dg x d)) (hR : d.R.length = 16) (hr : ∀ i : Nat, 0 ≤ d.R[i]?.getD 0 ∧ d.R[i]?.getD 0 < 4294967296) (ha : ra < 16) (hb : rb < 16) :
    Calls Try.prog 80 #[.pointer (some ⟨g, 0, none⟩), .agg (ins 20 ra rb im)] w fun r w' => IsB r ∧ Below w.heap.size w w' := by
  obtain ⟨rv, hrv⟩ : ∃ rv, d.R[rb]?.getD 0 = rv := ⟨_, rfl⟩
  obtain ⟨rav, hrav⟩ : ∃ rav, d.R[ra]?.getD 0 = rav := ⟨_, rfl⟩
  obtain ⟨v0, v1⟩ : 0 ≤ rv ∧ rv < 4294967296 := by rw [← hrv]; exact hr _
  obtain ⟨u0, u1⟩ : 0 ≤ rav ∧ rav < 4294967296 := by rw [← hrav]; exact hr _
  have hrb := dg_reg x d hR rb hb
  rw [hrv] at hrb
  replace hrb := Lib.hid hrb
  have hra := dg_reg x d hR ra ha
  rw [hrav] at hra
  replace hra := Lib.hid hra
  have hb' : (rb : Int) < 16 := by omega
  have ha' : (ra : Int) < 16 := by omega
  clear hr hrv hrav
  generalize dg x d = D at *
  go_enter Try.func80, Try.ntmps80
  go_upto_region 1 with ((with_reducible refine wl_box rfl 94 _ rfl (ins 20 ra rb im) rfl ?_); intro w1 k1 bb s1)
  have HD := HD.below bb
  refine wp_region_held_drew (S := (fun w' => Blk w' w.heap.size 94 (ins 20 ra rb im) ∧ Blk w' g 140 D)) (by kernel_rfl) (⟨k1.drew, HD.drew⟩) (fun hHeld => ?_)
  refine wpAnyH_take (i := 0) (oi := { dst := some 6, op := Op.move (Operand.tmp 0), type := 138, pos := "cpu.go:123", after := #[], guard := none }) (v := ?_) rfl (by kernel_rfl) (by kernel_rfl) (by kernel_rfl) (fun _ _ _ h => h) ?_ hHeld ?_
  rotate_left
  · refine Or.inl ⟨by rfl, fun w hSw => ?_⟩; skip; go_simp; (try with_reducible rfl)
  try simp only [Act.put, List.setIfInBounds_toArray, List.set_cons_zero, List.set_cons_succ]
  refine wpAnyH_take (i := 1) (oi := { dst := some 7, op := Op.fieldAddr 94 (Operand.tmp 3) 1, type := 0, pos := "cpu.go:123", after := #[], guard := none }) (v := ?_) rfl (by kernel_rfl) (by kernel_rfl) (by kernel_rfl) (fun _ _ _ h => h) ?_ hHeld ?_
  rotate_left
  · refine Or.inl ⟨by rfl, fun w hSw => ?_⟩; skip; go_simp; (try with_reducible rfl)
  try simp only [Act.put, List.setIfInBounds_toArray, List.set_cons_zero, List.set_cons_succ]
  refine wpAnyH_take (i := 2) (oi := { dst := some 8, op := Op.load 3 (Operand.tmp 7), type := 3, pos := "cpu.go:123", after := #[{ on := 1, ground := Ground.data }], guard := none }) (v := ?_) rfl (by kernel_rfl) (by kernel_rfl) (by kernel_rfl) (fun _ _ _ h => h) ?_ hHeld ?_
  rotate_left
  · refine Or.inl ⟨by rfl, fun w' hSw => ?_⟩; have c0 : w'.cell? ⟨w.heap.size, 1, none⟩ = some (.int .i64 ra) := hSw.1.cellv 1 _ rfl; go_simp; (try with_reducible rfl)
  try simp only [Act.put, List.setIfInBounds_toArray, List.set_cons_zero, List.set_cons_succ]
  refine wpAnyH_take (i := 3) (oi := { dst := some 9, op := Op.nilCheck (Operand.tmp 6), type := 0, pos := "cpu.go:123", after := #[{ on := 0, ground := Ground.data }], guard := none }) (v := ?_) rfl (by kernel_rfl) (by kernel_rfl) (by kernel_rfl) (fun _ _ _ h => h) ?_ hHeld ?_
  rotate_left
  · refine Or.inl ⟨by rfl, fun w hSw => ?_⟩; skip; go_simp; (try with_reducible rfl)
  try simp only [Act.put, List.setIfInBounds_toArray, List.set_cons_zero, List.set_cons_succ]
  refine wpAnyH_take (i := 4) (oi := { dst := some 10, op := Op.fieldAddr 140 (Operand.tmp 9) 2, type := 0, pos := "cpu.go:123", after := #[{ on := 3, ground := Ground.data }], guard := none }) (v := ?_) rfl (by kernel_rfl) (by kernel_rfl) (by kernel_rfl) (fun _ _ _ h => h) ?_ hHeld ?_
  rotate_left
  · refine Or.inl ⟨by rfl, fun w hSw => ?_⟩; skip; go_simp; (try with_reducible rfl)
  try simp only [Act.put, List.setIfInBounds_toArray, List.set_cons_zero, List.set_cons_succ]
  refine wpAnyH_take (i := 5) (oi := { dst := some 11, op := Op.fieldAddr 109 (Operand.tmp 10) 0, type := 0, pos := "cpu.go:123", after := #[{ on := 4, ground := Ground.data }], guard := none }) (v := ?_) rfl (by kernel_rfl) (by kernel_rfl) (by kernel_rfl) (fun _ _ _ h => h) ?_ hHeld ?_
  rotate_left
  · refine Or.inl ⟨by rfl, fun w hSw => ?_⟩; skip; go_simp; (try with_reducible rfl)
  try simp only [Act.put, List.setIfInBounds_toArray, List.set_cons_zero, List.set_cons_succ]
  refine wpAnyH_take (i := 6) (oi := { dst := some 12, op := Op.indexAddr 39 (Operand.tmp 11) (Operand.tmp 8), type := 0, pos := "cpu.go:123", after := #[{ on := 5, ground := Ground.data }, { on := 2, ground := Ground.data }], guard := none }) (v := ?_) rfl (by kernel_rfl) (by kernel_rfl) (by kernel_rfl) (fun _ _ _ h => h) ?_ hHeld ?_
  rotate_left
  · refine Or.inl ⟨by rfl, fun w hSw => ?_⟩; skip; go_simp; (try with_reducible rfl)
  try simp only [Act.put, List.setIfInBounds_toArray, List.set_cons_zero, List.set_cons_succ]
  refine wpAnyH_take (i := 7) (oi := { dst := some 13, op := Op.load 28 (Operand.tmp 12), type := 28, pos := "cpu.go:123", after := #[{ on := 6, ground := Ground.data }], guard := none }) (v := ?_) rfl (by kernel_rfl) (by kernel_rfl) (by kernel_rfl) (fun _ _ _ h => h) ?_ hHeld ?_
  rotate_left
  · refine Or.inl ⟨by rfl, fun w' hSw => ?_⟩; have c0 : w'.cell? ⟨g, 2 + ra, none⟩ = some (.int .u32 rav) := hSw.2.cellv _ _ hra.out; go_simp; (try with_reducible rfl)
  try simp only [Act.put, List.setIfInBounds_toArray, List.set_cons_zero, List.set_cons_succ]
  refine wpAnyH_take (i := 8) (oi := { dst := some 5, op := Op.assign (Operand.tmp 13), type := 28, pos := "cpu.go:123", after := #[{ on := 7, ground := Ground.data }, { on := 0, ground := Ground.phase }, { on := 1, ground := Ground.phase }, { on := 2, ground := Ground.phase }, { on := 3, ground := Ground.phase }, { on := 4, ground := Ground.phase }, { on := 5, ground := Ground.phase }, { on := 6, ground := Ground.phase }, { on := 7, ground := Ground.phase }], guard := none }) (v := ?_) rfl (by kernel_rfl) (by kernel_rfl) (by kernel_rfl) (fun _ _ _ h => h) ?_ hHeld ?_
  rotate_left
  · refine Or.inl ⟨by rfl, fun w hSw => ?_⟩; skip; go_simp; (try with_reducible rfl)
  try simp only [Act.put, List.setIfInBounds_toArray, List.set_cons_zero, List.set_cons_succ]
  refine wpAnyH_done (by kernel_rfl) ?_ _
  have k1 := hHeld.1
  have HD := hHeld.2
  have BB := bl_then bb (bl_drew (bl_refl w1))
  clear hHeld bb
  generalize w1.drew = w2 at *
  have i0 : w2.cell? ⟨w.heap.size, 0, none⟩ = some (.int .i64 20) := k1.cellv 0 _ rfl
  go_wp2_with fail
  go_ret
  exact ⟨⟨_, rfl⟩, BB⟩
set_option maxRecDepth 100000 in
set_option maxHeartbeats 4000000 in
theorem jp_22 (g x ra rb : Nat) (d : Dn) (im : Int) (w : World) (HD : Blk w g 140 (dg x d)) (hR : d.R.length = 16) (hr : ∀ i : Nat, 0 ≤ d.R[i]?.getD 0 ∧ d.R[i]?.getD 0 < 4294967296) (ha : ra < 16) (hb : rb < 16) :
    Calls Try.prog 80 #[.pointer (some ⟨g, 0, none⟩), .agg (ins 22 ra rb im)] w fun r w' => IsB r ∧ Below w.heap.size w w' := by
  obtain ⟨rv, hrv⟩ : ∃ rv, d.R[rb]?.getD 0 = rv := ⟨_, rfl⟩
  obtain ⟨rav, hrav⟩ : ∃ rav, d.R[ra]?.getD 0 = rav := ⟨_, rfl⟩
  obtain ⟨v0, v1⟩ : 0 ≤ rv ∧ rv < 4294967296 := by rw [← hrv]; exact hr _
  obtain ⟨u0, u1⟩ : 0 ≤ rav ∧ rav < 4294967296 := by rw [← hrav]; exact hr _
  have hrb := dg_reg x d hR rb hb
  rw [hrv] at hrb
  replace hrb := Lib.hid hrb
  have hra := dg_reg x d hR ra ha
  rw [hrav] at hra
  replace hra := Lib.hid hra
  have hb' : (rb : Int) < 16 := by omega
  have ha' : (ra : Int) < 16 := by omega
  clear hr hrv hrav
  generalize dg x d = D at *
  go_enter Try.func80, Try.ntmps80
  go_upto_region 1 with ((with_reducible refine wl_box rfl 94 _ rfl (ins 22 ra rb im) rfl ?_); intro w1 k1 bb s1)
  have HD := HD.below bb
  refine wp_region_held_drew (S := (fun w' => Blk w' w.heap.size 94 (ins 22 ra rb im) ∧ Blk w' g 140 D)) (by kernel_rfl) (⟨k1.drew, HD.drew⟩) (fun hHeld => ?_)
  refine wpAnyH_take (i := 0) (oi := { dst := some 6, op := Op.move (Operand.tmp 0), type := 138, pos := "cpu.go:123", after := #[], guard := none }) (v := ?_) rfl (by kernel_rfl) (by kernel_rfl) (by kernel_rfl) (fun _ _ _ h => h) ?_ hHeld ?_
  rotate_left
  · refine Or.inl ⟨by rfl, fun w hSw => ?_⟩; skip; go_simp; (try with_reducible rfl)
  try simp only [Act.put, List.setIfInBounds_toArray, List.set_cons_zero, List.set_cons_succ]
  refine wpAnyH_take (i := 1) (oi := { dst := some 7, op := Op.fieldAddr 94 (Operand.tmp 3) 1, type := 0, pos := "cpu.go:123", after := #[], guard := none }) (v := ?_) rfl (by kernel_rfl) (by kernel_rfl) (by kernel_rfl) (fun _ _ _ h => h) ?_ hHeld ?_
  rotate_left
  · refine Or.inl ⟨by rfl, fun w hSw => ?_⟩; skip; go_simp; (try with_reducible rfl)
  try simp only [Act.put, List.setIfInBounds_toArray, List.set_cons_zero, List.set_cons_succ]
  refine wpAnyH_take (i := 2) (oi := { dst := some 8, op := Op.load 3 (Operand.tmp 7), type := 3, pos := "cpu.go:123", after := #[{ on := 1, ground := Ground.data }], guard := none }) (v := ?_) rfl (by kernel_rfl) (by kernel_rfl) (by kernel_rfl) (fun _ _ _ h => h) ?_ hHeld ?_
  rotate_left
  · refine Or.inl ⟨by rfl, fun w' hSw => ?_⟩; have c0 : w'.cell? ⟨w.heap.size, 1, none⟩ = some (.int .i64 ra) := hSw.1.cellv 1 _ rfl; go_simp; (try with_reducible rfl)
  try simp only [Act.put, List.setIfInBounds_toArray, List.set_cons_zero, List.set_cons_succ]
  refine wpAnyH_take (i := 3) (oi := { dst := some 9, op := Op.nilCheck (Operand.tmp 6), type := 0, pos := "cpu.go:123", after := #[{ on := 0, ground := Ground.data }], guard := none }) (v := ?_) rfl (by kernel_rfl) (by kernel_rfl) (by kernel_rfl) (fun _ _ _ h => h) ?_ hHeld ?_
  rotate_left
  · refine Or.inl ⟨by rfl, fun w hSw => ?_⟩; skip; go_simp; (try with_reducible rfl)
  try simp only [Act.put, List.setIfInBounds_toArray, List.set_cons_zero, List.set_cons_succ]
  refine wpAnyH_take (i := 4) (oi := { dst := some 10, op := Op.fieldAddr 140 (Operand.tmp 9) 2, type := 0, pos := "cpu.go:123", after := #[{ on := 3, ground := Ground.data }], guard := none }) (v := ?_) rfl (by kernel_rfl) (by kernel_rfl) (by kernel_rfl) (fun _ _ _ h => h) ?_ hHeld ?_
  rotate_left
  · refine Or.inl ⟨by rfl, fun w hSw => ?_⟩; skip; go_simp; (try with_reducible rfl)
  try simp only [Act.put, List.setIfInBounds_toArray, List.set_cons_zero, List.set_cons_succ]
  refine wpAnyH_take (i := 5) (oi := { dst := some 11, op := Op.fieldAddr 109 (Operand.tmp 10) 0, type := 0, pos := "cpu.go:123", after := #[{ on := 4, ground := Ground.data }], guard := none }) (v := ?_) rfl (by kernel_rfl) (by kernel_rfl) (by kernel_rfl) (fun _ _ _ h => h) ?_ hHeld ?_
  rotate_left
  · refine Or.inl ⟨by rfl, fun w hSw => ?_⟩; skip; go_simp; (try with_reducible rfl)
  try simp only [Act.put, List.setIfInBounds_toArray, List.set_cons_zero, List.set_cons_succ]
  refine wpAnyH_take (i := 6) (oi := { dst := some 12, op := Op.indexAddr 39 (Operand.tmp 11) (Operand.tmp 8), type := 0, pos := "cpu.go:123", after := #[{ on := 5, ground := Ground.data }, { on := 2, ground := Ground.data }], guard := none }) (v := ?_) rfl (by kernel_rfl) (by kernel_rfl) (by kernel_rfl) (fun _ _ _ h => h) ?_ hHeld ?_
  rotate_left
  · refine Or.inl ⟨by rfl, fun w hSw => ?_⟩; skip; go_simp; (try with_reducible rfl)
  try simp only [Act.put, List.setIfInBounds_toArray, List.set_cons_zero, List.set_cons_succ]
  refine wpAnyH_take (i := 7) (oi := { dst := some 13, op := Op.load 28 (Operand.tmp 12), type := 28, pos := "cpu.go:123", after := #[{ on := 6, ground := Ground.data }], guard := none }) (v := ?_) rfl (by kernel_rfl) (by kernel_rfl) (by kernel_rfl) (fun _ _ _ h => h) ?_ hHeld ?_
  rotate_left
  · refine Or.inl ⟨by rfl, fun w' hSw => ?_⟩; have c0 : w'.cell? ⟨g, 2 + ra, none⟩ = some (.int .u32 rav) := hSw.2.cellv _ _ hra.out; go_simp; (try with_reducible rfl)
  try simp only [Act.put, List.setIfInBounds_toArray, List.set_cons_zero, List.set_cons_succ]
  refine wpAnyH_take (i := 8) (oi := { dst := some 5, op := Op.assign (Operand.tmp 13), type := 28, pos := "cpu.go:123", after := #[{ on := 7, ground := Ground.data }, { on := 0, ground := Ground.phase }, { on := 1, ground := Ground.phase }, { on := 2, ground := Ground.phase }, { on := 3, ground := Ground.phase }, { on := 4, ground := Ground.phase }, { on := 5, ground := Ground.phase }, { on := 6, ground := Ground.phase }, { on := 7, ground := Ground.phase }], guard := none }) (v := ?_) rfl (by kernel_rfl) (by kernel_rfl) (by kernel_rfl) (fun _ _ _ h => h) ?_ hHeld ?_
  rotate_left
  · refine Or.inl ⟨by rfl, fun w hSw => ?_⟩; skip; go_simp; (try with_reducible rfl)
  try simp only [Act.put, List.setIfInBounds_toArray, List.set_cons_zero, List.set_cons_succ]
  refine wpAnyH_done (by kernel_rfl) ?_ _
  have k1 := hHeld.1
  have HD := hHeld.2
  have BB := bl_then bb (bl_drew (bl_refl w1))
  clear hHeld bb
  generalize w1.drew = w2 at *
  have i0 : w2.cell? ⟨w.heap.size, 0, none⟩ = some (.int .i64 22) := k1.cellv 0 _ rfl
  go_wp2_with fail
  go_ret
  exact ⟨⟨_, rfl⟩, BB⟩
set_option maxRecDepth 100000 in
set_option maxHeartbeats 4000000 in
theorem jp_21 (g x ra rb : Nat) (d : Dn) (im : Int) (w : World) (HD : Blk w g 140 (dg x d)) (hR : d.R.length = 16) (hr : ∀ i : Nat, 0 ≤ d.R[i]?.getD 0 ∧ d.R[i]?.getD 0 < 4294967296) (ha : ra < 16) (hb : rb < 16) :
    Calls Try.prog 80 #[.pointer (some ⟨g, 0, none⟩), .agg (ins 21 ra rb im)] w fun r w' => IsB r ∧ Below w.heap.size w w' := by
  obtain ⟨rv, hrv⟩ : ∃ rv, d.R[rb]?.getD 0 = rv := ⟨_, rfl⟩
  obtain ⟨rav, hrav⟩ : ∃ rav, d.R[ra]?.getD 0 = rav := ⟨_, rfl⟩
  obtain ⟨v0, v1⟩ : 0 ≤ rv ∧ rv < 4294967296 := by rw [← hrv]; exact hr _
  obtain ⟨u0, u1⟩ : 0 ≤ rav ∧ rav < 4294967296 := by rw [← hrav]; exact hr _
  have hrb := dg_reg x d hR rb hb
  rw [hrv] at hrb
  replace hrb := Lib.hid hrb
  have hra := dg_reg x d hR ra ha
  rw [hrav] at hra
  replace hra := Lib.hid hra
  have hb' : (rb : Int) < 16 := by omega
  have ha' : (ra : Int) < 16 := by omega
  clear hr hrv hrav
  have hLs := Lib.hid (fun w' => less_any rav rv w')
  generalize dg x d = D at *
  go_enter Try.func80, Try.ntmps80
  go_upto_region 1 with ((with_reducible refine wl_box rfl 94 _ rfl (ins 21 ra rb im) rfl ?_); intro w1 k1 bb s1)
  have HD := HD.below bb
  refine wp_region_held_drew (S := (fun w' => Blk w' w.heap.size 94 (ins 21 ra rb im) ∧ Blk w' g 140 D)) (by kernel_rfl) (⟨k1.drew, HD.drew⟩) (fun hHeld => ?_)
  refine wpAnyH_take (i := 0) (oi := { dst := some 6, op := Op.move (Operand.tmp 0), type := 138, pos := "cpu.go:123", after := #[], guard := none }) (v := ?_) rfl (by kernel_rfl) (by kernel_rfl) (by kernel_rfl) (fun _ _ _ h => h) ?_ hHeld ?_
  rotate_left
  · refine Or.inl ⟨by rfl, fun w hSw => ?_⟩; skip; go_simp; (try with_reducible rfl)
  try simp only [Act.put, List.setIfInBounds_toArray, List.set_cons_zero, List.set_cons_succ]
  refine wpAnyH_take (i := 1) (oi := { dst := some 7, op := Op.fieldAddr 94 (Operand.tmp 3) 1, type := 0, pos := "cpu.go:123", after := #[], guard := none }) (v := ?_) rfl (by kernel_rfl) (by kernel_rfl) (by kernel_rfl) (fun _ _ _ h => h) ?_ hHeld ?_
  rotate_left
  · refine Or.inl ⟨by rfl, fun w hSw => ?_⟩; skip; go_simp; (try with_reducible rfl)
  try simp only [Act.put, List.setIfInBounds_toArray, List.set_cons_zero, List.set_cons_succ]
  refine wpAnyH_take (i := 2) (oi := { dst := some 8, op := Op.load 3 (Operand.tmp 7), type := 3, pos := "cpu.go:123", after := #[{ on := 1, ground := Ground.data }], guard := none }) (v := ?_) rfl (by kernel_rfl) (by kernel_rfl) (by kernel_rfl) (fun _ _ _ h => h) ?_ hHeld ?_
  rotate_left
  · refine Or.inl ⟨by rfl, fun w' hSw => ?_⟩; have c0 : w'.cell? ⟨w.heap.size, 1, none⟩ = some (.int .i64 ra) := hSw.1.cellv 1 _ rfl; go_simp; (try with_reducible rfl)
  try simp only [Act.put, List.setIfInBounds_toArray, List.set_cons_zero, List.set_cons_succ]
  refine wpAnyH_take (i := 3) (oi := { dst := some 9, op := Op.nilCheck (Operand.tmp 6), type := 0, pos := "cpu.go:123", after := #[{ on := 0, ground := Ground.data }], guard := none }) (v := ?_) rfl (by kernel_rfl) (by kernel_rfl) (by kernel_rfl) (fun _ _ _ h => h) ?_ hHeld ?_
  rotate_left
  · refine Or.inl ⟨by rfl, fun w hSw => ?_⟩; skip; go_simp; (try with_reducible rfl)
  try simp only [Act.put, List.setIfInBounds_toArray, List.set_cons_zero, List.set_cons_succ]
  refine wpAnyH_take (i := 4) (oi := { dst := some 10, op := Op.fieldAddr 140 (Operand.tmp 9) 2, type := 0, pos := "cpu.go:123", after := #[{ on := 3, ground := Ground.data }], guard := none }) (v := ?_) rfl (by kernel_rfl) (by kernel_rfl) (by kernel_rfl) (fun _ _ _ h => h) ?_ hHeld ?_
  rotate_left
  · refine Or.inl ⟨by rfl, fun w hSw => ?_⟩; skip; go_simp; (try with_reducible rfl)
  try simp only [Act.put, List.setIfInBounds_toArray, List.set_cons_zero, List.set_cons_succ]
  refine wpAnyH_take (i := 5) (oi := { dst := some 11, op := Op.fieldAddr 109 (Operand.tmp 10) 0, type := 0, pos := "cpu.go:123", after := #[{ on := 4, ground := Ground.data }], guard := none }) (v := ?_) rfl (by kernel_rfl) (by kernel_rfl) (by kernel_rfl) (fun _ _ _ h => h) ?_ hHeld ?_
  rotate_left
  · refine Or.inl ⟨by rfl, fun w hSw => ?_⟩; skip; go_simp; (try with_reducible rfl)
  try simp only [Act.put, List.setIfInBounds_toArray, List.set_cons_zero, List.set_cons_succ]
  refine wpAnyH_take (i := 6) (oi := { dst := some 12, op := Op.indexAddr 39 (Operand.tmp 11) (Operand.tmp 8), type := 0, pos := "cpu.go:123", after := #[{ on := 5, ground := Ground.data }, { on := 2, ground := Ground.data }], guard := none }) (v := ?_) rfl (by kernel_rfl) (by kernel_rfl) (by kernel_rfl) (fun _ _ _ h => h) ?_ hHeld ?_
  rotate_left
  · refine Or.inl ⟨by rfl, fun w hSw => ?_⟩; skip; go_simp; (try with_reducible rfl)
  try simp only [Act.put, List.setIfInBounds_toArray, List.set_cons_zero, List.set_cons_succ]
  refine wpAnyH_take (i := 7) (oi := { dst := some 13, op := Op.load 28 (Operand.tmp 12), type := 28, pos := "cpu.go:123", after := #[{ on := 6, ground := Ground.data }], guard := none }) (v := ?_) rfl (by kernel_rfl) (by kernel_rfl) (by kernel_rfl) (fun _ _ _ h => h) ?_ hHeld ?_
  rotate_left
  · refine Or.inl ⟨by rfl, fun w' hSw => ?_⟩; have c0 : w'.cell? ⟨g, 2 + ra, none⟩ = some (.int .u32 rav) := hSw.2.cellv _ _ hra.out; go_simp; (try with_reducible rfl)
  try simp only [Act.put, List.setIfInBounds_toArray, List.set_cons_zero, List.set_cons_succ]
  refine wpAnyH_take (i := 8) (oi := { dst := some 5, op := Op.assign (Operand.tmp 13), type := 28, pos := "cpu.go:123", after := #[{ on := 7, ground := Ground.data }, { on := 0, ground := Ground.phase }, { on := 1, ground := Ground.phase }, { on := 2, ground := Ground.phase }, { on := 3, ground := Ground.phase }, { on := 4, ground := Ground.phase }, { on := 5, ground := Ground.phase }, { on := 6, ground := Ground.phase }, { on := 7, ground := Ground.phase }], guard := none }) (v := ?_) rfl (by kernel_rfl) (by kernel_rfl) (by kernel_rfl) (fun _ _ _ h => h) ?_ hHeld ?_
  rotate_left
  · refine Or.inl ⟨by rfl, fun w hSw => ?_⟩; skip; go_simp; (try with_reducible rfl)
  try simp only [Act.put, List.setIfInBounds_toArray, List.set_cons_zero, List.set_cons_succ]
  refine wpAnyH_done (by kernel_rfl) ?_ _
  have k1 := hHeld.1
  have HD := hHeld.2
  have BB := bl_then bb (bl_drew (bl_refl w1))
  clear hHeld bb
  generalize w1.drew = w2 at *
  have i0 : w2.cell? ⟨w.heap.size, 0, none⟩ = some (.int .i64 21) := k1.cellv 0 _ rfl
  go_upto_region 10 with fail
  have BB := bl_then BB (bl_drew (bl_refl w2))
  clear i0
  refine wp_region_held_drew (S := (fun w' => Blk w' w.heap.size 94 (ins 21 ra rb im) ∧ Blk w' g 140 D)) (by kernel_rfl) (⟨k1.drew, HD.drew⟩) (fun hHeld => ?_)
  refine wpAnyH_take (i := 0) (oi := { dst := some 27, op := Op.fieldAddr 94 (Operand.tmp 3) 0, type := 0, pos := "cpu.go:132", after := #[], guard := none }) (v := ?_) rfl (by kernel_rfl) (by kernel_rfl) (by kernel_rfl) (fun _ _ _ h => h) ?_ hHeld ?_
  rotate_left
  · refine Or.inl ⟨by rfl, fun w hSw => ?_⟩; skip; go_simp; (try with_reducible rfl)
  try simp only [Act.put, List.setIfInBounds_toArray, List.set_cons_zero, List.set_cons_succ]
  refine wpAnyH_take (i := 1) (oi := { dst := some 28, op := Op.load 3 (Operand.tmp 27), type := 3, pos := "cpu.go:132", after := #[{ on := 0, ground := Ground.data }], guard := none }) (v := ?_) rfl (by kernel_rfl) (by kernel_rfl) (by kernel_rfl) (fun _ _ _ h => h) ?_ hHeld ?_
  rotate_left
  · refine Or.inl ⟨by rfl, fun w' hSw => ?_⟩; have c0 : w'.cell? ⟨w.heap.size, 0, none⟩ = some (.int .i64 21) := hSw.1.cellv 0 _ rfl; go_simp; (try with_reducible rfl)
  try simp only [Act.put, List.setIfInBounds_toArray, List.set_cons_zero, List.set_cons_succ]
  refine wpAnyH_take (i := 2) (oi := { dst := some 29, op := Op.binOp BinOp.eql 3 (Operand.tmp 28) (Operand.const (Value.int IntKind.i64 21)) 3, type := 4, pos := "cpu.go:132", after := #[{ on := 1, ground := Ground.data }], guard := none }) (v := ?_) rfl (by kernel_rfl) (by kernel_rfl) (by kernel_rfl) (fun _ _ _ h => h) ?_ hHeld ?_
  rotate_left
  · refine Or.inl ⟨by rfl, fun w hSw => ?_⟩; skip; go_simp; (try with_reducible rfl)
  try simp only [Act.put, List.setIfInBounds_toArray, List.set_cons_zero, List.set_cons_succ]
  refine wpAnyH_take (i := 3) (oi := { dst := some 30, op := Op.move (Operand.tmp 29), type := 4, pos := "cpu.go:132", after := #[{ on := 2, ground := Ground.data }], guard := none }) (v := ?_) rfl (by kernel_rfl) (by kernel_rfl) (by kernel_rfl) (fun _ _ _ h => h) ?_ hHeld ?_
  rotate_left
  · refine Or.inl ⟨by rfl, fun w hSw => ?_⟩; skip; go_simp; (try with_reducible rfl)
  try simp only [Act.put, List.setIfInBounds_toArray, List.set_cons_zero, List.set_cons_succ]
  refine wpAnyH_take (i := 4) (oi := { dst := some 31, op := Op.move (Operand.tmp 5), type := 28, pos := "cpu.go:132", after := #[{ on := 3, ground := Ground.guard }], guard := some (3, true) }) (v := ?_) rfl (by kernel_rfl) (by kernel_rfl) (by kernel_rfl) (fun _ _ _ h => h) ?_ hHeld ?_
  rotate_left
  · refine Or.inl ⟨by rfl, fun w hSw => ?_⟩; skip; go_simp; (try with_reducible rfl)
  try simp only [Act.put, List.setIfInBounds_toArray, List.set_cons_zero, List.set_cons_succ]
  refine wpAnyH_take (i := 5) (oi := { dst := some 32, op := Op.move (Operand.tmp 0), type := 138, pos := "cpu.go:132", after := #[{ on := 3, ground := Ground.guard }], guard := some (3, true) }) (v := ?_) rfl (by kernel_rfl) (by kernel_rfl) (by kernel_rfl) (fun _ _ _ h => h) ?_ hHeld ?_
  rotate_left
  · refine Or.inl ⟨by rfl, fun w hSw => ?_⟩; skip; go_simp; (try with_reducible rfl)
  try simp only [Act.put, List.setIfInBounds_toArray, List.set_cons_zero, List.set_cons_succ]
  refine wpAnyH_take (i := 6) (oi := { dst := some 33, op := Op.fieldAddr 94 (Operand.tmp 3) 2, type := 0, pos := "cpu.go:132", after := #[{ on := 3, ground := Ground.guard }], guard := some (3, true) }) (v := ?_) rfl (by kernel_rfl) (by kernel_rfl) (by kernel_rfl) (fun _ _ _ h => h) ?_ hHeld ?_
  rotate_left
  · refine Or.inl ⟨by rfl, fun w hSw => ?_⟩; skip; go_simp; (try with_reducible rfl)
  try simp only [Act.put, List.setIfInBounds_toArray, List.set_cons_zero, List.set_cons_succ]
  refine wpAnyH_take (i := 7) (oi := { dst := some 34, op := Op.load 3 (Operand.tmp 33), type := 3, pos := "cpu.go:132", after := #[{ on := 6, ground := Ground.data }, { on := 3, ground := Ground.guard }], guard := some (3, true) }) (v := ?_) rfl (by kernel_rfl) (by kernel_rfl) (by kernel_rfl) (fun _ _ _ h => h) ?_ hHeld ?_
  rotate_left
  · refine Or.inl ⟨by rfl, fun w' hSw => ?_⟩; have c0 : w'.cell? ⟨w.heap.size, 2, none⟩ = some (.int .i64 rb) := hSw.1.cellv 2 _ rfl; go_simp; (try with_reducible rfl)
  try simp only [Act.put, List.setIfInBounds_toArray, List.set_cons_zero, List.set_cons_succ]
  refine wpAnyH_take (i := 8) (oi := { dst := some 35, op := Op.nilCheck (Operand.tmp 32), type := 0, pos := "cpu.go:132", after := #[{ on := 5, ground := Ground.data }, { on := 3, ground := Ground.guard }], guard := some (3, true) }) (v := ?_) rfl (by kernel_rfl) (by kernel_rfl) (by kernel_rfl) (fun _ _ _ h => h) ?_ hHeld ?_
  rotate_left
  · refine Or.inl ⟨by rfl, fun w hSw => ?_⟩; skip; go_simp; (try with_reducible rfl)
  try simp only [Act.put, List.setIfInBounds_toArray, List.set_cons_zero, List.set_cons_succ]
  refine wpAnyH_take (i := 9) (oi := { dst := some 36, op := Op.fieldAddr 140 (Operand.tmp 35) 2, type := 0, pos := "cpu.go:132", after := #[{ on := 8, ground := Ground.data }, { on := 3, ground := Ground.guard }], guard := some (3, true) }) (v := ?_) rfl (by kernel_rfl) (by kernel_rfl) (by kernel_rfl) (fun _ _ _ h => h) ?_ hHeld ?_
  rotate_left
  · refine Or.inl ⟨by rfl, fun w hSw => ?_⟩; skip; go_simp; (try with_reducible rfl)
  try simp only [Act.put, List.setIfInBounds_toArray, List.set_cons_zero, List.set_cons_succ]
  refine wpAnyH_take (i := 10) (oi := { dst := some 37, op := Op.fieldAddr 109 (Operand.tmp 36) 0, type := 0, pos := "cpu.go:132", after := #[{ on := 9, ground := Ground.data }, { on := 3, ground := Ground.guard }], guard := some (3, true) }) (v := ?_) rfl (by kernel_rfl) (by kernel_rfl) (by kernel_rfl) (fun _ _ _ h => h) ?_ hHeld ?_
  rotate_left
  · refine Or.inl ⟨by rfl, fun w hSw => ?_⟩; skip; go_simp; (try with_reducible rfl)
  try simp only [Act.put, List.setIfInBounds_toArray, List.set_cons_zero, List.set_cons_succ]
  refine wpAnyH_take (i := 11) (oi := { dst := some 38, op := Op.indexAddr 39 (Operand.tmp 37) (Operand.tmp 34), type := 0, pos := "cpu.go:132", after := #[{ on := 10, ground := Ground.data }, { on := 7, ground := Ground.data }, { on := 3, ground := Ground.guard }], guard := some (3, true) }) (v := ?_) rfl (by kernel_rfl) (by kernel_rfl) (by kernel_rfl) (fun _ _ _ h => h) ?_ hHeld ?_
  rotate_left
  · refine Or.inl ⟨by rfl, fun w hSw => ?_⟩; skip; go_simp; (try with_reducible rfl)
  try simp only [Act.put, List.setIfInBounds_toArray, List.set_cons_zero, List.set_cons_succ]
  refine wpAnyH_take (i := 12) (oi := { dst := some 39, op := Op.load 28 (Operand.tmp 38), type := 28, pos := "cpu.go:132", after := #[{ on := 11, ground := Ground.data }, { on := 3, ground := Ground.guard }], guard := some (3, true) }) (v := ?_) rfl (by kernel_rfl) (by kernel_rfl) (by kernel_rfl) (fun _ _ _ h => h) ?_ hHeld ?_
  rotate_left
  · refine Or.inl ⟨by rfl, fun w' hSw => ?_⟩; have c0 : w'.cell? ⟨g, 2 + rb, none⟩ = some (.int .u32 rv) := hSw.2.cellv _ _ hrb.out; go_simp; (try with_reducible rfl)
  try simp only [Act.put, List.setIfInBounds_toArray, List.set_cons_zero, List.set_cons_succ]
  refine wpAnyH_ready (rs := [13]) (by kernel_rfl) (by simp) ?_
  refine AllReadyH.cons (o := { dst := some 40, op := Op.call { callee := Callee.value (Operand.func 86), args := #[Operand.tmp 31, Operand.tmp 39], argTypes := #[28, 28] }, type := 4, pos := "cpu.go:132", after := #[{ on := 4, ground := Ground.data }, { on := 12, ground := Ground.data }, { on := 3, ground := Ground.chain }, { on := 3, ground := Ground.guard }], guard := some (3, true) }) rfl (fun Kc hKc => ?_) AllReadyH.nil
  go_simp
  refine (hLs.out _).mono ?_
  rintro r wq ⟨⟨bz, rfl⟩, rfl⟩
  refine hKc.out _ _ (hHeld) (fun hHeld => ?_)
  clear hKc Kc
  try simp only [Act.put, List.setIfInBounds_toArray, List.set_cons_zero, List.set_cons_succ]
  refine wpAnyH_take (i := 14) (oi := { dst := some 41, op := Op.pick (Operand.tmp 30) (Operand.tmp 40) (Operand.const (Value.bool false)), type := 4, pos := "cpu.go:132", after := #[{ on := 3, ground := Ground.data }, { on := 13, ground := Ground.data }], guard := none }) (v := ?_) rfl (by kernel_rfl) (by kernel_rfl) (by kernel_rfl) (fun _ _ _ h => h) ?_ hHeld ?_
  rotate_left
  · refine Or.inl ⟨by rfl, fun w hSw => ?_⟩; skip; go_simp; (try with_reducible rfl)
  try simp only [Act.put, List.setIfInBounds_toArray, List.set_cons_zero, List.set_cons_succ]
  refine wpAnyH_take (i := 15) (oi := { dst := some 4, op := Op.assign (Operand.tmp 41), type := 4, pos := "cpu.go:132", after := #[{ on := 14, ground := Ground.data }, { on := 13, ground := Ground.chain }, { on := 0, ground := Ground.phase }, { on := 1, ground := Ground.phase }, { on := 2, ground := Ground.phase }, { on := 3, ground := Ground.phase }, { on := 4, ground := Ground.phase }, { on := 5, ground := Ground.phase }, { on := 6, ground := Ground.phase }, { on := 7, ground := Ground.phase }, { on := 8, ground := Ground.phase }, { on := 9, ground := Ground.phase }, { on := 10, ground := Ground.phase }, { on := 11, ground := Ground.phase }, { on := 12, ground := Ground.phase }, { on := 13, ground := Ground.phase }, { on := 14, ground := Ground.phase }], guard := none }) (v := ?_) rfl (by kernel_rfl) (by kernel_rfl) (by kernel_rfl) (fun _ _ _ h => h) ?_ hHeld ?_
  rotate_left
  · refine Or.inl ⟨by rfl, fun w hSw => ?_⟩; skip; go_simp; (try with_reducible rfl)
  try simp only [Act.put, List.setIfInBounds_toArray, List.set_cons_zero, List.set_cons_succ]
  refine wpAnyH_done (by kernel_rfl) ?_ _
  go_wp2_with fail
  go_ret
  exact ⟨⟨_, rfl⟩, BB⟩
theorem jumps_c (g x ra rb : Nat) (d : Dn) (op im : Int) (w : World) (HD : Blk w g 140 (dg x d)) (hR : d.R.length = 16) (hr : ∀ i : Nat, 0 ≤ d.R[i]?.getD 0 ∧ d.R[i]?.getD 0 < 4294967296) (ha : ra < 16) (hb : rb < 16) (o0 : 18 ≤ op) (o1 : op ≤ 22) :
    Calls Try.prog 80 #[.pointer (some ⟨g, 0, none⟩), .agg (ins op ra rb im)] w fun r w' => IsB r ∧ Below w.heap.size w w' := by
  have h : op = 18 ∨ op = 19 ∨ op = 20 ∨ op = 21 ∨ op = 22 := by omega
  rcases h with rfl | rfl | rfl | rfl | rfl
  · exact jp_18 g x ra rb d im w HD hR hr ha hb
  · exact jp_19 g x ra rb d im w HD hR hr ha hb
  · exact jp_20 g x ra rb d im w HD hR hr ha hb
  · exact jp_21 g x ra rb d im w HD hR hr ha hb
  · exact jp_22 g x ra rb d im w HD hR hr ha hb
end Go.Proofs.Ytdokmnpkihmkpaa.CpuD
