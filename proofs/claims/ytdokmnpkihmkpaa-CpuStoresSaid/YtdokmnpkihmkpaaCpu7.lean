/- Contract of package cpu's do, where it goes to the memory; the four steps of the law CpuStores. -/
import Derived.Test.YtdokmnpkihmkpaaCpu5
import Derived.Test.YtdokmnpkihmkpaaCpu6
set_option linter.unusedVariables false
namespace Go.Proofs.Ytdokmnpkihmkpaa.Cpu7
open Go.RowKit Go.Proofs.Ytdokmnpkihmkpaa.Base Go.Proofs.Ytdokmnpkihmkpaa.Row Go.Proofs.Ytdokmnpkihmkpaa.App Go.Proofs.Ytdokmnpkihmkpaa.Multi Go.Proofs.Ytdokmnpkihmkpaa.StEq Go.Proofs.Ytdokmnpkihmkpaa.Held Go.Proofs.Ytdokmnpkihmkpaa.Out Go.Proofs.Ytdokmnpkihmkpaa.HeldW Go.Proofs.Ytdokmnpkihmkpaa.HeldX Go.Proofs.Ytdokmnpkihmkpaa.Once Go.Proofs.Ytdokmnpkihmkpaa.Isa Go.Proofs.Ytdokmnpkihmkpaa.Isa2 Go.Proofs.Ytdokmnpkihmkpaa.Isa3 Go.Proofs.Ytdokmnpkihmkpaa.TlbMath Go.Proofs.Ytdokmnpkihmkpaa.Tlb Go.Proofs.Ytdokmnpkihmkpaa.Tlb3 Go.Proofs.Ytdokmnpkihmkpaa.Frames Go.Proofs.Ytdokmnpkihmkpaa.Cpu Go.Proofs.Ytdokmnpkihmkpaa.Cpu2 Go.Proofs.Ytdokmnpkihmkpaa.Cpu3 Go.Proofs.Ytdokmnpkihmkpaa.Cpu4 Go.Proofs.Ytdokmnpkihmkpaa.Cpu5 Go.Proofs.Ytdokmnpkihmkpaa.Cpu6

set_option maxRecDepth 100000 in
set_option maxHeartbeats 4000000 in
theorem do_mem (g x : Nat) (op a b im : Int) (d : Dn) (w : World) (hop : op = 14 ∨ op = 15 ∨ op = 16 ∨ op = 17) (HD : Blk w g 140 (dg x d)) (hR : d.R.length = 16) (hpc : 0 ≤ d.pc ∧ d.pc < 4294967296) (Post : World → Prop)
    (hm : ∀ w1, Below w.heap.size w w1 → Calls Try.prog 79 #[.pointer (some ⟨g, 0, none⟩), .agg (ins op a b im)] w1 fun r w2 => r = .returned (.tuple #[]) ∧ Post w2) :
    Calls Try.prog 72 #[.pointer (some ⟨g, 0, none⟩), .agg (ins op a b im)] w fun r w' => r = .returned (.int .u32 ((d.pc + 4) % 4294967296)) ∧ Post w' := by
  have e18 : (dg x d)[18]? = some (.int .u32 d.pc) := by rw [show 18 = 18 + 0 from rfl, dg_rest x d hR 0]; rfl
  generalize d.pc = pc at *
  generalize dg x d = D at *
  replace e18 := Lib.hid e18
  replace hm := Lib.hid hm
  obtain ⟨p0, p1⟩ := hpc
  rcases hop with rfl | rfl | rfl | rfl
  all_goals (
    go_enter Try.func72, Try.ntmps72
    go_upto_region 1 with ((with_reducible refine wl_box rfl 94 _ rfl (ins _ a b im) rfl ?_); intro w1 k1 b1 s1)
    have c18 : w1.cell? ⟨g, 18, none⟩ = some (.int .u32 pc) := (HD.below b1).cellv 18 _ e18.out
    (first | have i0 : w1.cell? ⟨w.heap.size, 0, none⟩ = some (.int .i64 14) := k1.cellv 0 _ rfl | have i0 : w1.cell? ⟨w.heap.size, 0, none⟩ = some (.int .i64 15) := k1.cellv 0 _ rfl | have i0 : w1.cell? ⟨w.heap.size, 0, none⟩ = some (.int .i64 16) := k1.cellv 0 _ rfl | have i0 : w1.cell? ⟨w.heap.size, 0, none⟩ = some (.int .i64 17) := k1.cellv 0 _ rfl)
    go_wp2_with (first
      | (refine at_slot 101 rfl ?_; refine wl_load rfl 94 (.tmp 3) rfl w.heap.size rfl 94 (ins _ a b im) _ k1 Try.underlying94 rfl (size_i _ rfl) ?_))
    refine (hm.out w1 b1).mono ?_
    rintro r w2 ⟨rfl, hp⟩
    clear c18 i0 k1 b1
    replace hp := Lib.hid hp
    go_wp2_with fail
    go_ret
    exact ⟨rfl, hp.out⟩)
/-! ### the law's program -/
def ws : List Int := [252837888, 238157824, 289538049, 273809409]
def l0 (sp : Int) : List En := [⟨sp, 0, 0, false⟩, ⟨sp, 1, 2, true⟩]
def X0 : List Int := lay ws (min 4 64)
def R0 (wv : Int) (t : Nat) : List Int := [0, wv, 64 + (t : Int) * 4, 0, wv / 256, 0, 0, 0, 0, 0, 0, 0, 0, 0, 0, 0]
def Rs (wv : Int) (t : Nat) : Nat → List Int
  | 0 => R0 wv t
  | 1 => R0 wv t
  | 2 => (R0 wv t).set 3 wv
  | 3 => (R0 wv t).set 3 wv
  | _ => ((R0 wv t).set 3 wv).set 5 (wv / 256 % 256)
def Xs (wv : Int) (t : Nat) : Nat → List Int
  | 0 => X0
  | _ => X0.set (32 + t) wv
theorem rs_len (wv : Int) (t k : Nat) : (Rs wv t k).length = 16 := by
  unfold Rs
  split <;> rfl
theorem x0_len : X0.length = 64 := lay_len _ _
theorem xs_get (wv : Int) (t k : Nat) (ht : t < 16) : (Xs wv t (k + 1))[32 + t]?.getD 0 = wv := by
  show (X0.set (32 + t) wv)[32 + t]?.getD 0 = wv
  rw [List.getElem?_set, if_pos rfl, if_pos (by rw [x0_len]; omega)]
  rfl
theorem xs_low (wv : Int) (t k i : Nat) (hi : i < 32) : (Xs wv t k)[i]? = X0[i]? := by
  cases k with
  | zero => rfl
  | succ k =>
    show (X0.set (32 + t) wv)[i]? = _
    rw [List.getElem?_set, if_neg (by omega)]
theorem xs_same (wv : Int) (t k : Nat) : (Xs wv t (k + 1)).set (32 + t) wv = Xs wv t (k + 1) := by
  show (X0.set (32 + t) wv).set (32 + t) wv = _
  rw [List.set_set]
  rfl
theorem at0 (sp : Int) : at_ (l0 sp) sp 0 = 0 := by simp [at_, l0, TlbMath.pg, List.findIdx_cons]
theorem at1 (sp : Int) : at_ (l0 sp) sp 1 = 1 := by simp [at_, l0, TlbMath.pg, List.findIdx_cons]
theorem ge0 (sp : Int) : getE (l0 sp) sp 0 = ⟨sp, 0, 0, false⟩ := by unfold getE; rw [at0]; rfl
theorem ge1 (sp : Int) : getE (l0 sp) sp 1 = ⟨sp, 1, 2, true⟩ := by unfold getE; rw [at1]; rfl
theorem put_l0 (sp : Int) : putN [⟨sp, 0, 0, false⟩, ⟨sp, 1, 2, true⟩] (min 2 12) = l0 sp := by
  show put (put [] ⟨sp, 0, 0, false⟩) ⟨sp, 1, 2, true⟩ = _
  simp [put, cap8, TlbMath.pg, l0]
set_option maxRecDepth 100000 in
theorem dec0 : decB 252837888 = true ∧ decI 252837888 = ins 15 ((1 : Nat) : Int) ((2 : Nat) : Int) 0 := by
  have h : IsaMath.refB (252837888 / 16777216) (252837888 / 1048576 % 16) (252837888 / 65536 % 16) (simm 252837888) = true := by decide
  exact ⟨h, by unfold decI; rw [if_pos h]; rfl⟩
set_option maxRecDepth 100000 in
theorem dec1 : decB 238157824 = true ∧ decI 238157824 = ins 14 ((3 : Nat) : Int) ((2 : Nat) : Int) 0 := by
  have h : IsaMath.refB (238157824 / 16777216) (238157824 / 1048576 % 16) (238157824 / 65536 % 16) (simm 238157824) = true := by decide
  exact ⟨h, by unfold decI; rw [if_pos h]; rfl⟩
set_option maxRecDepth 100000 in
theorem dec2 : decB 289538049 = true ∧ decI 289538049 = ins 17 ((4 : Nat) : Int) ((2 : Nat) : Int) 1 := by
  have h : IsaMath.refB (289538049 / 16777216) (289538049 / 1048576 % 16) (289538049 / 65536 % 16) (simm 289538049) = true := by decide
  exact ⟨h, by unfold decI; rw [if_pos h]; rfl⟩
set_option maxRecDepth 100000 in
theorem dec3 : decB 273809409 = true ∧ decI 273809409 = ins 16 ((5 : Nat) : Int) ((2 : Nat) : Int) 1 := by
  have h : IsaMath.refB (273809409 / 16777216) (273809409 / 1048576 % 16) (273809409 / 65536 % 16) (simm 273809409) = true := by decide
  exact ⟨h, by unfold decI; rw [if_pos h]; rfl⟩
end Go.Proofs.Ytdokmnpkihmkpaa.Cpu7
