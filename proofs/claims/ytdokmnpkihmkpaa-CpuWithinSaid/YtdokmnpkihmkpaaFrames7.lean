/- Are a memory and the reference's words the same? -/
import Derived.Test.YtdokmnpkihmkpaaFrames6
set_option linter.unusedVariables false
namespace Go.Proofs.Ytdokmnpkihmkpaa.Frames7
open Go.RowKit Go.Proofs.Ytdokmnpkihmkpaa.Base Go.Proofs.Ytdokmnpkihmkpaa.Row Go.Proofs.Ytdokmnpkihmkpaa.Frames Go.Proofs.Ytdokmnpkihmkpaa.Frames2 Go.Proofs.Ytdokmnpkihmkpaa.Frames3 Go.Proofs.Ytdokmnpkihmkpaa.Frames4 Go.Proofs.Ytdokmnpkihmkpaa.Frames5 Go.Proofs.Ytdokmnpkihmkpaa.Frames6

set_option maxRecDepth 100000 in
set_option maxHeartbeats 8000000 in
theorem same_c (g gp b N n c : Nat) (X : List Int) (w : World) (hx : Mm w g gp n X) (hy : Rf w b X) (hl : X.length = N) (hN : N = n * 16) (hn : n ≤ 256) :
    Calls Try.prog 19 #[.pointer (some ⟨g, 0, none⟩), .slice (some ⟨b, 0, none⟩) N c] w fun r w' => r = .returned (.bool true) ∧ Below w.heap.size w w' := by
  have hxh := Lib.hid hx
  have hyh := Lib.hid hy
  have hL := Lib.hid (fun w' h' => len_c g gp n X w' h')
  have hlh := Lib.hid hl
  have hNh := Lib.hid hN
  have qd : (N : Int) / 16 = n := by omega
  have hNb : N ≤ 4096 := by omega
  clear hx hy hl hN
  go_enter Try.func19, Try.ntmps19
  go_wp2_with fail
  refine (hL.out _ hxh.out).mono ?_
  rintro r w1 ⟨rfl, rfl⟩
  go_wp2_with fail
  go_loopw [5] (fun i wr => ∃ (k : Nat), k ≤ n ∧ i = .int .i64 k ∧ Below w.heap.size w wr) (fun i _ => n - (intOf i).toNat)
  case atStart => exact ⟨0, by omega, rfl, bl_refl w⟩
  case round =>
    obtain ⟨k, hk, rfl, HB⟩ := hrel
    obtain ⟨w2, rfl⟩ : ∃ w2 : World, w2 = wr := ⟨_, rfl⟩
    have hx2 := Lib.hid (hxh.out.below HB)
    by_cases hlt : k < n
    · have hq : decide ((k : Int) < (n : Int)) = true := by simp; omega
      have hP := Lib.hid (page_yes g gp n k X w2 hx2.out hlt)
      have hpl := Lib.hid (pgAt_len X n k (by rw [hlh.out]; exact hNh.out) hlt)
      have hpg := Lib.hid (pgAt_get X k)
      have hkn := Lib.hid (show k * 16 + 16 ≤ N by have := hNh.out; omega)
      have m1 : IntKind.i64.wrap (16 * (k : Int)) = (k * 16 : Nat) := by rw [show 16 * (k : Int) = (k * 16 : Nat) by omega]; exact wrap_id _ (by omega) (by omega)
      obtain ⟨o, ho⟩ : ∃ o, k * 16 = o := ⟨_, rfl⟩
      rw [ho] at m1 hpg hkn
      clear ho
      obtain ⟨P, hPe⟩ : ∃ P, pgAt X k = P := ⟨_, rfl⟩
      have hGt := Lib.hid (fun j w' h' (hj : j < 16) => get_yes g gp n k j X w' h' hlt hj)
      have hGv := Lib.hid (pgAt_get X k)
      rw [hPe] at hP hpl hpg hGv
      clear hPe
      go_wp2_with fail
      refine (hL.out _ hx2.out).mono ?_
      rintro r w3 ⟨rfl, rfl⟩
      go_wp2_with fail
      refine (hP.out).mono ?_
      rintro r w3 ⟨rfl, b3⟩
      go_wp2_with (first
        | ((with_reducible refine wl_alloc rfl 40 rfl (pg z16) new_p ?_); intro w4 k4 b4 s4)
        | ((refine wl_store (by rfl) 40 _ _ (by rfl) w3.heap.size (by rfl) (pg P) (by rfl) 40 (pg z16) k4 (size_pg _ hpl.out) (by rw [pg_size, pg_size, hpl.out]; rfl) (pg_one _) ?_); intro w5 k5 g5 s5))
      have B5 := below_grown (bl_then (bl_then HB b3) b4) (by have := HB.size; have := b3.size; have := b4.size; omega) g5 (by have := HB.size; have := b3.size; omega)
      have hpb : Hid (w.heap.size ≤ w3.heap.size) := Lib.hid (by have := HB.size; have := b3.size; omega)
      clear HB b3 b4 g5 k4 hx2
      go_loopw [8] (fun i wr => ∃ (j : Nat), j ≤ 16 ∧ i = .int .i64 j ∧ Blk wr w3.heap.size 40 (pg P) ∧ Below w.heap.size w wr) (fun i _ => 16 - (intOf i).toNat)
      case atStart => exact ⟨0, by omega, rfl, k5, B5⟩
      case round =>
        clear k5 B5
        obtain ⟨j, hj, rfl, HK, HB⟩ := hrel
        obtain ⟨w6, rfl⟩ : ∃ w6 : World, w6 = wr := ⟨_, rfl⟩
        by_cases hj16 : j < 16
        · have hq2 : decide ((j : Int) < 16) = true := by simp; omega
          have m2 : IntKind.i64.wrap ((o : Int) + (j : Int)) = (o + j : Nat) := by rw [show (o : Int) + (j : Int) = (o + j : Nat) by omega]; exact wrap_id _ (by omega) (by have := hkn.out; omega)
          have hG := Lib.hid (hGt.out j w6 (hxh.out.below HB) hj16)
          rw [← hGv.out j hj16] at hG
          have c1 := HK.cellv j _ (pg_get P j (by rw [hpl.out]; exact hj16))
          have c2 := (hyh.out.below HB).cell (o + j) (by rw [hlh.out]; have := hkn.out; omega)
          rw [← hpg.out j hj16] at c2
          have i1 : o + j < N := by have := hkn.out; omega
          obtain ⟨u, hu⟩ : ∃ u, o + j = u := ⟨_, rfl⟩
          rw [hu] at m2 c2 i1
          clear hu
          have i1' : (u : Int) < N := by omega
          have i2' : (j : Int) < 16 := by omega
          generalize P[j]?.getD 0 = y at *
          have HBh := Lib.hid HB
          have HKh := Lib.hid HK
          clear HB HK
          go_wp2_with fail
          refine (hG.out).mono ?_
          rintro r w7 ⟨rfl, rfl⟩
          go_wp2_with fail
          go_quiet (fail)
          go_wp2
          go_roundw
          case rel => exact ⟨j + 1, by omega, by go_num, Blk.drewN HKh.out _, bl_drewN HBh.out _⟩
          case measure => first | (simp [intOf]; done) | (simp [intOf]; omega)
        · have hq2 : decide ((j : Int) < 16) = false := by simp; omega
          go_wp2_with fail
          go_roundw
          case rel => exact ⟨k + 1, by omega, by go_num, HB⟩
          case measure => first | (simp [intOf]; done) | (simp [intOf]; omega)
    · have hq : decide ((k : Int) < (n : Int)) = false := by simp; omega
      go_wp2_with fail
      refine (hL.out _ hx2.out).mono ?_
      rintro r w3 ⟨rfl, rfl⟩
      go_wp2
      go_ret
      exact ⟨rfl, HB⟩
set_option maxRecDepth 100000 in
theorem same_nil (w : World) :
    Calls Try.prog 19 #[.pointer none, .slice none 0 0] w fun r w' => r = .returned (.bool true) ∧ w = w' := by
  have hL := Lib.hid (len_nil w)
  go_enter Try.func19, Try.ntmps19
  go_wp2_with fail
  refine (hL.out).mono ?_
  rintro r w1 ⟨rfl, rfl⟩
  go_wp2_with fail
  go_loopw [5] (fun i wr => i = .int .i64 0 ∧ w = wr) (fun i _ => 0)
  case atStart => exact ⟨rfl, rfl⟩
  case round =>
    obtain ⟨rfl, rfl⟩ := hrel
    go_wp2_with fail
    refine (hL.out).mono ?_
    rintro r w3 ⟨rfl, rfl⟩
    go_wp2
    go_ret
    exact ⟨rfl, rfl⟩
end Go.Proofs.Ytdokmnpkihmkpaa.Frames7
