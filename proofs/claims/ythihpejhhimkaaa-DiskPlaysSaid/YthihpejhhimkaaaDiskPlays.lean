/- The law DiskPlays. -/
import Derived.Test.YthihpejhhimkaaaDiskX
import Derived.Test.YthihpejhhimkaaaMath
set_option linter.unusedVariables false
namespace Go.Proofs.Ythihpejhhimkaaa.DiskPlays
open Go.RowKit Go.ChangeShapes Go.WideShapes Go.Deep Go.Proofs.Ythihpejhhimkaaa.Base Go.Proofs.Ythihpejhhimkaaa.Row Go.Proofs.Ythihpejhhimkaaa.App Go.Proofs.Ythihpejhhimkaaa.Multi Go.Proofs.Ythihpejhhimkaaa.Flat Go.Proofs.Ythihpejhhimkaaa.StEq Go.Proofs.Ythihpejhhimkaaa.Held Go.Proofs.Ythihpejhhimkaaa.Out Go.Proofs.Ythihpejhhimkaaa.HeldW Go.Proofs.Ythihpejhhimkaaa.HeldX Go.Proofs.Ythihpejhhimkaaa.DiskMath Go.Proofs.Ythihpejhhimkaaa.Disk Go.Proofs.Ythihpejhhimkaaa.Disk3 Go.Proofs.Ythihpejhhimkaaa.DiskS Go.Proofs.Ythihpejhhimkaaa.DiskU Go.Proofs.Ythihpejhhimkaaa.DiskV Go.Proofs.Ythihpejhhimkaaa.DiskW Go.Proofs.Ythihpejhhimkaaa.DiskX

theorem and7 (n : Int) : ∃ N : Nat, N ≤ 7 ∧ Go.bits .and .i64 n 7 = N := ⟨(n % 8).toNat, by omega, by
  have := Math.i64_and_mask n 3 7 (by omega) rfl
  rw [show ((7 : Nat) : Int) = 7 from rfl] at this
  rw [this]
  omega⟩
set_option maxRecDepth 100000 in
set_option maxHeartbeats 8000000 in
theorem main (n : Int) (A0 : Option Addr) (n0 c0 : Nat) (w : World) (hd : FlatRow w (d4 w) A0 n0 c0) :
    Calls Try.prog 3 #[.int .i64 n, .slice A0 n0 c0] w fun e w' => e = .returned (.bool true) ∧ Below w.heap.size w w' := by
  have hdd := Lib.hid hd
  have hmx := flat_max hd
  clear hd
  obtain ⟨N, hN, hNe⟩ := and7 n
  have hN0 : 0 ≤ (N : Int) := by omega
  have hN7 : (N : Int) ≤ 7 := by omega
  go_enter Try.func3, Try.ntmps3
  go_wp2_with fail
  obtain ⟨M, hM⟩ : ∃ M : Nat, M = 1 + N := ⟨_, rfl⟩
  have hM1 : 1 ≤ M := by omega
  have hM8 : M ≤ 8 := by omega
  have eN : ((1 : Int) + (N : Int)) = (M : Int) := by omega
  rw [eN]
  clear eN hNe hN0 hN7 hM hN
  have hN1 := two_new M (by omega) (by omega) w w.heap.size (bl_refl w).size
  have hN2 := fun w' gd F hp hD bF hB => two_rnew M (by omega) w w' w gd (fun _ => False) F hp hD bF (fun i h => h.elim) hB
  refine hN1.mono ?_
  rintro r wn1 ⟨gd, rfl, ⟨F, hD, bF⟩, bn1⟩
  have HBn := bl_then (bl_refl w) bn1
  go_wp2_with fail
  refine (hN2 wn1 gd F (bl_refl w).size hD bF HBn).mono ?_
  rintro r wn2 ⟨gx, rfl, T⟩
  clear hN1 hN2 hD bF
  go_wp2_with fail
  go_loopw [7] (fun i wr => ∃ (k : Nat) (L : List Bk) (W : List Wr), k ≤ n0 ∧ k ≤ 60 ∧ i = .int .i64 k ∧ Two w (fun _ => False) wr gd gx L W L W ∧ Ok L W ∧ L.length = M ∧ W.length ≤ k) (fun i _ => 60 + 1 - (intOf i).toNat)
  case atStart => exact ⟨0, _, [], by omega, by omega, rfl, T, ok_nil _, List.length_replicate, by simp⟩
  case round =>
    clear T
    obtain ⟨k, L, W, hk, hkl, rfl, T, hok, hLN, hWk⟩ := hrel
    obtain ⟨wo, rfl⟩ : ∃ wo : World, wo = wr := ⟨_, rfl⟩
    have hstop : (k < n0 ∧ k < 60) ∨ (n0 ≤ k ∨ (k < n0 ∧ 60 ≤ k)) := by omega
    have hLN' := Lib.hid hLN
    have hL32 : L.length ≤ 32 := by omega
    have hW900 : W.length ≤ 900 := by omega
    have hWk' := Lib.hid hWk
    clear hLN hWk
    rcases hstop with ⟨hlt, hlt2⟩ | hstop
    · have hq : decide ((k : Int) < (n0 : Int)) = true := by simp; omega
      have hq2 : decide ((k : Int) < 60) = true := by simp; omega
      have hq3 : (k : Int) < (n0 : Int) := by omega
      have hq4 : (k : Int) < 60 := by omega
      obtain ⟨ad, d, rfl, DA, hd⟩ := deed_at hdd.out k hlt
      obtain ⟨e0, e1, e2, e3⟩ := DA.below rfl T.bl
      have hok2 := Lib.hid (pdo_ok (d := d) hok)
      have hln2 := Lib.hid (pdo_len d L W)
      have hwn2 := Lib.hid (pdo_w d L W)
      have hC := fun w' h => does_c w (fun _ => False) gd gx L W d w' h hok hL32 hW900 hd
      have hDA := Lib.hid DA
      clear hd hok DA
      generalize pdo d L W = pr at *
      obtain ⟨kd, bl, A, n, c, xs, Ak, nk, ck, ks⟩ := d
      simp only [dv] at hC e0 e1 e2 e3
      have hC := Lib.hid hC
      obtain ⟨L2, W2⟩ := pr
      simp only at hok2 hln2 hwn2
      go_wp2_with fail
      refine (hC.out _ T).mono ?_
      rintro r w3 ⟨rfl, T3, O3⟩
      simp only at T3
      clear e0 e1 e2 e3 hC O3 T
      go_wp2_with fail
      refine (same_c w (fun _ => False) gd gx L2 W2 w3 T3 (by rw [hln2.out]; exact hL32) (by have := hwn2.out; have := hWk'.out; omega)).mono ?_
      rintro r w4 ⟨rfl, b4⟩
      have T4 := T3.below b4
      have hb4 := T4.bl
      obtain ⟨_, f1, _, _⟩ := hDA.out.below rfl hb4
      simp only at f1
      by_cases hin : 0 ≤ bl ∧ bl < L2.length
      · obtain ⟨b, rfl⟩ : ∃ b : Nat, bl = b := ⟨bl.toNat, by omega⟩
        have hbl : b < L2.length := by omega
        clear hin
        have hRd := Lib.hid (two_read T4 b hbl (by have := hln2.out; omega) (by have := hwn2.out; have := hWk'.out; omega))
        generalize DiskMath.read L2 W2 b = v at *
        go_wp2_with fail
        refine hRd.out.mono ?_
        rintro r w5 ⟨rfl, b5⟩
        have T5 := T4.below b5
        obtain ⟨gb, hgb⟩ : ∃ gb, gb = w5.heap.size := ⟨_, rfl⟩
        go_wp2_with (first
          | ((with_reducible refine wl_alloc rfl 34 rfl (bc zb) DiskR.new_d ?_); intro w6 k6 b6 s6)
          | ((refine wl_store rfl 34 (.tmp 8) (.tmp 49) rfl w5.heap.size rfl (bc v) rfl 34 (bc zb) k6 (sz_bc v) (by rw [bc_size, bc_size]) (bc_one v) ?_); intro w7 k7 g7 s7; have b7 := below_grown b6 b6.size g7 (Nat.le_refl _); have T7 := T5.below b7; obtain ⟨_, f2, _, _⟩ := hDA.out.below rfl T7.bl; simp only at f2))
        refine (two_rin_yes T7 b hbl).mono ?_
        rintro r w8 ⟨rfl, rfl⟩
        go_wp2_with fail
        go_roundw
        case rel => exact ⟨k + 1, L2, W2, by omega, by omega, by go_num, T7, hok2.out, by rw [hln2.out]; exact hLN'.out, by have h1 := hwn2.out; have h2 := hWk'.out; omega⟩
        case measure => first | (simp [intOf]; done) | (simp [intOf]; omega)
      · have hout : bl < 0 ∨ (L2.length : Int) ≤ bl := by omega
        clear hin
        have hout' := Lib.hid hout
        have hRd0 := two_read_off T4 bl hout
        obtain ⟨v, hv⟩ : ∃ v, v = zb := ⟨_, rfl⟩
        rw [← hv] at hRd0
        have hRd := Lib.hid hRd0
        clear hv hRd0
        clear hout
        go_wp2_with fail
        refine hRd.out.mono ?_
        rintro r w5 ⟨rfl, b5⟩
        have T5 := T4.below b5
        go_wp2_with (first
          | ((with_reducible refine wl_alloc rfl 34 rfl (bc zb) DiskR.new_d ?_); intro w6 k6 b6 s6)
          | ((refine wl_store rfl 34 (.tmp 8) (.tmp 49) rfl w5.heap.size rfl (bc v) rfl 34 (bc zb) k6 (sz_bc v) (by rw [bc_size, bc_size]) (bc_one v) ?_); intro w7 k7 g7 s7; have b7 := below_grown b6 b6.size g7 (Nat.le_refl _); have T7 := T5.below b7; obtain ⟨_, f2, _, _⟩ := hDA.out.below rfl T7.bl; simp only at f2))
        refine (two_rin_no T7 bl hout'.out).mono ?_
        rintro r w8 ⟨rfl, rfl⟩
        go_wp2_with fail
        go_roundw
        case rel => exact ⟨k + 1, L2, W2, by omega, by omega, by go_num, T7, hok2.out, by rw [hln2.out]; exact hLN'.out, by have h1 := hwn2.out; have h2 := hWk'.out; omega⟩
        case measure => first | (simp [intOf]; done) | (simp [intOf]; omega)
    · clear hok
      have hstop' : (decide ((k : Int) < (n0 : Int)) = false ∧ n0 ≤ k) ∨ (decide ((k : Int) < (n0 : Int)) = true ∧ k < n0 ∧ decide ((k : Int) < 60) = false ∧ 60 ≤ k) := by
        rcases hstop with h | ⟨h1, h2⟩
        · exact .inl ⟨by simp; omega, h⟩
        · exact .inr ⟨by simp; omega, h1, by simp; omega, h2⟩
      clear hstop
      rcases hstop' with ⟨q1, q3⟩ | ⟨q1, q3, q2, q4⟩
      all_goals (
        go_wp2_with fail
        refine (DiskA.awake_c _).mono ?_
        rintro r w3 ⟨rfl, b3⟩
        go_wp2_with fail
        go_ret
        exact ⟨rfl, bl_then T.bl b3⟩)

def Arg (i : Nat) (w : World) (v : Value) : Prop := Deeds w v
set_option maxRecDepth 100000 in
theorem arg1 {H : Type} {enc : TypeId × Value → H} {W : World} {base : Nat} {v : Value} {d : DataW H} {p : List MemPlace} (hv : Value.okWide Try.prog W .any base 22 v)
    (h : DataW.Trod enc Try.prog W 0 (fun _ => true) true 22 v d p) : Arg 1 W v := deeds_of hv h
theorem walk (n : Int) (v1 : Value) (w : World) (_ : (Lit.int .i64 n).wf = true) (h1 : Arg 1 w v1) :
    Calls Try.prog 3 #[.int .i64 n, v1] w fun e w' => e = .returned (.bool true) ∧ Below w.heap.size w w' := by
  obtain ⟨A, m, c, rfl, hf⟩ := h1
  exact main n A m c w hf
end Go.Proofs.Ythihpejhhimkaaa.DiskPlays
