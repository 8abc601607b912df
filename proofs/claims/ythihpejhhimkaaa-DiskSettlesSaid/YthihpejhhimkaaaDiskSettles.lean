/- The law DiskSettles. -/
import Derived.Test.YthihpejhhimkaaaDiskZ
set_option linter.unusedVariables false
namespace Go.Proofs.Ythihpejhhimkaaa.DiskSettles
open Go.RowKit Go.ChangeShapes Go.WideShapes Go.Deep Go.Proofs.Ythihpejhhimkaaa.Base Go.Proofs.Ythihpejhhimkaaa.Row Go.Proofs.Ythihpejhhimkaaa.App Go.Proofs.Ythihpejhhimkaaa.Multi Go.Proofs.Ythihpejhhimkaaa.Flat Go.Proofs.Ythihpejhhimkaaa.StEq Go.Proofs.Ythihpejhhimkaaa.Held Go.Proofs.Ythihpejhhimkaaa.Out Go.Proofs.Ythihpejhhimkaaa.HeldW Go.Proofs.Ythihpejhhimkaaa.HeldX Go.Proofs.Ythihpejhhimkaaa.DiskMath Go.Proofs.Ythihpejhhimkaaa.Disk Go.Proofs.Ythihpejhhimkaaa.Disk3 Go.Proofs.Ythihpejhhimkaaa.DiskS Go.Proofs.Ythihpejhhimkaaa.DiskU Go.Proofs.Ythihpejhhimkaaa.DiskV Go.Proofs.Ythihpejhhimkaaa.DiskW Go.Proofs.Ythihpejhhimkaaa.DiskX Go.Proofs.Ythihpejhhimkaaa.DiskZ

set_option maxRecDepth 100000 in
set_option maxHeartbeats 8000000 in
theorem main (A0 : Option Addr) (n0 c0 : Nat) (bits : Int) (Ak : Option Addr) (nk ck : Nat) (ks : List Bool) (w : World) (hd : FlatRow w (d4 w) A0 n0 c0) (hk : RF bo 1 w Ak nk ks) (hkA : ∀ a, Ak = some a → 0 < nk → a.block < w.heap.size) :
    Calls Try.prog 7 #[.slice A0 n0 c0, .int .i64 bits, .slice Ak nk ck] w fun e w' => e = .returned (.bool true) ∧ Below w.heap.size w w' := by
  have hdd := Lib.hid hd
  have hmx := flat_max hd
  have hk' := Lib.hid (fun w' (hb : Below w.heap.size w w') => hk.below hb)
  have hA := Lib.hid hkA
  clear hd hk hkA
  go_enter Try.func7, Try.ntmps7
  go_upto_region 1 with ((with_reducible refine wl_box rfl 3 (.tmp 1) rfl #[.int .i64 bits] rfl ?_); intro w1 k1 b1 s1)
  obtain ⟨ge, hge⟩ : ∃ ge, ge = w.heap.size := ⟨_, rfl⟩
  rw [← hge] at k1 s1 ⊢
  clear hge
  have e5 := b1.size
  have HKE0 := k1
  go_wp2_with fail
  have hN1 := two_new 6 (by omega) (by omega) w1 w.heap.size b1.size
  have hN2 := fun w' gd F hp hD bF hB => two_rnew2 6 (by omega) w w' w1 gd (fun i => i = ge) F hp hD bF (fun i h => by rw [h]; exact s1) hB
  rw [show ((6 : Nat) : Int) = 6 from rfl] at hN1
  simp only [show ((6 : Nat) : Int) = 6 from rfl] at hN2
  refine hN1.mono ?_
  rintro r wn1 ⟨gd, rfl, ⟨F, hD, bF⟩, bn1⟩
  have HBn := bl_then b1 bn1
  go_wp2_with fail
  refine (hN2 wn1 gd F b1.size hD bF HBn).mono ?_
  rintro r wn2 ⟨gx, rfl, T, bn2⟩
  clear hN1 hN2 hD bF
  have KE0 := (HKE0.below bn1).below bn2
  go_wp2_with fail
  go_loopw [9] (fun i wr => ∃ (k : Nat) (L : List Bk) (W : List Wr), k ≤ n0 ∧ k ≤ 30 ∧ i = .int .i64 k ∧ Two w (fun i => i = ge) wr gd gx L W L W ∧ Ok L W ∧ L.length = 6 ∧ W.length ≤ k ∧ Blk wr ge 3 #[.int .i64 bits]) (fun i _ => 30 + 1 - (intOf i).toNat)
  case atStart => exact ⟨0, _, [], by omega, by omega, rfl, T, ok_nil _, List.length_replicate, by simp, KE0⟩
  case round =>
    clear T
    obtain ⟨k, L, W, hk, hkl, rfl, T, hok, hLN, hWk, hKE⟩ := hrel
    obtain ⟨wo, rfl⟩ : ∃ wo : World, wo = wr := ⟨_, rfl⟩
    have hstop : (k < n0 ∧ k < 30) ∨ (n0 ≤ k ∨ (k < n0 ∧ 30 ≤ k)) := by omega
    have hLN' := Lib.hid hLN
    have hok' := Lib.hid hok
    have hL32 : L.length ≤ 32 := by omega
    have hW900 : W.length ≤ 900 := by omega
    have hWk' := Lib.hid hWk
    clear hLN hWk
    rcases hstop with ⟨hlt, hlt2⟩ | hstop
    · have hq : decide ((k : Int) < (n0 : Int)) = true := by simp; omega
      have hq2 : decide ((k : Int) < 30) = true := by simp; omega
      have hq3 : (k : Int) < (n0 : Int) := by omega
      have hq4 : (k : Int) < 30 := by omega
      obtain ⟨ad, d, rfl, DA, hd⟩ := deed_at hdd.out k hlt
      obtain ⟨e0, e1, e2, e3⟩ := DA.below rfl T.bl
      have hok2 := Lib.hid (pdo_ok (d := d) hok)
      have hln2 := Lib.hid (pdo_len d L W)
      have hwn2 := Lib.hid (pdo_w d L W)
      have hC := fun w' h => does_c w (fun i => i = ge) gd gx L W d w' h hok hL32 hW900 hd
      have hDA := Lib.hid DA
      clear hd hok DA
      generalize pdo d L W = pr at *
      obtain ⟨kd, bl, A, n, c, xs, Ak, nk, ck, ks⟩ := d
      simp only [dv] at hC e0 e1 e2 e3
      have hC := Lib.hid hC
      obtain ⟨L2, W2⟩ := pr
      simp only at hok2 hln2 hwn2
      go_wp2_with fail
      refine (hC.out _ T).mono ?_
      rintro r w3 ⟨rfl, T3, O3⟩
      simp only at T3
      have hKE := Out.Blk.out hKE O3 (fun h => h rfl)
      clear e0 e1 e2 e3 hC O3 T
      go_wp2_with fail
      go_roundw
      case rel => exact ⟨k + 1, L2, W2, by omega, by omega, by go_num, T3, hok2.out, by rw [hln2.out]; exact hLN'.out, by have h1 := hwn2.out; have h2 := hWk'.out; omega, hKE⟩
      case measure => first | (simp [intOf]; done) | (simp [intOf]; omega)
    · clear hok
      have hstop' : (decide ((k : Int) < (n0 : Int)) = false ∧ n0 ≤ k) ∨ (decide ((k : Int) < (n0 : Int)) = true ∧ k < n0 ∧ decide ((k : Int) < 30) = false ∧ 30 ≤ k) := by
        rcases hstop with h | ⟨h1, h2⟩
        · exact .inl ⟨by simp; omega, h⟩
        · exact .inr ⟨by simp; omega, h1, by simp; omega, h2⟩
      clear hstop
      have hLl := hLN'.out
      clear hLN'
      have hb0 := hKE.cellv 0 (.int .i64 bits) rfl
      have hS := Lib.hid (two_settle T hok'.out hL32 (by omega) bits ge rfl hb0)
      have hRS := Lib.hid (fun w' (h : Two w (fun i => i = ge) w' gd gx (land W (mk bits W) L W.length) (rest W (mk bits W) W.length) L W) => two_rsettle h hok'.out hL32 (by omega) bits)
      have hLl2 := Lib.hid (land_len W (mk bits W) L W.length)
      have hWl2 := Lib.hid (rest_len (W := W) (K := mk bits W) W.length (Nat.le_refl _))
      have hok2 := Lib.hid ((hok'.out.rest (mk bits W) W.length).land (mk bits W) W.length (W := W))
      clear T hb0
      generalize land W (mk bits W) L W.length = L2 at *
      generalize rest W (mk bits W) W.length = W2 at *
      generalize count (mk bits W) W.length = cn at *
      rcases hstop' with ⟨q1, q3⟩ | ⟨q1, q3, q2, q4⟩
      all_goals (
        go_wp2_with fail
        refine hS.out.mono ?_
        rintro r w2 ⟨rfl, T2, O2⟩
        have hKE := Out.Blk.out hKE O2 (fun h => h rfl)
        have f0 := hKE.cellv 0 (.int .i64 bits) rfl
        clear O2 hS
        go_wp2_with fail
        refine (hRS.out _ T2).mono ?_
        rintro r w3 ⟨rfl, T3, O3⟩
        have hcn : ((cn : Int) != (cn : Int)) = false := by simp
        clear f0 O3 T2 hRS hKE
        go_wp2_with fail
        refine (same_c w _ gd gx L2 W2 _ T3 (by have := hLl2.out; omega) (by have := hWl2.out; omega)).mono ?_
        rintro r w4 ⟨rfl, b4⟩
        have T4 := T3.below b4
        clear T3 b4
        go_wp2_with fail
        refine (two_crash T4 hok2.out (by have := hLl2.out; omega) (by have := hWl2.out; omega) Ak nk ck ks (hk'.out _ T4.bl) hA.out).mono ?_
        rintro r w5 ⟨rfl, T5, _⟩
        clear T4
        go_wp2_with fail
        refine (two_rcrash T5 hok2.out (by have := hLl2.out; omega) (by have := hWl2.out; omega) Ak nk ck ks (hk'.out _ T5.bl) hA.out).mono ?_
        rintro r w6 ⟨rfl, T6, _⟩
        clear T5
        have hLl3 := land_len W2 (kf ks) L2 W2.length
        generalize count (kf ks) W2.length = cm at *
        have hcm : ((cm : Int) == (cm : Int)) = true := by simp
        have hL6 : (land W2 (kf ks) L2 W2.length).length ≤ 32 := by have := hLl2.out; omega
        clear hLl3
        generalize land W2 (kf ks) L2 W2.length = L6 at *
        go_wp2_with fail
        refine (same_c w _ gd gx L6 [] _ T6 hL6 (by simp)).mono ?_
        rintro r w7 ⟨rfl, b7⟩
        have HB := bl_thenB T6.bl T6.bl.size b7
        clear T6
        go_wp2_with fail
        refine (DiskA.awake_c _).mono ?_
        rintro r wz ⟨rfl, bz⟩
        go_wp2_with fail
        go_ret
        exact ⟨rfl, bl_thenB HB HB.size bz⟩)

def Arg (i : Nat) (w : World) (v : Value) : Prop := if i = 0 then Deeds w v else Bools w v
set_option maxRecDepth 100000 in
theorem arg0 {H : Type} {enc : TypeId × Value → H} {W : World} {base : Nat} {v : Value} {d : DataW H} {p : List MemPlace} (hv : Value.okWide Try.prog W .any base 22 v)
    (h : DataW.Trod enc Try.prog W 0 (fun _ => true) true 22 v d p) : Arg 0 W v := by unfold Arg; rw [if_pos rfl]; exact deeds_of hv h
set_option maxRecDepth 100000 in
theorem arg2 {H : Type} {enc : TypeId × Value → H} {W : World} {base : Nat} {v : Value} {d : DataW H} {p : List MemPlace} (hv : Value.okWide Try.prog W .any base 29 v)
    (h : DataW.Trod enc Try.prog W 0 (fun _ => true) true 29 v d p) : Arg 2 W v := by unfold Arg; rw [if_neg (by decide)]; exact boolsl_of hv h
theorem walk (v0 : Value) (bits : Int) (v2 : Value) (w : World) (h0 : Arg 0 w v0) (_ : (Lit.int .i64 bits).wf = true) (h2 : Arg 2 w v2) :
    Calls Try.prog 7 #[v0, .int .i64 bits, v2] w fun e w' => e = .returned (.bool true) ∧ Below w.heap.size w w' := by
  unfold Arg at h0 h2
  rw [if_pos rfl] at h0
  rw [if_neg (by decide)] at h2
  obtain ⟨A, m, c, rfl, hf⟩ := h0
  obtain ⟨Ak, nk, ck, ks, rfl, hk, hA⟩ := h2
  exact main A m c bits Ak nk ck ks w hf hk hA
end Go.Proofs.Ythihpejhhimkaaa.DiskSettles
