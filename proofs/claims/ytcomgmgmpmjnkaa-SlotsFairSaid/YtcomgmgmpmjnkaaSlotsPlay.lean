/- SlotsPlay: at all slots and all deeds the law's text returns true. -/
import Derived.Test.YtcomgmgmpmjnkaaSlotsWait
import Derived.StillTailTactics
import Derived.Deep.RegionHeld3
set_option linter.unusedVariables false
namespace Go.Proofs.Ytcomgmgmpmjnkaa.SlotsPlay
open Go.RowKit Go.Proofs.Ytcomgmgmpmjnkaa.Base Go.Proofs.Ytcomgmgmpmjnkaa.Row Go.Proofs.Ytcomgmgmpmjnkaa.App Go.Proofs.Ytcomgmgmpmjnkaa.Slots Go.Proofs.Ytcomgmgmpmjnkaa.Slots2 Go.Proofs.Ytcomgmgmpmjnkaa.Slots3 Go.Proofs.Ytcomgmgmpmjnkaa.Slots4 Go.Proofs.Ytcomgmgmpmjnkaa.Slots5 Go.Proofs.Ytcomgmgmpmjnkaa.SlotsAw Go.Proofs.Ytcomgmgmpmjnkaa.SlotsWait

/-- A slice that reads as xs and does not lie in block g. -/
structure RdF (w : World) (A : Option Addr) (n : Nat) (xs : List Int) (g : Nat) : Prop where
  rd : Rd w .i64 A n xs
  ne : 0 < n → ∀ ad, A = some ad → ad.block ≠ g
theorem RdF.below {w w1 : World} {A : Option Addr} {n g : Nat} {xs : List Int} (h : RdF w A n xs g) (hb : Below w.heap.size w w1) : RdF w1 A n xs g := ⟨h.rd.below hb, h.ne⟩
theorem RdF.grown {w w1 : World} {A : Option Addr} {n g : Nat} {xs : List Int} (h : RdF w A n xs g) (hg : w.grownBy w1 (some g)) : RdF w1 A n xs g :=
  ⟨⟨h.rd.len, h.rd.max, fun hn => by
    obtain ⟨ad, e, hc⟩ := h.rd.cells hn
    refine ⟨ad, e, fun j hj => ?_⟩
    have hb : (ad.add j).block = ad.block := by unfold Addr.add; split <;> rfl
    have hlt := World.block_lt_of_cell? w _ (hc j hj)
    rw [← hc j hj]
    exact World.cell?_of_block (hg.block _ hlt (by rw [hb]; intro h'; injection h' with h'; exact h.ne hn ad e h'))⟩, h.ne⟩
theorem RdF.own {w : World} {base n c g : Nat} {A : Option Addr} {xs : List Int} (h : w.ownsRow base 3 1 (.slice A n c) n (nums .i64 xs)) (hg : g < base ∨ w.heap.size ≤ g) : RdF w A n xs g :=
  ⟨Rd.of_own h, fun _ ad e => by
    subst e
    have := h.lt ad.block rfl
    omega⟩
theorem rot_head (l : List Int) (t n : Nat) (hl : l.length = n) (ht : t < n) : (rot l t)[0]?.getD 0 = l[t]?.getD 0 := by
  rw [rot_get l t n 0 hl ht (by omega)]
  unfold nth
  rw [Nat.add_zero, Nat.mod_eq_of_lt ht]

/-- What holds of the slots at each moment. -/
structure Sl (w : World) (g : Nat) (A : Option Addr) (n c t : Nat) (l : List Int) (X : Option Addr) (cx : Nat) : Prop where
  v : Blk w g 96 (rv A n c t)
  a : RdF w A n l g
  x : RdF w X n (rot l t) g
  n32 : n ≤ 32
  nc : n ≤ c
  nx : n ≤ cx
  an : A = none → c = 0
  xn : X = none → cx = 0
  at_ : t < n ∨ t = 0

theorem Sl.below {w w1 : World} {g n c t cx : Nat} {A X : Option Addr} {l : List Int} (h : Sl w g A n c t l X cx) (hb : Below w.heap.size w w1) : Sl w1 g A n c t l X cx :=
  ⟨h.v.below hb, h.a.below hb, h.x.below hb, h.n32, h.nc, h.nx, h.an, h.xn, h.at_⟩

def sgnB (m n : Nat) : Bool := decide (m < n)
/-- What the program's Wait and the reference's tell of the same slots. -/
theorem waits {w : World} {g n c t cx : Nat} {A X : Option Addr} {l : List Int} (h : Sl w g A n c t l X cx) (env : Int) :
    ∃ m, m ≤ n ∧ (∀ j, j < m → ¬ nth l n t j = env) ∧ (m < n → nth l n t m = env) ∧ (∀ j, j < m → ¬ (rot l t)[j]?.getD 0 = env) ∧ (m < n → (rot l t)[m]?.getD 0 = env) := by
  have hl := h.a.rd.len
  have hr : (rot l t).length = n := (rot_len l t).trans hl
  have key : ∀ j, j < n → nth l n t j = (rot l t)[j]?.getD 0 := fun j hj => by
    have ht : t < n := by have := h.at_; omega
    exact (rot_get l t n j hl ht hj).symm
  have hm : fst (rot l t) env ≤ n := by rw [← hr]; exact fst_le _ _
  have hno := fst_no (rot l t) env
  have hyes := fst_yes (rot l t) env
  rw [hr] at hyes
  exact ⟨fst (rot l t) env, hm, fun j hj => by rw [key j (by omega)]; exact hno j hj, fun hlt => by rw [key _ hlt]; exact hyes hlt, hno, hyes⟩

set_option maxRecDepth 100000 in
set_option maxHeartbeats 8000000 in
theorem main (A : Option Addr) (n0 c : Nat) (l0 : List Int) (D : Option Addr) (M cd : Nat) (ds : List Int) (w : World) (hr : Rd w .i64 A n0 l0) (hA : A = none → c = 0) (hnc : n0 ≤ c) (hd : Rd w .i64 D M ds) :
    Calls Try.prog 11 #[.slice A n0 c, .slice D M cd] w fun e w' => e = .returned (.bool true) ∧ Below w.heap.size w w' := by
  have hlen := Lib.hid hr.len
  have hmx := hr.max
  have hmxd := hd.max
  have hO := Lib.hid (of_c A n0 c l0 w hr hA)
  have hr' := Lib.hid hr
  have hA' := Lib.hid hA
  clear hr hA
  go_enter Try.func11, Try.ntmps11
  go_wp2_with fail
  refine hO.out.mono ?_
  rintro r w1 ⟨⟨hok, A1, c1, rfl, HO⟩ | ⟨hok, rfl⟩, b1⟩
  · have hn := okL_len l0 hok
    rw [hlen.out] at hn
    have hok' := Lib.hid hok
    have R0 := Lib.hid (hr'.out.below b1)
    have hd1 := Lib.hid (hd.below b1)
    have hc1 := Lib.hid (own_cap HO)
    have hn1 := Lib.hid (own_none HO)
    have RF := Lib.hid (RdF.own (g := w1.heap.size) HO (.inr (Nat.le_refl _)))
    have XF := Lib.hid (show RdF w1 A n0 l0 w1.heap.size from ⟨R0.out, fun hp ad e => by
      obtain ⟨ad', e', hc'⟩ := R0.out.at_ 0 hp
      rw [e] at e'
      injection e' with e'
      subst e'
      have := World.block_lt_of_cell? w1 _ hc'
      rw [show ad.add 0 = ad from by simp [Addr.add]] at this
      omega⟩)
    clear HO hok hd
    go_wp2_with (first
      | ((with_reducible refine wl_alloc rfl 96 rfl (rv none 0 0 0) new_v ?_); intro w2 k2 b2 s2)
      | ((with_reducible refine wl_store rfl 96 _ _ rfl w1.heap.size rfl (rv A1 n0 c1 0) rfl 96 (rv none 0 0 0) k2 (size_v _ rfl) rfl (one_v _ _ _ _) ?_); intro w3 k3 g3 s3))
    have B3 := below_grown b2 b2.size g3 (Nat.le_refl _)
    refine (right_c A n0 c l0 w3 (R0.out.below B3)).mono ?_
    rintro r w4 ⟨rfl, rfl⟩
    rw [hok'.out]
    go_wp2_with fail
    have S0 : Sl w3 w1.heap.size A1 n0 c1 0 l0 A c := ⟨k3, (RF.out.below b2).grown g3, by rw [rot_zero]; exact (XF.out.below b2).grown g3, hn, hc1.out, hnc, hn1.out, hA'.out, by omega⟩
    have hdc : Hid (∀ j, j < M → ∃ ad, D = some ad ∧ ∀ w', Below w1.heap.size w1 w' → w'.cell? (ad.add j) = some (.int .i64 (ds[j]?.getD 0))) := Lib.hid (fun j hj => by
      obtain ⟨ad, e, hc⟩ := hd1.out.at_ j hj
      exact ⟨ad, e, fun w' hb => bl_cell hb hc⟩)
    go_loopw [7, 8] (fun x i wr => ∃ (k : Nat) (A2 : Option Addr) (n2 c2 t2 : Nat) (l2 : List Int) (X : Option Addr) (cx : Nat), k ≤ M ∧ i = .int .i64 k ∧ x = .slice X n2 cx ∧ Sl wr w1.heap.size A2 n2 c2 t2 l2 X cx ∧ Below w1.heap.size w1 wr) (fun _ i _ => M - (intOf i).toNat)
    case atStart => exact ⟨0, A1, n0, c1, 0, l0, A, c, by omega, rfl, rfl, S0, B3⟩
    case round =>
      clear S0 B3 k3 k2 g3 b2
      obtain ⟨k, A2, n2, c2, t2, l2, X, cx, hk, rfl, rfl, S, HB⟩ := hrel
      obtain ⟨wo, rfl⟩ : ∃ wo : World, wo = wr := ⟨_, rfl⟩
      by_cases hlt : k < M
      · have hq : decide ((k : Int) < (M : Int)) = true := by simp; omega
        by_cases hlt6 : k < 60
        · have hq6 : decide ((k : Int) < 60) = true := by simp; omega
          obtain ⟨dd, rfl, hdc1⟩ := hdc.out k hlt
          have hdc2 := Lib.hid hdc1
          have qd := hdc1 wo HB
          obtain ⟨d, hdd⟩ : ∃ d, ds[k]?.getD 0 = d := ⟨_, rfl⟩
          rw [hdd] at qd hdc1 hdc2
          obtain ⟨e, he⟩ : ∃ e, bits .and .i64 d 15 = e := ⟨_, rfl⟩
          replace hdc := hdc2
          clear hdd hdc1 hdc2
          by_cases hd0 : 0 ≤ d
          · have hq0 : decide (0 ≤ d) = true := by simp; omega
            by_cases hn0 : n2 = 0
            · have hq9 : decide ((0 : Int) < (0 : Int)) = false := by simp
              subst hn0
              have hl0 : l2 = [] := List.length_eq_zero_iff.1 S.a.rd.len
              have ht0 : t2 = 0 := by have := S.at_; omega
              subst ht0
              have S1 := Lib.hid S
              have KV := S.v
              clear S
              go_wp2_with (first | (with_reducible refine wl_load rfl 96 _ rfl w1.heap.size rfl 96 (rv A2 0 c2 (0 : Nat)) _ KV Try.underlying96 rfl (size_v _ rfl) ?_))
              refine (next_no A2 c2 (0 : Nat) wo).mono ?_
              rintro r w5 ⟨rfl, b5⟩
              have K5 := S1.out.v.below b5
              have HB5 := bl_then HB b5
              have z5 := K5.lt
              go_wp2_with (first
                | ((with_reducible refine wl_alloc rfl 96 rfl (rv none 0 0 0) new_v ?_); intro w6 k6 b6 s6; have K6 := K5.below b6)
                | ((with_reducible refine wl_store rfl 96 _ _ rfl w5.heap.size rfl (rv A2 0 c2 (0 : Nat)) rfl 96 (rv none 0 0 0) k6 (size_v _ rfl) rfl (one_v _ _ _ _) ?_); intro w7 k7 g7 s7; have K7 := K6.grown g7 (fun e => by injection e with e; omega))
                | (with_reducible refine wl_load rfl 96 _ rfl w5.heap.size rfl 96 (rv A2 0 c2 (0 : Nat)) _ k7 Try.underlying96 rfl (size_v _ rfl) ?_)
                | ((with_reducible refine wl_store rfl 96 _ _ rfl w1.heap.size rfl (rv A2 0 c2 (0 : Nat)) rfl 96 (rv A2 0 c2 (0 : Nat)) K7 (size_v _ rfl) rfl (one_v _ _ _ _) ?_); intro w8 k8 g8 s8))
              have bb7 := below_grown (bl_then b5 b6) (by have := b5.size; have := b6.size; omega) g7 b5.size
              have HB7 := bl_then HB bb7
              have HB8 := below_grown HB7 HB7.size g8 (Nat.le_refl _)
              have S8 : Sl w8 w1.heap.size A2 0 c2 0 l2 X cx := ⟨k8, (S1.out.a.below bb7).grown g8, (S1.out.x.below bb7).grown g8, S1.out.n32, S1.out.nc, S1.out.nx, S1.out.an, S1.out.xn, S1.out.at_⟩
              clear k6 k7 k8 K5 K6 K7 b5 b6 g7 g8 bb7 HB7 HB5 KV
              refine (refnext_c X 0 cx (rot l2 0) w8 S8.x.rd (by omega) (by omega)).mono ?_
              rintro r wb ⟨⟨X3, cx3, rfl, HO3⟩, b9⟩
              have HB2 := bl_then HB8 b9
              have S : Sl wb w1.heap.size A2 0 c2 0 l2 X3 cx3 := ⟨S8.v.below b9, S8.a.below b9, ⟨⟨by rw [rot_len, hl0]; rfl, by omega, fun h => absurd h (by omega)⟩, fun h => absurd h (by omega)⟩, by omega, by omega, by omega, S8.an, own_none HO3, .inr rfl⟩
              clear HO3 S8 HB8 S1 HB qd
              obtain ⟨m, hmle, hno, hyes, hnoR, hyesR⟩ := waits S e
              have p0 := S.v.cellv 0 (.slice A2 0 c2) rfl
              have p1 := S.v.cellv 1 (.int .i64 0) rfl
              have pd := hdc.out _ HB2
              have ht1 : 0 ≤ 0 := by have := S.at_; omega
              have hn1 : 0 ≤ 1000 := by have := S.n32; omega
              have S' := Lib.hid S
              have HB2' := Lib.hid HB2
              have hno := Lib.hid hno
              have hyes := Lib.hid hyes
              have hnoR := Lib.hid hnoR
              have hyesR := Lib.hid hyesR
              clear S HB2
              by_cases hmn : m < 0
              · have hW := Lib.hid (wait_at A2 0 c2 0 e l2 wb.drew (S'.out.a.rd.below (bl_drew (bl_refl _))) hn1 (by omega) m (m : Int) true hmle hno.out hyes.out (by simp [wN, hmn]) (by simp [wB, hmn]))
                have hwR : Hid (wR 0 m = (m : Int)) := Lib.hid (by simp [wR, hmn])
                have hge : decide (0 ≤ (m : Int)) = true := by simp
                go_wp2_with fail
                go_region_held3 (fun w' => w'.cell? ⟨w1.heap.size, 0, none⟩ = some (.slice A2 0 c2) ∧ w'.cell? ⟨w1.heap.size, 1, none⟩ = some (.int .i64 0) ∧ w'.cell? (dd.add k) = some (.int .i64 d))
                  (first
                    | go_keep
                    | exact ⟨bl_cell b5 p0, bl_cell b5 p1, bl_cell b5 pd⟩)
                  (first
                    | (go_at_call 44; refine (hW.out).mono ?_; rintro r w5 ⟨rfl, b5'⟩; have b5 := bl_then (bl_drew (bl_refl wb)) b5'))
                have pd5 := bl_cell b5 pd
                clear p0 p1 pd
                go_wp2_with fail
                refine (refwait_c X3 0 cx3 e (rot l2 0) w5 (S'.out.x.rd.below b5) m hmle hnoR.out hyesR.out).mono ?_
                rintro r w6 ⟨rfl, rfl⟩
                rw [hwR.out]
                have k5 := S'.out.v.below b5
                go_wp2_with (first | (with_reducible refine wl_load rfl 96 _ rfl w1.heap.size rfl 96 (rv A2 0 c2 0) _ k5 Try.underlying96 rfl (size_v _ rfl) ?_))
                refine (all_c A2 0 c2 0 l2 w5 (S'.out.a.rd.below b5) S'.out.an ht1 S'.out.nc hn1).mono ?_
                rintro r w7 ⟨⟨A9, c9, rfl, HO9⟩, b7⟩
                go_wp2_with fail
                have R9 := Rd.of_own HO9
                refine (same_c A9 X3 0 0 c9 cx3 (rot l2 0) (rot l2 0) w7 R9 ((S'.out.x.rd.below b5).below b7)).mono ?_
                rintro r w8 ⟨rfl, b8⟩
                rw [beq_self_eq_true]
                have k8 := (k5.below b7).below b8
                clear R9 HO9
                go_wp2_with (first | (refine wl_load_on rfl 96 _ rfl w1.heap.size rfl 96 (rv A2 0 c2 0) _ k8 Try.underlying96 rfl (size_v _ rfl) (by exact ⟨_, _, rfl, rfl, rfl⟩) ?_))
                refine (len_c A2 0 c2 0 w8).mono ?_
                rintro r w9 ⟨rfl, b9⟩
                go_wp2_with fail
                go_roundw
                case rel => exact ⟨k + 1, A2, 0, c2, 0, l2, X3, cx3, by omega, by go_num, rfl, (((S'.out.below b5).below b7).below b8).below b9, bl_then (bl_then (bl_then (bl_then HB2'.out b5) b7) b8) b9⟩
                case measure => first | (simp [intOf]; done) | (simp [intOf]; omega)
              · have hW := Lib.hid (wait_at A2 0 c2 0 e l2 wb.drew (S'.out.a.rd.below (bl_drew (bl_refl _))) hn1 (by omega) m 0 false hmle hno.out hyes.out (by simp [wN, hmn]) (by simp [wB, hmn]))
                have hwR : Hid (wR 0 m = -1) := Lib.hid (by simp [wR, hmn])
                go_wp2_with fail
                go_region_held3 (fun w' => w'.cell? ⟨w1.heap.size, 0, none⟩ = some (.slice A2 0 c2) ∧ w'.cell? ⟨w1.heap.size, 1, none⟩ = some (.int .i64 0) ∧ w'.cell? (dd.add k) = some (.int .i64 d))
                  (first
                    | go_keep
                    | exact ⟨bl_cell b5 p0, bl_cell b5 p1, bl_cell b5 pd⟩)
                  (first
                    | (go_at_call 44; refine (hW.out).mono ?_; rintro r w5 ⟨rfl, b5'⟩; have b5 := bl_then (bl_drew (bl_refl wb)) b5'))
                have pd5 := bl_cell b5 pd
                clear p0 p1 pd
                go_wp2_with fail
                refine (refwait_c X3 0 cx3 e (rot l2 0) w5 (S'.out.x.rd.below b5) m hmle hnoR.out hyesR.out).mono ?_
                rintro r w6 ⟨rfl, rfl⟩
                rw [hwR.out]
                have k5 := S'.out.v.below b5
                go_wp2_with (first | (with_reducible refine wl_load rfl 96 _ rfl w1.heap.size rfl 96 (rv A2 0 c2 0) _ k5 Try.underlying96 rfl (size_v _ rfl) ?_))
                refine (all_c A2 0 c2 0 l2 w5 (S'.out.a.rd.below b5) S'.out.an ht1 S'.out.nc hn1).mono ?_
                rintro r w7 ⟨⟨A9, c9, rfl, HO9⟩, b7⟩
                go_wp2_with fail
                have R9 := Rd.of_own HO9
                refine (same_c A9 X3 0 0 c9 cx3 (rot l2 0) (rot l2 0) w7 R9 ((S'.out.x.rd.below b5).below b7)).mono ?_
                rintro r w8 ⟨rfl, b8⟩
                rw [beq_self_eq_true]
                have k8 := (k5.below b7).below b8
                clear R9 HO9
                go_wp2_with (first | (refine wl_load_on rfl 96 _ rfl w1.heap.size rfl 96 (rv A2 0 c2 0) _ k8 Try.underlying96 rfl (size_v _ rfl) (by exact ⟨_, _, rfl, rfl, rfl⟩) ?_))
                refine (len_c A2 0 c2 0 w8).mono ?_
                rintro r w9 ⟨rfl, b9⟩
                go_wp2_with fail
                go_roundw
                case rel => exact ⟨k + 1, A2, 0, c2, 0, l2, X3, cx3, by omega, by go_num, rfl, (((S'.out.below b5).below b7).below b8).below b9, bl_then (bl_then (bl_then (bl_then HB2'.out b5) b7) b8) b9⟩
                case measure => first | (simp [intOf]; done) | (simp [intOf]; omega)
            · have htn : t2 < n2 := by have := S.at_; omega
              have hhd := rot_head l2 t2 n2 S.a.rd.len htn
              obtain ⟨xd, hX, hxc⟩ := S.x.rd.at_ 0 (by omega)
              obtain ⟨t', ht'⟩ : ∃ t', (t2 + 1) % n2 = t' := ⟨_, rfl⟩
              obtain ⟨y0, hy0⟩ : ∃ y0, l2[t2]?.getD 0 = y0 := ⟨_, rfl⟩
              rw [hhd, hy0, show xd.add 0 = xd from by simp [Addr.add]] at hxc
              have hrn := Lib.hid (rot_next l2 t2 n2 S.a.rd.len htn)
              rw [ht'] at hrn
              have ht'lt : t' < n2 := by rw [← ht']; exact Nat.mod_lt _ (by omega)
              have hnx := Lib.hid (next_at A2 n2 c2 t2 t' y0 l2 wo S.a.rd htn ht' hy0)
              have hq7 : decide (0 < (n2 : Int)) = true := by simp; omega
              have hq8 : (0 : Int) < (n2 : Int) := by omega
              subst hX
              have S1 := Lib.hid S
              have KV := S.v
              clear S ht' hy0 hhd
              go_wp2_with (first | (with_reducible refine wl_load rfl 96 _ rfl w1.heap.size rfl 96 (rv A2 n2 c2 t2) _ KV Try.underlying96 rfl (size_v _ rfl) ?_))
              refine (hnx.out).mono ?_
              rintro r w5 ⟨rfl, b5⟩
              have K5 := S1.out.v.below b5
              have HB5 := bl_then HB b5
              have z5 := K5.lt
              have hxc5 := bl_cell b5 hxc
              go_wp2_with (first
                | ((with_reducible refine wl_alloc rfl 96 rfl (rv none 0 0 0) new_v ?_); intro w6 k6 b6 s6; have K6 := K5.below b6)
                | ((with_reducible refine wl_store rfl 96 _ _ rfl w5.heap.size rfl (rv A2 n2 c2 t') rfl 96 (rv none 0 0 0) k6 (size_v _ rfl) rfl (one_v _ _ _ _) ?_); intro w7 k7 g7 s7; have K7 := K6.grown g7 (fun e => by injection e with e; omega); have bb7 := below_grown (bl_then b5 b6) (by have := b5.size; have := b6.size; omega) g7 b5.size; have hxc7 := bl_cell bb7 hxc)
                | (with_reducible refine wl_load rfl 96 _ rfl w5.heap.size rfl 96 (rv A2 n2 c2 t') _ k7 Try.underlying96 rfl (size_v _ rfl) ?_)
                | ((with_reducible refine wl_store rfl 96 _ _ rfl w1.heap.size rfl (rv A2 n2 c2 t') rfl 96 (rv A2 n2 c2 t2) K7 (size_v _ rfl) rfl (one_v _ _ _ _) ?_); intro w8 k8 g8 s8))
              have HB7 := bl_then HB bb7
              have HB8 := below_grown HB7 HB7.size g8 (Nat.le_refl _)
              have A8 := (S1.out.a.below bb7).grown g8
              have X8 := (S1.out.x.below bb7).grown g8
              have sz8 := HB8.size
              have sw1 : w1.heap.size < w8.heap.size := k8.lt
              refine (refnext_c (some xd) n2 cx (rot l2 t2) w8 X8.rd S1.out.nx (by have := S1.out.n32; omega)).mono ?_
              rintro r wb ⟨⟨X3, cx3, rfl, HO3⟩, b9⟩
              have HB2 := bl_then HB8 b9
              have S : Sl wb w1.heap.size A2 n2 c2 t' l2 X3 cx3 := ⟨k8.below b9, A8.below b9, by rw [hrn.out]; exact RdF.own HO3 (.inl sw1), S1.out.n32, S1.out.nc, own_cap HO3, S1.out.an, own_none HO3, .inl ht'lt⟩
              clear k6 k7 k8 K5 K6 K7 b5 b6 g7 g8 bb7 HB7 HB5 KV HO3 HB8 A8 X8 S1 HB qd hxc hxc5 hxc7 hnx
              obtain ⟨m, hmle, hno, hyes, hnoR, hyesR⟩ := waits S e
              have p0 := S.v.cellv 0 (.slice A2 n2 c2) rfl
              have p1 := S.v.cellv 1 (.int .i64 t') rfl
              have pd := hdc.out _ HB2
              have ht1 : t' ≤ n2 := by have := S.at_; omega
              have hn1 : n2 ≤ 1000 := by have := S.n32; omega
              have S' := Lib.hid S
              have HB2' := Lib.hid HB2
              have hno := Lib.hid hno
              have hyes := Lib.hid hyes
              have hnoR := Lib.hid hnoR
              have hyesR := Lib.hid hyesR
              clear S HB2
              by_cases hmn : m < n2
              · have hW := Lib.hid (wait_at A2 n2 c2 t' e l2 wb.drew (S'.out.a.rd.below (bl_drew (bl_refl _))) hn1 (by omega) m (m : Int) true hmle hno.out hyes.out (by simp [wN, hmn]) (by simp [wB, hmn]))
                have hwR : Hid (wR n2 m = (m : Int)) := Lib.hid (by simp [wR, hmn])
                have hge : decide (0 ≤ (m : Int)) = true := by simp
                go_wp2_with fail
                go_region_held3 (fun w' => w'.cell? ⟨w1.heap.size, 0, none⟩ = some (.slice A2 n2 c2) ∧ w'.cell? ⟨w1.heap.size, 1, none⟩ = some (.int .i64 t') ∧ w'.cell? (dd.add k) = some (.int .i64 d))
                  (first
                    | go_keep
                    | exact ⟨bl_cell b5 p0, bl_cell b5 p1, bl_cell b5 pd⟩)
                  (first
                    | (go_at_call 44; refine (hW.out).mono ?_; rintro r w5 ⟨rfl, b5'⟩; have b5 := bl_then (bl_drew (bl_refl wb)) b5'))
                have pd5 := bl_cell b5 pd
                clear p0 p1 pd
                go_wp2_with fail
                refine (refwait_c X3 n2 cx3 e (rot l2 t') w5 (S'.out.x.rd.below b5) m hmle hnoR.out hyesR.out).mono ?_
                rintro r w6 ⟨rfl, rfl⟩
                rw [hwR.out]
                have k5 := S'.out.v.below b5
                go_wp2_with (first | (with_reducible refine wl_load rfl 96 _ rfl w1.heap.size rfl 96 (rv A2 n2 c2 t') _ k5 Try.underlying96 rfl (size_v _ rfl) ?_))
                refine (all_c A2 n2 c2 t' l2 w5 (S'.out.a.rd.below b5) S'.out.an ht1 S'.out.nc hn1).mono ?_
                rintro r w7 ⟨⟨A9, c9, rfl, HO9⟩, b7⟩
                go_wp2_with fail
                have R9 := Rd.of_own HO9
                refine (same_c A9 X3 n2 n2 c9 cx3 (rot l2 t') (rot l2 t') w7 R9 ((S'.out.x.rd.below b5).below b7)).mono ?_
                rintro r w8 ⟨rfl, b8⟩
                rw [beq_self_eq_true]
                have k8 := (k5.below b7).below b8
                clear R9 HO9
                go_wp2_with (first | (refine wl_load_on rfl 96 _ rfl w1.heap.size rfl 96 (rv A2 n2 c2 t') _ k8 Try.underlying96 rfl (size_v _ rfl) (by exact ⟨_, _, rfl, rfl, rfl⟩) ?_))
                refine (len_c A2 n2 c2 t' w8).mono ?_
                rintro r w9 ⟨rfl, b9⟩
                go_wp2_with fail
                go_roundw
                case rel => exact ⟨k + 1, A2, n2, c2, t', l2, X3, cx3, by omega, by go_num, rfl, (((S'.out.below b5).below b7).below b8).below b9, bl_then (bl_then (bl_then (bl_then HB2'.out b5) b7) b8) b9⟩
                case measure => first | (simp [intOf]; done) | (simp [intOf]; omega)
              · have hW := Lib.hid (wait_at A2 n2 c2 t' e l2 wb.drew (S'.out.a.rd.below (bl_drew (bl_refl _))) hn1 (by omega) m 0 false hmle hno.out hyes.out (by simp [wN, hmn]) (by simp [wB, hmn]))
                have hwR : Hid (wR n2 m = -1) := Lib.hid (by simp [wR, hmn])
                go_wp2_with fail
                go_region_held3 (fun w' => w'.cell? ⟨w1.heap.size, 0, none⟩ = some (.slice A2 n2 c2) ∧ w'.cell? ⟨w1.heap.size, 1, none⟩ = some (.int .i64 t') ∧ w'.cell? (dd.add k) = some (.int .i64 d))
                  (first
                    | go_keep
                    | exact ⟨bl_cell b5 p0, bl_cell b5 p1, bl_cell b5 pd⟩)
                  (first
                    | (go_at_call 44; refine (hW.out).mono ?_; rintro r w5 ⟨rfl, b5'⟩; have b5 := bl_then (bl_drew (bl_refl wb)) b5'))
                have pd5 := bl_cell b5 pd
                clear p0 p1 pd
                go_wp2_with fail
                refine (refwait_c X3 n2 cx3 e (rot l2 t') w5 (S'.out.x.rd.below b5) m hmle hnoR.out hyesR.out).mono ?_
                rintro r w6 ⟨rfl, rfl⟩
                rw [hwR.out]
                have k5 := S'.out.v.below b5
                go_wp2_with (first | (with_reducible refine wl_load rfl 96 _ rfl w1.heap.size rfl 96 (rv A2 n2 c2 t') _ k5 Try.underlying96 rfl (size_v _ rfl) ?_))
                refine (all_c A2 n2 c2 t' l2 w5 (S'.out.a.rd.below b5) S'.out.an ht1 S'.out.nc hn1).mono ?_
                rintro r w7 ⟨⟨A9, c9, rfl, HO9⟩, b7⟩
                go_wp2_with fail
                have R9 := Rd.of_own HO9
                refine (same_c A9 X3 n2 n2 c9 cx3 (rot l2 t') (rot l2 t') w7 R9 ((S'.out.x.rd.below b5).below b7)).mono ?_
                rintro r w8 ⟨rfl, b8⟩
                rw [beq_self_eq_true]
                have k8 := (k5.below b7).below b8
                clear R9 HO9
                go_wp2_with (first | (refine wl_load_on rfl 96 _ rfl w1.heap.size rfl 96 (rv A2 n2 c2 t') _ k8 Try.underlying96 rfl (size_v _ rfl) (by exact ⟨_, _, rfl, rfl, rfl⟩) ?_))
                refine (len_c A2 n2 c2 t' w8).mono ?_
                rintro r w9 ⟨rfl, b9⟩
                go_wp2_with fail
                go_roundw
                case rel => exact ⟨k + 1, A2, n2, c2, t', l2, X3, cx3, by omega, by go_num, rfl, (((S'.out.below b5).below b7).below b8).below b9, bl_then (bl_then (bl_then (bl_then HB2'.out b5) b7) b8) b9⟩
                case measure => first | (simp [intOf]; done) | (simp [intOf]; omega)
          · have hq0 : decide (0 ≤ d) = false := by simp; omega
            have q0 := S.v.cellv 0 (.slice A2 n2 c2) rfl
            have q1 := S.v.cellv 1 (.int .i64 t2) rfl
            have S1 := Lib.hid S
            have htl : t2 ≤ n2 := by have := S.at_; omega
            have hn1 : n2 ≤ 1000 := by have := S.n32; omega
            clear S
            go_wp2_with fail
            refine wp_region_still_tail 6 (by kernel_rfl) (by kernel_rfl) ?_
            simp only [List.take_succ_cons, List.take_zero, List.drop_succ_cons, List.drop_zero]
            repeat still_step
            refine wpStill_nil ?_
            change wpList _ _ _ _ _ wo.drew
            go_wp2_with fail
            refine (without_c A2 n2 c2 t2 e l2 wo.drew (S1.out.a.rd.below (bl_drew (bl_refl _))) htl hn1).mono ?_
            rintro r w5 ⟨⟨A3, c3, rfl, HO3⟩, b5'⟩
            have b5 := bl_then (bl_drew (bl_refl wo)) b5'
            have K5 := S1.out.v.below b5
            have z5 := K5.lt
            have HB5 := bl_then HB b5
            have sw0 : w1.heap.size < wo.drew.heap.size := S1.out.v.lt
            have qd5 := bl_cell b5 qd
            obtain ⟨n3, hn3⟩ : ∃ n3, (fil l2 e).length = n3 := ⟨_, rfl⟩
            obtain ⟨t3, ht3⟩ : ∃ t3, wat l2 e t2 = t3 := ⟨_, rfl⟩
            rw [hn3] at HO3
            rw [hn3, ht3]
            have hrw := Lib.hid (rot_without l2 e t2)
            rw [ht3] at hrw
            have hat := Lib.hid (wat_lt l2 e t2)
            rw [ht3, hn3] at hat
            have hn3le : n3 ≤ n2 := by rw [← hn3, ← S1.out.a.rd.len]; unfold fil; exact List.length_filter_le _ _
            have hn3' := Lib.hid hn3
            clear hn3 ht3
            go_wp2_with (first
              | ((with_reducible refine wl_store rfl 96 _ _ rfl w1.heap.size rfl (rv A3 n3 c3 t3) rfl 96 (rv A2 n2 c2 t2) K5 (size_v _ rfl) rfl (one_v _ _ _ _) ?_); intro w8 k8 g8 s8; have qd8 := hdc.out w8 (below_grown HB5 HB5.size g8 (Nat.le_refl _))))
            have HB8 := below_grown HB5 HB5.size g8 (Nat.le_refl _)
            have X8 := (S1.out.x.below b5).grown g8
            have sw1 : w1.heap.size < w8.heap.size := k8.lt
            refine (refwithout_c X n2 cx e (rot l2 t2) w8 X8.rd hn1).mono ?_
            rintro r wb ⟨⟨X3, cx3, rfl, HO4⟩, b9⟩
            have hlr : (fil (rot l2 t2) e).length = n3 := by rw [← hrw.out, rot_len, hn3'.out]
            rw [hlr] at HO4
            rw [hlr]
            have HB2 := bl_then HB8 b9
            have S : Sl wb w1.heap.size A3 n3 c3 t3 (fil l2 e) X3 cx3 := ⟨k8.below b9, ((RdF.own HO3 (.inl sw0)).grown g8).below b9, by rw [hrw.out]; exact RdF.own HO4 (.inl sw1), by have := S1.out.n32; omega, own_cap HO3, own_cap HO4, own_none HO3, own_none HO4, hat.out⟩
            generalize fil l2 e = l3 at *
            clear k8 K5 b5 g8 HB5 HO3 HO4 HB8 X8 S1 HB qd qd5 qd8 q0 q1 hrw hlr hn3'
            obtain ⟨m, hmle, hno, hyes, hnoR, hyesR⟩ := waits S e
            have p0 := S.v.cellv 0 (.slice A3 n3 c3) rfl
            have p1 := S.v.cellv 1 (.int .i64 t3) rfl
            have pd := hdc.out _ HB2
            have ht1 : t3 ≤ n3 := by have := S.at_; omega
            have hn1 : n3 ≤ 1000 := by have := S.n32; omega
            have S' := Lib.hid S
            have HB2' := Lib.hid HB2
            have hno := Lib.hid hno
            have hyes := Lib.hid hyes
            have hnoR := Lib.hid hnoR
            have hyesR := Lib.hid hyesR
            clear S HB2
            by_cases hmn : m < n3
            · have hW := Lib.hid (wait_at A3 n3 c3 t3 e l3 wb.drew (S'.out.a.rd.below (bl_drew (bl_refl _))) hn1 (by omega) m (m : Int) true hmle hno.out hyes.out (by simp [wN, hmn]) (by simp [wB, hmn]))
              have hwR : Hid (wR n3 m = (m : Int)) := Lib.hid (by simp [wR, hmn])
              have hge : decide (0 ≤ (m : Int)) = true := by simp
              go_wp2_with fail
              go_region_held3 (fun w' => w'.cell? ⟨w1.heap.size, 0, none⟩ = some (.slice A3 n3 c3) ∧ w'.cell? ⟨w1.heap.size, 1, none⟩ = some (.int .i64 t3) ∧ w'.cell? (dd.add k) = some (.int .i64 d))
                (first
                  | go_keep
                  | exact ⟨bl_cell b5 p0, bl_cell b5 p1, bl_cell b5 pd⟩)
                (first
                  | (go_at_call 44; refine (hW.out).mono ?_; rintro r w5 ⟨rfl, b5'⟩; have b5 := bl_then (bl_drew (bl_refl wb)) b5'))
              have pd5 := bl_cell b5 pd
              clear p0 p1 pd
              go_wp2_with fail
              refine (refwait_c X3 n3 cx3 e (rot l3 t3) w5 (S'.out.x.rd.below b5) m hmle hnoR.out hyesR.out).mono ?_
              rintro r w6 ⟨rfl, rfl⟩
              rw [hwR.out]
              have k5 := S'.out.v.below b5
              go_wp2_with (first | (with_reducible refine wl_load rfl 96 _ rfl w1.heap.size rfl 96 (rv A3 n3 c3 t3) _ k5 Try.underlying96 rfl (size_v _ rfl) ?_))
              refine (all_c A3 n3 c3 t3 l3 w5 (S'.out.a.rd.below b5) S'.out.an ht1 S'.out.nc hn1).mono ?_
              rintro r w7 ⟨⟨A9, c9, rfl, HO9⟩, b7⟩
              go_wp2_with fail
              have R9 := Rd.of_own HO9
              refine (same_c A9 X3 n3 n3 c9 cx3 (rot l3 t3) (rot l3 t3) w7 R9 ((S'.out.x.rd.below b5).below b7)).mono ?_
              rintro r w8 ⟨rfl, b8⟩
              rw [beq_self_eq_true]
              have k8 := (k5.below b7).below b8
              clear R9 HO9
              go_wp2_with (first | (refine wl_load_on rfl 96 _ rfl w1.heap.size rfl 96 (rv A3 n3 c3 t3) _ k8 Try.underlying96 rfl (size_v _ rfl) (by exact ⟨_, _, rfl, rfl, rfl⟩) ?_))
              refine (len_c A3 n3 c3 t3 w8).mono ?_
              rintro r w9 ⟨rfl, b9⟩
              go_wp2_with fail
              go_roundw
              case rel => exact ⟨k + 1, A3, n3, c3, t3, l3, X3, cx3, by omega, by go_num, rfl, (((S'.out.below b5).below b7).below b8).below b9, bl_then (bl_then (bl_then (bl_then HB2'.out b5) b7) b8) b9⟩
              case measure => first | (simp [intOf]; done) | (simp [intOf]; omega)
            · have hW := Lib.hid (wait_at A3 n3 c3 t3 e l3 wb.drew (S'.out.a.rd.below (bl_drew (bl_refl _))) hn1 (by omega) m 0 false hmle hno.out hyes.out (by simp [wN, hmn]) (by simp [wB, hmn]))
              have hwR : Hid (wR n3 m = -1) := Lib.hid (by simp [wR, hmn])
              go_wp2_with fail
              go_region_held3 (fun w' => w'.cell? ⟨w1.heap.size, 0, none⟩ = some (.slice A3 n3 c3) ∧ w'.cell? ⟨w1.heap.size, 1, none⟩ = some (.int .i64 t3) ∧ w'.cell? (dd.add k) = some (.int .i64 d))
                (first
                  | go_keep
                  | exact ⟨bl_cell b5 p0, bl_cell b5 p1, bl_cell b5 pd⟩)
                (first
                  | (go_at_call 44; refine (hW.out).mono ?_; rintro r w5 ⟨rfl, b5'⟩; have b5 := bl_then (bl_drew (bl_refl wb)) b5'))
              have pd5 := bl_cell b5 pd
              clear p0 p1 pd
              go_wp2_with fail
              refine (refwait_c X3 n3 cx3 e (rot l3 t3) w5 (S'.out.x.rd.below b5) m hmle hnoR.out hyesR.out).mono ?_
              rintro r w6 ⟨rfl, rfl⟩
              rw [hwR.out]
              have k5 := S'.out.v.below b5
              go_wp2_with (first | (with_reducible refine wl_load rfl 96 _ rfl w1.heap.size rfl 96 (rv A3 n3 c3 t3) _ k5 Try.underlying96 rfl (size_v _ rfl) ?_))
              refine (all_c A3 n3 c3 t3 l3 w5 (S'.out.a.rd.below b5) S'.out.an ht1 S'.out.nc hn1).mono ?_
              rintro r w7 ⟨⟨A9, c9, rfl, HO9⟩, b7⟩
              go_wp2_with fail
              have R9 := Rd.of_own HO9
              refine (same_c A9 X3 n3 n3 c9 cx3 (rot l3 t3) (rot l3 t3) w7 R9 ((S'.out.x.rd.below b5).below b7)).mono ?_
              rintro r w8 ⟨rfl, b8⟩
              rw [beq_self_eq_true]
              have k8 := (k5.below b7).below b8
              clear R9 HO9
              go_wp2_with (first | (refine wl_load_on rfl 96 _ rfl w1.heap.size rfl 96 (rv A3 n3 c3 t3) _ k8 Try.underlying96 rfl (size_v _ rfl) (by exact ⟨_, _, rfl, rfl, rfl⟩) ?_))
              refine (len_c A3 n3 c3 t3 w8).mono ?_
              rintro r w9 ⟨rfl, b9⟩
              go_wp2_with fail
              go_roundw
              case rel => exact ⟨k + 1, A3, n3, c3, t3, l3, X3, cx3, by omega, by go_num, rfl, (((S'.out.below b5).below b7).below b8).below b9, bl_then (bl_then (bl_then (bl_then HB2'.out b5) b7) b8) b9⟩
              case measure => first | (simp [intOf]; done) | (simp [intOf]; omega)
        · have hq6 : decide ((k : Int) < 60) = false := by simp; omega
          go_wp2_with fail
          refine (awake_c _).mono ?_
          rintro r w9 ⟨rfl, b9⟩
          go_wp2
          go_ret
          exact ⟨rfl, bl_then b1 (bl_then HB b9)⟩
      · have hq : decide ((k : Int) < (M : Int)) = false := by simp; omega
        go_wp2_with fail
        refine (awake_c _).mono ?_
        rintro r w9 ⟨rfl, b9⟩
        go_wp2
        go_ret
        exact ⟨rfl, bl_then b1 (bl_then HB b9)⟩
  · have hok' := Lib.hid hok
    have R0 := Lib.hid (hr'.out.below b1)
    clear hok hd
    go_wp2_with (first
      | ((with_reducible refine wl_alloc rfl 96 rfl (rv none 0 0 0) new_v ?_); intro w2 k2 b2 s2)
      | ((with_reducible refine wl_store rfl 96 _ _ rfl w1.heap.size rfl (rv none 0 0 0) rfl 96 (rv none 0 0 0) k2 (size_v _ rfl) rfl (one_v _ _ _ _) ?_); intro w3 k3 g3 s3))
    have B3 := below_grown b2 b2.size g3 (Nat.le_refl _)
    refine (right_c A n0 c l0 w3 (R0.out.below B3)).mono ?_
    rintro r w4 ⟨rfl, rfl⟩
    rw [hok'.out]
    go_wp2_with (first | (refine wl_load_on rfl 96 _ rfl w1.heap.size rfl 96 (rv none 0 0 0) _ k3 Try.underlying96 rfl (size_v _ rfl) (by exact ⟨_, _, rfl, rfl, rfl⟩) ?_))
    refine (len_c none 0 0 0 w3).mono ?_
    rintro r w5 ⟨rfl, b5⟩
    go_wp2_with fail
    refine (awake_c _).mono ?_
    rintro r w9 ⟨rfl, b9⟩
    go_wp2
    go_ret
    exact ⟨rfl, bl_then b1 (bl_then (bl_then B3 b5) b9)⟩

theorem walk (a0 : Option Addr) (len cap : Nat) (z : List Int) (a1 : Option Addr) (len1 cap1 : Nat) (z1 : List Int) (w : World) (w0 : IsRow .i64 w a0 len cap z) (y0 : len * 8 ≤ 140737488351232) (w1 : IsRow .i64 w a1 len1 cap1 z1) (y1 : len1 * 8 ≤ 140737488351232) :
    Calls Try.prog 11 #[.slice a0 len cap, .slice a1 len1 cap1] w fun e w' => e = .returned (.bool true) ∧ Below w.heap.size w w' := by
  obtain ⟨hr, hl, hm, hw⟩ := Rd.of_row w0
  obtain ⟨hr1, hl1, hm1, hw1⟩ := Rd.of_row w1
  exact main a0 len cap (z.take len) a1 len1 cap1 (z1.take len1) w hr (row_none w0) hl hr1
end Go.Proofs.Ytcomgmgmpmjnkaa.SlotsPlay
