/- SuperCodes: at every number and every slice of bytes the law's text returns true. -/
import Derived.Test.YtaefaneecdploaaSuperCode
set_option linter.unusedVariables false
namespace Go.Proofs.Ytaefaneecdploaa.SuperCodes
open Go.RowKit Go.Proofs.Ytaefaneecdploaa.Base Go.Proofs.Ytaefaneecdploaa.Math Go.Proofs.Ytaefaneecdploaa.Word Go.Proofs.Ytaefaneecdploaa.Ref01 Go.Proofs.Ytaefaneecdploaa.Super Go.Proofs.Ytaefaneecdploaa.Row Go.Proofs.Ytaefaneecdploaa.SuperCode

/-- The number that a block holds; nought: none. -/
def num (d : List Int) : Int := if (39 ≤ second d ∧ second d ≤ 512) ∧ sup (second d) = d then second d else 0
theorem decAns_num (d : List Int) : decAns d = #[.agg #[.int .i64 (num d)], .bool (decide (0 < num d))] := by
  unfold decAns num
  split
  · rename_i h; rw [decide_eq_true (show 0 < second d by omega)]
  · rfl
theorem num_hit (d : List Int) (m : Int) (h0 : 39 ≤ m) (h1 : m ≤ 512) (h : sup m = d) : num d = m := by
  subst h
  unfold num
  rw [second_sup m (by omega) (by omega), if_pos ⟨⟨h0, h1⟩, rfl⟩]
theorem num_none (d : List Int) (h : ∀ j, j < 474 → sup (39 + (j : Nat)) ≠ d) : num d = 0 := by
  unfold num
  split
  · rename_i h'
    exact absurd h'.2 (by have := h (second d - 39).toNat (by omega); rwa [show (39 : Int) + ((second d - 39).toNat : Nat) = second d by omega] at this)
  · rfl

set_option maxHeartbeats 4000000 in
set_option maxRecDepth 100000 in
theorem refdecode_c (d : List Int) (hd : d.length = 64) (w : World) :
    Calls Try.prog 40 #[.agg (V64 d)] w fun e w' => e = .returned (.int .i64 (num d)) ∧ Below w.heap.size w w' := by
  have hsd := Lib.hid (s64v' d hd)
  have hdl := Lib.hid hd
  have hsz0 := Lib.hid (V64_size d hd)
  clear hd
  go_enter Try.func40, Try.ntmps40
  go_wp2_with (first
    | ((with_reducible refine wl_box rfl 50 _ rfl (V64 d) rfl ?_); intro w1 k1 b1 s1))
  go_loopw [3] (fun i wr => ∃ k : Nat, k ≤ 474 ∧ i = .int .i64 (39 + (k : Int)) ∧ Hid (∀ j, j < k → sup (39 + (j : Nat)) ≠ d) ∧ Blk wr w.heap.size 50 (V64 d) ∧ Below w.heap.size w wr ∧ w.heap.size < wr.heap.size) (fun i _ => 600 - (intOf i).toNat)
  case atStart => exact ⟨0, by omega, rfl, Lib.hid (fun j hj => absurd hj (by omega)), k1, b1, s1⟩
  case round =>
    clear k1 b1 s1
    obtain ⟨k, hk, rfl, HK, KD, HB, HS⟩ := hrel
    have hrel := True.intro
    clear hrel
    obtain ⟨wo, rfl⟩ : ∃ wo : World, wo = wr := ⟨_, rfl⟩
    obtain ⟨y, hy⟩ : ∃ y : Int, 39 + (k : Int) = y := ⟨_, rfl⟩
    have hy' := Lib.hid hy
    by_cases hlt : k < 474
    · have hq : decide (y ≤ 512) = true := by simp; omega
      have hy0 : 39 ≤ y := by omega
      have hy1 : y ≤ 512 := by omega
      rw [hy]
      clear hy
      go_wp2_with fail
      refine (refencode_yes y hy0 hy1 _).mono ?_
      rintro e w6 ⟨rfl, b6⟩
      have KD6 := KD.below b6
      have B6 := bl_then HB b6
      have s6 := b6.size
      have s0 := HB.size
      clear b6 HB KD
      have hss := Lib.hid (s64v' (sup y) (sup_length y))
      have hos := Lib.hid (V64_one (sup y))
      have hz := Lib.hid (V64_sizes (zeros 64) (sup y) (by simp [zeros]) (sup_length y))
      by_cases hsup : sup y = d
      · have heq : ∀ W, (Op.equalIn 10000 50 (.agg (V64 (sup y))) (.agg (V64 d))).run Try.prog W = .ok true W := fun W => by rw [eq64' (sup y) d (sup_length y) hdl.out W, show (sup y == d) = true from by simpa using hsup]
        have hres := Lib.hid (num_hit d y hy0 hy1 hsup)
        clear hsup
        go_wp2_with (first
          | ((with_reducible refine wl_alloc rfl 50 rfl (V64 (zeros 64)) z64' ?_); intro w7 k7 b7 s7; have K1' := KD6.below b7)
          | ((with_reducible refine wl_store rfl 50 _ _ rfl w6.heap.size rfl (V64 (sup y)) rfl 50 (V64 (zeros 64)) k7 hss.out hz.out hos.out ?_); intro w8 k8 g8 s8; have K1'' := K1'.grown g8 (fun e => by injection e with e; omega))
          | ((with_reducible refine wl_load rfl 50 _ rfl w6.heap.size rfl 50 (V64 (sup y)) _ k8 Try.underlying50 rfl hss.out ?_))
          | ((with_reducible refine wl_load rfl 50 _ rfl w.heap.size rfl 50 (V64 d) _ K1'' Try.underlying50 rfl hsd.out ?_)))
        go_ret
        have B8 := below_grown (bl_then B6 b7) (Nat.le_trans B6.size b7.size) g8 (by omega)
        exact ⟨by rw [hres.out]; rfl, B8⟩
      · have heq : ∀ W, (Op.equalIn 10000 50 (.agg (V64 (sup y))) (.agg (V64 d))).run Try.prog W = .ok false W := fun W => by rw [eq64' (sup y) d (sup_length y) hdl.out W, show (sup y == d) = false from by simpa using hsup]
        have hne := Lib.hid hsup
        clear hsup
        go_wp2_with (first
          | ((with_reducible refine wl_alloc rfl 50 rfl (V64 (zeros 64)) z64' ?_); intro w7 k7 b7 s7; have K1' := KD6.below b7)
          | ((with_reducible refine wl_store rfl 50 _ _ rfl w6.heap.size rfl (V64 (sup y)) rfl 50 (V64 (zeros 64)) k7 hss.out hz.out hos.out ?_); intro w8 k8 g8 s8; have K1'' := K1'.grown g8 (fun e => by injection e with e; omega))
          | ((with_reducible refine wl_load rfl 50 _ rfl w6.heap.size rfl 50 (V64 (sup y)) _ k8 Try.underlying50 rfl hss.out ?_))
          | ((with_reducible refine wl_load rfl 50 _ rfl w.heap.size rfl 50 (V64 d) _ K1'' Try.underlying50 rfl hsd.out ?_)))
        have B8 := below_grown (bl_then B6 b7) (Nat.le_trans B6.size b7.size) g8 (by omega)
        go_roundw
        case rel =>
          refine ⟨k + 1, by omega, ?_, Lib.hid (fun j hj => ?_), K1'', B8, by omega⟩
          · rw [← hy'.out]; go_num
          · by_cases hjk : j < k
            · exact HK.out j hjk
            · obtain rfl : j = k := by omega
              rw [hy'.out]; exact hne.out
        case measure => first | (simp [intOf]; done) | (simp [intOf]; omega)
    · obtain rfl : k = 474 := by omega
      have hres := Lib.hid (num_none d HK.out)
      have hq : decide (y ≤ 512) = false := by simp; omega
      rw [hy]
      clear hy
      go_wp2
      go_ret
      exact ⟨by rw [hres.out]; rfl, HB⟩

theorem right_any (s : Int) (w : World) :
    Calls Try.prog 32 #[.agg #[.int .i64 s]] w fun e w' => e = .returned (.bool (decide (39 ≤ s ∧ s ≤ 512))) ∧ Below w.heap.size w w' := by
  by_cases h : 39 ≤ s ∧ s ≤ 512
  · rw [decide_eq_true h]; exact right_yes s h.1 h.2 w
  · rw [decide_eq_false h]; exact right_no s (by omega) w
theorem refencode_any (s : Int) (w : World) :
    Calls Try.prog 38 #[.int .i64 s] w fun e w' => e = .returned (.tuple #[.agg (V64 (if 39 ≤ s ∧ s ≤ 512 then sup s else zeros 64)), .bool (decide (39 ≤ s ∧ s ≤ 512))]) ∧ Below w.heap.size w w' := by
  by_cases h : 39 ≤ s ∧ s ≤ 512
  · rw [if_pos h, decide_eq_true h]; exact refencode_yes s h.1 h.2 w
  · rw [if_neg h, decide_eq_false h]; exact refencode_no s (by omega) w
theorem enc_facts (s : Int) : (if 39 ≤ s ∧ s ≤ 512 then sup s else zeros 64).length = 64 ∧ ∀ x ∈ (if 39 ≤ s ∧ s ≤ 512 then sup s else zeros 64), 0 ≤ x ∧ x < 256 := by
  split
  · refine ⟨sup_length s, fun x hx => ?_⟩
    rcases List.mem_append.1 hx with h | h
    · refine flat_range _ ?_ x h
      intro y hy
      simp only [List.mem_cons, List.not_mem_nil, or_false] at hy
      rcases hy with rfl | rfl | rfl | rfl <;> omega
    · rw [zeros, List.mem_replicate] at h
      omega
  · refine ⟨by simp [zeros], fun x hx => ?_⟩
    rw [zeros, List.mem_replicate] at hx
    omega
theorem neq64 (d : List Int) (hd : d.length = 64) (w : World) : (Op.equalIn 10000 51 (.agg (V64 d)) (.agg (V64 d))).run Try.prog w = .ok true w := by
  rw [eq64 d d hd hd w]; simp
theorem V64_set (D : List Int) (i : Nat) (z : Int) : (V64 D).setIfInBounds i (.int .u8 z) = V64 (D.set i z) := by
  simp [V64, nums, List.map_set]
theorem set_range (D : List Int) (i : Nat) (z : Int) (h : ∀ x ∈ D, 0 ≤ x ∧ x < 256) (hz : 0 ≤ z ∧ z < 256) : ∀ x ∈ D.set i z, 0 ≤ x ∧ x < 256 := by
  intro x hx
  rcases List.mem_or_eq_of_mem_set hx with h' | rfl
  · exact h x h'
  · exact hz

theorem xor_range (a b : Int) : 0 ≤ bits .xor .u8 a b ∧ bits .xor .u8 a b < 256 := by
  show 0 ≤ IntKind.u8.wrap _ ∧ IntKind.u8.wrap _ < 256
  rw [IntKind.wrap_u8']; omega

set_option maxHeartbeats 4000000 in
set_option maxRecDepth 100000 in
theorem main (n : Int) (A : Option Addr) (m c : Nat) (xs : List Int) (w : World) (hr : Rd w .u8 A m xs) (hx : ∀ x ∈ xs, 0 ≤ x ∧ x < 256) :
    Calls Try.prog 9 #[.int .i64 n, .slice A m c] w fun e w' => e = .returned (.bool true) ∧ Below w.heap.size w w' := by
  obtain ⟨hel, her⟩ := enc_facts n
  have HA : ∀ W, Calls Try.prog 37 #[.agg #[.int .i64 n]] W _ := fun W => encode_any n W
  have HB : ∀ W, Calls Try.prog 38 #[.int .i64 n] W _ := fun W => refencode_any n W
  have HC : ∀ W, Calls Try.prog 32 #[.agg #[.int .i64 n]] W _ := fun W => right_any n W
  generalize (if 39 ≤ n ∧ n ≤ 512 then sup n else zeros 64) = E at *
  generalize decide (39 ≤ n ∧ n ≤ 512) = ok at *
  have CA := Lib.hid HA
  have CB := Lib.hid HB
  have CC := Lib.hid HC
  have hHr := Lib.hid her
  have hHx := Lib.hid hx
  have hHl := Lib.hid hel
  have hss := Lib.hid (s64v E hel)
  have hss' := Lib.hid (s64v' E hel)
  have hos := Lib.hid (V64_one E)
  have hz := Lib.hid (V64_sizes (zeros 64) E (by simp [zeros]) hel)
  have heq := neq64 E hel
  have hmx := hr.max
  have hok : (ok != ok) = false := by simp
  have hi47 : Hid (∀ x : Value, (Try.prog.info? 47).map (·.size) = some (#[x] : Array Value).size) := Lib.hid (fun _ => by kernel_rfl)
  clear HA HB HC her hx hel
  go_enter Try.func9, Try.ntmps9
  go_wp2_with (first
    | (with_reducible refine wl_build0 rfl 47 rfl #[.int .i64 0] zero_super ?_)
    | ((with_reducible refine wl_alloc rfl 47 rfl #[.int .i64 0] (by kernel_rfl) ?_); intro w1 k1 b1 s1)
    | ((with_reducible refine wl_store rfl 47 _ _ rfl w.heap.size rfl #[.int .i64 n] rfl 47 #[.int .i64 0] k1 (hi47.out _) (sz11 _ _) (one1 _ _) ?_); intro w2 k2 g2 s2)
    | ((with_reducible refine wl_load rfl 47 _ rfl w.heap.size rfl 47 #[.int .i64 n] _ k2 Try.underlying47 rfl (hi47.out _) ?_)))
  have B2 := below_grown b1 b1.size g2 (Nat.le_refl _)
  refine (CA.out _).mono ?_
  rintro e w3 ⟨rfl, b3⟩
  have k3 := k2.below b3
  have B3 := bl_then B2 b3
  have s3 := b3.size
  clear k1 k2 b1 B2 g2 b3
  go_wp2_with (first
    | ((with_reducible refine wl_alloc rfl 51 rfl (V64 (zeros 64)) z64 ?_); intro w4 k4 b4 s4; have k4' := k3.below b4)
    | ((with_reducible refine wl_store rfl 51 _ _ rfl w3.heap.size rfl (V64 E) rfl 51 (V64 (zeros 64)) k4 hss.out hz.out hos.out ?_); intro w5 k5 g5 s5))
  have k5' := k4'.grown g5 (fun e => by injection e with e; omega)
  have B5 := below_grown (bl_then B3 b4) (Nat.le_trans B3.size b4.size) g5 (by omega)
  refine (CB.out _).mono ?_
  rintro e w6 ⟨rfl, b6⟩
  have k6 := k5'.below b6
  have k6' := k5.below b6
  have B6 := bl_then B5 b6
  have s6 := b6.size
  clear k3 k4 k4' b4 g5 k5 k5' B3 B5 b6
  go_wp2_with (first
    | ((with_reducible refine wl_alloc rfl 50 rfl (V64 (zeros 64)) z64' ?_); intro w7 k7 b7 s7; have k7' := k6.below b7; have k7'' := k6'.below b7)
    | ((with_reducible refine wl_store rfl 50 _ _ rfl w6.heap.size rfl (V64 E) rfl 50 (V64 (zeros 64)) k7 hss'.out hz.out hos.out ?_); intro w8 k8 g8 s8; have K1 := k7'.grown g8 (fun e => by injection e with e; omega); have KD := k7''.grown g8 (fun e => by injection e with e; omega))
    | ((with_reducible refine wl_load rfl 51 _ rfl w3.heap.size rfl 51 (V64 E) _ KD Try.underlying51 rfl hss.out ?_))
    | ((with_reducible refine wl_load rfl 50 _ rfl w6.heap.size rfl 50 (V64 E) _ k8 Try.underlying50 rfl hss'.out ?_))
    | ((with_reducible refine wl_load_on rfl 47 _ rfl w.heap.size rfl 47 #[.int .i64 n] _ K1 Try.underlying47 rfl (hi47.out _) ?hop ?_); (case hop => exact ⟨_, _, rfl, rfl, rfl⟩)))
  have B8 := below_grown (bl_then B6 b7) (Nat.le_trans B6.size b7.size) g8 (by omega)
  clear k6 k6' b7 k7 k7' k7'' g8 B6 k8 K1
  refine (CC.out _).mono ?_
  rintro e w9 ⟨rfl, b9⟩
  have KD9 := KD.below b9
  have B9 := bl_then B8 b9
  have s9 := b9.size
  clear KD B8 b9 CA CB CC heq
  go_wp2_with fail
  go_loopw [10] (fun i wr => ∃ (k : Nat) (D : List Int), k ≤ m ∧ k ≤ 8 ∧ i = .int .i64 k ∧ Hid (D.length = 64) ∧ Hid (∀ x ∈ D, 0 ≤ x ∧ x < 256) ∧ Blk wr w3.heap.size 51 (V64 D) ∧ Below w.heap.size w wr ∧ w9.heap.size ≤ wr.heap.size) (fun i _ => 8 - (intOf i).toNat)
  case atStart => exact ⟨0, E, by omega, by omega, rfl, hHl, hHr, KD9, B9, Nat.le_refl _⟩
  case round =>
    clear KD9 B9 hHl hHr hss hos hz hss'
    obtain ⟨k, D, hkm, hk8, rfl, hDl, hDr, KD, HB, HS⟩ := hrel
    have hss := Lib.hid (s64v D hDl.out)
    have hss' := Lib.hid (s64v' D hDl.out)
    by_cases hlt : k < m
    · have hq1 : decide ((k : Int) < (m : Int)) = true := by simp; omega
      by_cases hlt8 : k < 8
      · have hq2 : decide ((k : Int) < 8) = true := by simp; omega
        obtain ⟨ad, rfl, hca⟩ := (hr.below HB).at_ k hlt
        have hxr := getD_mem_range hHx.out (by omega) k
        obtain ⟨hx0, hx1⟩ := hxr
        generalize xs[k]?.getD 0 = x at *
        have ew : IntKind.i64.wrap x = x := by rw [IntKind.wrap_i64]; omega
        have ew' : wrap64 x = x := by unfold wrap64; omega
        have em := i64_and_mask x 6 63 (by omega) (by decide)
        obtain ⟨j, hj⟩ : ∃ j : Nat, x % 64 = (j : Int) := ⟨(x % 64).toNat, by omega⟩
        have hj64 : j < 64 := by omega
        have hj64' : (j : Int) < 64 := by omega
        have em' : bits .and .i64 x 63 = (j : Int) := by rw [← hj]; exact em
        have hcD := (KD.cell j).trans (V64_get D j (by rw [hDl.out]; exact hj64))
        have hDj := getD_mem_range hDr.out (by omega) j
        clear em hj hr
        obtain ⟨wo, rfl⟩ : ∃ wo : World, wo = wr := ⟨_, rfl⟩
        have hu8 : Hid ((Try.prog.info? 5).map (·.size) = some 1) := Lib.hid (by kernel_rfl)
        have hDsz : Hid (j < (V64 D).size) := Lib.hid (by rw [V64_size D hDl.out]; exact hj64)
        obtain ⟨y, hy⟩ : ∃ y, D[j]?.getD 0 = y := ⟨_, rfl⟩
        rw [hy] at hcD
        have hset := Lib.hid (V64_set D j (bits .xor .u8 y 1))
        have hl' : Hid ((D.set j (bits .xor .u8 y 1)).length = 64) := Lib.hid (by rw [List.length_set]; exact hDl.out)
        have hr' := Lib.hid (set_range D j _ hDr.out (xor_range y 1))
        clear hy hDj hDl hDr hss hss'
        go_wp2_with fail
        have hfr := KD.frozen j
        have hDsz' := hDsz
        go_region
        have k10 := (KD.set_ j (.int .u8 (bits .xor .u8 y 1))).drew
        rw [hset.out] at k10
        go_wp2
        go_roundw
        case rel => exact ⟨k + 1, D.set j (bits .xor .u8 y 1), by omega, by omega, by go_num, hl', hr', k10, bl_drew (below_grown HB HB.size (grownBy_set wo _ j _) (by omega)), by simp; omega⟩
        case measure => first | (simp [intOf]; done) | (simp [intOf]; omega)
      · have hq2 : decide ((k : Int) < 8) = false := by simp; omega
        have hdc := Lib.hid (fun W => decode_c D hDl.out hDr.out W)
        have hrc := Lib.hid (fun W => refdecode_c D hDl.out W)
        have han := decAns_num D
        generalize num D = q at *
        obtain ⟨b, hb⟩ : ∃ b, decide (0 < q) = b := ⟨_, rfl⟩
        rw [hb] at han
        have han' := Lib.hid han
        have hbb : (b == b) = true := by simp
        have hqq : (q == q) = true := by simp
        clear han hDl hDr hr
        obtain ⟨wo, rfl⟩ : ∃ wo : World, wo = wr := ⟨_, rfl⟩
        have hL := KD.below (bl_refl wo)
        go_wp2_with (first
          | ((with_reducible refine wl_load rfl 51 _ rfl w3.heap.size rfl 51 (V64 D) _ KD Try.underlying51 rfl hss.out ?_)))
        refine (hdc.out _).mono ?_
        rintro e w10 ⟨rfl, b10⟩
        rw [han'.out]
        have KD10 := KD.below b10
        have B10 := bl_then HB b10
        have s10 := b10.size
        clear KD HB b10 hdc hL
        go_wp2_with (first
          | ((with_reducible refine wl_alloc rfl 47 rfl #[.int .i64 0] (by kernel_rfl) ?_); intro w11 k11 b11 s11; have KD11 := KD10.below b11)
          | ((with_reducible refine wl_store rfl 47 _ _ rfl w10.heap.size rfl #[.int .i64 q] rfl 47 #[.int .i64 0] k11 (hi47.out _) (sz11 _ _) (one1 _ _) ?_); intro w12 k12 g12 s12; have KD12 := KD11.grown g12 (fun e => by injection e with e; omega))
          | ((with_reducible refine wl_load rfl 51 _ rfl w3.heap.size rfl 51 (V64 D) _ KD12 Try.underlying51 rfl hss.out ?_)))
        have s0 := B10.size
        have B12 := below_grown (bl_then B10 b11) (Nat.le_trans B10.size b11.size) g12 (by omega)
        refine (hrc.out _).mono ?_
        rintro e w13 ⟨rfl, b13⟩
        have hc13 := (k12.below b13).cell 0
        have B13 := bl_then B12 b13
        clear KD10 KD11 KD12 g12 b13 k11 k12 b11 B10 B12 hrc
        go_wp2_with fail
        refine (Super.awake_c _).mono ?_
        rintro e w14 ⟨rfl, rfl⟩
        go_wp2
        go_ret
        exact ⟨rfl, B13⟩
    · have hq1 : decide ((k : Int) < (m : Int)) = false := by simp; omega
      have hdc := Lib.hid (fun W => decode_c D hDl.out hDr.out W)
      have hrc := Lib.hid (fun W => refdecode_c D hDl.out W)
      have han := decAns_num D
      generalize num D = q at *
      obtain ⟨b, hb⟩ : ∃ b, decide (0 < q) = b := ⟨_, rfl⟩
      rw [hb] at han
      have han' := Lib.hid han
      have hbb : (b == b) = true := by simp
      have hqq : (q == q) = true := by simp
      clear han hDl hDr hr
      obtain ⟨wo, rfl⟩ : ∃ wo : World, wo = wr := ⟨_, rfl⟩
      have hL := KD.below (bl_refl wo)
      go_wp2_with (first
        | ((with_reducible refine wl_load rfl 51 _ rfl w3.heap.size rfl 51 (V64 D) _ KD Try.underlying51 rfl hss.out ?_)))
      refine (hdc.out _).mono ?_
      rintro e w10 ⟨rfl, b10⟩
      rw [han'.out]
      have KD10 := KD.below b10
      have B10 := bl_then HB b10
      have s10 := b10.size
      clear KD HB b10 hdc hL
      go_wp2_with (first
        | ((with_reducible refine wl_alloc rfl 47 rfl #[.int .i64 0] (by kernel_rfl) ?_); intro w11 k11 b11 s11; have KD11 := KD10.below b11)
        | ((with_reducible refine wl_store rfl 47 _ _ rfl w10.heap.size rfl #[.int .i64 q] rfl 47 #[.int .i64 0] k11 (hi47.out _) (sz11 _ _) (one1 _ _) ?_); intro w12 k12 g12 s12; have KD12 := KD11.grown g12 (fun e => by injection e with e; omega))
        | ((with_reducible refine wl_load rfl 51 _ rfl w3.heap.size rfl 51 (V64 D) _ KD12 Try.underlying51 rfl hss.out ?_)))
      have s0 := B10.size
      have B12 := below_grown (bl_then B10 b11) (Nat.le_trans B10.size b11.size) g12 (by omega)
      refine (hrc.out _).mono ?_
      rintro e w13 ⟨rfl, b13⟩
      have hc13 := (k12.below b13).cell 0
      have B13 := bl_then B12 b13
      clear KD10 KD11 KD12 g12 b13 k11 k12 b11 B10 B12 hrc
      go_wp2_with fail
      refine (Super.awake_c _).mono ?_
      rintro e w14 ⟨rfl, rfl⟩
      go_wp2
      go_ret
      exact ⟨rfl, B13⟩

theorem walk (a0 : Int) (a1 : Option Addr) (len cap : Nat) (z : List Int) (w : World) (w0 : (Lit.int .i64 a0).wf = true) (w1 : IsRow .u8 w a1 len cap z) (y1 : len * 1 ≤ 140737488351232) :
    Calls Try.prog 9 #[.int .i64 a0, .slice a1 len cap] w fun e w' => e = .returned (.bool true) ∧ Below w.heap.size w w' := by
  obtain ⟨hr, hl, hm, hw⟩ := Rd.of_row w1
  exact main a0 a1 len cap (z.take len) w hr (fun x h => wf_u8_range (hw x h))
end Go.Proofs.Ytaefaneecdploaa.SuperCodes
