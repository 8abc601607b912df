/- Contracts of package isa: the table, filled when it is asked first. -/
import Derived.Test.YtdokmnpkihmkpaaOnce
set_option linter.unusedVariables false
namespace Go.Proofs.Ytdokmnpkihmkpaa.Isa
open Go.RowKit Go.Proofs.Ytdokmnpkihmkpaa.Base Go.Proofs.Ytdokmnpkihmkpaa.Row Go.Proofs.Ytdokmnpkihmkpaa.Once

theorem size_int : (Try.prog.info? 3).map (·.size) = some 1 := by kernel_rfl
/-- Some places set to v, the first k of them. -/
def fo (ops : List Nat) (v : Int) (L : List Int) (k : Nat) : List Int := (ops.take k).foldl (fun L o => L.set o v) L
theorem fo_succ (ops : List Nat) (v : Int) (L : List Int) (k : Nat) (hk : k < ops.length) : fo ops v L (k + 1) = (fo ops v L k).set (ops[k]?.getD 0) v := by
  unfold fo
  rw [List.take_succ_eq_append_getElem hk, List.foldl_append, List.getElem?_eq_getElem hk]
  rfl
theorem fold_len (v : Int) (ops : List Nat) : ∀ L : List Int, (ops.foldl (fun L o => L.set o v) L).length = L.length := by
  induction ops with
  | nil => intro L; rfl
  | cons o r ih => intro L; rw [List.foldl_cons, ih, List.length_set]
theorem fo_len (ops : List Nat) (v : Int) (L : List Int) (k : Nat) : (fo ops v L k).length = L.length := fold_len v _ L
theorem oc_set (d m : Int) (L : List Int) (tail : List Value) (i : Nat) (v : Int) (hi : i < L.length) : (oc d m (nums .i64 L ++ tail)).setIfInBounds (3 + i) (.int .i64 v) = oc d m (nums .i64 (L.set i v) ++ tail) := by
  unfold oc nums
  rw [Nat.add_comm 3 i]
  simp [List.map_set, hi]
theorem oc_get (d m : Int) (L : List Int) (tail : List Value) (i : Nat) (hi : i < L.length) : (oc d m (nums .i64 L ++ tail))[3 + i]? = some (.int .i64 (L[i]?.getD 0)) := by
  unfold oc nums
  rw [Nat.add_comm 3 i]
  simp [List.getElem?_append_left, hi]
theorem oc_size (d m : Int) (L : List Int) (tail : List Value) : (oc d m (nums .i64 L ++ tail)).size = 3 + (L.length + tail.length) := by
  simp [oc, nums]; omega
theorem rd_grown {w w1 : World} {k : IntKind} {B n g : Nat} {xs : List Int} (h : Rd w k (some ⟨B, 0, none⟩) n xs) (hg : w.grownBy w1 (some g)) (hne : B ≠ g) : Rd w1 k (some ⟨B, 0, none⟩) n xs :=
  ⟨h.len, h.max, fun hn => by
    obtain ⟨ad, e, hc⟩ := h.cells hn
    refine ⟨ad, e, fun j hj => ?_⟩
    injection e with e
    subst e
    have hb : ((⟨B, 0, none⟩ : Addr).add j).block = B := by unfold Addr.add; split <;> rfl
    have hlt := World.block_lt_of_cell? w _ (hc j hj)
    rw [← hc j hj]
    exact World.cell?_of_block (hg.block _ hlt (by rw [hb]; intro h'; injection h' with h'; exact hne h'))⟩
def o1 : List Nat := [1, 2, 13, 19, 20]
def o2 : List Nat := [3, 4, 5, 6, 7, 8, 9, 10, 11, 12]
def o3 : List Nat := [14, 15, 16, 17, 21]
def o4 : List Nat := [18, 22, 24]
def T0 : List Int := List.replicate 25 0
def T1 : List Int := fo o1 13 T0 5
def T2 : List Int := fo o2 11 T1 10
def T3 : List Int := fo o3 15 T2 5
def T4 : List Int := fo o4 12 T3 3
def TF : List Int := T4.set 23 9
theorem t0_len : T0.length = 25 := by simp [T0]
theorem t1_len : T1.length = 25 := (fo_len _ _ _ _).trans t0_len
theorem t2_len : T2.length = 25 := (fo_len _ _ _ _).trans t1_len
theorem t3_len : T3.length = 25 := (fo_len _ _ _ _).trans t2_len
theorem t4_len : T4.length = 25 := (fo_len _ _ _ _).trans t3_len
theorem tf_len : TF.length = 25 := by rw [TF, List.length_set, t4_len]
def ints (ops : List Nat) : List Int := ops.map Int.ofNat
def vals (ops : List Nat) : Array Value := (nums .i64 (ints ops)).toArray
theorem rd_lit (w : World) (ops : List Nat) (n : Nat) (hn : ops.length = n) (hm : n ≤ 100) : Rd (w.alloc (.cells (vals ops) 3)) .i64 (some ⟨w.heap.size, 0, none⟩) n (ints ops) :=
  ⟨by simp [ints, hn], by omega, fun _ => ⟨_, rfl, fun j hj => by
    refine row_news (cs := vals ops) (heap_alloc_new _ _) j _ ?_
    simp [vals, nums, ints, List.getElem?_eq_getElem (show j < ops.length by omega)]⟩⟩
theorem ints_get (ops : List Nat) (k : Nat) (hk : k < ops.length) : (ints ops)[k]?.getD 0 = ((ops[k]?.getD 0 : Nat) : Int) := by
  simp [ints, List.getElem?_eq_getElem hk]

set_option maxRecDepth 100000 in
set_option maxHeartbeats 4000000 in
theorem fill_c (g : Nat) (T : TypeId) (tail : List Value) (w : World) (h : Blk w g T (oc 0 1 (nums .i64 T0 ++ tail))) :
    Calls Try.prog 76 #[.pointer (some ⟨g, 0, none⟩)] w fun e w' => e = .returned (.tuple #[]) ∧ Blk w' g T (oc 0 1 (nums .i64 TF ++ tail)) ∧ w.grownBy w' (some g) := by
  have G0 : w.grownBy w (some g) := World.grownBy.refl _ _
  go_enter Try.func76, Try.ntmps76
  have R10 := rd_lit w o1 5 rfl (by omega)
  have hne1 : Hid (w.heap.size ≠ g) := Lib.hid (by have := h.lt; omega)
  have K10 := h.alloc (.cells #[.int .i64 1, .int .i64 2, .int .i64 13, .int .i64 19, .int .i64 20] 3)
  have G10 : w.grownBy (w.alloc (.cells #[.int .i64 1, .int .i64 2, .int .i64 13, .int .i64 19, .int .i64 20] 3)) (some g) := World.grownBy.trans G0 (grown_of_below (bl_alloc (bl_refl w) _) _)
  go_wp2_with fail
  obtain ⟨v1, hv1⟩ : ∃ v, w.alloc (.cells #[.int .i64 1, .int .i64 2, .int .i64 13, .int .i64 19, .int .i64 20] 3) = v := ⟨_, rfl⟩
  have R1 : Rd v1 .i64 (some ⟨w.heap.size, 0, none⟩) 5 (ints o1) := by rw [← hv1]; exact R10
  rw [hv1] at K10 G10 ⊢
  clear R10 hv1
  go_loopw [12] (fun i wr => ∃ (k : Nat), k ≤ 5 ∧ i = .int .i64 k ∧ Blk wr g T (oc 0 1 (nums .i64 (fo o1 13 T0 k) ++ tail)) ∧ Rd wr .i64 (some ⟨w.heap.size, 0, none⟩) 5 (ints o1) ∧ w.grownBy wr (some g)) (fun i _ => 5 - (intOf i).toNat)
  case atStart => exact ⟨0, by omega, rfl, K10, R1, G10⟩
  case round =>
    clear K10 R1 G10
    obtain ⟨k, hk, rfl, KV1, RW, HG1⟩ := hrel
    obtain ⟨wo1, rfl⟩ : ∃ wo : World, wo = wr := ⟨_, rfl⟩
    by_cases hlt : k < 5
    · have hq : decide ((k : Int) < 5) = true := by simp; omega
      obtain ⟨ad, e', hca⟩ := RW.at_ k hlt
      injection e' with e'
      subst e'
      rw [ints_get o1 k hlt] at hca
      obtain ⟨op, hop⟩ : ∃ op, o1[k]?.getD 0 = op := ⟨_, rfl⟩
      have h25 : op < 25 := by rw [← hop]; exact (by decide : ∀ k, k < 5 → o1[k]?.getD 0 < 25) k hlt
      have hs := Lib.hid (fo_succ o1 13 T0 k hlt)
      rw [hop] at hca hs
      have i1 : (op : Int) < 25 := by omega
      have hL : (fo o1 13 T0 k).length = 25 := (fo_len _ _ _ _).trans t0_len
      have hset := Lib.hid (oc_set 0 1 (fo o1 13 T0 k) tail op 13 (by rw [hL]; exact h25))
      have hszh := Lib.hid (show 3 + op < (oc 0 1 (nums .i64 (fo o1 13 T0 k) ++ tail)).size by rw [oc_size, hL]; omega)
      rw [add_plain] at hca
      clear hop
      go_wp2_with (first | ((refine wl_set (by rfl) 3 _ _ (by rfl) g (3 + op) (by rfl) (.int .i64 13) (by rfl) rfl T (oc 0 1 (nums .i64 (fo o1 13 T0 k) ++ tail)) KV1 size_int hszh.out ?_); intro w4 k4 g4 s4))
      rw [hset.out, ← hs.out] at k4
      go_roundw
      case rel => first | exact ⟨k + 1, by omega, by go_num, k4, rd_grown RW g4 hne1.out, World.grownBy.trans HG1 g4⟩ | exact ⟨_, _, _, _, _, _, _, _, _, _, _, ⟨k + 1, by omega, by go_num, k4, rd_grown RW g4 hne1.out, World.grownBy.trans HG1 g4⟩, rfl⟩
      case measure => first | (simp [intOf]; done) | (simp [intOf]; omega)
    · obtain rfl : k = 5 := by omega
      have hq : decide (((5 : Nat) : Int) < 5) = false := by decide
      clear hlt hk RW
      change Blk wo1 g T (oc 0 1 (nums .i64 T1 ++ tail)) at KV1
      have R20 := rd_lit wo1 o2 10 rfl (by omega)
      have hne2 : Hid (wo1.heap.size ≠ g) := Lib.hid (by have := KV1.lt; omega)
      have K20 := KV1.alloc (.cells #[.int .i64 3, .int .i64 4, .int .i64 5, .int .i64 6, .int .i64 7, .int .i64 8, .int .i64 9, .int .i64 10, .int .i64 11, .int .i64 12] 3)
      have G20 : w.grownBy (wo1.alloc (.cells #[.int .i64 3, .int .i64 4, .int .i64 5, .int .i64 6, .int .i64 7, .int .i64 8, .int .i64 9, .int .i64 10, .int .i64 11, .int .i64 12] 3)) (some g) := World.grownBy.trans HG1 (grown_of_below (bl_alloc (bl_refl wo1) _) _)
      go_wp2_with fail
      obtain ⟨v2, hv2⟩ : ∃ v, wo1.alloc (.cells #[.int .i64 3, .int .i64 4, .int .i64 5, .int .i64 6, .int .i64 7, .int .i64 8, .int .i64 9, .int .i64 10, .int .i64 11, .int .i64 12] 3) = v := ⟨_, rfl⟩
      have R2 : Rd v2 .i64 (some ⟨wo1.heap.size, 0, none⟩) 10 (ints o2) := by rw [← hv2]; exact R20
      rw [hv2] at K20 G20 ⊢
      clear R20 hv2
      go_loopw [24] (fun i wr => ∃ (k : Nat), k ≤ 10 ∧ i = .int .i64 k ∧ Blk wr g T (oc 0 1 (nums .i64 (fo o2 11 T1 k) ++ tail)) ∧ Rd wr .i64 (some ⟨wo1.heap.size, 0, none⟩) 10 (ints o2) ∧ w.grownBy wr (some g)) (fun i _ => 10 - (intOf i).toNat)
      case atStart => exact ⟨0, by omega, rfl, K20, R2, G20⟩
      case round =>
        clear K20 R2 G20
        obtain ⟨k, hk, rfl, KV2, RW, HG2⟩ := hrel
        obtain ⟨wo2, rfl⟩ : ∃ wo : World, wo = wr := ⟨_, rfl⟩
        by_cases hlt : k < 10
        · have hq : decide ((k : Int) < 10) = true := by simp; omega
          obtain ⟨ad, e', hca⟩ := RW.at_ k hlt
          injection e' with e'
          subst e'
          rw [ints_get o2 k hlt] at hca
          obtain ⟨op, hop⟩ : ∃ op, o2[k]?.getD 0 = op := ⟨_, rfl⟩
          have h25 : op < 25 := by rw [← hop]; exact (by decide : ∀ k, k < 10 → o2[k]?.getD 0 < 25) k hlt
          have hs := Lib.hid (fo_succ o2 11 T1 k hlt)
          rw [hop] at hca hs
          have i1 : (op : Int) < 25 := by omega
          have hL : (fo o2 11 T1 k).length = 25 := (fo_len _ _ _ _).trans t1_len
          have hset := Lib.hid (oc_set 0 1 (fo o2 11 T1 k) tail op 11 (by rw [hL]; exact h25))
          have hszh := Lib.hid (show 3 + op < (oc 0 1 (nums .i64 (fo o2 11 T1 k) ++ tail)).size by rw [oc_size, hL]; omega)
          rw [add_plain] at hca
          clear hop
          go_wp2_with (first | ((refine wl_set (by rfl) 3 _ _ (by rfl) g (3 + op) (by rfl) (.int .i64 11) (by rfl) rfl T (oc 0 1 (nums .i64 (fo o2 11 T1 k) ++ tail)) KV2 size_int hszh.out ?_); intro w4 k4 g4 s4))
          rw [hset.out, ← hs.out] at k4
          go_roundw
          case rel => first | exact ⟨k + 1, by omega, by go_num, k4, rd_grown RW g4 hne2.out, World.grownBy.trans HG2 g4⟩ | exact ⟨_, _, _, _, _, _, _, _, _, _, _, ⟨k + 1, by omega, by go_num, k4, rd_grown RW g4 hne2.out, World.grownBy.trans HG2 g4⟩, rfl⟩
          case measure => first | (simp [intOf]; done) | (simp [intOf]; omega)
        · obtain rfl : k = 10 := by omega
          have hq : decide (((10 : Nat) : Int) < 10) = false := by decide
          clear hlt hk RW
          change Blk wo2 g T (oc 0 1 (nums .i64 T2 ++ tail)) at KV2
          have R30 := rd_lit wo2 o3 5 rfl (by omega)
          have hne3 : Hid (wo2.heap.size ≠ g) := Lib.hid (by have := KV2.lt; omega)
          have K30 := KV2.alloc (.cells #[.int .i64 14, .int .i64 15, .int .i64 16, .int .i64 17, .int .i64 21] 3)
          have G30 : w.grownBy (wo2.alloc (.cells #[.int .i64 14, .int .i64 15, .int .i64 16, .int .i64 17, .int .i64 21] 3)) (some g) := World.grownBy.trans HG2 (grown_of_below (bl_alloc (bl_refl wo2) _) _)
          go_wp2_with fail
          obtain ⟨v3, hv3⟩ : ∃ v, wo2.alloc (.cells #[.int .i64 14, .int .i64 15, .int .i64 16, .int .i64 17, .int .i64 21] 3) = v := ⟨_, rfl⟩
          have R3 : Rd v3 .i64 (some ⟨wo2.heap.size, 0, none⟩) 5 (ints o3) := by rw [← hv3]; exact R30
          rw [hv3] at K30 G30 ⊢
          clear R30 hv3
          go_loopw [36] (fun i wr => ∃ (k : Nat), k ≤ 5 ∧ i = .int .i64 k ∧ Blk wr g T (oc 0 1 (nums .i64 (fo o3 15 T2 k) ++ tail)) ∧ Rd wr .i64 (some ⟨wo2.heap.size, 0, none⟩) 5 (ints o3) ∧ w.grownBy wr (some g)) (fun i _ => 5 - (intOf i).toNat)
          case atStart => exact ⟨0, by omega, rfl, K30, R3, G30⟩
          case round =>
            clear K30 R3 G30
            obtain ⟨k, hk, rfl, KV3, RW, HG3⟩ := hrel
            obtain ⟨wo3, rfl⟩ : ∃ wo : World, wo = wr := ⟨_, rfl⟩
            by_cases hlt : k < 5
            · have hq : decide ((k : Int) < 5) = true := by simp; omega
              obtain ⟨ad, e', hca⟩ := RW.at_ k hlt
              injection e' with e'
              subst e'
              rw [ints_get o3 k hlt] at hca
              obtain ⟨op, hop⟩ : ∃ op, o3[k]?.getD 0 = op := ⟨_, rfl⟩
              have h25 : op < 25 := by rw [← hop]; exact (by decide : ∀ k, k < 5 → o3[k]?.getD 0 < 25) k hlt
              have hs := Lib.hid (fo_succ o3 15 T2 k hlt)
              rw [hop] at hca hs
              have i1 : (op : Int) < 25 := by omega
              have hL : (fo o3 15 T2 k).length = 25 := (fo_len _ _ _ _).trans t2_len
              have hset := Lib.hid (oc_set 0 1 (fo o3 15 T2 k) tail op 15 (by rw [hL]; exact h25))
              have hszh := Lib.hid (show 3 + op < (oc 0 1 (nums .i64 (fo o3 15 T2 k) ++ tail)).size by rw [oc_size, hL]; omega)
              rw [add_plain] at hca
              clear hop
              go_wp2_with (first | ((refine wl_set (by rfl) 3 _ _ (by rfl) g (3 + op) (by rfl) (.int .i64 15) (by rfl) rfl T (oc 0 1 (nums .i64 (fo o3 15 T2 k) ++ tail)) KV3 size_int hszh.out ?_); intro w4 k4 g4 s4))
              rw [hset.out, ← hs.out] at k4
              go_roundw
              case rel => first | exact ⟨k + 1, by omega, by go_num, k4, rd_grown RW g4 hne3.out, World.grownBy.trans HG3 g4⟩ | exact ⟨_, _, _, _, _, _, _, _, _, _, _, ⟨k + 1, by omega, by go_num, k4, rd_grown RW g4 hne3.out, World.grownBy.trans HG3 g4⟩, rfl⟩
              case measure => first | (simp [intOf]; done) | (simp [intOf]; omega)
            · obtain rfl : k = 5 := by omega
              have hq : decide (((5 : Nat) : Int) < 5) = false := by decide
              clear hlt hk RW
              change Blk wo3 g T (oc 0 1 (nums .i64 T3 ++ tail)) at KV3
              have R40 := rd_lit wo3 o4 3 rfl (by omega)
              have hne4 : Hid (wo3.heap.size ≠ g) := Lib.hid (by have := KV3.lt; omega)
              have K40 := KV3.alloc (.cells #[.int .i64 18, .int .i64 22, .int .i64 24] 3)
              have G40 : w.grownBy (wo3.alloc (.cells #[.int .i64 18, .int .i64 22, .int .i64 24] 3)) (some g) := World.grownBy.trans HG3 (grown_of_below (bl_alloc (bl_refl wo3) _) _)
              go_wp2_with fail
              obtain ⟨v4, hv4⟩ : ∃ v, wo3.alloc (.cells #[.int .i64 18, .int .i64 22, .int .i64 24] 3) = v := ⟨_, rfl⟩
              have R4 : Rd v4 .i64 (some ⟨wo3.heap.size, 0, none⟩) 3 (ints o4) := by rw [← hv4]; exact R40
              rw [hv4] at K40 G40 ⊢
              clear R40 hv4
              go_loopw [48] (fun i wr => ∃ (k : Nat), k ≤ 3 ∧ i = .int .i64 k ∧ Blk wr g T (oc 0 1 (nums .i64 (fo o4 12 T3 k) ++ tail)) ∧ Rd wr .i64 (some ⟨wo3.heap.size, 0, none⟩) 3 (ints o4) ∧ w.grownBy wr (some g)) (fun i _ => 3 - (intOf i).toNat)
              case atStart => exact ⟨0, by omega, rfl, K40, R4, G40⟩
              case round =>
                clear K40 R4 G40
                obtain ⟨k, hk, rfl, KV4, RW, HG4⟩ := hrel
                obtain ⟨wo4, rfl⟩ : ∃ wo : World, wo = wr := ⟨_, rfl⟩
                by_cases hlt : k < 3
                · have hq : decide ((k : Int) < 3) = true := by simp; omega
                  obtain ⟨ad, e', hca⟩ := RW.at_ k hlt
                  injection e' with e'
                  subst e'
                  rw [ints_get o4 k hlt] at hca
                  obtain ⟨op, hop⟩ : ∃ op, o4[k]?.getD 0 = op := ⟨_, rfl⟩
                  have h25 : op < 25 := by rw [← hop]; exact (by decide : ∀ k, k < 3 → o4[k]?.getD 0 < 25) k hlt
                  have hs := Lib.hid (fo_succ o4 12 T3 k hlt)
                  rw [hop] at hca hs
                  have i1 : (op : Int) < 25 := by omega
                  have hL : (fo o4 12 T3 k).length = 25 := (fo_len _ _ _ _).trans t3_len
                  have hset := Lib.hid (oc_set 0 1 (fo o4 12 T3 k) tail op 12 (by rw [hL]; exact h25))
                  have hszh := Lib.hid (show 3 + op < (oc 0 1 (nums .i64 (fo o4 12 T3 k) ++ tail)).size by rw [oc_size, hL]; omega)
                  rw [add_plain] at hca
                  clear hop
                  go_wp2_with (first | ((refine wl_set (by rfl) 3 _ _ (by rfl) g (3 + op) (by rfl) (.int .i64 12) (by rfl) rfl T (oc 0 1 (nums .i64 (fo o4 12 T3 k) ++ tail)) KV4 size_int hszh.out ?_); intro w4 k4 g4 s4))
                  rw [hset.out, ← hs.out] at k4
                  go_roundw
                  case rel => first | exact ⟨k + 1, by omega, by go_num, k4, rd_grown RW g4 hne4.out, World.grownBy.trans HG4 g4⟩ | exact ⟨_, _, _, _, _, _, _, _, _, _, _, ⟨k + 1, by omega, by go_num, k4, rd_grown RW g4 hne4.out, World.grownBy.trans HG4 g4⟩, rfl⟩
                  case measure => first | (simp [intOf]; done) | (simp [intOf]; omega)
                · obtain rfl : k = 3 := by omega
                  have hq : decide (((3 : Nat) : Int) < 3) = false := by decide
                  clear hlt hk RW
                  change Blk wo4 g T (oc 0 1 (nums .i64 T4 ++ tail)) at KV4
                  have hsz : 26 < (oc 0 1 (nums .i64 T4 ++ tail)).size := by rw [oc_size, t4_len]; omega
                  have hszh := Lib.hid hsz
                  clear hsz
                  go_wp2_with (first | ((refine wl_set (by rfl) 3 _ _ (by rfl) g 26 (by rfl) (.int .i64 9) (by rfl) rfl T (oc 0 1 (nums .i64 T4 ++ tail)) KV4 size_int hszh.out ?_); intro w9 k9 g9 s9))
                  have k9' := (congrArg (fun a => Blk w9 g T a) (oc_set 0 1 T4 tail 23 9 (by rw [t4_len]; omega))).mp k9
                  go_end0
                  exact ⟨rfl, k9', World.grownBy.trans HG4 g9⟩
end Go.Proofs.Ytdokmnpkihmkpaa.Isa
