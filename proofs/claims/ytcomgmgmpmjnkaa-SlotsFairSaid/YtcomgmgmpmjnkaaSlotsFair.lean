/- SlotsFair: at all slots and every number of turns skipped the law's text returns true. -/
import Derived.Test.YtcomgmgmpmjnkaaSlotsPlay
import Derived.Test.YtcomgmgmpmjnkaaMath
set_option linter.unusedVariables false
namespace Go.Proofs.Ytcomgmgmpmjnkaa.SlotsFair
open Go.RowKit Go.Proofs.Ytcomgmgmpmjnkaa.Base Go.Proofs.Ytcomgmgmpmjnkaa.Row Go.Proofs.Ytcomgmgmpmjnkaa.App Go.Proofs.Ytcomgmgmpmjnkaa.Slots Go.Proofs.Ytcomgmgmpmjnkaa.Slots2 Go.Proofs.Ytcomgmgmpmjnkaa.Slots3 Go.Proofs.Ytcomgmgmpmjnkaa.Slots4 Go.Proofs.Ytcomgmgmpmjnkaa.Slots5 Go.Proofs.Ytcomgmgmpmjnkaa.SlotsAw Go.Proofs.Ytcomgmgmpmjnkaa.SlotsWait Go.Proofs.Ytcomgmgmpmjnkaa.SlotsPlay Go.Proofs.Ytcomgmgmpmjnkaa.Math

/-- How often each environment's turn came among the first k of xs. -/
def cnts (xs : List Int) (k : Nat) : Array Value := ((List.range 16).map fun e => Value.int .i64 (count xs (e : Nat) k : Nat)).toArray
theorem cnts_size (xs : List Int) (k : Nat) : (cnts xs k).size = 16 := by simp [cnts]
theorem cnts_get (xs : List Int) (k j : Nat) (hj : j < 16) : (cnts xs k)[j]? = some (.int .i64 (count xs (j : Nat) k : Nat)) := by
  simp [cnts, hj]
theorem cnts_zero (xs : List Int) : cnts xs 0 = #[.int .i64 0, .int .i64 0, .int .i64 0, .int .i64 0, .int .i64 0, .int .i64 0, .int .i64 0, .int .i64 0, .int .i64 0, .int .i64 0, .int .i64 0, .int .i64 0, .int .i64 0, .int .i64 0, .int .i64 0, .int .i64 0] := by
  simp [cnts, count, List.range, List.range.loop]
theorem cnts_succ (xs : List Int) (k xn : Nat) (hk : k < xs.length) (hx : xs[k]?.getD 0 = (xn : Nat)) (h16 : xn < 16) :
    (cnts xs k).setIfInBounds xn (.int .i64 ((count xs (xn : Nat) k : Nat) + 1)) = cnts xs (k + 1) := by
  apply Array.ext_getElem?
  intro j
  rw [Array.getElem?_setIfInBounds, cnts_size]
  rcases Nat.lt_or_ge j 16 with hj | hj
  · rw [cnts_get _ _ _ hj, cnts_get _ _ _ hj, count_succ xs j k hk, hx]
    by_cases h : xn = j
    · subst h
      simp [h16]
    · rw [if_neg h, if_neg (by omega)]; rfl
  · rw [Array.getElem?_eq_none (by rw [cnts_size]; exact hj), Array.getElem?_eq_none (by rw [cnts_size]; exact hj), if_neg (by omega)]
theorem count_rot (l : List Int) (t : Nat) (env : Int) : count (rot l t) env l.length = count l env l.length := by
  unfold count
  rw [List.take_length, List.take_of_length_le (by rw [rot_len]; exact Nat.le_refl _)]
  have h : l = l.take t ++ l.drop t := (List.take_append_drop t l).symm
  conv => rhs; rw [h]
  unfold rot
  rw [List.filter_append, List.filter_append, List.length_append, List.length_append, Nat.add_comm]

set_option maxRecDepth 100000 in
set_option maxHeartbeats 8000000 in
theorem main (A : Option Addr) (n c : Nat) (l : List Int) (skip : Int) (w : World) (hr : Rd w .i64 A n l) (hA : A = none → c = 0) :
    Calls Try.prog 9 #[.slice A n c, .int .i64 skip] w fun e w' => e = .returned (.bool true) ∧ Below w.heap.size w w' := by
  have hlen := Lib.hid hr.len
  have hmx := hr.max
  have hO := Lib.hid (of_c A n c l w hr hA)
  clear hr hA
  obtain ⟨E, hE, hE32⟩ : ∃ E : Nat, bits .and .i64 skip 31 = (E : Int) ∧ E < 32 := by
    have := i64_and_mask skip 5 31 (by omega) rfl
    have h1 : (0 : Int) ≤ skip % ((31 + 1 : Nat) : Int) := Int.emod_nonneg _ (by omega)
    have h2 : skip % ((31 + 1 : Nat) : Int) < ((31 + 1 : Nat) : Int) := Int.emod_lt_of_pos _ (by omega)
    exact ⟨(skip % ((31 + 1 : Nat) : Int)).toNat, by rw [Int.toNat_of_nonneg h1]; exact this, by omega⟩
  go_enter Try.func9, Try.ntmps9
  go_wp2_with fail
  refine hO.out.mono ?_
  rintro r w1 ⟨⟨hok, A1, c1, rfl, HO⟩ | ⟨hok, rfl⟩, b1⟩
  · have R1 := Lib.hid (Rd.of_own HO)
    have hn := okL_len l hok
    rw [hlen.out] at hn
    have hok := Lib.hid hok
    have hc1 := Lib.hid (own_cap HO)
    have hn1 := Lib.hid (own_none HO)
    clear HO
    go_wp2_with (first
      | ((with_reducible refine wl_alloc rfl 96 rfl (rv none 0 0 0) new_v ?_); intro w2 k2 b2 s2)
      | ((with_reducible refine wl_store rfl 96 _ _ rfl w1.heap.size rfl (rv A1 n c1 0) rfl 96 (rv none 0 0 0) k2 (size_v _ rfl) rfl (one_v _ _ _ _) ?_); intro w3 k3 g3 s3))
    have B3 := below_grown b2 b2.size g3 (Nat.le_refl _)
    -- the turns that are skipped
    go_loopw [7] (fun i wr => ∃ (k t : Nat), k ≤ E ∧ (t < n ∨ t = 0) ∧ i = .int .i64 k ∧ Blk wr w1.heap.size 96 (rv A1 n c1 t) ∧ Below w1.heap.size w1 wr) (fun i _ => E - (intOf i).toNat)
    case atStart => exact ⟨0, 0, by omega, .inr rfl, rfl, k3, B3⟩
    case round =>
      clear k2 b2 k3 g3 B3
      obtain ⟨k, t, hk, ht, rfl, KV, HB⟩ := hrel
      obtain ⟨wo, rfl⟩ : ∃ wo : World, wo = wr := ⟨_, rfl⟩
      by_cases hlt : k < E
      · have hq : decide ((k : Int) < (E : Int)) = true := by simp; omega
        by_cases hn0 : n = 0
        · subst hn0
          go_wp2_with (first | (with_reducible refine wl_load rfl 96 _ rfl w1.heap.size rfl 96 (rv A1 0 c1 t) _ KV Try.underlying96 rfl (size_v _ rfl) ?_))
          refine (next_no A1 c1 t wo).mono ?_
          rintro r w5 ⟨rfl, b5⟩
          have K5 := KV.below b5
          have HB5 := bl_then HB b5
          go_wp2_with (first
            | ((with_reducible refine wl_store rfl 96 _ _ rfl w1.heap.size rfl (rv A1 0 c1 t) rfl 96 (rv A1 0 c1 t) K5 (size_v _ rfl) rfl (one_v _ _ _ _) ?_); intro w8 k8 g8 s8))
          go_roundw
          case rel => exact ⟨k + 1, t, by omega, ht, by go_num, k8, below_grown HB5 HB5.size g8 (Nat.le_refl _)⟩
          case measure => first | (simp [intOf]; done) | (simp [intOf]; omega)
        · have htn : t < n := by omega
          obtain ⟨t', ht'⟩ : ∃ t', (t + 1) % n = t' := ⟨_, rfl⟩
          have ht'lt : t' < n := by rw [← ht']; exact Nat.mod_lt _ (by omega)
          have hnx := Lib.hid (next_at A1 n c1 t t' _ l wo (R1.out.below HB) htn ht' rfl)
          clear ht'
          generalize l[t]?.getD 0 = y0 at *
          go_wp2_with (first | (with_reducible refine wl_load rfl 96 _ rfl w1.heap.size rfl 96 (rv A1 n c1 t) _ KV Try.underlying96 rfl (size_v _ rfl) ?_))
          refine (hnx.out).mono ?_
          rintro r w5 ⟨rfl, b5⟩
          have K5 := KV.below b5
          have HB5 := bl_then HB b5
          go_wp2_with (first
            | ((with_reducible refine wl_store rfl 96 _ _ rfl w1.heap.size rfl (rv A1 n c1 t') rfl 96 (rv A1 n c1 t) K5 (size_v _ rfl) rfl (one_v _ _ _ _) ?_); intro w8 k8 g8 s8))
          go_roundw
          case rel => exact ⟨k + 1, t', by omega, .inl ht'lt, by go_num, k8, below_grown HB5 HB5.size g8 (Nat.le_refl _)⟩
          case measure => first | (simp [intOf]; done) | (simp [intOf]; omega)
      · have hq : decide ((k : Int) < (E : Int)) = false := by simp; omega
        have htl : t ≤ n := by omega
        go_wp2_with (first | (with_reducible refine wl_load rfl 96 _ rfl w1.heap.size rfl 96 (rv A1 n c1 t) _ KV Try.underlying96 rfl (size_v _ rfl) ?_))
        refine (all_c A1 n c1 t l wo (R1.out.below HB) hn1.out htl hc1.out (by omega)).mono ?_
        rintro r w4 ⟨⟨W, cw, rfl, HOW⟩, b4⟩
        have gW := KV.lt
        have RW := Lib.hid (RdF.own (g := w1.heap.size) HOW (.inl gW))
        have RC := Lib.hid (RdF.own (g := w4.heap.size) HOW (.inr (Nat.le_refl _)))
        have KV4 := KV.below b4
        have HB4 := bl_then HB b4
        clear KV HB HOW
        have hz := cnts_zero (rot l t)
        go_wp2_with (first
          | ((with_reducible refine wl_alloc rfl 50 rfl (cnts (rot l t) 0) (by rw [hz]; kernel_rfl) ?_); intro w5 kc bc sc))
        have KV5 := KV4.below bc
        have sz4 := KV4.lt
        have HB5 := bl_then HB4 bc
        have RW5 := RW.out.below bc
        have RC5 := RC.out.below bc
        clear hz
        go_loopw [10] (fun i wr => ∃ (k : Nat), k ≤ n ∧ i = .int .i64 k ∧ Blk wr w1.heap.size 96 (rv A1 n c1 ((t + k) % n : Nat)) ∧ Blk wr w4.heap.size 50 (cnts (rot l t) k) ∧ Rd wr .i64 W n (rot l t) ∧ Below w1.heap.size w1 wr) (fun i _ => n - (intOf i).toNat)
        case atStart => exact ⟨0, by omega, rfl, by (rw [show (t + 0) % n = t from by rcases ht with h | h; exact Nat.mod_eq_of_lt (by omega); subst h; exact Nat.zero_mod _]); exact KV5, kc, RW5.rd, HB5⟩
        case round =>
          clear KV5 kc RW5 RC5 HB5 KV4 bc
          obtain ⟨k, hk, rfl, KV, KC, RWr, HB⟩ := hrel
          obtain ⟨wo2, rfl⟩ : ∃ wo2 : World, wo2 = wr := ⟨_, rfl⟩
          have gK := KC.lt
          by_cases hlt : k < n
          · have hq : decide ((k : Int) < (n : Int)) = true := by simp; omega
            have htn : t < n := by omega
            obtain ⟨j, hj⟩ : ∃ j, (t + k) % n = j := ⟨_, rfl⟩
            obtain ⟨j', hj'⟩ : ∃ j', (t + (k + 1)) % n = j' := ⟨_, rfl⟩
            have hjl : j < n := by rw [← hj]; exact Nat.mod_lt _ (by omega)
            have hjj : (j + 1) % n = j' := by rw [← hj, ← hj', Nat.mod_add_mod, Nat.add_assoc]
            obtain ⟨xn, hxn, hx16⟩ : ∃ xn : Nat, l[j]?.getD 0 = (xn : Int) ∧ xn < 16 := by
              have := okL_range l hok.out j (by rw [hlen.out]; exact hjl)
              exact ⟨(l[j]?.getD 0).toNat, by omega, by omega⟩
            have hrk : (rot l t)[k]?.getD 0 = (xn : Int) := by
              rw [rot_get l t n k hlen.out htn hlt]
              unfold nth
              rw [hj, hxn]
            have hcs := Lib.hid (cnts_succ (rot l t) k xn (by rw [rot_len, hlen.out]; exact hlt) hrk hx16)
            have hnx := Lib.hid (next_at A1 n c1 j j' xn l wo2 (R1.out.below HB) hjl hjj hxn)
            have hcl := count_le (rot l t) xn k
            obtain ⟨q, hqq⟩ : ∃ q, count (rot l t) (xn : Nat) k = q := ⟨_, rfl⟩
            rw [hqq] at hcs hcl
            have cc := KC.cellv xn _ (cnts_get (rot l t) k xn hx16)
            rw [hqq] at cc
            have hw : wrap64 ((q : Int) + 1) = (q : Int) + 1 := by unfold wrap64; omega
            rw [hj] at KV
            have hj'h := Lib.hid hj'
            have x1 : decide ((xn : Int) < 0) = false := by simp
            have x2 : decide (15 < (xn : Int)) = false := by simp; omega
            have x3 : (xn : Int) < 16 := by omega
            have hcz := Lib.hid (cnts_size (rot l t) k)
            clear hj hjj hxn hrk hqq hj'
            go_wp2_with (first | (with_reducible refine wl_load rfl 96 _ rfl w1.heap.size rfl 96 (rv A1 n c1 j) _ KV Try.underlying96 rfl (size_v _ rfl) ?_))
            refine (hnx.out).mono ?_
            rintro r w5' ⟨rfl, b5⟩
            have K5 := KV.below b5
            have KC5 := KC.below b5
            have HB5 := bl_then HB b5
            have z5 := K5.lt
            have z5c := KC5.lt
            have cc5 := bl_cell b5 cc
            go_wp2_with (first
              | ((with_reducible refine wl_alloc rfl 96 rfl (rv none 0 0 0) new_v ?_); intro w6 k6 b6 s6; have K6 := K5.below b6; have KC6 := KC5.below b6)
              | ((with_reducible refine wl_store rfl 96 _ _ rfl w5'.heap.size rfl (rv A1 n c1 j') rfl 96 (rv none 0 0 0) k6 (size_v _ rfl) rfl (one_v _ _ _ _) ?_); intro w7 k7 g7 s7; have K7 := K6.grown g7 (fun e => by injection e with e; omega); have KC7 := KC6.grown g7 (fun e => by injection e with e; omega); have cc7 := bl_cell (below_grown (bl_then b5 b6) (by have := b5.size; have := b6.size; omega) g7 b5.size) cc)
              | ((with_reducible refine wl_set rfl 3 _ _ rfl w4.heap.size xn rfl (.int .i64 (wrap64 ((q : Int) + 1))) rfl rfl 50 (cnts (rot l t) k) KC7 size_int (by rw [hcz.out]; omega) ?_); intro w8 kc8' g8 s8; rw [hw, hcs.out] at kc8'; have K8 := K7.grown g8 (fun e => by injection e with e; omega); have k8 := k7.grown g8 (fun e => by injection e with e; omega))
              | (with_reducible refine wl_load rfl 96 _ rfl w5'.heap.size rfl 96 (rv A1 n c1 j') _ k8 Try.underlying96 rfl (size_v _ rfl) ?_)
              | ((with_reducible refine wl_store rfl 96 _ _ rfl w1.heap.size rfl (rv A1 n c1 j') rfl 96 (rv A1 n c1 j) K8 (size_v _ rfl) rfl (one_v _ _ _ _) ?_); intro w9 k9 g9 s9))
            have bb7 := below_grown (bl_then b5 b6) (by have := b5.size; have := b6.size; omega) g7 b5.size
            have RW7 := RWr.below bb7
            have RW8 := (RdF.grown (g := w4.heap.size) ⟨RW7, RC.out.ne⟩ g8).rd
            have RW9 := (RdF.grown (g := w1.heap.size) ⟨RW8, RW.out.ne⟩ g9).rd
            have HB7 := bl_then HB bb7
            have HB8 := below_grown HB7 HB7.size g8 (by omega)
            have HB9 := below_grown HB8 HB8.size g9 (Nat.le_refl _)
            go_roundw
            case rel => exact ⟨k + 1, by omega, by go_num, by rw [hj'h.out]; exact k9, kc8'.grown g9 (fun e => by injection e with e; omega), RW9, HB9⟩
            case measure => first | (simp [intOf]; done) | (simp [intOf]; omega)
          · obtain rfl : k = n := by omega
            have hq : decide ((k : Int) < (k : Int)) = false := by simp
            have htk : (t + k) % k = t := by
              rcases ht with h | h
              · rw [Nat.add_mod_right, Nat.mod_eq_of_lt h]
              · subst h
                rw [Nat.zero_add, Nat.mod_self]
            rw [htk] at KV
            clear htk
            have p0 := KV.cellv 0 (.slice A1 k c1) rfl
            have p1 := KV.cellv 1 (.int .i64 t) rfl
            go_wp2_with fail
            go_loopw [14] (fun i wr => ∃ (m : Nat), m ≤ 16 ∧ i = .int .i64 m ∧ Below wo2.heap.size wo2 wr) (fun i _ => 16 - (intOf i).toNat)
            case atStart => exact ⟨0, by omega, rfl, bl_refl _⟩
            case round =>
              obtain ⟨m, hm, rfl, HB3⟩ := hrel
              obtain ⟨wo3, rfl⟩ : ∃ wo3 : World, wo3 = wr := ⟨_, rfl⟩
              by_cases hm16 : m < 16
              · have hq2 : decide ((m : Int) < 16) = true := by simp; omega
                have pc := KC.cellv m _ (cnts_get (rot l t) k m hm16)
                have hcr := count_rot l t (m : Nat)
                rw [hlen.out] at hcr
                rw [hcr] at pc
                have p0' := bl_cell HB3 p0
                have p1' := bl_cell HB3 p1
                have pc' := bl_cell HB3 pc
                have hsh := Lib.hid (share_at A1 k c1 t m _ l wo3.drew ((R1.out.below HB).below (bl_then HB3 (bl_drew (bl_refl _)))) rfl)
                clear p0 p1 pc hcr
                generalize count l (m : Nat) k = q at *
                have x3 : (m : Int) < 16 := by omega
                go_wp2_with fail
                go_region_held3 (fun w' => w'.cell? ⟨w1.heap.size, 0, none⟩ = some (.slice A1 k c1) ∧ w'.cell? ⟨w1.heap.size, 1, none⟩ = some (.int .i64 t) ∧ w'.cell? ⟨w4.heap.size, m, none⟩ = some (.int .i64 q))
                  (first
                    | go_keep
                    | exact ⟨bl_cell b5 p0', bl_cell b5 p1', bl_cell b5 pc'⟩)
                  (first
                    | (go_at_call 42; refine (hsh.out).mono ?_; rintro r w5' ⟨rfl, b5'⟩; have b5 := bl_then (bl_drew (bl_refl wo3)) b5'))
                go_wp2_with fail
                go_roundw
                case rel => exact ⟨m + 1, by omega, by go_num, bl_then HB3 b5⟩
                case measure => first | (simp [intOf]; done) | (simp [intOf]; omega)
              · have hq2 : decide ((m : Int) < 16) = false := by simp; omega
                have KV3 := KV.below HB3
                have R3 := R1.out.below (bl_then HB HB3)
                have RW3 := RWr.below HB3
                clear p0 p1
                go_wp2_with (first | (with_reducible refine wl_load rfl 96 _ rfl w1.heap.size rfl 96 (rv A1 k c1 t) _ KV3 Try.underlying96 rfl (size_v _ rfl) ?_))
                refine (all_c A1 k c1 t l wo3 R3 hn1.out htl hc1.out (by omega)).mono ?_
                rintro r w7 ⟨⟨A9, c9, rfl, HO9⟩, b7⟩
                go_wp2_with fail
                have R9 := Rd.of_own HO9
                refine (same_c A9 W k k c9 cw (rot l t) (rot l t) w7 R9 (RW3.below b7)).mono ?_
                rintro r w8 ⟨rfl, b8⟩
                rw [beq_self_eq_true]
                clear R9 HO9
                go_wp2_with fail
                refine (awake_c _).mono ?_
                rintro r w9 ⟨rfl, b9⟩
                go_wp2
                go_ret
                exact ⟨rfl, bl_then b1 (bl_then (bl_then (bl_then (bl_then HB HB3) b7) b8) b9)⟩
  · go_wp2_with (first
      | ((with_reducible refine wl_alloc rfl 96 rfl (rv none 0 0 0) new_v ?_); intro w2 k2 b2 s2)
      | ((with_reducible refine wl_store rfl 96 _ _ rfl w1.heap.size rfl (rv none 0 0 0) rfl 96 (rv none 0 0 0) k2 (size_v _ rfl) rfl (one_v _ _ _ _) ?_); intro w3 k3 g3 s3))
    have B3 := below_grown b2 b2.size g3 (Nat.le_refl _)
    refine (awake_c _).mono ?_
    rintro r w9 ⟨rfl, b9⟩
    go_wp2
    go_ret
    exact ⟨rfl, bl_then b1 (bl_then B3 b9)⟩

theorem walk (a0 : Option Addr) (len cap : Nat) (z : List Int) (a1 : Int) (w : World) (w0 : IsRow .i64 w a0 len cap z) (y0 : len * 8 ≤ 140737488351232) (w1 : (Lit.int .i64 a1).wf = true) :
    Calls Try.prog 9 #[.slice a0 len cap, .int .i64 a1] w fun e w' => e = .returned (.bool true) ∧ Below w.heap.size w w' := by
  obtain ⟨hr, hl, hm, hw⟩ := Rd.of_row w0
  exact main a0 len cap (z.take len) a1 w hr (row_none w0)
end Go.Proofs.Ytcomgmgmpmjnkaa.SlotsFair
