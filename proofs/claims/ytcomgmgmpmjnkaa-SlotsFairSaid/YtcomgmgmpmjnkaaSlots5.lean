/- Contract of package slots' Without. -/
import Derived.Test.YtcomgmgmpmjnkaaSlots4
set_option linter.unusedVariables false
namespace Go.Proofs.Ytcomgmgmpmjnkaa.Slots5
open Go.RowKit Go.Proofs.Ytcomgmgmpmjnkaa.Base Go.Proofs.Ytcomgmgmpmjnkaa.Row Go.Proofs.Ytcomgmgmpmjnkaa.App Go.Proofs.Ytcomgmgmpmjnkaa.Slots Go.Proofs.Ytcomgmgmpmjnkaa.Slots2 Go.Proofs.Ytcomgmgmpmjnkaa.Slots3 Go.Proofs.Ytcomgmgmpmjnkaa.Slots4

/-- Whose turn it is without an environment. -/
def wat (l : List Int) (env : Int) (t : Nat) : Nat := if (fil (l.take t) env).length = (fil l env).length then 0 else (fil (l.take t) env).length
def WoPost (l : List Int) (env : Int) (t : Nat) (w w' : World) (r : Ending) : Prop :=
  (∃ A1 c1, r = .returned (.agg (rv A1 (fil l env).length c1 (wat l env t : Nat))) ∧ w'.ownsRow w.heap.size 3 1 (.slice A1 (fil l env).length c1) (fil l env).length (nums .i64 (fil l env))) ∧ Below w.heap.size w w'

theorem grown_own {w3 w4 w5 : World} {row ob : Option Nat} (h : w3.grownBy w4 row) (g : w4.grownBy w5 ob) (hb : ∀ k, ob = some k → w3.heap.size ≤ k) : w3.grownBy w5 row :=
  ⟨g.os.trans h.os, g.tape.trans h.tape, g.output.trans h.output, Nat.le_trans h.size g.size, fun k hk hne => (g.block k (Nat.lt_of_lt_of_le hk h.size) (fun e => by have := hb k e.symm; omega)).trans (h.block k hk hne)⟩
theorem lt1 (A : Option Addr) (n c : Nat) (t : Int) : 1 < (rv A n c t).size := Nat.lt_succ_self 1
theorem lt0 (A : Option Addr) (n c : Nat) (t : Int) : 0 < (rv A n c t).size := Nat.zero_lt_succ 1

set_option maxRecDepth 100000 in
set_option maxHeartbeats 8000000 in
theorem without_c (A : Option Addr) (n c t : Nat) (env : Int) (l : List Int) (w : World) (hr : Rd w .i64 A n l) (ht : t ≤ n) (hn : n ≤ 1000) :
    Calls Try.prog 48 #[.agg (rv A n c t), .int .i64 env] w fun r w' => WoPost l env t w w' r := by
  have hlen := Lib.hid hr.len
  have hmx := hr.max
  go_enter Try.func48, Try.ntmps48
  go_wp2_with (first
    | ((with_reducible refine wl_box rfl 96 _ rfl (rv A n c t) rfl ?_); intro w1 k1 b1 s1; have f0 := k1.cellv 0 (.slice A n c) rfl)
    | (have _z := k2; (with_reducible refine wl_alloc rfl 96 rfl (rv none 0 0 0) new_v ?_); intro w3 k3 b3 s3; have f0 := bl_cell b3 f0)
    | ((with_reducible refine wl_alloc rfl 96 rfl (rv none 0 0 0) new_v ?_); intro w2 k2 b2 s2; have f0 := bl_cell b2 f0))
  have K1 := (k1.below b2).below b3
  have K2 := k2.below b3
  have B3 := bl_then (bl_then b1 b2) b3
  have z1 := b1.size
  have z2 := b2.size
  clear k1 k2 f0
  go_loopw [11] (fun i wr => ∃ (k : Nat) (A1 : Option Addr) (c1 m s : Nat), k ≤ n ∧ m = (fil (l.take k) env).length ∧ s = (fil (l.take (min k t)) env).length ∧ i = .int .i64 k ∧ Blk wr w2.heap.size 96 (rv A1 m c1 s) ∧ wr.ownsRow w3.heap.size 3 1 (.slice A1 m c1) m (nums .i64 (fil (l.take k) env)) ∧ w3.grownBy wr (some w2.heap.size)) (fun i _ => n - (intOf i).toNat)
  case atStart => exact ⟨0, none, 0, 0, 0, by omega, by simp [fil], by simp [fil], rfl, k3, by simpa [fil, nums] using own_nil _ _ _ _, World.grownBy.refl _ _⟩
  case round =>
    clear k3
    obtain ⟨k, A1, c1, m, s, hk, hm, hs, rfl, KO, HO, HG⟩ := hrel
    obtain ⟨wo, rfl⟩ : ∃ wo : World, wo = wr := ⟨_, rfl⟩
    have HB := below_grown B3 B3.size HG (by omega)
    have KV := Lib.hid (K1.grown HG (fun e => by injection e with e; omega))
    have KR := Lib.hid (K2.grown HG (fun e => by injection e with e; omega))
    have sz := HG.size
    have g1 := KV.out.cellv 1 (.int .i64 t) rfl
    have o0 := KO.cellv 0 (.slice A1 m c1) rfl
    have o1 := KO.cellv 1 (.int .i64 s) rfl
    by_cases hlt : k < n
    · have hq : decide ((k : Int) < (n : Int)) = true := by simp; omega
      obtain ⟨ad, rfl, hca⟩ := (hr.below HB).at_ k hlt
      have hcs := Lib.hid (fil_succ l env k (by rw [hlen.out]; exact hlt))
      have hml := Lib.hid (fil_le l env k)
      replace hm := Lib.hid hm
      replace hs := Lib.hid hs
      by_cases hx : l[k]?.getD 0 = env
      · have hq2 : (l[k]?.getD 0 == env) = true := by simp [hx]
        rw [if_pos hx] at hcs
        generalize l[k]?.getD 0 = y at *
        clear hx
        have hs2 : Hid (s = (fil (l.take (min (k + 1) t)) env).length) := Lib.hid (by
          rcases Nat.lt_or_ge k t with h | h
          · rw [show min (k + 1) t = k + 1 by omega, hcs.out, List.append_nil, hs.out, show min k t = k by omega]
          · rw [show min (k + 1) t = t by omega, hs.out, show min k t = t by omega])
        go_wp2
        go_roundw
        case rel => exact ⟨k + 1, A1, c1, m, s, by omega, by rw [hcs.out, List.append_nil]; exact hm.out, hs2.out, by go_num, KO, by rw [hcs.out, List.append_nil]; exact HO, HG⟩
        case measure => first | (simp [intOf]; done) | (simp [intOf]; omega)
      · have hq2 : (l[k]?.getD 0 == env) = false := by simpa using hx
        rw [if_neg hx] at hcs
        generalize l[k]?.getD 0 = y at *
        clear hx
        by_cases hkt : k < t
        · have hq3 : decide ((k : Int) < (t : Int)) = true := by simp; omega
          have hs2 : Hid (s + 1 = (fil (l.take (min (k + 1) t)) env).length) := Lib.hid (by
            rw [show min (k + 1) t = k + 1 by omega, hcs.out, List.length_append, hs.out, show min k t = k by omega]; rfl)
          have hw : wrap64 ((s : Int) + 1) = (s : Int) + 1 := by
            have h1 := hs.out
            have h2 := fil_le l env (min k t)
            unfold wrap64; omega
          go_wp2_with (first
            | ((with_reducible refine wl_set rfl 3 _ _ rfl w2.heap.size 1 rfl (.int .i64 (wrap64 ((s : Int) + 1))) rfl rfl 96 (rv A1 m c1 s) KO size_int (lt1 A1 m c1 s) ?_); intro w4 K4' G4 s4; have K4 : Blk w4 w2.heap.size 96 (rv A1 m c1 (wrap64 ((s : Int) + 1))) := K4'; rw [hw] at K4; have o0 := K4.cellv 0 (.slice A1 m c1) rfl; have HO := own_kept HO G4 (by omega); have HG4 := World.grownBy.trans HG G4)
            | (at_builtin; refine app_one (w0 := w4) w3.heap.size 8 (.int .i64 0) rfl _ _ 94 3 rfl Try.underlying94 info_int rfl (by decide) (.slice A1 m c1) m _ rfl HO (.int .i64 y) rfl rfl ?d1 ?d2 ?d3 ?_))
          case d1 => have := hml.out; have := hm.out; omega
          case d2 => exact Below.refl _ _
          case d3 => exact HG4.size
          intro A2 c2 w5 HO5 _ s5 G5
          have K5 := K4.grown G5 (fun e => by have := own_base HO _ e.symm; omega)
          have HG5 := grown_own HG4 G5 (own_base HO)
          go_wp2_with ((with_reducible refine wl_set rfl 94 _ _ rfl w2.heap.size 0 rfl (.slice A2 (m + 1) c2) rfl rfl 96 (rv A1 m c1 ((s : Int) + 1)) K5 size_ints (lt0 A1 m c1 _) ?_); intro w6 K6' G6 s6; have K6 : Blk w6 w2.heap.size 96 (rv A2 (m + 1) c2 ((s : Int) + 1)) := K6')
          have HO6 := own_kept HO5 G6 (by omega)
          have HG6 := World.grownBy.trans HG5 G6
          go_roundw
          case rel => exact ⟨k + 1, A2, c2, m + 1, s + 1, by omega, by rw [hcs.out, List.length_append, hm.out]; rfl, hs2.out, by go_num, K6, by rw [hcs.out, nums_append]; exact HO6, HG6⟩
          case measure => first | (simp [intOf]; done) | (simp [intOf]; omega)
        · have hq3 : decide ((k : Int) < (t : Int)) = false := by simp; omega
          have hs2 : Hid (s = (fil (l.take (min (k + 1) t)) env).length) := Lib.hid (by
            rw [show min (k + 1) t = t by omega, hs.out, show min k t = t by omega])
          have HG4 := Lib.hid HG
          go_wp2_with (at_builtin; refine app_one (w0 := wo) w3.heap.size 8 (.int .i64 0) rfl _ _ 94 3 rfl Try.underlying94 info_int rfl (by decide) (.slice A1 m c1) m _ rfl HO (.int .i64 y) rfl rfl ?d1 ?d2 ?d3 ?_)
          case d1 => have := hml.out; have := hm.out; omega
          case d2 => exact Below.refl _ _
          case d3 => exact HG.size
          intro A2 c2 w5 HO5 _ s5 G5
          have K5 := KO.grown G5 (fun e => by have := own_base HO _ e.symm; omega)
          have HG5 := grown_own HG G5 (own_base HO)
          go_wp2_with ((with_reducible refine wl_set rfl 94 _ _ rfl w2.heap.size 0 rfl (.slice A2 (m + 1) c2) rfl rfl 96 (rv A1 m c1 s) K5 size_ints (lt0 A1 m c1 _) ?_); intro w6 K6' G6 s6; have K6 : Blk w6 w2.heap.size 96 (rv A2 (m + 1) c2 s) := K6')
          have HO6 := own_kept HO5 G6 (by omega)
          have HG6 := World.grownBy.trans HG5 G6
          go_roundw
          case rel => exact ⟨k + 1, A2, c2, m + 1, s, by omega, by rw [hcs.out, List.length_append, hm.out]; rfl, hs2.out, by go_num, K6, by rw [hcs.out, nums_append]; exact HO6, HG6⟩
          case measure => first | (simp [intOf]; done) | (simp [intOf]; omega)
    · obtain rfl : k = n := by omega
      have hq : decide ((k : Int) < (k : Int)) = false := by simp
      rw [List.take_of_length_le (by rw [hlen.out]; omega)] at HO hm
      rw [show min k t = t by omega] at hs
      have hwat : Hid (wat l env t = if s = m then 0 else s) := Lib.hid (by unfold wat; rw [← hm, ← hs])
      have HB := Lib.hid HB
      have HG' := Lib.hid HG
      have HOh := Lib.hid HO
      replace hm := Lib.hid hm
      replace hs := Lib.hid hs
      by_cases hsm : s = m
      · subst hsm
        rw [if_pos rfl] at hwat
        have hq2 : ((s : Int) == (s : Int)) = true := by simp
        go_wp2_with (first
          | ((with_reducible refine wl_set rfl 3 _ _ rfl w2.heap.size 1 rfl (.int .i64 0) rfl rfl 96 (rv A1 s c1 s) KO size_int (lt1 A1 s c1 _) ?_); intro w4 K4' G4 s4; have K4 : Blk w4 w2.heap.size 96 (rv A1 s c1 0) := K4'; have KR4 := KR.out.grown G4 (fun e => by injection e with e; omega))
          | (with_reducible refine wl_load rfl 96 _ rfl w2.heap.size rfl 96 (rv A1 s c1 0) _ K4 Try.underlying96 rfl (size_v _ rfl) ?_)
          | ((with_reducible refine wl_store rfl 96 _ _ rfl w1.heap.size rfl (rv A1 s c1 0) rfl 96 (rv none 0 0 0) KR4 (size_v _ rfl) rfl (one_v _ _ _ _) ?_); intro w5 K5 G5 s5))
        refine bodyPost_ret (res_cell rfl _ _ _ w1.heap.size 96 (rv A1 s c1 0) _ rfl K5 Try.underlying96 rfl (size_v _ rfl)) rfl ⟨⟨A1, c1, ?_, ?_⟩, ?_⟩
        · rw [hwat.out, ← hm.out]; try rfl
        · rw [← hm.out]
          exact own_mono (own_kept (own_kept HOh.out G4 (by omega)) G5 (by omega)) (by omega)
        · exact below_grown (below_grown HB.out HB.out.size G4 (by omega)) (by have := HB.out.size; have := G4.size; omega) G5 (by omega)
      · rw [if_neg hsm] at hwat
        have hq2 : ((s : Int) == (m : Int)) = false := by simp; omega
        have KR4 := KR.out
        go_wp2_with (first
          | (with_reducible refine wl_load rfl 96 _ rfl w2.heap.size rfl 96 (rv A1 m c1 s) _ KO Try.underlying96 rfl (size_v _ rfl) ?_)
          | ((with_reducible refine wl_store rfl 96 _ _ rfl w1.heap.size rfl (rv A1 m c1 s) rfl 96 (rv none 0 0 0) KR4 (size_v _ rfl) rfl (one_v _ _ _ _) ?_); intro w5 K5 G5 s5))
        refine bodyPost_ret (res_cell rfl _ _ _ w1.heap.size 96 (rv A1 m c1 s) _ rfl K5 Try.underlying96 rfl (size_v _ rfl)) rfl ⟨⟨A1, c1, ?_, ?_⟩, ?_⟩
        · rw [hwat.out, ← hm.out]; try rfl
        · rw [← hm.out]
          exact own_mono (own_kept HOh.out G5 (by omega)) (by omega)
        · exact below_grown HB.out HB.out.size G5 (by omega)
end Go.Proofs.Ytcomgmgmpmjnkaa.Slots5
