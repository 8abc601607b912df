/- Contract of package tlb: an entry taken out. -/
import Derived.Test.YtdokmnpkihmkpaaTlb
set_option linter.unusedVariables false
namespace Go.Proofs.Ytdokmnpkihmkpaa.Tlb2
open Go.RowKit Go.Proofs.Ytdokmnpkihmkpaa.Base Go.Proofs.Ytdokmnpkihmkpaa.Row Go.Proofs.Ytdokmnpkihmkpaa.App Go.Proofs.Ytdokmnpkihmkpaa.Multi Go.Proofs.Ytdokmnpkihmkpaa.TlbMath Go.Proofs.Ytdokmnpkihmkpaa.Tlb

theorem tl_src {w : World} {g : Nat} {l : List En} {m : Int} (h : Tl w g l m) (k : Nat) : ∀ j v, ((l.drop k).flatMap ev)[j]? = some v → w.cell? ((⟨g, k * 4, none⟩ : Addr).add j) = some v := by
  intro j v hv
  obtain ⟨i', x, j', h1, h2, rfl⟩ := flat_inv ev_len _ j v hv
  rw [List.getElem?_drop] at h1
  rw [Addr.add_mid, show k * 4 + (i' * 4 + j') = (k + i') * 4 + j' by omega]
  exact tl_at h h1 j' v h2
theorem zero_e : Try.prog.built 52 [] = some (ea ez) := by kernel_rfl
theorem t8_lt {L : List En} (h : L.length = 8) (n m : Int) : 32 < (t8 L n m).size := by rw [t8_size h]; omega

set_option maxRecDepth 100000 in
set_option maxHeartbeats 2000000 in
theorem cut_c (g : Nat) (l : List En) (m : Int) (i : Nat) (w : World) (h : Tl w g l m) (hl : l.length ≤ 8) (hi : i < l.length) :
    Calls Try.prog 60 #[.pointer (some ⟨g, 0, none⟩), .int .i64 i] w fun r w' => r = .returned (.tuple #[]) ∧ Tl w' g (l.eraseIdx i) m ∧ w.grownBy w' (some g) := by
  have hh := Lib.hid h
  have c := Blk.cellv h 32 _ (tc_n hl m)
  obtain ⟨n, hn⟩ : ∃ n, l.length = n := ⟨_, rfl⟩
  have hpl := pad_len hl
  have hdl : (l.drop (i + 1)).length = n - (i + 1) := by rw [List.length_drop, hn]
  obtain ⟨L1, hL1⟩ : ∃ L1, (pad l).take i ++ (l.drop (i + 1) ++ (pad l).drop (i + (l.drop (i + 1)).length)) = L1 := ⟨_, rfl⟩
  have hl1 : Hid (L1.length = 8) := Lib.hid (by
    rw [← hL1, List.length_append, List.length_append, List.length_take, hdl, List.length_drop, hpl]; omega)
  have hlay : Hid (lay (tc l m) (i * 4) ((l.drop (i + 1)).flatMap ev) = t8 L1 n m) := Lib.hid (by
    rw [tc_t8, t8_lay hpl i _ m (by rw [hdl]; omega), hL1, hn])
  have hfin : Hid (L1.set (n - 1) ez = pad (l.eraseIdx i)) := Lib.hid (by rw [← hL1, ← hn]; exact cut_pad hl i hi)
  have hel : Hid ((l.eraseIdx i).length = n - 1) := Lib.hid (by rw [List.length_eraseIdx_of_lt hi, hn])
  have hcl : Hid (((l.drop (i + 1)).flatMap ev).length = (n - (i + 1)) * 4) := Lib.hid (by rw [flat_len ev_len, hdl])
  have hsz : Hid (i * 4 + ((l.drop (i + 1)).flatMap ev).length ≤ (tc l m).size) := Lib.hid (by rw [hcl.out, tc_size hl]; omega)
  rw [hn] at c hl hi
  obtain ⟨ad, had, hsrc⟩ : ∃ ad : Addr, (if i = 7 then (⟨g, 0, none⟩ : Addr) else ⟨g, (i + 1) * 4, none⟩) = ad ∧ Hid (∀ j v, ((l.drop (i + 1)).flatMap ev)[j]? = some v → w.drew.cell? (ad.add j) = some v) := by
    by_cases h8 : i = 7
    · refine ⟨⟨g, 0, none⟩, by rw [if_pos h8], Lib.hid (fun j v hv => ?_)⟩
      have h0 := hcl.out
      rw [show n - (i + 1) = 0 by omega] at h0
      have h1 : (l.drop (i + 1)).flatMap ev = [] := List.eq_nil_of_length_eq_zero (by rw [h0, Nat.zero_mul])
      rw [h1] at hv
      simp at hv
    · exact ⟨⟨g, (i + 1) * 4, none⟩, by rw [if_neg h8], Lib.hid (tl_src (hh.out.drew) (i + 1))⟩
  clear h hn hpl hdl hL1
  have q1 : (i : Int) ≤ 8 := by omega
  have q2 : (i : Int) + 1 ≤ n := by omega
  have q3 : (n : Int) ≤ 8 := by omega
  have q5 : ¬ 8 = i := by omega
  have q7 : (0 : Int) ≤ (i : Int) + 1 := by omega
  have q8 : ((i : Int) + 1).toNat = i + 1 := by omega
  have q9 : IntKind.i64.wrap ((i : Int) + 1) = (i : Int) + 1 := by rw [IntKind.wrap_i64]; omega
  go_enter Try.func60, Try.ntmps60
  go_wp2_with fail
  refine wp_region_still_tail 15 (by kernel_rfl) (by kernel_rfl) ?_
  simp only [List.take_succ_cons, List.take_zero, List.drop_succ_cons, List.drop_zero]
  repeat still_step
  refine wpStill_nil ?_
  change wpList _ _ _ _ _ w.drew
  clear had q5 q7 q8 q9 c
  refine wl_copy_mul 4 rfl (.tmp 8) (.tmp 18) 61 61 rfl 52 Try.underlying61 size_e g (i * 4) (8 - i) (8 - i) rfl 55 (tc l m) hh.out.drew ad (n - (i + 1)) (7 - i) (n - (i + 1)) rfl (Nat.min_eq_left (by omega)) ((l.drop (i + 1)).flatMap ev) hcl.out hsrc.out hsz.out (flat_one ev_one _) ?_
  intro w1 k1 g1 s1
  rw [hlay.out] at k1
  have c1 := k1.cellv 32 (.int .i64 n) (by
    unfold t8
    rw [List.getElem?_toArray, List.getElem?_append_right (by rw [flat_len ev_len, hl1.out]; omega), flat_len ev_len, hl1.out]; rfl)
  have q4 := Lib.hid (show (n : Int) - 1 = ((n - 1 : Nat) : Int) by omega)
  have q10 : (1 : Int) ≤ (n : Int) := by omega
  have hsz2 := Lib.hid (t8_lt hl1.out n m)
  go_wp2_with ((refine wl_set rfl 3 _ _ rfl g 32 rfl (.int .i64 ((n : Int) - 1)) rfl rfl 55 (t8 L1 n m) k1 size_i hsz2.out ?_); intro w2 k2 g2 s2)
  rw [t8_setn hl1.out, q4.out] at k2
  have c2 := k2.cellv 32 (.int .i64 (n - 1 : Nat)) (by
    unfold t8
    rw [List.getElem?_toArray, List.getElem?_append_right (by rw [flat_len ev_len, hl1.out]; omega), flat_len ev_len, hl1.out]; rfl)
  clear c1 k1
  have q5 : ((n - 1 : Nat) : Int) < 8 := by omega
  have q6 : n - 1 < 8 := by omega
  go_wp2_with fail
  refine wp_region_still_tail 9 (by kernel_rfl) (by kernel_rfl) ?_
  simp only [List.take_succ_cons, List.take_zero, List.drop_succ_cons, List.drop_zero]
  repeat still_step
  refine wpStill_nil ?_
  change wpList _ _ _ _ _ w2.drew
  clear c2 q5 q6
  have hsz3 : Hid ((n - 1) * 4 + (ea ez).size ≤ (t8 L1 (n - 1 : Nat) m).size) := Lib.hid (by rw [t8_size hl1.out]; show (n - 1) * 4 + 4 ≤ 34; omega)
  refine wl_store_mid rfl 52 (.tmp 35) (.tmp 32) rfl g ((n - 1) * 4) rfl (ea ez) rfl 55 (t8 L1 (n - 1 : Nat) m) k2.drew (size_ea _) hsz3.out (ea_one _) ?_
  intro w3 k3 g3 s3
  have hl2 : Hid (lay (t8 L1 (n - 1 : Nat) m) ((n - 1) * 4) (ea ez).toList = tc (l.eraseIdx i) m) := Lib.hid (by
    have := t8_lay (M := [ez]) hl1.out (n - 1) ((n - 1 : Nat) : Int) m (by show n - 1 + 1 ≤ 8; omega)
    rw [show ([ez].flatMap ev) = (ea ez).toList from rfl] at this
    rw [this, List.length_singleton, set_as_lay (n - 1) ez (by rw [hl1.out]; omega), hfin.out, tc_t8, hel.out])
  rw [hl2.out] at k3
  go_wp2
  go_end0
  exact ⟨rfl, k3, World.grownBy.trans (grown_of_below (bl_drew (bl_refl w)) _) (World.grownBy.trans g1 (World.grownBy.trans g2 (World.grownBy.trans (grown_of_below (bl_drew (bl_refl w2)) _) g3)))⟩
end Go.Proofs.Ytdokmnpkihmkpaa.Tlb2
