/- Are two memories the same but for some frames? -/
import Derived.Test.YtdokmnpkihmkpaaFrames9
import Derived.Deep.LoopGhost
import Derived.StillTailTactics
set_option linter.unusedVariables false
namespace Go.Proofs.Ytdokmnpkihmkpaa.Frames10
open Go.RowKit Go.Proofs.Ytdokmnpkihmkpaa.Base Go.Proofs.Ytdokmnpkihmkpaa.Row Go.Proofs.Ytdokmnpkihmkpaa.Frames Go.Proofs.Ytdokmnpkihmkpaa.Frames2 Go.Proofs.Ytdokmnpkihmkpaa.Frames3 Go.Proofs.Ytdokmnpkihmkpaa.Frames4 Go.Proofs.Ytdokmnpkihmkpaa.Frames5 Go.Proofs.Ytdokmnpkihmkpaa.Frames6 Go.Proofs.Ytdokmnpkihmkpaa.Frames9

def Oth (X Y : List Int) (n : Nat) (ks : List Int) : Prop := ∀ i, i < n → (∀ j, j < ks.length → (i : Int) ≠ ks[j]?.getD 0) → pgAt X i = pgAt Y i
theorem eqp (d e : List Int) (hd : d.length = 16) (he : e.length = 16) (w : World) : (Op.equalIn 10000 40 (.agg (nums .u32 d).toArray) (.agg (nums .u32 e).toArray)).run Try.prog w = .ok (d == e) w := by
  obtain ⟨i0, hi, _, hz1, _⟩ := info_parts info_u32
  exact run_eq_ints 9998 40 16 28 .u32 i0 Try.underlying40 Try.underlying28 hi hz1 d e hd he

set_option maxRecDepth 100000 in
set_option maxHeartbeats 8000000 in
theorem others_c (g gp g2 gp2 n c : Nat) (X Y : List Int) (B : Option Addr) (m cB : Nat) (ks : List Int) (w : World) (hx : Mm w g gp n X) (hy : Mt w g2 gp2 n c Y) (hb : Rd w .i64 B m ks) (o : Bool) (ho : o = true ↔ Oth X Y n ks) :
    Calls Try.prog 22 #[.pointer (some ⟨g, 0, none⟩), .pointer (some ⟨g2, 0, none⟩), .slice B m cB] w fun r w' => r = .returned (.bool o) ∧ Below w.heap.size w w' := by
  have hxh := Lib.hid hx
  have hyh := Lib.hid hy
  have hbh := Lib.hid hb
  have hoh := Lib.hid ho
  have hL1 := Lib.hid (fun w' h' => len_c g gp n X w' h')
  have hL2 := Lib.hid (fun w' h' => tlen_c g2 gp2 n c Y w' h')
  have hkl := Lib.hid hb.len
  have n256 := hx.n256
  have hms := hb.max
  clear hx hy hb ho
  go_enter Try.func22, Try.ntmps22
  go_wp2_with fail
  go_step3
  go_wp2_with fail
  refine (hL1.out _ hxh.out).mono ?_
  rintro r w1 ⟨rfl, rfl⟩
  go_wp2_with fail
  refine (hL2.out _ hyh.out).mono ?_
  rintro r w1 ⟨rfl, rfl⟩
  go_wp2_with fail
  go_step3
  go_wp2_with fail
  refine (hL1.out _ hxh.out).mono ?_
  rintro r w1 ⟨rfl, rfl⟩
  go_wp2_with fail
  go_loopg [17] n (fun gq i wr => ∃ k : Nat, k + gq = n ∧ i = .int .i64 k ∧ Hid (∀ i, i < k → (∀ j, j < ks.length → (i : Int) ≠ ks[j]?.getD 0) → pgAt X i = pgAt Y i) ∧ Below w.heap.size w wr)
  case atStart => exact ⟨0, by omega, rfl, Lib.hid (fun i hi => absurd hi (by omega)), bl_refl w⟩
  case round =>
    obtain ⟨k, hkg, rfl, HK, HB⟩ := hrel
    obtain ⟨w2, rfl⟩ : ∃ w2 : World, w2 = wr := ⟨_, rfl⟩
    cases gk with
    | zero =>
      have hnlt : ¬ k < n := by omega
      have hres : Hid (o = true) := Lib.hid (hoh.out.2 (fun i hi => HK.out i (by omega)))
      clear hkg
      go_wp2
      try rw [Exit.noGoto_ret]
      go_ret
      exact ⟨ret_bool hres.out.symm, HB⟩
    | succ gn =>
      have hlt : k < n := by omega
      have hkg' := Lib.hid hkg
      clear hkg
      have hq : decide ((k : Int) < (n : Int)) = true := by simp; omega
      go_wp2_with fail
      go_loopg [22] m (fun gq i wr => ∃ j : Nat, j + gq = m ∧ i = .int .i64 j ∧ Hid (∀ j', j' < j → (k : Int) ≠ ks[j']?.getD 0) ∧ w2 = wr)
      case atStart => exact ⟨0, by omega, rfl, Lib.hid (fun i hi => absurd hi (by omega)), rfl⟩
      case round =>
        obtain ⟨j, hjg, rfl, HJ, rfl⟩ := hrel
        cases gk with
        | zero =>
          have hnlt : ¬ j < m := by omega
          have hjm : Hid (j = m) := Lib.hid (by omega)
          have hnk : Hid (∀ j', j' < ks.length → (k : Int) ≠ ks[j']?.getD 0) := Lib.hid (fun j' hj' => HJ.out j' (by rw [hjm.out, ← hkl.out]; exact hj'))
          clear hjg
          have hi1 : (k : Int) < (n : Int) := by omega
          have hX2 := Lib.hid (hxh.out.below HB)
          have hY2 := Lib.hid (hyh.out.below HB)
          have hPl : Hid ((pgAt X k).length = 16) := Lib.hid (pgAt_len X n k hX2.out.len hlt)
          have hQl : Hid ((pgAt Y k).length = 16) := Lib.hid (pgAt_len Y n k hY2.out.len hlt)
          have hr1 := Lib.hid ((Mt.of hX2.out).range k hlt)
          have hr2 := Lib.hid (hY2.out.range k hlt)
          have hPX : Hid (∃ P, pgAt X k = P) := Lib.hid ⟨_, rfl⟩
          obtain ⟨P, hP⟩ := hPX.out
          obtain ⟨Q, hQ⟩ : ∃ Q, pgAt Y k = Q := ⟨_, rfl⟩
          have hPh := Lib.hid hP
          have hQh := Lib.hid hQ
          rw [hP] at hPl hr1
          rw [hQ] at hQl hr2
          clear hP hQ hPX
          have heq := fun W => eqp P Q hPl.out hQl.out W
          have hgn : gn < gn + 1 := by omega
          obtain ⟨p0, p1, p2, p3, p4, p5, p6, p7, p8, p9, p10, p11, p12, p13, p14, p15, rfl⟩ := ex16 hPl.out
          obtain ⟨q0, q1, q2, q3, q4, q5, q6, q7, q8, q9, q10, q11, q12, q13, q14, q15, rfl⟩ := ex16 hQl.out
          clear hPl hQl
          go_wp2_with fail
          have KX := Lib.hid (hX2.out.m.drew)
          have KY := Lib.hid (hY2.out.m.drew)
          have R1 : w2.drew.rangeAt gp (k * 16) (nums .u32 [p0, p1, p2, p3, p4, p5, p6, p7, p8, p9, p10, p11, p12, p13, p14, p15]) := hr1.out
          have R2 : w2.drew.rangeAt gp2 (k * 16) (nums .u32 [q0, q1, q2, q3, q4, q5, q6, q7, q8, q9, q10, q11, q12, q13, q14, q15]) := hr2.out
          have t0 : w2.drew.cell? ⟨g, 0, none⟩ = some (.slice (some ⟨gp, 0, none⟩) n n) := KX.out.cellv 0 _ rfl
          have t1 : w2.drew.cell? ⟨g2, 0, none⟩ = some (.slice (some ⟨gp2, 0, none⟩) n c) := KY.out.cellv 0 _ rfl
          have d0 : w2.drew.cell? ⟨gp, k * 16, none⟩ = some (.int .u32 p0) := R1 0 _ rfl
          have d1 : w2.drew.cell? ⟨gp, k * 16 + 1, none⟩ = some (.int .u32 p1) := R1 1 _ rfl
          have d2 : w2.drew.cell? ⟨gp, k * 16 + 2, none⟩ = some (.int .u32 p2) := R1 2 _ rfl
          have d3 : w2.drew.cell? ⟨gp, k * 16 + 3, none⟩ = some (.int .u32 p3) := R1 3 _ rfl
          have d4 : w2.drew.cell? ⟨gp, k * 16 + 4, none⟩ = some (.int .u32 p4) := R1 4 _ rfl
          have d5 : w2.drew.cell? ⟨gp, k * 16 + 5, none⟩ = some (.int .u32 p5) := R1 5 _ rfl
          have d6 : w2.drew.cell? ⟨gp, k * 16 + 6, none⟩ = some (.int .u32 p6) := R1 6 _ rfl
          have d7 : w2.drew.cell? ⟨gp, k * 16 + 7, none⟩ = some (.int .u32 p7) := R1 7 _ rfl
          have d8 : w2.drew.cell? ⟨gp, k * 16 + 8, none⟩ = some (.int .u32 p8) := R1 8 _ rfl
          have d9 : w2.drew.cell? ⟨gp, k * 16 + 9, none⟩ = some (.int .u32 p9) := R1 9 _ rfl
          have d10 : w2.drew.cell? ⟨gp, k * 16 + 10, none⟩ = some (.int .u32 p10) := R1 10 _ rfl
          have d11 : w2.drew.cell? ⟨gp, k * 16 + 11, none⟩ = some (.int .u32 p11) := R1 11 _ rfl
          have d12 : w2.drew.cell? ⟨gp, k * 16 + 12, none⟩ = some (.int .u32 p12) := R1 12 _ rfl
          have d13 : w2.drew.cell? ⟨gp, k * 16 + 13, none⟩ = some (.int .u32 p13) := R1 13 _ rfl
          have d14 : w2.drew.cell? ⟨gp, k * 16 + 14, none⟩ = some (.int .u32 p14) := R1 14 _ rfl
          have d15 : w2.drew.cell? ⟨gp, k * 16 + 15, none⟩ = some (.int .u32 p15) := R1 15 _ rfl
          have e0 : w2.drew.cell? ⟨gp2, k * 16, none⟩ = some (.int .u32 q0) := R2 0 _ rfl
          have e1 : w2.drew.cell? ⟨gp2, k * 16 + 1, none⟩ = some (.int .u32 q1) := R2 1 _ rfl
          have e2 : w2.drew.cell? ⟨gp2, k * 16 + 2, none⟩ = some (.int .u32 q2) := R2 2 _ rfl
          have e3 : w2.drew.cell? ⟨gp2, k * 16 + 3, none⟩ = some (.int .u32 q3) := R2 3 _ rfl
          have e4 : w2.drew.cell? ⟨gp2, k * 16 + 4, none⟩ = some (.int .u32 q4) := R2 4 _ rfl
          have e5 : w2.drew.cell? ⟨gp2, k * 16 + 5, none⟩ = some (.int .u32 q5) := R2 5 _ rfl
          have e6 : w2.drew.cell? ⟨gp2, k * 16 + 6, none⟩ = some (.int .u32 q6) := R2 6 _ rfl
          have e7 : w2.drew.cell? ⟨gp2, k * 16 + 7, none⟩ = some (.int .u32 q7) := R2 7 _ rfl
          have e8 : w2.drew.cell? ⟨gp2, k * 16 + 8, none⟩ = some (.int .u32 q8) := R2 8 _ rfl
          have e9 : w2.drew.cell? ⟨gp2, k * 16 + 9, none⟩ = some (.int .u32 q9) := R2 9 _ rfl
          have e10 : w2.drew.cell? ⟨gp2, k * 16 + 10, none⟩ = some (.int .u32 q10) := R2 10 _ rfl
          have e11 : w2.drew.cell? ⟨gp2, k * 16 + 11, none⟩ = some (.int .u32 q11) := R2 11 _ rfl
          have e12 : w2.drew.cell? ⟨gp2, k * 16 + 12, none⟩ = some (.int .u32 q12) := R2 12 _ rfl
          have e13 : w2.drew.cell? ⟨gp2, k * 16 + 13, none⟩ = some (.int .u32 q13) := R2 13 _ rfl
          have e14 : w2.drew.cell? ⟨gp2, k * 16 + 14, none⟩ = some (.int .u32 q14) := R2 14 _ rfl
          have e15 : w2.drew.cell? ⟨gp2, k * 16 + 15, none⟩ = some (.int .u32 q15) := R2 15 _ rfl
          clear R1 R2 hr1 hr2
          by_cases hpq : [p0, p1, p2, p3, p4, p5, p6, p7, p8, p9, p10, p11, p12, p13, p14, p15] = [q0, q1, q2, q3, q4, q5, q6, q7, q8, q9, q10, q11, q12, q13, q14, q15]
          · have heq' : ∀ W, (Op.equalIn 10000 40 (.agg #[.int .u32 p0, .int .u32 p1, .int .u32 p2, .int .u32 p3, .int .u32 p4, .int .u32 p5, .int .u32 p6, .int .u32 p7, .int .u32 p8, .int .u32 p9, .int .u32 p10, .int .u32 p11, .int .u32 p12, .int .u32 p13, .int .u32 p14, .int .u32 p15]) (.agg #[.int .u32 q0, .int .u32 q1, .int .u32 q2, .int .u32 q3, .int .u32 q4, .int .u32 q5, .int .u32 q6, .int .u32 q7, .int .u32 q8, .int .u32 q9, .int .u32 q10, .int .u32 q11, .int .u32 q12, .int .u32 q13, .int .u32 q14, .int .u32 q15])).run Try.prog W = .ok true W := by
              intro W
              have := heq W
              rwa [show ([p0, p1, p2, p3, p4, p5, p6, p7, p8, p9, p10, p11, p12, p13, p14, p15] == [q0, q1, q2, q3, q4, q5, q6, q7, q8, q9, q10, q11, q12, q13, q14, q15]) = true by rw [hpq]; exact beq_self_eq_true _] at this
            have hpq' := Lib.hid hpq
            clear hpq heq
            refine wp_region_still_tail 14 (by kernel_rfl) (by kernel_rfl) ?_
            simp only [List.take_succ_cons, List.take_zero, List.drop_succ_cons, List.drop_zero]
            repeat still_step
            refine wpStill_nil ?_
            change wpList _ _ _ _ _ w2.drew
            clear d0 d1 d2 d3 d4 d5 d6 d7 d8 d9 d10 d11 d12 d13 d14 d15 e0 e1 e2 e3 e4 e5 e6 e7 e8 e9 e10 e11 e12 e13 e14 e15 t0 t1
            go_wp2
            go_roundg gn
            case measure => omega
            case rel => exact ⟨k + 1, by have := hkg'.out; omega, by go_num, Lib.hid (all_succ HK.out (fun _ => by rw [hPh.out, hQh.out]; exact hpq'.out)), bl_drew HB⟩
          · have heq' : ∀ W, (Op.equalIn 10000 40 (.agg #[.int .u32 p0, .int .u32 p1, .int .u32 p2, .int .u32 p3, .int .u32 p4, .int .u32 p5, .int .u32 p6, .int .u32 p7, .int .u32 p8, .int .u32 p9, .int .u32 p10, .int .u32 p11, .int .u32 p12, .int .u32 p13, .int .u32 p14, .int .u32 p15]) (.agg #[.int .u32 q0, .int .u32 q1, .int .u32 q2, .int .u32 q3, .int .u32 q4, .int .u32 q5, .int .u32 q6, .int .u32 q7, .int .u32 q8, .int .u32 q9, .int .u32 q10, .int .u32 q11, .int .u32 q12, .int .u32 q13, .int .u32 q14, .int .u32 q15])).run Try.prog W = .ok false W := by
              intro W
              have := heq W
              rwa [show ([p0, p1, p2, p3, p4, p5, p6, p7, p8, p9, p10, p11, p12, p13, p14, p15] == [q0, q1, q2, q3, q4, q5, q6, q7, q8, q9, q10, q11, q12, q13, q14, q15]) = false by rw [beq_eq_false_iff_ne]; exact hpq] at this
            have hres : Hid (o = false) := Lib.hid (by
              cases o with
              | false => rfl
              | true => exact absurd (by rw [← hPh.out, ← hQh.out]; exact hoh.out.1 rfl k hlt hnk.out) hpq)
            clear hpq heq
            refine wp_region_still_tail 14 (by kernel_rfl) (by kernel_rfl) ?_
            simp only [List.take_succ_cons, List.take_zero, List.drop_succ_cons, List.drop_zero]
            repeat still_step
            refine wpStill_nil ?_
            change wpList _ _ _ _ _ w2.drew
            clear d0 d1 d2 d3 d4 d5 d6 d7 d8 d9 d10 d11 d12 d13 d14 d15 e0 e1 e2 e3 e4 e5 e6 e7 e8 e9 e10 e11 e12 e13 e14 e15 t0 t1
            go_wp2
            try rw [Exit.noGoto_ret]
            go_ret
            exact ⟨ret_bool hres.out.symm, bl_drew HB⟩
        | succ gj =>
          have hjm : j < m := by omega
          have hjg' := Lib.hid hjg
          clear hjg
          have hq2 : decide ((j : Int) < (m : Int)) = true := by simp; omega
          have hi2 : (j : Int) < (m : Int) := by omega
          obtain ⟨ad, rfl, hc⟩ := hbh.out.at_ j hjm
          have hc2 := bl_cell HB hc
          clear hc
          by_cases hky : (k : Int) = ks[j]?.getD 0
          · have hbb : ((k : Int) == ks[j]?.getD 0) = true := by simpa using hky
            have hky' := Lib.hid hky
            have hnot : Hid (¬ ∀ j, j < ks.length → (k : Int) ≠ ks[j]?.getD 0) := Lib.hid (fun h => h j (by rw [hkl.out]; exact hjm) hky)
            clear hky
            generalize ks[j]?.getD 0 = y at *
            go_wp2_with fail
            go_roundg gn
            case measure => omega
            case rel => exact ⟨k + 1, by have := hkg'.out; omega, by go_num, Lib.hid (all_succ HK.out (fun h => absurd h hnot.out)), HB⟩
          · have hbb : ((k : Int) == ks[j]?.getD 0) = false := by simpa using hky
            have hky' := Lib.hid hky
            clear hky
            go_wp2_with fail
            go_roundg gj
            case measure => omega
            case rel => exact ⟨j + 1, by have := hjg'.out; omega, by go_num, Lib.hid (all_succ HJ.out hky'.out), rfl⟩
end Go.Proofs.Ytdokmnpkihmkpaa.Frames10
