/- TlbPlays: at all deeds the law's text returns true. -/
import Derived.Test.YtdokmnpkihmkpaaTlbRef2
import Derived.Deep.RegionHeld3
set_option linter.unusedVariables false
namespace Go.Proofs.Ytdokmnpkihmkpaa.TlbPlays
open Go.RowKit Go.Proofs.Ytdokmnpkihmkpaa.Base Go.Proofs.Ytdokmnpkihmkpaa.Row Go.Proofs.Ytdokmnpkihmkpaa.App Go.Proofs.Ytdokmnpkihmkpaa.Multi Go.Proofs.Ytdokmnpkihmkpaa.TlbMath Go.Proofs.Ytdokmnpkihmkpaa.Tlb Go.Proofs.Ytdokmnpkihmkpaa.Tlb2 Go.Proofs.Ytdokmnpkihmkpaa.Tlb3 Go.Proofs.Ytdokmnpkihmkpaa.Tlb4 Go.Proofs.Ytdokmnpkihmkpaa.Tlb5 Go.Proofs.Ytdokmnpkihmkpaa.TlbArg Go.Proofs.Ytdokmnpkihmkpaa.TlbRef Go.Proofs.Ytdokmnpkihmkpaa.TlbRef2 Go.Proofs.Ytdokmnpkihmkpaa.Flat

theorem isr_own {w : World} {B n c : Nat} {A : Option Addr} {l : List En} (h : w.ownsRow B 58 4 (.slice A n c) n (l.flatMap ev)) : IsT ev 4 58 w A n c l := ist_own ev_len (by decide) h
theorem getM_yes {l : List En} {s p m : Int} (h : getB l s p = true) : getM l s p m = m := by
  unfold getB at h
  rw [decide_eq_true_eq] at h
  simp [getM, h]
theorem getM_no {l : List En} {s p : Int} {m : Nat} (h : getB l s p = false) (hm : m ≤ 1000) : getM l s p m = ((m + 1 : Nat) : Int) := by
  unfold getB at h
  rw [decide_eq_false_iff_not] at h
  unfold getM
  rw [if_neg h]
  unfold wrap64; omega

set_option maxRecDepth 100000 in
set_option maxHeartbeats 8000000 in
theorem main (A0 : Option Addr) (n0 c0 : Nat) (w : World) (hd : FlatRow w d5 A0 n0 c0) :
    Calls Try.prog 7 #[.slice A0 n0 c0] w fun e w' => e = .returned (.bool true) ∧ Below w.heap.size w w' := by
  have hdd := Lib.hid hd
  have hmx := flat_max hd
  clear hd
  go_enter Try.func7, Try.ntmps7
  go_wp2_with (first
    | (with_reducible refine wl_build0 rfl 55 rfl (tc [] 0) zero_t ?_)
    | ((refine wl_box rfl 55 _ rfl (tc [] 0) rfl ?_); intro w1 k1 b1 s1))
  go_loopw [4, 5, 6] (fun x ms i wr => ∃ (k : Nat) (l : List En) (A : Option Addr) (n c mm : Nat), k ≤ n0 ∧ k ≤ 100 ∧ mm ≤ k ∧ x = .slice A n c ∧ ms = .int .i64 mm ∧ i = .int .i64 k ∧ Tl wr w.heap.size l mm ∧ Uni l ∧ IsT ev 4 58 wr A n c l ∧ Below w.heap.size w wr) (fun _ _ i _ => 101 - (intOf i).toNat)
  case atStart => exact ⟨0, [], none, 0, 0, 0, by omega, by omega, by omega, rfl, rfl, rfl, k1, uni_nil, ist_nil _ _ _ _, b1⟩
  case round =>
    clear k1 b1
    obtain ⟨k, l, A, n, c, mm, hk, hk100, hmm, rfl, rfl, rfl, HT, HU, HL, HB⟩ := hrel
    obtain ⟨wo, rfl⟩ : ∃ wo : World, wo = wr := ⟨_, rfl⟩
    have hstop : (k < n0 ∧ k < 100) ∨ ((decide ((k : Int) < (n0 : Int)) = false ∧ n0 ≤ k) ∨ (decide ((k : Int) < (n0 : Int)) = true ∧ decide ((k : Int) < 100) = false ∧ k < n0)) := by
      by_cases h1 : k < n0
      · by_cases h2 : k < 100
        · exact .inl ⟨h1, h2⟩
        · exact .inr (.inr ⟨by simp; omega, by simp; omega, h1⟩)
      · exact .inr (.inl ⟨by simp; omega, by omega⟩)
    rcases hstop with ⟨hlt, hlt100⟩ | hstop
    · have hq : decide ((k : Int) < (n0 : Int)) = true := by simp; omega
      have hq2 : decide ((k : Int) < 100) = true := by simp; omega
      obtain ⟨ad, kd, y, rfl, DA⟩ := deed_at hdd.out k hlt
      obtain ⟨e0, e1, e2, e3, e4⟩ := DA.below HB
      have e0' := bl_cell (bl_alloc (bl_refl wo) (.cells #[.int .i64 y.s, .int .i64 y.p, .int .i64 y.f, .bool y.w] 58)) e0
      have hn : n = l.length := ist_len HL
      have hl8 := HU.1
      have hUl := Lib.hid HU
      have zg := HT.lt
      clear DA
      have HT7 := Blk.alloc HT (.cells #[.int .i64 y.s, .int .i64 y.p, .int .i64 y.f, .bool y.w] 58)
      have HL7 := ist_below HL (bl_alloc (bl_refl wo) (.cells #[.int .i64 y.s, .int .i64 y.p, .int .i64 y.f, .bool y.w] 58))
      have HB7 := bl_alloc HB (.cells #[.int .i64 y.s, .int .i64 y.p, .int .i64 y.f, .bool y.w] 58)
      have K7 : Blk (wo.alloc (.cells #[.int .i64 y.s, .int .i64 y.p, .int .i64 y.f, .bool y.w] 58)) wo.heap.size 58 (ea y) := Blk.new wo 58 (ea y)
      subst hn
      have z7 := HB.size
      clear HT HL HB HU
      have hcase : (kd = 0 ∨ kd = 1 ∨ kd = 2 ∨ kd = 3) ∨ kd = 4 ∨ kd = 5 ∨ kd = 6 ∨ ((kd == 0) = false ∧ (kd == 1) = false ∧ (kd == 2) = false ∧ (kd == 3) = false ∧ (kd == 4) = false ∧ (kd == 5) = false ∧ (kd == 6) = false) := by
        by_cases h0 : kd = 0
        · exact .inl (.inl h0)
        by_cases h1 : kd = 1
        · exact .inl (.inr (.inl h1))
        by_cases h2 : kd = 2
        · exact .inl (.inr (.inr (.inl h2)))
        by_cases h3 : kd = 3
        · exact .inl (.inr (.inr (.inr h3)))
        by_cases h4 : kd = 4
        · exact .inr (.inl h4)
        by_cases h5 : kd = 5
        · exact .inr (.inr (.inl h5))
        by_cases h6 : kd = 6
        · exact .inr (.inr (.inr (.inl h6)))
        exact .inr (.inr (.inr (.inr ⟨by simpa using h0, by simpa using h1, by simpa using h2, by simpa using h3, by simpa using h4, by simpa using h5, by simpa using h6⟩)))
      rcases hcase with hkd | rfl | rfl | rfl | ⟨q0, q1, q2, q3, q4, q5, q6⟩
      · have hE := Lib.hid (fun w' => entry_c y w')
        have hP := Lib.hid (fun w' h => put_c w.heap.size l mm y w' h hUl.out)
        have hR := Lib.hid (fun w' h => rput_c A l.length c y l w' h hUl.out)
        have hU2 := Lib.hid (put_uni hUl.out y)
        generalize put l y = l2 at *
        have hl2 : l2.length ≤ 8 := hU2.out.1
        rcases hkd with rfl | rfl | rfl | rfl
        all_goals (
          go_wp2_with fail
          refine (hE.out _).mono ?_
          rintro r w2 ⟨rfl, b2⟩
          have h2 := Blk.below HT7 b2
          have L2' := ist_below HL7 b2
          have k2 := K7.below b2
          have B2 := bl_then HB7 b2
          clear e0 e0' e1 e2 e3 e4 HT7 HL7 HB7 K7
          go_wp2_with fail
          refine (hP.out _ h2).mono ?_
          rintro r w3 ⟨rfl, h3, g3⟩
          have L3 := ist_far L2' g3 h2 (by decide)
          have k3 := k2.grown g3 (fun e => by injection e with e; omega)
          have B3 := below_grown B2 B2.size g3 (Nat.le_refl _)
          go_wp2_with (first
            | (with_reducible refine wl_load rfl 58 _ rfl wo.heap.size rfl 58 (ea y) _ k3 Try.underlying58 rfl (size_r _) ?_))
          refine (hR.out _ L3.1).mono ?_
          rintro r w4 ⟨⟨A4, c4, rfl, HO4⟩, b4⟩
          have h4 := Blk.below h3 b4
          have L4 := isr_own HO4
          have B4 := bl_then B3 b4
          clear HO4 h3 L3 k3 B3 b4 h2 L2' k2 B2 g3
          go_wp2_with fail
          refine (same_c w.heap.size l2 mm A4 (l2).length c4 w4 h4 hl2 (L4).1).mono ?_
          rintro r wB ⟨rfl, bB⟩
          have HTB := Blk.below h4 bB
          have HLB := ist_below L4 bB
          go_wp2_with fail
          refine (misses_c w.heap.size l2 mm wB HTB hl2).mono ?_
          rintro r wC ⟨rfl, rfl⟩
          go_wp2_with fail
          go_roundw
          case rel => exact ⟨k + 1, l2, A4, (l2).length, c4, mm, by omega, by omega, by omega, rfl, rfl, by go_num, HTB, hU2.out, HLB, bl_then B4 bB⟩
          case measure => first | (simp [intOf]; done) | (simp [intOf]; omega))
      · have hl2 : (without l 0 y.f 0).length ≤ 8 := (without_uni hUl.out 0 y.f 0).1
        have hU2 := Lib.hid (without_uni hUl.out 0 y.f 0)
        have hD := Lib.hid (fun w' h => frame_c w.heap.size l mm y.f w' h hl8)
        have hR := Lib.hid (fun w' h => wo0_c A l.length c y.f 0 l w' h (by omega))
        have hle := without_le l 0 y.f 0
        generalize without l 0 y.f 0 = l2 at *
        go_wp2_with fail
        refine (hD.out _ HT7).mono ?_
        rintro r w3 ⟨rfl, h3, g3⟩
        have L3 := ist_far HL7 g3 HT7 (by decide)
        have k3 := K7.grown g3 (fun e => by injection e with e; omega)
        have B3 := below_grown HB7 HB7.size g3 (Nat.le_refl _)
        have f0 := k3.cellv 0 (.int .i64 y.s) rfl
        have f1 := k3.cellv 1 (.int .i64 y.p) rfl
        have f2 := k3.cellv 2 (.int .i64 y.f) rfl
        clear e0 e0' e1 e2 e3 e4 HT7 HL7 HB7 K7
        go_wp2_with fail
        refine (hR.out _ L3.1).mono ?_
        rintro r w4 ⟨⟨A4, c4, rfl, HO4⟩, b4⟩
        have h4 := Blk.below h3 b4
        have L4 := isr_own HO4
        have B4 := bl_then B3 b4
        clear HO4 h3 L3 k3 B3 b4 g3 f0 f1 f2
        go_wp2_with fail
        refine (same_c w.heap.size l2 mm A4 (l2).length c4 w4 h4 hl2 (L4).1).mono ?_
        rintro r wB ⟨rfl, bB⟩
        have HTB := Blk.below h4 bB
        have HLB := ist_below L4 bB
        go_wp2_with fail
        refine (misses_c w.heap.size l2 mm wB HTB hl2).mono ?_
        rintro r wC ⟨rfl, rfl⟩
        go_wp2_with fail
        go_roundw
        case rel => exact ⟨k + 1, l2, A4, (l2).length, c4, mm, by omega, by omega, by omega, rfl, rfl, by go_num, HTB, hU2.out, HLB, bl_then B4 bB⟩
        case measure => first | (simp [intOf]; done) | (simp [intOf]; omega)
      · have hl2 : (without l 1 y.s 0).length ≤ 8 := (without_uni hUl.out 1 y.s 0).1
        have hU2 := Lib.hid (without_uni hUl.out 1 y.s 0)
        have hD := Lib.hid (fun w' h => space_c w.heap.size l mm y.s w' h hl8)
        have hR := Lib.hid (fun w' h => wo1_c A l.length c y.s 0 l w' h (by omega))
        have hle := without_le l 1 y.s 0
        generalize without l 1 y.s 0 = l2 at *
        go_wp2_with fail
        refine (hD.out _ HT7).mono ?_
        rintro r w3 ⟨rfl, h3, g3⟩
        have L3 := ist_far HL7 g3 HT7 (by decide)
        have k3 := K7.grown g3 (fun e => by injection e with e; omega)
        have B3 := below_grown HB7 HB7.size g3 (Nat.le_refl _)
        have f0 := k3.cellv 0 (.int .i64 y.s) rfl
        have f1 := k3.cellv 1 (.int .i64 y.p) rfl
        have f2 := k3.cellv 2 (.int .i64 y.f) rfl
        clear e0 e0' e1 e2 e3 e4 HT7 HL7 HB7 K7
        go_wp2_with fail
        refine (hR.out _ L3.1).mono ?_
        rintro r w4 ⟨⟨A4, c4, rfl, HO4⟩, b4⟩
        have h4 := Blk.below h3 b4
        have L4 := isr_own HO4
        have B4 := bl_then B3 b4
        clear HO4 h3 L3 k3 B3 b4 g3 f0 f1 f2
        go_wp2_with fail
        refine (same_c w.heap.size l2 mm A4 (l2).length c4 w4 h4 hl2 (L4).1).mono ?_
        rintro r wB ⟨rfl, bB⟩
        have HTB := Blk.below h4 bB
        have HLB := ist_below L4 bB
        go_wp2_with fail
        refine (misses_c w.heap.size l2 mm wB HTB hl2).mono ?_
        rintro r wC ⟨rfl, rfl⟩
        go_wp2_with fail
        go_roundw
        case rel => exact ⟨k + 1, l2, A4, (l2).length, c4, mm, by omega, by omega, by omega, rfl, rfl, by go_num, HTB, hU2.out, HLB, bl_then B4 bB⟩
        case measure => first | (simp [intOf]; done) | (simp [intOf]; omega)
      · have hl2 : (without l 2 y.s y.p).length ≤ 8 := (without_uni hUl.out 2 y.s y.p).1
        have hU2 := Lib.hid (without_uni hUl.out 2 y.s y.p)
        have hD := Lib.hid (fun w' h => page_c w.heap.size l mm y.s y.p w' h hl8)
        have hR := Lib.hid (fun w' h => wo2_c A l.length c y.s y.p l w' h (by omega))
        have hle := without_le l 2 y.s y.p
        generalize without l 2 y.s y.p = l2 at *
        go_wp2_with fail
        refine (hD.out _ HT7).mono ?_
        rintro r w3 ⟨rfl, h3, g3⟩
        have L3 := ist_far HL7 g3 HT7 (by decide)
        have k3 := K7.grown g3 (fun e => by injection e with e; omega)
        have B3 := below_grown HB7 HB7.size g3 (Nat.le_refl _)
        have f0 := k3.cellv 0 (.int .i64 y.s) rfl
        have f1 := k3.cellv 1 (.int .i64 y.p) rfl
        have f2 := k3.cellv 2 (.int .i64 y.f) rfl
        clear e0 e0' e1 e2 e3 e4 HT7 HL7 HB7 K7
        go_wp2_with fail
        refine (hR.out _ L3.1).mono ?_
        rintro r w4 ⟨⟨A4, c4, rfl, HO4⟩, b4⟩
        have h4 := Blk.below h3 b4
        have L4 := isr_own HO4
        have B4 := bl_then B3 b4
        clear HO4 h3 L3 k3 B3 b4 g3 f0 f1 f2
        go_wp2_with fail
        refine (same_c w.heap.size l2 mm A4 (l2).length c4 w4 h4 hl2 (L4).1).mono ?_
        rintro r wB ⟨rfl, bB⟩
        have HTB := Blk.below h4 bB
        have HLB := ist_below L4 bB
        go_wp2_with fail
        refine (misses_c w.heap.size l2 mm wB HTB hl2).mono ?_
        rintro r wC ⟨rfl, rfl⟩
        go_wp2_with fail
        go_roundw
        case rel => exact ⟨k + 1, l2, A4, (l2).length, c4, mm, by omega, by omega, by omega, rfl, rfl, by go_num, HTB, hU2.out, HLB, bl_then B4 bB⟩
        case measure => first | (simp [intOf]; done) | (simp [intOf]; omega)
      · have hG := Lib.hid (fun w' h => get_c w.heap.size l mm y.s y.p w' h hl8)
        have hR := Lib.hid (fun w' h => rget_c A l.length c l y.s y.p w' h)
        have hM1 := Lib.hid (fun h => getM_yes (l := l) (s := y.s) (p := y.p) (m := mm) h)
        have hM2 := Lib.hid (fun h => getM_no (l := l) (s := y.s) (p := y.p) (m := mm) h (by omega))
        generalize getE l y.s y.p = x at *
        obtain ⟨xs, xp, xf, xw⟩ := x
        generalize getM l y.s y.p mm = m2 at *
        generalize getB l y.s y.p = bb at *
        go_wp2_with fail
        refine (hG.out _ HT7).mono ?_
        rintro r w3 ⟨rfl, h3, g3⟩
        have L3 := ist_far HL7 g3 HT7 (by decide)
        have k3 := K7.grown g3 (fun e => by injection e with e; omega)
        have B3 := below_grown HB7 HB7.size g3 (Nat.le_refl _)
        clear e0 e0' e1 e2 e3 e4 HT7 HL7 HB7 K7 g3 q0 q1 q2 q3 q4 q5 q6
        go_wp2_with (first
          | ((with_reducible refine wl_alloc rfl 52 rfl (ea ez) new_e ?_); intro w4 k4 b4 s4)
          | ((refine wl_store rfl 52 _ _ rfl w3.heap.size rfl (ea ⟨xs, xp, xf, xw⟩) rfl 52 (ea ez) k4 (size_ea _) rfl (ea_one _) ?_); intro w5 k5 g5 s5; have f0 := ((k3.below b4).grown g5 (fun e => by injection e with e; have := k3.lt; omega)).cellv 0 (.int .i64 y.s) rfl; have f1 := ((k3.below b4).grown g5 (fun e => by injection e with e; have := k3.lt; omega)).cellv 1 (.int .i64 y.p) rfl))
        have zk := h3.lt
        have h5 := (Blk.below h3 b4).grown g5 (fun e => by injection e with e; omega)
        have L5 := ist_far (ist_below L3 b4) g5 k4 (by decide)
        have B5 := below_grown (bl_then B3 b4) (by have := B3.size; have := b4.size; omega) g5 B3.size
        clear f0 f1 h3 L3 B3 k3 k4 b4 g5
        refine (hR.out _ L5.1).mono ?_
        rintro r w6 ⟨rfl, b6⟩
        have h6 := Blk.below h5 b6
        have L6 := ist_below L5 b6
        have k6 := k5.below b6
        have B6 := bl_then B5 b6
        have z5 := k5.lt
        clear h5 L5 B5 k5
        go_wp2_with (first
          | ((with_reducible refine wl_alloc rfl 58 rfl (ea ez) new_r ?_); intro w7 k7 b7 s7)
          | ((refine wl_store rfl 58 _ _ rfl w6.heap.size rfl (ea ⟨xs, xp, xf, xw⟩) rfl 58 (ea ez) k7 (size_r _) rfl (ea_one _) ?_); intro w8 k8 g8 s8))
        have z6 := B6.size
        have zk6 := k6.lt
        have zh6 := Blk.lt h6
        have B78 : Below w6.heap.size w6 w8 := below_grown b7 b7.size g8 (Nat.le_refl _)
        have k58 := k6.below B78
        have h8 := Blk.below h6 B78
        have L8 := ist_below L6 B78
        have B8 := bl_then B6 B78
        clear k6 h6 L6 B6 k7 b7 g8 B78
        have EE0 : ∀ w', Calls Try.prog 31 #[.agg #[.int .i64 xs, .int .i64 xp, .int .i64 xf, .bool xw]] w' fun r w'' => r = .returned (.agg #[.int .i64 xs, .int .i64 xp, .int .i64 xf, .bool xw]) ∧ Below w'.heap.size w' w'' := fun w' => entry_c ⟨xs, xp, xf, xw⟩ w'
        have EE := Lib.hid EE0
        clear EE0
        have hbd := bl_drew (bl_refl w8)
        have c0 := (k58.below hbd).cellv 0 (.int .i64 xs) rfl
        have c1 := (k58.below hbd).cellv 1 (.int .i64 xp) rfl
        have c2 := (k58.below hbd).cellv 2 (.int .i64 xf) rfl
        have c3 := (k58.below hbd).cellv 3 (.bool xw) rfl
        have d0 := (k8.below hbd).cellv 0 (.int .i64 xs) rfl
        have d1 := (k8.below hbd).cellv 1 (.int .i64 xp) rfl
        have d2 := (k8.below hbd).cellv 2 (.int .i64 xf) rfl
        have d3 := (k8.below hbd).cellv 3 (.bool xw) rfl
        have hb0 : (bb != bb) = false := by cases bb <;> rfl
        go_region_held3 (fun w' => (w'.cell? ⟨w3.heap.size, 0, none⟩ = some (.int .i64 xs) ∧ w'.cell? ⟨w3.heap.size, 1, none⟩ = some (.int .i64 xp) ∧ w'.cell? ⟨w3.heap.size, 2, none⟩ = some (.int .i64 xf) ∧ w'.cell? ⟨w3.heap.size, 3, none⟩ = some (.bool xw)) ∧ w'.cell? ⟨w6.heap.size, 0, none⟩ = some (.int .i64 xs) ∧ w'.cell? ⟨w6.heap.size, 1, none⟩ = some (.int .i64 xp) ∧ w'.cell? ⟨w6.heap.size, 2, none⟩ = some (.int .i64 xf) ∧ w'.cell? ⟨w6.heap.size, 3, none⟩ = some (.bool xw))
          (first
            | exact ⟨⟨(k58.below hbd).cellv 0 _ rfl, (k58.below hbd).cellv 1 _ rfl, (k58.below hbd).cellv 2 _ rfl, (k58.below hbd).cellv 3 _ rfl⟩, (k8.below hbd).cellv 0 _ rfl, (k8.below hbd).cellv 1 _ rfl, (k8.below hbd).cellv 2 _ rfl, (k8.below hbd).cellv 3 _ rfl⟩
            | go_keep)
          (first
            | (go_at_call 31; refine (EE.out _).mono ?_; rintro r wa ⟨rfl, ba⟩; have hbd := bl_then hbd ba))
        all_goals (
          clear c0 c1 c2 c3 d0 d1 d2 d3
          have h9 := Blk.below h8 hbd
          have L9 := ist_below L8 hbd
          have B9 := bl_then B8 hbd
          clear h8 L8 B8 k58 k8
          cases bb with
          | true =>
            have hm2 := Lib.hid (hM1.out rfl)
            rw [hm2.out] at h9
            go_wp2_with fail
            refine (same_c w.heap.size l (mm : Nat) A l.length c _ h9 hl8 (L9).1).mono ?_
            rintro r wB ⟨rfl, bB⟩
            have HTB := Blk.below h9 bB
            have HLB := ist_below L9 bB
            go_wp2_with fail
            refine (misses_c w.heap.size l (mm : Nat) wB HTB hl8).mono ?_
            rintro r wC ⟨rfl, rfl⟩
            go_wp2_with fail
            go_roundw
            case rel => exact ⟨k + 1, l, A, l.length, c, mm, by omega, by omega, by omega, rfl, rfl, by go_num, HTB, hUl.out, HLB, bl_then B9 bB⟩
            case measure => first | (simp [intOf]; done) | (simp [intOf]; omega)
          | false =>
            have hm2 := Lib.hid (hM2.out rfl)
            rw [hm2.out] at h9
            go_wp2_with fail
            refine (same_c w.heap.size l ((mm + 1 : Nat) : Int) A l.length c _ h9 hl8 (L9).1).mono ?_
            rintro r wB ⟨rfl, bB⟩
            have HTB := Blk.below h9 bB
            have HLB := ist_below L9 bB
            go_wp2_with fail
            refine (misses_c w.heap.size l ((mm + 1 : Nat) : Int) wB HTB hl8).mono ?_
            rintro r wC ⟨rfl, rfl⟩
            go_wp2_with fail
            go_roundw
            case rel => exact ⟨k + 1, l, A, l.length, c, mm + 1, by omega, by omega, by omega, rfl, by first | rfl | go_num, by go_num, HTB, hUl.out, HLB, bl_then B9 bB⟩
            case measure => first | (simp [intOf]; done) | (simp [intOf]; omega))
    · rcases hstop with ⟨q1, q3⟩ | ⟨q1, q2, q3⟩
      all_goals (
        go_wp2_with fail
        refine (awake_c _).mono ?_
        rintro r w3 ⟨rfl, b3⟩
        go_wp2
        go_ret
        exact ⟨rfl, bl_then HB b3⟩)

def Arg (i : Nat) (w : World) (v : Value) : Prop := Deeds w v
set_option maxRecDepth 100000 in
theorem arg0 {H : Type} {enc : TypeId × Value → H} {W : World} {base : Nat} {v : Value} {d : DataW H} {p : List MemPlace} (hv : Value.okWide Try.prog W .any base 49 v)
    (h : DataW.Trod enc Try.prog W 0 (fun _ => true) true 49 v d p) : Arg 0 W v := deeds_of hv h
theorem walk (v0 : Value) (w : World) (h0 : Arg 0 w v0) :
    Calls Try.prog 7 #[v0] w fun e w' => e = .returned (.bool true) ∧ Below w.heap.size w w' := by
  obtain ⟨A, n, c, rfl, hf⟩ := h0
  exact main A n c w hf
end Go.Proofs.Ytdokmnpkihmkpaa.TlbPlays
