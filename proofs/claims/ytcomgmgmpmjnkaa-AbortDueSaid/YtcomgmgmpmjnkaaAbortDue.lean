/- AbortDue: at all deeds, every want and every number of turns the law's text returns true. -/
import Derived.Test.YtcomgmgmpmjnkaaAbortArg
import Derived.Deep.RegionHeld3
set_option linter.unusedVariables false
namespace Go.Proofs.Ytcomgmgmpmjnkaa.AbortDue
open Go.RowKit Go.Proofs.Ytcomgmgmpmjnkaa.Base Go.Proofs.Ytcomgmgmpmjnkaa.Row Go.Proofs.Ytcomgmgmpmjnkaa.App Go.Proofs.Ytcomgmgmpmjnkaa.Multi Go.Proofs.Ytcomgmgmpmjnkaa.AbortMath Go.Proofs.Ytcomgmgmpmjnkaa.Abort Go.Proofs.Ytcomgmgmpmjnkaa.Abort2 Go.Proofs.Ytcomgmgmpmjnkaa.Abort3 Go.Proofs.Ytcomgmgmpmjnkaa.Abort4 Go.Proofs.Ytcomgmgmpmjnkaa.Abort5 Go.Proofs.Ytcomgmgmpmjnkaa.AbortArg Go.Proofs.Ytcomgmgmpmjnkaa.Flat

def AskLit (er : Int) (l2 : List Wt) (w w' : World) (r : Ending) : Prop := (∃ A1 n1 c1, r = .returned (.tuple #[.agg #[.slice A1 n1 c1], .int .i64 er]) ∧ IsL w' A1 n1 c1 l2) ∧ Below w.heap.size w w'
theorem ask_lit (A : Option Addr) (n c : Nat) (l : List Wt) (x : Wt) (er : Int) (l2 : List Wt) (h : pask l x = (er, l2)) (w : World) (hl : IsL w A n c l) (hn : n ≤ 64) :
    Calls Try.prog 25 #[.agg #[.slice A n c], .agg (wa x)] w fun r w' => AskLit er l2 w w' r := by
  have := ask_c A n c l x w hl hn
  refine this.mono ?_
  rintro r w1 ⟨⟨A1, n1, c1, rfl, hI⟩, b1⟩
  rw [h] at hI ⊢
  exact ⟨⟨A1, n1, c1, rfl, hI⟩, b1⟩
set_option maxRecDepth 100000 in
set_option maxHeartbeats 8000000 in
theorem main (A0 : Option Addr) (n0 c0 : Nat) (x : Wt) (turns : Int) (w : World) (hd : FlatRow w d5 A0 n0 c0) :
    Calls Try.prog 6 #[.slice A0 n0 c0, .agg (wa x), .int .i64 turns] w fun e w' => e = .returned (.bool true) ∧ Below w.heap.size w w' := by
  have hdd := Lib.hid hd
  have hmx := flat_max hd
  clear hd
  go_enter Try.func6, Try.ntmps6
  go_wp2_with (first
    | ((with_reducible refine wl_box rfl 64 _ rfl (wa x) rfl ?_); intro w1 k1 b1 s1)
    | ((with_reducible refine wl_alloc rfl 67 rfl (lv none 0 0) new_l ?_); intro w2 k2 b2 s2))
  have K1 := k1.below b2
  have B2 := bl_then b1 b2
  have z1 := b1.size
  clear k1 b1 b2
  go_loopw [8] (fun i wr => ∃ (k : Nat) (A : Option Addr) (n c : Nat) (l : List Wt), k ≤ n0 ∧ i = .int .i64 k ∧ Blk wr w1.heap.size 67 (lv A n c) ∧ IsL wr A n c l ∧ Fit l ∧ Blk wr w.heap.size 64 (wa x) ∧ Below w.heap.size w wr) (fun i _ => n0 - (intOf i).toNat)
  case atStart => exact ⟨0, none, 0, 0, [], by omega, rfl, k2, isl_nil _, fit_nil, K1, B2⟩
  case round =>
    clear k2 K1 B2
    obtain ⟨k, A, n, c, l, hk, rfl, KX, HL, HF, KW, HB⟩ := hrel
    obtain ⟨wo, rfl⟩ : ∃ wo : World, wo = wr := ⟨_, rfl⟩
    have hstop : (k < n0 ∧ k < 30) ∨ ((decide ((k : Int) < (n0 : Int)) = false ∧ n0 ≤ k) ∨ (decide ((k : Int) < (n0 : Int)) = true ∧ decide ((k : Int) < 30) = false ∧ k < n0)) := by
      by_cases h1 : k < n0
      · by_cases h2 : k < 30
        · exact .inl ⟨h1, h2⟩
        · exact .inr (.inr ⟨by simp; omega, by simp; omega, h1⟩)
      · exact .inr (.inl ⟨by simp; omega, by omega⟩)
    rcases hstop with ⟨hlt, hlt30⟩ | hstop
    · have hq : decide ((k : Int) < (n0 : Int)) = true := by simp; omega
      have hq2 : decide ((k : Int) < 30) = true := by simp; omega
      obtain ⟨ad, kd, y, rfl, DA⟩ := deed_at hdd.out k hlt
      have DB := DA.below HB
      have hDA := Lib.hid DA
      obtain ⟨e0, e1, e2, e3, e4⟩ := DB
      clear DA
      by_cases hkd : 0 ≤ kd ∧ kd ≤ 3
      · have q1 : decide (0 ≤ kd) = true := by simp; omega
        have q2 : decide (kd ≤ 3) = true := by simp; omega
        clear hkd
        have hn64 : n ≤ 64 := by rw [isl_len HL]; exact HF.1
        have hnz : w.heap.size ≤ w1.heap.size := z1
        obtain ⟨er, l2, hp⟩ : ∃ er l2, pask l y = (er, l2) := ⟨_, _, rfl⟩
        have hA := Lib.hid (fun w' (h : IsL w' A n c l) => ask_lit A n c l y er l2 hp w' h hn64)
        have hW := Lib.hid (fun w' => want_c y w')
        have hF2 := Lib.hid (ask_fit HF y)
        rw [hp] at hF2
        clear hp
        go_wp2_with fail
        clear e0 e1 e2 e3 e4
        have HX := bl_drew HB
        have KX := KX.drew
        have KW := KW.drew
        have HL := ist_below HL (bl_drew (bl_refl wo))
        have c7 := KX.cellv 0 (.slice A n c) rfl
        obtain ⟨_, e1, e2, e3, e4⟩ := hDA.out.below HX
        go_region_law (first
          | (go_simp; go_at_call 25; refine (hA.out _ HL).mono ?_; rintro r wb ⟨⟨A1, n1, c1, rfl, hI⟩, bb⟩; have HX := bl_then HX bb; have KX := KX.below bb; have KW := KW.below bb; have u2 := KX.cellv 0 (.slice A n c) rfl; have u3 := KX.frozen 0)
          | (go_simp; go_at_call 26; refine (hW.out _).mono ?_; rintro r wa' ⟨rfl, ba⟩; have HX := bl_then HX ba; have KX := KX.below ba; have KW := KW.below ba; have HL := ist_below HL ba; have c7 := KX.cellv 0 (.slice A n c) rfl))
        all_goals (
          have K9 : Blk (wb.setCell ⟨w1.heap.size, 0, none⟩ (.slice A1 n1 c1)) w1.heap.size 67 (lv A1 n1 c1) := KX.set_ 0 (.slice A1 n1 c1)
          have I9 := isl_far hI (grownBy_set wb w1.heap.size 0 (.slice A1 n1 c1)) KX
          have W9 := KW.far (p := ⟨w1.heap.size, 0, none⟩) (by show w.heap.size ≠ w1.heap.size; omega) (.slice A1 n1 c1)
          have H9 := bl_set HX (p := ⟨w1.heap.size, 0, none⟩) hnz (.slice A1 n1 c1)
          clear u2 u3 c7 e1 e2 e3 e4
          go_wp2_with fail
          go_roundw
          case rel => exact ⟨k + 1, A1, n1, c1, l2, by omega, by go_num, K9, I9, hF2.out, W9, H9⟩
          case measure => first | (simp [intOf]; done) | (simp [intOf]; omega))
      · have hcase : decide (0 ≤ kd) = false ∨ (decide (0 ≤ kd) = true ∧ decide (kd ≤ 3) = false) := by
          by_cases h0 : 0 ≤ kd
          · exact .inr ⟨by simp; omega, by simp; omega⟩
          · exact .inl (by simp; omega)
        clear hkd
        rcases hcase with q1 | ⟨q1, q2⟩
        all_goals (
          go_wp2_with fail
          go_roundw
          case rel => exact ⟨k + 1, A, n, c, l, by omega, by go_num, KX, HL, HF, KW, HB⟩
          case measure => first | (simp [intOf]; done) | (simp [intOf]; omega))
    · have hn64 : n ≤ 64 := by rw [isl_len HL]; exact HF.1
      have hnz : w.heap.size ≤ w1.heap.size := z1
      have hW := Lib.hid (fun w' => want_c x w')
      have hF2 := Lib.hid (ask_fit HF x)
      obtain ⟨er, l2, hp⟩ : ∃ er l2, pask l x = (er, l2) := ⟨_, _, rfl⟩
      have hA := Lib.hid (fun w' (h : IsL w' A n c l) => ask_lit A n c l x er l2 hp w' h hn64)
      have hS := Lib.hid (fun (h : (pask l x).1 = 0) => stands_zero h)
      rw [hp] at hF2 hS
      clear hp
      have hSt : Hid (er = 0 → Stands x 0 l2) := Lib.hid hS.out
      clear hS
      rcases hstop with ⟨q1, q3⟩ | ⟨q1, q2, q3⟩
      all_goals (
        go_wp2_with fail
        have HX := bl_drew HB
        have KX := KX.drew
        have KW := KW.drew
        have HL := ist_below HL (bl_drew (bl_refl wo))
        have c7 := KX.cellv 0 (.slice A n c) rfl
        have e0 := KW.cellv 0 (.int .i64 x.e) rfl
        have e1 := KW.cellv 1 (.int .i64 x.k) rfl
        have e2 := KW.cellv 2 (.int .i64 x.n) rfl
        have e3 := KW.cellv 3 (.int .i64 x.l) rfl
        go_region_law (first
          | (go_simp; go_at_call 25; refine (hA.out _ HL).mono ?_; rintro r wb ⟨⟨A1, n1, c1, rfl, hI⟩, bb⟩; have HX := bl_then HX bb; have KX := KX.below bb; have KW := KW.below bb; have u2 := KX.cellv 0 (.slice A n c) rfl; have u3 := KX.frozen 0)
          | (go_simp; go_at_call 26; refine (hW.out _).mono ?_; rintro r wa' ⟨rfl, ba⟩; have HX := bl_then HX ba; have KX := KX.below ba; have KW := KW.below ba; have HL := ist_below HL ba; have c7 := KX.cellv 0 (.slice A n c) rfl)))
      all_goals (
        have K9 : Blk (wb.setCell ⟨w1.heap.size, 0, none⟩ (.slice A1 n1 c1)) w1.heap.size 67 (lv A1 n1 c1) := KX.set_ 0 (.slice A1 n1 c1)
        have I9 := isl_far hI (grownBy_set wb w1.heap.size 0 (.slice A1 n1 c1)) KX
        have W9 := KW.far (p := ⟨w1.heap.size, 0, none⟩) (by show w.heap.size ≠ w1.heap.size; omega) (.slice A1 n1 c1)
        have H9 := bl_set HX (p := ⟨w1.heap.size, 0, none⟩) hnz (.slice A1 n1 c1)
        clear u2 u3 c7 e0 e1 e2 e3 KX KW HL HX hI hdd
        generalize wb.setCell ⟨w1.heap.size, 0, none⟩ (.slice A1 n1 c1) = w9 at *
        by_cases her : er = 0
        · have qe : (er != 0) = false := by simp [her]
          have hSt0 := Lib.hid (hSt.out her)
          clear her hSt
          go_wp2_with fail
          go_loopw [10] (fun i wr => ∃ (k : Nat) (A : Option Addr) (n c : Nat) (l : List Wt), k ≤ 100 ∧ i = .int .i64 ((k : Int) + 1) ∧ Blk wr w1.heap.size 67 (lv A n c) ∧ IsL wr A n c l ∧ Fit l ∧ Stands x k l ∧ Blk wr w.heap.size 64 (wa x) ∧ Below w.heap.size w wr) (fun i _ => 101 - (intOf i).toNat)
          case atStart => exact ⟨0, A1, n1, c1, l2, by omega, rfl, K9, I9, hF2.out, hSt0.out, W9, H9⟩
          case round =>
            clear K9 I9 W9 H9 hF2 hSt0 hA
            obtain ⟨k, A, n, c, l, hk, rfl, KX, HL, HF, HS, KW, HB⟩ := hrel
            obtain ⟨wo, rfl⟩ : ∃ wo : World, wo = wr := ⟨_, rfl⟩
            have hcase : (k < 100 ∧ decide ((k : Int) + 1 ≤ 100) = true ∧ (k : Int) + 1 ≤ 100 ∧ decide ((k : Int) + 1 ≤ turns) = true ∧ (k : Int) + 1 ≤ turns) ∨ ((decide ((k : Int) + 1 ≤ 100) = false ∧ 100 < (k : Int) + 1) ∨ (decide ((k : Int) + 1 ≤ 100) = true ∧ (k : Int) + 1 ≤ 100 ∧ decide ((k : Int) + 1 ≤ turns) = false ∧ turns < (k : Int) + 1)) := by
              by_cases h1 : (k : Int) + 1 ≤ 100
              · by_cases h2 : (k : Int) + 1 ≤ turns
                · exact .inl ⟨by omega, by simp; omega, h1, by simp; omega, h2⟩
                · exact .inr (.inr ⟨by simp; omega, h1, by simp; omega, by omega⟩)
              · exact .inr (.inl ⟨by simp; omega, by omega⟩)
            rcases hcase with ⟨hk100, q1, q1', q2, q2'⟩ | hcase
            · have hn64 : n ≤ 64 := by rw [isl_len HL]; exact HF.1
              have hT := Lib.hid (turn_c A n c l wo HL hn64 HF)
              have hSS := Lib.hid (stands_succ HS)
              have hF3 := Lib.hid (outs_fit HF)
              have zl := KW.lt
              have zx := KX.lt
              go_wp2_with (first
                | (with_reducible refine wl_load rfl 67 _ rfl w1.heap.size rfl 67 (lv A n c) _ KX Try.underlying67 rfl (lv_size _ _ _) ?_))
              refine (hT.out).mono ?_
              rintro r w3 ⟨⟨A3, c3, A4, c4, rfl, hI3, hI4⟩, b3⟩
              have z3 := b3.size
              obtain ⟨m3, hm3⟩ : ∃ m, (outs l).length = m := ⟨_, rfl⟩
              obtain ⟨m4, hm4⟩ : ∃ m, (dues l).length = m := ⟨_, rfl⟩
              rw [hm3] at hI3 ⊢
              rw [hm4] at hI4 ⊢
              have hm4' := Lib.hid hm4
              clear hm3 hm4
              go_wp2_with (first
                | ((with_reducible refine wl_alloc rfl 67 rfl (lv none 0 0) new_l ?_); intro w4 k4 b4 s4)
                | ((refine wl_store rfl 67 _ _ rfl w3.heap.size rfl (lv A3 m3 c3) rfl 67 (lv none 0 0) k4 (lv_size _ _ _) rfl (lv_one _ _ _) ?_); intro w5 k5 g5 s5))
              have KX5 := ((KX.below b3).below b4).grown g5 (fun e => by injection e with e; omega)
              have KW5 := ((KW.below b3).below b4).grown g5 (fun e => by injection e with e; omega)
              have I35 := isl_far (ist_below hI3 b4) g5 k4
              have I45 := isl_far (ist_below hI4 b4) g5 k4
              have B5 := below_grown (bl_then (bl_then HB b3) b4) (by have := (bl_then HB b3).size; have := b4.size; omega) g5 (by have := HB.size; omega)
              have hmx4 := I45.1.max
              clear KX KW hI3 hI4 k4 b4 b3 g5 HB HL HF HS hT
              go_loopw [13, 14] (fun a i wr => ∃ (j : Nat), j ≤ m4 ∧ a = .int .i64 (cnt x.e x.k x.n (dues l) j : Nat) ∧ i = .int .i64 j ∧ Below w5.heap.size w5 wr) (fun _ i _ => m4 - (intOf i).toNat)
              case atStart => exact ⟨0, by omega, by rw [cnt_zero]; rfl, rfl, bl_refl _⟩
              case round =>
                obtain ⟨j, hj, rfl, rfl, HBj⟩ := hrel
                obtain ⟨wj, rfl⟩ : ∃ wj : World, wj = wr := ⟨_, rfl⟩
                have KWj := KW5.below HBj
                have e0 := KWj.cellv 0 (.int .i64 x.e) rfl
                have e1 := KWj.cellv 1 (.int .i64 x.k) rfl
                have e2 := KWj.cellv 2 (.int .i64 x.n) rfl
                have e3 := KWj.cellv 3 (.int .i64 x.l) rfl
                by_cases hjm : j < m4
                · have hq : decide ((j : Int) < (m4 : Int)) = true := by simp; omega
                  have hq' : (j : Int) < (m4 : Int) := by omega
                  obtain ⟨g, o, y, rfl, hy, hcells⟩ := (I45.1.below HBj).at_ j hjm
                  obtain ⟨c0, c1, c2, c3⟩ := range4 hcells
                  have hcs := Lib.hid (cnt_succ (e := x.e) (k := x.k) (n := x.n) hy)
                  have hcl := Lib.hid (cnt_le x.e x.k x.n (dues l) j)
                  have hhit : Hid (hit x.e x.k x.n y = (y.e == x.e && (y.k == x.k && y.n == x.n))) := Lib.hid (by simp [hit, Bool.and_assoc])
                  have hw : Hid (wrap64 (((cnt x.e x.k x.n (dues l) j : Nat) : Int) + 1) = ((cnt x.e x.k x.n (dues l) j + 1 : Nat) : Int)) := Lib.hid (by
                    have h1 := hcl.out
                    have h2 := hmx4
                    unfold wrap64; omega)
                  clear hcells hy
                  rcases chain3 (y.e == x.e) (y.k == x.k) true with q3 | ⟨q3, q4⟩ | ⟨q3, q4⟩
                  · have hn1 : Hid (cnt x.e x.k x.n (dues l) (j + 1) = cnt x.e x.k x.n (dues l) j) := Lib.hid (by rw [hcs.out, hhit.out, q3]; rfl)
                    go_wp2_with fail
                    go_quiet (fail)
                    go_wp2_with fail
                    go_roundw
                    case rel => exact ⟨j + 1, by omega, by rw [hn1.out], by go_num, bl_drewN HBj _⟩
                    case measure => first | (simp [intOf]; done) | (simp [intOf]; omega)
                  · have hn1 : Hid (cnt x.e x.k x.n (dues l) (j + 1) = cnt x.e x.k x.n (dues l) j) := Lib.hid (by rw [hcs.out, hhit.out, q3, q4]; rfl)
                    go_wp2_with fail
                    go_quiet (fail)
                    go_wp2_with fail
                    go_roundw
                    case rel => exact ⟨j + 1, by omega, by rw [hn1.out], by go_num, bl_drewN HBj _⟩
                    case measure => first | (simp [intOf]; done) | (simp [intOf]; omega)
                  · cases q5 : (y.n == x.n) with
                    | false =>
                      have hn1 : Hid (cnt x.e x.k x.n (dues l) (j + 1) = cnt x.e x.k x.n (dues l) j) := Lib.hid (by rw [hcs.out, hhit.out, q3, q4, q5]; rfl)
                      go_wp2_with fail
                      go_quiet (fail)
                      go_wp2_with fail
                      go_roundw
                      case rel => exact ⟨j + 1, by omega, by rw [hn1.out], by go_num, bl_drewN HBj _⟩
                      case measure => first | (simp [intOf]; done) | (simp [intOf]; omega)
                    | true =>
                      have hn1 : Hid (cnt x.e x.k x.n (dues l) (j + 1) = cnt x.e x.k x.n (dues l) j + 1) := Lib.hid (by rw [hcs.out, hhit.out, q3, q4, q5]; rfl)
                      go_wp2_with fail
                      go_quiet (fail)
                      go_wp2_with fail
                      go_roundw
                      case rel => exact ⟨j + 1, by omega, by rw [hn1.out]; exact congrArg (Value.int .i64) hw.out, by go_num, bl_drewN HBj _⟩
                      case measure => first | (simp [intOf]; done) | (simp [intOf]; omega)
                · have hq : decide ((j : Int) < (m4 : Int)) = false := by simp; omega
                  have hjm' : j = m4 := by omega
                  have hcnt : cnt x.e x.k x.n (dues l) j = if (k : Int) + 1 = x.l then 1 else 0 := by
                    rw [hjm', ← hm4'.out, cnt_all]
                    exact hSS.out.2
                  have hS3 := Lib.hid hSS.out.1
                  have KXj := KX5.below HBj
                  have k5j := k5.below HBj
                  have I3j := ist_below I35 HBj
                  have Bj := bl_thenB B5 (by have := B5.size; omega) HBj
                  clear HBj hSS KX5 KW5 I35 I45 k5 hjm'
                  by_cases hkl : (k : Int) + 1 = x.l
                  · have q5 : ((k : Int) + 1 == x.l) = true := by simp [hkl]
                    rw [if_pos hkl] at hcnt
                    clear hkl
                    have hM : ((cnt x.e x.k x.n (dues l) j : Nat) : Int) = 1 := by rw [hcnt]; rfl
                    clear hcnt
                    generalize ((cnt x.e x.k x.n (dues l) j : Nat) : Int) = M at *
                    subst hM
                    go_wp2_with (first
                      | (with_reducible refine wl_load rfl 67 _ rfl w3.heap.size rfl 67 (lv A3 m3 c3) _ k5j Try.underlying67 rfl (lv_size _ _ _) ?_)
                      | ((refine wl_store rfl 67 _ _ rfl w1.heap.size rfl (lv A3 m3 c3) rfl 67 (lv A n c) KXj (lv_size _ _ _) rfl (lv_one _ _ _) ?_); intro w7 k7 g7 s7))
                    go_roundw
                    case rel => exact ⟨k + 1, A3, m3, c3, outs l, by omega, by go_num, k7, isl_far I3j g7 KXj, hF3.out, hS3.out, KWj.grown g7 (fun e => by injection e with e; omega), below_grown Bj Bj.size g7 hnz⟩
                    case measure => first | (simp [intOf]; done) | (simp [intOf]; omega)
                  · have q5 : ((k : Int) + 1 == x.l) = false := by simp [hkl]
                    rw [if_neg hkl] at hcnt
                    clear hkl
                    have hM : ((cnt x.e x.k x.n (dues l) j : Nat) : Int) = 0 := by rw [hcnt]; rfl
                    clear hcnt
                    generalize ((cnt x.e x.k x.n (dues l) j : Nat) : Int) = M at *
                    subst hM
                    go_wp2_with (first
                      | (with_reducible refine wl_load rfl 67 _ rfl w3.heap.size rfl 67 (lv A3 m3 c3) _ k5j Try.underlying67 rfl (lv_size _ _ _) ?_)
                      | ((refine wl_store rfl 67 _ _ rfl w1.heap.size rfl (lv A3 m3 c3) rfl 67 (lv A n c) KXj (lv_size _ _ _) rfl (lv_one _ _ _) ?_); intro w7 k7 g7 s7))
                    go_roundw
                    case rel => exact ⟨k + 1, A3, m3, c3, outs l, by omega, by go_num, k7, isl_far I3j g7 KXj, hF3.out, hS3.out, KWj.grown g7 (fun e => by injection e with e; omega), below_grown Bj Bj.size g7 hnz⟩
                    case measure => first | (simp [intOf]; done) | (simp [intOf]; omega)
            · rcases hcase with ⟨q1, q1'⟩ | ⟨q1, q1', q2, q2'⟩
              all_goals (
                go_wp2_with fail
                refine (awake_c _).mono ?_
                rintro r w3 ⟨rfl, b3⟩
                go_wp2
                go_ret
                exact ⟨rfl, bl_then HB b3⟩)
        · have qe : (er != 0) = true := by simpa using her
          clear her hSt
          go_wp2_with fail
          refine (awake_c _).mono ?_
          rintro r w3 ⟨rfl, b3⟩
          go_wp2
          go_ret
          exact ⟨rfl, bl_then H9 b3⟩)

/-- What the arguments are. -/
def Arg (i : Nat) (w : World) (v : Value) : Prop := if i = 0 then Deeds w v else Want1 v
set_option maxRecDepth 100000 in
theorem arg0 {H : Type} {enc : TypeId × Value → H} {W : World} {base : Nat} {v : Value} {d : DataW H} {p : List MemPlace} (hv : Value.okWide Try.prog W .any base 62 v)
    (h : DataW.Trod enc Try.prog W 0 (fun _ => true) true 62 v d p) : Arg 0 W v := by
  unfold Arg
  rw [if_pos rfl]
  exact deeds_of hv h
set_option maxRecDepth 100000 in
theorem arg1 {H : Type} {enc : TypeId × Value → H} {W : World} {base : Nat} {v : Value} {d : DataW H} {p : List MemPlace} (hv : Value.okWide Try.prog W .any base 64 v)
    (h : DataW.Trod enc Try.prog W 0 (fun _ => true) true 64 v d p) : Arg 1 W v := by
  unfold Arg
  rw [if_neg (by decide)]
  exact want_of hv h
theorem walk (v0 v1 : Value) (turns : Int) (w : World) (h0 : Arg 0 w v0) (h1 : Arg 1 w v1) (_ : (Lit.int .i64 turns).wf = true) :
    Calls Try.prog 6 #[v0, v1, .int .i64 turns] w fun e w' => e = .returned (.bool true) ∧ Below w.heap.size w w' := by
  unfold Arg at h0 h1
  rw [if_pos rfl] at h0
  rw [if_neg (by decide)] at h1
  obtain ⟨A, n, c, rfl, hf⟩ := h0
  obtain ⟨x, rfl⟩ := h1
  exact main A n c x turns w hf
end Go.Proofs.Ytcomgmgmpmjnkaa.AbortDue
