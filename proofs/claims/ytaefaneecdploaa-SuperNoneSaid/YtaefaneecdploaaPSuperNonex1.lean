-- PRINTED BY print.sh 35421559b90ae4d0a3588c463048766b98c2df88dd9212a6774a882060cdf62d: not written by this session
import Derived.Test.YtaefaneecdploaaPSuperNonex0
namespace Go.Proofs.Ytaefaneecdploaa.PSuperNone
open Go.RowKit Go.Proofs.YtaefaneecdploaaW.PrintWords Go.Proofs.YtaefaneecdploaaW.PrintLast Go.Proofs.YtaefaneecdploaaW.PrintMore
attribute [local go_sem] max2_int min2_int max_two min_two max_three min_three max_four min_four   -- for this text's walks alone
set_option linter.unusedVariables false
set_option linter.unusedSimpArgs false

/-! ### super_Log: function 29 -/
def super_Log.f (a0 : Int) : Option (Int × Bool) := if a0 < 0 then (some (0, false)) else (if a0 ≥ 16 then (some (0, false)) else (some (wrap64 (2 + a0), true)))
set_option maxHeartbeats 8000000 in
set_option maxRecDepth 100000 in
theorem super_Log.calls (a0 : Int) (r1 : Int) (r2 : Bool) (w : World) (h : super_Log.f a0 = some (r1, r2)) :
    Calls Try.prog 29 #[.int .i64 a0] w fun e w' => e = .returned (.tuple #[.int .i64 r1, .bool r2]) ∧ Drawn0 w w' := by
  have H : (if a0 < 0 then (some (0, false)) else (if a0 ≥ 16 then (some (0, false)) else (some (wrap64 (2 + a0), true)))) = some (r1, r2) := h
  clear h
  by_cases c2 : a0 < 0
  · rw [if_pos c2] at H
    have c2b0 : decide (a0 < 0) = true := decide_eq_true c2
    clear c2
    simp only [Option.some.injEq, Prod.mk.injEq] at H
    obtain ⟨rfl, rfl⟩ := H
    go_enter Try.func29, Try.ntmps29
    go_wp2
    go_ret2
    exact ⟨by first | rfl | (simp; done) | (simp [*]; done), by repeat (first | exact Drawn0.refl _ | apply Drawn0.step)⟩
  · rw [if_neg c2] at H
    have c2b0 : decide (a0 < 0) = false := decide_eq_false c2
    clear c2
    by_cases c3 : a0 ≥ 16
    · rw [if_pos c3] at H
      have c3b0 : decide (16 ≤ a0) = true := decide_eq_true c3
      clear c3
      simp only [Option.some.injEq, Prod.mk.injEq] at H
      obtain ⟨rfl, rfl⟩ := H
      go_enter Try.func29, Try.ntmps29
      go_wp2
      go_ret2
      exact ⟨by first | rfl | (simp; done) | (simp [*]; done), by repeat (first | exact Drawn0.refl _ | apply Drawn0.step)⟩
    · rw [if_neg c3] at H
      have c3b0 : decide (16 ≤ a0) = false := decide_eq_false c3
      clear c3
      simp only [Option.some.injEq, Prod.mk.injEq] at H
      obtain ⟨rfl, rfl⟩ := H
      go_enter Try.func29, Try.ntmps29
      go_wp2
      go_ret2
      exact ⟨by first | rfl | (simp; done) | (simp [*]; done), by repeat (first | exact Drawn0.refl _ | apply Drawn0.step)⟩

/-! ### super_Bitmap: function 36 -/
def super_Bitmap.f  : Option (Int) := some 18
set_option maxHeartbeats 8000000 in
set_option maxRecDepth 100000 in
theorem super_Bitmap.calls  (r : Int) (w : World) (h : super_Bitmap.f  = some r) :
    Calls Try.prog 36 #[] w fun e w' => e = .returned (.int .i64 r) ∧ Drawn0 w w' := by
  have H : (some 18) = some r := h
  clear h
  obtain rfl := Option.some.inj H
  go_enter Try.func36, Try.ntmps36
  go_wp2
  go_ret
  exact ⟨by first | rfl | (simp; done) | (simp [*]; done), by repeat (first | exact Drawn0.refl _ | apply Drawn0.step)⟩

/-! ### super_Inode: function 30 -/
def super_Inode.f (a0 : Int) : Option (Int × Int × Bool) := if a0 < 0 then (some (0, 0, false)) else (if a0 ≥ 32 then (some (0, 0, false)) else ((super_Bitmap.f).bind fun t101 => (some (wrap64 ((wrap64 (t101 + 1)) + (wrap64 (Int.tdiv a0 2))), wrap64 ((Int.tmod a0 2) * 32), true))))
set_option maxHeartbeats 8000000 in
set_option maxRecDepth 100000 in
theorem super_Inode.calls (a0 : Int) (r1 : Int) (r2 : Int) (r3 : Bool) (w : World) (h : super_Inode.f a0 = some (r1, r2, r3)) :
    Calls Try.prog 30 #[.int .i64 a0] w fun e w' => e = .returned (.tuple #[.int .i64 r1, .int .i64 r2, .bool r3]) ∧ Drawn0 w w' := by
  have H : (if a0 < 0 then (some (0, 0, false)) else (if a0 ≥ 32 then (some (0, 0, false)) else ((super_Bitmap.f).bind fun t101 => (some (wrap64 ((wrap64 (t101 + 1)) + (wrap64 (Int.tdiv a0 2))), wrap64 ((Int.tmod a0 2) * 32), true))))) = some (r1, r2, r3) := h
  clear h
  by_cases c2 : a0 < 0
  · rw [if_pos c2] at H
    have c2b0 : decide (a0 < 0) = true := decide_eq_true c2
    clear c2
    simp only [Option.some.injEq, Prod.mk.injEq] at H
    obtain ⟨rfl, rfl, rfl⟩ := H
    go_enter Try.func30, Try.ntmps30
    go_wp2
    go_ret3
    exact ⟨by first | rfl | (simp; done) | (simp [*]; done), by repeat (first | exact Drawn0.refl _ | apply Drawn0.step)⟩
  · rw [if_neg c2] at H
    have c2b0 : decide (a0 < 0) = false := decide_eq_false c2
    clear c2
    by_cases c3 : a0 ≥ 32
    · rw [if_pos c3] at H
      have c3b0 : decide (32 ≤ a0) = true := decide_eq_true c3
      clear c3
      simp only [Option.some.injEq, Prod.mk.injEq] at H
      obtain ⟨rfl, rfl, rfl⟩ := H
      go_enter Try.func30, Try.ntmps30
      go_wp2
      go_ret3
      exact ⟨by first | rfl | (simp; done) | (simp [*]; done), by repeat (first | exact Drawn0.refl _ | apply Drawn0.step)⟩
    · rw [if_neg c3] at H
      have c3b0 : decide (32 ≤ a0) = false := decide_eq_false c3
      clear c3
      replace H := Option.bind_eq_some_iff.mp H
      obtain ⟨t101, A40, H⟩ := H
      replace H : (some (wrap64 ((wrap64 (t101 + 1)) + (wrap64 (Int.tdiv a0 2))), wrap64 ((Int.tmod a0 2) * 32), true)) = some (r1, r2, r3) := H
      have A4 := Aside0.mk A40
      clear A40
      simp only [Option.some.injEq, Prod.mk.injEq] at H
      obtain ⟨rfl, rfl, rfl⟩ := H
      go_enter Try.func30, Try.ntmps30
      go_wp2_with (first | ((with_reducible refine gate_callee (f := 36) rfl ?_); refine goesL_ (some 11) rfl rfl Try.func36 (by kernel_rfl) rfl #[] rfl (by (try simp only [List.map_toArray, List.map_cons, List.map_nil]); first | done | rfl | (simp only [List.length_drop, List.length_take]; rfl)) ?_; (with_reducible refine (super_Bitmap.calls  t101 _ A4.out).mono ?_); rintro e w' ⟨rfl, ⟨nd, rfl⟩⟩; refine ⟨_, rfl, ?_⟩))
      go_ret3
      exact ⟨by first | rfl | (simp; done) | (simp [*]; done), by repeat (first | exact Drawn0.refl _ | apply Drawn0.step)⟩

/-! ### super_Header: function 35 -/
def super_Header.f  : Option (Int) := some 1
set_option maxHeartbeats 8000000 in
set_option maxRecDepth 100000 in
theorem super_Header.calls  (r : Int) (w : World) (h : super_Header.f  = some r) :
    Calls Try.prog 35 #[] w fun e w' => e = .returned (.int .i64 r) ∧ Drawn0 w w' := by
  have H : (some 1) = some r := h
  clear h
  obtain rfl := Option.some.inj H
  go_enter Try.func35, Try.ntmps35
  go_wp2
  go_ret
  exact ⟨by first | rfl | (simp; done) | (simp [*]; done), by repeat (first | exact Drawn0.refl _ | apply Drawn0.step)⟩

/-! ### onionskinlaw23_awake: function 31 -/
def onionskinlaw23_awake.f  : Option (Bool) := (super_Inode.f 3).bind fun bt102 => (if bt102.1 = 20 then (if bt102.2.1 = 32 then (if bt102.2.2 = true then ((super_Bitmap.f).bind fun t105 => (if t105 = 18 then ((super_Header.f).bind fun t106 => (some (t106 == 1))) else (some false))) else (some false)) else (some false)) else (some false))
set_option maxHeartbeats 8000000 in
set_option maxRecDepth 100000 in
theorem onionskinlaw23_awake.calls  (r : Bool) (w : World) (h : onionskinlaw23_awake.f  = some r) :
    Calls Try.prog 31 #[] w fun e w' => e = .returned (.bool r) ∧ Drawn0 w w' := by
  have H : ((super_Inode.f 3).bind fun bt102 => (if bt102.1 = 20 then (if bt102.2.1 = 32 then (if bt102.2.2 = true then ((super_Bitmap.f).bind fun t105 => (if t105 = 18 then ((super_Header.f).bind fun t106 => (some (t106 == 1))) else (some false))) else (some false)) else (some false)) else (some false))) = some r := h
  clear h
  replace H := Option.bind_eq_some_iff.mp H
  obtain ⟨⟨t102, t103, t104⟩, A10, H⟩ := H
  replace H : (if t102 = 20 then (if t103 = 32 then (if t104 = true then ((super_Bitmap.f).bind fun t105 => (if t105 = 18 then ((super_Header.f).bind fun t106 => (some (t106 == 1))) else (some false))) else (some false)) else (some false)) else (some false)) = some r := H
  have A1 := Aside0.mk A10
  clear A10
  by_cases c2 : t102 = 20
  · rw [if_pos c2] at H
    have c2b0 : (t102 == 20) = true := beq_iff_eq.mpr c2
    have c2b1 : (t102 != 20) = false := bne_eq_false_iff_eq.mpr c2
    clear c2
    by_cases c3 : t103 = 32
    · rw [if_pos c3] at H
      have c3b0 : (t103 == 32) = true := beq_iff_eq.mpr c3
      have c3b1 : (t103 != 32) = false := bne_eq_false_iff_eq.mpr c3
      clear c3
      by_cases c4 : t104 = true
      · subst c4
        have H1 : ((super_Bitmap.f).bind fun t105 => (if t105 = 18 then ((super_Header.f).bind fun t106 => (some (t106 == 1))) else (some false))) = some r := by rw [if_pos rfl] at H; exact H
        clear H
        have H := H1
        clear H1
        replace H := Option.bind_eq_some_iff.mp H
        obtain ⟨t105, A50, H⟩ := H
        replace H : (if t105 = 18 then ((super_Header.f).bind fun t106 => (some (t106 == 1))) else (some false)) = some r := H
        have A5 := Aside0.mk A50
        clear A50
        by_cases c6 : t105 = 18
        · rw [if_pos c6] at H
          have c6b0 : (t105 == 18) = true := beq_iff_eq.mpr c6
          have c6b1 : (t105 != 18) = false := bne_eq_false_iff_eq.mpr c6
          clear c6
          replace H := Option.bind_eq_some_iff.mp H
          obtain ⟨t106, A70, H⟩ := H
          replace H : (some (t106 == 1)) = some r := H
          have A7 := Aside0.mk A70
          clear A70
          obtain rfl := Option.some.inj H
          go_enter Try.func31, Try.ntmps31
          go_wp2_with (first | ((with_reducible refine gate_callee (f := 30) rfl ?_); refine goesL_ (some 5) rfl rfl Try.func30 (by kernel_rfl) rfl #[.int .i64 3] rfl (by (try simp only [List.map_toArray, List.map_cons, List.map_nil]); first | done | rfl | (simp only [List.length_drop, List.length_take]; rfl)) ?_; (with_reducible refine (super_Inode.calls 3 t102 t103 true _ A1.out).mono ?_); rintro e w' ⟨rfl, ⟨nd, rfl⟩⟩; refine ⟨_, rfl, ?_⟩) | (go_at_call 36; (with_reducible refine (super_Bitmap.calls  t105 _ A5.out).mono ?_); rintro e w' ⟨rfl, ⟨nd, rfl⟩⟩) | (go_at_call 35; (with_reducible refine (super_Header.calls  t106 _ A7.out).mono ?_); rintro e w' ⟨rfl, ⟨nd, rfl⟩⟩))
          go_ret
          exact ⟨by first | rfl | (simp; done) | (simp [*]; done), by repeat (first | exact Drawn0.refl _ | apply Drawn0.step)⟩
        · rw [if_neg c6] at H
          have c6b0 : (t105 == 18) = false := beq_eq_false_iff_ne.mpr c6
          have c6b1 : (t105 != 18) = true := bne_iff_ne.mpr c6
          obtain rfl := Option.some.inj H
          go_enter Try.func31, Try.ntmps31
          go_wp2_with (first | ((with_reducible refine gate_callee (f := 30) rfl ?_); refine goesL_ (some 5) rfl rfl Try.func30 (by kernel_rfl) rfl #[.int .i64 3] rfl (by (try simp only [List.map_toArray, List.map_cons, List.map_nil]); first | done | rfl | (simp only [List.length_drop, List.length_take]; rfl)) ?_; (with_reducible refine (super_Inode.calls 3 t102 t103 true _ A1.out).mono ?_); rintro e w' ⟨rfl, ⟨nd, rfl⟩⟩; refine ⟨_, rfl, ?_⟩) | (go_at_call 36; (with_reducible refine (super_Bitmap.calls  t105 _ A5.out).mono ?_); rintro e w' ⟨rfl, ⟨nd, rfl⟩⟩))
          go_ret
          exact ⟨by first | rfl | (simp; done) | (simp [*]; done), by repeat (first | exact Drawn0.refl _ | apply Drawn0.step)⟩
      · replace c4 := Bool.eq_false_iff.mpr c4
        subst c4
        have H1 : (some false) = some r := by rw [if_neg (show ¬ (false = true) by decide)] at H; exact H
        clear H
        have H := H1
        clear H1
        obtain rfl := Option.some.inj H
        go_enter Try.func31, Try.ntmps31
        go_wp2_with (first | ((with_reducible refine gate_callee (f := 30) rfl ?_); refine goesL_ (some 5) rfl rfl Try.func30 (by kernel_rfl) rfl #[.int .i64 3] rfl (by (try simp only [List.map_toArray, List.map_cons, List.map_nil]); first | done | rfl | (simp only [List.length_drop, List.length_take]; rfl)) ?_; (with_reducible refine (super_Inode.calls 3 t102 t103 false _ A1.out).mono ?_); rintro e w' ⟨rfl, ⟨nd, rfl⟩⟩; refine ⟨_, rfl, ?_⟩))
        go_ret
        exact ⟨by first | rfl | (simp; done) | (simp [*]; done), by repeat (first | exact Drawn0.refl _ | apply Drawn0.step)⟩
    · rw [if_neg c3] at H
      have c3b0 : (t103 == 32) = false := beq_eq_false_iff_ne.mpr c3
      have c3b1 : (t103 != 32) = true := bne_iff_ne.mpr c3
      obtain rfl := Option.some.inj H
      go_enter Try.func31, Try.ntmps31
      go_wp2_with (first | ((with_reducible refine gate_callee (f := 30) rfl ?_); refine goesL_ (some 5) rfl rfl Try.func30 (by kernel_rfl) rfl #[.int .i64 3] rfl (by (try simp only [List.map_toArray, List.map_cons, List.map_nil]); first | done | rfl | (simp only [List.length_drop, List.length_take]; rfl)) ?_; (with_reducible refine (super_Inode.calls 3 t102 t103 t104 _ A1.out).mono ?_); rintro e w' ⟨rfl, ⟨nd, rfl⟩⟩; refine ⟨_, rfl, ?_⟩))
      go_ret
      exact ⟨by first | rfl | (simp; done) | (simp [*]; done), by repeat (first | exact Drawn0.refl _ | apply Drawn0.step)⟩
  · rw [if_neg c2] at H
    have c2b0 : (t102 == 20) = false := beq_eq_false_iff_ne.mpr c2
    have c2b1 : (t102 != 20) = true := bne_iff_ne.mpr c2
    obtain rfl := Option.some.inj H
    go_enter Try.func31, Try.ntmps31
    go_wp2_with (first | ((with_reducible refine gate_callee (f := 30) rfl ?_); refine goesL_ (some 5) rfl rfl Try.func30 (by kernel_rfl) rfl #[.int .i64 3] rfl (by (try simp only [List.map_toArray, List.map_cons, List.map_nil]); first | done | rfl | (simp only [List.length_drop, List.length_take]; rfl)) ?_; (with_reducible refine (super_Inode.calls 3 t102 t103 t104 _ A1.out).mono ?_); rintro e w' ⟨rfl, ⟨nd, rfl⟩⟩; refine ⟨_, rfl, ?_⟩))
    go_ret
    exact ⟨by first | rfl | (simp; done) | (simp [*]; done), by repeat (first | exact Drawn0.refl _ | apply Drawn0.step)⟩

/-! ### onionskinlaw23_SuperNone: function 7 -/
def onionskinlaw23_SuperNone.f (a0 : Int) : Option (Bool) := (super_Log.f a0).bind fun bt107 => ((super_Inode.f a0).bind fun bt109 => (if a0 ≥ 0 then (if (bt107.2 != (decide (a0 < 16))) = true then (some false) else (if (bt109.2.2 != (decide (a0 < 32))) = true then (some false) else (if bt107.2 = true then (if bt107.1 = (wrap64 (2 + a0)) then (if bt109.2.2 = true then (if bt109.1 = (wrap64 (19 + (wrap64 (Int.tdiv a0 2)))) then (if bt109.2.1 = (wrap64 ((Int.tmod a0 2) * 32)) then ((onionskinlaw23_awake.f).bind fun t112 => (some t112)) else (some false)) else (some false)) else (if (wrap64 (bt109.1 + bt109.2.1)) = 0 then ((onionskinlaw23_awake.f).bind fun t113 => (some t113)) else (some false))) else (some false)) else (if bt107.1 = 0 then (if bt109.2.2 = true then (if bt109.1 = (wrap64 (19 + (wrap64 (Int.tdiv a0 2)))) then (if bt109.2.1 = (wrap64 ((Int.tmod a0 2) * 32)) then ((onionskinlaw23_awake.f).bind fun t114 => (some t114)) else (some false)) else (some false)) else (if (wrap64 (bt109.1 + bt109.2.1)) = 0 then ((onionskinlaw23_awake.f).bind fun t115 => (some t115)) else (some false))) else (some false))))) else (if (bt107.2 != false) = true then (some false) else (if (bt109.2.2 != false) = true then (some false) else (if bt107.2 = true then (if bt107.1 = (wrap64 (2 + a0)) then (if bt109.2.2 = true then (if bt109.1 = (wrap64 (19 + (wrap64 (Int.tdiv a0 2)))) then (if bt109.2.1 = (wrap64 ((Int.tmod a0 2) * 32)) then ((onionskinlaw23_awake.f).bind fun t116 => (some t116)) else (some false)) else (some false)) else (if (wrap64 (bt109.1 + bt109.2.1)) = 0 then ((onionskinlaw23_awake.f).bind fun t117 => (some t117)) else (some false))) else (some false)) else (if bt107.1 = 0 then (if bt109.2.2 = true then (if bt109.1 = (wrap64 (19 + (wrap64 (Int.tdiv a0 2)))) then (if bt109.2.1 = (wrap64 ((Int.tmod a0 2) * 32)) then ((onionskinlaw23_awake.f).bind fun t118 => (some t118)) else (some false)) else (some false)) else (if (wrap64 (bt109.1 + bt109.2.1)) = 0 then ((onionskinlaw23_awake.f).bind fun t119 => (some t119)) else (some false))) else (some false)))))))
set_option maxHeartbeats 8000000 in
set_option maxRecDepth 100000 in
theorem onionskinlaw23_SuperNone.calls (a0 : Int) (r : Bool) (w : World) (h : onionskinlaw23_SuperNone.f a0 = some r) :
    Calls Try.prog 7 #[.int .i64 a0] w fun e w' => e = .returned (.bool r) ∧ Drawn0 w w' := by
  have H : ((super_Log.f a0).bind fun bt107 => ((super_Inode.f a0).bind fun bt109 => (if a0 ≥ 0 then (if (bt107.2 != (decide (a0 < 16))) = true then (some false) else (if (bt109.2.2 != (decide (a0 < 32))) = true then (some false) else (if bt107.2 = true then (if bt107.1 = (wrap64 (2 + a0)) then (if bt109.2.2 = true then (if bt109.1 = (wrap64 (19 + (wrap64 (Int.tdiv a0 2)))) then (if bt109.2.1 = (wrap64 ((Int.tmod a0 2) * 32)) then ((onionskinlaw23_awake.f).bind fun t112 => (some t112)) else (some false)) else (some false)) else (if (wrap64 (bt109.1 + bt109.2.1)) = 0 then ((onionskinlaw23_awake.f).bind fun t113 => (some t113)) else (some false))) else (some false)) else (if bt107.1 = 0 then (if bt109.2.2 = true then (if bt109.1 = (wrap64 (19 + (wrap64 (Int.tdiv a0 2)))) then (if bt109.2.1 = (wrap64 ((Int.tmod a0 2) * 32)) then ((onionskinlaw23_awake.f).bind fun t114 => (some t114)) else (some false)) else (some false)) else (if (wrap64 (bt109.1 + bt109.2.1)) = 0 then ((onionskinlaw23_awake.f).bind fun t115 => (some t115)) else (some false))) else (some false))))) else (if (bt107.2 != false) = true then (some false) else (if (bt109.2.2 != false) = true then (some false) else (if bt107.2 = true then (if bt107.1 = (wrap64 (2 + a0)) then (if bt109.2.2 = true then (if bt109.1 = (wrap64 (19 + (wrap64 (Int.tdiv a0 2)))) then (if bt109.2.1 = (wrap64 ((Int.tmod a0 2) * 32)) then ((onionskinlaw23_awake.f).bind fun t116 => (some t116)) else (some false)) else (some false)) else (if (wrap64 (bt109.1 + bt109.2.1)) = 0 then ((onionskinlaw23_awake.f).bind fun t117 => (some t117)) else (some false))) else (some false)) else (if bt107.1 = 0 then (if bt109.2.2 = true then (if bt109.1 = (wrap64 (19 + (wrap64 (Int.tdiv a0 2)))) then (if bt109.2.1 = (wrap64 ((Int.tmod a0 2) * 32)) then ((onionskinlaw23_awake.f).bind fun t118 => (some t118)) else (some false)) else (some false)) else (if (wrap64 (bt109.1 + bt109.2.1)) = 0 then ((onionskinlaw23_awake.f).bind fun t119 => (some t119)) else (some false))) else (some false)))))))) = some r := h
  clear h
  replace H := Option.bind_eq_some_iff.mp H
  obtain ⟨⟨t107, t108⟩, A20, H⟩ := H
  replace H : ((super_Inode.f a0).bind fun bt109 => (if a0 ≥ 0 then (if (t108 != (decide (a0 < 16))) = true then (some false) else (if (bt109.2.2 != (decide (a0 < 32))) = true then (some false) else (if t108 = true then (if t107 = (wrap64 (2 + a0)) then (if bt109.2.2 = true then (if bt109.1 = (wrap64 (19 + (wrap64 (Int.tdiv a0 2)))) then (if bt109.2.1 = (wrap64 ((Int.tmod a0 2) * 32)) then ((onionskinlaw23_awake.f).bind fun t112 => (some t112)) else (some false)) else (some false)) else (if (wrap64 (bt109.1 + bt109.2.1)) = 0 then ((onionskinlaw23_awake.f).bind fun t113 => (some t113)) else (some false))) else (some false)) else (if t107 = 0 then (if bt109.2.2 = true then (if bt109.1 = (wrap64 (19 + (wrap64 (Int.tdiv a0 2)))) then (if bt109.2.1 = (wrap64 ((Int.tmod a0 2) * 32)) then ((onionskinlaw23_awake.f).bind fun t114 => (some t114)) else (some false)) else (some false)) else (if (wrap64 (bt109.1 + bt109.2.1)) = 0 then ((onionskinlaw23_awake.f).bind fun t115 => (some t115)) else (some false))) else (some false))))) else (if (t108 != false) = true then (some false) else (if (bt109.2.2 != false) = true then (some false) else (if t108 = true then (if t107 = (wrap64 (2 + a0)) then (if bt109.2.2 = true then (if bt109.1 = (wrap64 (19 + (wrap64 (Int.tdiv a0 2)))) then (if bt109.2.1 = (wrap64 ((Int.tmod a0 2) * 32)) then ((onionskinlaw23_awake.f).bind fun t116 => (some t116)) else (some false)) else (some false)) else (if (wrap64 (bt109.1 + bt109.2.1)) = 0 then ((onionskinlaw23_awake.f).bind fun t117 => (some t117)) else (some false))) else (some false)) else (if t107 = 0 then (if bt109.2.2 = true then (if bt109.1 = (wrap64 (19 + (wrap64 (Int.tdiv a0 2)))) then (if bt109.2.1 = (wrap64 ((Int.tmod a0 2) * 32)) then ((onionskinlaw23_awake.f).bind fun t118 => (some t118)) else (some false)) else (some false)) else (if (wrap64 (bt109.1 + bt109.2.1)) = 0 then ((onionskinlaw23_awake.f).bind fun t119 => (some t119)) else (some false))) else (some false))))))) = some r := H
  have A2 := Aside0.mk A20
  clear A20
  replace H := Option.bind_eq_some_iff.mp H
  obtain ⟨⟨t109, t110, t111⟩, A30, H⟩ := H
  replace H : (if a0 ≥ 0 then (if (t108 != (decide (a0 < 16))) = true then (some false) else (if (t111 != (decide (a0 < 32))) = true then (some false) else (if t108 = true then (if t107 = (wrap64 (2 + a0)) then (if t111 = true then (if t109 = (wrap64 (19 + (wrap64 (Int.tdiv a0 2)))) then (if t110 = (wrap64 ((Int.tmod a0 2) * 32)) then ((onionskinlaw23_awake.f).bind fun t112 => (some t112)) else (some false)) else (some false)) else (if (wrap64 (t109 + t110)) = 0 then ((onionskinlaw23_awake.f).bind fun t113 => (some t113)) else (some false))) else (some false)) else (if t107 = 0 then (if t111 = true then (if t109 = (wrap64 (19 + (wrap64 (Int.tdiv a0 2)))) then (if t110 = (wrap64 ((Int.tmod a0 2) * 32)) then ((onionskinlaw23_awake.f).bind fun t114 => (some t114)) else (some false)) else (some false)) else (if (wrap64 (t109 + t110)) = 0 then ((onionskinlaw23_awake.f).bind fun t115 => (some t115)) else (some false))) else (some false))))) else (if (t108 != false) = true then (some false) else (if (t111 != false) = true then (some false) else (if t108 = true then (if t107 = (wrap64 (2 + a0)) then (if t111 = true then (if t109 = (wrap64 (19 + (wrap64 (Int.tdiv a0 2)))) then (if t110 = (wrap64 ((Int.tmod a0 2) * 32)) then ((onionskinlaw23_awake.f).bind fun t116 => (some t116)) else (some false)) else (some false)) else (if (wrap64 (t109 + t110)) = 0 then ((onionskinlaw23_awake.f).bind fun t117 => (some t117)) else (some false))) else (some false)) else (if t107 = 0 then (if t111 = true then (if t109 = (wrap64 (19 + (wrap64 (Int.tdiv a0 2)))) then (if t110 = (wrap64 ((Int.tmod a0 2) * 32)) then ((onionskinlaw23_awake.f).bind fun t118 => (some t118)) else (some false)) else (some false)) else (if (wrap64 (t109 + t110)) = 0 then ((onionskinlaw23_awake.f).bind fun t119 => (some t119)) else (some false))) else (some false)))))) = some r := H
  have A3 := Aside0.mk A30
  clear A30
  by_cases c4 : a0 ≥ 0
  · rw [if_pos c4] at H
    have c4b0 : decide (0 ≤ a0) = true := decide_eq_true c4
    clear c4
    by_cases c5 : (t108 != (decide (a0 < 16))) = true
    · rw [if_pos c5] at H
      have c5b0 : (t108 != (decide (a0 < 16))) = true := c5
      (try (have c5b1 : decide (t108 = (decide (a0 < 16))) = false := by simpa using c5))
      (try (have c5b2 : (t108 == (decide (a0 < 16))) = false := by simpa using c5))
      (try (have c5b3 : ¬ (t108 = (decide (a0 < 16))) := by simpa using c5))
      clear c5
      obtain rfl := Option.some.inj H
      go_enter Try.func7, Try.ntmps7
      go_wp2_with (first | ((with_reducible refine gate_callee (f := 29) rfl ?_); refine goesL_ (some 10) rfl rfl Try.func29 (by kernel_rfl) rfl #[.int .i64 a0] rfl (by (try simp only [List.map_toArray, List.map_cons, List.map_nil]); first | done | rfl | (simp only [List.length_drop, List.length_take]; rfl)) ?_; (with_reducible refine (super_Log.calls a0 t107 t108 _ A2.out).mono ?_); rintro e w' ⟨rfl, ⟨nd, rfl⟩⟩; refine ⟨_, rfl, ?_⟩) | ((with_reducible refine gate_callee (f := 30) rfl ?_); refine goesL_ (some 15) rfl rfl Try.func30 (by kernel_rfl) rfl #[.int .i64 a0] rfl (by (try simp only [List.map_toArray, List.map_cons, List.map_nil]); first | done | rfl | (simp only [List.length_drop, List.length_take]; rfl)) ?_; (with_reducible refine (super_Inode.calls a0 t109 t110 t111 _ A3.out).mono ?_); rintro e w' ⟨rfl, ⟨nd, rfl⟩⟩; refine ⟨_, rfl, ?_⟩))
      go_ret
      exact ⟨by first | rfl | (simp; done) | (simp [*]; done), by repeat (first | exact Drawn0.refl _ | apply Drawn0.step)⟩
    · rw [if_neg c5] at H
      have c5b0 : (t108 != (decide (a0 < 16))) = false := by simpa using c5
      (try (have c5b1 : decide (t108 = (decide (a0 < 16))) = true := by simpa using c5))
      (try (have c5b2 : (t108 == (decide (a0 < 16))) = true := by simpa using c5))
      clear c5
      by_cases c6 : (t111 != (decide (a0 < 32))) = true
      · rw [if_pos c6] at H
        have c6b0 : (t111 != (decide (a0 < 32))) = true := c6
        (try (have c6b1 : decide (t111 = (decide (a0 < 32))) = false := by simpa using c6))
        (try (have c6b2 : (t111 == (decide (a0 < 32))) = false := by simpa using c6))
        (try (have c6b3 : ¬ (t111 = (decide (a0 < 32))) := by simpa using c6))
        clear c6
        obtain rfl := Option.some.inj H
        go_enter Try.func7, Try.ntmps7
        go_wp2_with (first | ((with_reducible refine gate_callee (f := 29) rfl ?_); refine goesL_ (some 10) rfl rfl Try.func29 (by kernel_rfl) rfl #[.int .i64 a0] rfl (by (try simp only [List.map_toArray, List.map_cons, List.map_nil]); first | done | rfl | (simp only [List.length_drop, List.length_take]; rfl)) ?_; (with_reducible refine (super_Log.calls a0 t107 t108 _ A2.out).mono ?_); rintro e w' ⟨rfl, ⟨nd, rfl⟩⟩; refine ⟨_, rfl, ?_⟩) | ((with_reducible refine gate_callee (f := 30) rfl ?_); refine goesL_ (some 15) rfl rfl Try.func30 (by kernel_rfl) rfl #[.int .i64 a0] rfl (by (try simp only [List.map_toArray, List.map_cons, List.map_nil]); first | done | rfl | (simp only [List.length_drop, List.length_take]; rfl)) ?_; (with_reducible refine (super_Inode.calls a0 t109 t110 t111 _ A3.out).mono ?_); rintro e w' ⟨rfl, ⟨nd, rfl⟩⟩; refine ⟨_, rfl, ?_⟩))
        go_ret
        exact ⟨by first | rfl | (simp; done) | (simp [*]; done), by repeat (first | exact Drawn0.refl _ | apply Drawn0.step)⟩
      · rw [if_neg c6] at H
        have c6b0 : (t111 != (decide (a0 < 32))) = false := by simpa using c6
        (try (have c6b1 : decide (t111 = (decide (a0 < 32))) = true := by simpa using c6))
        (try (have c6b2 : (t111 == (decide (a0 < 32))) = true := by simpa using c6))
        clear c6
        by_cases c7 : t108 = true
        · subst c7
          have H1 : (if t107 = (wrap64 (2 + a0)) then (if t111 = true then (if t109 = (wrap64 (19 + (wrap64 (Int.tdiv a0 2)))) then (if t110 = (wrap64 ((Int.tmod a0 2) * 32)) then ((onionskinlaw23_awake.f).bind fun t112 => (some t112)) else (some false)) else (some false)) else (if (wrap64 (t109 + t110)) = 0 then ((onionskinlaw23_awake.f).bind fun t113 => (some t113)) else (some false))) else (some false)) = some r := by rw [if_pos rfl] at H; exact H
          clear H
          have H := H1
          clear H1
          by_cases c8 : t107 = (wrap64 (2 + a0))
          · rw [if_pos c8] at H
            have c8b0 : (t107 == (wrap64 (2 + a0))) = true := beq_iff_eq.mpr c8
            have c8b1 : (t107 != (wrap64 (2 + a0))) = false := bne_eq_false_iff_eq.mpr c8
            clear c8
            by_cases c9 : t111 = true
            · subst c9
              have H1 : (if t109 = (wrap64 (19 + (wrap64 (Int.tdiv a0 2)))) then (if t110 = (wrap64 ((Int.tmod a0 2) * 32)) then ((onionskinlaw23_awake.f).bind fun t112 => (some t112)) else (some false)) else (some false)) = some r := by rw [if_pos rfl] at H; exact H
              clear H
              have H := H1
              clear H1
              by_cases c10 : t109 = (wrap64 (19 + (wrap64 (Int.tdiv a0 2))))
              · rw [if_pos c10] at H
                have c10b0 : (t109 == (wrap64 (19 + (wrap64 (Int.tdiv a0 2))))) = true := beq_iff_eq.mpr c10
                have c10b1 : (t109 != (wrap64 (19 + (wrap64 (Int.tdiv a0 2))))) = false := bne_eq_false_iff_eq.mpr c10
                clear c10
                by_cases c11 : t110 = (wrap64 ((Int.tmod a0 2) * 32))
                · rw [if_pos c11] at H
                  have c11b0 : (t110 == (wrap64 ((Int.tmod a0 2) * 32))) = true := beq_iff_eq.mpr c11
                  have c11b1 : (t110 != (wrap64 ((Int.tmod a0 2) * 32))) = false := bne_eq_false_iff_eq.mpr c11
                  clear c11
                  replace H := Option.bind_eq_some_iff.mp H
                  obtain ⟨t112, A120, H⟩ := H
                  replace H : (some t112) = some r := H
                  have A12 := Aside0.mk A120
                  clear A120
                  obtain rfl := Option.some.inj H
                  go_enter Try.func7, Try.ntmps7
                  go_wp2_with (first | ((with_reducible refine gate_callee (f := 29) rfl ?_); refine goesL_ (some 10) rfl rfl Try.func29 (by kernel_rfl) rfl #[.int .i64 a0] rfl (by (try simp only [List.map_toArray, List.map_cons, List.map_nil]); first | done | rfl | (simp only [List.length_drop, List.length_take]; rfl)) ?_; (with_reducible refine (super_Log.calls a0 t107 true _ A2.out).mono ?_); rintro e w' ⟨rfl, ⟨nd, rfl⟩⟩; refine ⟨_, rfl, ?_⟩) | ((with_reducible refine gate_callee (f := 30) rfl ?_); refine goesL_ (some 15) rfl rfl Try.func30 (by kernel_rfl) rfl #[.int .i64 a0] rfl (by (try simp only [List.map_toArray, List.map_cons, List.map_nil]); first | done | rfl | (simp only [List.length_drop, List.length_take]; rfl)) ?_; (with_reducible refine (super_Inode.calls a0 t109 t110 true _ A3.out).mono ?_); rintro e w' ⟨rfl, ⟨nd, rfl⟩⟩; refine ⟨_, rfl, ?_⟩) | (go_at_call 31; (with_reducible refine (onionskinlaw23_awake.calls  t112 _ A12.out).mono ?_); rintro e w' ⟨rfl, ⟨nd, rfl⟩⟩))
                  go_ret
                  exact ⟨by first | rfl | (simp; done) | (simp [*]; done), by repeat (first | exact Drawn0.refl _ | apply Drawn0.step)⟩
                · rw [if_neg c11] at H
                  have c11b0 : (t110 == (wrap64 ((Int.tmod a0 2) * 32))) = false := beq_eq_false_iff_ne.mpr c11
                  have c11b1 : (t110 != (wrap64 ((Int.tmod a0 2) * 32))) = true := bne_iff_ne.mpr c11
                  obtain rfl := Option.some.inj H
                  go_enter Try.func7, Try.ntmps7
                  go_wp2_with (first | ((with_reducible refine gate_callee (f := 29) rfl ?_); refine goesL_ (some 10) rfl rfl Try.func29 (by kernel_rfl) rfl #[.int .i64 a0] rfl (by (try simp only [List.map_toArray, List.map_cons, List.map_nil]); first | done | rfl | (simp only [List.length_drop, List.length_take]; rfl)) ?_; (with_reducible refine (super_Log.calls a0 t107 true _ A2.out).mono ?_); rintro e w' ⟨rfl, ⟨nd, rfl⟩⟩; refine ⟨_, rfl, ?_⟩) | ((with_reducible refine gate_callee (f := 30) rfl ?_); refine goesL_ (some 15) rfl rfl Try.func30 (by kernel_rfl) rfl #[.int .i64 a0] rfl (by (try simp only [List.map_toArray, List.map_cons, List.map_nil]); first | done | rfl | (simp only [List.length_drop, List.length_take]; rfl)) ?_; (with_reducible refine (super_Inode.calls a0 t109 t110 true _ A3.out).mono ?_); rintro e w' ⟨rfl, ⟨nd, rfl⟩⟩; refine ⟨_, rfl, ?_⟩))
                  go_ret
                  exact ⟨by first | rfl | (simp; done) | (simp [*]; done), by repeat (first | exact Drawn0.refl _ | apply Drawn0.step)⟩
              · rw [if_neg c10] at H
                have c10b0 : (t109 == (wrap64 (19 + (wrap64 (Int.tdiv a0 2))))) = false := beq_eq_false_iff_ne.mpr c10
                have c10b1 : (t109 != (wrap64 (19 + (wrap64 (Int.tdiv a0 2))))) = true := bne_iff_ne.mpr c10
                obtain rfl := Option.some.inj H
                go_enter Try.func7, Try.ntmps7
                go_wp2_with (first | ((with_reducible refine gate_callee (f := 29) rfl ?_); refine goesL_ (some 10) rfl rfl Try.func29 (by kernel_rfl) rfl #[.int .i64 a0] rfl (by (try simp only [List.map_toArray, List.map_cons, List.map_nil]); first | done | rfl | (simp only [List.length_drop, List.length_take]; rfl)) ?_; (with_reducible refine (super_Log.calls a0 t107 true _ A2.out).mono ?_); rintro e w' ⟨rfl, ⟨nd, rfl⟩⟩; refine ⟨_, rfl, ?_⟩) | ((with_reducible refine gate_callee (f := 30) rfl ?_); refine goesL_ (some 15) rfl rfl Try.func30 (by kernel_rfl) rfl #[.int .i64 a0] rfl (by (try simp only [List.map_toArray, List.map_cons, List.map_nil]); first | done | rfl | (simp only [List.length_drop, List.length_take]; rfl)) ?_; (with_reducible refine (super_Inode.calls a0 t109 t110 true _ A3.out).mono ?_); rintro e w' ⟨rfl, ⟨nd, rfl⟩⟩; refine ⟨_, rfl, ?_⟩))
                go_ret
                exact ⟨by first | rfl | (simp; done) | (simp [*]; done), by repeat (first | exact Drawn0.refl _ | apply Drawn0.step)⟩
            · replace c9 := Bool.eq_false_iff.mpr c9
              subst c9
              have H1 : (if (wrap64 (t109 + t110)) = 0 then ((onionskinlaw23_awake.f).bind fun t113 => (some t113)) else (some false)) = some r := by rw [if_neg (show ¬ (false = true) by decide)] at H; exact H
              clear H
              have H := H1
              clear H1
              by_cases c13 : (wrap64 (t109 + t110)) = 0
              · rw [if_pos c13] at H
                have c13b0 : ((wrap64 (t109 + t110)) == 0) = true := beq_iff_eq.mpr c13
                have c13b1 : ((wrap64 (t109 + t110)) != 0) = false := bne_eq_false_iff_eq.mpr c13
                clear c13
                replace H := Option.bind_eq_some_iff.mp H
                obtain ⟨t113, A140, H⟩ := H
                replace H : (some t113) = some r := H
                have A14 := Aside0.mk A140
                clear A140
                obtain rfl := Option.some.inj H
                go_enter Try.func7, Try.ntmps7
                go_wp2_with (first | ((with_reducible refine gate_callee (f := 29) rfl ?_); refine goesL_ (some 10) rfl rfl Try.func29 (by kernel_rfl) rfl #[.int .i64 a0] rfl (by (try simp only [List.map_toArray, List.map_cons, List.map_nil]); first | done | rfl | (simp only [List.length_drop, List.length_take]; rfl)) ?_; (with_reducible refine (super_Log.calls a0 t107 true _ A2.out).mono ?_); rintro e w' ⟨rfl, ⟨nd, rfl⟩⟩; refine ⟨_, rfl, ?_⟩) | ((with_reducible refine gate_callee (f := 30) rfl ?_); refine goesL_ (some 15) rfl rfl Try.func30 (by kernel_rfl) rfl #[.int .i64 a0] rfl (by (try simp only [List.map_toArray, List.map_cons, List.map_nil]); first | done | rfl | (simp only [List.length_drop, List.length_take]; rfl)) ?_; (with_reducible refine (super_Inode.calls a0 t109 t110 false _ A3.out).mono ?_); rintro e w' ⟨rfl, ⟨nd, rfl⟩⟩; refine ⟨_, rfl, ?_⟩) | (go_at_call 31; (with_reducible refine (onionskinlaw23_awake.calls  t113 _ A14.out).mono ?_); rintro e w' ⟨rfl, ⟨nd, rfl⟩⟩))
                go_ret
                exact ⟨by first | rfl | (simp; done) | (simp [*]; done), by repeat (first | exact Drawn0.refl _ | apply Drawn0.step)⟩
              · rw [if_neg c13] at H
                have c13b0 : ((wrap64 (t109 + t110)) == 0) = false := beq_eq_false_iff_ne.mpr c13
                have c13b1 : ((wrap64 (t109 + t110)) != 0) = true := bne_iff_ne.mpr c13
                obtain rfl := Option.some.inj H
                go_enter Try.func7, Try.ntmps7
                go_wp2_with (first | ((with_reducible refine gate_callee (f := 29) rfl ?_); refine goesL_ (some 10) rfl rfl Try.func29 (by kernel_rfl) rfl #[.int .i64 a0] rfl (by (try simp only [List.map_toArray, List.map_cons, List.map_nil]); first | done | rfl | (simp only [List.length_drop, List.length_take]; rfl)) ?_; (with_reducible refine (super_Log.calls a0 t107 true _ A2.out).mono ?_); rintro e w' ⟨rfl, ⟨nd, rfl⟩⟩; refine ⟨_, rfl, ?_⟩) | ((with_reducible refine gate_callee (f := 30) rfl ?_); refine goesL_ (some 15) rfl rfl Try.func30 (by kernel_rfl) rfl #[.int .i64 a0] rfl (by (try simp only [List.map_toArray, List.map_cons, List.map_nil]); first | done | rfl | (simp only [List.length_drop, List.length_take]; rfl)) ?_; (with_reducible refine (super_Inode.calls a0 t109 t110 false _ A3.out).mono ?_); rintro e w' ⟨rfl, ⟨nd, rfl⟩⟩; refine ⟨_, rfl, ?_⟩))
                go_ret
                exact ⟨by first | rfl | (simp; done) | (simp [*]; done), by repeat (first | exact Drawn0.refl _ | apply Drawn0.step)⟩
          · rw [if_neg c8] at H
            have c8b0 : (t107 == (wrap64 (2 + a0))) = false := beq_eq_false_iff_ne.mpr c8
            have c8b1 : (t107 != (wrap64 (2 + a0))) = true := bne_iff_ne.mpr c8
            obtain rfl := Option.some.inj H
            go_enter Try.func7, Try.ntmps7
            go_wp2_with (first | ((with_reducible refine gate_callee (f := 29) rfl ?_); refine goesL_ (some 10) rfl rfl Try.func29 (by kernel_rfl) rfl #[.int .i64 a0] rfl (by (try simp only [List.map_toArray, List.map_cons, List.map_nil]); first | done | rfl | (simp only [List.length_drop, List.length_take]; rfl)) ?_; (with_reducible refine (super_Log.calls a0 t107 true _ A2.out).mono ?_); rintro e w' ⟨rfl, ⟨nd, rfl⟩⟩; refine ⟨_, rfl, ?_⟩) | ((with_reducible refine gate_callee (f := 30) rfl ?_); refine goesL_ (some 15) rfl rfl Try.func30 (by kernel_rfl) rfl #[.int .i64 a0] rfl (by (try simp only [List.map_toArray, List.map_cons, List.map_nil]); first | done | rfl | (simp only [List.length_drop, List.length_take]; rfl)) ?_; (with_reducible refine (super_Inode.calls a0 t109 t110 t111 _ A3.out).mono ?_); rintro e w' ⟨rfl, ⟨nd, rfl⟩⟩; refine ⟨_, rfl, ?_⟩))
            go_ret
            exact ⟨by first | rfl | (simp; done) | (simp [*]; done), by repeat (first | exact Drawn0.refl _ | apply Drawn0.step)⟩
        · replace c7 := Bool.eq_false_iff.mpr c7
          subst c7
          have H1 : (if t107 = 0 then (if t111 = true then (if t109 = (wrap64 (19 + (wrap64 (Int.tdiv a0 2)))) then (if t110 = (wrap64 ((Int.tmod a0 2) * 32)) then ((onionskinlaw23_awake.f).bind fun t114 => (some t114)) else (some false)) else (some false)) else (if (wrap64 (t109 + t110)) = 0 then ((onionskinlaw23_awake.f).bind fun t115 => (some t115)) else (some false))) else (some false)) = some r := by rw [if_neg (show ¬ (false = true) by decide)] at H; exact H
          clear H
          have H := H1
          clear H1
          by_cases c15 : t107 = 0
          · rw [if_pos c15] at H
            have c15b0 : (t107 == 0) = true := beq_iff_eq.mpr c15
            have c15b1 : (t107 != 0) = false := bne_eq_false_iff_eq.mpr c15
            clear c15
            by_cases c16 : t111 = true
            · subst c16
              have H1 : (if t109 = (wrap64 (19 + (wrap64 (Int.tdiv a0 2)))) then (if t110 = (wrap64 ((Int.tmod a0 2) * 32)) then ((onionskinlaw23_awake.f).bind fun t114 => (some t114)) else (some false)) else (some false)) = some r := by rw [if_pos rfl] at H; exact H
              clear H
              have H := H1
              clear H1
              by_cases c17 : t109 = (wrap64 (19 + (wrap64 (Int.tdiv a0 2))))
              · rw [if_pos c17] at H
                have c17b0 : (t109 == (wrap64 (19 + (wrap64 (Int.tdiv a0 2))))) = true := beq_iff_eq.mpr c17
                have c17b1 : (t109 != (wrap64 (19 + (wrap64 (Int.tdiv a0 2))))) = false := bne_eq_false_iff_eq.mpr c17
                clear c17
                by_cases c18 : t110 = (wrap64 ((Int.tmod a0 2) * 32))
                · rw [if_pos c18] at H
                  have c18b0 : (t110 == (wrap64 ((Int.tmod a0 2) * 32))) = true := beq_iff_eq.mpr c18
                  have c18b1 : (t110 != (wrap64 ((Int.tmod a0 2) * 32))) = false := bne_eq_false_iff_eq.mpr c18
                  clear c18
                  replace H := Option.bind_eq_some_iff.mp H
                  obtain ⟨t114, A190, H⟩ := H
                  replace H : (some t114) = some r := H
                  have A19 := Aside0.mk A190
                  clear A190
                  obtain rfl := Option.some.inj H
                  go_enter Try.func7, Try.ntmps7
                  go_wp2_with (first | ((with_reducible refine gate_callee (f := 29) rfl ?_); refine goesL_ (some 10) rfl rfl Try.func29 (by kernel_rfl) rfl #[.int .i64 a0] rfl (by (try simp only [List.map_toArray, List.map_cons, List.map_nil]); first | done | rfl | (simp only [List.length_drop, List.length_take]; rfl)) ?_; (with_reducible refine (super_Log.calls a0 t107 false _ A2.out).mono ?_); rintro e w' ⟨rfl, ⟨nd, rfl⟩⟩; refine ⟨_, rfl, ?_⟩) | ((with_reducible refine gate_callee (f := 30) rfl ?_); refine goesL_ (some 15) rfl rfl Try.func30 (by kernel_rfl) rfl #[.int .i64 a0] rfl (by (try simp only [List.map_toArray, List.map_cons, List.map_nil]); first | done | rfl | (simp only [List.length_drop, List.length_take]; rfl)) ?_; (with_reducible refine (super_Inode.calls a0 t109 t110 true _ A3.out).mono ?_); rintro e w' ⟨rfl, ⟨nd, rfl⟩⟩; refine ⟨_, rfl, ?_⟩) | (go_at_call 31; (with_reducible refine (onionskinlaw23_awake.calls  t114 _ A19.out).mono ?_); rintro e w' ⟨rfl, ⟨nd, rfl⟩⟩))
                  go_ret
                  exact ⟨by first | rfl | (simp; done) | (simp [*]; done), by repeat (first | exact Drawn0.refl _ | apply Drawn0.step)⟩
                · rw [if_neg c18] at H
                  have c18b0 : (t110 == (wrap64 ((Int.tmod a0 2) * 32))) = false := beq_eq_false_iff_ne.mpr c18
                  have c18b1 : (t110 != (wrap64 ((Int.tmod a0 2) * 32))) = true := bne_iff_ne.mpr c18
                  obtain rfl := Option.some.inj H
                  go_enter Try.func7, Try.ntmps7
                  go_wp2_with (first | ((with_reducible refine gate_callee (f := 29) rfl ?_); refine goesL_ (some 10) rfl rfl Try.func29 (by kernel_rfl) rfl #[.int .i64 a0] rfl (by (try simp only [List.map_toArray, List.map_cons, List.map_nil]); first | done | rfl | (simp only [List.length_drop, List.length_take]; rfl)) ?_; (with_reducible refine (super_Log.calls a0 t107 false _ A2.out).mono ?_); rintro e w' ⟨rfl, ⟨nd, rfl⟩⟩; refine ⟨_, rfl, ?_⟩) | ((with_reducible refine gate_callee (f := 30) rfl ?_); refine goesL_ (some 15) rfl rfl Try.func30 (by kernel_rfl) rfl #[.int .i64 a0] rfl (by (try simp only [List.map_toArray, List.map_cons, List.map_nil]); first | done | rfl | (simp only [List.length_drop, List.length_take]; rfl)) ?_; (with_reducible refine (super_Inode.calls a0 t109 t110 true _ A3.out).mono ?_); rintro e w' ⟨rfl, ⟨nd, rfl⟩⟩; refine ⟨_, rfl, ?_⟩))
                  go_ret
                  exact ⟨by first | rfl | (simp; done) | (simp [*]; done), by repeat (first | exact Drawn0.refl _ | apply Drawn0.step)⟩
              · rw [if_neg c17] at H
                have c17b0 : (t109 == (wrap64 (19 + (wrap64 (Int.tdiv a0 2))))) = false := beq_eq_false_iff_ne.mpr c17
                have c17b1 : (t109 != (wrap64 (19 + (wrap64 (Int.tdiv a0 2))))) = true := bne_iff_ne.mpr c17
                obtain rfl := Option.some.inj H
                go_enter Try.func7, Try.ntmps7
                go_wp2_with (first | ((with_reducible refine gate_callee (f := 29) rfl ?_); refine goesL_ (some 10) rfl rfl Try.func29 (by kernel_rfl) rfl #[.int .i64 a0] rfl (by (try simp only [List.map_toArray, List.map_cons, List.map_nil]); first | done | rfl | (simp only [List.length_drop, List.length_take]; rfl)) ?_; (with_reducible refine (super_Log.calls a0 t107 false _ A2.out).mono ?_); rintro e w' ⟨rfl, ⟨nd, rfl⟩⟩; refine ⟨_, rfl, ?_⟩) | ((with_reducible refine gate_callee (f := 30) rfl ?_); refine goesL_ (some 15) rfl rfl Try.func30 (by kernel_rfl) rfl #[.int .i64 a0] rfl (by (try simp only [List.map_toArray, List.map_cons, List.map_nil]); first | done | rfl | (simp only [List.length_drop, List.length_take]; rfl)) ?_; (with_reducible refine (super_Inode.calls a0 t109 t110 true _ A3.out).mono ?_); rintro e w' ⟨rfl, ⟨nd, rfl⟩⟩; refine ⟨_, rfl, ?_⟩))
                go_ret
                exact ⟨by first | rfl | (simp; done) | (simp [*]; done), by repeat (first | exact Drawn0.refl _ | apply Drawn0.step)⟩
            · replace c16 := Bool.eq_false_iff.mpr c16
              subst c16
              have H1 : (if (wrap64 (t109 + t110)) = 0 then ((onionskinlaw23_awake.f).bind fun t115 => (some t115)) else (some false)) = some r := by rw [if_neg (show ¬ (false = true) by decide)] at H; exact H
              clear H
              have H := H1
              clear H1
              by_cases c20 : (wrap64 (t109 + t110)) = 0
              · rw [if_pos c20] at H
                have c20b0 : ((wrap64 (t109 + t110)) == 0) = true := beq_iff_eq.mpr c20
                have c20b1 : ((wrap64 (t109 + t110)) != 0) = false := bne_eq_false_iff_eq.mpr c20
                clear c20
                replace H := Option.bind_eq_some_iff.mp H
                obtain ⟨t115, A210, H⟩ := H
                replace H : (some t115) = some r := H
                have A21 := Aside0.mk A210
                clear A210
                obtain rfl := Option.some.inj H
                go_enter Try.func7, Try.ntmps7
                go_wp2_with (first | ((with_reducible refine gate_callee (f := 29) rfl ?_); refine goesL_ (some 10) rfl rfl Try.func29 (by kernel_rfl) rfl #[.int .i64 a0] rfl (by (try simp only [List.map_toArray, List.map_cons, List.map_nil]); first | done | rfl | (simp only [List.length_drop, List.length_take]; rfl)) ?_; (with_reducible refine (super_Log.calls a0 t107 false _ A2.out).mono ?_); rintro e w' ⟨rfl, ⟨nd, rfl⟩⟩; refine ⟨_, rfl, ?_⟩) | ((with_reducible refine gate_callee (f := 30) rfl ?_); refine goesL_ (some 15) rfl rfl Try.func30 (by kernel_rfl) rfl #[.int .i64 a0] rfl (by (try simp only [List.map_toArray, List.map_cons, List.map_nil]); first | done | rfl | (simp only [List.length_drop, List.length_take]; rfl)) ?_; (with_reducible refine (super_Inode.calls a0 t109 t110 false _ A3.out).mono ?_); rintro e w' ⟨rfl, ⟨nd, rfl⟩⟩; refine ⟨_, rfl, ?_⟩) | (go_at_call 31; (with_reducible refine (onionskinlaw23_awake.calls  t115 _ A21.out).mono ?_); rintro e w' ⟨rfl, ⟨nd, rfl⟩⟩))
                go_ret
                exact ⟨by first | rfl | (simp; done) | (simp [*]; done), by repeat (first | exact Drawn0.refl _ | apply Drawn0.step)⟩
              · rw [if_neg c20] at H
                have c20b0 : ((wrap64 (t109 + t110)) == 0) = false := beq_eq_false_iff_ne.mpr c20
                have c20b1 : ((wrap64 (t109 + t110)) != 0) = true := bne_iff_ne.mpr c20
                obtain rfl := Option.some.inj H
                go_enter Try.func7, Try.ntmps7
                go_wp2_with (first | ((with_reducible refine gate_callee (f := 29) rfl ?_); refine goesL_ (some 10) rfl rfl Try.func29 (by kernel_rfl) rfl #[.int .i64 a0] rfl (by (try simp only [List.map_toArray, List.map_cons, List.map_nil]); first | done | rfl | (simp only [List.length_drop, List.length_take]; rfl)) ?_; (with_reducible refine (super_Log.calls a0 t107 false _ A2.out).mono ?_); rintro e w' ⟨rfl, ⟨nd, rfl⟩⟩; refine ⟨_, rfl, ?_⟩) | ((with_reducible refine gate_callee (f := 30) rfl ?_); refine goesL_ (some 15) rfl rfl Try.func30 (by kernel_rfl) rfl #[.int .i64 a0] rfl (by (try simp only [List.map_toArray, List.map_cons, List.map_nil]); first | done | rfl | (simp only [List.length_drop, List.length_take]; rfl)) ?_; (with_reducible refine (super_Inode.calls a0 t109 t110 false _ A3.out).mono ?_); rintro e w' ⟨rfl, ⟨nd, rfl⟩⟩; refine ⟨_, rfl, ?_⟩))
                go_ret
                exact ⟨by first | rfl | (simp; done) | (simp [*]; done), by repeat (first | exact Drawn0.refl _ | apply Drawn0.step)⟩
          · rw [if_neg c15] at H
            have c15b0 : (t107 == 0) = false := beq_eq_false_iff_ne.mpr c15
            have c15b1 : (t107 != 0) = true := bne_iff_ne.mpr c15
            obtain rfl := Option.some.inj H
            go_enter Try.func7, Try.ntmps7
            go_wp2_with (first | ((with_reducible refine gate_callee (f := 29) rfl ?_); refine goesL_ (some 10) rfl rfl Try.func29 (by kernel_rfl) rfl #[.int .i64 a0] rfl (by (try simp only [List.map_toArray, List.map_cons, List.map_nil]); first | done | rfl | (simp only [List.length_drop, List.length_take]; rfl)) ?_; (with_reducible refine (super_Log.calls a0 t107 false _ A2.out).mono ?_); rintro e w' ⟨rfl, ⟨nd, rfl⟩⟩; refine ⟨_, rfl, ?_⟩) | ((with_reducible refine gate_callee (f := 30) rfl ?_); refine goesL_ (some 15) rfl rfl Try.func30 (by kernel_rfl) rfl #[.int .i64 a0] rfl (by (try simp only [List.map_toArray, List.map_cons, List.map_nil]); first | done | rfl | (simp only [List.length_drop, List.length_take]; rfl)) ?_; (with_reducible refine (super_Inode.calls a0 t109 t110 t111 _ A3.out).mono ?_); rintro e w' ⟨rfl, ⟨nd, rfl⟩⟩; refine ⟨_, rfl, ?_⟩))
            go_ret
            exact ⟨by first | rfl | (simp; done) | (simp [*]; done), by repeat (first | exact Drawn0.refl _ | apply Drawn0.step)⟩
  · rw [if_neg c4] at H
    have c4b0 : decide (0 ≤ a0) = false := decide_eq_false c4
    clear c4
    by_cases c22 : (t108 != false) = true
    · rw [if_pos c22] at H
      have c22b0 : (t108 != false) = true := c22
      (try (have c22b1 : decide (t108 = false) = false := by simpa using c22))
      (try (have c22b2 : (t108 == false) = false := by simpa using c22))
      (try (have c22b3 : ¬ (t108 = false) := by simpa using c22))
      clear c22
      obtain rfl := Option.some.inj H
      go_enter Try.func7, Try.ntmps7
      go_wp2_with (first | ((with_reducible refine gate_callee (f := 29) rfl ?_); refine goesL_ (some 10) rfl rfl Try.func29 (by kernel_rfl) rfl #[.int .i64 a0] rfl (by (try simp only [List.map_toArray, List.map_cons, List.map_nil]); first | done | rfl | (simp only [List.length_drop, List.length_take]; rfl)) ?_; (with_reducible refine (super_Log.calls a0 t107 t108 _ A2.out).mono ?_); rintro e w' ⟨rfl, ⟨nd, rfl⟩⟩; refine ⟨_, rfl, ?_⟩) | ((with_reducible refine gate_callee (f := 30) rfl ?_); refine goesL_ (some 15) rfl rfl Try.func30 (by kernel_rfl) rfl #[.int .i64 a0] rfl (by (try simp only [List.map_toArray, List.map_cons, List.map_nil]); first | done | rfl | (simp only [List.length_drop, List.length_take]; rfl)) ?_; (with_reducible refine (super_Inode.calls a0 t109 t110 t111 _ A3.out).mono ?_); rintro e w' ⟨rfl, ⟨nd, rfl⟩⟩; refine ⟨_, rfl, ?_⟩))
      go_ret
      exact ⟨by first | rfl | (simp; done) | (simp [*]; done), by repeat (first | exact Drawn0.refl _ | apply Drawn0.step)⟩
    · rw [if_neg c22] at H
      have c22b0 : (t108 != false) = false := by simpa using c22
      (try (have c22b1 : decide (t108 = false) = true := by simpa using c22))
      (try (have c22b2 : (t108 == false) = true := by simpa using c22))
      clear c22
      by_cases c23 : (t111 != false) = true
      · rw [if_pos c23] at H
        have c23b0 : (t111 != false) = true := c23
        (try (have c23b1 : decide (t111 = false) = false := by simpa using c23))
        (try (have c23b2 : (t111 == false) = false := by simpa using c23))
        (try (have c23b3 : ¬ (t111 = false) := by simpa using c23))
        clear c23
        obtain rfl := Option.some.inj H
        go_enter Try.func7, Try.ntmps7
        go_wp2_with (first | ((with_reducible refine gate_callee (f := 29) rfl ?_); refine goesL_ (some 10) rfl rfl Try.func29 (by kernel_rfl) rfl #[.int .i64 a0] rfl (by (try simp only [List.map_toArray, List.map_cons, List.map_nil]); first | done | rfl | (simp only [List.length_drop, List.length_take]; rfl)) ?_; (with_reducible refine (super_Log.calls a0 t107 t108 _ A2.out).mono ?_); rintro e w' ⟨rfl, ⟨nd, rfl⟩⟩; refine ⟨_, rfl, ?_⟩) | ((with_reducible refine gate_callee (f := 30) rfl ?_); refine goesL_ (some 15) rfl rfl Try.func30 (by kernel_rfl) rfl #[.int .i64 a0] rfl (by (try simp only [List.map_toArray, List.map_cons, List.map_nil]); first | done | rfl | (simp only [List.length_drop, List.length_take]; rfl)) ?_; (with_reducible refine (super_Inode.calls a0 t109 t110 t111 _ A3.out).mono ?_); rintro e w' ⟨rfl, ⟨nd, rfl⟩⟩; refine ⟨_, rfl, ?_⟩))
        go_ret
        exact ⟨by first | rfl | (simp; done) | (simp [*]; done), by repeat (first | exact Drawn0.refl _ | apply Drawn0.step)⟩
      · rw [if_neg c23] at H
        have c23b0 : (t111 != false) = false := by simpa using c23
        (try (have c23b1 : decide (t111 = false) = true := by simpa using c23))
        (try (have c23b2 : (t111 == false) = true := by simpa using c23))
        clear c23
        by_cases c24 : t108 = true
        · subst c24
          have H1 : (if t107 = (wrap64 (2 + a0)) then (if t111 = true then (if t109 = (wrap64 (19 + (wrap64 (Int.tdiv a0 2)))) then (if t110 = (wrap64 ((Int.tmod a0 2) * 32)) then ((onionskinlaw23_awake.f).bind fun t116 => (some t116)) else (some false)) else (some false)) else (if (wrap64 (t109 + t110)) = 0 then ((onionskinlaw23_awake.f).bind fun t117 => (some t117)) else (some false))) else (some false)) = some r := by rw [if_pos rfl] at H; exact H
          clear H
          have H := H1
          clear H1
          by_cases c25 : t107 = (wrap64 (2 + a0))
          · rw [if_pos c25] at H
            have c25b0 : (t107 == (wrap64 (2 + a0))) = true := beq_iff_eq.mpr c25
            have c25b1 : (t107 != (wrap64 (2 + a0))) = false := bne_eq_false_iff_eq.mpr c25
            clear c25
            by_cases c26 : t111 = true
            · subst c26
              have H1 : (if t109 = (wrap64 (19 + (wrap64 (Int.tdiv a0 2)))) then (if t110 = (wrap64 ((Int.tmod a0 2) * 32)) then ((onionskinlaw23_awake.f).bind fun t116 => (some t116)) else (some false)) else (some false)) = some r := by rw [if_pos rfl] at H; exact H
              clear H
              have H := H1
              clear H1
              by_cases c27 : t109 = (wrap64 (19 + (wrap64 (Int.tdiv a0 2))))
              · rw [if_pos c27] at H
                have c27b0 : (t109 == (wrap64 (19 + (wrap64 (Int.tdiv a0 2))))) = true := beq_iff_eq.mpr c27
                have c27b1 : (t109 != (wrap64 (19 + (wrap64 (Int.tdiv a0 2))))) = false := bne_eq_false_iff_eq.mpr c27
                clear c27
                by_cases c28 : t110 = (wrap64 ((Int.tmod a0 2) * 32))
                · rw [if_pos c28] at H
                  have c28b0 : (t110 == (wrap64 ((Int.tmod a0 2) * 32))) = true := beq_iff_eq.mpr c28
                  have c28b1 : (t110 != (wrap64 ((Int.tmod a0 2) * 32))) = false := bne_eq_false_iff_eq.mpr c28
                  clear c28
                  replace H := Option.bind_eq_some_iff.mp H
                  obtain ⟨t116, A290, H⟩ := H
                  replace H : (some t116) = some r := H
                  have A29 := Aside0.mk A290
                  clear A290
                  obtain rfl := Option.some.inj H
                  go_enter Try.func7, Try.ntmps7
                  go_wp2_with (first | ((with_reducible refine gate_callee (f := 29) rfl ?_); refine goesL_ (some 10) rfl rfl Try.func29 (by kernel_rfl) rfl #[.int .i64 a0] rfl (by (try simp only [List.map_toArray, List.map_cons, List.map_nil]); first | done | rfl | (simp only [List.length_drop, List.length_take]; rfl)) ?_; (with_reducible refine (super_Log.calls a0 t107 true _ A2.out).mono ?_); rintro e w' ⟨rfl, ⟨nd, rfl⟩⟩; refine ⟨_, rfl, ?_⟩) | ((with_reducible refine gate_callee (f := 30) rfl ?_); refine goesL_ (some 15) rfl rfl Try.func30 (by kernel_rfl) rfl #[.int .i64 a0] rfl (by (try simp only [List.map_toArray, List.map_cons, List.map_nil]); first | done | rfl | (simp only [List.length_drop, List.length_take]; rfl)) ?_; (with_reducible refine (super_Inode.calls a0 t109 t110 true _ A3.out).mono ?_); rintro e w' ⟨rfl, ⟨nd, rfl⟩⟩; refine ⟨_, rfl, ?_⟩) | (go_at_call 31; (with_reducible refine (onionskinlaw23_awake.calls  t116 _ A29.out).mono ?_); rintro e w' ⟨rfl, ⟨nd, rfl⟩⟩))
                  go_ret
                  exact ⟨by first | rfl | (simp; done) | (simp [*]; done), by repeat (first | exact Drawn0.refl _ | apply Drawn0.step)⟩
                · rw [if_neg c28] at H
                  have c28b0 : (t110 == (wrap64 ((Int.tmod a0 2) * 32))) = false := beq_eq_false_iff_ne.mpr c28
                  have c28b1 : (t110 != (wrap64 ((Int.tmod a0 2) * 32))) = true := bne_iff_ne.mpr c28
                  obtain rfl := Option.some.inj H
                  go_enter Try.func7, Try.ntmps7
                  go_wp2_with (first | ((with_reducible refine gate_callee (f := 29) rfl ?_); refine goesL_ (some 10) rfl rfl Try.func29 (by kernel_rfl) rfl #[.int .i64 a0] rfl (by (try simp only [List.map_toArray, List.map_cons, List.map_nil]); first | done | rfl | (simp only [List.length_drop, List.length_take]; rfl)) ?_; (with_reducible refine (super_Log.calls a0 t107 true _ A2.out).mono ?_); rintro e w' ⟨rfl, ⟨nd, rfl⟩⟩; refine ⟨_, rfl, ?_⟩) | ((with_reducible refine gate_callee (f := 30) rfl ?_); refine goesL_ (some 15) rfl rfl Try.func30 (by kernel_rfl) rfl #[.int .i64 a0] rfl (by (try simp only [List.map_toArray, List.map_cons, List.map_nil]); first | done | rfl | (simp only [List.length_drop, List.length_take]; rfl)) ?_; (with_reducible refine (super_Inode.calls a0 t109 t110 true _ A3.out).mono ?_); rintro e w' ⟨rfl, ⟨nd, rfl⟩⟩; refine ⟨_, rfl, ?_⟩))
                  go_ret
                  exact ⟨by first | rfl | (simp; done) | (simp [*]; done), by repeat (first | exact Drawn0.refl _ | apply Drawn0.step)⟩
              · rw [if_neg c27] at H
                have c27b0 : (t109 == (wrap64 (19 + (wrap64 (Int.tdiv a0 2))))) = false := beq_eq_false_iff_ne.mpr c27
                have c27b1 : (t109 != (wrap64 (19 + (wrap64 (Int.tdiv a0 2))))) = true := bne_iff_ne.mpr c27
                obtain rfl := Option.some.inj H
                go_enter Try.func7, Try.ntmps7
                go_wp2_with (first | ((with_reducible refine gate_callee (f := 29) rfl ?_); refine goesL_ (some 10) rfl rfl Try.func29 (by kernel_rfl) rfl #[.int .i64 a0] rfl (by (try simp only [List.map_toArray, List.map_cons, List.map_nil]); first | done | rfl | (simp only [List.length_drop, List.length_take]; rfl)) ?_; (with_reducible refine (super_Log.calls a0 t107 true _ A2.out).mono ?_); rintro e w' ⟨rfl, ⟨nd, rfl⟩⟩; refine ⟨_, rfl, ?_⟩) | ((with_reducible refine gate_callee (f := 30) rfl ?_); refine goesL_ (some 15) rfl rfl Try.func30 (by kernel_rfl) rfl #[.int .i64 a0] rfl (by (try simp only [List.map_toArray, List.map_cons, List.map_nil]); first | done | rfl | (simp only [List.length_drop, List.length_take]; rfl)) ?_; (with_reducible refine (super_Inode.calls a0 t109 t110 true _ A3.out).mono ?_); rintro e w' ⟨rfl, ⟨nd, rfl⟩⟩; refine ⟨_, rfl, ?_⟩))
                go_ret
                exact ⟨by first | rfl | (simp; done) | (simp [*]; done), by repeat (first | exact Drawn0.refl _ | apply Drawn0.step)⟩
            · replace c26 := Bool.eq_false_iff.mpr c26
              subst c26
              have H1 : (if (wrap64 (t109 + t110)) = 0 then ((onionskinlaw23_awake.f).bind fun t117 => (some t117)) else (some false)) = some r := by rw [if_neg (show ¬ (false = true) by decide)] at H; exact H
              clear H
              have H := H1
              clear H1
              by_cases c30 : (wrap64 (t109 + t110)) = 0
              · rw [if_pos c30] at H
                have c30b0 : ((wrap64 (t109 + t110)) == 0) = true := beq_iff_eq.mpr c30
                have c30b1 : ((wrap64 (t109 + t110)) != 0) = false := bne_eq_false_iff_eq.mpr c30
                clear c30
                replace H := Option.bind_eq_some_iff.mp H
                obtain ⟨t117, A310, H⟩ := H
                replace H : (some t117) = some r := H
                have A31 := Aside0.mk A310
                clear A310
                obtain rfl := Option.some.inj H
                go_enter Try.func7, Try.ntmps7
                go_wp2_with (first | ((with_reducible refine gate_callee (f := 29) rfl ?_); refine goesL_ (some 10) rfl rfl Try.func29 (by kernel_rfl) rfl #[.int .i64 a0] rfl (by (try simp only [List.map_toArray, List.map_cons, List.map_nil]); first | done | rfl | (simp only [List.length_drop, List.length_take]; rfl)) ?_; (with_reducible refine (super_Log.calls a0 t107 true _ A2.out).mono ?_); rintro e w' ⟨rfl, ⟨nd, rfl⟩⟩; refine ⟨_, rfl, ?_⟩) | ((with_reducible refine gate_callee (f := 30) rfl ?_); refine goesL_ (some 15) rfl rfl Try.func30 (by kernel_rfl) rfl #[.int .i64 a0] rfl (by (try simp only [List.map_toArray, List.map_cons, List.map_nil]); first | done | rfl | (simp only [List.length_drop, List.length_take]; rfl)) ?_; (with_reducible refine (super_Inode.calls a0 t109 t110 false _ A3.out).mono ?_); rintro e w' ⟨rfl, ⟨nd, rfl⟩⟩; refine ⟨_, rfl, ?_⟩) | (go_at_call 31; (with_reducible refine (onionskinlaw23_awake.calls  t117 _ A31.out).mono ?_); rintro e w' ⟨rfl, ⟨nd, rfl⟩⟩))
                go_ret
                exact ⟨by first | rfl | (simp; done) | (simp [*]; done), by repeat (first | exact Drawn0.refl _ | apply Drawn0.step)⟩
              · rw [if_neg c30] at H
                have c30b0 : ((wrap64 (t109 + t110)) == 0) = false := beq_eq_false_iff_ne.mpr c30
                have c30b1 : ((wrap64 (t109 + t110)) != 0) = true := bne_iff_ne.mpr c30
                obtain rfl := Option.some.inj H
                go_enter Try.func7, Try.ntmps7
                go_wp2_with (first | ((with_reducible refine gate_callee (f := 29) rfl ?_); refine goesL_ (some 10) rfl rfl Try.func29 (by kernel_rfl) rfl #[.int .i64 a0] rfl (by (try simp only [List.map_toArray, List.map_cons, List.map_nil]); first | done | rfl | (simp only [List.length_drop, List.length_take]; rfl)) ?_; (with_reducible refine (super_Log.calls a0 t107 true _ A2.out).mono ?_); rintro e w' ⟨rfl, ⟨nd, rfl⟩⟩; refine ⟨_, rfl, ?_⟩) | ((with_reducible refine gate_callee (f := 30) rfl ?_); refine goesL_ (some 15) rfl rfl Try.func30 (by kernel_rfl) rfl #[.int .i64 a0] rfl (by (try simp only [List.map_toArray, List.map_cons, List.map_nil]); first | done | rfl | (simp only [List.length_drop, List.length_take]; rfl)) ?_; (with_reducible refine (super_Inode.calls a0 t109 t110 false _ A3.out).mono ?_); rintro e w' ⟨rfl, ⟨nd, rfl⟩⟩; refine ⟨_, rfl, ?_⟩))
                go_ret
                exact ⟨by first | rfl | (simp; done) | (simp [*]; done), by repeat (first | exact Drawn0.refl _ | apply Drawn0.step)⟩
          · rw [if_neg c25] at H
            have c25b0 : (t107 == (wrap64 (2 + a0))) = false := beq_eq_false_iff_ne.mpr c25
            have c25b1 : (t107 != (wrap64 (2 + a0))) = true := bne_iff_ne.mpr c25
            obtain rfl := Option.some.inj H
            go_enter Try.func7, Try.ntmps7
            go_wp2_with (first | ((with_reducible refine gate_callee (f := 29) rfl ?_); refine goesL_ (some 10) rfl rfl Try.func29 (by kernel_rfl) rfl #[.int .i64 a0] rfl (by (try simp only [List.map_toArray, List.map_cons, List.map_nil]); first | done | rfl | (simp only [List.length_drop, List.length_take]; rfl)) ?_; (with_reducible refine (super_Log.calls a0 t107 true _ A2.out).mono ?_); rintro e w' ⟨rfl, ⟨nd, rfl⟩⟩; refine ⟨_, rfl, ?_⟩) | ((with_reducible refine gate_callee (f := 30) rfl ?_); refine goesL_ (some 15) rfl rfl Try.func30 (by kernel_rfl) rfl #[.int .i64 a0] rfl (by (try simp only [List.map_toArray, List.map_cons, List.map_nil]); first | done | rfl | (simp only [List.length_drop, List.length_take]; rfl)) ?_; (with_reducible refine (super_Inode.calls a0 t109 t110 t111 _ A3.out).mono ?_); rintro e w' ⟨rfl, ⟨nd, rfl⟩⟩; refine ⟨_, rfl, ?_⟩))
            go_ret
            exact ⟨by first | rfl | (simp; done) | (simp [*]; done), by repeat (first | exact Drawn0.refl _ | apply Drawn0.step)⟩
        · replace c24 := Bool.eq_false_iff.mpr c24
          subst c24
          have H1 : (if t107 = 0 then (if t111 = true then (if t109 = (wrap64 (19 + (wrap64 (Int.tdiv a0 2)))) then (if t110 = (wrap64 ((Int.tmod a0 2) * 32)) then ((onionskinlaw23_awake.f).bind fun t118 => (some t118)) else (some false)) else (some false)) else (if (wrap64 (t109 + t110)) = 0 then ((onionskinlaw23_awake.f).bind fun t119 => (some t119)) else (some false))) else (some false)) = some r := by rw [if_neg (show ¬ (false = true) by decide)] at H; exact H
          clear H
          have H := H1
          clear H1
          by_cases c32 : t107 = 0
          · rw [if_pos c32] at H
            have c32b0 : (t107 == 0) = true := beq_iff_eq.mpr c32
            have c32b1 : (t107 != 0) = false := bne_eq_false_iff_eq.mpr c32
            clear c32
            by_cases c33 : t111 = true
            · subst c33
              have H1 : (if t109 = (wrap64 (19 + (wrap64 (Int.tdiv a0 2)))) then (if t110 = (wrap64 ((Int.tmod a0 2) * 32)) then ((onionskinlaw23_awake.f).bind fun t118 => (some t118)) else (some false)) else (some false)) = some r := by rw [if_pos rfl] at H; exact H
              clear H
              have H := H1
              clear H1
              by_cases c34 : t109 = (wrap64 (19 + (wrap64 (Int.tdiv a0 2))))
              · rw [if_pos c34] at H
                have c34b0 : (t109 == (wrap64 (19 + (wrap64 (Int.tdiv a0 2))))) = true := beq_iff_eq.mpr c34
                have c34b1 : (t109 != (wrap64 (19 + (wrap64 (Int.tdiv a0 2))))) = false := bne_eq_false_iff_eq.mpr c34
                clear c34
                by_cases c35 : t110 = (wrap64 ((Int.tmod a0 2) * 32))
                · rw [if_pos c35] at H
                  have c35b0 : (t110 == (wrap64 ((Int.tmod a0 2) * 32))) = true := beq_iff_eq.mpr c35
                  have c35b1 : (t110 != (wrap64 ((Int.tmod a0 2) * 32))) = false := bne_eq_false_iff_eq.mpr c35
                  clear c35
                  replace H := Option.bind_eq_some_iff.mp H
                  obtain ⟨t118, A360, H⟩ := H
                  replace H : (some t118) = some r := H
                  have A36 := Aside0.mk A360
                  clear A360
                  obtain rfl := Option.some.inj H
                  go_enter Try.func7, Try.ntmps7
                  go_wp2_with (first | ((with_reducible refine gate_callee (f := 29) rfl ?_); refine goesL_ (some 10) rfl rfl Try.func29 (by kernel_rfl) rfl #[.int .i64 a0] rfl (by (try simp only [List.map_toArray, List.map_cons, List.map_nil]); first | done | rfl | (simp only [List.length_drop, List.length_take]; rfl)) ?_; (with_reducible refine (super_Log.calls a0 t107 false _ A2.out).mono ?_); rintro e w' ⟨rfl, ⟨nd, rfl⟩⟩; refine ⟨_, rfl, ?_⟩) | ((with_reducible refine gate_callee (f := 30) rfl ?_); refine goesL_ (some 15) rfl rfl Try.func30 (by kernel_rfl) rfl #[.int .i64 a0] rfl (by (try simp only [List.map_toArray, List.map_cons, List.map_nil]); first | done | rfl | (simp only [List.length_drop, List.length_take]; rfl)) ?_; (with_reducible refine (super_Inode.calls a0 t109 t110 true _ A3.out).mono ?_); rintro e w' ⟨rfl, ⟨nd, rfl⟩⟩; refine ⟨_, rfl, ?_⟩) | (go_at_call 31; (with_reducible refine (onionskinlaw23_awake.calls  t118 _ A36.out).mono ?_); rintro e w' ⟨rfl, ⟨nd, rfl⟩⟩))
                  go_ret
                  exact ⟨by first | rfl | (simp; done) | (simp [*]; done), by repeat (first | exact Drawn0.refl _ | apply Drawn0.step)⟩
                · rw [if_neg c35] at H
                  have c35b0 : (t110 == (wrap64 ((Int.tmod a0 2) * 32))) = false := beq_eq_false_iff_ne.mpr c35
                  have c35b1 : (t110 != (wrap64 ((Int.tmod a0 2) * 32))) = true := bne_iff_ne.mpr c35
                  obtain rfl := Option.some.inj H
                  go_enter Try.func7, Try.ntmps7
                  go_wp2_with (first | ((with_reducible refine gate_callee (f := 29) rfl ?_); refine goesL_ (some 10) rfl rfl Try.func29 (by kernel_rfl) rfl #[.int .i64 a0] rfl (by (try simp only [List.map_toArray, List.map_cons, List.map_nil]); first | done | rfl | (simp only [List.length_drop, List.length_take]; rfl)) ?_; (with_reducible refine (super_Log.calls a0 t107 false _ A2.out).mono ?_); rintro e w' ⟨rfl, ⟨nd, rfl⟩⟩; refine ⟨_, rfl, ?_⟩) | ((with_reducible refine gate_callee (f := 30) rfl ?_); refine goesL_ (some 15) rfl rfl Try.func30 (by kernel_rfl) rfl #[.int .i64 a0] rfl (by (try simp only [List.map_toArray, List.map_cons, List.map_nil]); first | done | rfl | (simp only [List.length_drop, List.length_take]; rfl)) ?_; (with_reducible refine (super_Inode.calls a0 t109 t110 true _ A3.out).mono ?_); rintro e w' ⟨rfl, ⟨nd, rfl⟩⟩; refine ⟨_, rfl, ?_⟩))
                  go_ret
                  exact ⟨by first | rfl | (simp; done) | (simp [*]; done), by repeat (first | exact Drawn0.refl _ | apply Drawn0.step)⟩
              · rw [if_neg c34] at H
                have c34b0 : (t109 == (wrap64 (19 + (wrap64 (Int.tdiv a0 2))))) = false := beq_eq_false_iff_ne.mpr c34
                have c34b1 : (t109 != (wrap64 (19 + (wrap64 (Int.tdiv a0 2))))) = true := bne_iff_ne.mpr c34
                obtain rfl := Option.some.inj H
                go_enter Try.func7, Try.ntmps7
                go_wp2_with (first | ((with_reducible refine gate_callee (f := 29) rfl ?_); refine goesL_ (some 10) rfl rfl Try.func29 (by kernel_rfl) rfl #[.int .i64 a0] rfl (by (try simp only [List.map_toArray, List.map_cons, List.map_nil]); first | done | rfl | (simp only [List.length_drop, List.length_take]; rfl)) ?_; (with_reducible refine (super_Log.calls a0 t107 false _ A2.out).mono ?_); rintro e w' ⟨rfl, ⟨nd, rfl⟩⟩; refine ⟨_, rfl, ?_⟩) | ((with_reducible refine gate_callee (f := 30) rfl ?_); refine goesL_ (some 15) rfl rfl Try.func30 (by kernel_rfl) rfl #[.int .i64 a0] rfl (by (try simp only [List.map_toArray, List.map_cons, List.map_nil]); first | done | rfl | (simp only [List.length_drop, List.length_take]; rfl)) ?_; (with_reducible refine (super_Inode.calls a0 t109 t110 true _ A3.out).mono ?_); rintro e w' ⟨rfl, ⟨nd, rfl⟩⟩; refine ⟨_, rfl, ?_⟩))
                go_ret
                exact ⟨by first | rfl | (simp; done) | (simp [*]; done), by repeat (first | exact Drawn0.refl _ | apply Drawn0.step)⟩
            · replace c33 := Bool.eq_false_iff.mpr c33
              subst c33
              have H1 : (if (wrap64 (t109 + t110)) = 0 then ((onionskinlaw23_awake.f).bind fun t119 => (some t119)) else (some false)) = some r := by rw [if_neg (show ¬ (false = true) by decide)] at H; exact H
              clear H
              have H := H1
              clear H1
              by_cases c37 : (wrap64 (t109 + t110)) = 0
              · rw [if_pos c37] at H
                have c37b0 : ((wrap64 (t109 + t110)) == 0) = true := beq_iff_eq.mpr c37
                have c37b1 : ((wrap64 (t109 + t110)) != 0) = false := bne_eq_false_iff_eq.mpr c37
                clear c37
                replace H := Option.bind_eq_some_iff.mp H
                obtain ⟨t119, A380, H⟩ := H
                replace H : (some t119) = some r := H
                have A38 := Aside0.mk A380
                clear A380
                obtain rfl := Option.some.inj H
                go_enter Try.func7, Try.ntmps7
                go_wp2_with (first | ((with_reducible refine gate_callee (f := 29) rfl ?_); refine goesL_ (some 10) rfl rfl Try.func29 (by kernel_rfl) rfl #[.int .i64 a0] rfl (by (try simp only [List.map_toArray, List.map_cons, List.map_nil]); first | done | rfl | (simp only [List.length_drop, List.length_take]; rfl)) ?_; (with_reducible refine (super_Log.calls a0 t107 false _ A2.out).mono ?_); rintro e w' ⟨rfl, ⟨nd, rfl⟩⟩; refine ⟨_, rfl, ?_⟩) | ((with_reducible refine gate_callee (f := 30) rfl ?_); refine goesL_ (some 15) rfl rfl Try.func30 (by kernel_rfl) rfl #[.int .i64 a0] rfl (by (try simp only [List.map_toArray, List.map_cons, List.map_nil]); first | done | rfl | (simp only [List.length_drop, List.length_take]; rfl)) ?_; (with_reducible refine (super_Inode.calls a0 t109 t110 false _ A3.out).mono ?_); rintro e w' ⟨rfl, ⟨nd, rfl⟩⟩; refine ⟨_, rfl, ?_⟩) | (go_at_call 31; (with_reducible refine (onionskinlaw23_awake.calls  t119 _ A38.out).mono ?_); rintro e w' ⟨rfl, ⟨nd, rfl⟩⟩))
                go_ret
                exact ⟨by first | rfl | (simp; done) | (simp [*]; done), by repeat (first | exact Drawn0.refl _ | apply Drawn0.step)⟩
              · rw [if_neg c37] at H
                have c37b0 : ((wrap64 (t109 + t110)) == 0) = false := beq_eq_false_iff_ne.mpr c37
                have c37b1 : ((wrap64 (t109 + t110)) != 0) = true := bne_iff_ne.mpr c37
                obtain rfl := Option.some.inj H
                go_enter Try.func7, Try.ntmps7
                go_wp2_with (first | ((with_reducible refine gate_callee (f := 29) rfl ?_); refine goesL_ (some 10) rfl rfl Try.func29 (by kernel_rfl) rfl #[.int .i64 a0] rfl (by (try simp only [List.map_toArray, List.map_cons, List.map_nil]); first | done | rfl | (simp only [List.length_drop, List.length_take]; rfl)) ?_; (with_reducible refine (super_Log.calls a0 t107 false _ A2.out).mono ?_); rintro e w' ⟨rfl, ⟨nd, rfl⟩⟩; refine ⟨_, rfl, ?_⟩) | ((with_reducible refine gate_callee (f := 30) rfl ?_); refine goesL_ (some 15) rfl rfl Try.func30 (by kernel_rfl) rfl #[.int .i64 a0] rfl (by (try simp only [List.map_toArray, List.map_cons, List.map_nil]); first | done | rfl | (simp only [List.length_drop, List.length_take]; rfl)) ?_; (with_reducible refine (super_Inode.calls a0 t109 t110 false _ A3.out).mono ?_); rintro e w' ⟨rfl, ⟨nd, rfl⟩⟩; refine ⟨_, rfl, ?_⟩))
                go_ret
                exact ⟨by first | rfl | (simp; done) | (simp [*]; done), by repeat (first | exact Drawn0.refl _ | apply Drawn0.step)⟩
          · rw [if_neg c32] at H
            have c32b0 : (t107 == 0) = false := beq_eq_false_iff_ne.mpr c32
            have c32b1 : (t107 != 0) = true := bne_iff_ne.mpr c32
            obtain rfl := Option.some.inj H
            go_enter Try.func7, Try.ntmps7
            go_wp2_with (first | ((with_reducible refine gate_callee (f := 29) rfl ?_); refine goesL_ (some 10) rfl rfl Try.func29 (by kernel_rfl) rfl #[.int .i64 a0] rfl (by (try simp only [List.map_toArray, List.map_cons, List.map_nil]); first | done | rfl | (simp only [List.length_drop, List.length_take]; rfl)) ?_; (with_reducible refine (super_Log.calls a0 t107 false _ A2.out).mono ?_); rintro e w' ⟨rfl, ⟨nd, rfl⟩⟩; refine ⟨_, rfl, ?_⟩) | ((with_reducible refine gate_callee (f := 30) rfl ?_); refine goesL_ (some 15) rfl rfl Try.func30 (by kernel_rfl) rfl #[.int .i64 a0] rfl (by (try simp only [List.map_toArray, List.map_cons, List.map_nil]); first | done | rfl | (simp only [List.length_drop, List.length_take]; rfl)) ?_; (with_reducible refine (super_Inode.calls a0 t109 t110 t111 _ A3.out).mono ?_); rintro e w' ⟨rfl, ⟨nd, rfl⟩⟩; refine ⟨_, rfl, ?_⟩))
            go_ret
            exact ⟨by first | rfl | (simp; done) | (simp [*]; done), by repeat (first | exact Drawn0.refl _ | apply Drawn0.step)⟩

/-- THE ONE PURE STATEMENT of onionskinlaw23_SuperNone: yours. -/
def onionskinlaw23_SuperNone.Pure : Prop := ∀ (a0 : Int), (Lit.int .i64 a0).wf = true → onionskinlaw23_SuperNone.f a0 = some true
theorem onionskinlaw23_SuperNone.walk (P : onionskinlaw23_SuperNone.Pure) (a0 : Int) (w : World) (w0 : (Lit.int .i64 a0).wf = true) :
    Calls Try.prog 7 #[.int .i64 a0] w fun e w' => e = .returned (.bool true) ∧ Below w.heap.size w w' := by
  have h := P a0 w0
  refine (onionskinlaw23_SuperNone.calls a0 true w h).mono ?_
  rintro e w' ⟨rfl, hd⟩
  exact ⟨rfl, hd.below⟩

end Go.Proofs.Ytaefaneecdploaa.PSuperNone
