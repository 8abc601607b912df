/- Contracts of the reference of layer 5. -/
import Derived.Test.YtdokmnpkihmkpaaTlbArg
set_option linter.unusedVariables false
namespace Go.Proofs.Ytdokmnpkihmkpaa.TlbRef
open Go.RowKit Go.Proofs.Ytdokmnpkihmkpaa.Base Go.Proofs.Ytdokmnpkihmkpaa.Row Go.Proofs.Ytdokmnpkihmkpaa.App Go.Proofs.Ytdokmnpkihmkpaa.Multi Go.Proofs.Ytdokmnpkihmkpaa.TlbMath Go.Proofs.Ytdokmnpkihmkpaa.Tlb Go.Proofs.Ytdokmnpkihmkpaa.Tlb2 Go.Proofs.Ytdokmnpkihmkpaa.Tlb3 Go.Proofs.Ytdokmnpkihmkpaa.Tlb4 Go.Proofs.Ytdokmnpkihmkpaa.Tlb5 Go.Proofs.Ytdokmnpkihmkpaa.TlbArg Go.Proofs.Ytdokmnpkihmkpaa.Flat

theorem info_r : (Try.prog.info? 58).map (fun i => (i.zero, i.size, i.bytes)) = some (some (.agg (ea ez)), 4, 32) := by kernel_rfl
theorem size_r (x : En) : (Try.prog.info? 58).map (·.size) = some (ea x).size := by kernel_rfl
theorem new_r : (Try.prog.info? 58).map (fun i => i.zero.map (·.cells)) = some (some (ea ez)) := by kernel_rfl
theorem wo_succ {l : List En} {k a b : Int} {i : Nat} {x : En} (hx : l[i]? = some x) : without (l.take (i + 1)) k a b = without (l.take i) k a b ++ (if isK k a b x then [] else [x]) := by
  obtain ⟨hi, rfl⟩ := List.getElem?_eq_some_iff.1 hx
  unfold without
  rw [List.take_succ_eq_append_getElem hi, List.filter_append]
  cases h : isK k a b l[i] <;> simp [h]
theorem wo_le (l : List En) (k a b : Int) (i : Nat) : (without (l.take i) k a b).length ≤ i := by
  unfold without
  exact Nat.le_trans (List.length_filter_le _ _) (by rw [List.length_take]; omega)
def WoPost (B : Nat) (l : List En) (w w' : World) (r : Ending) : Prop := (∃ A1 c1, r = .returned (.slice A1 l.length c1) ∧ w'.ownsRow B 58 4 (.slice A1 l.length c1) l.length (l.flatMap ev)) ∧ Below w.heap.size w w'
set_option maxRecDepth 100000 in
set_option maxHeartbeats 2000000 in
theorem wo0_c (A : Option Addr) (n c : Nat) (a b : Int) (l : List En) (w : World) (hr : RF ev 4 w A n l) (hn : n ≤ 1000) :
    Calls Try.prog 36 #[.slice A n c, .int .i64 0, .int .i64 a, .int .i64 b] w fun r w' => WoPost w.heap.size (without l 0 a b) w w' r := by
  have hlen := Lib.hid hr.len
  have hmx := hr.max
  go_enter Try.func36, Try.ntmps36
  go_wp2_with fail
  go_loopw [9, 10] (fun o i wr => ∃ (k : Nat) (A1 : Option Addr) (c1 m : Nat), k ≤ n ∧ m = (without (l.take k) 0 a b).length ∧ i = .int .i64 k ∧ o = .slice A1 m c1 ∧ wr.ownsRow w.heap.size 58 4 (.slice A1 m c1) m ((without (l.take k) 0 a b).flatMap ev) ∧ Below w.heap.size w wr) (fun _ i _ => n - (intOf i).toNat)
  case atStart => exact ⟨0, none, 0, 0, by omega, by simp [without], rfl, rfl, own_nil _ _ _ _, bl_refl _⟩
  case round =>
    obtain ⟨k, A1, c1, m, hk, hm, rfl, rfl, HO, HB⟩ := hrel
    obtain ⟨wo, rfl⟩ : ∃ wo : World, wo = wr := ⟨_, rfl⟩
    by_cases hlt : k < n
    · have hq : decide ((k : Int) < (n : Int)) = true := by simp; omega
      obtain ⟨g, o, x, rfl, hx, hcells⟩ := (hr.below HB).at_ k hlt
      obtain ⟨d0, d1, d2, d3⟩ := range4 hcells
      have hws := Lib.hid (wo_succ (k := 0) (a := a) (b := b) hx)
      have hwl := Lib.hid (wo_le l 0 a b k)
      replace hm := Lib.hid hm
      have sz := HB.size
      clear hcells hx
      obtain ⟨xs, xp, xf, xw⟩ := x
      simp only at d0 d1 d2 d3
      have hK : Hid (isK 0 a b ⟨xs, xp, xf, xw⟩ = (xf == a)) := Lib.hid (by simp [isK])
      cases q2 : (xf == a) with
      | true =>
        have hc : Hid (isK 0 a b ⟨xs, xp, xf, xw⟩ = true) := Lib.hid (by rw [hK.out]; first | exact q2 | (simp [q2]; done) | (simp [q2, q3]; done))
        rw [if_pos hc.out] at hws
        go_wp2_with fail
        go_roundw
        case rel => exact ⟨k + 1, A1, c1, m, by omega, by rw [hws.out, List.append_nil]; exact hm.out, by go_num, rfl, by rw [hws.out, List.append_nil]; exact HO.alloc _, bl_alloc HB _⟩
        case measure => first | (simp [intOf]; done) | (simp [intOf]; omega)
      | false =>
        have hc : Hid (isK 0 a b ⟨xs, xp, xf, xw⟩ = false) := Lib.hid (by rw [hK.out]; first | exact q2 | (simp [q2]; done) | (simp [q2, q3]; done))
        rw [if_neg (by rw [hc.out]; decide)] at hws
        go_wp2_with (at_builtin; refine app_onef (w0 := w) (f := ev) w.heap.size 4 32 ev_len ev_one (.agg (ea ez)) rfl _ _ 65 58 rfl Try.underlying65 info_r rfl (by decide) (by decide) (.slice A1 m c1) m (without (l.take k) 0 a b) rfl (HO.alloc _) (⟨xs, xp, xf, xw⟩ : En) _ rfl (wo.heap.size + 1) (by simp) rfl ?d1 ?d2 ?d3 ?_)
        case d1 => have := hwl.out; have := hm.out; omega
        case d2 => exact bl_alloc HB _
        case d3 => simp; omega
        intro A5 c5 w5 HO5 B5 s5 _
        go_wp2_with fail
        go_roundw
        case rel => exact ⟨k + 1, A5, c5, m + 1, by omega, by rw [hws.out, List.length_append, ← hm.out]; rfl, by go_num, rfl, by rw [hws.out, List.flatMap_append, List.flatMap_singleton]; exact HO5, B5⟩
        case measure => first | (simp [intOf]; done) | (simp [intOf]; omega)
    · obtain rfl : k = n := by omega
      have hq : decide ((k : Int) < (k : Int)) = false := by simp
      rw [List.take_of_length_le (by rw [hlen.out]; omega)] at HO hm
      subst hm
      go_wp2_with fail
      go_ret
      exact ⟨⟨A1, c1, rfl, HO⟩, HB⟩
set_option maxRecDepth 100000 in
set_option maxHeartbeats 2000000 in
theorem wo1_c (A : Option Addr) (n c : Nat) (a b : Int) (l : List En) (w : World) (hr : RF ev 4 w A n l) (hn : n ≤ 1000) :
    Calls Try.prog 36 #[.slice A n c, .int .i64 1, .int .i64 a, .int .i64 b] w fun r w' => WoPost w.heap.size (without l 1 a b) w w' r := by
  have hlen := Lib.hid hr.len
  have hmx := hr.max
  go_enter Try.func36, Try.ntmps36
  go_wp2_with fail
  go_loopw [9, 10] (fun o i wr => ∃ (k : Nat) (A1 : Option Addr) (c1 m : Nat), k ≤ n ∧ m = (without (l.take k) 1 a b).length ∧ i = .int .i64 k ∧ o = .slice A1 m c1 ∧ wr.ownsRow w.heap.size 58 4 (.slice A1 m c1) m ((without (l.take k) 1 a b).flatMap ev) ∧ Below w.heap.size w wr) (fun _ i _ => n - (intOf i).toNat)
  case atStart => exact ⟨0, none, 0, 0, by omega, by simp [without], rfl, rfl, own_nil _ _ _ _, bl_refl _⟩
  case round =>
    obtain ⟨k, A1, c1, m, hk, hm, rfl, rfl, HO, HB⟩ := hrel
    obtain ⟨wo, rfl⟩ : ∃ wo : World, wo = wr := ⟨_, rfl⟩
    by_cases hlt : k < n
    · have hq : decide ((k : Int) < (n : Int)) = true := by simp; omega
      obtain ⟨g, o, x, rfl, hx, hcells⟩ := (hr.below HB).at_ k hlt
      obtain ⟨d0, d1, d2, d3⟩ := range4 hcells
      have hws := Lib.hid (wo_succ (k := 1) (a := a) (b := b) hx)
      have hwl := Lib.hid (wo_le l 1 a b k)
      replace hm := Lib.hid hm
      have sz := HB.size
      clear hcells hx
      obtain ⟨xs, xp, xf, xw⟩ := x
      simp only at d0 d1 d2 d3
      have hK : Hid (isK 1 a b ⟨xs, xp, xf, xw⟩ = (xs == a)) := Lib.hid (by simp [isK])
      cases q2 : (xs == a) with
      | true =>
        have hc : Hid (isK 1 a b ⟨xs, xp, xf, xw⟩ = true) := Lib.hid (by rw [hK.out]; first | exact q2 | (simp [q2]; done) | (simp [q2, q3]; done))
        rw [if_pos hc.out] at hws
        go_wp2_with fail
        go_roundw
        case rel => exact ⟨k + 1, A1, c1, m, by omega, by rw [hws.out, List.append_nil]; exact hm.out, by go_num, rfl, by rw [hws.out, List.append_nil]; exact HO.alloc _, bl_alloc HB _⟩
        case measure => first | (simp [intOf]; done) | (simp [intOf]; omega)
      | false =>
        have hc : Hid (isK 1 a b ⟨xs, xp, xf, xw⟩ = false) := Lib.hid (by rw [hK.out]; first | exact q2 | (simp [q2]; done) | (simp [q2, q3]; done))
        rw [if_neg (by rw [hc.out]; decide)] at hws
        go_wp2_with (at_builtin; refine app_onef (w0 := w) (f := ev) w.heap.size 4 32 ev_len ev_one (.agg (ea ez)) rfl _ _ 65 58 rfl Try.underlying65 info_r rfl (by decide) (by decide) (.slice A1 m c1) m (without (l.take k) 1 a b) rfl (HO.alloc _) (⟨xs, xp, xf, xw⟩ : En) _ rfl (wo.heap.size + 1) (by simp) rfl ?d1 ?d2 ?d3 ?_)
        case d1 => have := hwl.out; have := hm.out; omega
        case d2 => exact bl_alloc HB _
        case d3 => simp; omega
        intro A5 c5 w5 HO5 B5 s5 _
        go_wp2_with fail
        go_roundw
        case rel => exact ⟨k + 1, A5, c5, m + 1, by omega, by rw [hws.out, List.length_append, ← hm.out]; rfl, by go_num, rfl, by rw [hws.out, List.flatMap_append, List.flatMap_singleton]; exact HO5, B5⟩
        case measure => first | (simp [intOf]; done) | (simp [intOf]; omega)
    · obtain rfl : k = n := by omega
      have hq : decide ((k : Int) < (k : Int)) = false := by simp
      rw [List.take_of_length_le (by rw [hlen.out]; omega)] at HO hm
      subst hm
      go_wp2_with fail
      go_ret
      exact ⟨⟨A1, c1, rfl, HO⟩, HB⟩
set_option maxRecDepth 100000 in
set_option maxHeartbeats 2000000 in
theorem wo2_c (A : Option Addr) (n c : Nat) (a b : Int) (l : List En) (w : World) (hr : RF ev 4 w A n l) (hn : n ≤ 1000) :
    Calls Try.prog 36 #[.slice A n c, .int .i64 2, .int .i64 a, .int .i64 b] w fun r w' => WoPost w.heap.size (without l 2 a b) w w' r := by
  have hlen := Lib.hid hr.len
  have hmx := hr.max
  go_enter Try.func36, Try.ntmps36
  go_wp2_with fail
  go_loopw [9, 10] (fun o i wr => ∃ (k : Nat) (A1 : Option Addr) (c1 m : Nat), k ≤ n ∧ m = (without (l.take k) 2 a b).length ∧ i = .int .i64 k ∧ o = .slice A1 m c1 ∧ wr.ownsRow w.heap.size 58 4 (.slice A1 m c1) m ((without (l.take k) 2 a b).flatMap ev) ∧ Below w.heap.size w wr) (fun _ i _ => n - (intOf i).toNat)
  case atStart => exact ⟨0, none, 0, 0, by omega, by simp [without], rfl, rfl, own_nil _ _ _ _, bl_refl _⟩
  case round =>
    obtain ⟨k, A1, c1, m, hk, hm, rfl, rfl, HO, HB⟩ := hrel
    obtain ⟨wo, rfl⟩ : ∃ wo : World, wo = wr := ⟨_, rfl⟩
    by_cases hlt : k < n
    · have hq : decide ((k : Int) < (n : Int)) = true := by simp; omega
      obtain ⟨g, o, x, rfl, hx, hcells⟩ := (hr.below HB).at_ k hlt
      obtain ⟨d0, d1, d2, d3⟩ := range4 hcells
      have hws := Lib.hid (wo_succ (k := 2) (a := a) (b := b) hx)
      have hwl := Lib.hid (wo_le l 2 a b k)
      replace hm := Lib.hid hm
      have sz := HB.size
      clear hcells hx
      obtain ⟨xs, xp, xf, xw⟩ := x
      simp only at d0 d1 d2 d3
      have hK : Hid (isK 2 a b ⟨xs, xp, xf, xw⟩ = (xs == a && xp == b)) := Lib.hid (by simp [isK])
      rcases chain2 (xs == a) (xp == b) with q2 | ⟨q2, q3⟩ | ⟨q2, q3⟩
      · have hc : Hid (isK 2 a b ⟨xs, xp, xf, xw⟩ = false) := Lib.hid (by rw [hK.out]; first | exact q2 | (simp [q2]; done) | (simp [q2, q3]; done))
        rw [if_neg (by rw [hc.out]; decide)] at hws
        go_wp2_with (at_builtin; refine app_onef (w0 := w) (f := ev) w.heap.size 4 32 ev_len ev_one (.agg (ea ez)) rfl _ _ 65 58 rfl Try.underlying65 info_r rfl (by decide) (by decide) (.slice A1 m c1) m (without (l.take k) 2 a b) rfl (HO.alloc _) (⟨xs, xp, xf, xw⟩ : En) _ rfl (wo.heap.size + 1) (by simp) rfl ?d1 ?d2 ?d3 ?_)
        case d1 => have := hwl.out; have := hm.out; omega
        case d2 => exact bl_alloc HB _
        case d3 => simp; omega
        intro A5 c5 w5 HO5 B5 s5 _
        go_wp2_with fail
        go_roundw
        case rel => exact ⟨k + 1, A5, c5, m + 1, by omega, by rw [hws.out, List.length_append, ← hm.out]; rfl, by go_num, rfl, by rw [hws.out, List.flatMap_append, List.flatMap_singleton]; exact HO5, B5⟩
        case measure => first | (simp [intOf]; done) | (simp [intOf]; omega)
      · have hc : Hid (isK 2 a b ⟨xs, xp, xf, xw⟩ = false) := Lib.hid (by rw [hK.out]; first | exact q2 | (simp [q2]; done) | (simp [q2, q3]; done))
        rw [if_neg (by rw [hc.out]; decide)] at hws
        go_wp2_with (at_builtin; refine app_onef (w0 := w) (f := ev) w.heap.size 4 32 ev_len ev_one (.agg (ea ez)) rfl _ _ 65 58 rfl Try.underlying65 info_r rfl (by decide) (by decide) (.slice A1 m c1) m (without (l.take k) 2 a b) rfl (HO.alloc _) (⟨xs, xp, xf, xw⟩ : En) _ rfl (wo.heap.size + 1) (by simp) rfl ?d1 ?d2 ?d3 ?_)
        case d1 => have := hwl.out; have := hm.out; omega
        case d2 => exact bl_alloc HB _
        case d3 => simp; omega
        intro A5 c5 w5 HO5 B5 s5 _
        go_wp2_with fail
        go_roundw
        case rel => exact ⟨k + 1, A5, c5, m + 1, by omega, by rw [hws.out, List.length_append, ← hm.out]; rfl, by go_num, rfl, by rw [hws.out, List.flatMap_append, List.flatMap_singleton]; exact HO5, B5⟩
        case measure => first | (simp [intOf]; done) | (simp [intOf]; omega)
      · have hc : Hid (isK 2 a b ⟨xs, xp, xf, xw⟩ = true) := Lib.hid (by rw [hK.out]; first | exact q2 | (simp [q2]; done) | (simp [q2, q3]; done))
        rw [if_pos hc.out] at hws
        go_wp2_with fail
        go_roundw
        case rel => exact ⟨k + 1, A1, c1, m, by omega, by rw [hws.out, List.append_nil]; exact hm.out, by go_num, rfl, by rw [hws.out, List.append_nil]; exact HO.alloc _, bl_alloc HB _⟩
        case measure => first | (simp [intOf]; done) | (simp [intOf]; omega)
    · obtain rfl : k = n := by omega
      have hq : decide ((k : Int) < (k : Int)) = false := by simp
      rw [List.take_of_length_le (by rw [hlen.out]; omega)] at HO hm
      subst hm
      go_wp2_with fail
      go_ret
      exact ⟨⟨A1, c1, rfl, HO⟩, HB⟩
theorem tail_eq (l : List En) : l.tail = l.drop 1 := by simp
set_option maxRecDepth 100000 in
set_option maxHeartbeats 2000000 in
theorem rput_c (A : Option Addr) (n c : Nat) (e : En) (l : List En) (w : World) (hr : RF ev 4 w A n l) (hu : Uni l) :
    Calls Try.prog 35 #[.slice A n c, .agg (ea e)] w fun r w' => WoPost w.heap.size (put l e) w w' r := by
  have hn : n ≤ 8 := by rw [← hr.len]; exact hu.1
  have hW := Lib.hid (fun w' h => wo2_c A n c e.s e.p l w' h (by omega))
  rw [without_page] at hW
  have hfl := filter_len l (fun x => !pg e.s e.p x)
  rw [hr.len] at hfl
  have hput : Hid (put l e = cap8 (l.filter (fun x => !pg e.s e.p x)) ++ [e]) := Lib.hid rfl
  have hcl := Lib.hid (cap8_len (l := l.filter (fun x => !pg e.s e.p x)) (by omega))
  generalize l.filter (fun x => !pg e.s e.p x) = L at *
  clear hu
  go_enter Try.func35, Try.ntmps35
  go_wp2_with (first
    | ((with_reducible refine wl_box rfl 58 _ rfl (ea e) rfl ?_); intro w1 k1 b1 s1; have f0 := k1.cellv 0 (.int .i64 e.s) rfl; have f1 := k1.cellv 1 (.int .i64 e.p) rfl))
  refine (hW.out w1 (hr.below b1)).mono ?_
  rintro r w2 ⟨⟨A2, c2, rfl, HO2⟩, b2⟩
  have K2 := k1.below b2
  have B2 := bl_then b1 b2
  have z1 := b1.size
  have z2 := b2.size
  have R2 := RF.of_own ev_len (by decide) HO2
  have hc2 := own_cap HO2
  have hA2 := Lib.hid (own_noneS HO2)
  clear k1 f0 f1 HO2 hr hW
  obtain ⟨N, hN⟩ : ∃ N, L.length = N := ⟨_, rfl⟩
  rw [hN] at R2 hc2 hfl ⊢
  have e0 := K2.cellv 0 (.int .i64 e.s) rfl
  by_cases h8 : N = 8
  · subst h8
    have q : (((8 : Nat) : Int) == 8) = true := by simp
    have hN' := Lib.hid hN
    have hcap : Hid (cap8 L = L.tail) := Lib.hid (by unfold cap8; rw [if_pos hN])
    rw [hcap.out] at hput
    obtain ⟨g, o, rfl, _⟩ := R2.cells (by omega)
    have hcut := R2.cut (c := c2) (by decide) 1 (by omega) hc2
    rw [if_neg (by omega), Option.map_some, Addr.add_mid] at hcut
    have hcut' : RF ev 4 w2 (some ⟨g, o + 4, none⟩) 7 L.tail := by rw [tail_eq]; exact hcut
    have hc1 : ¬ c2 = 1 := by omega
    have q1 : (1 : Int) ≤ (c2 : Int) := by omega
    have q2 : (8 : Int) ≤ (c2 : Int) := by omega
    clear hN e0 R2
    go_wp2_with (at_builtin; (refine app_rf (w0 := w) (f := ev) w.heap.size 4 32 ev_len ev_one (.agg (ea ez)) rfl _ _ 65 58 rfl Try.underlying65 info_r rfl (by decide) (by decide) (.slice none 0 0) 0 [] rfl (own_nilf ev w2 _ _ _) (some ⟨g, o + 4, none⟩) 7 (c2 - 1) L.tail rfl hcut' (fun h => by cases h) (by omega) B2 B2.size ?_))
    intro A3 c3 w3 HO3 B3 s3 G3
    have K3 := K2.grown G3 (fun e => by cases e)
    have e0 := K3.cellv 0 (.int .i64 e.s) rfl
    have e1 := K3.cellv 1 (.int .i64 e.p) rfl
    have e2 := K3.cellv 2 (.int .i64 e.f) rfl
    have e3 := K3.cellv 3 (.bool e.w) rfl
    go_wp2_with (at_builtin; refine app_onef (w0 := w) (f := ev) w.heap.size 4 32 ev_len ev_one (.agg (ea ez)) rfl _ _ 65 58 rfl Try.underlying65 info_r rfl (by decide) (by decide) (.slice A3 7 c3) 7 L.tail rfl HO3 e _ rfl w3.heap.size rfl rfl ?d1 B3 B3.size ?_)
    case d1 => omega
    intro A4 c4 w4 HO4 B4 s4 _
    go_wp2_with fail
    go_ret
    rw [hput.out]
    have hl9 : Hid ((L.tail ++ [e]).length = 7 + 1) := Lib.hid (by rw [List.length_append, List.length_singleton]; have := hN'.out; simp; omega)
    unfold WoPost
    rw [hl9.out]
    exact ⟨⟨A4, c4, rfl, by rw [List.flatMap_append, List.flatMap_singleton]; exact HO4⟩, B4⟩
  · have q : ((N : Int) == 8) = false := by simp; omega
    have hcap : Hid (cap8 L = L) := Lib.hid (cap8_no (by omega))
    rw [hcap.out] at hput
    have hN' := Lib.hid hN
    clear hN h8 e0
    go_wp2_with (at_builtin; refine app_rf (w0 := w) (f := ev) w.heap.size 4 32 ev_len ev_one (.agg (ea ez)) rfl _ _ 65 58 rfl Try.underlying65 info_r rfl (by decide) (by decide) (.slice none 0 0) 0 [] rfl (own_nilf ev w2 _ _ _) A2 N c2 L rfl R2 hA2.out ?d1 B2 ?d3 ?_)
    case d1 => omega
    case d3 => exact B2.size
    intro A3 c3 w3 HO3 B3 s3 G3
    have K3 := K2.grown G3 (fun e => by cases e)
    have e0 := K3.cellv 0 (.int .i64 e.s) rfl
    have e1 := K3.cellv 1 (.int .i64 e.p) rfl
    have e2 := K3.cellv 2 (.int .i64 e.f) rfl
    have e3 := K3.cellv 3 (.bool e.w) rfl
    go_wp2_with (at_builtin; refine app_onef (w0 := w) (f := ev) w.heap.size 4 32 ev_len ev_one (.agg (ea ez)) rfl _ _ 65 58 rfl Try.underlying65 info_r rfl (by decide) (by decide) (.slice A3 N c3) N L rfl HO3 e _ rfl w3.heap.size rfl rfl ?d1 B3 B3.size ?_)
    case d1 => omega
    intro A4 c4 w4 HO4 B4 s4 _
    go_wp2_with fail
    go_ret
    rw [hput.out]
    have hl9 : Hid ((L ++ [e]).length = N + 1) := Lib.hid (by rw [List.length_append, List.length_singleton]; have := hN'.out; simp; omega)
    unfold WoPost
    rw [hl9.out]
    exact ⟨⟨A4, c4, rfl, by rw [List.flatMap_append, List.flatMap_singleton]; exact HO4⟩, B4⟩
end Go.Proofs.Ytdokmnpkihmkpaa.TlbRef
