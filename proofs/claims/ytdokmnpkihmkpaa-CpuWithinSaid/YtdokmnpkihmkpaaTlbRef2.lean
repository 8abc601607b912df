/- Contracts of the reference of layer 5 (asking), and of the law's comparison. -/
import Derived.Test.YtdokmnpkihmkpaaTlbRef
import Derived.Deep.RegionHeld3
set_option linter.unusedVariables false
namespace Go.Proofs.Ytdokmnpkihmkpaa.TlbRef2
open Go.RowKit Go.Proofs.Ytdokmnpkihmkpaa.Base Go.Proofs.Ytdokmnpkihmkpaa.Row Go.Proofs.Ytdokmnpkihmkpaa.App Go.Proofs.Ytdokmnpkihmkpaa.Multi Go.Proofs.Ytdokmnpkihmkpaa.TlbMath Go.Proofs.Ytdokmnpkihmkpaa.Tlb Go.Proofs.Ytdokmnpkihmkpaa.Tlb2 Go.Proofs.Ytdokmnpkihmkpaa.Tlb3 Go.Proofs.Ytdokmnpkihmkpaa.Tlb4 Go.Proofs.Ytdokmnpkihmkpaa.Tlb5 Go.Proofs.Ytdokmnpkihmkpaa.TlbArg Go.Proofs.Ytdokmnpkihmkpaa.TlbRef Go.Proofs.Ytdokmnpkihmkpaa.Flat

theorem zero_r : Try.prog.built 58 [] = some (ea ez) := by kernel_rfl
set_option maxRecDepth 100000 in
set_option maxHeartbeats 2000000 in
theorem rget_c (A : Option Addr) (n c : Nat) (l : List En) (s p : Int) (w : World) (hr : RF ev 4 w A n l) :
    Calls Try.prog 40 #[.slice A n c, .int .i64 s, .int .i64 p] w fun r w' => r = .returned (.tuple #[.agg (ea (getE l s p)), .bool (getB l s p)]) ∧ Below w.heap.size w w' := by
  have hmx := hr.max
  have hlen := Lib.hid hr.len
  have hle := Lib.hid (at_le l s p)
  go_enter Try.func40, Try.ntmps40
  go_wp2_with (first
    | ((with_reducible refine wl_alloc rfl 58 rfl (ea ez) new_r ?_); intro w1 k1 b1 s1))
  have hr1 := hr.below b1
  clear hr
  go_loopw [8] (fun i wr => ∃ j : Nat, j ≤ at_ l s p ∧ i = .int .i64 j ∧ w1 = wr) (fun i _ => n - (intOf i).toNat)
  case atStart => exact ⟨0, by omega, rfl, rfl⟩
  case round =>
    obtain ⟨j, hj, rfl, rfl⟩ := hrel
    by_cases hlt : j < n
    · have hq : decide ((j : Int) < (n : Int)) = true := by simp; omega
      obtain ⟨g, o, x, rfl, hx, hcells⟩ := hr1.at_ j hlt
      obtain ⟨c0, c1, c2, c3⟩ := range4 hcells
      have hx' := Lib.hid hx
      clear hx hcells hr1
      have hnext : Hid (pg s p x = false → j + 1 ≤ at_ l s p) := Lib.hid (fun hh => by
        rcases Nat.lt_or_ge j (at_ l s p) with h | h
        · exact h
        · have e1 : j = at_ l s p := by omega
          have := at_yes (l := l) (s := s) (p := p) x (by rw [← e1]; exact hx'.out)
          rw [this] at hh; cases hh)
      have hstop : Hid (pg s p x = true → getE l s p = x ∧ getB l s p = true) := Lib.hid (fun hh => by
        rcases Nat.lt_or_ge j (at_ l s p) with h | h
        · have := at_no j x h hx'.out
          rw [this] at hh; cases hh
        · have e1 : j = at_ l s p := by omega
          refine ⟨by unfold getE; rw [← e1, hx'.out]; rfl, ?_⟩
          unfold getB
          rw [decide_eq_true_eq, ← e1, hlen.out]; omega)
      have hp : Hid (pg s p x = (x.s == s && x.p == p)) := Lib.hid rfl
      rcases chain2 (x.s == s) (x.p == p) with q | ⟨q1, q⟩ | ⟨q1, q⟩
      · have hn1 := Lib.hid (hnext.out (by rw [hp.out, q]; rfl))
        go_wp2_with fail
        go_roundw
        case rel => exact ⟨j + 1, hn1.out, by go_num, trivial⟩
        case measure => first | (simp [intOf]; done) | (simp [intOf]; omega)
      · have hn1 := Lib.hid (hnext.out (by rw [hp.out, q1, q]; rfl))
        go_wp2_with fail
        go_roundw
        case rel => exact ⟨j + 1, hn1.out, by go_num, trivial⟩
        case measure => first | (simp [intOf]; done) | (simp [intOf]; omega)
      · have hn1 := Lib.hid (hstop.out (by rw [hp.out, q1, q]; rfl))
        go_wp2_with (first
          | ((refine wl_store rfl 58 _ _ rfl w.heap.size rfl (ea x) rfl 58 (ea ez) k1 (size_r _) rfl (ea_one _) ?_); intro w3 k3 g3 s3))
        refine bodyPost_ret (res_cell_tmp rfl _ _ _ w.heap.size 58 (ea x) _ rfl k3 Try.underlying58 rfl (size_r _)) rfl ⟨?_, below_grown b1 b1.size g3 (Nat.le_refl _)⟩
        rw [hn1.out.1, hn1.out.2]; rfl
    · have hq : decide ((j : Int) < (n : Int)) = false := by simp; omega
      have hno : Hid (getE l s p = ez ∧ getB l s p = false) := Lib.hid (by
        have h1 := hle.out
        have h2 := hlen.out
        exact ⟨getE_no (by omega), by unfold getB; rw [decide_eq_false_iff_not]; omega⟩)
      go_wp2_with (first
        | (with_reducible refine wl_build0 rfl 58 rfl (ea ez) zero_r ?_)
        | ((refine wl_store rfl 58 _ _ rfl w.heap.size rfl (ea ez) rfl 58 (ea ez) k1 (size_r _) rfl (ea_one _) ?_); intro w3 k3 g3 s3))
      refine bodyPost_ret (res_cell_tmp rfl _ _ _ w.heap.size 58 (ea ez) _ rfl k3 Try.underlying58 rfl (size_r _)) rfl ⟨?_, below_grown b1 b1.size g3 (Nat.le_refl _)⟩
      rw [hno.out.1, hno.out.2]; rfl

set_option maxRecDepth 100000 in
set_option maxHeartbeats 4000000 in
theorem same_c (g : Nat) (l : List En) (m : Int) (A : Option Addr) (n c : Nat) (w : World) (h : Tl w g l m) (hl : l.length ≤ 8) (hr : RF ev 4 w A n l) :
    Calls Try.prog 41 #[.pointer (some ⟨g, 0, none⟩), .slice A n c] w fun r w' => r = .returned (.bool true) ∧ Below w.heap.size w w' := by
  have hlen := hr.len
  have hA := Lib.hid (all_c g l m w h hl)
  have hE := Lib.hid (fun x w' => entry_c x w')
  rw [hlen] at hA
  have hn8 : n ≤ 8 := by omega
  have hln := Lib.hid hlen
  clear h hl hlen
  go_enter Try.func41, Try.ntmps41
  go_wp2_with fail
  refine (hA.out).mono ?_
  rintro r w1 ⟨⟨A1, c1, rfl, HO⟩, b1⟩
  have R1 := RF.of_own ev_len (by decide) HO
  have R2 := hr.below b1
  clear HO hr
  have q : ((n : Int) != (n : Int)) = false := by simp
  go_wp2_with fail
  go_loopw [6] (fun i wr => ∃ k : Nat, k ≤ n ∧ i = .int .i64 k ∧ Below w1.heap.size w1 wr) (fun i _ => n - (intOf i).toNat)
  case atStart => exact ⟨0, by omega, rfl, bl_refl _⟩
  case round =>
    obtain ⟨k, hk, rfl, HB⟩ := hrel
    obtain ⟨wo, rfl⟩ : ∃ wo : World, wo = wr := ⟨_, rfl⟩
    by_cases hlt : k < n
    · have hq : decide ((k : Int) < (n : Int)) = true := by simp; omega
      have hq1 : (k : Int) < (n : Int) := by omega
      obtain ⟨g1, o1, x, rfl, hx, hc1⟩ := (R1.below HB).at_ k hlt
      obtain ⟨g2, o2, x', rfl, hx', hc2⟩ := (R2.below HB).at_ k hlt
      obtain rfl : x' = x := by
        rw [hx] at hx'
        injection hx' with h
        exact h.symm
      obtain ⟨xs, xp, xf, xw⟩ := x'
      have hEx0 : ∀ w', Calls Try.prog 31 #[.agg #[.int .i64 xs, .int .i64 xp, .int .i64 xf, .bool xw]] w' fun r w'' => r = .returned (.agg #[.int .i64 xs, .int .i64 xp, .int .i64 xf, .bool xw]) ∧ Below w'.heap.size w' w'' := fun w' => hE.out ⟨xs, xp, xf, xw⟩ w'
      have hEx := Lib.hid hEx0
      clear hEx0
      have C1 := Lib.hid hc1
      have C2 := Lib.hid hc2
      have HX := bl_drew HB
      have hbd := bl_drew (bl_refl wo)
      obtain ⟨c0, c1, c2, c3⟩ := range4 (range_below hbd C1.out)
      obtain ⟨d0, d1, d2, d3⟩ := range4 (range_below hbd C2.out)
      simp only at c0 c1 c2 c3 d0 d1 d2 d3
      clear hx hx' hc1 hc2
      go_wp2_with fail
      go_region_held3 (fun w' => (w'.cell? ⟨g1, o1 + k * 4, none⟩ = some (.int .i64 xs) ∧ w'.cell? ⟨g1, o1 + k * 4 + 1, none⟩ = some (.int .i64 xp) ∧ w'.cell? ⟨g1, o1 + k * 4 + 2, none⟩ = some (.int .i64 xf) ∧ w'.cell? ⟨g1, o1 + k * 4 + 3, none⟩ = some (.bool xw)) ∧ w'.cell? ⟨g2, o2 + k * 4, none⟩ = some (.int .i64 xs) ∧ w'.cell? ⟨g2, o2 + k * 4 + 1, none⟩ = some (.int .i64 xp) ∧ w'.cell? ⟨g2, o2 + k * 4 + 2, none⟩ = some (.int .i64 xf) ∧ w'.cell? ⟨g2, o2 + k * 4 + 3, none⟩ = some (.bool xw))
        (first
          | exact ⟨range4 (range_below hbd C1.out), range4 (range_below hbd C2.out)⟩
          | go_keep)
        (first
          | (go_at_call 31; refine (hEx.out _).mono ?_; rintro r wa ⟨rfl, ba⟩; have hbd := bl_then hbd ba; have HX := bl_then HX ba))
      all_goals (
        go_wp2_with fail
        go_roundw
        case rel => exact ⟨k + 1, by omega, by go_num, HX⟩
        case measure => first | (simp [intOf]; done) | (simp [intOf]; omega))
    · have hq : decide ((k : Int) < (n : Int)) = false := by simp; omega
      go_wp2_with fail
      go_ret
      exact ⟨rfl, bl_then b1 HB⟩
end Go.Proofs.Ytdokmnpkihmkpaa.TlbRef2
