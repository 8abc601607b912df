/- Contracts of package abort: copies, where a want stands; the reference's search. -/
import Derived.Test.YtcomgmgmpmjnkaaAbort
set_option linter.unusedVariables false
namespace Go.Proofs.Ytcomgmgmpmjnkaa.Abort2
open Go.RowKit Go.Proofs.Ytcomgmgmpmjnkaa.Base Go.Proofs.Ytcomgmgmpmjnkaa.Row Go.Proofs.Ytcomgmgmpmjnkaa.App Go.Proofs.Ytcomgmgmpmjnkaa.Multi Go.Proofs.Ytcomgmgmpmjnkaa.AbortMath Go.Proofs.Ytcomgmgmpmjnkaa.Abort

theorem info_want : (Try.prog.info? 73).map (fun i => (i.zero, i.size, i.bytes)) = some (some (.agg (wa ⟨0, 0, 0, 0⟩)), 4, 32) := by kernel_rfl
theorem info_rwant : (Try.prog.info? 64).map (fun i => (i.zero, i.size, i.bytes)) = some (some (.agg (wa ⟨0, 0, 0, 0⟩)), 4, 32) := by kernel_rfl

/-- Four cells of a want. -/
theorem range4 {w : World} {g o : Nat} {x : Wt} (h : w.rangeAt g o (wv x)) : w.cell? ⟨g, o, none⟩ = some (.int .i64 x.e) ∧ w.cell? ⟨g, o + 1, none⟩ = some (.int .i64 x.k) ∧ w.cell? ⟨g, o + 2, none⟩ = some (.int .i64 x.n) ∧ w.cell? ⟨g, o + 3, none⟩ = some (.int .i64 x.l) :=
  ⟨h 0 _ rfl, h 1 _ rfl, h 2 _ rfl, h 3 _ rfl⟩

def ClonePost (B : Nat) (l : List Wt) (n : Nat) (w w' : World) (r : Ending) : Prop := (∃ A1 c1, r = .returned (.slice A1 n c1) ∧ w'.ownsRow B 73 4 (.slice A1 n c1) n (l.flatMap wv)) ∧ Below w.heap.size w w'
set_option maxRecDepth 100000 in
theorem clone_c (B : Nat) (A : Option Addr) (n c : Nat) (l : List Wt) (w : World) (hr : RF wv 4 w A n l) (hA : A = none → c = 0) (hn : n ≤ 1000000000) (hB : B ≤ w.heap.size) :
    Calls Try.prog 64 #[.slice A n c] w fun r w' => ClonePost B l n w w' r := by
  cases A with
  | none =>
    obtain rfl : c = 0 := hA rfl
    obtain rfl : n = 0 := by
      rcases Nat.eq_zero_or_pos n with hm | hm
      · exact hm
      · obtain ⟨g, o, e', _⟩ := hr.cells hm
        cases e'
    obtain rfl : l = [] := List.length_eq_zero_iff.1 hr.len
    clear hr hA
    have hnil := Lib.run_eql_slice_nil (P := Try.prog) w 65 73 none 0 0 0 0 Try.underlying65
    go_enter Try.func64, Try.ntmps64
    go_wp2
    go_ret
    exact ⟨⟨none, 0, rfl, own_nil _ _ _ _⟩, bl_refl _⟩
  | some ad =>
    have hA' := Lib.hid hA
    clear hA
    have hnil := Lib.run_eql_slice_nil (P := Try.prog) w 65 73 (some ad) n c 0 0 Try.underlying65
    have HO := World.ownsRow_lit (base := w.heap.size) w #[] 0 (e := 73) (size := 4) (Nat.le_refl _) (by simp [maxLen]) rfl
    have B1 := bl_alloc (bl_refl w) (.cells #[] 73)
    have hr1 := hr.below B1
    clear hr
    go_enter Try.func64, Try.ntmps64
    go_wp2_with (at_builtin; refine app_rf (w0 := w) (f := wv) w.heap.size 4 32 wv_len wv_one (.agg (wa ⟨0, 0, 0, 0⟩)) rfl _ _ 65 73 rfl Try.underlying65 info_want rfl (by decide) (by decide) (.slice (some ⟨w.heap.size, 0, none⟩) 0 0) 0 [] rfl HO (some ad) n c l rfl hr1 hA'.out ?d1 B1 ?d3 ?_)
    case d1 => omega
    intro A3 c3 w5 HO5 B5 s5 _
    go_wp2
    go_ret
    exact ⟨⟨A3, c3, rfl, own_mono (by simpa using HO5) hB⟩, B5⟩

def wI (n m : Nat) : Int := if m < n then (m : Int) else -1
set_option maxRecDepth 100000 in
set_option maxHeartbeats 1000000 in
theorem index_c (A : Option Addr) (n c : Nat) (l : List Wt) (e k nm : Int) (b1 b2 b3 : Nat) (w : World) (hr : RF wv 4 w A n l)
    (h1 : w.cell? ⟨b1, 0, none⟩ = some (.int .i64 e)) (h2 : w.cell? ⟨b2, 0, none⟩ = some (.int .i64 k)) (h3 : w.cell? ⟨b3, 0, none⟩ = some (.int .i64 nm)) :
    Calls Try.prog 82 #[.slice A n c, .func (.func 83) #[] #[.pointer (some ⟨b1, 0, none⟩), .pointer (some ⟨b2, 0, none⟩), .pointer (some ⟨b3, 0, none⟩)]] w fun r w' => r = .returned (.int .i64 (wI n (at_ l e k nm))) ∧ Below w.heap.size w w' := by
  have hmx := hr.max
  have hlen := Lib.hid hr.len
  have hle := Lib.hid (at_le l e k nm)
  have hH := Lib.hid (fun (x : Wt) (w' : World) (hb : Below w.heap.size w w') => hit_c x e k nm b1 b2 b3 w' (bl_cell hb h1) (bl_cell hb h2) (bl_cell hb h3))
  clear h1 h2 h3
  go_enter Try.func82, Try.ntmps82
  go_wp2
  go_loopw [8] (fun i wr => ∃ j : Nat, j ≤ at_ l e k nm ∧ i = .int .i64 j ∧ Below w.heap.size w wr) (fun i _ => n - (intOf i).toNat)
  case atStart => exact ⟨0, by omega, rfl, bl_refl _⟩
  case round =>
    obtain ⟨j, hj, rfl, HB⟩ := hrel
    obtain ⟨wo, rfl⟩ : ∃ wo : World, wo = wr := ⟨_, rfl⟩
    by_cases hlt : j < n
    · have hq : decide ((j : Int) < (n : Int)) = true := by simp; omega
      obtain ⟨g, o, x, rfl, hx, hcells⟩ := (hr.below HB).at_ j hlt
      obtain ⟨c0, c1, c2, c3⟩ := range4 hcells
      have hx' := Lib.hid hx
      clear hx hcells
      cases hh : hit e k nm x with
      | true =>
        have hfin : Hid (j = at_ l e k nm) := Lib.hid (by
          rcases Nat.lt_or_ge j (at_ l e k nm) with h | h
          · have := at_no j x h hx'.out
            rw [this] at hh; cases hh
          · omega)
        have hC := Lib.hid (hH.out x wo HB)
        rw [hh] at hC
        clear hh
        go_wp2_with fail
        refine (hC.out).mono ?_
        rintro r w1 ⟨rfl, bx⟩
        go_wp2
        go_ret
        refine ⟨ret_int ?_, bl_then HB bx⟩
        rw [← hfin.out]
        simp [wI, hlt]
      | false =>
        have hfin : Hid (j + 1 ≤ at_ l e k nm) := Lib.hid (by
          rcases Nat.lt_or_ge j (at_ l e k nm) with h | h
          · exact h
          · have e1 : j = at_ l e k nm := by omega
            have := at_yes (l := l) (e := e) (k := k) (n := nm) x (by rw [← e1]; exact hx'.out)
            rw [this] at hh; cases hh)
        have hC := Lib.hid (hH.out x wo HB)
        rw [hh] at hC
        clear hh
        go_wp2_with fail
        refine (hC.out).mono ?_
        rintro r w1 ⟨rfl, bx⟩
        go_wp2
        go_roundw
        case rel => exact ⟨j + 1, hfin.out, by go_num, bl_then HB bx⟩
        case measure => first | (simp [intOf]; done) | (simp [intOf]; omega)
    · have hq : decide ((j : Int) < (n : Int)) = false := by simp; omega
      have hfin : Hid (at_ l e k nm = n) := Lib.hid (by have := hle.out; have := hlen.out; omega)
      go_wp2
      go_ret
      refine ⟨ret_int ?_, HB⟩
      rw [hfin.out]
      simp [wI]

set_option maxRecDepth 100000 in
theorem at_c (A : Option Addr) (n c : Nat) (l : List Wt) (e k nm : Int) (w : World) (hr : RF wv 4 w A n l) :
    Calls Try.prog 63 #[.agg #[.slice A n c], .int .i64 e, .int .i64 k, .int .i64 nm] w fun r w' => r = .returned (.int .i64 (wI n (at_ l e k nm))) ∧ Below w.heap.size w w' := by
  have B1 : Below w.heap.size w ((((w.alloc (.cells #[.slice A n c] 67)).alloc (.cells #[.int .i64 e] 3)).alloc (.cells #[.int .i64 k] 3)).alloc (.cells #[.int .i64 nm] 3)) := bl_alloc (bl_alloc (bl_alloc (bl_alloc (bl_refl w) _) _) _) _
  have hI := Lib.hid (fun b1 b2 b3 h1 h2 h3 => index_c A n c l e k nm b1 b2 b3 _ (hr.below B1) h1 h2 h3)
  clear hr
  go_enter Try.func63, Try.ntmps63
  go_wp2_with fail
  refine (hI.out _ _ _ (by go_simp) (by go_simp) (by go_simp)).mono ?_
  rintro r w1 ⟨rfl, bx⟩
  go_wp2
  go_ret
  exact ⟨rfl, bl_then B1 bx⟩

set_option maxRecDepth 100000 in
theorem all_c (B : Nat) (A : Option Addr) (n c : Nat) (l : List Wt) (w : World) (hr : RF wv 4 w A n l) (hA : A = none → c = 0) (hn : n ≤ 1000000000) (hB : B ≤ w.heap.size) :
    Calls Try.prog 29 #[.agg #[.slice A n c]] w fun r w' => ClonePost B l n w w' r := by
  have B1 := bl_alloc (bl_refl w) (.cells #[.slice A n c] 67)
  have hC := Lib.hid (clone_c B A n c l _ (hr.below B1) hA hn (by have := B1.size; omega))
  clear hr hA
  go_enter Try.func29, Try.ntmps29
  go_wp2_with fail
  refine (hC.out).mono ?_
  rintro r w1 ⟨⟨A1, c1, rfl, HO⟩, bx⟩
  go_wp2
  go_ret
  exact ⟨⟨A1, c1, rfl, HO⟩, bl_then B1 bx⟩

set_option maxRecDepth 100000 in
set_option maxHeartbeats 1000000 in
theorem has_c (A : Option Addr) (n c : Nat) (l : List Wt) (e k nm : Int) (w : World) (hr : RF wv 4 w A n l) :
    Calls Try.prog 66 #[.slice A n c, .int .i64 e, .int .i64 k, .int .i64 nm] w fun r w' => r = .returned (.bool (has l e k nm)) ∧ w = w' := by
  have hmx := hr.max
  have hlen := Lib.hid hr.len
  have hle := Lib.hid (at_le l e k nm)
  have hfin : Hid (has l e k nm = decide (at_ l e k nm < n)) := Lib.hid (by rw [at_has, hr.len])
  go_enter Try.func66, Try.ntmps66
  go_wp2
  go_loopw [9] (fun i wr => ∃ j : Nat, j ≤ at_ l e k nm ∧ i = .int .i64 j ∧ w = wr) (fun i _ => n - (intOf i).toNat)
  case atStart => exact ⟨0, by omega, rfl, rfl⟩
  case round =>
    obtain ⟨j, hj, rfl, rfl⟩ := hrel
    by_cases hlt : j < n
    · have hq : decide ((j : Int) < (n : Int)) = true := by simp; omega
      obtain ⟨g, o, x, rfl, hx, hcells⟩ := hr.at_ j hlt
      obtain ⟨c0, c1, c2, c3⟩ := range4 hcells
      have hx' := Lib.hid hx
      have hhit : Hid (hit e k nm x = (x.e == e && (x.k == k && x.n == nm))) := Lib.hid (by simp [hit, Bool.and_assoc])
      clear hx hcells hr
      have hnext : Hid (hit e k nm x = false → j + 1 ≤ at_ l e k nm) := Lib.hid (fun hh => by
        rcases Nat.lt_or_ge j (at_ l e k nm) with h | h
        · exact h
        · have e1 : j = at_ l e k nm := by omega
          have := at_yes (l := l) (e := e) (k := k) (n := nm) x (by rw [← e1]; exact hx'.out)
          rw [this] at hh; cases hh)
      have hstop : Hid (hit e k nm x = true → has l e k nm = true) := Lib.hid (fun hh => by
        rw [hfin.out, decide_eq_true_eq]
        rcases Nat.lt_or_ge j (at_ l e k nm) with h | h
        · have := at_no j x h hx'.out
          rw [this] at hh; cases hh
        · omega)
      obtain ⟨xe, xk, xn, xl⟩ := x
      simp only at c0 c1 c2 c3 hhit
      rcases chain3 (xe == e) (xk == k) true with q | ⟨q1, q⟩ | ⟨q1, q⟩
      · have hn1 := Lib.hid (hnext.out (by rw [hhit.out, q]; rfl))
        go_wp2
        go_roundw
        case rel => exact ⟨j + 1, hn1.out, by go_num, trivial⟩
        case measure => first | (simp [intOf]; done) | (simp [intOf]; omega)
      · have hn1 := Lib.hid (hnext.out (by rw [hhit.out, q1, q]; rfl))
        go_wp2
        go_roundw
        case rel => exact ⟨j + 1, hn1.out, by go_num, trivial⟩
        case measure => first | (simp [intOf]; done) | (simp [intOf]; omega)
      · cases q2 : (xn == nm) with
        | false =>
          have hn1 := Lib.hid (hnext.out (by rw [hhit.out, q1, q, q2]; rfl))
          go_wp2
          go_roundw
          case rel => exact ⟨j + 1, hn1.out, by go_num, trivial⟩
          case measure => first | (simp [intOf]; done) | (simp [intOf]; omega)
        | true =>
          have hn1 := Lib.hid (hstop.out (by rw [hhit.out, q1, q, q2]; rfl))
          go_wp2
          go_ret
          exact ⟨ret_bool hn1.out.symm, rfl⟩
    · have hq : decide ((j : Int) < (n : Int)) = false := by simp; omega
      have hno : Hid (has l e k nm = false) := Lib.hid (by rw [hfin.out, decide_eq_false_iff_not]; have := hle.out; have := hlen.out; omega)
      go_wp2
      go_ret
      exact ⟨ret_bool hno.out.symm, rfl⟩
end Go.Proofs.Ytcomgmgmpmjnkaa.Abort2
