/- Contracts of package tlb: asking, laying, dropping, telling. -/
import Derived.Test.YtdokmnpkihmkpaaTlb2
set_option linter.unusedVariables false
namespace Go.Proofs.Ytdokmnpkihmkpaa.Tlb3
open Go.RowKit Go.Proofs.Ytdokmnpkihmkpaa.Base Go.Proofs.Ytdokmnpkihmkpaa.Row Go.Proofs.Ytdokmnpkihmkpaa.App Go.Proofs.Ytdokmnpkihmkpaa.Multi Go.Proofs.Ytdokmnpkihmkpaa.TlbMath Go.Proofs.Ytdokmnpkihmkpaa.Tlb Go.Proofs.Ytdokmnpkihmkpaa.Tlb2

theorem wI_yes {n m : Nat} (h : m < n) : decide (wI n m < 0) = false ∧ decide (0 ≤ wI n m) = true ∧ wI n m = (m : Int) := by simp [wI, h]
theorem wI_no {n m : Nat} (h : ¬ m < n) : decide (wI n m < 0) = true ∧ decide (0 ≤ wI n m) = false := by simp [wI, h]

/-- What is told of a page. -/
def getE (l : List En) (s p : Int) : En := l[at_ l s p]?.getD ez
def getB (l : List En) (s p : Int) : Bool := decide (at_ l s p < l.length)
def getM (l : List En) (s p m : Int) : Int := if at_ l s p < l.length then m else wrap64 (m + 1)
theorem getE_no {l : List En} {s p : Int} (h : ¬ at_ l s p < l.length) : getE l s p = ez := by
  unfold getE
  rw [List.getElem?_eq_none (by omega)]; rfl

set_option maxRecDepth 100000 in
set_option maxHeartbeats 2000000 in
theorem get_c (g : Nat) (l : List En) (m s p : Int) (w : World) (h : Tl w g l m) (hl : l.length ≤ 8) :
    Calls Try.prog 39 #[.pointer (some ⟨g, 0, none⟩), .int .i64 s, .int .i64 p] w fun r w' => r = .returned (.tuple #[.agg (ea (getE l s p)), .bool (getB l s p)]) ∧ Tl w' g l (getM l s p m) ∧ w.grownBy w' (some g) := by
  have hh := Lib.hid h
  have hF := Lib.hid (fun w (h : Tl w g l m) => find_c g l m s p w h hl)
  have hll := Lib.hid hl
  have hgl := h.lt
  clear h
  by_cases hat : at_ l s p < l.length
  · obtain ⟨q1, _, q3⟩ := wI_yes hat
    have hx : l[at_ l s p]? = some (getE l s p) := by
      unfold getE
      rw [List.getElem?_eq_getElem hat]; rfl
    have hr : Hid (getB l s p = true ∧ getM l s p m = m) := Lib.hid ⟨by simp [getB, hat], by simp [getM, hat]⟩
    rw [hr.out.1, hr.out.2]
    have hxx := Lib.hid hx
    obtain ⟨j, hj⟩ : ∃ j, at_ l s p = j := ⟨_, rfl⟩
    rw [hj] at q1 q3 hF hxx
    have hj8 : j < 8 := by rw [hj] at hat; omega
    have hj8' : (j : Int) < 8 := by omega
    rw [q3] at q1 hF
    generalize getE l s p = x at *
    clear hx hat hr hj q3 hl
    go_enter Try.func39, Try.ntmps39
    go_wp2_with (first
      | ((with_reducible refine wl_alloc rfl 52 rfl (ea ez) new_e ?_); intro w1 k1 b1 s1))
    have h1 := Lib.hid (hh.out.below b1)
    refine (hF.out _ h1.out).mono ?_
    rintro r w2 ⟨rfl, b2⟩
    have h2 := h1.out.below b2
    have K2 := k1.below b2
    have B2 := bl_then b1 b2
    obtain ⟨c0, c1, c2, c3⟩ := range4 (tl_at h2 hxx.out)
    have hh2 := Lib.hid h2
    clear h2 k1
    go_wp2_with (first
      | ((refine wl_store rfl 52 _ _ rfl w.heap.size rfl (ea x) rfl 52 (ea ez) K2 (size_ea _) rfl (ea_one _) ?_); intro w3 k3 g3 s3))
    refine bodyPost_ret (res_cell_tmp rfl _ _ _ w.heap.size 52 (ea x) _ rfl k3 Try.underlying52 rfl (size_ea _)) rfl ⟨rfl, ?_, ?_⟩
    · exact hh2.out.grown g3 (fun e => by injection e with e; omega)
    · exact grown_of_below (below_grown B2 B2.size g3 (Nat.le_refl _)) _
  · obtain ⟨q1, _⟩ := wI_no hat
    have hr : Hid (getE l s p = ez ∧ getB l s p = false ∧ getM l s p m = wrap64 (m + 1)) := Lib.hid ⟨getE_no hat, by simp [getB, hat], by simp [getM, hat]⟩
    rw [hr.out.1, hr.out.2.1, hr.out.2.2]
    have hsz : Hid (33 < (t8 (pad l) l.length m).size) := Lib.hid (by rw [t8_size (pad_len hl)]; omega)
    have hpl := Lib.hid (pad_len hl)
    have hm := Lib.hid (tc_m hl m)
    generalize wI l.length (at_ l s p) = y at *
    clear hat hr hl
    go_enter Try.func39, Try.ntmps39
    go_wp2_with (first
      | ((with_reducible refine wl_alloc rfl 52 rfl (ea ez) new_e ?_); intro w1 k1 b1 s1))
    have h1 := Lib.hid (hh.out.below b1)
    refine (hF.out _ h1.out).mono ?_
    rintro r w2 ⟨rfl, b2⟩
    have h2 := h1.out.below b2
    have K2 := k1.below b2
    have B2 := bl_then b1 b2
    have c0 := Blk.cellv h2 33 _ hm.out
    have hh2 := Lib.hid h2
    clear h2 k1
    go_wp2_with (first
      | ((refine wl_set rfl 3 _ _ rfl g 33 rfl (.int .i64 (wrap64 (m + 1))) rfl rfl 55 (t8 (pad l) l.length m) hh2.out size_i hsz.out ?_); intro w3 k3 g3 s3; have K3 := K2.grown g3 (fun e => by injection e with e; omega))
      | ((refine wl_store rfl 52 _ _ rfl w.heap.size rfl (ea ez) rfl 52 (ea ez) K3 (size_ea _) rfl (ea_one _) ?_); intro w4 k4 g4 s4))
    rw [t8_setm hpl.out] at k3
    refine bodyPost_ret (res_cell_tmp rfl _ _ _ w.heap.size 52 (ea ez) _ rfl k4 Try.underlying52 rfl (size_ea _)) rfl ⟨rfl, ?_, ?_⟩
    · exact Blk.grown k3 g4 (fun e => by injection e with e; omega)
    · have hg2 := World.grownBy.trans (grown_of_below B2 (some g)) g3
      refine ⟨g4.os.trans hg2.os, g4.tape.trans hg2.tape, g4.output.trans hg2.output, Nat.le_trans hg2.size g4.size, fun k hk hne => (g4.block k (Nat.lt_of_lt_of_le hk hg2.size) (fun e => ?_)).trans (hg2.block k hk hne)⟩
      injection e with e
      omega

set_option maxRecDepth 100000 in
theorem misses_c (g : Nat) (l : List En) (m : Int) (w : World) (h : Tl w g l m) (hl : l.length ≤ 8) :
    Calls Try.prog 42 #[.pointer (some ⟨g, 0, none⟩)] w fun r w' => r = .returned (.int .i64 m) ∧ w = w' := by
  have c0 := Blk.cellv h 33 _ (tc_m hl m)
  clear h
  go_enter Try.func42, Try.ntmps42
  go_wp2
  go_ret
  exact ⟨rfl, rfl⟩

theorem info_e : (Try.prog.info? 52).map (fun i => (i.zero, i.size, i.bytes)) = some (some (.agg (ea ez)), 4, 32) := by kernel_rfl
def ClonePost (l : List En) (n : Nat) (w w' : World) (r : Ending) : Prop := (∃ A1 c1, r = .returned (.slice A1 n c1) ∧ w'.ownsRow w.heap.size 52 4 (.slice A1 n c1) n (l.flatMap ev)) ∧ Below w.heap.size w w'
set_option maxRecDepth 100000 in
theorem clone_c (g : Nat) (n c : Nat) (l : List En) (w : World) (hr : RF ev 4 w (some ⟨g, 0, none⟩) n l) (hn : n ≤ 1000000000) :
    Calls Try.prog 61 #[.slice (some ⟨g, 0, none⟩) n c] w fun r w' => ClonePost l n w w' r := by
  have hnil := Lib.run_eql_slice_nil (P := Try.prog) w 61 52 (some ⟨g, 0, none⟩) n c 0 0 Try.underlying61
  have HO := World.ownsRow_lit (base := w.heap.size) w #[] 0 (e := 52) (size := 4) (Nat.le_refl _) (by simp [maxLen]) rfl
  have B1 := bl_alloc (bl_refl w) (.cells #[] 52)
  have hr1 := hr.below B1
  clear hr
  go_enter Try.func61, Try.ntmps61
  go_wp2_with (at_builtin; refine app_rf (w0 := w) (f := ev) w.heap.size 4 32 ev_len ev_one (.agg (ea ez)) rfl _ _ 61 52 rfl Try.underlying61 info_e rfl (by decide) (by decide) (.slice (some ⟨w.heap.size, 0, none⟩) 0 0) 0 [] rfl HO (some ⟨g, 0, none⟩) n c l rfl hr1 (fun h => by cases h) ?d1 B1 ?d3 ?_)
  case d1 => omega
  intro A3 c3 w5 HO5 B5 s5 _
  go_wp2
  go_ret
  exact ⟨⟨A3, c3, rfl, by simpa using HO5⟩, B5⟩
set_option maxRecDepth 100000 in
theorem all_c (g : Nat) (l : List En) (m : Int) (w : World) (h : Tl w g l m) (hl : l.length ≤ 8) :
    Calls Try.prog 32 #[.pointer (some ⟨g, 0, none⟩)] w fun r w' => ClonePost l l.length w w' r := by
  have hr := tl_rf h hl
  have c := Blk.cellv h 32 _ (tc_n hl m)
  have hC := Lib.hid (clone_c g l.length 8 l w.drew (hr.below (bl_drew (bl_refl w))) (by omega))
  have hC2 := Lib.hid (clone_c g l.length 8 l w hr (by omega))
  generalize l.length = n at *
  clear hr h
  have q1 : (0 : Int) ≤ (n : Int) := by omega
  have q2 : (n : Int) ≤ 8 := by omega
  go_enter Try.func32, Try.ntmps32
  go_wp2_with fail
  refine wp_region_still_tail 8 (by kernel_rfl) (by kernel_rfl) ?_
  simp only [List.take_succ_cons, List.take_zero, List.drop_succ_cons, List.drop_zero]
  repeat still_step
  refine wpStill_nil ?_
  change wpList _ _ _ _ _ w.drew
  go_wp2_with fail
  refine (hC.out).mono ?_
  rintro r w1 ⟨⟨A1, c1, rfl, HO⟩, b1⟩
  go_wp2
  go_ret
  exact ⟨⟨A1, c1, rfl, HO⟩, bl_then (bl_drew (bl_refl w)) b1⟩

theorem grown_own2 {w w1 w2 : World} {g : Nat} (h : w.grownBy w1 (some g)) (k : w1.grownBy w2 (some g)) (hg : g < w.heap.size) : w.grownBy w2 (some g) := World.grownBy.trans h k
theorem cap8_no {l : List En} (h : ¬ l.length = 8) : cap8 l = l := by simp [cap8, h]
theorem cap8_yes {l : List En} (h : l.length = 8) : cap8 l = l.eraseIdx 0 := by
  unfold cap8
  rw [if_pos h]
  cases l <;> rfl

set_option maxRecDepth 100000 in
set_option maxHeartbeats 4000000 in
theorem put_c (g : Nat) (l : List En) (m : Int) (e : En) (w : World) (h : Tl w g l m) (hu : Uni l) :
    Calls Try.prog 30 #[.pointer (some ⟨g, 0, none⟩), .agg (ea e)] w fun r w' => r = .returned (.tuple #[]) ∧ Tl w' g (put l e) m ∧ w.grownBy w' (some g) := by
  have hl := hu.1
  have hh := Lib.hid h
  have hF := Lib.hid (fun w (h : Tl w g l m) => find_c g l m e.s e.p w h hl)
  have hgl := h.lt
  have hcut := Lib.hid (fun (L : List En) i w (h : Tl w g L m) hl hi => cut_c g L m i w h hl hi)
  have her := Lib.hid (erase_at hu e.s e.p)
  clear h
  by_cases hat : at_ l e.s e.p < l.length
  · obtain ⟨_, q2, q3⟩ := wI_yes hat
    rw [q3] at q2 hF
    have hlen1 : (l.eraseIdx (at_ l e.s e.p)).length ≤ 7 := by rw [List.length_eraseIdx_of_lt hat]; omega
    have hput : Hid (put l e = l.eraseIdx (at_ l e.s e.p) ++ [e]) := Lib.hid (by
      unfold put
      rw [← her.out, cap8_no (by omega)])
    have hat' := Lib.hid hat
    clear q3 hat her
    generalize at_ l e.s e.p = j at *
    obtain ⟨L, hL⟩ : ∃ L, l.eraseIdx j = L := ⟨_, rfl⟩
    rw [hL] at hput hlen1
    have hL' := Lib.hid hL
    clear hL
    obtain ⟨nn, hn⟩ : ∃ n, (L).length = n := ⟨_, rfl⟩
    have hnn : nn ≤ 7 := by omega
    have hn' := Lib.hid hn
    have hpl : Hid ((pad (L ++ [e])).length = 8) := Lib.hid (pad_len (by rw [List.length_append, hn]; simp; omega))
    have hsz : Hid (nn * 4 + (ea e).size ≤ (tc (L) m).size) := Lib.hid (by rw [tc_size (by omega)]; show nn * 4 + 4 ≤ 34; omega)
    have hlay : Hid (lay (tc (L) m) (nn * 4) (ea e).toList = t8 (pad (L ++ [e])) nn m) := Lib.hid (by
      have := t8_lay (M := [e]) (pad_len (l := L) (by omega)) nn (nn : Int) m (by show nn + 1 ≤ 8; omega)
      rw [show ([e].flatMap ev) = (ea e).toList from rfl] at this
      rw [tc_t8, hn, this, List.length_singleton, set_as_lay nn e (by rw [pad_len (by omega)]; omega), ← hn, push_pad (by omega)])
    go_enter Try.func30, Try.ntmps30
    go_wp2_with (first
      | ((with_reducible refine wl_box rfl 52 _ rfl (ea e) rfl ?_); intro w1 k1 b1 s1; have f0 := k1.cellv 0 (.int .i64 e.s) rfl; have f1 := k1.cellv 1 (.int .i64 e.p) rfl))
    have h1 := Lib.hid (hh.out.below b1)
    refine (hF.out _ h1.out).mono ?_
    rintro r w2 ⟨rfl, b2⟩
    have h2 := Lib.hid (h1.out.below b2)
    have K2 := k1.below b2
    have B2 := bl_then b1 b2
    have HG : w.grownBy w2 (some g) := grown_of_below B2 _
    clear k1 f0 f1
    go_wp2_with fail
    refine (hcut.out l j w2 h2.out hl hat'.out).mono ?_
    rintro r w3 ⟨rfl, h3', g3⟩
    rw [hL'.out] at h3'
    have h3 := Lib.hid h3'
    have K3 := K2.grown g3 (fun e => by injection e with e; omega)
    have HG := World.grownBy.trans HG g3
    have c3 := Blk.cellv h3.out 32 _ (tc_n (l := L) (by omega) m)
    rw [hn'.out] at c3
    have q4 : ((nn : Int) == 8) = false := by simp; omega
    clear h3' hn
    go_wp2_with fail
    clear c3 q4
    have e0 := (K3.drew).cellv 0 (.int .i64 e.s) rfl
    have e1 := (K3.drew).cellv 1 (.int .i64 e.p) rfl
    have e2 := (K3.drew).cellv 2 (.int .i64 e.f) rfl
    have e3 := (K3.drew).cellv 3 (.bool e.w) rfl
    have cn := Blk.cellv h3.out 32 _ (tc_n (l := L) (by have := hn'.out; omega) m)
    rw [hn'.out] at cn
    have q7 : (nn : Int) < 8 := by omega
    have q8 : nn < 8 := by omega
    refine wp_region_still_tail 9 (by kernel_rfl) (by kernel_rfl) ?_
    simp only [List.take_succ_cons, List.take_zero, List.drop_succ_cons, List.drop_zero]
    repeat still_step
    refine wpStill_nil ?_
    change wpList _ _ _ _ _ w3.drew
    clear e0 e1 e2 e3 cn q7 q8
    refine wl_store_mid rfl 52 (.tmp 33) (.tmp 30) rfl g (nn * 4) rfl (ea e) rfl 55 (tc L m) h3.out.drew (size_ea _) hsz.out (ea_one _) ?_
    intro w7 k7 g7 s7
    rw [hlay.out] at k7
    have c7 := k7.cellv 32 (.int .i64 nn) (by
      unfold t8
      rw [List.getElem?_toArray, List.getElem?_append_right (by rw [flat_len ev_len, hpl.out]; omega), flat_len ev_len, hpl.out]; rfl)
    have hsz7 := Lib.hid (t8_lt hpl.out nn m)
    have q9 : (0 : Int) ≤ (nn : Int) := by omega
    have q10 : (nn : Int) < 8 := by omega
    have q11 := Lib.hid (show (nn : Int) + 1 = ((nn + 1 : Nat) : Int) by omega)
    go_wp2_with ((refine wl_set rfl 3 _ _ rfl g 32 rfl (.int .i64 ((nn : Int) + 1)) rfl rfl 55 (t8 (pad (L ++ [e])) nn m) k7 size_i hsz7.out ?_); intro w8 k8 g8 s8)
    rw [t8_setn hpl.out, q11.out] at k8
    go_end0
    refine ⟨rfl, ?_, ?_⟩
    · rw [hput.out]
      show Blk w8 g _ (tc (L ++ [e]) m)
      rw [tc_t8, List.length_append, List.length_singleton, hn'.out]
      exact k8
    · exact grown_own2 HG (World.grownBy.trans (grown_of_below (bl_drew (bl_refl w3)) _) (World.grownBy.trans g7 g8)) hgl
  · obtain ⟨_, q2⟩ := wI_no hat
    have hfil : l.filter (fun x => !pg e.s e.p x) = l := filter_none (by have := at_le l e.s e.p; omega)
    generalize wI l.length (at_ l e.s e.p) = y at *
    clear hat her
    by_cases h8 : l.length = 8
    · have hlen1 : (l.eraseIdx 0).length ≤ 7 := by rw [List.length_eraseIdx_of_lt (by omega)]; omega
      have hput : Hid (put l e = l.eraseIdx 0 ++ [e]) := Lib.hid (by
        unfold put
        rw [hfil, cap8_yes h8])
      have h8' := Lib.hid h8
      clear hfil h8
      obtain ⟨L, hL⟩ : ∃ L, l.eraseIdx 0 = L := ⟨_, rfl⟩
      rw [hL] at hput hlen1
      have hL' := Lib.hid hL
      clear hL
      obtain ⟨nn, hn⟩ : ∃ n, (L).length = n := ⟨_, rfl⟩
      have hnn : nn ≤ 7 := by omega
      have hn' := Lib.hid hn
      have hpl : Hid ((pad (L ++ [e])).length = 8) := Lib.hid (pad_len (by rw [List.length_append, hn]; simp; omega))
      have hsz : Hid (nn * 4 + (ea e).size ≤ (tc (L) m).size) := Lib.hid (by rw [tc_size (by omega)]; show nn * 4 + 4 ≤ 34; omega)
      have hlay : Hid (lay (tc (L) m) (nn * 4) (ea e).toList = t8 (pad (L ++ [e])) nn m) := Lib.hid (by
        have := t8_lay (M := [e]) (pad_len (l := L) (by omega)) nn (nn : Int) m (by show nn + 1 ≤ 8; omega)
        rw [show ([e].flatMap ev) = (ea e).toList from rfl] at this
        rw [tc_t8, hn, this, List.length_singleton, set_as_lay nn e (by rw [pad_len (by omega)]; omega), ← hn, push_pad (by omega)])
      go_enter Try.func30, Try.ntmps30
      go_wp2_with (first
        | ((with_reducible refine wl_box rfl 52 _ rfl (ea e) rfl ?_); intro w1 k1 b1 s1; have f0 := k1.cellv 0 (.int .i64 e.s) rfl; have f1 := k1.cellv 1 (.int .i64 e.p) rfl))
      have h1 := Lib.hid (hh.out.below b1)
      refine (hF.out _ h1.out).mono ?_
      rintro r w2 ⟨rfl, b2⟩
      have h2 := Lib.hid (h1.out.below b2)
      have K2 := k1.below b2
      have B2 := bl_then b1 b2
      have HG : w.grownBy w2 (some g) := grown_of_below B2 _
      clear k1 f0 f1
      have c3 := Blk.cellv h2.out 32 _ (tc_n hl m)
      rw [h8'.out] at c3
      have q4 : (((8 : Nat) : Int) == 8) = true := by simp
      clear hn
      go_wp2_with fail
      refine (hcut.out l 0 w2 h2.out hl (by have := h8'.out; omega)).mono ?_
      rintro r w3 ⟨rfl, h3', g3⟩
      rw [hL'.out] at h3'
      have h3 := Lib.hid h3'
      have K3 := K2.grown g3 (fun e => by injection e with e; omega)
      have HG := World.grownBy.trans HG g3
      clear c3 q4 h3'
      have e0 := (K3.drew).cellv 0 (.int .i64 e.s) rfl
      have e1 := (K3.drew).cellv 1 (.int .i64 e.p) rfl
      have e2 := (K3.drew).cellv 2 (.int .i64 e.f) rfl
      have e3 := (K3.drew).cellv 3 (.bool e.w) rfl
      have cn := Blk.cellv h3.out 32 _ (tc_n (l := L) (by have := hn'.out; omega) m)
      rw [hn'.out] at cn
      have q7 : (nn : Int) < 8 := by omega
      have q8 : nn < 8 := by omega
      go_wp2_with fail
      refine wp_region_still_tail 9 (by kernel_rfl) (by kernel_rfl) ?_
      simp only [List.take_succ_cons, List.take_zero, List.drop_succ_cons, List.drop_zero]
      repeat still_step
      refine wpStill_nil ?_
      change wpList _ _ _ _ _ w3.drew
      clear e0 e1 e2 e3 cn q7 q8
      refine wl_store_mid rfl 52 (.tmp 33) (.tmp 30) rfl g (nn * 4) rfl (ea e) rfl 55 (tc L m) h3.out.drew (size_ea _) hsz.out (ea_one _) ?_
      intro w7 k7 g7 s7
      rw [hlay.out] at k7
      have c7 := k7.cellv 32 (.int .i64 nn) (by
        unfold t8
        rw [List.getElem?_toArray, List.getElem?_append_right (by rw [flat_len ev_len, hpl.out]; omega), flat_len ev_len, hpl.out]; rfl)
      have hsz7 := Lib.hid (t8_lt hpl.out nn m)
      have q9 : (0 : Int) ≤ (nn : Int) := by omega
      have q10 : (nn : Int) < 8 := by omega
      have q11 := Lib.hid (show (nn : Int) + 1 = ((nn + 1 : Nat) : Int) by omega)
      go_wp2_with ((refine wl_set rfl 3 _ _ rfl g 32 rfl (.int .i64 ((nn : Int) + 1)) rfl rfl 55 (t8 (pad (L ++ [e])) nn m) k7 size_i hsz7.out ?_); intro w8 k8 g8 s8)
      rw [t8_setn hpl.out, q11.out] at k8
      go_end0
      refine ⟨rfl, ?_, ?_⟩
      · rw [hput.out]
        show Blk w8 g _ (tc (L ++ [e]) m)
        rw [tc_t8, List.length_append, List.length_singleton, hn'.out]
        exact k8
      · exact grown_own2 HG (World.grownBy.trans (grown_of_below (bl_drew (bl_refl w3)) _) (World.grownBy.trans g7 g8)) hgl
    · have hlen1 : l.length ≤ 7 := by omega
      have hput : Hid (put l e = l ++ [e]) := Lib.hid (by
        unfold put
        rw [hfil, cap8_no h8])
      have h8' := Lib.hid h8
      clear hfil h8
      obtain ⟨nn, hn⟩ : ∃ n, (l).length = n := ⟨_, rfl⟩
      have hnn : nn ≤ 7 := by omega
      have hn' := Lib.hid hn
      have hpl : Hid ((pad (l ++ [e])).length = 8) := Lib.hid (pad_len (by rw [List.length_append, hn]; simp; omega))
      have hsz : Hid (nn * 4 + (ea e).size ≤ (tc (l) m).size) := Lib.hid (by rw [tc_size (by omega)]; show nn * 4 + 4 ≤ 34; omega)
      have hlay : Hid (lay (tc (l) m) (nn * 4) (ea e).toList = t8 (pad (l ++ [e])) nn m) := Lib.hid (by
        have := t8_lay (M := [e]) (pad_len (l := l) (by omega)) nn (nn : Int) m (by show nn + 1 ≤ 8; omega)
        rw [show ([e].flatMap ev) = (ea e).toList from rfl] at this
        rw [tc_t8, hn, this, List.length_singleton, set_as_lay nn e (by rw [pad_len (by omega)]; omega), ← hn, push_pad (by omega)])
      go_enter Try.func30, Try.ntmps30
      go_wp2_with (first
        | ((with_reducible refine wl_box rfl 52 _ rfl (ea e) rfl ?_); intro w1 k1 b1 s1; have f0 := k1.cellv 0 (.int .i64 e.s) rfl; have f1 := k1.cellv 1 (.int .i64 e.p) rfl))
      have h1 := Lib.hid (hh.out.below b1)
      refine (hF.out _ h1.out).mono ?_
      rintro r w2 ⟨rfl, b2⟩
      have h2 := Lib.hid (h1.out.below b2)
      have K2 := k1.below b2
      have B2 := bl_then b1 b2
      have HG : w.grownBy w2 (some g) := grown_of_below B2 _
      clear k1 f0 f1
      have c3 := Blk.cellv h2.out 32 _ (tc_n hl m)
      rw [hn'.out] at c3
      have q4 : ((nn : Int) == 8) = false := by simp; omega
      clear hn
      go_wp2_with fail
      clear c3 q4
      have e0 := (K2.drew).cellv 0 (.int .i64 e.s) rfl
      have e1 := (K2.drew).cellv 1 (.int .i64 e.p) rfl
      have e2 := (K2.drew).cellv 2 (.int .i64 e.f) rfl
      have e3 := (K2.drew).cellv 3 (.bool e.w) rfl
      have cn := Blk.cellv h2.out 32 _ (tc_n (l := l) (by have := hn'.out; omega) m)
      rw [hn'.out] at cn
      have q7 : (nn : Int) < 8 := by omega
      have q8 : nn < 8 := by omega
      refine wp_region_still_tail 9 (by kernel_rfl) (by kernel_rfl) ?_
      simp only [List.take_succ_cons, List.take_zero, List.drop_succ_cons, List.drop_zero]
      repeat still_step
      refine wpStill_nil ?_
      change wpList _ _ _ _ _ w2.drew
      clear e0 e1 e2 e3 cn q7 q8
      refine wl_store_mid rfl 52 (.tmp 33) (.tmp 30) rfl g (nn * 4) rfl (ea e) rfl 55 (tc l m) h2.out.drew (size_ea _) hsz.out (ea_one _) ?_
      intro w7 k7 g7 s7
      rw [hlay.out] at k7
      have c7 := k7.cellv 32 (.int .i64 nn) (by
        unfold t8
        rw [List.getElem?_toArray, List.getElem?_append_right (by rw [flat_len ev_len, hpl.out]; omega), flat_len ev_len, hpl.out]; rfl)
      have hsz7 := Lib.hid (t8_lt hpl.out nn m)
      have q9 : (0 : Int) ≤ (nn : Int) := by omega
      have q10 : (nn : Int) < 8 := by omega
      have q11 := Lib.hid (show (nn : Int) + 1 = ((nn + 1 : Nat) : Int) by omega)
      go_wp2_with ((refine wl_set rfl 3 _ _ rfl g 32 rfl (.int .i64 ((nn : Int) + 1)) rfl rfl 55 (t8 (pad (l ++ [e])) nn m) k7 size_i hsz7.out ?_); intro w8 k8 g8 s8)
      rw [t8_setn hpl.out, q11.out] at k8
      go_end0
      refine ⟨rfl, ?_, ?_⟩
      · rw [hput.out]
        show Blk w8 g _ (tc (l ++ [e]) m)
        rw [tc_t8, List.length_append, List.length_singleton, hn'.out]
        exact k8
      · exact grown_own2 HG (World.grownBy.trans (grown_of_below (bl_drew (bl_refl w2)) _) (World.grownBy.trans g7 g8)) hgl
end Go.Proofs.Ytdokmnpkihmkpaa.Tlb3
