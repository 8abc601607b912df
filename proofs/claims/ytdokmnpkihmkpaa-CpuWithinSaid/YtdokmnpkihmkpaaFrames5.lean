/- Contracts of the reference of frames. -/
import Derived.Test.YtdokmnpkihmkpaaFrames4
import Derived.Deep.QuietTactic
import Derived.BigQuiet
set_option linter.unusedVariables false
namespace Go.Proofs.Ytdokmnpkihmkpaa.Frames5
open Go.RowKit Go.Proofs.Ytdokmnpkihmkpaa.Base Go.Proofs.Ytdokmnpkihmkpaa.Row Go.Proofs.Ytdokmnpkihmkpaa.Frames Go.Proofs.Ytdokmnpkihmkpaa.Frames2 Go.Proofs.Ytdokmnpkihmkpaa.Frames3 Go.Proofs.Ytdokmnpkihmkpaa.Frames4

def atv (n : Nat) (f a : Int) : Int := if okB n f a then ((wh f a : Nat) : Int) else -1
set_option maxRecDepth 100000 in
theorem at_c (A : Option Addr) (N n c : Nat) (f a : Int) (w : World) (hN : N = n * 16) (hn : n ≤ 256) :
    Calls Try.prog 56 #[.slice A N c, .int .i64 f, .int .i64 a] w fun r w' => r = .returned (.int .i64 (atv n f a)) ∧ w = w' := by
  have qd : (N : Int) / 16 = n := by omega
  by_cases h1 : f < 0
  · have q1 : decide (f < 0) = true := by simpa using h1
    have hv := Lib.hid (show atv n f a = -1 by unfold atv; rw [show okB n f a = false from decide_eq_false (by omega)]; rfl)
    rw [hv.out]
    clear h1 hN
    go_enter Try.func56, Try.ntmps56
    go_wp2
    go_ret
    exact ⟨rfl, rfl⟩
  have q1 : decide (f < 0) = false := by simpa using h1
  by_cases h2 : (n : Int) ≤ f
  · have q2 : decide ((n : Int) ≤ f) = true := by simpa using h2
    have hv := Lib.hid (show atv n f a = -1 by unfold atv; rw [show okB n f a = false from decide_eq_false (by omega)]; rfl)
    rw [hv.out]
    clear h1 h2 hN
    go_enter Try.func56, Try.ntmps56
    go_wp2
    go_ret
    exact ⟨rfl, rfl⟩
  have q2 : decide ((n : Int) ≤ f) = false := by simpa using h2
  by_cases h3 : a < 0
  · have q3 : decide (a < 0) = true := by simpa using h3
    have hv := Lib.hid (show atv n f a = -1 by unfold atv; rw [show okB n f a = false from decide_eq_false (by omega)]; rfl)
    rw [hv.out]
    clear h1 h2 h3 hN
    go_enter Try.func56, Try.ntmps56
    go_wp2
    go_ret
    exact ⟨rfl, rfl⟩
  have q3 : decide (a < 0) = false := by simpa using h3
  by_cases h4 : 15 < a
  · have q4 : decide (15 < a) = true := by simpa using h4
    have hv := Lib.hid (show atv n f a = -1 by unfold atv; rw [show okB n f a = false from decide_eq_false (by omega)]; rfl)
    rw [hv.out]
    clear h1 h2 h3 h4 hN
    go_enter Try.func56, Try.ntmps56
    go_wp2
    go_ret
    exact ⟨rfl, rfl⟩
  have q4 : decide (15 < a) = false := by simpa using h4
  have hv := Lib.hid (show atv n f a = 16 * f + a by unfold atv wh; rw [show okB n f a = true from decide_eq_true (by omega), if_pos rfl]; omega)
  have m1 : IntKind.i64.wrap (16 * f) = 16 * f := wrap_id _ (by omega) (by omega)
  have m2 : IntKind.i64.wrap (16 * f + a) = 16 * f + a := wrap_id _ (by omega) (by omega)
  rw [hv.out]
  clear h1 h2 h3 h4 hN
  go_enter Try.func56, Try.ntmps56
  go_wp2
  go_ret
  exact ⟨rfl, rfl⟩

set_option maxRecDepth 100000 in
theorem rnew_no (n : Int) (h : n < 1 ∨ 256 < n) (w : World) :
    Calls Try.prog 17 #[.int .i64 n] w fun r w' => r = .returned (.slice none 0 0) ∧ w = w' := by
  by_cases h1 : n < 1
  · have q1 : decide (n < 1) = true := by simpa using h1
    clear h h1
    go_enter Try.func17, Try.ntmps17
    go_wp2
    go_ret
    exact ⟨rfl, rfl⟩
  · have q1 : decide (n < 1) = false := by simpa using h1
    have q2 : decide (256 < n) = true := by simp; omega
    clear h h1
    go_enter Try.func17, Try.ntmps17
    go_wp2
    go_ret
    exact ⟨rfl, rfl⟩
set_option maxRecDepth 100000 in
set_option maxHeartbeats 2000000 in
theorem rnew_own (n N : Nat) (hN : n * 16 = N) (h1 : 1 ≤ n) (h2 : n ≤ 256) (w : World) :
    Calls Try.prog 17 #[.int .i64 n] w fun r w' => (∃ A c, r = .returned (.slice A N c) ∧ w'.ownsRow w.heap.size 28 1 (.slice A N c) N (nums .u32 (List.replicate N 0))) ∧ Below w.heap.size w w' := by
  have q1 : decide ((n : Int) < 1) = false := by simp; omega
  have q2 : decide (256 < (n : Int)) = false := by simp; omega
  have hm : IntKind.i64.wrap (16 * (n : Int)) = N := by rw [show 16 * (n : Int) = N by omega]; exact wrap_id _ (by omega) (by omega)
  have hNb : N ≤ 4096 := by omega
  clear h1 h2
  go_enter Try.func17, Try.ntmps17
  go_wp2
  go_loopw [3, 4] (fun v i wr => ∃ (k : Nat) (A1 : Option Addr) (c1 : Nat), k ≤ N ∧ i = .int .i64 k ∧ v = .slice A1 k c1 ∧ wr.ownsRow w.heap.size 28 1 (.slice A1 k c1) k (nums .u32 (List.replicate k 0)) ∧ Below w.heap.size w wr) (fun _ i _ => N - (intOf i).toNat)
  case atStart => exact ⟨0, _, _, Nat.zero_le _, rfl, rfl, own_nil _ _ _ _, bl_refl _⟩
  case round =>
    obtain ⟨k, A1, c1, hk, rfl, rfl, HO, HB⟩ := hrel
    by_cases hlt : k < N
    · have hq : decide ((k : Int) < (N : Int)) = true := by simp; omega
      go_wp2_with (at_builtin; refine app_own (w0 := w) w.heap.size 1 4 (.int .u32 0) rfl _ _ 25 28 rfl Try.underlying25 info_u32 rfl Nat.one_pos (by omega) (.slice A1 k c1) k (nums .u32 (List.replicate k 0)) rfl (HO.alloc _) ⟨wr.heap.size, 0, none⟩ 1 1 (nums .u32 [0]) rfl rfl ?d0 (nums_one _ _) ?d1 ?d2 ?d3 ?_)
      case d0 => exact row_news (heap_alloc_new _ _)
      case d1 => omega
      case d2 => exact bl_alloc HB _
      case d3 => have := HB.size; simp; omega
      intro A2 c2 w4 HO4 HB4 hs4 _
      rw [← nums_append, show List.replicate k (0 : Int) ++ [0] = List.replicate (k + 1) 0 from (List.replicate_succ' ..).symm] at HO4
      clear HO HB
      go_wp2
      go_roundw
      case rel => exact ⟨k + 1, A2, c2, by omega, by go_num, rfl, HO4, HB4⟩
      case measure => simp [intOf]; omega
    · obtain rfl : k = N := by omega
      have hq : decide ((k : Int) < (k : Int)) = false := by simp
      go_wp2
      go_ret
      exact ⟨⟨A1, c1, rfl, HO⟩, HB⟩
theorem rnew_c (n N : Nat) (hN : n * 16 = N) (h1 : 1 ≤ n) (h2 : n ≤ 256) (w : World) :
    Calls Try.prog 17 #[.int .i64 n] w fun r w' => (∃ b c, r = .returned (.slice (some ⟨b, 0, none⟩) N c) ∧ w.heap.size ≤ b ∧ N ≤ c ∧ Rf w' b (List.replicate N 0)) ∧ Below w.heap.size w w' := by
  refine (rnew_own n N hN h1 h2 w).mono ?_
  rintro r w' ⟨⟨A, c, rfl, HO⟩, HB⟩
  obtain ⟨b, rfl, hb, hl, hc, hR⟩ := Rf.of_own HO (by omega)
  exact ⟨⟨b, c, rfl, hb, hc, hR⟩, HB⟩

set_option maxRecDepth 100000 in
set_option maxHeartbeats 2000000 in
theorem rcopy_c (b N n c : Nat) (t f : Int) (X : List Int) (w : World) (h : Rf w b X) (hl : X.length = N) (hN : N = n * 16) (hn : n ≤ 256) :
    Calls Try.prog 57 #[.slice (some ⟨b, 0, none⟩) N c, .int .i64 t, .int .i64 f] w fun r w' => r = .returned (.bool (inB n t && inB n f)) ∧ Rf w' b (copyX n X t f) ∧ w.grownBy w' (some b) := by
  have hAt := Lib.hid (fun w' => at_c (some ⟨b, 0, none⟩) N n c t 0 w' hN hn)
  have hAf := Lib.hid (fun w' => at_c (some ⟨b, 0, none⟩) N n c f 0 w' hN hn)
  have ok0 : ∀ x, okB n x 0 = inB n x := fun x => by simp [okB, inB]
  cases hit : inB n t with
  | false =>
    rw [show atv n t 0 = -1 by unfold atv; rw [ok0, hit]; rfl] at hAt
    have hcx : copyX n X t f = X := by unfold copyX layQ; rw [hit]; split <;> rfl
    rw [hcx, Bool.false_and]
    clear hAf
    refine Calls.mono (R := fun r w' => r = .returned (.bool false) ∧ w = w') ?_ (fun r w' h' => ⟨h'.1, h'.2 ▸ h, h'.2 ▸ grown_of_below (bl_refl w) _⟩)
    clear hit hcx ok0 h hl hN
    go_enter Try.func57, Try.ntmps57
    go_wp2_with fail
    refine (hAt.out _).mono ?_
    rintro r w1 ⟨rfl, rfl⟩
    go_wp2
    go_ret
    exact ⟨rfl, rfl⟩
  | true =>
    obtain ⟨t', rfl, ht⟩ := inB_nat hit
    rw [show atv n t' 0 = (t' * 16 : Nat) by unfold atv; rw [ok0, hit]; rfl] at hAt
    cases hif : inB n f with
    | false =>
      rw [show atv n f 0 = -1 by unfold atv; rw [ok0, hif]; rfl] at hAf
      have hcx : copyX n X t' f = X := by unfold copyX; rw [hif]; rfl
      rw [hcx, Bool.true_and]
      refine Calls.mono (R := fun r w' => r = .returned (.bool false) ∧ w = w') ?_ (fun r w' h' => ⟨h'.1, h'.2 ▸ h, h'.2 ▸ grown_of_below (bl_refl w) _⟩)
      clear hit hif hcx ok0 h hl hN
      have q0 : decide (((t' * 16 : Nat) : Int) < 0) = false := by simp; omega
      generalize t' * 16 = t16 at *
      go_enter Try.func57, Try.ntmps57
      go_wp2_with fail
      refine (hAt.out _).mono ?_
      rintro r w1 ⟨rfl, rfl⟩
      go_wp2_with fail
      refine (hAf.out _).mono ?_
      rintro r w1 ⟨rfl, rfl⟩
      go_wp2
      go_ret
      exact ⟨rfl, rfl⟩
    | true =>
      obtain ⟨f', rfl, hf⟩ := inB_nat hif
      rw [show atv n f' 0 = (f' * 16 : Nat) by unfold atv; rw [ok0, hif]; rfl] at hAf
      have hcx : Hid (blend X (t' * 16) (pgAt X f') 16 = copyX n X t' f') := Lib.hid (by
        rw [blend_lay X n t' _ (by omega) ht (pgAt_len X n f' (by omega) hf)]
        unfold copyX layQ; rw [hif, hit]; rfl)
      rw [Bool.true_and, ← hcx.out]
      have hz := Lib.hid (blend_zero X (t' * 16) (pgAt X f'))
      have hst := Lib.hid (blend_set X (t' * 16) (pgAt X f'))
      have hbl := Lib.hid (blend_len X (t' * 16) (pgAt X f'))
      have hgt : Hid (∀ k, k < 16 → (blend X (t' * 16) (pgAt X f') k)[f' * 16 + k]?.getD 0 = (pgAt X f')[k]?.getD 0) := Lib.hid (by
        intro k hk
        rw [blend_get _ _ _ _ _ (by omega), pgAt_get X f' k hk]
        by_cases hc : t' * 16 ≤ f' * 16 + k ∧ f' * 16 + k < t' * 16 + k
        · omega
        · rw [if_neg hc])
      clear hit hif hcx ok0
      have q0 : decide (((t' * 16 : Nat) : Int) < 0) = false := by simp; omega
      have q1 : decide (((f' * 16 : Nat) : Int) < 0) = false := by simp; omega
      have m1 : IntKind.i64.wrap (16 * (t' : Int)) = (t' * 16 : Nat) := by rw [show 16 * (t' : Int) = (t' * 16 : Nat) by omega]; exact wrap_id _ (by omega) (by omega)
      have m2 : IntKind.i64.wrap (16 * (f' : Int)) = (f' * 16 : Nat) := by rw [show 16 * (f' : Int) = (f' * 16 : Nat) by omega]; exact wrap_id _ (by omega) (by omega)
      obtain ⟨ot, hot⟩ : ∃ o, t' * 16 = o := ⟨_, rfl⟩
      obtain ⟨oF, hof⟩ : ∃ o, f' * 16 = o := ⟨_, rfl⟩
      have b1 : ot + 16 ≤ N := by omega
      have b2 : oF + 16 ≤ N := by omega
      have hNb : N ≤ 4096 := by omega
      rw [hot] at hAt q0 m1 hz hst hbl hgt ⊢
      rw [hof] at hAf q1 m2 hgt
      clear hot hof hN
      generalize pgAt X f' = P at *
      go_enter Try.func57, Try.ntmps57
      go_wp2_with fail
      refine (hAt.out _).mono ?_
      rintro r w1 ⟨rfl, rfl⟩
      go_wp2_with fail
      refine (hAf.out _).mono ?_
      rintro r w1 ⟨rfl, rfl⟩
      go_wp2_with fail
      go_loopw [7] (fun i wr => ∃ (k : Nat), k ≤ 16 ∧ i = .int .i64 k ∧ Rf wr b (blend X ot P k) ∧ w.grownBy wr (some b)) (fun i _ => 16 - (intOf i).toNat)
      case atStart => exact ⟨0, by omega, rfl, (by rw [hz.out]; exact h), grown_of_below (bl_refl w) _⟩
      case round =>
        clear h hz
        obtain ⟨k, hk, rfl, HR, HG⟩ := hrel
        by_cases hlt : k < 16
        · have hq : decide ((k : Int) < 16) = true := by simp; omega
          have w1 : IntKind.i64.wrap ((ot : Int) + (k : Int)) = (ot + k : Nat) := by rw [show (ot : Int) + (k : Int) = (ot + k : Nat) by omega]; exact wrap_id _ (by omega) (by omega)
          have w2 : IntKind.i64.wrap ((oF : Int) + (k : Int)) = (oF + k : Nat) := by rw [show (oF : Int) + (k : Int) = (oF + k : Nat) by omega]; exact wrap_id _ (by omega) (by omega)
          have hcl := HR.cell (oF + k) (by rw [hbl.out]; omega)
          rw [hgt.out k hlt] at hcl
          have hs := Lib.hid (hst.out k)
          obtain ⟨cur, hK, hcur⟩ := HR
          have hcur' := Lib.hid hcur
          have hsz := Lib.hid (Rf.size hcur (ot + k) (by rw [hbl.out]; omega))
          have i1 : ot + k < N := by omega
          have i2 : oF + k < N := by omega
          clear hcur
          obtain ⟨u, hu⟩ : ∃ u, ot + k = u := ⟨_, rfl⟩
          obtain ⟨u2, hu2⟩ : ∃ u, oF + k = u := ⟨_, rfl⟩
          rw [hu] at w1 hs hsz i1
          rw [hu2] at w2 hcl i2
          generalize P[k]?.getD 0 = y at *
          have i1' : (u : Int) < N := by omega
          have i2' : (u2 : Int) < N := by omega
          go_wp2_with (first
            | ((refine wl_set (by rfl) 28 _ _ (by rfl) b u (by rfl) (.int .u32 y) (by rfl) rfl 28 cur hK size_u32 hsz.out ?_); intro w4 k4 g4 s4))
          have hR4 := Rf.set_ hcur'.out k4
          rw [hs.out] at hR4
          have hG4 := World.grownBy.trans HG g4
          clear k4 g4 HG hK hcl
          go_wp2
          go_roundw
          case rel => exact ⟨k + 1, by omega, by go_num, hR4, hG4⟩
          case measure => first | (simp [intOf]; done) | (simp [intOf]; omega)
        · obtain rfl : k = 16 := by omega
          have hq : decide (((16 : Nat) : Int) < 16) = false := by simp
          go_wp2
          go_ret
          exact ⟨rfl, HR, HG⟩
end Go.Proofs.Ytdokmnpkihmkpaa.Frames5
