/- FramesPlay: at all sizes and all deeds the law's text returns true. -/
import Derived.Test.YtdokmnpkihmkpaaFrames8
set_option linter.unusedVariables false
namespace Go.Proofs.Ytdokmnpkihmkpaa.FramesPlay
open Go.RowKit Go.Proofs.Ytdokmnpkihmkpaa.Base Go.Proofs.Ytdokmnpkihmkpaa.Row Go.Proofs.Ytdokmnpkihmkpaa.Frames Go.Proofs.Ytdokmnpkihmkpaa.Frames2 Go.Proofs.Ytdokmnpkihmkpaa.Frames3 Go.Proofs.Ytdokmnpkihmkpaa.Frames4 Go.Proofs.Ytdokmnpkihmkpaa.Frames5 Go.Proofs.Ytdokmnpkihmkpaa.Frames6 Go.Proofs.Ytdokmnpkihmkpaa.Frames7 Go.Proofs.Ytdokmnpkihmkpaa.Frames8 Go.Proofs.Ytdokmnpkihmkpaa.Flat

theorem new_at (n : Nat) (h1 : 1 ≤ n) (h2 : n ≤ 256) (w : World) (g : Nat) (hg : w.heap.size = g) :
    Calls Try.prog 16 #[.int .i64 n] w fun r w' => r = .returned (.pointer (some ⟨g + 1, 0, none⟩)) ∧ Mm w' (g + 1) g n (List.replicate (n * 16) 0) ∧ Below w.heap.size w w' := by
  subst hg
  exact new_c n h1 h2 w
theorem rnew_at (n N : Nat) (hN : n * 16 = N) (h1 : 1 ≤ n) (h2 : n ≤ 256) (w : World) :
    Calls Try.prog 17 #[.int .i64 n] w fun r w' => (∃ b c, r = .returned (.slice (some ⟨b, 0, none⟩) N c) ∧ w.heap.size ≤ b ∧ N ≤ c ∧ Rf w' b (List.replicate N 0)) ∧ Below w.heap.size w w' := rnew_c n N hN h1 h2 w

/-- From the two memories on. -/
def Fin (w : World) (e : Ending) (w' : World) : Prop := e = .returned (.bool true) ∧ Below w.heap.size w w'

/-- The size as the law takes it. -/
def szOf (a : Int) : Int := if 6 < a ∧ a ≤ 256 then 6 else a
set_option maxRecDepth 100000 in
set_option maxHeartbeats 8000000 in
theorem main (a : Int) (A : Option Addr) (n cap : Nat) (w : World) (hd : FlatRow w ([[isI .i64], [isI .i64], [isI .i64], [isI .u32]] : List (List (Value → Prop))).flatten A n cap) (hn : n ≤ 9223372036854775807)
    (m : Nat) (hsz : szOf a = m) (h1 : 1 ≤ m) (h2 : m ≤ 6) :
    Calls Try.prog 3 #[.int .i64 a, .slice A n cap] w fun e w' => e = .returned (.bool true) ∧ Below w.heap.size w w' := by
  have hdd := Lib.hid hd
  obtain ⟨gp, hgp⟩ : ∃ gp, w.heap.size = gp := ⟨_, rfl⟩
  obtain ⟨g, hg⟩ : ∃ g, gp + 1 = g := ⟨_, rfl⟩
  have hwp : w.heap.size ≤ gp := by omega
  have hN := new_at m h1 (by omega) w gp hgp
  rw [hg] at hN
  have hN := Lib.hid hN
  obtain ⟨N, hNe⟩ : ∃ N, m * 16 = N := ⟨_, rfl⟩
  have hR := Lib.hid (fun w' => rnew_at m N hNe h1 (by omega) w')
  rw [hNe] at hN
  have hNh := Lib.hid (show N = m * 16 from hNe.symm)
  have hN0 : ((N : Int) == 0) = false := by simp; omega
  have hX0 : (List.replicate N (0 : Int)).length = N := by simp
  clear hd hgp hg hNe
  generalize List.replicate N (0 : Int) = X0 at *
  have hcase : (decide (6 < a) = true ∧ decide (a ≤ 256) = true ∧ (m : Int) = 6) ∨ (decide (6 < a) = false ∧ a = m) := by
    by_cases hbig : 6 < a ∧ a ≤ 256
    · have : szOf a = 6 := if_pos hbig
      exact .inl ⟨by simp; omega, by simp; omega, by omega⟩
    · have : szOf a = a := if_neg hbig
      exact .inr ⟨by simp; omega, by omega⟩
  clear hsz h1
  have hm := Lib.hid (show m ≤ 256 by omega)
  clear h2
  obtain ⟨sz, hs⟩ : ∃ sz : Int, (m : Int) = sz := ⟨_, rfl⟩
  rw [hs] at hN hR hcase
  clear hs
  rcases hcase with ⟨q1, q2, rfl⟩ | ⟨q1, rfl⟩
  all_goals (
    go_enter Try.func3, Try.ntmps3
    go_wp2_with fail
    refine (hN.out).mono ?_
    rintro r w1 ⟨rfl, hx1, b1⟩
    go_wp2_with fail
    refine (hR.out _).mono ?_
    rintro r w2 ⟨⟨b, c, rfl, hb, hc, hy2⟩, b2⟩
    have hx2 := hx1.below b2
    have B2 := bl_then b1 b2
    have hwb : w.heap.size ≤ b := by have := b1.size; omega
    clear hx1 b1 b2 hN hR hb
    go_wp2_with fail
    go_loopw [7] (fun i wr => ∃ (k : Nat) (X : List Int), k ≤ n ∧ X.length = N ∧ i = .int .i64 k ∧ Mm wr g gp m X ∧ Rf wr b X ∧ Below w.heap.size w wr) (fun i _ => n - (intOf i).toNat)
    case atStart => exact ⟨0, X0, by omega, hX0, rfl, hx2, hy2, B2⟩
    case round =>
      clear hx2 hy2 B2 hX0
      obtain ⟨k, X, hk, hX, rfl, KX, KY, HB⟩ := hrel
      obtain ⟨wo, rfl⟩ : ∃ wo : World, wo = wr := ⟨_, rfl⟩
      by_cases hlt : k < n
      · have hq : decide ((k : Int) < (n : Int)) = true := by simp; omega
        by_cases hlt4 : k < 40
        · have hq4 : decide ((k : Int) < 40) = true := by simp; omega
          obtain ⟨ad, kd, f, at_, v, rfl, DA⟩ := deed_at hdd.out k hlt
          obtain ⟨e0, e1, e2, e3⟩ := DA.below HB
          clear DA
          have hdo := Lib.hid (does_c g gp b N m c X kd f at_ v wo KX KY hX hNh.out hm.out)
          obtain ⟨X', hX'⟩ : ∃ X', pDo m X kd f at_ v = X' := ⟨_, rfl⟩
          have hXl : Hid (X'.length = N) := Lib.hid (by rw [← hX', do_len m X kd f at_ v (by rw [hX]; exact hNh.out), hX])
          rw [hX'] at hdo
          have hSm := Lib.hid (fun w' hx' hy' => same_c g gp b N m c X' w' hx' hy' hXl.out hNh.out hm.out)
          clear KX KY hX hX'
          go_wp2_with fail
          refine (hdo.out).mono ?_
          rintro r wb ⟨rfl, KX, KY, FR⟩
          have HB2 := FR.2.1 _ _ HB HB.size hwp hwb
          clear e0 e1 e2 e3 hdo FR HB
          go_wp2_with fail
          refine (hSm.out _ KX KY).mono ?_
          rintro r wc ⟨rfl, bc⟩
          have KX := KX.below bc
          have KY := KY.below bc
          have HB3 := bl_then HB2 bc
          go_wp2_with fail
          go_roundw
          case rel => exact ⟨k + 1, X', by omega, hXl.out, by go_num, KX, KY, HB3⟩
          case measure => first | (simp [intOf]; done) | (simp [intOf]; omega)
        · have hq4 : decide ((k : Int) < 40) = false := by simp; omega
          go_wp2_with fail
          refine (awake_c _).mono ?_
          rintro r w9 ⟨rfl, b9⟩
          go_wp2
          go_ret
          exact ⟨rfl, bl_then HB b9⟩
      · have hq : decide ((k : Int) < (n : Int)) = false := by simp; omega
        go_wp2_with fail
        refine (awake_c _).mono ?_
        rintro r w9 ⟨rfl, b9⟩
        go_wp2
        go_ret
        exact ⟨rfl, bl_then HB b9⟩)

set_option maxRecDepth 100000 in
set_option maxHeartbeats 8000000 in
theorem main_nil (a : Int) (A : Option Addr) (n cap : Nat) (w : World) (hd : FlatRow w ([[isI .i64], [isI .i64], [isI .i64], [isI .u32]] : List (List (Value → Prop))).flatten A n cap) (hn : n ≤ 9223372036854775807)
    (h : a < 1 ∨ 256 < a) :
    Calls Try.prog 3 #[.int .i64 a, .slice A n cap] w fun e w' => e = .returned (.bool true) ∧ Below w.heap.size w w' := by
  have hdd := Lib.hid hd
  have hN := Lib.hid (new_no a h w)
  have hR := Lib.hid (fun w' => rnew_no a h w')
  clear hd
  have hcase : (decide (6 < a) = true ∧ decide (a ≤ 256) = false) ∨ decide (6 < a) = false := by
    rcases h with h | h
    · exact .inr (by simp; omega)
    · exact .inl ⟨by simp; omega, by simp; omega⟩
  clear h
  rcases hcase with ⟨q1, q2⟩ | q1
  all_goals (
    go_enter Try.func3, Try.ntmps3
    go_wp2_with fail
    refine (hN.out).mono ?_
    rintro r w1 ⟨rfl, rfl⟩
    go_wp2_with fail
    refine (hR.out _).mono ?_
    rintro r w1 ⟨rfl, rfl⟩
    clear hN hR
    go_wp2_with fail
    go_loopw [7] (fun i wr => ∃ (k : Nat), k ≤ n ∧ i = .int .i64 k ∧ Below w.heap.size w wr) (fun i _ => n - (intOf i).toNat)
    case atStart => exact ⟨0, by omega, rfl, bl_refl w⟩
    case round =>
      obtain ⟨k, hk, rfl, HB⟩ := hrel
      obtain ⟨wo, rfl⟩ : ∃ wo : World, wo = wr := ⟨_, rfl⟩
      by_cases hlt : k < n
      · have hq : decide ((k : Int) < (n : Int)) = true := by simp; omega
        by_cases hlt4 : k < 40
        · have hq4 : decide ((k : Int) < 40) = true := by simp; omega
          obtain ⟨ad, kd, f, at_, v, rfl, DA⟩ := deed_at hdd.out k hlt
          obtain ⟨e0, e1, e2, e3⟩ := DA.below HB
          clear DA
          have hdo := Lib.hid (does_nil kd f at_ v wo)
          go_wp2_with fail
          refine (hdo.out).mono ?_
          rintro r wb ⟨rfl, bb⟩
          have HB2 := bl_then HB bb
          clear e0 e1 e2 e3 hdo HB
          go_wp2_with fail
          refine (same_nil _).mono ?_
          rintro r wc ⟨rfl, rfl⟩
          go_wp2_with fail
          go_roundw
          case rel => exact ⟨k + 1, by omega, by go_num, HB2⟩
          case measure => first | (simp [intOf]; done) | (simp [intOf]; omega)
        · have hq4 : decide ((k : Int) < 40) = false := by simp; omega
          go_wp2_with fail
          refine (awake_c _).mono ?_
          rintro r w9 ⟨rfl, b9⟩
          go_wp2
          go_ret
          exact ⟨rfl, bl_then HB b9⟩
      · have hq : decide ((k : Int) < (n : Int)) = false := by simp; omega
        go_wp2_with fail
        refine (awake_c _).mono ?_
        rintro r w9 ⟨rfl, b9⟩
        go_wp2
        go_ret
        exact ⟨rfl, bl_then HB b9⟩)

def Arg (i : Nat) (w : World) (v : Value) : Prop := Deeds w v
set_option maxRecDepth 100000 in
theorem arg1 {H : Type} {enc : TypeId × Value → H} {W : World} {base : Nat} {v : Value} {d : DataW H} {p : List MemPlace} (hv : Value.okWide Try.prog W .any base 22 v)
    (h : DataW.Trod enc Try.prog W 0 (fun _ => true) true 22 v d p) : Arg 1 W v := deeds_of hv h
set_option maxRecDepth 100000 in
theorem walk (a : Int) (v0 : Value) (w : World) (w0 : (Lit.int .i64 a).wf = true) (h0 : Arg 1 w v0) :
    Calls Try.prog 3 #[.int .i64 a, v0] w fun e w' => e = .returned (.bool true) ∧ Below w.heap.size w w' := by
  obtain ⟨A, n, cap, rfl, hf⟩ := h0
  by_cases h : a < 1 ∨ 256 < a
  · exact main_nil a A n cap w hf (flat_max hf) h
  · have h1 : 1 ≤ szOf a ∧ szOf a ≤ 6 := by unfold szOf; split <;> omega
    exact main a A n cap w hf (flat_max hf) (szOf a).toNat (by omega) (by omega) (by omega)
end Go.Proofs.Ytdokmnpkihmkpaa.FramesPlay
