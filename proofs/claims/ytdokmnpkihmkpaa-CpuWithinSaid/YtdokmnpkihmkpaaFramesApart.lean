/- FramesApart: at all deeds the law's text returns true. -/
import Derived.Test.YtdokmnpkihmkpaaFrames10
import Derived.Test.YtdokmnpkihmkpaaFramesPlay
set_option linter.unusedVariables false
namespace Go.Proofs.Ytdokmnpkihmkpaa.FramesApart
open Go.RowKit Go.Proofs.Ytdokmnpkihmkpaa.Base Go.Proofs.Ytdokmnpkihmkpaa.Row Go.Proofs.Ytdokmnpkihmkpaa.Frames Go.Proofs.Ytdokmnpkihmkpaa.Frames2 Go.Proofs.Ytdokmnpkihmkpaa.Frames3 Go.Proofs.Ytdokmnpkihmkpaa.Frames4 Go.Proofs.Ytdokmnpkihmkpaa.Frames5 Go.Proofs.Ytdokmnpkihmkpaa.Frames6 Go.Proofs.Ytdokmnpkihmkpaa.Frames7 Go.Proofs.Ytdokmnpkihmkpaa.Frames8 Go.Proofs.Ytdokmnpkihmkpaa.Frames9 Go.Proofs.Ytdokmnpkihmkpaa.Frames10 Go.Proofs.Ytdokmnpkihmkpaa.Flat
open Go.Proofs.Ytdokmnpkihmkpaa.FramesPlay (new_at rnew_at)

/-! ### the plain law -/
theorem pgAt_ext {X Y : List Int} {n i : Nat} (hx : X.length = n * 16) (hy : Y.length = n * 16) (hi : i < n) : pgAt X i = pgAt Y i ↔ ∀ j, j < 16 → X[i * 16 + j]?.getD 0 = Y[i * 16 + j]?.getD 0 := by
  constructor
  · intro h j hj
    rw [← pgAt_get X i j hj, ← pgAt_get Y i j hj, h]
  · intro h
    refine ext_getD (by rw [pgAt_len X n i hx hi, pgAt_len Y n i hy hi]) (fun j hj => ?_)
    rw [pgAt_len X n i hx hi] at hj
    rw [pgAt_get X i j hj, pgAt_get Y i j hj]
    exact h j hj
theorem layQ_other (n : Nat) (X : List Int) (f : Int) (P : List Int) (hl : X.length = n * 16) (hP : P.length = 16) (i : Nat) (hi : i < n) (hne : (i : Int) ≠ f) : pgAt (layQ n X f P) i = pgAt X i := by
  unfold layQ
  split
  · rename_i h
    obtain ⟨m, rfl, hm⟩ := inB_nat h
    show pgAt (layX X m P) i = pgAt X i
    rw [pgAt_ext (n := n) (layX_len X n _ P hl hm hP) hl hi]
    intro j hj
    rw [layX_get X n _ P hl hm hP _ (by omega)]
    rw [if_neg]
    have : i ≠ m := fun e => hne (by rw [e])
    show ¬ (m * 16 ≤ i * 16 + j ∧ i * 16 + j < m * 16 + 16)
    omega
  · rfl
theorem do_other (n : Nat) (X : List Int) (kd f a v : Int) (hl : X.length = n * 16) (i : Nat) (hi : i < n) (hne : (i : Int) ≠ f) : pgAt (pDo n X kd f a v) i = pgAt X i := by
  unfold pDo
  split
  · unfold putX
    split
    · rename_i h
      obtain ⟨m, k, rfl, rfl, hm, hk⟩ := okB_ex h
      rw [pgAt_ext (n := n) (by rw [List.length_set]; exact hl) hl hi]
      intro j hj
      rw [List.getElem?_set, if_neg]
      have : i ≠ m := fun e => hne (by rw [e])
      show ¬ (m * 16 + k = i * 16 + j)
      omega
    · rfl
  · split
    · unfold copyX
      split
      · rename_i h
        obtain ⟨m, rfl, hm⟩ := inB_nat h
        exact layQ_other n X f _ hl (pgAt_len X n m hl hm) i hi hne
      · rfl
    · split
      · exact layQ_other n X f _ hl (ramp_len v 16) i hi hne
      · rfl
/-- Are the first k words the same, but for a frame's? -/
def sm (X Y : List Int) (but : Int) (k : Nat) : Bool := (List.range k).all fun j => (X[j]?.getD 0 == Y[j]?.getD 0) || ((j / 16 : Nat) : Int) == but
theorem sm_zero (X Y : List Int) (but : Int) : sm X Y but 0 = true := rfl
theorem sm_succ (X Y : List Int) (but : Int) (k : Nat) : sm X Y but (k + 1) = (sm X Y but k && ((X[k]?.getD 0 == Y[k]?.getD 0) || ((k / 16 : Nat) : Int) == but)) := by
  unfold sm
  rw [List.range_succ, List.all_append]
  simp
theorem sm_oth (X Y : List Int) (n : Nat) (but : Int) (hx : X.length = n * 16) (hy : Y.length = n * 16) : sm X Y but (n * 16) = true ↔ Oth Y X n [but] := by
  unfold sm Oth
  rw [List.all_eq_true]
  constructor
  · intro h i hi hne
    have hne' : (i : Int) ≠ but := hne 0 (by simp)
    rw [pgAt_ext hy hx hi]
    intro j hj
    have := h (i * 16 + j) (by rw [List.mem_range]; omega)
    rw [Bool.or_eq_true, beq_iff_eq, beq_iff_eq] at this
    rcases this with h1 | h1
    · exact h1.symm
    · exact absurd (by rw [← h1]; congr 1; omega) hne'
  · intro h j hj
    rw [List.mem_range] at hj
    rw [Bool.or_eq_true, beq_iff_eq, beq_iff_eq]
    by_cases hb : ((j / 16 : Nat) : Int) = but
    · exact .inr hb
    · refine .inl ?_
      have := h (j / 16) (by omega) (fun j' hj' => by
        have : j' = 0 := by simpa using hj'
        subst this
        exact hb)
      rw [pgAt_ext hy hx (by omega)] at this
      have := this (j % 16) (by omega)
      rw [show j / 16 * 16 + j % 16 = j by omega] at this
      exact this.symm

theorem rd1 (x : Int) (w : World) (t : TypeId) : Rd (w.alloc (.cells #[.int .i64 x] t)) .i64 (some ⟨w.heap.size, 0, none⟩) 1 [x] :=
  ⟨rfl, by omega, fun _ => ⟨_, rfl, fun j hj => by
    obtain rfl : j = 0 := by omega
    exact (Blk.new w t #[.int .i64 x]).cellv 0 _ rfl⟩⟩
set_option maxRecDepth 100000 in
set_option maxHeartbeats 16000000 in
theorem main (A : Option Addr) (n cap : Nat) (kd f a v but : Int) (w : World) (hd : FlatRow w ([[isI .i64], [isI .i64], [isI .i64], [isI .u32]] : List (List (Value → Prop))).flatten A n cap) (hn : n ≤ 9223372036854775807) :
    Calls Try.prog 4 #[.slice A n cap, .agg (dd kd f a v), .int .i64 but] w fun e w' => e = .returned (.bool true) ∧ Below w.heap.size w w' := by
  have hdd := Lib.hid hd
  have KD0 := Lib.hid (Blk.new w 30 (dd kd f a v))
  have B0 := Lib.hid (bl_alloc (bl_refl w) (.cells (dd kd f a v) 30))
  clear hd
  have hs0 : (w.alloc (.cells (dd kd f a v) 30)).heap.size = w.heap.size + 1 := Array.size_push _
  generalize hw0 : w.alloc (.cells (dd kd f a v) 30) = w0 at *
  obtain ⟨gp, hgp⟩ : ∃ gp, w0.heap.size = gp := ⟨_, rfl⟩
  obtain ⟨g, hg⟩ : ∃ g, gp + 1 = g := ⟨_, rfl⟩
  have hN := new_at 5 (by omega) (by omega) w0 gp hgp
  rw [hg] at hN
  have hN := Lib.hid hN
  have hR := Lib.hid (fun w' => rnew_at 5 80 rfl (by omega) (by omega) w')
  have hwp : w.heap.size ≤ gp := by omega
  have hwd : Hid (w.heap.size ≠ gp ∧ w.heap.size ≠ g ∧ w.heap.size < gp ∧ g ≠ gp) := Lib.hid (by omega)
  have hX0 : (List.replicate 80 (0 : Int)).length = 80 := by simp
  rw [show 5 * 16 = 80 from rfl] at hN
  rw [show ((5 : Nat) : Int) = 5 from rfl] at hN hR
  clear hgp hg hs0
  generalize List.replicate 80 (0 : Int) = X0 at *
  subst hw0
  go_enter Try.func4, Try.ntmps4
  go_wp2_with fail
  refine (hN.out).mono ?_
  rintro r w1 ⟨rfl, hx1, b1⟩
  go_wp2_with fail
  refine (hR.out _).mono ?_
  rintro r w2 ⟨⟨b, c, rfl, hb, hc, hy2⟩, b2⟩
  have hx2 := hx1.below b2
  have B2 := bl_then (bl_then B0.out b1) b2
  have KD2 := (KD0.out.below b1).below b2
  have hwb : Hid (w.heap.size ≤ b ∧ w.heap.size ≠ b) := Lib.hid (by have := b1.size; have := hwd.out; have := B0.out.size; have := KD0.out.lt; omega)
  clear hx1 b1 b2 hN hR hb KD0 B0
  go_wp2_with fail
  go_loopw [9] (fun i wr => ∃ (k : Nat) (X : List Int), k ≤ n ∧ X.length = 80 ∧ i = .int .i64 k ∧ Mm wr g gp 5 X ∧ Rf wr b X ∧ Below w.heap.size w wr ∧ Blk wr w.heap.size 30 (dd kd f a v)) (fun i _ => n - (intOf i).toNat)
  case atStart => exact ⟨0, X0, by omega, hX0, rfl, hx2, hy2, B2, KD2⟩
  case round =>
    clear hx2 hy2 B2 hX0 KD2
    obtain ⟨k, X, hk, hX, rfl, KX, KY, HB, KD⟩ := hrel
    obtain ⟨wo, rfl⟩ : ∃ wo : World, wo = wr := ⟨_, rfl⟩
    by_cases hgo : k < n ∧ k < 20
    · obtain ⟨hlt, hlt4⟩ := hgo
      have hq4 : decide ((k : Int) < 20) = true := by simp; omega
      obtain ⟨ad, kd', f', at_, v', rfl, DA⟩ := deed_at hdd.out k hlt
      obtain ⟨e0, e1, e2, e3⟩ := DA.below HB
      clear DA
      have hdo := Lib.hid (does_c g gp b 80 5 c X kd' f' at_ v' wo KX KY hX rfl (by omega))
      obtain ⟨X', hX'⟩ : ∃ X', pDo 5 X kd' f' at_ v' = X' := ⟨_, rfl⟩
      have hXl : Hid (X'.length = 80) := Lib.hid (by rw [← hX', do_len 5 X kd' f' at_ v' hX, hX])
      rw [hX'] at hdo
      have hKD := Lib.hid KD
      clear KX KY hX hX' KD
      go_wp2_with fail
      refine (hdo.out).mono ?_
      rintro r wb ⟨rfl, KX, KY, FR⟩
      have HB2 := FR.2.1 _ _ HB HB.size hwp hwb.out.1
      have KD2 : Blk wb w.heap.size 30 (dd kd f a v) := (FR.2.2 _ hKD.out.lt hwd.out.1 hwb.out.2).trans hKD.out
      clear e0 e1 e2 e3 hdo FR HB
      go_wp2_with fail
      go_roundw
      case rel => exact ⟨k + 1, X', by omega, hXl.out, by go_num, KX, KY, HB2, KD2⟩
      case measure => first | (simp [intOf]; done) | (simp [intOf]; omega)
    · have hcase : (¬ k < n) ∨ (k < n ∧ decide ((k : Int) < 20) = false) := by
        by_cases h1 : k < n
        · exact .inr ⟨h1, by simp; omega⟩
        · exact .inl h1
      clear hgo
      have hTw := Lib.hid (twin_c g gp 5 X wo KX (by omega))
      have KX := Lib.hid KX
      have KY := Lib.hid KY
      have KD := Lib.hid KD
      have HB := Lib.hid HB
      have hXh := Lib.hid hX
      have hOs := Lib.hid (fun g2 gp2 c2 w' h1 h2 => others_c g gp g2 gp2 5 c2 X X none 0 0 [] w' h1 h2 (Rd.nil _ _ _) true ⟨fun _ => fun i hi _ => rfl, fun _ => rfl⟩)
      clear hX
      rcases hcase with hc1 | ⟨hc1, hc2⟩
      all_goals (
        go_wp2_with fail
        refine (hTw.out).mono ?_
        rintro r w3 ⟨⟨g2, gp2, c2, rfl, hg2, hgp2, ht3⟩, b3⟩
        have KX3 := Lib.hid (KX.out.below b3)
        have KY3 := Lib.hid (KY.out.below b3)
        have KD3 := Lib.hid (KD.out.below b3)
        have HB3 := Lib.hid (bl_then HB.out b3)
        have hT3 := Lib.hid ht3
        have hfr : Hid (w.heap.size ≤ g2 ∧ w.heap.size ≤ gp2 ∧ g2 ≠ gp ∧ gp2 ≠ gp ∧ g2 ≠ b ∧ gp2 ≠ b) := Lib.hid (by
          have h1 := HB.out.size; have h2 := KX.out.p.lt; have h3 := KY.out.lt
          omega)
        clear b3 ht3 hg2 hgp2 hTw
        go_wp2_with fail
        refine (tsame_c g2 gp2 b 80 5 c c2 X _ hT3.out KY3.out hXh.out rfl (by omega)).mono ?_
        rintro r w4 ⟨rfl, b4⟩
        have KX4 := Lib.hid (KX3.out.below b4)
        have KY4 := Lib.hid (KY3.out.below b4)
        have KD4 := Lib.hid (KD3.out.below b4)
        have HB4 := Lib.hid (bl_then HB3.out b4)
        have hT4 := Lib.hid (hT3.out.below b4)
        clear b4
        go_wp2_with fail
        refine (hOs.out g2 gp2 c2 _ KX4.out hT4.out).mono ?_
        rintro r w5 ⟨rfl, b5⟩
        have KX5 := Lib.hid (KX4.out.below b5)
        have KY5 := Lib.hid (KY4.out.below b5)
        have KD5 := Lib.hid (KD4.out.below b5)
        have HB5 := Lib.hid (bl_then HB4.out b5)
        have hT5 := Lib.hid (hT4.out.below b5)
        clear b5 KX3 KX4 KY3 KY4 KD3 KD4 HB3 HB4 hT3 hT4 hOs
        go_wp2_with (at_builtin; refine app_own (w0 := w5) w5.heap.size 1 4 (.int .u32 0) rfl _ _ 25 28 rfl Try.underlying25 info_u32 rfl (by omega) (by omega) (.slice none 0 0) 0 [] rfl (own_nil _ _ _ _) ⟨b, 0, none⟩ 80 c (nums .u32 X) rfl ?d4 ?d0 ?d5 ?d1 ?d2 ?d3 ?_)
        case d4 => rw [nums_length, hXh.out]
        case d0 =>
          intro j u hu
          have hj : j < X.length := by
            rcases Nat.lt_or_ge j X.length with h | h
            · exact h
            · rw [List.getElem?_eq_none (by rw [nums_length]; exact h)] at hu; cases hu
          rw [add_plain, KY5.out.cell j hj, ← hu]
          simp [nums, List.getElem?_eq_getElem hj]
        case d5 => exact nums_one _ _
        case d1 => omega
        case d2 => exact bl_refl _
        case d3 => omega
        intro A6 c6 w6 HO6 B6 s6 _
        obtain ⟨by6, rfl, hby, hl6, hc6, hR6⟩ := Rf.of_own HO6 (by omega)
        have KX6 := Lib.hid (KX5.out.below B6)
        have KY6 := Lib.hid (KY5.out.below B6)
        have KD6 := KD5.out.below B6
        have HB6 := Lib.hid (bl_then HB5.out B6)
        have hT6 := Lib.hid (hT5.out.below B6)
        have hby' : Hid (w.heap.size ≤ by6 ∧ w.heap.size ≠ by6 ∧ by6 ≠ b ∧ g2 ≠ by6 ∧ gp2 ≠ by6 ∧ by6 ≠ gp) := Lib.hid (by
          have h1 := HB5.out.size; have h2 := KY5.out.lt; have h3 := hT5.out.m.lt; have h4 := hT5.out.plt; have h5 := KX5.out.p.lt; have h6 := KD5.out.lt
          omega)
        have d0 := KD6.cellv 0 (.int .i64 kd) rfl
        have d1 := KD6.cellv 1 (.int .i64 f) rfl
        have d2 := KD6.cellv 2 (.int .i64 a) rfl
        have d3 := KD6.cellv 3 (.int .u32 v) rfl
        have hdo := Lib.hid (does_c g gp by6 80 5 c6 X kd f a v w6 KX6.out hR6 hXh.out rfl (by omega))
        have hKD6 := Lib.hid KD6
        clear HO6 B6 s6 hR6 KX5 KY5 KD5 HB5 hT5 KD6 hby hl6 hc6
        obtain ⟨Y, hY⟩ : ∃ Y, pDo 5 X kd f a v = Y := ⟨_, rfl⟩
        have hYl : Hid (Y.length = 80) := Lib.hid (by rw [← hY, do_len 5 X kd f a v hXh.out, hXh.out])
        have hYo : Hid (Oth Y X 5 [f]) := Lib.hid (by
          intro i hi hne
          rw [← hY]
          exact do_other 5 X kd f a v hXh.out i hi (hne 0 (by simp)))
        rw [hY] at hdo
        clear hY
        go_wp2_with fail
        refine (hdo.out).mono ?_
        rintro r w7 ⟨rfl, KX7, KY7, FR7⟩
        have hX7 := Lib.hid (KY6.out)
        have RX7 : Rf w7 b X := by
          obtain ⟨cur, hk, hc⟩ := KY6.out
          exact ⟨cur, (FR7.2.2 b hk.lt (fun e => by have := (KY6.out.ne KX6.out).2; exact this e) hby'.out.2.2.1.symm).trans hk, hc⟩
        have KD7 := Lib.hid (show Blk w7 w.heap.size 30 (dd kd f a v) from (FR7.2.2 _ hKD6.out.lt hwd.out.1 hby'.out.2.1).trans hKD6.out)
        have T7 := Lib.hid (hT6.out.fr FR7 hfr.out.2.2.1 hby'.out.2.2.2.1 hfr.out.2.2.2.1 hby'.out.2.2.2.2.1)
        have HB7 := Lib.hid (FR7.2.1 _ _ HB6.out HB6.out.size hwp hby'.out.1)
        have X7 := Lib.hid KX7
        have Y7 := Lib.hid KY7
        have RX7 := Lib.hid RX7
        clear KX7 KY7 FR7 hX7 d0 d1 d2 d3 hdo KX6 KY6 HB6 hT6 hKD6
        have hz := Lib.hid (sm_zero X Y but)
        have hsx := Lib.hid (fun k => sm_succ X Y but k)
        have hOb := Lib.hid (sm_oth X Y 5 but hXh.out hYl.out)
        go_wp2_with fail
        go_loopw [12, 13] (fun sv i wr => ∃ (k : Nat), k ≤ 80 ∧ i = .int .i64 k ∧ sv = .bool (sm X Y but k) ∧ ∃ q, w7.drewN q = wr) (fun _ i _ => 80 - (intOf i).toNat)
        case atStart => exact ⟨0, by omega, rfl, rfl, 0, rfl⟩
        case round =>
          obtain ⟨k, hk, rfl, rfl, q, rfl⟩ := hrel
          by_cases hlt : k < 80
          · have hq : decide ((k : Int) < 80) = true := by simp; omega
            have cx : w7.cell? ⟨b, k, none⟩ = some (.int .u32 (X[k]?.getD 0)) := RX7.out.cell k (by rw [hXh.out]; exact hlt)
            have cy : w7.cell? ⟨by6, k, none⟩ = some (.int .u32 (Y[k]?.getD 0)) := Y7.out.cell k (by rw [hYl.out]; exact hlt)
            have hs := Lib.hid (hsx.out k)
            have i1 : (k : Int) < 80 := by omega
            have qd : (k : Int) / 16 = ((k / 16 : Nat) : Int) := by omega
            generalize hxk : X[k]?.getD 0 = xk at *
            generalize hyk : Y[k]?.getD 0 = yk at *
            generalize k / 16 = k16 at *
            clear hxk hyk
            by_cases hxy : xk = yk
            · have hb1 : (xk != yk) = false := by simp [hxy]
              have hs' := Lib.hid (show sm X Y but (k + 1) = sm X Y but k by rw [hs.out, show (xk == yk) = true by simp [hxy]]; simp)
              clear hxy
              go_wp2_with fail
              go_quiet (fail)
              go_wp2
              go_roundw
              case rel => exact ⟨k + 1, by omega, by go_num, by rw [hs'.out], _, rfl⟩
              case measure => first | (simp [intOf]; done) | (simp [intOf]; omega)
            · have hb1 : (xk != yk) = true := by simpa using hxy
              by_cases hkb : (k16 : Int) = but
              · have hb2 : ((k16 : Int) != but) = false := by simpa using hkb
                have hs' := Lib.hid (show sm X Y but (k + 1) = sm X Y but k by rw [hs.out, show ((k16 : Int) == but) = true by simpa using hkb]; simp)
                clear hxy hkb
                go_wp2_with fail
                go_quiet (fail)
                go_wp2
                go_roundw
                case rel => exact ⟨k + 1, by omega, by go_num, by rw [hs'.out], _, rfl⟩
                case measure => first | (simp [intOf]; done) | (simp [intOf]; omega)
              · have hb2 : ((k16 : Int) != but) = true := by simpa using hkb
                have hs' := Lib.hid (show sm X Y but (k + 1) = false by rw [hs.out, show ((k16 : Int) == but) = false by simpa using hkb, show (xk == yk) = false by simpa using hxy]; simp)
                clear hxy hkb
                go_wp2_with fail
                go_quiet (fail)
                go_wp2
                go_roundw
                case rel => exact ⟨k + 1, by omega, by go_num, by rw [hs'.out], _, rfl⟩
                case measure => first | (simp [intOf]; done) | (simp [intOf]; omega)
          · obtain rfl : k = 80 := by omega
            have hq : decide (((80 : Nat) : Int) < 80) = false := by simp
            have hOb' := Lib.hid hOb.out
            generalize sm X Y but 80 = o at *
            have X8 := Lib.hid (X7.out.below (bl_drewN (bl_refl w7) q))
            have Y8 := Lib.hid (Y7.out.below (bl_drewN (bl_refl w7) q))
            have R8 := Lib.hid (RX7.out.below (bl_drewN (bl_refl w7) q))
            have T8 := Lib.hid (T7.out.below (bl_drewN (bl_refl w7) q))
            have KD8 := Lib.hid (KD7.out.below (bl_drewN (bl_refl w7) q))
            have HB8 := Lib.hid (bl_drewN HB7.out q)
            generalize w7.drewN q = w8 at *
            clear X7 Y7 RX7 T7 KD7 HB7
            go_wp2_with fail
            refine (tsame_c g2 gp2 b 80 5 c c2 X _ T8.out R8.out hXh.out rfl (by omega)).mono ?_
            rintro r w9 ⟨rfl, b9⟩
            have X9 := Lib.hid (X8.out.below b9)
            have Y9 := Lib.hid (Y8.out.below b9)
            have T9 := Lib.hid (T8.out.below b9)
            have KD9 := Lib.hid (KD8.out.below b9)
            have HB9 := Lib.hid (bl_then HB8.out b9)
            clear b9 X8 Y8 R8 T8 KD8 HB8
            go_wp2_with fail
            refine (same_c g gp by6 80 5 c6 Y _ X9.out Y9.out hYl.out rfl (by omega)).mono ?_
            rintro r w10 ⟨rfl, b9⟩
            have X8 := Lib.hid (X9.out.below b9)
            have T8 := Lib.hid (T9.out.below b9)
            have KD8 := KD9.out.below b9
            have HB8 := Lib.hid (bl_then HB9.out b9)
            have d1 := KD8.cellv 1 (.int .i64 f) rfl
            clear b9 X9 Y9 T9 KD9 HB9
            go_wp2_with fail
            refine (others_c g gp g2 gp2 5 c2 Y X (some ⟨w10.heap.size, 0, none⟩) 1 1 [f] _ (X8.out.below (bl_alloc (bl_refl w10) _)) (T8.out.below (bl_alloc (bl_refl w10) _)) (rd1 f w10 _) true ⟨fun _ => hYo.out, fun _ => rfl⟩).mono ?_
            rintro r w11 ⟨rfl, b11⟩
            have b11' := bl_then (bl_alloc (bl_refl w10) _) b11
            have X11 := Lib.hid (X8.out.below b11')
            have T11 := Lib.hid (T8.out.below b11')
            have HB11 := Lib.hid (bl_then HB8.out b11')
            clear b11 b11' X8 T8 KD8 HB8 d1
            go_wp2_with fail
            refine (others_c g gp g2 gp2 5 c2 Y X (some ⟨w11.heap.size, 0, none⟩) 1 1 [but] _ (X11.out.below (bl_alloc (bl_refl w11) _)) (T11.out.below (bl_alloc (bl_refl w11) _)) (rd1 but w11 _) o hOb'.out).mono ?_
            rintro r w12 ⟨rfl, b12⟩
            have HB12 := Lib.hid (bl_then (bl_then HB11.out (bl_alloc (bl_refl w11) _)) b12)
            have hoo : (o == o) = true := beq_self_eq_true o
            clear b12 X11 T11 HB11
            go_wp2_with fail
            refine (awake_c _).mono ?_
            rintro r w13 ⟨rfl, b13⟩
            go_wp2
            go_ret
            exact ⟨rfl, bl_then HB12.out b13⟩)

def Arg : Nat → World → Value → Prop
  | 0, w, v => Deeds w v
  | _, _, v => Deed1 v
set_option maxRecDepth 100000 in
theorem arg0 {H : Type} {enc : TypeId × Value → H} {W : World} {base : Nat} {v : Value} {d : DataW H} {p : List MemPlace} (hv : Value.okWide Try.prog W .any base 22 v)
    (h : DataW.Trod enc Try.prog W 0 (fun _ => true) true 22 v d p) : Arg 0 W v := deeds_of hv h
set_option maxRecDepth 100000 in
theorem arg1 {H : Type} {enc : TypeId × Value → H} {W : World} {base : Nat} {v : Value} {d : DataW H} {p : List MemPlace} (hv : Value.okWide Try.prog W .any base 30 v)
    (h : DataW.Trod enc Try.prog W 0 (fun _ => true) true 30 v d p) : Arg 1 W v := deed_of hv h
set_option maxRecDepth 100000 in
theorem walk (v0 v1 : Value) (a : Int) (w : World) (h0 : Arg 0 w v0) (h1 : Arg 1 w v1) (w0 : (Lit.int .i64 a).wf = true) :
    Calls Try.prog 4 #[v0, v1, .int .i64 a] w fun e w' => e = .returned (.bool true) ∧ Below w.heap.size w w' := by
  obtain ⟨A, n, cap, rfl, hf⟩ := h0
  obtain ⟨kd, f, at_, v, rfl⟩ := h1
  exact main A n cap kd f at_ v a w hf (flat_max hf)
end Go.Proofs.Ytdokmnpkihmkpaa.FramesApart
