/- TlbGone: at all deeds and every frame the law's text returns true. -/
import Derived.Test.YtdokmnpkihmkpaaTlbArg
set_option linter.unusedVariables false
namespace Go.Proofs.Ytdokmnpkihmkpaa.TlbGone
open Go.RowKit Go.Proofs.Ytdokmnpkihmkpaa.Base Go.Proofs.Ytdokmnpkihmkpaa.Row Go.Proofs.Ytdokmnpkihmkpaa.App Go.Proofs.Ytdokmnpkihmkpaa.Multi Go.Proofs.Ytdokmnpkihmkpaa.TlbMath Go.Proofs.Ytdokmnpkihmkpaa.Tlb Go.Proofs.Ytdokmnpkihmkpaa.Tlb2 Go.Proofs.Ytdokmnpkihmkpaa.Tlb3 Go.Proofs.Ytdokmnpkihmkpaa.Tlb4 Go.Proofs.Ytdokmnpkihmkpaa.Tlb5 Go.Proofs.Ytdokmnpkihmkpaa.TlbArg Go.Proofs.Ytdokmnpkihmkpaa.Flat

/-- How many of the first i do not name the frame. -/
def kc (L : List En) (f : Int) (i : Nat) : Nat := (without (L.take i) 0 f 0).length
theorem kc_zero (L : List En) (f : Int) : kc L f 0 = 0 := by simp [kc, without]
theorem isK_frame (f : Int) (x : En) : isK 0 f 0 x = (x.f == f) := by simp [isK]
theorem kc_succ {L : List En} {f : Int} {i : Nat} {x : En} (hx : L[i]? = some x) : kc L f (i + 1) = kc L f i + (if x.f == f then 0 else 1) := by
  obtain ⟨hi, rfl⟩ := List.getElem?_eq_some_iff.1 hx
  unfold kc without
  rw [List.take_succ_eq_append_getElem hi, List.filter_append, List.length_append]
  have := isK_frame f L[i]
  cases h : (L[i].f == f) <;> rw [h] at this <;> simp [this]
theorem kc_le (L : List En) (f : Int) (i : Nat) : kc L f i ≤ i := by
  unfold kc without
  exact Nat.le_trans (List.length_filter_le _ _) (by rw [List.length_take]; omega)
theorem kc_all (L : List En) (f : Int) : kc L f L.length = (without L 0 f 0).length := by rw [kc, List.take_length]
theorem kc_at {L : List En} {f : Int} {i : Nat} {x : En} (hx : L[i]? = some x) (hf : (x.f == f) = false) : (without L 0 f 0)[kc L f i]? = some x := by
  obtain ⟨hi, rfl⟩ := List.getElem?_eq_some_iff.1 hx
  have e : L = L.take i ++ (L[i] :: L.drop (i + 1)) := by rw [← List.drop_eq_getElem_cons hi, List.take_append_drop]
  have hk : isK 0 f 0 L[i] = false := by rw [isK_frame]; exact hf
  have h2 : without L 0 f 0 = without (L.take i) 0 f 0 ++ (L[i] :: without (L.drop (i + 1)) 0 f 0) := by
    conv => lhs; rw [e]
    unfold without
    rw [List.filter_append, List.filter_cons, hk]
    rfl
  rw [h2, kc, List.getElem?_append_right (Nat.le_refl _), Nat.sub_self]; rfl
theorem uni_ne {L : List En} (h : Uni L) {i j : Nat} {x y : En} (hx : L[i]? = some x) (hy : L[j]? = some y) (hj : j < i) : ¬ (x.s = y.s ∧ x.p = y.p) := by
  obtain ⟨hi, rfl⟩ := List.getElem?_eq_some_iff.1 hx
  obtain ⟨hj', rfl⟩ := List.getElem?_eq_some_iff.1 hy
  have := List.pairwise_iff_getElem.1 h.2 j i hj' hi hj
  rintro ⟨h1, h2⟩
  exact this ⟨h1.symm, h2.symm⟩
theorem without_twice (L : List En) (f : Int) : without (without L 0 f 0) 0 f 0 = without L 0 f 0 := by
  unfold without
  rw [List.filter_filter]
  simp

set_option maxRecDepth 100000 in
set_option maxHeartbeats 8000000 in
theorem main (A0 : Option Addr) (n0 c0 : Nat) (f : Int) (w : World) (hd : FlatRow w d5 A0 n0 c0) :
    Calls Try.prog 6 #[.slice A0 n0 c0, .int .i64 f] w fun e w' => e = .returned (.bool true) ∧ Below w.heap.size w w' := by
  have hdd := Lib.hid hd
  have hmx := flat_max hd
  clear hd
  go_enter Try.func6, Try.ntmps6
  go_wp2_with (first
    | (with_reducible refine wl_build0 rfl 55 rfl (tc [] 0) zero_t ?_)
    | ((refine wl_box rfl 55 _ rfl (tc [] 0) rfl ?_); intro w1 k1 b1 s1))
  go_loopw [6] (fun i wr => ∃ (k : Nat) (l : List En), k ≤ n0 ∧ i = .int .i64 k ∧ Tl wr w.heap.size l 0 ∧ Uni l ∧ Below w.heap.size w wr) (fun i _ => n0 - (intOf i).toNat)
  case atStart => exact ⟨0, [], by omega, rfl, k1, uni_nil, b1⟩
  case round =>
    clear k1 b1
    obtain ⟨k, l, hk, rfl, HT, HU, HB⟩ := hrel
    obtain ⟨wo, rfl⟩ : ∃ wo : World, wo = wr := ⟨_, rfl⟩
    have hstop : (k < n0 ∧ k < 60) ∨ ((decide ((k : Int) < (n0 : Int)) = false ∧ n0 ≤ k) ∨ (decide ((k : Int) < (n0 : Int)) = true ∧ decide ((k : Int) < 60) = false ∧ k < n0)) := by
      by_cases h1 : k < n0
      · by_cases h2 : k < 60
        · exact .inl ⟨h1, h2⟩
        · exact .inr (.inr ⟨by simp; omega, by simp; omega, h1⟩)
      · exact .inr (.inl ⟨by simp; omega, by omega⟩)
    rcases hstop with ⟨hlt, hlt60⟩ | hstop
    · have hq : decide ((k : Int) < (n0 : Int)) = true := by simp; omega
      have hq2 : decide ((k : Int) < 60) = true := by simp; omega
      obtain ⟨ad, kd, y, rfl, DA⟩ := deed_at hdd.out k hlt
      obtain ⟨e0, e1, e2, e3, e4⟩ := DA.below HB
      have hE := Lib.hid (fun w' => entry_c y w')
      have hP := Lib.hid (fun w' h => put_c w.heap.size l 0 y w' h HU)
      have hU2 := Lib.hid (put_uni HU y)
      have hA2 := Lib.hid (fun w' h => all_c w.heap.size (put l y) 0 w' h (put_uni HU y).1)
      generalize put l y = l2 at *
      have hl2 : l2.length ≤ 8 := hU2.out.1
      clear DA
      go_wp2_with fail
      refine (hE.out _).mono ?_
      rintro r w2 ⟨rfl, b2⟩
      have h2 := Blk.below HT b2
      have B2 := bl_then HB b2
      clear e0 e1 e2 e3 e4 HT HB
      go_wp2_with fail
      refine (hP.out _ h2).mono ?_
      rintro r w3 ⟨rfl, h3, g3⟩
      have B3 := below_grown B2 B2.size g3 (Nat.le_refl _)
      go_wp2_with fail
      refine (hA2.out _ h3).mono ?_
      rintro r w4 ⟨⟨A4, c4, rfl, _⟩, b4⟩
      have h4 := Blk.below h3 b4
      have q4 : decide (8 < (l2.length : Int)) = false := by simp; omega
      go_wp2_with fail
      go_roundw
      case rel => exact ⟨k + 1, l2, by omega, by go_num, h4, hU2.out, bl_then B3 b4⟩
      case measure => first | (simp [intOf]; done) | (simp [intOf]; omega)
    · have hA1 := Lib.hid (fun w' h => all_c w.heap.size l 0 w' h HU.1)
      have hD := Lib.hid (fun w' h => frame_c w.heap.size l 0 f w' h HU.1)
      have hF8 : (without l 0 f 0).length ≤ 8 := (without_uni HU 0 f 0).1
      have hFl := without_le l 0 f 0
      have hl8 := HU.1
      have hA2 := Lib.hid (fun w' h => all_c w.heap.size (without l 0 f 0) 0 w' h hF8)
      have hD2 := Lib.hid (fun w' h => frame_c w.heap.size (without l 0 f 0) 0 f w' h hF8)
      rw [without_twice, Int.sub_self] at hD2
      have hU := Lib.hid HU
      clear HU hdd hmx
      rcases hstop with ⟨q1, q3⟩ | ⟨q1, q2, q3⟩
      all_goals (
        go_wp2_with fail
        refine (hA1.out _ HT).mono ?_
        rintro r w2 ⟨⟨A2, c2, rfl, HO2⟩, b2⟩
        have h2 := Blk.below HT b2
        have B2 := bl_then HB b2
        have z2 := HB.size
        have zg := Blk.lt HT
        have R2 := RF.of_own ev_len (by decide) HO2
        have I2 : IsT ev 4 52 w2 A2 l.length c2 l := ist_own ev_len (by decide) HO2
        clear HO2
        go_wp2_with fail
        refine (hD.out _ h2).mono ?_
        rintro r w3 ⟨rfl, h3, g3⟩
        have I3 := ist_far I2 g3 h2 (by decide)
        have B3 := below_grown B2 B2.size g3 (Nat.le_refl _)
        clear HT HB q1 q3
        go_wp2_with fail
        refine (hA2.out _ h3).mono ?_
        rintro r w4 ⟨⟨A4, c4, rfl, HO4⟩, b4⟩
        have I4 : IsT ev 4 52 w4 A4 (without l 0 f 0).length c4 (without l 0 f 0) := ist_own ev_len (by decide) HO4
        have I24 := ist_below I3 b4
        have h4 := Blk.below h3 b4
        have B4 := bl_then B3 b4
        clear HO4 I3 I2 R2 b2 h2 g3 h3 b4 B2 B3
        have hkc := Lib.hid (kc_all l f)
        have hmx2 := I24.1.max
        generalize hL : l.length = L at *
        generalize hM : (without l 0 f 0).length = M at *
        have hL' := Lib.hid hL
        have hM' := Lib.hid hM
        clear hL hM
        go_wp2_with fail
        go_loopw [8, 10, 11] (fun a b i wr => ∃ (k : Nat), k ≤ L ∧ a = .int .i64 ((L : Int) - (M : Int) - ((k : Int) - (kc l f k : Int))) ∧ b = .int .i64 (kc l f k : Nat) ∧ i = .int .i64 k ∧ Below w4.heap.size w4 wr) (fun _ _ i _ => L - (intOf i).toNat)
        case atStart => exact ⟨0, by omega, by rw [kc_zero]; simp, by rw [kc_zero]; rfl, rfl, bl_refl _⟩
        case round =>
          obtain ⟨k, hk, rfl, rfl, rfl, HBk⟩ := hrel
          obtain ⟨wk, rfl⟩ : ∃ wk : World, wk = wr := ⟨_, rfl⟩
          by_cases hkL : k < L
          · have hq : decide ((k : Int) < (L : Int)) = true := by simp; omega
            have hkLi : (k : Int) < (L : Int) := by omega
            obtain ⟨g, o, x, rfl, hx, hcells⟩ := (I24.1.below HBk).at_ k hkL
            have hxx := Lib.hid hx
            have hce := Lib.hid hcells
            clear hx hcells
            have hIa := Lib.hid I24
            go_wp2_with fail
            go_loopw [12] (fun i wr => ∃ (j : Nat), j ≤ k ∧ i = .int .i64 j ∧ Below w4.heap.size w4 wr) (fun i _ => k - (intOf i).toNat)
            case atStart => exact ⟨0, by omega, rfl, HBk⟩
            case round =>
              obtain ⟨j, hj, rfl, HBj⟩ := hrel
              obtain ⟨wj, rfl⟩ : ∃ wj : World, wj = wr := ⟨_, rfl⟩
              obtain ⟨g', o', x', hA', hx', hcx⟩ := (I24.1.below HBj).at_ k hkL
              injection hA' with hA'
              injection hA' with hg' ho' _
              subst hg' ho'
              obtain rfl : x' = x := by
                have := hxx.out
                rw [hx'] at this
                injection this
              obtain ⟨c0, c1, c2, c3⟩ := range4 hcx
              clear hx' hcx
              by_cases hjk : j < k
              · have hq1 : decide ((j : Int) < (k : Int)) = true := by simp; omega
                have hji : (j : Int) < (L : Int) := by omega
                obtain ⟨g', o', y, hA', hy, hcy⟩ := (I24.1.below HBj).at_ j (by omega)
                injection hA' with hA'
                injection hA' with hg' ho' _
                subst hg' ho'
                obtain ⟨d0, d1, d2, d3⟩ := range4 hcy
                have hne := uni_ne hU.out hxx.out hy hjk
                clear hy hcy
                by_cases hs : x'.s = y.s
                · have q3 : (x'.s == y.s) = true := by simp [hs]
                  have q4 : (x'.p == y.p) = false := by
                    rw [beq_eq_false_iff_ne]
                    exact fun h => hne ⟨hs, h⟩
                  clear hne hs
                  go_wp2_with fail
                  go_quiet (fail)
                  go_wp2_with fail
                  go_roundw
                  case rel => exact ⟨j + 1, by omega, by go_num, bl_drewN HBj _⟩
                  case measure => first | (simp [intOf]; done) | (simp [intOf]; omega)
                · have q3 : (x'.s == y.s) = false := by simpa using hs
                  clear hne hs
                  go_wp2_with fail
                  go_quiet (fail)
                  go_wp2_with fail
                  go_roundw
                  case rel => exact ⟨j + 1, by omega, by go_num, bl_drewN HBj _⟩
                  case measure => first | (simp [intOf]; done) | (simp [intOf]; omega)
              · have hq1 : decide ((j : Int) < (k : Int)) = false := by simp; omega
                have hcs := Lib.hid (kc_succ (f := f) hxx.out)
                have hcl := Lib.hid (kc_le l f k)
                cases q3 : (x'.f == f) with
                | true =>
                  have hw2 : Hid (wrap64 ((L : Int) - (M : Int) - ((k : Int) - (kc l f k : Int)) - 1) = (L : Int) - (M : Int) - (((k + 1 : Nat) : Int) - (kc l f k : Int))) := Lib.hid (by
                    have h1 := hcl.out
                    unfold wrap64; omega)
                  have hn1 : Hid (kc l f (k + 1) = kc l f k) := Lib.hid (by rw [hcs.out, q3]; rfl)
                  go_wp2_with fail
                  go_roundw
                  case rel => exact ⟨k + 1, by omega, by rw [hn1.out]; exact congrArg (Value.int .i64) hw2.out, by rw [hn1.out], by go_num, HBj⟩
                  case measure => first | (simp [intOf]; done) | (simp [intOf]; omega)
                | false =>
                  have hn1 : Hid (kc l f (k + 1) = kc l f k + 1) := Lib.hid (by rw [hcs.out, q3]; rfl)
                  have hat := Lib.hid (kc_at hxx.out q3)
                  have hcM : kc l f k < M := by
                    have h1 := (List.getElem?_eq_some_iff.1 hat.out).1
                    rw [hM'.out] at h1
                    exact h1
                  have q4 : decide ((M : Int) ≤ ((kc l f k : Nat) : Int)) = false := by simp; omega
                  have hci : ((kc l f k : Nat) : Int) < (M : Int) := by omega
                  obtain ⟨g4, o4, x4, rfl, hx4, hcx4⟩ := (I4.1.below HBj).at_ (kc l f k) hcM
                  obtain rfl : x4 = x' := by
                    have := hat.out
                    rw [hx4] at this
                    injection this
                  obtain ⟨d0, d1, d2, d3⟩ := range4 hcx4
                  have hw : Hid (wrap64 (((kc l f k : Nat) : Int) + 1) = ((kc l f k + 1 : Nat) : Int)) := Lib.hid (by
                    have h1 := hcl.out
                    unfold wrap64; omega)
                  have q5 : decide (M ≤ kc l f k) = false := by simp; omega
                  clear hx4 hcx4
                  go_wp2_with fail
                  go_quiet (fail)
                  go_wp2_with fail
                  go_roundw
                  case rel => exact ⟨k + 1, by omega, by rw [hn1.out]; exact congrArg (Value.int .i64) (by omega), by rw [hn1.out]; first | exact congrArg (Value.int .i64) hw.out | go_num, by go_num, bl_drewN HBj _⟩
                  case measure => first | (simp [intOf]; done) | (simp [intOf]; omega)
          · obtain rfl : k = L := by omega
            have hq : decide ((k : Int) < (k : Int)) = false := by simp
            have hkM : kc l f k = M := hkc.out
            generalize kc l f k = K at *
            subst hkM
            have hz : (k : Int) - (K : Int) - ((k : Int) - (K : Int)) = 0 := by omega
            have h4k := Blk.below h4 HBk
            have Bk := bl_then B4 HBk
            go_wp2_with fail
            refine (hD2.out _ h4k).mono ?_
            rintro r w5 ⟨rfl, h5, g5⟩
            have B5 := below_grown Bk Bk.size g5 (Nat.le_refl _)
            go_wp2_with fail
            refine (awake_c _).mono ?_
            rintro r w6 ⟨rfl, b6⟩
            go_wp2
            go_ret
            exact ⟨rfl, bl_then B5 b6⟩)

def Arg (i : Nat) (w : World) (v : Value) : Prop := Deeds w v
set_option maxRecDepth 100000 in
theorem arg0 {H : Type} {enc : TypeId × Value → H} {W : World} {base : Nat} {v : Value} {d : DataW H} {p : List MemPlace} (hv : Value.okWide Try.prog W .any base 49 v)
    (h : DataW.Trod enc Try.prog W 0 (fun _ => true) true 49 v d p) : Arg 0 W v := deeds_of hv h
theorem walk (v0 : Value) (f : Int) (w : World) (h0 : Arg 0 w v0) (_ : (Lit.int .i64 f).wf = true) :
    Calls Try.prog 6 #[v0, .int .i64 f] w fun e w' => e = .returned (.bool true) ∧ Below w.heap.size w w' := by
  obtain ⟨A, n, c, rfl, hf⟩ := h0
  exact main A n c f w hf
end Go.Proofs.Ytdokmnpkihmkpaa.TlbGone
