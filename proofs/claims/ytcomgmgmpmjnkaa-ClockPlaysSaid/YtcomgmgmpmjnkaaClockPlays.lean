/- ClockPlays: at all deeds the law's text returns true. -/
import Derived.Test.YtcomgmgmpmjnkaaClock3
import Derived.Deep.RegionHeld3
set_option linter.unusedVariables false
namespace Go.Proofs.Ytcomgmgmpmjnkaa.ClockPlays
open Go.RowKit Go.ChangeShapes Go.WideShapes Go.Deep Go.Proofs.Ytcomgmgmpmjnkaa.Base Go.Proofs.Ytcomgmgmpmjnkaa.Row Go.Proofs.Ytcomgmgmpmjnkaa.Clock Go.Proofs.Ytcomgmgmpmjnkaa.Clock2 Go.Proofs.Ytcomgmgmpmjnkaa.Clock3 Go.Proofs.Ytcomgmgmpmjnkaa.Flat

theorem f_int : FlatOf Try.prog 3 [isI .i64] := flat_int Try.underlying3 (by kernel_rfl)
theorem f_u64 : FlatOf Try.prog 22 [isI .u64] := flat_int Try.underlying22 (by kernel_rfl)
def d4 : List (Value → Prop) := ([[isI .i64], [isI .i64], [isI .i64], [isI .u64]] : List (List (Value → Prop))).flatten
theorem f_deed : FlatOf Try.prog 54 d4 :=
  flat_struct Try.underlying54 _ (by kernel_rfl) fun j ps h => by
    match j, h with
    | 0, h => simp at h; subst h; exact ⟨_, rfl, rfl, f_int⟩
    | 1, h => simp at h; subst h; exact ⟨_, rfl, rfl, f_int⟩
    | 2, h => simp at h; subst h; exact ⟨_, rfl, rfl, f_int⟩
    | 3, h => simp at h; subst h; exact ⟨_, rfl, rfl, f_u64⟩
def Deeds (w : World) (v : Value) : Prop := ∃ A n c, v = .slice A n c ∧ FlatRow w d4 A n c
set_option maxRecDepth 100000 in
theorem deeds_of {H : Type} {enc : TypeId × Value → H} {W : World} {base : Nat} {v : Value} {d : DataW H} {p : List MemPlace} (hv : Value.okWide Try.prog W .any base 39 v)
    (h : DataW.Trod enc Try.prog W 0 (fun _ => true) true 39 v d p) : Deeds W v := by
  obtain ⟨A, n, c, hv', hf⟩ := open_flat_slice Try.underlying39 f_deed hv h
  exact ⟨A, n, c, hv', hf⟩
theorem flat_max {w : World} {ps : List (Value → Prop)} {A : Option Addr} {n c : Nat} (h : FlatRow w ps A n c) : n ≤ 9223372036854775807 := by
  rcases h with ⟨_, h, _⟩ | ⟨_, _, h1, h2, _⟩
  · omega
  · simp only [maxLen] at h2; omega
theorem add_lit (a : Addr) (i j : Nat) (hj : j ≠ 0) : a.add (i + j) = ⟨(a.add i).block, (a.add i).off + j, none⟩ := by
  rw [← add_off]
  generalize a.add i = b
  unfold Addr.add
  rw [if_neg hj]
/-- A deed's cells. -/
def DeedAt (w : World) (q : Addr) (kd e n T : Int) : Prop :=
  w.cell? q = some (.int .i64 kd) ∧ w.cell? ⟨q.block, q.off + 1, none⟩ = some (.int .i64 e) ∧ w.cell? ⟨q.block, q.off + 2, none⟩ = some (.int .i64 n) ∧ w.cell? ⟨q.block, q.off + 3, none⟩ = some (.int .u64 T)
theorem DeedAt.below {w w1 : World} {q : Addr} {kd e n T : Int} (h : DeedAt w q kd e n T) (hb : Below w.heap.size w w1) : DeedAt w1 q kd e n T :=
  ⟨bl_cell hb h.1, bl_cell hb h.2.1, bl_cell hb h.2.2.1, bl_cell hb h.2.2.2⟩
theorem deed_at {w : World} {A : Option Addr} {n c : Nat} (h : FlatRow w d4 A n c) (k : Nat) (hk : k < n) :
    ∃ (ad : Addr) (kd e n T : Int), A = some ad ∧ DeedAt w (ad.add (k * 4)) kd e n T := by
  rcases h with ⟨_, h0, _⟩ | ⟨ad, rfl, _, _, hi⟩
  · omega
  obtain ⟨_, h0, a, rfl, _⟩ := hi k hk 0 _ rfl
  obtain ⟨_, h1, b, rfl, _⟩ := hi k hk 1 _ rfl
  obtain ⟨_, h2, c, rfl, _⟩ := hi k hk 2 _ rfl
  obtain ⟨_, h3, d, rfl, _⟩ := hi k hk 3 _ rfl
  refine ⟨ad, a, b, c, d, rfl, h0, ?_, ?_, ?_⟩
  · rw [← add_lit ad (k * 4) 1 (by omega)]; exact h1
  · rw [← add_lit ad (k * 4) 2 (by omega)]; exact h2
  · rw [← add_lit ad (k * 4) 3 (by omega)]; exact h3

def da (kd e n T : Int) : Array Value := #[.int .i64 kd, .int .i64 e, .int .i64 n, .int .u64 T]
def z16 : List Int := [0, 0, 0, 0, 0, 0, 0, 0, 0, 0, 0, 0, 0, 0, 0, 0]
theorem zero_c : Try.prog.built 42 [] = some #[.int .u64 0] := by kernel_rfl
theorem zero_m : Try.prog.built 48 [] = some (mc z16) := by kernel_rfl
theorem zero_a : Try.prog.built 34 [] = some #[.int .u64 0, .int .u32 (bit false)] := by kernel_rfl
theorem zero_s : Try.prog.built 52 [] = some (sc 0 z16 0 false) := by kernel_rfl

/-- The two systems in memory, and the deed at hand. -/
structure Sy (w : World) (gc gm ga gx gd : Nat) (t : Int) (S : List Int) (a : Int) (b : Bool) (D : Array Value) : Prop where
  c : Cl w gc t
  m : Mt w gm S
  al : Al w ga a b
  st : St w gx t S a b
  d : Blk w gd 54 D
theorem Sy.below {w w1 : World} {gc gm ga gx gd : Nat} {t : Int} {S : List Int} {a : Int} {b : Bool} {D : Array Value} (h : Sy w gc gm ga gx gd t S a b D) (hb : Below w.heap.size w w1) : Sy w1 gc gm ga gx gd t S a b D :=
  ⟨Blk.below h.c hb, Blk.below h.m hb, Blk.below h.al hb, Blk.below h.st hb, h.d.below hb⟩
section
variable {w w1 : World} {gc gm ga gx gd : Nat} {t tc : Int} {S Sm : List Int} {a aa : Int} {b ba : Bool} {D : Array Value}
/-- All parts, each with what it holds. -/
structure Sz (w : World) (gc gm ga gx gd : Nat) (tc : Int) (Sm : List Int) (aa : Int) (ba : Bool) (t : Int) (S : List Int) (a : Int) (b : Bool) (D : Array Value) : Prop where
  c : Cl w gc tc
  m : Mt w gm Sm
  al : Al w ga aa ba
  st : St w gx t S a b
  d : Blk w gd 54 D
theorem Sz.below (h : Sz w gc gm ga gx gd tc Sm aa ba t S a b D) (hb : Below w.heap.size w w1) : Sz w1 gc gm ga gx gd tc Sm aa ba t S a b D :=
  ⟨Blk.below h.c hb, Blk.below h.m hb, Blk.below h.al hb, Blk.below h.st hb, h.d.below hb⟩
theorem Sz.setc (h : Sz w gc gm ga gx gd tc Sm aa ba t S a b D) {t' : Int} (hg : w.grownBy w1 (some gc)) (k : Cl w1 gc t') : Sz w1 gc gm ga gx gd t' Sm aa ba t S a b D :=
  ⟨k, Blk.grown h.m hg (fun e => by injection e with e; exact Blk.ne_ h.m h.c (by decide) e), Blk.grown h.al hg (fun e => by injection e with e; exact Blk.ne_ h.al h.c (by decide) e), Blk.grown h.st hg (fun e => by injection e with e; exact Blk.ne_ h.st h.c (by decide) e), h.d.grown hg (fun e => by injection e with e; exact Blk.ne_ h.d h.c (by decide) e)⟩
theorem Sz.setm (h : Sz w gc gm ga gx gd tc Sm aa ba t S a b D) {S' : List Int} (hg : w.grownBy w1 (some gm)) (k : Mt w1 gm S') : Sz w1 gc gm ga gx gd tc S' aa ba t S a b D :=
  ⟨Blk.grown h.c hg (fun e => by injection e with e; exact Blk.ne_ h.c h.m (by decide) e), k, Blk.grown h.al hg (fun e => by injection e with e; exact Blk.ne_ h.al h.m (by decide) e), Blk.grown h.st hg (fun e => by injection e with e; exact Blk.ne_ h.st h.m (by decide) e), h.d.grown hg (fun e => by injection e with e; exact Blk.ne_ h.d h.m (by decide) e)⟩
theorem Sz.seta (h : Sz w gc gm ga gx gd tc Sm aa ba t S a b D) {a' : Int} {b' : Bool} (hg : w.grownBy w1 (some ga)) (k : Al w1 ga a' b') : Sz w1 gc gm ga gx gd tc Sm a' b' t S a b D :=
  ⟨Blk.grown h.c hg (fun e => by injection e with e; exact Blk.ne_ h.c h.al (by decide) e), Blk.grown h.m hg (fun e => by injection e with e; exact Blk.ne_ h.m h.al (by decide) e), k, Blk.grown h.st hg (fun e => by injection e with e; exact Blk.ne_ h.st h.al (by decide) e), h.d.grown hg (fun e => by injection e with e; exact Blk.ne_ h.d h.al (by decide) e)⟩
theorem Sz.sets (h : Sz w gc gm ga gx gd tc Sm aa ba t S a b D) {t' : Int} {S' : List Int} {a' : Int} {b' : Bool} (hg : w.grownBy w1 (some gx)) (k : St w1 gx t' S' a' b') : Sz w1 gc gm ga gx gd tc Sm aa ba t' S' a' b' D :=
  ⟨Blk.grown h.c hg (fun e => by injection e with e; exact Blk.ne_ h.c h.st (by decide) e), Blk.grown h.m hg (fun e => by injection e with e; exact Blk.ne_ h.m h.st (by decide) e), Blk.grown h.al hg (fun e => by injection e with e; exact Blk.ne_ h.al h.st (by decide) e), k, h.d.grown hg (fun e => by injection e with e; exact Blk.ne_ h.d h.st (by decide) e)⟩
end
theorem clear_eq (S : List Int) (e : Nat) (h : e < 16) : pClear S e = S.set e 0 := by simp [pClear, inB_yes e h]
theorem clear_no (S : List Int) (e : Int) (h : inB e = false) : pClear S e = S := by simp [pClear, h]
theorem sum_succ (S : List Int) (k : Nat) : sum S (k + 1) = wrap64 (sum S k + S[k]?.getD 0) := rfl

set_option maxRecDepth 100000 in
set_option maxHeartbeats 16000000 in
theorem main (A0 : Option Addr) (n0 c0 : Nat) (w : World) (hd : FlatRow w d4 A0 n0 c0) :
    Calls Try.prog 4 #[.slice A0 n0 c0] w fun e w' => e = .returned (.bool true) ∧ Below w.heap.size w w' := by
  have hdd := Lib.hid hd
  have hmx := flat_max hd
  clear hd
  go_enter Try.func4, Try.ntmps4
  go_wp2_with (first
    | (with_reducible refine wl_build0 rfl 42 rfl #[.int .u64 0] zero_c ?_)
    | (with_reducible refine wl_build0 rfl 48 rfl (mc z16) zero_m ?_)
    | (with_reducible refine wl_build0 rfl 34 rfl #[.int .u64 0, .int .u32 (bit false)] zero_a ?_)
    | (with_reducible refine wl_build0 rfl 52 rfl (sc 0 z16 0 false) zero_s ?_)
    | ((refine wl_box rfl 42 _ rfl #[.int .u64 0] rfl ?_); intro w1 k1 b1 s1)
    | ((refine wl_box rfl 48 _ rfl (mc z16) rfl ?_); intro w2 k2 b2 s2)
    | ((refine wl_box rfl 34 _ rfl #[.int .u64 0, .int .u32 (bit false)] rfl ?_); intro w3 k3 b3 s3)
    | ((refine wl_box rfl 52 _ rfl (sc 0 z16 0 false) rfl ?_); intro w4 k4 b4 s4))
  have z1 := b1.size
  have z2 := b2.size
  have z3 := b3.size
  have C4 : Cl w4 w.heap.size 0 := ((k1.below b2).below b3).below b4
  have M4 : Mt w4 w1.heap.size z16 := (k2.below b3).below b4
  have A4 : Al w4 w2.heap.size 0 false := k3.below b4
  have S4 : St w4 w3.heap.size 0 z16 0 false := k4
  have B4 := bl_then (bl_then (bl_then b1 b2) b3) b4
  have zm : w.heap.size ≤ w1.heap.size := z1
  have za : w.heap.size ≤ w2.heap.size := by omega
  have zx : w.heap.size ≤ w3.heap.size := by omega
  clear k1 k2 k3 k4 b1 b2 b3 b4
  generalize w1.heap.size = gm at *
  generalize w2.heap.size = ga at *
  generalize w3.heap.size = gx at *
  go_loopw [7] (fun i wr => ∃ (k : Nat) (t : Int) (S : List Int) (a : Int) (b : Bool), k ≤ n0 ∧ k ≤ 100 ∧ i = .int .i64 k ∧ S.length = 16 ∧ Cl wr w.heap.size t ∧ Mt wr gm S ∧ Al wr ga a b ∧ St wr gx t S a b ∧ Below w.heap.size w wr) (fun i _ => 101 - (intOf i).toNat)
  case atStart => exact ⟨0, 0, z16, 0, false, by omega, by omega, rfl, rfl, C4, M4, A4, S4, B4⟩
  case round =>
    clear C4 M4 A4 S4 B4
    obtain ⟨k, t, S, a, b, hk, hk100, rfl, hl, KC, KM, KA, KS, HB⟩ := hrel
    obtain ⟨wo, rfl⟩ : ∃ wo : World, wo = wr := ⟨_, rfl⟩
    have hstop : (k < n0 ∧ k < 100) ∨ ((decide ((k : Int) < (n0 : Int)) = false ∧ n0 ≤ k) ∨ (decide ((k : Int) < (n0 : Int)) = true ∧ decide ((k : Int) < 100) = false ∧ k < n0)) := by
      by_cases h1 : k < n0
      · by_cases h2 : k < 100
        · exact .inl ⟨h1, h2⟩
        · exact .inr (.inr ⟨by simp; omega, by simp; omega, h1⟩)
      · exact .inr (.inl ⟨by simp; omega, by omega⟩)
    rcases hstop with ⟨hlt, hlt100⟩ | hstop
    · have hq : decide ((k : Int) < (n0 : Int)) = true := by simp; omega
      have hq2 : decide ((k : Int) < 100) = true := by simp; omega
      obtain ⟨ad, kd, e, n, T, rfl, DA⟩ := deed_at hdd.out k hlt
      obtain ⟨e0, e1, e2, e3⟩ := DA.below HB
      have zg := Blk.lt KC
      clear DA
      have KZ : Sz (wo.alloc (.cells #[.int .i64 kd, .int .i64 e, .int .i64 n, .int .u64 T] 54)) w.heap.size gm ga gx wo.heap.size t S a b t S a b (da kd e n T) := ⟨Blk.alloc KC _, Blk.alloc KM _, Blk.alloc KA _, Blk.alloc KS _, Blk.new wo _ _⟩
      have HB7 := bl_alloc HB (.cells #[.int .i64 kd, .int .i64 e, .int .i64 n, .int .u64 T] 54)
      have hll := Lib.hid hl
      clear KC KM KA KS HB
      generalize hW7 : wo.alloc (.cells #[.int .i64 kd, .int .i64 e, .int .i64 n, .int .u64 T] 54) = w7 at KZ HB7
      have hcase : kd = 0 ∨ kd = 1 ∨ kd = 2 ∨ kd = 3 ∨ kd = 4 ∨ kd = 5 ∨ ((kd == 0) = false ∧ (kd == 1) = false ∧ (kd == 2) = false ∧ (kd == 3) = false ∧ (kd == 4) = false ∧ (kd == 5) = false) := by
        by_cases h0 : kd = 0
        · exact .inl h0
        by_cases h1 : kd = 1
        · exact .inr (.inl h1)
        by_cases h2 : kd = 2
        · exact .inr (.inr (.inl h2))
        by_cases h3 : kd = 3
        · exact .inr (.inr (.inr (.inl h3)))
        by_cases h4 : kd = 4
        · exact .inr (.inr (.inr (.inr (.inl h4))))
        by_cases h5 : kd = 5
        · exact .inr (.inr (.inr (.inr (.inr (.inl h5)))))
        exact .inr (.inr (.inr (.inr (.inr (.inr ⟨by simpa using h0, by simpa using h1, by simpa using h2, by simpa using h3, by simpa using h4, by simpa using h5⟩)))))
      rcases hcase with rfl | rfl | rfl | rfl | rfl | rfl | ⟨q0, q1, q2, q3, q4, q5⟩
      · as_aux_lemma =>
        have f0 := KZ.d.cellv 0 (.int .i64 0) rfl
        have f1 := KZ.d.cellv 1 (.int .i64 e) rfl
        have f2 := KZ.d.cellv 2 (.int .i64 n) rfl
        have f3 := KZ.d.cellv 3 (.int .u64 T) rfl
        have cn := Blk.cellv KZ.st 0 (.int .u64 t) rfl
        have hsz : Hid (0 < (sc t S a b).size) := Lib.hid (by rw [sc_size _ _ _ _ hll.out]; omega)
        have hG := Lib.hid (fun w' h => go_c w.heap.size w' t T h)
        go_wp2_with fail
        refine wp_region_still_tail 10 (by kernel_rfl) (by kernel_rfl) ?_
        simp only [List.take_succ_cons, List.take_zero, List.drop_succ_cons, List.drop_zero]
        repeat still_step
        refine wpStill_nil ?_
        change wpList _ _ _ _ _ w7.drew
        clear cn hW7
        refine wl_set rfl 22 (.tmp 46) (.tmp 44) rfl gx 0 rfl (.int .u64 (IntKind.u64.wrap (t + T))) rfl rfl 52 (sc t S a b) (Blk.drew KZ.st) size_u hsz.out ?_
        intro w8 k8 g8 s8
        rw [sc_set0] at k8
        generalize IntKind.u64.wrap (t + T) = t2 at *
        have KY := (KZ.below (bl_drew (bl_refl w7))).sets g8 k8
        have HY := below_grown (bl_drew HB7) (bl_drew HB7).size g8 zx
        have f3 := (KY.d.drew).cellv 3 (.int .u64 T) rfl
        have g0 := Blk.cellv (Blk.drew KY.st) 0 (.int .u64 t2) rfl
        have KY := KY.below (bl_drew (bl_refl w8))
        have HY := bl_drew HY
        have n1 : (t2 != t2) = false := by simp
        go_wp2_with fail
        go_region_held3 (fun w' => w'.cell? ⟨wo.heap.size, 3, none⟩ = some (.int .u64 T) ∧ w'.cell? ⟨gx, 0, none⟩ = some (.int .u64 t2))
          (first
            | exact ⟨KY.d.cellv 3 _ rfl, Blk.cellv KY.st 0 _ rfl⟩
            | go_keep)
          (first
            | (go_at_call 16; refine (hG.out _ KY.c).mono ?_; rintro r wa ⟨rfl, ka, gq⟩; have KY := KY.setc gq ka; have HY := below_grown HY HY.size gq (Nat.le_refl _)))
        all_goals (
          go_wp2_with fail
          clear f0 f1 f2 f3
          have hl2 := Lib.hid (show (S).length = 16 from hll.out)
          go_loopw [9, 10] (fun n' i' wr => ∃ (j : Nat), j ≤ 16 ∧ n' = .int .i64 (sum (S) j) ∧ i' = .int .i64 j ∧ Sz wr w.heap.size gm ga gx wo.heap.size (t2) (S) (a) (b) (t2) (S) (a) (b) (da 0 e n T) ∧ Below w.heap.size w wr) (fun _ i' _ => 16 - (intOf i').toNat)
          case atStart => exact ⟨0, by omega, rfl, rfl, KY, HY⟩
          case round =>
            clear KY HY
            obtain ⟨j, hj, rfl, rfl, KX, HX⟩ := hrel
            obtain ⟨wx, rfl⟩ : ∃ wx : World, wx = wr := ⟨_, rfl⟩
            by_cases hj16 : j < 16
            · have hqj : decide ((j : Int) < 16) = true := by simp; omega
              have hji : (j : Int) < 16 := by omega
              have hcell := Blk.cellv KX.st (1 + j) _ (sc_get (t2) (S) (a) (b) j (by have := hl2.out; omega))
              have hss := Lib.hid (sum_succ (S) j)
              generalize (S)[j]?.getD 0 = v at *
              generalize hsj : sum (S) j = sj at *
              have hsj' := Lib.hid hsj
              clear hsj
              go_wp2_with fail
              go_roundw
              case rel => exact ⟨j + 1, by omega, by rw [hss.out], by go_num, KX, HX⟩
              case measure => first | (simp [intOf]; done) | (simp [intOf]; omega)
            · obtain rfl : j = 16 := by omega
              have hqj : decide (((16 : Nat) : Int) < 16) = false := by simp
              have hN := Lib.hid (fun w' h => now_c w.heap.size w' (t2) h)
              have hP := Lib.hid (fun w' h => spent_c gm e (S) w' h hl2.out)
              have hO := Lib.hid (fun w' h => rof_c gx (t2) (S) (a) (b) e w' h hl2.out)
              have hA := Lib.hid (fun w' h => all_c gm (S) w' h hl2.out)
              have hKX := Lib.hid KX
              obtain ⟨p, hp⟩ : ∃ p, pOf (S) e = p := ⟨_, rfl⟩
              rw [hp] at hP hO
              have hp' := Lib.hid hp
              clear hp
              generalize hsj : sum (S) 16 = sj at *
              have hsj' := Lib.hid hsj
              clear hsj
              have f1 : wx.drew.cell? ⟨wo.heap.size, 1, none⟩ = some (.int .i64 e) := KX.d.drew.cellv 1 _ rfl
              have g0 : wx.drew.cell? ⟨gx, 0, none⟩ = some (.int .u64 (t2)) := Blk.cellv (Blk.drew KX.st) 0 _ rfl
              have HD := bl_drew HX
              have KD := KX.below (bl_drew (bl_refl wx))
              have n1 : ((t2) != (t2)) = false := by simp
              have n2 : (p != p) = false := by simp
              have n3 : (sj != sj) = false := by simp
              go_wp2_with fail
              go_region_held3 (fun w' => w'.cell? ⟨wo.heap.size, 1, none⟩ = some (.int .i64 e) ∧ w'.cell? ⟨gx, 0, none⟩ = some (.int .u64 (t2)))
                (first
                  | exact ⟨KD.d.cellv 1 _ rfl, Blk.cellv KD.st 0 _ rfl⟩
                  | go_keep)
                (first
                  | (go_at_call 22; refine (hN.out _ KD.c).mono ?_; rintro r wa ⟨rfl, rfl⟩)
                  | (go_at_call 23; refine (hP.out _ KD.m).mono ?_; rintro r wa ⟨rfl, rfl⟩)
                  | (go_at_call 20; refine (hO.out _ KD.st).mono ?_; rintro r wa ⟨rfl, rfl⟩)
                  | (go_at_call 24; refine (hA.out _ KD.m).mono ?_; rintro r wa ⟨rfl, rfl⟩))
              all_goals (
                clear f1 g0
                go_wp2_with fail
                go_roundw
                case rel => exact ⟨k + 1, t2, S, a, b, by omega, by omega, by go_num, hl2.out, KD.c, KD.m, KD.al, KD.st, HD⟩
                case measure => first | (simp [intOf]; done) | (simp [intOf]; omega)))
      · as_aux_lemma =>
        have f0 := KZ.d.cellv 0 (.int .i64 1) rfl
        have f1 := KZ.d.cellv 1 (.int .i64 e) rfl
        have f2 := KZ.d.cellv 2 (.int .i64 n) rfl
        have f3 := KZ.d.cellv 3 (.int .u64 T) rfl
        have hM := Lib.hid (fun w' h => spend_c gm e n S w' h hll.out)
        have hR := Lib.hid (fun w' h => rspend_c gx t S a b e n w' h hll.out)
        have hle := Lib.hid (spend_len S e n)
        generalize spB e n = sb at *
        generalize pSpend S e n = S2 at *
        have KY := KZ.below (bl_drew (bl_refl w7))
        have HY := bl_drew HB7
        have n1 : (sb != sb) = false := by cases sb <;> rfl
        go_wp2_with fail
        clear hW7
        go_region_held3 (fun w' => w'.cell? ⟨wo.heap.size, 1, none⟩ = some (.int .i64 e) ∧ w'.cell? ⟨wo.heap.size, 2, none⟩ = some (.int .i64 n))
          (first
            | exact ⟨KY.d.cellv 1 _ rfl, KY.d.cellv 2 _ rfl⟩
            | go_keep)
          (first
            | (go_at_call 17; refine (hM.out _ KY.m).mono ?_; rintro r wa ⟨rfl, ka, gq⟩; have KY := KY.setm gq ka; have HY := below_grown HY HY.size gq zm)
            | (go_at_call 18; refine (hR.out _ KY.st).mono ?_; rintro r wa ⟨rfl, ka, gq⟩; have KY := KY.sets gq ka; have HY := below_grown HY HY.size gq zx))
        all_goals (
          go_wp2_with fail
          clear f0 f1 f2 f3
          have hl2 := Lib.hid (show (S2).length = 16 from hle.out.trans hll.out)
          go_loopw [9, 10] (fun n' i' wr => ∃ (j : Nat), j ≤ 16 ∧ n' = .int .i64 (sum (S2) j) ∧ i' = .int .i64 j ∧ Sz wr w.heap.size gm ga gx wo.heap.size (t) (S2) (a) (b) (t) (S2) (a) (b) (da 1 e n T) ∧ Below w.heap.size w wr) (fun _ i' _ => 16 - (intOf i').toNat)
          case atStart => exact ⟨0, by omega, rfl, rfl, KY, HY⟩
          case round =>
            clear KY HY
            obtain ⟨j, hj, rfl, rfl, KX, HX⟩ := hrel
            obtain ⟨wx, rfl⟩ : ∃ wx : World, wx = wr := ⟨_, rfl⟩
            by_cases hj16 : j < 16
            · have hqj : decide ((j : Int) < 16) = true := by simp; omega
              have hji : (j : Int) < 16 := by omega
              have hcell := Blk.cellv KX.st (1 + j) _ (sc_get (t) (S2) (a) (b) j (by have := hl2.out; omega))
              have hss := Lib.hid (sum_succ (S2) j)
              generalize (S2)[j]?.getD 0 = v at *
              generalize hsj : sum (S2) j = sj at *
              have hsj' := Lib.hid hsj
              clear hsj
              go_wp2_with fail
              go_roundw
              case rel => exact ⟨j + 1, by omega, by rw [hss.out], by go_num, KX, HX⟩
              case measure => first | (simp [intOf]; done) | (simp [intOf]; omega)
            · obtain rfl : j = 16 := by omega
              have hqj : decide (((16 : Nat) : Int) < 16) = false := by simp
              have hN := Lib.hid (fun w' h => now_c w.heap.size w' (t) h)
              have hP := Lib.hid (fun w' h => spent_c gm e (S2) w' h hl2.out)
              have hO := Lib.hid (fun w' h => rof_c gx (t) (S2) (a) (b) e w' h hl2.out)
              have hA := Lib.hid (fun w' h => all_c gm (S2) w' h hl2.out)
              have hKX := Lib.hid KX
              obtain ⟨p, hp⟩ : ∃ p, pOf (S2) e = p := ⟨_, rfl⟩
              rw [hp] at hP hO
              have hp' := Lib.hid hp
              clear hp
              generalize hsj : sum (S2) 16 = sj at *
              have hsj' := Lib.hid hsj
              clear hsj
              have f1 : wx.drew.cell? ⟨wo.heap.size, 1, none⟩ = some (.int .i64 e) := KX.d.drew.cellv 1 _ rfl
              have g0 : wx.drew.cell? ⟨gx, 0, none⟩ = some (.int .u64 (t)) := Blk.cellv (Blk.drew KX.st) 0 _ rfl
              have HD := bl_drew HX
              have KD := KX.below (bl_drew (bl_refl wx))
              have n1 : ((t) != (t)) = false := by simp
              have n2 : (p != p) = false := by simp
              have n3 : (sj != sj) = false := by simp
              go_wp2_with fail
              go_region_held3 (fun w' => w'.cell? ⟨wo.heap.size, 1, none⟩ = some (.int .i64 e) ∧ w'.cell? ⟨gx, 0, none⟩ = some (.int .u64 (t)))
                (first
                  | exact ⟨KD.d.cellv 1 _ rfl, Blk.cellv KD.st 0 _ rfl⟩
                  | go_keep)
                (first
                  | (go_at_call 22; refine (hN.out _ KD.c).mono ?_; rintro r wa ⟨rfl, rfl⟩)
                  | (go_at_call 23; refine (hP.out _ KD.m).mono ?_; rintro r wa ⟨rfl, rfl⟩)
                  | (go_at_call 20; refine (hO.out _ KD.st).mono ?_; rintro r wa ⟨rfl, rfl⟩)
                  | (go_at_call 24; refine (hA.out _ KD.m).mono ?_; rintro r wa ⟨rfl, rfl⟩))
              all_goals (
                clear f1 g0
                go_wp2_with fail
                go_roundw
                case rel => exact ⟨k + 1, t, S2, a, b, by omega, by omega, by go_num, hl2.out, KD.c, KD.m, KD.al, KD.st, HD⟩
                case measure => first | (simp [intOf]; done) | (simp [intOf]; omega)))
      · as_aux_lemma =>
        have f0 := KZ.d.cellv 0 (.int .i64 2) rfl
        have f1 := KZ.d.cellv 1 (.int .i64 e) rfl
        have f2 := KZ.d.cellv 2 (.int .i64 n) rfl
        have f3 := KZ.d.cellv 3 (.int .u64 T) rfl
        have hM := Lib.hid (fun w' h => clear_c gm e S w' h hll.out)
        have hR := Lib.hid (fun w' h => rof_c gx t S a b e w' h hll.out)
        have hle := Lib.hid (clear_len S e)
        generalize pOf S e = p at *
        have KY := KZ.below (bl_drew (bl_refl w7))
        have HY := bl_drew HB7
        have n1 : (p != p) = false := by simp
        cases hin : inB e with
        | true =>
          obtain ⟨ke, rfl, hke⟩ := inB_nat hin
          have hcl := Lib.hid (clear_eq S ke hke)
          rw [hcl.out] at hM hle
          have q7 : decide ((0 : Int) ≤ (ke : Int)) = true := by simp
          have q8 : decide ((ke : Int) < 16) = true := by simp; omega
          have q9 : (ke : Int) < 16 := by omega
          have hsz : Hid (1 + ke < (sc t S a b).size) := Lib.hid (by rw [sc_size _ _ _ _ hll.out]; omega)
          have hset := Lib.hid (sc_set t S a b ke 0 (by have := hll.out; omega))
          clear hin
          go_wp2_with fail
          clear hW7
          go_region_held3 (fun w' => w'.cell? ⟨wo.heap.size, 1, none⟩ = some (.int .i64 ke))
            (first
              | exact KY.d.cellv 1 _ rfl
              | go_keep)
            (first
              | (go_at_call 19; refine (hM.out _ KY.m).mono ?_; rintro r wa ⟨rfl, ka, gq⟩; have KY := KY.setm gq ka; have HY := below_grown HY HY.size gq zm)
              | (go_at_call 20; refine (hR.out _ KY.st).mono ?_; rintro r wa' ⟨rfl, rfl⟩))
          all_goals (
            have f1 := KY.d.cellv 1 (.int .i64 ke) rfl
            go_wp2_with fail
            refine wp_region_still_tail 6 (by kernel_rfl) (by kernel_rfl) ?_
            simp only [List.take_succ_cons, List.take_zero, List.drop_succ_cons, List.drop_zero]
            repeat still_step
            refine wpStill_nil ?_
            change wpList _ _ _ _ _ wa.drew
            clear f1
            refine wl_set rfl 3 (.tmp 95) (.const (.int .i64 0)) rfl gx (1 + ke) rfl (.int .i64 0) rfl rfl 52 (sc t S a b) (Blk.drew KY.st) size_i hsz.out ?_
            intro w8 k8 g8 s8
            rw [hset.out] at k8
            have KY := (KY.below (bl_drew (bl_refl wa))).sets g8 k8
            have HY := below_grown (bl_drew HY) (bl_drew HY).size g8 zx
            have f1 := KY.d.cellv 1 (.int .i64 ke) rfl
            go_wp2_with fail
            clear f0 f1 f2 f3
            have hl2 := Lib.hid (show (S.set ke 0).length = 16 from by rw [List.length_set]; exact hll.out)
            go_loopw [9, 10] (fun n' i' wr => ∃ (j : Nat), j ≤ 16 ∧ n' = .int .i64 (sum (S.set ke 0) j) ∧ i' = .int .i64 j ∧ Sz wr w.heap.size gm ga gx wo.heap.size (t) (S.set ke 0) (a) (b) (t) (S.set ke 0) (a) (b) (da 2 ke n T) ∧ Below w.heap.size w wr) (fun _ i' _ => 16 - (intOf i').toNat)
            case atStart => exact ⟨0, by omega, rfl, rfl, KY, HY⟩
            case round =>
              clear KY HY
              obtain ⟨j, hj, rfl, rfl, KX, HX⟩ := hrel
              obtain ⟨wx, rfl⟩ : ∃ wx : World, wx = wr := ⟨_, rfl⟩
              by_cases hj16 : j < 16
              · have hqj : decide ((j : Int) < 16) = true := by simp; omega
                have hji : (j : Int) < 16 := by omega
                have hcell := Blk.cellv KX.st (1 + j) _ (sc_get (t) (S.set ke 0) (a) (b) j (by have := hl2.out; omega))
                have hss := Lib.hid (sum_succ (S.set ke 0) j)
                generalize (S.set ke 0)[j]?.getD 0 = v at *
                generalize hsj : sum (S.set ke 0) j = sj at *
                have hsj' := Lib.hid hsj
                clear hsj
                go_wp2_with fail
                go_roundw
                case rel => exact ⟨j + 1, by omega, by rw [hss.out], by go_num, KX, HX⟩
                case measure => first | (simp [intOf]; done) | (simp [intOf]; omega)
              · obtain rfl : j = 16 := by omega
                have hqj : decide (((16 : Nat) : Int) < 16) = false := by simp
                have hN := Lib.hid (fun w' h => now_c w.heap.size w' (t) h)
                have hP := Lib.hid (fun w' h => spent_c gm ke (S.set ke 0) w' h hl2.out)
                have hO := Lib.hid (fun w' h => rof_c gx (t) (S.set ke 0) (a) (b) ke w' h hl2.out)
                have hA := Lib.hid (fun w' h => all_c gm (S.set ke 0) w' h hl2.out)
                have hKX := Lib.hid KX
                obtain ⟨p, hp⟩ : ∃ p, pOf (S.set ke 0) ke = p := ⟨_, rfl⟩
                rw [hp] at hP hO
                have hp' := Lib.hid hp
                clear hp
                generalize hsj : sum (S.set ke 0) 16 = sj at *
                have hsj' := Lib.hid hsj
                clear hsj
                have f1 : wx.drew.cell? ⟨wo.heap.size, 1, none⟩ = some (.int .i64 ke) := KX.d.drew.cellv 1 _ rfl
                have g0 : wx.drew.cell? ⟨gx, 0, none⟩ = some (.int .u64 (t)) := Blk.cellv (Blk.drew KX.st) 0 _ rfl
                have HD := bl_drew HX
                have KD := KX.below (bl_drew (bl_refl wx))
                have n1 : ((t) != (t)) = false := by simp
                have n2 : (p != p) = false := by simp
                have n3 : (sj != sj) = false := by simp
                go_wp2_with fail
                go_region_held3 (fun w' => w'.cell? ⟨wo.heap.size, 1, none⟩ = some (.int .i64 ke) ∧ w'.cell? ⟨gx, 0, none⟩ = some (.int .u64 (t)))
                  (first
                    | exact ⟨KD.d.cellv 1 _ rfl, Blk.cellv KD.st 0 _ rfl⟩
                    | go_keep)
                  (first
                    | (go_at_call 22; refine (hN.out _ KD.c).mono ?_; rintro r wa ⟨rfl, rfl⟩)
                    | (go_at_call 23; refine (hP.out _ KD.m).mono ?_; rintro r wa ⟨rfl, rfl⟩)
                    | (go_at_call 20; refine (hO.out _ KD.st).mono ?_; rintro r wa ⟨rfl, rfl⟩)
                    | (go_at_call 24; refine (hA.out _ KD.m).mono ?_; rintro r wa ⟨rfl, rfl⟩))
                all_goals (
                  clear f1 g0
                  go_wp2_with fail
                  go_roundw
                  case rel => exact ⟨k + 1, t, S.set ke 0, a, b, by omega, by omega, by go_num, hl2.out, KD.c, KD.m, KD.al, KD.st, HD⟩
                  case measure => first | (simp [intOf]; done) | (simp [intOf]; omega)))
        | false =>
          have hcl := Lib.hid (clear_no S e hin)
          rw [hcl.out] at hM
          have hcase2 : decide (0 ≤ e) = false ∨ (decide (0 ≤ e) = true ∧ decide (e < 16) = false) := by
            unfold inB at hin
            rw [decide_eq_false_iff_not] at hin
            by_cases h0 : 0 ≤ e
            · exact .inr ⟨by simpa using h0, by simp; omega⟩
            · exact .inl (by simpa using h0)
          clear hin
          go_wp2_with fail
          clear hW7
          go_region_held3 (fun w' => w'.cell? ⟨wo.heap.size, 1, none⟩ = some (.int .i64 e))
            (first
              | exact KY.d.cellv 1 _ rfl
              | go_keep)
            (first
              | (go_at_call 19; refine (hM.out _ KY.m).mono ?_; rintro r wa ⟨rfl, ka, gq⟩; have KY := KY.setm gq ka; have HY := below_grown HY HY.size gq zm)
              | (go_at_call 20; refine (hR.out _ KY.st).mono ?_; rintro r wa' ⟨rfl, rfl⟩))
          all_goals (
            have f1 := KY.d.cellv 1 (.int .i64 e) rfl
            rcases hcase2 with q7 | ⟨q7, q8⟩
            all_goals (
              go_wp2_with fail
              clear f0 f1 f2 f3
              have hl2 := Lib.hid (show (S).length = 16 from hll.out)
              go_loopw [9, 10] (fun n' i' wr => ∃ (j : Nat), j ≤ 16 ∧ n' = .int .i64 (sum (S) j) ∧ i' = .int .i64 j ∧ Sz wr w.heap.size gm ga gx wo.heap.size (t) (S) (a) (b) (t) (S) (a) (b) (da 2 e n T) ∧ Below w.heap.size w wr) (fun _ i' _ => 16 - (intOf i').toNat)
              case atStart => exact ⟨0, by omega, rfl, rfl, KY, HY⟩
              case round =>
                clear KY HY
                obtain ⟨j, hj, rfl, rfl, KX, HX⟩ := hrel
                obtain ⟨wx, rfl⟩ : ∃ wx : World, wx = wr := ⟨_, rfl⟩
                by_cases hj16 : j < 16
                · have hqj : decide ((j : Int) < 16) = true := by simp; omega
                  have hji : (j : Int) < 16 := by omega
                  have hcell := Blk.cellv KX.st (1 + j) _ (sc_get (t) (S) (a) (b) j (by have := hl2.out; omega))
                  have hss := Lib.hid (sum_succ (S) j)
                  generalize (S)[j]?.getD 0 = v at *
                  generalize hsj : sum (S) j = sj at *
                  have hsj' := Lib.hid hsj
                  clear hsj
                  go_wp2_with fail
                  go_roundw
                  case rel => exact ⟨j + 1, by omega, by rw [hss.out], by go_num, KX, HX⟩
                  case measure => first | (simp [intOf]; done) | (simp [intOf]; omega)
                · obtain rfl : j = 16 := by omega
                  have hqj : decide (((16 : Nat) : Int) < 16) = false := by simp
                  have hN := Lib.hid (fun w' h => now_c w.heap.size w' (t) h)
                  have hP := Lib.hid (fun w' h => spent_c gm e (S) w' h hl2.out)
                  have hO := Lib.hid (fun w' h => rof_c gx (t) (S) (a) (b) e w' h hl2.out)
                  have hA := Lib.hid (fun w' h => all_c gm (S) w' h hl2.out)
                  have hKX := Lib.hid KX
                  obtain ⟨p, hp⟩ : ∃ p, pOf (S) e = p := ⟨_, rfl⟩
                  rw [hp] at hP hO
                  have hp' := Lib.hid hp
                  clear hp
                  generalize hsj : sum (S) 16 = sj at *
                  have hsj' := Lib.hid hsj
                  clear hsj
                  have f1 : wx.drew.cell? ⟨wo.heap.size, 1, none⟩ = some (.int .i64 e) := KX.d.drew.cellv 1 _ rfl
                  have g0 : wx.drew.cell? ⟨gx, 0, none⟩ = some (.int .u64 (t)) := Blk.cellv (Blk.drew KX.st) 0 _ rfl
                  have HD := bl_drew HX
                  have KD := KX.below (bl_drew (bl_refl wx))
                  have n1 : ((t) != (t)) = false := by simp
                  have n2 : (p != p) = false := by simp
                  have n3 : (sj != sj) = false := by simp
                  go_wp2_with fail
                  go_region_held3 (fun w' => w'.cell? ⟨wo.heap.size, 1, none⟩ = some (.int .i64 e) ∧ w'.cell? ⟨gx, 0, none⟩ = some (.int .u64 (t)))
                    (first
                      | exact ⟨KD.d.cellv 1 _ rfl, Blk.cellv KD.st 0 _ rfl⟩
                      | go_keep)
                    (first
                      | (go_at_call 22; refine (hN.out _ KD.c).mono ?_; rintro r wa ⟨rfl, rfl⟩)
                      | (go_at_call 23; refine (hP.out _ KD.m).mono ?_; rintro r wa ⟨rfl, rfl⟩)
                      | (go_at_call 20; refine (hO.out _ KD.st).mono ?_; rintro r wa ⟨rfl, rfl⟩)
                      | (go_at_call 24; refine (hA.out _ KD.m).mono ?_; rintro r wa ⟨rfl, rfl⟩))
                  all_goals (
                    clear f1 g0
                    go_wp2_with fail
                    go_roundw
                    case rel => exact ⟨k + 1, t, S, a, b, by omega, by omega, by go_num, hl2.out, KD.c, KD.m, KD.al, KD.st, HD⟩
                    case measure => first | (simp [intOf]; done) | (simp [intOf]; omega))))
      · as_aux_lemma =>
        have f0 := KZ.d.cellv 0 (.int .i64 3) rfl
        have f1 := KZ.d.cellv 1 (.int .i64 e) rfl
        have f2 := KZ.d.cellv 2 (.int .i64 n) rfl
        have f3 := KZ.d.cellv 3 (.int .u64 T) rfl
        have hM := Lib.hid (fun w' h => set_c ga w' a T b h)
        have hsz1 : Hid (17 < (sc t S a b).size) := Lib.hid (by rw [sc_size _ _ _ _ hll.out]; omega)
        have hsz2 : Hid (18 < (sc t S T b).size) := Lib.hid (by rw [sc_size _ _ _ _ hll.out]; omega)
        go_wp2_with fail
        clear hW7
        refine (hM.out _ KZ.al).mono ?_
        rintro r w8 ⟨rfl, k8, g8⟩
        have KY := KZ.seta g8 k8
        have HY := below_grown HB7 HB7.size g8 za
        have f3 := KY.d.cellv 3 (.int .u64 T) rfl
        have kst := KY.st
        go_wp2_with (first
          | ((refine wl_set rfl 22 _ _ rfl gx 17 rfl (.int .u64 T) rfl rfl 52 (sc t S a b) kst size_u hsz1.out ?_); intro w9 k9 g9 s9; rw [sc_seta _ _ _ _ _ hll.out] at k9)
          | ((refine wl_set rfl 4 _ _ rfl gx 18 rfl (.bool true) rfl rfl 52 (sc t S T b) k9 size_b hsz2.out ?_); intro w10 k10 g10 s10; rw [sc_setb _ _ _ _ _ hll.out] at k10))
        have KY := (KY.sets g9 k9).sets g10 k10
        have HY := below_grown (below_grown HY HY.size g9 zx) (by have := HY.size; omega) g10 zx
        clear kst k9 k10
        clear f0 f1 f2 f3
        have hl2 := Lib.hid (show (S).length = 16 from hll.out)
        go_loopw [9, 10] (fun n' i' wr => ∃ (j : Nat), j ≤ 16 ∧ n' = .int .i64 (sum (S) j) ∧ i' = .int .i64 j ∧ Sz wr w.heap.size gm ga gx wo.heap.size (t) (S) (T) (true) (t) (S) (T) (true) (da 3 e n T) ∧ Below w.heap.size w wr) (fun _ i' _ => 16 - (intOf i').toNat)
        case atStart => exact ⟨0, by omega, rfl, rfl, KY, HY⟩
        case round =>
          clear KY HY
          obtain ⟨j, hj, rfl, rfl, KX, HX⟩ := hrel
          obtain ⟨wx, rfl⟩ : ∃ wx : World, wx = wr := ⟨_, rfl⟩
          by_cases hj16 : j < 16
          · have hqj : decide ((j : Int) < 16) = true := by simp; omega
            have hji : (j : Int) < 16 := by omega
            have hcell := Blk.cellv KX.st (1 + j) _ (sc_get (t) (S) (T) (true) j (by have := hl2.out; omega))
            have hss := Lib.hid (sum_succ (S) j)
            generalize (S)[j]?.getD 0 = v at *
            generalize hsj : sum (S) j = sj at *
            have hsj' := Lib.hid hsj
            clear hsj
            go_wp2_with fail
            go_roundw
            case rel => exact ⟨j + 1, by omega, by rw [hss.out], by go_num, KX, HX⟩
            case measure => first | (simp [intOf]; done) | (simp [intOf]; omega)
          · obtain rfl : j = 16 := by omega
            have hqj : decide (((16 : Nat) : Int) < 16) = false := by simp
            have hN := Lib.hid (fun w' h => now_c w.heap.size w' (t) h)
            have hP := Lib.hid (fun w' h => spent_c gm e (S) w' h hl2.out)
            have hO := Lib.hid (fun w' h => rof_c gx (t) (S) (T) (true) e w' h hl2.out)
            have hA := Lib.hid (fun w' h => all_c gm (S) w' h hl2.out)
            have hKX := Lib.hid KX
            obtain ⟨p, hp⟩ : ∃ p, pOf (S) e = p := ⟨_, rfl⟩
            rw [hp] at hP hO
            have hp' := Lib.hid hp
            clear hp
            generalize hsj : sum (S) 16 = sj at *
            have hsj' := Lib.hid hsj
            clear hsj
            have f1 : wx.drew.cell? ⟨wo.heap.size, 1, none⟩ = some (.int .i64 e) := KX.d.drew.cellv 1 _ rfl
            have g0 : wx.drew.cell? ⟨gx, 0, none⟩ = some (.int .u64 (t)) := Blk.cellv (Blk.drew KX.st) 0 _ rfl
            have HD := bl_drew HX
            have KD := KX.below (bl_drew (bl_refl wx))
            have n1 : ((t) != (t)) = false := by simp
            have n2 : (p != p) = false := by simp
            have n3 : (sj != sj) = false := by simp
            go_wp2_with fail
            go_region_held3 (fun w' => w'.cell? ⟨wo.heap.size, 1, none⟩ = some (.int .i64 e) ∧ w'.cell? ⟨gx, 0, none⟩ = some (.int .u64 (t)))
              (first
                | exact ⟨KD.d.cellv 1 _ rfl, Blk.cellv KD.st 0 _ rfl⟩
                | go_keep)
              (first
                | (go_at_call 22; refine (hN.out _ KD.c).mono ?_; rintro r wa ⟨rfl, rfl⟩)
                | (go_at_call 23; refine (hP.out _ KD.m).mono ?_; rintro r wa ⟨rfl, rfl⟩)
                | (go_at_call 20; refine (hO.out _ KD.st).mono ?_; rintro r wa ⟨rfl, rfl⟩)
                | (go_at_call 24; refine (hA.out _ KD.m).mono ?_; rintro r wa ⟨rfl, rfl⟩))
            all_goals (
              clear f1 g0
              go_wp2_with fail
              go_roundw
              case rel => exact ⟨k + 1, t, S, T, true, by omega, by omega, by go_num, hl2.out, KD.c, KD.m, KD.al, KD.st, HD⟩
              case measure => first | (simp [intOf]; done) | (simp [intOf]; omega))
      · as_aux_lemma =>
        have f0 := KZ.d.cellv 0 (.int .i64 4) rfl
        have f1 := KZ.d.cellv 1 (.int .i64 e) rfl
        have f2 := KZ.d.cellv 2 (.int .i64 n) rfl
        have f3 := KZ.d.cellv 3 (.int .u64 T) rfl
        have hM := Lib.hid (fun w' h => off_c ga w' a b h)
        have hsz2 : Hid (18 < (sc t S a b).size) := Lib.hid (by rw [sc_size _ _ _ _ hll.out]; omega)
        have hsb := Lib.hid (sc_b t S a b hll.out)
        have KY := KZ.below (bl_drew (bl_refl w7))
        have HY := bl_drew HB7
        have g0 := Blk.cellv KY.st 18 (.bool b) hsb.out
        have n1 : (b != b) = false := by cases b <;> rfl
        go_wp2_with fail
        clear hW7
        go_region_held3 (fun w' => w'.cell? ⟨gx, 18, none⟩ = some (.bool b))
          (first
            | exact Blk.cellv KY.st 18 (.bool b) hsb.out
            | go_keep)
          (first
            | (go_at_call 14; refine (hM.out _ KY.al).mono ?_; rintro r wa ⟨rfl, ka, ga'⟩; have KY := KY.seta ga' ka; have HY := below_grown HY HY.size ga' za))
        all_goals (
          have kst := KY.st
          clear g0 n1
          go_wp2_with ((refine wl_set rfl 4 _ _ rfl gx 18 rfl (.bool false) rfl rfl 52 (sc t S a b) kst size_b hsz2.out ?_); intro w10 k10 g10 s10; rw [sc_setb _ _ _ _ _ hll.out] at k10)
          have KY := KY.sets g10 k10
          have HY := below_grown HY HY.size g10 zx
          clear kst k10
          clear f0 f1 f2 f3
          have hl2 := Lib.hid (show (S).length = 16 from hll.out)
          go_loopw [9, 10] (fun n' i' wr => ∃ (j : Nat), j ≤ 16 ∧ n' = .int .i64 (sum (S) j) ∧ i' = .int .i64 j ∧ Sz wr w.heap.size gm ga gx wo.heap.size (t) (S) (a) (false) (t) (S) (a) (false) (da 4 e n T) ∧ Below w.heap.size w wr) (fun _ i' _ => 16 - (intOf i').toNat)
          case atStart => exact ⟨0, by omega, rfl, rfl, KY, HY⟩
          case round =>
            clear KY HY
            obtain ⟨j, hj, rfl, rfl, KX, HX⟩ := hrel
            obtain ⟨wx, rfl⟩ : ∃ wx : World, wx = wr := ⟨_, rfl⟩
            by_cases hj16 : j < 16
            · have hqj : decide ((j : Int) < 16) = true := by simp; omega
              have hji : (j : Int) < 16 := by omega
              have hcell := Blk.cellv KX.st (1 + j) _ (sc_get (t) (S) (a) (false) j (by have := hl2.out; omega))
              have hss := Lib.hid (sum_succ (S) j)
              generalize (S)[j]?.getD 0 = v at *
              generalize hsj : sum (S) j = sj at *
              have hsj' := Lib.hid hsj
              clear hsj
              go_wp2_with fail
              go_roundw
              case rel => exact ⟨j + 1, by omega, by rw [hss.out], by go_num, KX, HX⟩
              case measure => first | (simp [intOf]; done) | (simp [intOf]; omega)
            · obtain rfl : j = 16 := by omega
              have hqj : decide (((16 : Nat) : Int) < 16) = false := by simp
              have hN := Lib.hid (fun w' h => now_c w.heap.size w' (t) h)
              have hP := Lib.hid (fun w' h => spent_c gm e (S) w' h hl2.out)
              have hO := Lib.hid (fun w' h => rof_c gx (t) (S) (a) (false) e w' h hl2.out)
              have hA := Lib.hid (fun w' h => all_c gm (S) w' h hl2.out)
              have hKX := Lib.hid KX
              obtain ⟨p, hp⟩ : ∃ p, pOf (S) e = p := ⟨_, rfl⟩
              rw [hp] at hP hO
              have hp' := Lib.hid hp
              clear hp
              generalize hsj : sum (S) 16 = sj at *
              have hsj' := Lib.hid hsj
              clear hsj
              have f1 : wx.drew.cell? ⟨wo.heap.size, 1, none⟩ = some (.int .i64 e) := KX.d.drew.cellv 1 _ rfl
              have g0 : wx.drew.cell? ⟨gx, 0, none⟩ = some (.int .u64 (t)) := Blk.cellv (Blk.drew KX.st) 0 _ rfl
              have HD := bl_drew HX
              have KD := KX.below (bl_drew (bl_refl wx))
              have n1 : ((t) != (t)) = false := by simp
              have n2 : (p != p) = false := by simp
              have n3 : (sj != sj) = false := by simp
              go_wp2_with fail
              go_region_held3 (fun w' => w'.cell? ⟨wo.heap.size, 1, none⟩ = some (.int .i64 e) ∧ w'.cell? ⟨gx, 0, none⟩ = some (.int .u64 (t)))
                (first
                  | exact ⟨KD.d.cellv 1 _ rfl, Blk.cellv KD.st 0 _ rfl⟩
                  | go_keep)
                (first
                  | (go_at_call 22; refine (hN.out _ KD.c).mono ?_; rintro r wa ⟨rfl, rfl⟩)
                  | (go_at_call 23; refine (hP.out _ KD.m).mono ?_; rintro r wa ⟨rfl, rfl⟩)
                  | (go_at_call 20; refine (hO.out _ KD.st).mono ?_; rintro r wa ⟨rfl, rfl⟩)
                  | (go_at_call 24; refine (hA.out _ KD.m).mono ?_; rintro r wa ⟨rfl, rfl⟩))
              all_goals (
                clear f1 g0
                go_wp2_with fail
                go_roundw
                case rel => exact ⟨k + 1, t, S, a, false, by omega, by omega, by go_num, hl2.out, KD.c, KD.m, KD.al, KD.st, HD⟩
                case measure => first | (simp [intOf]; done) | (simp [intOf]; omega)))
      · as_aux_lemma =>
        have f0 := KZ.d.cellv 0 (.int .i64 5) rfl
        have f1 := KZ.d.cellv 1 (.int .i64 e) rfl
        have f2 := KZ.d.cellv 2 (.int .i64 n) rfl
        have f3 := KZ.d.cellv 3 (.int .u64 T) rfl
        have hM := Lib.hid (fun w' h => due_c ga w' a T b h)
        have hR := Lib.hid (fun w' h => rdue_c gx t S a b T w' h hll.out)
        generalize goes b a T = gb at *
        have KY := KZ.below (bl_drew (bl_refl w7))
        have HY := bl_drew HB7
        have n1 : (gb != gb) = false := by cases gb <;> rfl
        go_wp2_with fail
        clear hW7
        go_region_held3 (fun w' => w'.cell? ⟨wo.heap.size, 3, none⟩ = some (.int .u64 T))
          (first
            | exact KY.d.cellv 3 _ rfl
            | go_keep)
          (first
            | (go_at_call 13; refine (hM.out _ KY.al).mono ?_; rintro r wa ⟨rfl, ka, ga'⟩; have KY := KY.seta ga' ka; have HY := below_grown HY HY.size ga' za)
            | (go_at_call 21; refine (hR.out _ KY.st).mono ?_; rintro r wa' ⟨rfl, ka, ga'⟩; have KY := KY.sets ga' ka; have HY := below_grown HY HY.size ga' zx))
        all_goals (
          go_wp2_with fail
          clear f0 f1 f2 f3
          have hl2 := Lib.hid (show (S).length = 16 from hll.out)
          go_loopw [9, 10] (fun n' i' wr => ∃ (j : Nat), j ≤ 16 ∧ n' = .int .i64 (sum (S) j) ∧ i' = .int .i64 j ∧ Sz wr w.heap.size gm ga gx wo.heap.size (t) (S) (a) (b && !gb) (t) (S) (a) (b && !gb) (da 5 e n T) ∧ Below w.heap.size w wr) (fun _ i' _ => 16 - (intOf i').toNat)
          case atStart => exact ⟨0, by omega, rfl, rfl, KY, HY⟩
          case round =>
            clear KY HY
            obtain ⟨j, hj, rfl, rfl, KX, HX⟩ := hrel
            obtain ⟨wx, rfl⟩ : ∃ wx : World, wx = wr := ⟨_, rfl⟩
            by_cases hj16 : j < 16
            · have hqj : decide ((j : Int) < 16) = true := by simp; omega
              have hji : (j : Int) < 16 := by omega
              have hcell := Blk.cellv KX.st (1 + j) _ (sc_get (t) (S) (a) (b && !gb) j (by have := hl2.out; omega))
              have hss := Lib.hid (sum_succ (S) j)
              generalize (S)[j]?.getD 0 = v at *
              generalize hsj : sum (S) j = sj at *
              have hsj' := Lib.hid hsj
              clear hsj
              go_wp2_with fail
              go_roundw
              case rel => exact ⟨j + 1, by omega, by rw [hss.out], by go_num, KX, HX⟩
              case measure => first | (simp [intOf]; done) | (simp [intOf]; omega)
            · obtain rfl : j = 16 := by omega
              have hqj : decide (((16 : Nat) : Int) < 16) = false := by simp
              have hN := Lib.hid (fun w' h => now_c w.heap.size w' (t) h)
              have hP := Lib.hid (fun w' h => spent_c gm e (S) w' h hl2.out)
              have hO := Lib.hid (fun w' h => rof_c gx (t) (S) (a) (b && !gb) e w' h hl2.out)
              have hA := Lib.hid (fun w' h => all_c gm (S) w' h hl2.out)
              have hKX := Lib.hid KX
              obtain ⟨p, hp⟩ : ∃ p, pOf (S) e = p := ⟨_, rfl⟩
              rw [hp] at hP hO
              have hp' := Lib.hid hp
              clear hp
              generalize hsj : sum (S) 16 = sj at *
              have hsj' := Lib.hid hsj
              clear hsj
              have f1 : wx.drew.cell? ⟨wo.heap.size, 1, none⟩ = some (.int .i64 e) := KX.d.drew.cellv 1 _ rfl
              have g0 : wx.drew.cell? ⟨gx, 0, none⟩ = some (.int .u64 (t)) := Blk.cellv (Blk.drew KX.st) 0 _ rfl
              have HD := bl_drew HX
              have KD := KX.below (bl_drew (bl_refl wx))
              have n1 : ((t) != (t)) = false := by simp
              have n2 : (p != p) = false := by simp
              have n3 : (sj != sj) = false := by simp
              go_wp2_with fail
              go_region_held3 (fun w' => w'.cell? ⟨wo.heap.size, 1, none⟩ = some (.int .i64 e) ∧ w'.cell? ⟨gx, 0, none⟩ = some (.int .u64 (t)))
                (first
                  | exact ⟨KD.d.cellv 1 _ rfl, Blk.cellv KD.st 0 _ rfl⟩
                  | go_keep)
                (first
                  | (go_at_call 22; refine (hN.out _ KD.c).mono ?_; rintro r wa ⟨rfl, rfl⟩)
                  | (go_at_call 23; refine (hP.out _ KD.m).mono ?_; rintro r wa ⟨rfl, rfl⟩)
                  | (go_at_call 20; refine (hO.out _ KD.st).mono ?_; rintro r wa ⟨rfl, rfl⟩)
                  | (go_at_call 24; refine (hA.out _ KD.m).mono ?_; rintro r wa ⟨rfl, rfl⟩))
              all_goals (
                clear f1 g0
                go_wp2_with fail
                go_roundw
                case rel => exact ⟨k + 1, t, S, a, b && !gb, by omega, by omega, by go_num, hl2.out, KD.c, KD.m, KD.al, KD.st, HD⟩
                case measure => first | (simp [intOf]; done) | (simp [intOf]; omega)))
      · as_aux_lemma =>
        have f0 := KZ.d.cellv 0 (.int .i64 kd) rfl
        have f1 := KZ.d.cellv 1 (.int .i64 e) rfl
        have f2 := KZ.d.cellv 2 (.int .i64 n) rfl
        have f3 := KZ.d.cellv 3 (.int .u64 T) rfl
        go_wp2_with fail
        clear f0 f1 f2 f3 hW7
        have hl2 := Lib.hid (show (S).length = 16 from hll.out)
        go_loopw [9, 10] (fun n' i' wr => ∃ (j : Nat), j ≤ 16 ∧ n' = .int .i64 (sum (S) j) ∧ i' = .int .i64 j ∧ Sz wr w.heap.size gm ga gx wo.heap.size (t) (S) (a) (b) (t) (S) (a) (b) (da kd e n T) ∧ Below w.heap.size w wr) (fun _ i' _ => 16 - (intOf i').toNat)
        case atStart => exact ⟨0, by omega, rfl, rfl, KZ, HB7⟩
        case round =>
          clear KZ HB7
          obtain ⟨j, hj, rfl, rfl, KX, HX⟩ := hrel
          obtain ⟨wx, rfl⟩ : ∃ wx : World, wx = wr := ⟨_, rfl⟩
          by_cases hj16 : j < 16
          · have hqj : decide ((j : Int) < 16) = true := by simp; omega
            have hji : (j : Int) < 16 := by omega
            have hcell := Blk.cellv KX.st (1 + j) _ (sc_get (t) (S) (a) (b) j (by have := hl2.out; omega))
            have hss := Lib.hid (sum_succ (S) j)
            generalize (S)[j]?.getD 0 = v at *
            generalize hsj : sum (S) j = sj at *
            have hsj' := Lib.hid hsj
            clear hsj
            go_wp2_with fail
            go_roundw
            case rel => exact ⟨j + 1, by omega, by rw [hss.out], by go_num, KX, HX⟩
            case measure => first | (simp [intOf]; done) | (simp [intOf]; omega)
          · obtain rfl : j = 16 := by omega
            have hqj : decide (((16 : Nat) : Int) < 16) = false := by simp
            have hN := Lib.hid (fun w' h => now_c w.heap.size w' (t) h)
            have hP := Lib.hid (fun w' h => spent_c gm e (S) w' h hl2.out)
            have hO := Lib.hid (fun w' h => rof_c gx (t) (S) (a) (b) e w' h hl2.out)
            have hA := Lib.hid (fun w' h => all_c gm (S) w' h hl2.out)
            have hKX := Lib.hid KX
            obtain ⟨p, hp⟩ : ∃ p, pOf (S) e = p := ⟨_, rfl⟩
            rw [hp] at hP hO
            have hp' := Lib.hid hp
            clear hp
            generalize hsj : sum (S) 16 = sj at *
            have hsj' := Lib.hid hsj
            clear hsj
            have f1 : wx.drew.cell? ⟨wo.heap.size, 1, none⟩ = some (.int .i64 e) := KX.d.drew.cellv 1 _ rfl
            have g0 : wx.drew.cell? ⟨gx, 0, none⟩ = some (.int .u64 (t)) := Blk.cellv (Blk.drew KX.st) 0 _ rfl
            have HD := bl_drew HX
            have KD := KX.below (bl_drew (bl_refl wx))
            have n1 : ((t) != (t)) = false := by simp
            have n2 : (p != p) = false := by simp
            have n3 : (sj != sj) = false := by simp
            go_wp2_with fail
            go_region_held3 (fun w' => w'.cell? ⟨wo.heap.size, 1, none⟩ = some (.int .i64 e) ∧ w'.cell? ⟨gx, 0, none⟩ = some (.int .u64 (t)))
              (first
                | exact ⟨KD.d.cellv 1 _ rfl, Blk.cellv KD.st 0 _ rfl⟩
                | go_keep)
              (first
                | (go_at_call 22; refine (hN.out _ KD.c).mono ?_; rintro r wa ⟨rfl, rfl⟩)
                | (go_at_call 23; refine (hP.out _ KD.m).mono ?_; rintro r wa ⟨rfl, rfl⟩)
                | (go_at_call 20; refine (hO.out _ KD.st).mono ?_; rintro r wa ⟨rfl, rfl⟩)
                | (go_at_call 24; refine (hA.out _ KD.m).mono ?_; rintro r wa ⟨rfl, rfl⟩))
            all_goals (
              clear f1 g0
              go_wp2_with fail
              go_roundw
              case rel => exact ⟨k + 1, t, S, a, b, by omega, by omega, by go_num, hl2.out, KD.c, KD.m, KD.al, KD.st, HD⟩
              case measure => first | (simp [intOf]; done) | (simp [intOf]; omega))
    · rcases hstop with ⟨q1, q3⟩ | ⟨q1, q2, q3⟩
      all_goals (
        go_wp2_with fail
        refine (awake_c _).mono ?_
        rintro r w3 ⟨rfl, b3⟩
        go_wp2
        go_ret
        exact ⟨rfl, bl_then HB b3⟩)

def Arg (i : Nat) (w : World) (v : Value) : Prop := Deeds w v
set_option maxRecDepth 100000 in
theorem arg0 {H : Type} {enc : TypeId × Value → H} {W : World} {base : Nat} {v : Value} {d : DataW H} {p : List MemPlace} (hv : Value.okWide Try.prog W .any base 39 v)
    (h : DataW.Trod enc Try.prog W 0 (fun _ => true) true 39 v d p) : Arg 0 W v := deeds_of hv h
theorem walk (v0 : Value) (w : World) (h0 : Arg 0 w v0) :
    Calls Try.prog 4 #[v0] w fun e w' => e = .returned (.bool true) ∧ Below w.heap.size w w' := by
  obtain ⟨A, n, c, rfl, hf⟩ := h0
  exact main A n c w hf
end Go.Proofs.Ytcomgmgmpmjnkaa.ClockPlays
