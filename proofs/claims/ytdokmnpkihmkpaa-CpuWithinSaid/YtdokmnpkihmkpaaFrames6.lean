/- One deed in a memory and in the reference; are they the same? -/
import Derived.Test.YtdokmnpkihmkpaaFrames5
set_option linter.unusedVariables false
namespace Go.Proofs.Ytdokmnpkihmkpaa.Frames6
open Go.RowKit Go.Proofs.Ytdokmnpkihmkpaa.Base Go.Proofs.Ytdokmnpkihmkpaa.Row Go.Proofs.Ytdokmnpkihmkpaa.Frames Go.Proofs.Ytdokmnpkihmkpaa.Frames2 Go.Proofs.Ytdokmnpkihmkpaa.Frames3 Go.Proofs.Ytdokmnpkihmkpaa.Frames4 Go.Proofs.Ytdokmnpkihmkpaa.Frames5

/-- Nothing below gx and gy is written. -/
def Fr (gx gy : Nat) (w w' : World) : Prop := w.heap.size ≤ w'.heap.size ∧ (∀ B w0, Below B w0 w → B ≤ w.heap.size → B ≤ gx → B ≤ gy → Below B w0 w') ∧ (∀ i, i < w.heap.size → i ≠ gx → i ≠ gy → w'.heap[i]? = w.heap[i]?)
theorem Fr.refl (gx gy : Nat) (w : World) : Fr gx gy w w := ⟨Nat.le_refl _, fun _ _ h _ _ _ => h, fun _ _ _ _ => rfl⟩
theorem Fr.x {gx gy : Nat} {w w1 w2 : World} (h : Fr gx gy w w1) (hg : w1.grownBy w2 (some gx)) : Fr gx gy w w2 :=
  ⟨Nat.le_trans h.1 hg.size, fun B w0 hb h1 h2 h3 => below_grown (h.2.1 B w0 hb h1 h2 h3) (Nat.le_trans h1 h.1) hg h2, fun i h1 h2 h3 => (hg.block i (Nat.lt_of_lt_of_le h1 h.1) (fun e => by injection e with e; exact h2 e)).trans (h.2.2 i h1 h2 h3)⟩
theorem Fr.y {gx gy : Nat} {w w1 w2 : World} (h : Fr gx gy w w1) (hg : w1.grownBy w2 (some gy)) : Fr gx gy w w2 :=
  ⟨Nat.le_trans h.1 hg.size, fun B w0 hb h1 h2 h3 => below_grown (h.2.1 B w0 hb h1 h2 h3) (Nat.le_trans h1 h.1) hg h3, fun i h1 h2 h3 => (hg.block i (Nat.lt_of_lt_of_le h1 h.1) (fun e => by injection e with e; exact h3 e)).trans (h.2.2 i h1 h2 h3)⟩
theorem Fr.below {gx gy : Nat} {w w1 w2 : World} (h : Fr gx gy w w1) (hb : Below w1.heap.size w1 w2) : Fr gx gy w w2 :=
  ⟨Nat.le_trans h.1 hb.size, fun B w0 hb0 h1 h2 h3 => bl_thenB (h.2.1 B w0 hb0 h1 h2 h3) (Nat.le_trans h1 h.1) hb, fun i h1 h2 h3 => (hb.block i (Nat.lt_of_lt_of_le h1 h.1)).trans (h.2.2 i h1 h2 h3)⟩

/-- What a deed does. -/
def pDo (n : Nat) (X : List Int) (kd f a v : Int) : List Int :=
  if kd = 0 ∨ kd = 1 ∨ kd = 2 then putX n X f a v else if kd = 3 then copyX n X f a else if kd = 4 then layQ n X f (ramp v 16) else X
theorem putX_len (n : Nat) (X : List Int) (f a v : Int) : (putX n X f a v).length = X.length := by unfold putX; split <;> simp
theorem layQ_len (n : Nat) (X : List Int) (f : Int) (P : List Int) (hl : X.length = n * 16) (hP : P.length = 16) : (layQ n X f P).length = X.length := by
  unfold layQ
  split
  · rename_i h
    obtain ⟨m, rfl, hm⟩ := inB_nat h
    exact (layX_len X n m P hl hm hP).trans hl.symm
  · rfl
theorem copyX_len (n : Nat) (X : List Int) (t f : Int) (hl : X.length = n * 16) : (copyX n X t f).length = X.length := by
  unfold copyX
  split
  · rename_i h
    obtain ⟨m, rfl, hm⟩ := inB_nat h
    exact layQ_len n X t _ hl (pgAt_len X n m hl hm)
  · rfl
theorem do_len (n : Nat) (X : List Int) (kd f a v : Int) (hl : X.length = n * 16) : (pDo n X kd f a v).length = X.length := by
  unfold pDo
  split
  · exact putX_len _ _ _ _ _
  · split
    · exact copyX_len n X f a hl
    · split
      · exact layQ_len n X f _ hl (ramp_len v 16)
      · rfl

def dd (kd f a v : Int) : Array Value := #[.int .i64 kd, .int .i64 f, .int .i64 a, .int .u32 v]
def DoPost (g gp b n : Nat) (X : List Int) (w w' : World) (r : Ending) : Prop := r = .returned (.bool true) ∧ Mm w' g gp n X ∧ Rf w' b X ∧ Fr gp b w w'

/-- Deeds 0 to 2. -/
def putK (i : Nat) : Int := i
set_option maxRecDepth 100000 in
set_option maxHeartbeats 8000000 in
theorem does_put (kd : Int) (hkd : kd = 0 ∨ kd = 1 ∨ kd = 2) (g gp b N n c : Nat) (X : List Int) (f a v : Int) (w : World) (hx : Mm w g gp n X) (hy : Rf w b X) (hl : X.length = N) (hN : N = n * 16) (hn : n ≤ 256) :
    Calls Try.prog 18 #[.pointer (some ⟨g, 0, none⟩), .slice (some ⟨b, 0, none⟩) N c, .agg (dd kd f a v)] w fun r w' => DoPost g gp b n (putX n X f a v) w w' r := by
  have B1 := bl_alloc (bl_refl w) (.cells (dd kd f a v) 30)
  have KD := Blk.new w 30 (dd kd f a v)
  have hx1 := Lib.hid (hx.below B1)
  have hy1 := Lib.hid (hy.below B1)
  have hne := Lib.hid (hy.ne hx)
  have FR := Lib.hid ((Fr.refl gp b w).below B1)
  have hAt := Lib.hid (fun w' => at_c (some ⟨b, 0, none⟩) N n c f a w' hN hn)
  have hlt : w.heap.size ≠ b := by have := hy.lt; omega
  have d0 := KD.cellv 0 (.int .i64 kd) rfl
  have d1 := KD.cellv 1 (.int .i64 f) rfl
  have d2 := KD.cellv 2 (.int .i64 a) rfl
  have d3 := KD.cellv 3 (.int .u32 v) rfl
  have KDh := Lib.hid KD
  clear hx hy B1 KD
  cases hok : okB n f a with
  | false =>
    rw [show atv n f a = -1 by unfold atv; rw [hok]; rfl] at hAt
    have hpu := Lib.hid (show putX n X f a v = X by unfold putX; rw [hok]; rfl)
    have hP := Lib.hid (fun w' h' => put_c g gp n f a v X w' h')
    rw [hok] at hP
    clear hok hN hl hn
    rcases hkd with rfl | rfl | rfl
    all_goals (
      go_enter Try.func18, Try.ntmps18
      go_wp2_with fail
      refine (hAt.out _).mono ?_
      rintro r w1 ⟨rfl, rfl⟩
      go_wp2_with fail
      refine (hP.out _ hx1.out).mono ?_
      rintro r w1 ⟨rfl, hx2, g2⟩
      go_wp2
      go_ret
      exact ⟨rfl, hx2, (by rw [hpu.out]; exact hy1.out.grown g2 hne.out.2), FR.out.x g2⟩)
  | true =>
    obtain ⟨f', a', rfl, rfl, hf, ha⟩ := okB_ex hok
    have hi : f' * 16 + a' < N := by omega
    rw [show atv n f' a' = ((f' * 16 + a' : Nat) : Int) by unfold atv; rw [hok]; rfl] at hAt
    have hpu := Lib.hid (show putX n X f' a' v = X.set (f' * 16 + a') v by unfold putX; rw [hok]; rfl)
    have hP := Lib.hid (fun w' h' => put_c g gp n f' a' v X w' h')
    rw [hok] at hP
    clear hok
    generalize f' * 16 + a' = i at *
    have hi' : (i : Int) < N := by omega
    have q0 : decide ((0 : Int) ≤ (i : Int)) = true := by simp
    obtain ⟨cur, hK, hcur⟩ := hy1.out
    have hKh := Lib.hid hK
    have hcur' := Lib.hid hcur
    have hsz := Lib.hid (Rf.size hcur i (by omega))
    clear hcur hK hy1 hN
    rcases hkd with rfl | rfl | rfl
    all_goals (
      go_enter Try.func18, Try.ntmps18
      go_wp2_with fail
      refine (hAt.out _).mono ?_
      rintro r w1 ⟨rfl, rfl⟩
      go_wp2_with (first
        | ((refine wl_set (by rfl) 28 _ _ (by rfl) b i (by rfl) (.int .u32 v) (by rfl) rfl 28 cur hKh.out size_u32 hsz.out ?_); intro w4 k4 g4 s4; have KD4 := KDh.out.grown g4 (fun e => by injection e with e; exact hlt e); have e1 := KD4.cellv 1 (.int .i64 f') rfl; have e2 := KD4.cellv 2 (.int .i64 a') rfl; have e3 := KD4.cellv 3 (.int .u32 v) rfl))
      have hR4 := Rf.set_ hcur'.out k4
      have hx4 := hx1.out.grown g4 hne.out.1.symm hne.out.2.symm
      have F4 := FR.out.y g4
      refine (hP.out _ hx4).mono ?_
      rintro r w5 ⟨rfl, hx5, g5⟩
      go_wp2
      go_ret
      exact ⟨rfl, hx5, (by rw [hpu.out]; exact hR4.grown g5 hne.out.2), F4.x g5⟩)
set_option maxRecDepth 100000 in
set_option maxHeartbeats 8000000 in
theorem does_copy (g gp b N n c : Nat) (X : List Int) (f a v : Int) (w : World) (hx : Mm w g gp n X) (hy : Rf w b X) (hl : X.length = N) (hN : N = n * 16) (hn : n ≤ 256) :
    Calls Try.prog 18 #[.pointer (some ⟨g, 0, none⟩), .slice (some ⟨b, 0, none⟩) N c, .agg (dd 3 f a v)] w fun r w' => DoPost g gp b n (copyX n X f a) w w' r := by
  have B1 := bl_alloc (bl_refl w) (.cells (dd 3 f a v) 30)
  have KD := Blk.new w 30 (dd 3 f a v)
  have hx1 := Lib.hid (hx.below B1)
  have hy1 := Lib.hid (hy.below B1)
  have hne := Lib.hid (hy.ne hx)
  have FR1 := Lib.hid ((Fr.refl gp b w).below B1)
  have hAt := Lib.hid (fun w' => at_c (some ⟨b, 0, none⟩) N n c f a w' hN hn)
  have hC := Lib.hid (fun w' h' => copy_c g gp n f a X w' h')
  have hRC := Lib.hid (fun w' h' => rcopy_c b N n c f a X w' h' hl hN hn)
  have hlt : Hid (w.heap.size ≠ b ∧ w.heap.size ≠ gp) := Lib.hid (by have := hy.lt; have := hx.p.lt; omega)
  have d0 := KD.cellv 0 (.int .i64 3) rfl
  have d1 := KD.cellv 1 (.int .i64 f) rfl
  have d2 := KD.cellv 2 (.int .i64 a) rfl
  have KDh := Lib.hid KD
  generalize copyX n X f a = Y at *
  generalize (inB n f && inB n a) = ok at *
  clear hx hy B1 KD hl hN hn
  go_enter Try.func18, Try.ntmps18
  go_wp2_with fail
  refine (hAt.out _).mono ?_
  rintro r w1 ⟨rfl, rfl⟩
  generalize atv n f a = at_ at *
  go_wp2_with fail
  clear d0 d1 d2
  have KX := Lib.hid (hx1.out.below (bl_drew (bl_refl _)))
  have KY := Lib.hid (hy1.out.below (bl_drew (bl_refl _)))
  have KD := KDh.out.drew
  have FR := FR1.out.below (bl_drew (bl_refl _))
  have t1 := KD.cellv 1 (.int .i64 f) rfl
  have t2 := KD.cellv 2 (.int .i64 a) rfl
  go_region_held3 (fun w' => w'.cell? ⟨w.heap.size, 1, none⟩ = some (.int .i64 f) ∧ w'.cell? ⟨w.heap.size, 2, none⟩ = some (.int .i64 a))
    (first
      | go_keep
      | exact ⟨KD.cellv 1 _ rfl, KD.cellv 2 _ rfl⟩)
    (first
      | (go_at_call 28; refine (hC.out _ KX.out).mono ?_; rintro r wa ⟨rfl, hxa, ga⟩; have KX := Lib.hid hxa; have KY := Lib.hid (KY.out.grown ga hne.out.2); have KD := KD.grown ga (fun e => by injection e with e; exact hlt.out.2 e); have FR := FR.x ga; clear hxa ga)
      | (go_at_call 57; refine (hRC.out _ KY.out).mono ?_; rintro r wa ⟨rfl, hya, ga⟩; have KY := Lib.hid hya; have KX := Lib.hid (KX.out.grown ga hne.out.1.symm hne.out.2.symm); have KD := KD.grown ga (fun e => by injection e with e; exact hlt.out.1 e); have FR := FR.y ga; clear hya ga))
  all_goals (
    have hbb : (ok == ok) = true := beq_self_eq_true ok
    go_wp2
    go_ret
    exact ⟨rfl, KX.out, KY.out, FR⟩)
set_option maxRecDepth 100000 in
set_option maxHeartbeats 8000000 in
theorem does_none (g gp b N n c : Nat) (X : List Int) (kd f a v : Int) (w : World) (h0 : kd ≠ 0) (h1 : kd ≠ 1) (h2 : kd ≠ 2) (h3 : kd ≠ 3) (h4 : kd ≠ 4) (hx : Mm w g gp n X) (hy : Rf w b X) (hN : N = n * 16) (hn : n ≤ 256) :
    Calls Try.prog 18 #[.pointer (some ⟨g, 0, none⟩), .slice (some ⟨b, 0, none⟩) N c, .agg (dd kd f a v)] w fun r w' => DoPost g gp b n X w w' r := by
  have B1 := bl_alloc (bl_refl w) (.cells (dd kd f a v) 30)
  have KD := Blk.new w 30 (dd kd f a v)
  have hx1 := Lib.hid (hx.below B1)
  have hy1 := Lib.hid (hy.below B1)
  have FR1 := Lib.hid ((Fr.refl gp b w).below B1)
  have hAt := Lib.hid (fun w' => at_c (some ⟨b, 0, none⟩) N n c f a w' hN hn)
  have d0 := KD.cellv 0 (.int .i64 kd) rfl
  have d1 := KD.cellv 1 (.int .i64 f) rfl
  have d2 := KD.cellv 2 (.int .i64 a) rfl
  clear hx hy B1 KD hN hn
  go_enter Try.func18, Try.ntmps18
  go_wp2_with fail
  refine (hAt.out _).mono ?_
  rintro r w1 ⟨rfl, rfl⟩
  go_wp2
  go_ret
  exact ⟨rfl, hx1.out, hy1.out, FR1.out⟩
set_option maxRecDepth 100000 in
set_option maxHeartbeats 8000000 in
theorem does_lay (g gp b N n c : Nat) (X : List Int) (f a v : Int) (w : World) (hx : Mm w g gp n X) (hy : Rf w b X) (hl : X.length = N) (hN : N = n * 16) (hn : n ≤ 256) :
    Calls Try.prog 18 #[.pointer (some ⟨g, 0, none⟩), .slice (some ⟨b, 0, none⟩) N c, .agg (dd 4 f a v)] w fun r w' => DoPost g gp b n (layQ n X f (ramp v 16)) w w' r := by
  have B1 := bl_alloc (bl_refl w) (.cells (dd 4 f a v) 30)
  have KD := Blk.new w 30 (dd 4 f a v)
  have hx1 := Lib.hid (hx.below B1)
  have hy1 := Lib.hid (hy.below B1)
  have hne := Lib.hid (hy.ne hx)
  have FR1 := Lib.hid ((Fr.refl gp b w).below B1)
  have hAt := Lib.hid (fun w' => at_c (some ⟨b, 0, none⟩) N n c f a w' hN hn)
  have hA0 := Lib.hid (fun w' => at_c (some ⟨b, 0, none⟩) N n c f 0 w' hN hn)
  have hLy := Lib.hid (fun w' h' => lay_c g gp n f X (ramp v 16) w' h' (ramp_len v 16))
  have hPg := Lib.hid (page_c v)
  have hlt : Hid (w.heap.size ≠ b ∧ w.heap.size ≠ gp) := Lib.hid (by have := hy.lt; have := hx.p.lt; omega)
  have d0 := KD.cellv 0 (.int .i64 4) rfl
  have d1 := KD.cellv 1 (.int .i64 f) rfl
  have d2 := KD.cellv 2 (.int .i64 a) rfl
  have KDh := Lib.hid KD
  have ok0 : okB n f 0 = inB n f := by simp [okB, inB]
  have hrl := Lib.hid (ramp_len v 16)
  have hrg := Lib.hid (ramp_get v)
  clear hx hy B1 KD
  cases hin : inB n f with
  | false =>
    rw [show atv n f 0 = -1 by unfold atv; rw [ok0, hin]; rfl] at hA0
    have hlq := Lib.hid (show layQ n X f (ramp v 16) = X by unfold layQ; rw [hin]; rfl)
    rw [hin] at hLy
    clear ok0 hin hl hN hn
    generalize ramp v 16 = P at *
    rw [hlq.out] at hLy ⊢
    go_enter Try.func18, Try.ntmps18
    go_wp2_with fail
    refine (hAt.out _).mono ?_
    rintro r w1 ⟨rfl, rfl⟩
    generalize atv n f a = at_ at *
    go_wp2_with fail
    refine (hA0.out _).mono ?_
    rintro r w1 ⟨rfl, rfl⟩
    go_wp2_with fail
    go_loopw [8] (fun i wr => i = .int .i64 0 ∧ w.alloc (.cells (dd 4 f a v) 30) = wr) (fun _ _ => 0)
    case atStart => exact ⟨rfl, rfl⟩
    case round =>
      obtain ⟨rfl, rfl⟩ := hrel
      go_wp2_with fail
      have KX := Lib.hid (hx1.out.below (bl_drew (bl_refl _)))
      have KY := Lib.hid (hy1.out.below (bl_drew (bl_refl _)))
      have FR := FR1.out.below (bl_drew (bl_refl _))
      clear d0 d1 d2
      have KD := KDh.out.drew
      have t1 := KD.cellv 1 (.int .i64 f) rfl
      have t3 := KD.cellv 3 (.int .u32 v) rfl
      go_region_held3 (fun w' => w'.cell? ⟨w.heap.size, 1, none⟩ = some (.int .i64 f) ∧ w'.cell? ⟨w.heap.size, 3, none⟩ = some (.int .u32 v))
        (first
          | go_keep
          | exact ⟨KD.cellv 1 _ rfl, KD.cellv 3 _ rfl⟩)
        (first
          | (go_at_call 27; refine (hPg.out _).mono ?_; rintro r wa ⟨rfl, ba⟩; have KX := Lib.hid (KX.out.below ba); have KY := Lib.hid (KY.out.below ba); have KD := KD.below ba; have FR := FR.below ba; clear ba)
          | (go_at_call 26; refine (hLy.out _ KX.out).mono ?_; rintro r wa ⟨rfl, hxa, ga⟩; have KX := Lib.hid hxa; have KY := Lib.hid (KY.out.grown ga hne.out.2); have KD := KD.grown ga (fun e => by injection e with e; exact hlt.out.2 e); have FR := FR.x ga; clear hxa ga))
      all_goals (
        go_wp2
        go_ret
        exact ⟨rfl, KX.out, KY.out, FR⟩)
  | true =>
    obtain ⟨f', rfl, hf⟩ := inB_nat hin
    rw [show atv n f' 0 = ((f' * 16 : Nat) : Int) by unfold atv; rw [ok0, hin]; rfl] at hA0
    have hlq := Lib.hid (show blend X (f' * 16) (ramp v 16) 16 = layQ n X f' (ramp v 16) by rw [blend_lay X n f' _ (by omega) hf (ramp_len v 16)]; unfold layQ; rw [hin]; rfl)
    rw [← hlq.out] at hLy ⊢
    rw [hin] at hLy
    have hz := Lib.hid (blend_zero X (f' * 16) (ramp v 16))
    have hst := Lib.hid (blend_set X (f' * 16) (ramp v 16))
    have hbl := Lib.hid (blend_len X (f' * 16) (ramp v 16))
    have b1 : f' * 16 + 16 ≤ N := by omega
    have hNb : N ≤ 4096 := by omega
    have hlh := Lib.hid hl
    clear hlq hin ok0 hf hl hN hn
    generalize f' * 16 = o at *
    generalize ramp v 16 = P at *
    generalize hfe : (f' : Int) = f at *
    clear hfe
    go_enter Try.func18, Try.ntmps18
    go_wp2_with fail
    refine (hAt.out _).mono ?_
    rintro r w1 ⟨rfl, rfl⟩
    generalize atv n f a = at_ at *
    go_wp2_with fail
    refine (hA0.out _).mono ?_
    rintro r w1 ⟨rfl, rfl⟩
    go_wp2_with fail
    generalize w.alloc (.cells (dd 4 f a v) 30) = w1 at *
    go_loopw [8] (fun i wr => ∃ (k : Nat), k ≤ 16 ∧ i = .int .i64 k ∧ Rf wr b (blend X o P k) ∧ w1.grownBy wr (some b)) (fun i _ => 16 - (intOf i).toNat)
    case atStart => exact ⟨0, by omega, rfl, (by rw [hz.out]; exact hy1.out), grown_of_below (bl_refl w1) _⟩
    case round =>
      clear hz hy1 d0 d1 d2
      obtain ⟨k, hk, rfl, HR, HG⟩ := hrel
      have KDh := Lib.hid (KDh.out.grown HG (fun e => by injection e with e; exact hlt.out.1 e))
      have d1 := KDh.out.cellv 1 (.int .i64 f) rfl
      have d3 := KDh.out.cellv 3 (.int .u32 v) rfl
      by_cases hlt16 : k < 16
      · have hq : decide ((k : Int) < 16) = true := by simp; omega
        have m1 : IntKind.i64.wrap ((o : Int) + (k : Int)) = (o + k : Nat) := by rw [show (o : Int) + (k : Int) = (o + k : Nat) by omega]; exact wrap_id _ (by omega) (by omega)
        have wk : IntKind.u32.wrap (k : Int) = k := by rw [IntKind.wrap_u32']; omega
        have hs := Lib.hid (hst.out k)
        rw [hrg.out k hlt16] at hs
        obtain ⟨cur, hK, hcur⟩ := HR
        have hcur' := Lib.hid hcur
        have hsz := Lib.hid (Rf.size hcur (o + k) (by rw [hbl.out, hlh.out]; omega))
        have i1 : o + k < N := by omega
        clear hcur
        obtain ⟨u, hu⟩ : ∃ u, o + k = u := ⟨_, rfl⟩
        rw [hu] at m1 hs hsz i1
        have i1' : (u : Int) < N := by omega
        clear hu
        go_wp2_with (first
          | ((refine wl_set (by rfl) 28 _ _ (by rfl) b u (by rfl) (.int .u32 (IntKind.u32.wrap (v + k))) (by rfl) rfl 28 cur hK size_u32 hsz.out ?_); intro w4 k4 g4 s4))
        have hR4 := Rf.set_ hcur'.out k4
        rw [hs.out] at hR4
        have hG4 := World.grownBy.trans HG g4
        clear k4 g4 HG hK d1 d3
        go_wp2
        go_roundw
        case rel => exact ⟨k + 1, by omega, by go_num, hR4, hG4⟩
        case measure => first | (simp [intOf]; done) | (simp [intOf]; omega)
      · obtain rfl : k = 16 := by omega
        have hq : decide (((16 : Nat) : Int) < 16) = false := by simp
        go_wp2_with fail
        have KX := Lib.hid ((hx1.out.grown HG hne.out.1.symm hne.out.2.symm).below (bl_drew (bl_refl _)))
        have KY := Lib.hid (HR.below (bl_drew (bl_refl _)))
        have FR := (FR1.out.y HG).below (bl_drew (bl_refl _))
        clear d1 d3 HR HG
        have KD := KDh.out.drew
        have t1 := KD.cellv 1 (.int .i64 f) rfl
        have t3 := KD.cellv 3 (.int .u32 v) rfl
        go_region_held3 (fun w' => w'.cell? ⟨w.heap.size, 1, none⟩ = some (.int .i64 f) ∧ w'.cell? ⟨w.heap.size, 3, none⟩ = some (.int .u32 v))
          (first
            | go_keep
            | exact ⟨KD.cellv 1 _ rfl, KD.cellv 3 _ rfl⟩)
          (first
            | (go_at_call 27; refine (hPg.out _).mono ?_; rintro r wa ⟨rfl, ba⟩; have KX := Lib.hid (KX.out.below ba); have KY := Lib.hid (KY.out.below ba); have KD := KD.below ba; have FR := FR.below ba; clear ba)
            | (go_at_call 26; refine (hLy.out _ KX.out).mono ?_; rintro r wa ⟨rfl, hxa, ga⟩; have KX := Lib.hid hxa; have KY := Lib.hid (KY.out.grown ga hne.out.2); have KD := KD.grown ga (fun e => by injection e with e; exact hlt.out.2 e); have FR := FR.x ga; clear hxa ga))
        all_goals (
          go_wp2
          go_ret
          exact ⟨rfl, KX.out, KY.out, FR⟩)
end Go.Proofs.Ytdokmnpkihmkpaa.Frames6
