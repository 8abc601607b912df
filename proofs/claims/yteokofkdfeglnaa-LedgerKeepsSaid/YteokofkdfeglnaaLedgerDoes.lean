/- One deed in both ledgers. -/
import Derived.Test.YteokofkdfeglnaaLedgerRef2
set_option linter.unusedVariables false
namespace Go.Proofs.Yteokofkdfeglnaa.LedgerDoes
open Go.RowKit Go.Proofs.Yteokofkdfeglnaa.Base Go.Proofs.Yteokofkdfeglnaa.Row Go.Proofs.Yteokofkdfeglnaa.Ledger Go.Proofs.Yteokofkdfeglnaa.Ledger2 Go.Proofs.Yteokofkdfeglnaa.Ledger3 Go.Proofs.Yteokofkdfeglnaa.Ledger4 Go.Proofs.Yteokofkdfeglnaa.LedgerRef Go.Proofs.Yteokofkdfeglnaa.LedgerRef2

/-- What a deed does. -/
def pDo (L : List Int) (kd en to k n : Int) : List Int :=
  if kd = 0 ∨ kd = 1 then (pTake L en k n).2 else if kd = 2 then (pFree L en k n).2 else if kd = 3 ∨ kd = 4 then (pMove L en to k n).2 else if kd = 5 then (pClose L en to).2 else L
theorem do_len (L : List Int) (kd en to k n : Int) : (pDo L kd en to k n).length = L.length := by
  unfold pDo
  split
  · exact Ledger2.take_len L en k n
  · split
    · exact free_len L en k n
    · split
      · exact move_len L en to k n
      · split
        · exact close_len L en to
        · rfl

/-- Nothing below gx and gy is written. -/
def Fr (gx gy : Nat) (w w' : World) : Prop := w.heap.size ≤ w'.heap.size ∧ ∀ B w0, Below B w0 w → B ≤ w.heap.size → B ≤ gx → B ≤ gy → Below B w0 w'
theorem Fr.refl (gx gy : Nat) (w : World) : Fr gx gy w w := ⟨Nat.le_refl _, fun _ _ h _ _ _ => h⟩
theorem Fr.x {gx gy : Nat} {w w1 w2 : World} (h : Fr gx gy w w1) (hg : w1.grownBy w2 (some gx)) : Fr gx gy w w2 :=
  ⟨Nat.le_trans h.1 hg.size, fun B w0 hb h1 h2 h3 => below_grown (h.2 B w0 hb h1 h2 h3) (Nat.le_trans h1 h.1) hg h2⟩
theorem Fr.y {gx gy : Nat} {w w1 w2 : World} (h : Fr gx gy w w1) (hg : w1.grownBy w2 (some gy)) : Fr gx gy w w2 :=
  ⟨Nat.le_trans h.1 hg.size, fun B w0 hb h1 h2 h3 => below_grown (h.2 B w0 hb h1 h2 h3) (Nat.le_trans h1 h.1) hg h3⟩
theorem Fr.below {gx gy : Nat} {w w1 w2 : World} (h : Fr gx gy w w1) (hb : Below w1.heap.size w1 w2) : Fr gx gy w w2 :=
  ⟨Nat.le_trans h.1 hb.size, fun B w0 hb0 h1 h2 h3 => bl_thenB (h.2 B w0 hb0 h1 h2 h3) (Nat.le_trans h1 h.1) hb⟩

def dd (kd en to k n : Int) : Array Value := #[.int .i64 kd, .int .i64 en, .int .i64 to, .int .i64 k, .int .i64 n]
def DoPost (gx gy : Nat) (L : List Int) (w w' : World) (r : Ending) : Prop := r = .returned (.bool true) ∧ Lg w' gx 0 L ∧ Rg w' gy L ∧ Fr gx gy w w'

set_option maxRecDepth 100000 in
set_option maxHeartbeats 8000000 in
theorem does_c (gx gy : Nat) (L : List Int) (kd en to k n : Int) (w : World) (hx : Lg w gx 0 L) (hy : Rg w gy L) (hl : L.length = 128) :
    Calls Try.prog 25 #[.pointer (some ⟨gx, 0, none⟩), .pointer (some ⟨gy, 0, none⟩), .agg (dd kd en to k n)] w fun r w' => DoPost gx gy (pDo L kd en to k n) w w' r := by
  have hxy : Hid (gx ≠ gy) := Lib.hid (Blk.ne_ hx hy (by decide))
  have KX := hx.alloc (.cells (dd kd en to k n) 52)
  have KY := hy.alloc (.cells (dd kd en to k n) 52)
  have KD := Blk.new w 52 (dd kd en to k n)
  have hdx : Hid (w.heap.size ≠ gx) := Lib.hid (by have := Blk.lt hx; omega)
  have hdy : Hid (w.heap.size ≠ gy) := Lib.hid (by have := Blk.lt hy; omega)
  have FR : Fr gx gy w (w.alloc (.cells (dd kd en to k n) 52)) := (Fr.refl gx gy w).below (bl_alloc (bl_refl w) _)
  have HX := Lib.hid KX
  have HY := Lib.hid KY
  have HD := Lib.hid KD
  have d0 := KD.cellv 0 (.int .i64 kd) rfl
  have d1 := KD.cellv 1 (.int .i64 en) rfl
  have d2 := KD.cellv 2 (.int .i64 to) rfl
  have d3 := KD.cellv 3 (.int .i64 k) rfl
  have d4 := KD.cellv 4 (.int .i64 n) rfl
  have hlh := Lib.hid hl
  clear hx hy KX KY KD hl
  by_cases h0 : kd = 0
  · subst h0
    have hp : Hid (pDo L 0 en to k n = (pTake L en k n).2) := Lib.hid (by simp [pDo])
    rw [hp.out]
    go_enter Try.func25, Try.ntmps25
    go_wp2
    have KX := HX.out.drew
    have KY := HY.out.drew
    have KD := HD.out.drew
    have FR := FR.below (bl_drew (bl_refl _))
    go_region_held3 (fun w' => w'.cell? ⟨w.heap.size, 1, none⟩ = some (.int .i64 en) ∧ w'.cell? ⟨w.heap.size, 2, none⟩ = some (.int .i64 to) ∧ w'.cell? ⟨w.heap.size, 3, none⟩ = some (.int .i64 k) ∧ w'.cell? ⟨w.heap.size, 4, none⟩ = some (.int .i64 n))
      (first
        | go_keep
        | exact ⟨KD.cellv 1 _ rfl, KD.cellv 2 _ rfl, KD.cellv 3 _ rfl, KD.cellv 4 _ rfl⟩)
      (first
        | (go_at_call 30; refine (take_c gx en k n L _ KX hlh.out).mono ?_; rintro r wa ⟨rfl, KX, GX⟩; have KY := Blk.grown KY GX (fun e => by injection e with e; exact hxy.out e.symm); have KD := Blk.grown KD GX (fun e => by injection e with e; exact hdx.out e); have FR := FR.x GX)
        | (go_at_call 38; refine (rtake_c gy en k n L _ KY hlh.out).mono ?_; rintro r wa ⟨rfl, KY, GY⟩; have KX := Blk.grown KX GY (fun e => by injection e with e; exact hxy.out e); have KD := Blk.grown KD GY (fun e => by injection e with e; exact hdy.out e); have FR := FR.y GY))
    all_goals (
      go_wp2
      go_ret
      exact ⟨rfl, KX, KY, FR⟩)
  by_cases h1 : kd = 1
  · subst h1
    have hp : Hid (pDo L 1 en to k n = (pTake L en k n).2) := Lib.hid (by simp [pDo])
    rw [hp.out]
    clear h0
    go_enter Try.func25, Try.ntmps25
    go_wp2
    have KX := HX.out.drew
    have KY := HY.out.drew
    have KD := HD.out.drew
    have FR := FR.below (bl_drew (bl_refl _))
    go_region_held3 (fun w' => w'.cell? ⟨w.heap.size, 1, none⟩ = some (.int .i64 en) ∧ w'.cell? ⟨w.heap.size, 2, none⟩ = some (.int .i64 to) ∧ w'.cell? ⟨w.heap.size, 3, none⟩ = some (.int .i64 k) ∧ w'.cell? ⟨w.heap.size, 4, none⟩ = some (.int .i64 n))
      (first
        | go_keep
        | exact ⟨KD.cellv 1 _ rfl, KD.cellv 2 _ rfl, KD.cellv 3 _ rfl, KD.cellv 4 _ rfl⟩)
      (first
        | (go_at_call 30; refine (take_c gx en k n L _ KX hlh.out).mono ?_; rintro r wa ⟨rfl, KX, GX⟩; have KY := Blk.grown KY GX (fun e => by injection e with e; exact hxy.out e.symm); have KD := Blk.grown KD GX (fun e => by injection e with e; exact hdx.out e); have FR := FR.x GX)
        | (go_at_call 38; refine (rtake_c gy en k n L _ KY hlh.out).mono ?_; rintro r wa ⟨rfl, KY, GY⟩; have KX := Blk.grown KX GY (fun e => by injection e with e; exact hxy.out e); have KD := Blk.grown KD GY (fun e => by injection e with e; exact hdy.out e); have FR := FR.y GY))
    all_goals (
      go_wp2
      go_ret
      exact ⟨rfl, KX, KY, FR⟩)
  by_cases h2 : kd = 2
  · subst h2
    have hp : Hid (pDo L 2 en to k n = (pFree L en k n).2) := Lib.hid (by simp [pDo])
    rw [hp.out]
    clear h0 h1
    go_enter Try.func25, Try.ntmps25
    go_wp2
    have KX := HX.out.drew
    have KY := HY.out.drew
    have KD := HD.out.drew
    have FR := FR.below (bl_drew (bl_refl _))
    go_region_held3 (fun w' => w'.cell? ⟨w.heap.size, 1, none⟩ = some (.int .i64 en) ∧ w'.cell? ⟨w.heap.size, 2, none⟩ = some (.int .i64 to) ∧ w'.cell? ⟨w.heap.size, 3, none⟩ = some (.int .i64 k) ∧ w'.cell? ⟨w.heap.size, 4, none⟩ = some (.int .i64 n))
      (first
        | go_keep
        | exact ⟨KD.cellv 1 _ rfl, KD.cellv 2 _ rfl, KD.cellv 3 _ rfl, KD.cellv 4 _ rfl⟩)
      (first
        | (go_at_call 31; refine (free_c gx en k n L _ KX hlh.out).mono ?_; rintro r wa ⟨rfl, KX, GX⟩; have KY := Blk.grown KY GX (fun e => by injection e with e; exact hxy.out e.symm); have KD := Blk.grown KD GX (fun e => by injection e with e; exact hdx.out e); have FR := FR.x GX)
        | (go_at_call 38; refine (rfree_c gy en k n L _ KY hlh.out).mono ?_; rintro r wa ⟨rfl, KY, GY⟩; have KX := Blk.grown KX GY (fun e => by injection e with e; exact hxy.out e); have KD := Blk.grown KD GY (fun e => by injection e with e; exact hdy.out e); have FR := FR.y GY))
    all_goals (
      go_wp2
      go_ret
      exact ⟨rfl, KX, KY, FR⟩)
  by_cases h3 : kd = 3
  · subst h3
    have hp : Hid (pDo L 3 en to k n = (pMove L en to k n).2) := Lib.hid (by simp [pDo])
    rw [hp.out]
    clear h0 h1 h2
    go_enter Try.func25, Try.ntmps25
    go_wp2
    have KX := HX.out.drew
    have KY := HY.out.drew
    have KD := HD.out.drew
    have FR := FR.below (bl_drew (bl_refl _))
    go_region_held3 (fun w' => w'.cell? ⟨w.heap.size, 1, none⟩ = some (.int .i64 en) ∧ w'.cell? ⟨w.heap.size, 2, none⟩ = some (.int .i64 to) ∧ w'.cell? ⟨w.heap.size, 3, none⟩ = some (.int .i64 k) ∧ w'.cell? ⟨w.heap.size, 4, none⟩ = some (.int .i64 n))
      (first
        | go_keep
        | exact ⟨KD.cellv 1 _ rfl, KD.cellv 2 _ rfl, KD.cellv 3 _ rfl, KD.cellv 4 _ rfl⟩)
      (first
        | (go_at_call 32; refine (move_c gx en to k n L _ KX hlh.out).mono ?_; rintro r wa ⟨rfl, KX, GX⟩; have KY := Blk.grown KY GX (fun e => by injection e with e; exact hxy.out e.symm); have KD := Blk.grown KD GX (fun e => by injection e with e; exact hdx.out e); have FR := FR.x GX)
        | (go_at_call 39; refine (rmove_c gy en to k n L _ KY hlh.out).mono ?_; rintro r wa ⟨rfl, KY, GY⟩; have KX := Blk.grown KX GY (fun e => by injection e with e; exact hxy.out e); have KD := Blk.grown KD GY (fun e => by injection e with e; exact hdy.out e); have FR := FR.y GY))
    all_goals (
      go_wp2
      go_ret
      exact ⟨rfl, KX, KY, FR⟩)
  by_cases h4 : kd = 4
  · subst h4
    have hp : Hid (pDo L 4 en to k n = (pMove L en to k n).2) := Lib.hid (by simp [pDo])
    rw [hp.out]
    clear h0 h1 h2 h3
    go_enter Try.func25, Try.ntmps25
    go_wp2
    have KX := HX.out.drew
    have KY := HY.out.drew
    have KD := HD.out.drew
    have FR := FR.below (bl_drew (bl_refl _))
    go_region_held3 (fun w' => w'.cell? ⟨w.heap.size, 1, none⟩ = some (.int .i64 en) ∧ w'.cell? ⟨w.heap.size, 2, none⟩ = some (.int .i64 to) ∧ w'.cell? ⟨w.heap.size, 3, none⟩ = some (.int .i64 k) ∧ w'.cell? ⟨w.heap.size, 4, none⟩ = some (.int .i64 n))
      (first
        | go_keep
        | exact ⟨KD.cellv 1 _ rfl, KD.cellv 2 _ rfl, KD.cellv 3 _ rfl, KD.cellv 4 _ rfl⟩)
      (first
        | (go_at_call 32; refine (move_c gx en to k n L _ KX hlh.out).mono ?_; rintro r wa ⟨rfl, KX, GX⟩; have KY := Blk.grown KY GX (fun e => by injection e with e; exact hxy.out e.symm); have KD := Blk.grown KD GX (fun e => by injection e with e; exact hdx.out e); have FR := FR.x GX)
        | (go_at_call 39; refine (rmove_c gy en to k n L _ KY hlh.out).mono ?_; rintro r wa ⟨rfl, KY, GY⟩; have KX := Blk.grown KX GY (fun e => by injection e with e; exact hxy.out e); have KD := Blk.grown KD GY (fun e => by injection e with e; exact hdy.out e); have FR := FR.y GY))
    all_goals (
      go_wp2
      go_ret
      exact ⟨rfl, KX, KY, FR⟩)
  by_cases h5 : kd = 5
  · subst h5
    have hp : Hid (pDo L 5 en to k n = (pClose L en to).2) := Lib.hid (by simp [pDo])
    rw [hp.out]
    clear h0 h1 h2 h3 h4
    go_enter Try.func25, Try.ntmps25
    go_wp2
    have KX := HX.out.drew
    have KY := HY.out.drew
    have KD := HD.out.drew
    have FR := FR.below (bl_drew (bl_refl _))
    go_region_held3 (fun w' => w'.cell? ⟨w.heap.size, 1, none⟩ = some (.int .i64 en) ∧ w'.cell? ⟨w.heap.size, 2, none⟩ = some (.int .i64 to) ∧ w'.cell? ⟨w.heap.size, 3, none⟩ = some (.int .i64 k) ∧ w'.cell? ⟨w.heap.size, 4, none⟩ = some (.int .i64 n))
      (first
        | go_keep
        | exact ⟨KD.cellv 1 _ rfl, KD.cellv 2 _ rfl, KD.cellv 3 _ rfl, KD.cellv 4 _ rfl⟩)
      (first
        | (go_at_call 33; refine (close_c gx en to L _ KX hlh.out).mono ?_; rintro r wa ⟨rfl, KX, GX⟩; have KY := Blk.grown KY GX (fun e => by injection e with e; exact hxy.out e.symm); have KD := Blk.grown KD GX (fun e => by injection e with e; exact hdx.out e); have FR := FR.x GX)
        | (go_at_call 40; refine (rclose_c gy en to L _ KY hlh.out).mono ?_; rintro r wa ⟨rfl, KY, GY⟩; have KX := Blk.grown KX GY (fun e => by injection e with e; exact hxy.out e); have KD := Blk.grown KD GY (fun e => by injection e with e; exact hdy.out e); have FR := FR.y GY))
    all_goals (
      go_wp2
      go_ret
      exact ⟨rfl, KX, KY, FR⟩)
  have hp : Hid (pDo L kd en to k n = L) := Lib.hid (by simp [pDo, h0, h1, h2, h3, h4, h5])
  rw [hp.out]
  have q0 : (kd == 0) = false := by simpa using h0
  have q1 : (kd == 1) = false := by simpa using h1
  have q2 : (kd == 2) = false := by simpa using h2
  have q3 : (kd == 3) = false := by simpa using h3
  have q4 : (kd == 4) = false := by simpa using h4
  have q5 : (kd == 5) = false := by simpa using h5
  clear h0 h1 h2 h3 h4 h5
  go_enter Try.func25, Try.ntmps25
  go_wp2
  go_ret
  exact ⟨rfl, HX.out, HY.out, FR⟩
end Go.Proofs.Yteokofkdfeglnaa.LedgerDoes
