/- Contracts of package cpu in every way: an address's frame; a word's load and store. -/
import Derived.Test.YtdokmnpkihmkpaaCpu5
set_option linter.unusedVariables false
namespace Go.Proofs.Ytdokmnpkihmkpaa.CpuA
open Go.RowKit Go.Proofs.Ytdokmnpkihmkpaa.Base Go.Proofs.Ytdokmnpkihmkpaa.Row Go.Proofs.Ytdokmnpkihmkpaa.App Go.Proofs.Ytdokmnpkihmkpaa.Multi Go.Proofs.Ytdokmnpkihmkpaa.StEq Go.Proofs.Ytdokmnpkihmkpaa.Held Go.Proofs.Ytdokmnpkihmkpaa.Out Go.Proofs.Ytdokmnpkihmkpaa.HeldW Go.Proofs.Ytdokmnpkihmkpaa.HeldX Go.Proofs.Ytdokmnpkihmkpaa.Once Go.Proofs.Ytdokmnpkihmkpaa.Isa Go.Proofs.Ytdokmnpkihmkpaa.Isa2 Go.Proofs.Ytdokmnpkihmkpaa.Isa3 Go.Proofs.Ytdokmnpkihmkpaa.TlbMath Go.Proofs.Ytdokmnpkihmkpaa.Tlb Go.Proofs.Ytdokmnpkihmkpaa.Tlb3 Go.Proofs.Ytdokmnpkihmkpaa.Frames Go.Proofs.Ytdokmnpkihmkpaa.Frames2 Go.Proofs.Ytdokmnpkihmkpaa.Frames4 Go.Proofs.Ytdokmnpkihmkpaa.Cpu Go.Proofs.Ytdokmnpkihmkpaa.Cpu2 Go.Proofs.Ytdokmnpkihmkpaa.Cpu3 Go.Proofs.Ytdokmnpkihmkpaa.Cpu4 Go.Proofs.Ytdokmnpkihmkpaa.Cpu5

/-- The trap is set. -/
def dt (d : Dn) (c p : Int) (b : Bool) (k : Int) : Dn := { d with tc := c, tp := p, tw := b, tk := k }
theorem dg_trap (x : Nat) (d : Dn) (h : d.R.length = 16) (c p : Int) (b : Bool) (k : Int) : lay (dg x d) 19 [.int .i64 c, .int .i64 p, .bool b, .int .i64 k] = dg x (dt d c p b k) := by
  apply Array.ext_getElem?
  intro j
  rw [lay_get _ _ _ _ (by rw [dg_size x d h]; show 19 + 4 ≤ 23; omega)]
  have hR : (dt d c p b k).R.length = 16 := h
  show (if 19 ≤ j ∧ j < 19 + 4 then _ else _) = _
  by_cases hj : 19 ≤ j ∧ j < 19 + 4
  · rw [if_pos hj]
    obtain ⟨i, rfl⟩ : ∃ i, j = 18 + (i + 1) := ⟨j - 19, by omega⟩
    rw [dg_rest x _ hR (i + 1), show 18 + (i + 1) - 19 = i by omega]
    rfl
  · rw [if_neg hj]
    rcases Nat.lt_or_ge j 2 with h2 | h2
    · match j, h2 with
      | 0, _ => rfl
      | 1, _ => rfl
    · rcases Nat.lt_or_ge j 18 with h3 | h3
      · obtain ⟨i, rfl⟩ : ∃ i, j = 2 + i := ⟨j - 2, by omega⟩
        rw [dg_reg x d h i (by omega), dg_reg x _ hR i (by omega)]
        rfl
      · obtain ⟨i, rfl⟩ : ∃ i, j = 18 + i := ⟨j - 18, by omega⟩
        rw [dg_rest x d h i, dg_rest x _ hR i]
        match i with
        | 0 => rfl
        | 1 => omega
        | 2 => omega
        | 3 => omega
        | 4 => omega
        | i + 5 => rfl
theorem built_tp (c p : Int) (b : Bool) : Try.prog.built 117 [(0, .int .i64 c), (1, .int .i64 p), (2, .bool b)] = some #[.int .i64 c, .int .i64 p, .bool b, .int .i64 0] := by kernel_rfl
theorem built_tk (c k : Int) : Try.prog.built 117 [(0, .int .i64 c), (3, .int .i64 k)] = some #[.int .i64 c, .int .i64 0, .bool false, .int .i64 k] := by kernel_rfl
theorem tp_one (c p : Int) (b : Bool) (k : Int) : ∀ v ∈ (#[.int .i64 c, .int .i64 p, .bool b, .int .i64 k] : Array Value), v.oneCell' = true := by
  intro v hv
  simp at hv
  rcases hv with rfl | rfl | rfl | rfl <;> rfl
theorem size_tp (c p : Int) (b : Bool) (k : Int) : (Try.prog.info? 117).map (·.size) = some (#[.int .i64 c, .int .i64 p, .bool b, .int .i64 k] : Array Value).size := by kernel_rfl
set_option maxRecDepth 100000 in
set_option maxHeartbeats 2000000 in
theorem even_no (g x : Nat) (d : Dn) (a : Int) (w : World) (HD : Blk w g 140 (dg x d)) (hR : d.R.length = 16) (ha : ¬ a % 4 = 0) (h0 : 0 ≤ a) :
    Calls Try.prog 70 #[.pointer (some ⟨g, 0, none⟩), .int .u32 a] w fun r w' => r = .returned (.bool false) ∧ Blk w' g 140 (dg x (dt d 5 0 false 0)) ∧ Out w w' (fun i => i = g) := by
  have hm : a.tmod 4 = a % 4 := Int.tmod_eq_emod_of_nonneg h0
  have hq1 : (a % 4 != 0) = true := by simpa using ha
  have hq2 : (a % 4 == 0) = false := by simpa using ha
  have hq3 : ¬ a % 4 = 0 := ha
  have ht := Lib.hid (dg_trap x d hR 5 0 false 0)
  have hsz := dg_size x d hR
  obtain ⟨D2, hD2⟩ : ∃ D2, D2 = dg x (dt d 5 0 false 0) := ⟨_, rfl⟩
  rw [← hD2] at ht ⊢
  clear hD2 ha
  generalize dg x d = D at *
  go_enter Try.func70, Try.ntmps70
  go_wp2_with (first
    | (refine at_slot 9 rfl ?_; refine wl_build1 rfl 117 0 _ rfl (.int .i64 5) rfl (trc 5) (built_trc 5) ?_)
    | ((refine wl_store_mid rfl 117 (.tmp 11) (.tmp 9) rfl g 19 rfl (trc 5) rfl 140 D HD (size_trc 5) (by rw [hsz]; show 19 + 4 ≤ 23; omega) (trc_one 5) ?_); intro w1 k1 g1 s1))
  rw [show (trc 5).toList = [.int .i64 5, .int .i64 0, .bool false, .int .i64 0] from rfl, ht.out] at k1
  go_ret
  exact ⟨rfl, k1, Out.of_grown g1 (S := fun i => i = g) (fun k e => by injection e with e; exact e.symm)⟩
/-- A word of the memory; 0, where there is no such place. -/
def getX (n : Nat) (X : List Int) (f a : Int) : Int := if okB n f a then X[wh f a]?.getD 0 else 0
set_option maxRecDepth 100000 in
theorem fget_c (g gp n : Nat) (f at_ : Int) (X : List Int) (w : World) (h : Mm w g gp n X) :
    Calls Try.prog 23 #[.pointer (some ⟨g, 0, none⟩), .int .i64 f, .int .i64 at_] w fun r w' => r = .returned (.tuple #[.int .u32 (getX n X f at_), .bool (okB n f at_)]) ∧ w = w' := by
  cases hok : okB n f at_ with
  | true =>
    obtain ⟨m, k, rfl, rfl, h1, h2⟩ := okB_ex hok
    rw [show getX n X m k = X[m * 16 + k]?.getD 0 by unfold getX; rw [if_pos hok]; rfl]
    exact get_yes g gp n m k X w h h1 h2
  | false =>
    rw [show getX n X f at_ = 0 by unfold getX; rw [hok]; rfl]
    have hI := Lib.hid (in_c g gp n X f w h)
    clear h
    cases hin : inB n f with
    | false =>
      rw [hin] at hI
      clear hok hin
      go_enter Try.func23, Try.ntmps23
      go_wp2_with fail
      refine (hI.out).mono ?_
      rintro r w1 ⟨rfl, rfl⟩
      go_wp2
      go_ret2
      exact ⟨rfl, rfl⟩
    | true =>
      rw [hin] at hI
      by_cases h0 : at_ < 0
      · have q1 : decide (at_ < 0) = true := by simpa using h0
        clear hok hin h0
        go_enter Try.func23, Try.ntmps23
        go_wp2_with fail
        refine (hI.out).mono ?_
        rintro r w1 ⟨rfl, rfl⟩
        go_wp2
        go_ret2
        exact ⟨rfl, rfl⟩
      · have h3 : 16 ≤ at_ := by
          have h1 := of_decide_eq_true hin
          have h2 := of_decide_eq_false hok
          omega
        have q1 : decide (at_ < 0) = false := by simpa using h0
        have q2 : decide (16 ≤ at_) = true := by simpa using h3
        clear hok hin h0 h3
        go_enter Try.func23, Try.ntmps23
        go_wp2_with fail
        refine (hI.out).mono ?_
        rintro r w1 ⟨rfl, rfl⟩
        go_wp2
        go_ret2
        exact ⟨rfl, rfl⟩
/-- Is the address found? -/
def fOk (b : Bool) (e : En) (wr : Bool) : Bool := b && (!wr || e.w)
def fD (d : Dn) (pg : Int) (b : Bool) (e : En) (wr : Bool) : Dn := if b = false then dt d 1 pg wr 0 else if wr = true ∧ e.w = false then dt d 2 pg true 0 else d
def fV (b : Bool) (e : En) (wr : Bool) : Int := if fOk b e wr = true then e.f else 0
set_option maxRecDepth 100000 in
set_option maxHeartbeats 4000000 in
theorem find_c (g x gm gt : Nat) (d : Dn) (l : List En) (m a : Int) (wr : Bool) (b : Bool) (e : En) (w : World) (HD : Blk w g 140 (dg x d)) (hR : d.R.length = 16) (HX : Tb w x 143 (tail gm gt)) (HT : Tl w gt l m) (hl : l.length ≤ 8) (h0 : 0 ≤ a) (h1 : a < 4294967296)
    (hb : getB l d.sp (a / 64) = b) (he : getE l d.sp (a / 64) = e) :
    Calls Try.prog 77 #[.pointer (some ⟨g, 0, none⟩), .int .u32 a, .bool wr] w fun r w' => r = .returned (.tuple #[.int .i64 (fV b e wr), .bool (fOk b e wr)]) ∧ Blk w' g 140 (dg x (fD d (a / 64) b e wr)) ∧ Tl w' gt l (getM l d.sp (a / 64) m) ∧ Out w w' (fun i => i = g ∨ i = gt) := by
  obtain ⟨m2, hm2⟩ : ∃ m2, m2 = getM l d.sp (a / 64) m := ⟨_, rfl⟩
  have hGet := fun w' h => get_c gt l m d.sp (a / 64) w' h hl
  rw [hb, he, ← hm2] at hGet
  rw [← hm2]
  replace hGet := Lib.hid hGet
  have ng : g ≠ gt := Blk.ne_ HD HT (by decide)
  have nx : x ≠ gt := tb_ne HX HT (by decide)
  have hdv : a.tdiv 64 = a / 64 := Int.tdiv_eq_ediv_of_nonneg h0
  have hmd : a / 64 % 4294967296 = a / 64 := by omega
  have O : Out w w (fun i => i = gt) := Out.refl _ _
  have e0 : (dg x d)[0]? = some (.pointer (some ⟨x, 0, none⟩)) := rfl
  have e1 : (dg x d)[1]? = some (.int .i64 d.sp) := rfl
  have ht1 := Lib.hid (dg_trap x d hR 1 (a / 64) wr 0)
  have ht2 := Lib.hid (dg_trap x d hR 2 (a / 64) true 0)
  have hsz := dg_size x d hR
  have hfD : Hid (∀ b e wr, fD d (a / 64) b e wr = if b = false then dt d 1 (a / 64) wr 0 else if wr = true ∧ e.w = false then dt d 2 (a / 64) true 0 else d) := Lib.hid (fun _ _ _ => rfl)
  obtain ⟨D1, hD1⟩ : ∃ D1, D1 = dg x (dt d 1 (a / 64) wr 0) := ⟨_, rfl⟩
  obtain ⟨D2, hD2⟩ : ∃ D2, D2 = dg x (dt d 2 (a / 64) true 0) := ⟨_, rfl⟩
  have hres : Hid (dg x (fD d (a / 64) b e wr) = if b = false then D1 else if wr = true ∧ e.w = false then D2 else dg x d) := Lib.hid (by
    unfold fD
    rw [hD1, hD2]
    cases b with
    | false => rfl
    | true =>
      rw [if_neg (show ¬ true = false by simp), if_neg (show ¬ true = false by simp)]
      by_cases hh : wr = true ∧ e.w = false
      · rw [if_pos hh, if_pos hh]
      · rw [if_neg hh, if_neg hh])
  rw [← hD1] at ht1
  rw [← hD2] at ht2
  rw [hres.out]
  clear hD1 hD2 hres hfD
  generalize a / 64 = pgn at *
  generalize d.sp = sp at *
  generalize dg x d = D at *
  replace e0 := Lib.hid e0
  replace e1 := Lib.hid e1
  clear hm2 hb hl he
  go_enter Try.func77, Try.ntmps77
  go_upto_region 2 with fail
  have HXd := HX
  have O := O.trans (Out.of_below (bl_drew (bl_refl w)) (fun i => i = gt)) (fun i h => .inl h)
  have HT := Blk.below HT (bl_drew (bl_refl w))
  have zT := HT.lt
  have m := m2
  go_cut [9, 10] from 14 to 29 (fun p bb wx => ∃ gN, p = .pointer (some ⟨gN, 0, none⟩) ∧ bb = .bool b ∧ Blk wx gN 52 (ea e) ∧ Blk wx g 140 D ∧ Tl wx gt l m2 ∧ Out w wx (fun i => i = gt))
  case first =>
    refine wp_region_held_drew (S := (fun w' => Blk w' g 140 D ∧ Tb w' x 143 (tail gm gt))) (by kernel_rfl) (⟨HD.drew, HX.drew⟩) (fun hHeld => ?_)
    refine wpAnyH_take (i := 0) (oi := { dst := some 15, op := Op.move (Operand.tmp 0), type := 138, pos := "cpu.go:33", after := #[], guard := none }) (v := ?_) rfl (by kernel_rfl) (by kernel_rfl) (by kernel_rfl) (fun _ _ _ h => h) ?_ hHeld ?_
    rotate_left
    · refine Or.inl ⟨by rfl, fun w hSw => ?_⟩; skip; go_simp; (try with_reducible rfl)
    try simp only [Act.put, List.setIfInBounds_toArray, List.set_cons_zero, List.set_cons_succ]
    refine wpAnyH_take (i := 1) (oi := { dst := some 16, op := Op.nilCheck (Operand.tmp 15), type := 0, pos := "cpu.go:33", after := #[{ on := 0, ground := Ground.data }], guard := none }) (v := ?_) rfl (by kernel_rfl) (by kernel_rfl) (by kernel_rfl) (fun _ _ _ h => h) ?_ hHeld ?_
    rotate_left
    · refine Or.inl ⟨by rfl, fun w hSw => ?_⟩; skip; go_simp; (try with_reducible rfl)
    try simp only [Act.put, List.setIfInBounds_toArray, List.set_cons_zero, List.set_cons_succ]
    refine wpAnyH_take (i := 2) (oi := { dst := some 17, op := Op.fieldAddr 140 (Operand.tmp 16) 0, type := 0, pos := "cpu.go:33", after := #[{ on := 1, ground := Ground.data }], guard := none }) (v := ?_) rfl (by kernel_rfl) (by kernel_rfl) (by kernel_rfl) (fun _ _ _ h => h) ?_ hHeld ?_
    rotate_left
    · refine Or.inl ⟨by rfl, fun w hSw => ?_⟩; skip; go_simp; (try with_reducible rfl)
    try simp only [Act.put, List.setIfInBounds_toArray, List.set_cons_zero, List.set_cons_succ]
    refine wpAnyH_take (i := 3) (oi := { dst := some 18, op := Op.load 112 (Operand.tmp 17), type := 112, pos := "cpu.go:33", after := #[{ on := 2, ground := Ground.data }], guard := none }) (v := ?_) rfl (by kernel_rfl) (by kernel_rfl) (by kernel_rfl) (fun _ _ _ h => h) ?_ hHeld ?_
    rotate_left
    · refine Or.inl ⟨by rfl, fun w hSw => ?_⟩; have c0 : w.cell? ⟨g, 0, none⟩ = some (.pointer (some ⟨x, 0, none⟩)) := hSw.1.cellv 0 _ e0.out; go_simp; (try with_reducible rfl)
    try simp only [Act.put, List.setIfInBounds_toArray, List.set_cons_zero, List.set_cons_succ]
    refine wpAnyH_take (i := 4) (oi := { dst := some 19, op := Op.nilCheck (Operand.tmp 18), type := 0, pos := "cpu.go:33", after := #[{ on := 3, ground := Ground.data }], guard := none }) (v := ?_) rfl (by kernel_rfl) (by kernel_rfl) (by kernel_rfl) (fun _ _ _ h => h) ?_ hHeld ?_
    rotate_left
    · refine Or.inl ⟨by rfl, fun w hSw => ?_⟩; skip; go_simp; (try with_reducible rfl)
    try simp only [Act.put, List.setIfInBounds_toArray, List.set_cons_zero, List.set_cons_succ]
    refine wpAnyH_take (i := 5) (oi := { dst := some 20, op := Op.fieldAddr 143 (Operand.tmp 19) 2, type := 0, pos := "cpu.go:33", after := #[{ on := 4, ground := Ground.data }], guard := none }) (v := ?_) rfl (by kernel_rfl) (by kernel_rfl) (by kernel_rfl) (fun _ _ _ h => h) ?_ hHeld ?_
    rotate_left
    · refine Or.inl ⟨by rfl, fun w hSw => ?_⟩; skip; go_simp; (try with_reducible rfl)
    try simp only [Act.put, List.setIfInBounds_toArray, List.set_cons_zero, List.set_cons_succ]
    refine wpAnyH_take (i := 6) (oi := { dst := some 21, op := Op.load 50 (Operand.tmp 20), type := 50, pos := "cpu.go:33", after := #[{ on := 5, ground := Ground.data }], guard := none }) (v := ?_) rfl (by kernel_rfl) (by kernel_rfl) (by kernel_rfl) (fun _ _ _ h => h) ?_ hHeld ?_
    rotate_left
    · refine Or.inl ⟨by rfl, fun w hSw => ?_⟩; have c0 : w.cell? ⟨x, 29, none⟩ = some (.pointer (some ⟨gt, 0, none⟩)) := tb_at hSw.2 1 _ rfl; go_simp; (try with_reducible rfl)
    try simp only [Act.put, List.setIfInBounds_toArray, List.set_cons_zero, List.set_cons_succ]
    refine wpAnyH_take (i := 7) (oi := { dst := some 22, op := Op.move (Operand.tmp 0), type := 138, pos := "cpu.go:33", after := #[], guard := none }) (v := ?_) rfl (by kernel_rfl) (by kernel_rfl) (by kernel_rfl) (fun _ _ _ h => h) ?_ hHeld ?_
    rotate_left
    · refine Or.inl ⟨by rfl, fun w hSw => ?_⟩; skip; go_simp; (try with_reducible rfl)
    try simp only [Act.put, List.setIfInBounds_toArray, List.set_cons_zero, List.set_cons_succ]
    refine wpAnyH_take (i := 8) (oi := { dst := some 23, op := Op.nilCheck (Operand.tmp 22), type := 0, pos := "cpu.go:33", after := #[{ on := 7, ground := Ground.data }], guard := none }) (v := ?_) rfl (by kernel_rfl) (by kernel_rfl) (by kernel_rfl) (fun _ _ _ h => h) ?_ hHeld ?_
    rotate_left
    · refine Or.inl ⟨by rfl, fun w hSw => ?_⟩; skip; go_simp; (try with_reducible rfl)
    try simp only [Act.put, List.setIfInBounds_toArray, List.set_cons_zero, List.set_cons_succ]
    refine wpAnyH_take (i := 9) (oi := { dst := some 24, op := Op.fieldAddr 140 (Operand.tmp 23) 1, type := 0, pos := "cpu.go:33", after := #[{ on := 8, ground := Ground.data }], guard := none }) (v := ?_) rfl (by kernel_rfl) (by kernel_rfl) (by kernel_rfl) (fun _ _ _ h => h) ?_ hHeld ?_
    rotate_left
    · refine Or.inl ⟨by rfl, fun w hSw => ?_⟩; skip; go_simp; (try with_reducible rfl)
    try simp only [Act.put, List.setIfInBounds_toArray, List.set_cons_zero, List.set_cons_succ]
    refine wpAnyH_take (i := 10) (oi := { dst := some 25, op := Op.load 3 (Operand.tmp 24), type := 3, pos := "cpu.go:33", after := #[{ on := 9, ground := Ground.data }], guard := none }) (v := ?_) rfl (by kernel_rfl) (by kernel_rfl) (by kernel_rfl) (fun _ _ _ h => h) ?_ hHeld ?_
    rotate_left
    · refine Or.inl ⟨by rfl, fun w hSw => ?_⟩; have c0 : w.cell? ⟨g, 1, none⟩ = some (.int .i64 sp) := hSw.1.cellv 1 _ e1.out; go_simp; (try with_reducible rfl)
    try simp only [Act.put, List.setIfInBounds_toArray, List.set_cons_zero, List.set_cons_succ]
    refine wpAnyH_take (i := 11) (oi := { dst := some 26, op := Op.move (Operand.tmp 8), type := 3, pos := "cpu.go:33", after := #[], guard := none }) (v := ?_) rfl (by kernel_rfl) (by kernel_rfl) (by kernel_rfl) (fun _ _ _ h => h) ?_ hHeld ?_
    rotate_left
    · refine Or.inl ⟨by rfl, fun w hSw => ?_⟩; skip; go_simp; (try with_reducible rfl)
    try simp only [Act.put, List.setIfInBounds_toArray, List.set_cons_zero, List.set_cons_succ]
    refine wpAnyH_ready (rs := [12, 16]) (by kernel_rfl) (by simp) ?_
    refine AllReadyH.cons (o := { dst := some 27, op := Op.call { callee := Callee.value (Operand.func 39), args := #[Operand.tmp 21, Operand.tmp 25, Operand.tmp 26], argTypes := #[50, 3, 3] }, type := 69, pos := "cpu.go:33", after := #[{ on := 6, ground := Ground.data }, { on := 10, ground := Ground.data }, { on := 11, ground := Ground.data }], guard := none }) rfl (fun Kc hKc => ?_) ?_
    · go_simp
      refine (hGet.out _ HT).mono ?_
      rintro r wq ⟨rfl, HT, Gq⟩
      have Oq := Out.of_grown Gq (S := fun i => i = gt) (fun k e => by injection e with e; exact e.symm)
      have O := O.trans Oq (fun i h => .inl h)
      have zq := Oq.size
      have zT := HT.lt
      try have kN := Out.Blk.out kN Oq (fun h => nNt h)
      refine hKc.out _ _ (⟨Out.Blk.out hHeld.1 Oq ng, tb_out hHeld.2 Oq nx⟩) (fun hHeld => ?_)
      clear hKc Kc
      try simp only [Act.put, List.setIfInBounds_toArray, List.set_cons_zero, List.set_cons_succ]
      refine wpAnyH_take (i := 13) (oi := { dst := some 14, op := Op.move (Operand.tmp 27), type := 69, pos := "cpu.go:33", after := #[{ on := 12, ground := Ground.data }], guard := none }) (v := ?_) rfl (by kernel_rfl) (by kernel_rfl) (by kernel_rfl) (fun _ _ _ h => h) ?_ hHeld ?_
      rotate_left
      · refine Or.inl ⟨by rfl, fun w hSw => ?_⟩; skip; go_simp; (try with_reducible rfl)
      try simp only [Act.put, List.setIfInBounds_toArray, List.set_cons_zero, List.set_cons_succ]
      refine wpAnyH_take (i := 14) (oi := { dst := some 28, op := Op.extract (Operand.tmp 14) 0, type := 52, pos := "cpu.go:33", after := #[{ on := 13, ground := Ground.data }], guard := none }) (v := ?_) rfl (by kernel_rfl) (by kernel_rfl) (by kernel_rfl) (fun _ _ _ h => h) ?_ hHeld ?_
      rotate_left
      · refine Or.inl ⟨by rfl, fun w hSw => ?_⟩; skip; go_simp; (try with_reducible rfl)
      try simp only [Act.put, List.setIfInBounds_toArray, List.set_cons_zero, List.set_cons_succ]
      refine wpAnyH_take (i := 15) (oi := { dst := some 29, op := Op.extract (Operand.tmp 14) 1, type := 4, pos := "cpu.go:33", after := #[{ on := 13, ground := Ground.data }, { on := 17, ground := Ground.gcOnly Departure.lateStores }], guard := none }) (v := ?_) rfl (by kernel_rfl) (by kernel_rfl) (by kernel_rfl) (fun _ _ _ h => h) ?_ hHeld ?_
      rotate_left
      · refine Or.inl ⟨by rfl, fun w hSw => ?_⟩; skip; go_simp; (try with_reducible rfl)
      try simp only [Act.put, List.setIfInBounds_toArray, List.set_cons_zero, List.set_cons_succ]
      refine wpAnyH_ready (rs := [16]) (by kernel_rfl) (by simp) ?_
      refine AllReadyH.cons (o := { dst := some 9, op := Op.alloc 52, type := 0, pos := "cpu.go:33", after := #[], guard := none }) rfl (fun Kc hKc => ?_) AllReadyH.nil
      refine step_of (by rfl) (wp_alloc 52 rfl (ea ez) Tlb.new_e ?_)
      intro gN wN zN sN kN bN
      have nNt : gN ≠ gt := fun h => by omega
      have O1 := O.trans (Out.of_below bN (fun i => i = gt)) (fun i h => .inl h)
      have HT := Blk.below HT bN
      have zN2 : w.drew.heap.size ≤ gN := Nat.le_trans O.size zN
      have O := O1
      have ngN : g ≠ gN := fun h => by have := hHeld.1.lt; omega
      have nxN : x ≠ gN := fun h => by have := Tb.lt hHeld.2; omega
      refine hKc.out _ _ (⟨hHeld.1.below bN, hHeld.2.below bN⟩) (fun hHeld => ?_)
      clear hKc Kc
      try simp only [Act.put, List.setIfInBounds_toArray, List.set_cons_zero, List.set_cons_succ]
      refine wpAnyH_ready (rs := [17]) (by kernel_rfl) (by simp) ?_
      refine AllReadyH.cons (o := { dst := none, op := Op.store 52 (Operand.tmp 9) (Operand.tmp 28), type := 0, pos := "cpu.go:33", after := #[{ on := 16, ground := Ground.data }, { on := 14, ground := Ground.data }, { on := 12, ground := Ground.chain }, { on := 0, ground := Ground.phase }, { on := 1, ground := Ground.phase }, { on := 2, ground := Ground.phase }, { on := 3, ground := Ground.phase }, { on := 4, ground := Ground.phase }, { on := 5, ground := Ground.phase }, { on := 6, ground := Ground.phase }, { on := 7, ground := Ground.phase }, { on := 8, ground := Ground.phase }, { on := 9, ground := Ground.phase }, { on := 10, ground := Ground.phase }, { on := 11, ground := Ground.phase }, { on := 12, ground := Ground.phase }, { on := 13, ground := Ground.phase }, { on := 14, ground := Ground.phase }, { on := 15, ground := Ground.textOnly Departure.lateStores }, { on := 16, ground := Ground.phase }], guard := none }) rfl (fun Kc hKc => ?_) AllReadyH.nil
      refine step_of (by rfl) (wp_whole 52 (.tmp 9) (.tmp 28) (by rfl) gN (by rfl) (ea e) (by rfl) 52 (ea ez) kN (Tlb.size_ea _) rfl (ea_one _) ?_)
      intro wS kS gS sS
      have OS := Out.of_grown gS (S := fun i => i = gN) (fun k e => by injection e with e; exact e.symm)
      have O := O.trans OS (fun i h => .inr (by rw [h]; exact zN2))
      have HT := Out.Blk.out HT OS (fun h => nNt h.symm)
      have nx2 := nx
      refine hKc.out _ _ (⟨Out.Blk.out hHeld.1 OS (fun h => ngN h), tb_out hHeld.2 OS (fun h => nxN h)⟩) (fun hHeld => ?_)
      clear hKc Kc
      try simp only [Act.put]
      refine wpAnyH_take (i := 18) (oi := { dst := some 10, op := Op.assign (Operand.tmp 29), type := 4, pos := "cpu.go:33", after := #[{ on := 15, ground := Ground.data }, { on := 17, ground := Ground.chain }, { on := 0, ground := Ground.phase }, { on := 1, ground := Ground.phase }, { on := 2, ground := Ground.phase }, { on := 3, ground := Ground.phase }, { on := 4, ground := Ground.phase }, { on := 5, ground := Ground.phase }, { on := 6, ground := Ground.phase }, { on := 7, ground := Ground.phase }, { on := 8, ground := Ground.phase }, { on := 9, ground := Ground.phase }, { on := 10, ground := Ground.phase }, { on := 11, ground := Ground.phase }, { on := 12, ground := Ground.phase }, { on := 13, ground := Ground.phase }, { on := 14, ground := Ground.phase }, { on := 15, ground := Ground.phase }, { on := 16, ground := Ground.phase }, { on := 17, ground := Ground.phase }], guard := none }) (v := ?_) rfl (by kernel_rfl) (by kernel_rfl) (by kernel_rfl) (fun _ _ _ h => h) ?_ hHeld ?_
      rotate_left
      · refine Or.inl ⟨by rfl, fun w hSw => ?_⟩; skip; go_simp; (try with_reducible rfl)
      try simp only [Act.put, List.setIfInBounds_toArray, List.set_cons_zero, List.set_cons_succ]
      refine wpAnyH_done (by kernel_rfl) ?_ _
      go_wp2_with fail
      go_meet
      exact ⟨gN, rfl, rfl, kS, hHeld.1, HT, O⟩
    refine AllReadyH.cons (o := { dst := some 9, op := Op.alloc 52, type := 0, pos := "cpu.go:33", after := #[], guard := none }) rfl (fun Kc hKc => ?_) ?_
    · refine step_of (by rfl) (wp_alloc 52 rfl (ea ez) Tlb.new_e ?_)
      intro gN wN zN sN kN bN
      have nNt : gN ≠ gt := fun h => by omega
      have O1 := O.trans (Out.of_below bN (fun i => i = gt)) (fun i h => .inl h)
      have HT := Blk.below HT bN
      have zN2 : w.drew.heap.size ≤ gN := Nat.le_trans O.size zN
      have O := O1
      have ngN : g ≠ gN := fun h => by have := hHeld.1.lt; omega
      have nxN : x ≠ gN := fun h => by have := Tb.lt hHeld.2; omega
      refine hKc.out _ _ (⟨hHeld.1.below bN, hHeld.2.below bN⟩) (fun hHeld => ?_)
      clear hKc Kc
      try simp only [Act.put, List.setIfInBounds_toArray, List.set_cons_zero, List.set_cons_succ]
      refine wpAnyH_ready (rs := [12]) (by kernel_rfl) (by simp) ?_
      refine AllReadyH.cons (o := { dst := some 27, op := Op.call { callee := Callee.value (Operand.func 39), args := #[Operand.tmp 21, Operand.tmp 25, Operand.tmp 26], argTypes := #[50, 3, 3] }, type := 69, pos := "cpu.go:33", after := #[{ on := 6, ground := Ground.data }, { on := 10, ground := Ground.data }, { on := 11, ground := Ground.data }], guard := none }) rfl (fun Kc hKc => ?_) AllReadyH.nil
      go_simp
      refine (hGet.out _ HT).mono ?_
      rintro r wq ⟨rfl, HT, Gq⟩
      have Oq := Out.of_grown Gq (S := fun i => i = gt) (fun k e => by injection e with e; exact e.symm)
      have O := O.trans Oq (fun i h => .inl h)
      have zq := Oq.size
      have zT := HT.lt
      try have kN := Out.Blk.out kN Oq (fun h => nNt h)
      refine hKc.out _ _ (⟨Out.Blk.out hHeld.1 Oq ng, tb_out hHeld.2 Oq nx⟩) (fun hHeld => ?_)
      clear hKc Kc
      try simp only [Act.put, List.setIfInBounds_toArray, List.set_cons_zero, List.set_cons_succ]
      refine wpAnyH_take (i := 13) (oi := { dst := some 14, op := Op.move (Operand.tmp 27), type := 69, pos := "cpu.go:33", after := #[{ on := 12, ground := Ground.data }], guard := none }) (v := ?_) rfl (by kernel_rfl) (by kernel_rfl) (by kernel_rfl) (fun _ _ _ h => h) ?_ hHeld ?_
      rotate_left
      · refine Or.inl ⟨by rfl, fun w hSw => ?_⟩; skip; go_simp; (try with_reducible rfl)
      try simp only [Act.put, List.setIfInBounds_toArray, List.set_cons_zero, List.set_cons_succ]
      refine wpAnyH_take (i := 14) (oi := { dst := some 28, op := Op.extract (Operand.tmp 14) 0, type := 52, pos := "cpu.go:33", after := #[{ on := 13, ground := Ground.data }], guard := none }) (v := ?_) rfl (by kernel_rfl) (by kernel_rfl) (by kernel_rfl) (fun _ _ _ h => h) ?_ hHeld ?_
      rotate_left
      · refine Or.inl ⟨by rfl, fun w hSw => ?_⟩; skip; go_simp; (try with_reducible rfl)
      try simp only [Act.put, List.setIfInBounds_toArray, List.set_cons_zero, List.set_cons_succ]
      refine wpAnyH_take (i := 15) (oi := { dst := some 29, op := Op.extract (Operand.tmp 14) 1, type := 4, pos := "cpu.go:33", after := #[{ on := 13, ground := Ground.data }, { on := 17, ground := Ground.gcOnly Departure.lateStores }], guard := none }) (v := ?_) rfl (by kernel_rfl) (by kernel_rfl) (by kernel_rfl) (fun _ _ _ h => h) ?_ hHeld ?_
      rotate_left
      · refine Or.inl ⟨by rfl, fun w hSw => ?_⟩; skip; go_simp; (try with_reducible rfl)
      try simp only [Act.put, List.setIfInBounds_toArray, List.set_cons_zero, List.set_cons_succ]
      refine wpAnyH_ready (rs := [17]) (by kernel_rfl) (by simp) ?_
      refine AllReadyH.cons (o := { dst := none, op := Op.store 52 (Operand.tmp 9) (Operand.tmp 28), type := 0, pos := "cpu.go:33", after := #[{ on := 16, ground := Ground.data }, { on := 14, ground := Ground.data }, { on := 12, ground := Ground.chain }, { on := 0, ground := Ground.phase }, { on := 1, ground := Ground.phase }, { on := 2, ground := Ground.phase }, { on := 3, ground := Ground.phase }, { on := 4, ground := Ground.phase }, { on := 5, ground := Ground.phase }, { on := 6, ground := Ground.phase }, { on := 7, ground := Ground.phase }, { on := 8, ground := Ground.phase }, { on := 9, ground := Ground.phase }, { on := 10, ground := Ground.phase }, { on := 11, ground := Ground.phase }, { on := 12, ground := Ground.phase }, { on := 13, ground := Ground.phase }, { on := 14, ground := Ground.phase }, { on := 15, ground := Ground.textOnly Departure.lateStores }, { on := 16, ground := Ground.phase }], guard := none }) rfl (fun Kc hKc => ?_) AllReadyH.nil
      refine step_of (by rfl) (wp_whole 52 (.tmp 9) (.tmp 28) (by rfl) gN (by rfl) (ea e) (by rfl) 52 (ea ez) kN (Tlb.size_ea _) rfl (ea_one _) ?_)
      intro wS kS gS sS
      have OS := Out.of_grown gS (S := fun i => i = gN) (fun k e => by injection e with e; exact e.symm)
      have O := O.trans OS (fun i h => .inr (by rw [h]; exact zN2))
      have HT := Out.Blk.out HT OS (fun h => nNt h.symm)
      have nx2 := nx
      refine hKc.out _ _ (⟨Out.Blk.out hHeld.1 OS (fun h => ngN h), tb_out hHeld.2 OS (fun h => nxN h)⟩) (fun hHeld => ?_)
      clear hKc Kc
      try simp only [Act.put]
      refine wpAnyH_take (i := 18) (oi := { dst := some 10, op := Op.assign (Operand.tmp 29), type := 4, pos := "cpu.go:33", after := #[{ on := 15, ground := Ground.data }, { on := 17, ground := Ground.chain }, { on := 0, ground := Ground.phase }, { on := 1, ground := Ground.phase }, { on := 2, ground := Ground.phase }, { on := 3, ground := Ground.phase }, { on := 4, ground := Ground.phase }, { on := 5, ground := Ground.phase }, { on := 6, ground := Ground.phase }, { on := 7, ground := Ground.phase }, { on := 8, ground := Ground.phase }, { on := 9, ground := Ground.phase }, { on := 10, ground := Ground.phase }, { on := 11, ground := Ground.phase }, { on := 12, ground := Ground.phase }, { on := 13, ground := Ground.phase }, { on := 14, ground := Ground.phase }, { on := 15, ground := Ground.phase }, { on := 16, ground := Ground.phase }, { on := 17, ground := Ground.phase }], guard := none }) (v := ?_) rfl (by kernel_rfl) (by kernel_rfl) (by kernel_rfl) (fun _ _ _ h => h) ?_ hHeld ?_
      rotate_left
      · refine Or.inl ⟨by rfl, fun w hSw => ?_⟩; skip; go_simp; (try with_reducible rfl)
      try simp only [Act.put, List.setIfInBounds_toArray, List.set_cons_zero, List.set_cons_succ]
      refine wpAnyH_done (by kernel_rfl) ?_ _
      go_wp2_with fail
      go_meet
      exact ⟨gN, rfl, rfl, kS, hHeld.1, HT, O⟩
    exact AllReadyH.nil
  case rest =>
    obtain ⟨gN, rfl, rfl, kN, KD, HT, O⟩ := hcut
    have c3 : wc.cell? ⟨gN, 3, none⟩ = some (.bool e.w) := kN.cellv 3 _ rfl
    have c2 : wc.cell? ⟨gN, 2, none⟩ = some (.int .i64 e.f) := kN.cellv 2 _ rfl
    have O := O.mono (S2 := fun i => i = g ∨ i = gt) (fun i h => .inr h)
    clear kN hGet hdv
    cases b with
    | false =>
      go_wp2_with (first
        | (refine at_slot 38 rfl ?_; refine wl_build3 rfl 117 0 1 2 _ _ _ rfl (.int .i64 1) (.int .i64 pgn) (.bool wr) rfl rfl rfl _ (built_tp 1 pgn wr) ?_)
        | ((refine wl_store_mid rfl 117 (.tmp 40) (.tmp 38) rfl g 19 rfl #[.int .i64 1, .int .i64 pgn, .bool wr, .int .i64 0] rfl 140 D KD (size_tp 1 pgn wr 0) (by rw [hsz]; show 19 + 4 ≤ 23; omega) (tp_one 1 pgn wr 0) ?_); intro w1 k1 g1 s1))
      rw [ht1.out] at k1
      have OS := Out.of_grown g1 (S := fun i => i = g ∨ i = gt) (fun k e => by injection e with e; exact .inl e.symm)
      refine bodyPost_ret (results_tmp2 rfl _ _ _) rfl ⟨rfl, k1, Out.Blk.out HT (Out.of_grown g1 (S := fun i => i = g) (fun k e => by injection e with e; exact e.symm)) (fun h => ng h.symm), O.trans OS (fun i h => .inl h)⟩
    | true =>
      cases wr with
      | false =>
        go_wp2_with fail
        refine bodyPost_ret (results_tmp2 rfl _ _ _) rfl ⟨rfl, ?_, HT, O⟩
        exact KD
      | true =>
        cases hew : e.w with
        | true =>
          rw [hew] at c3
          go_wp2_with fail
          refine bodyPost_ret (results_tmp2 rfl _ _ _) rfl ⟨?_, ?_, HT, O⟩
          · unfold fV fOk; rw [hew]; rfl
          · exact KD
        | false =>
          rw [hew] at c3
          go_wp2_with (first
            | (refine at_slot 50 rfl ?_; refine wl_build3 rfl 117 0 1 2 _ _ _ rfl (.int .i64 2) (.int .i64 pgn) (.bool true) rfl rfl rfl _ (built_tp 2 pgn true) ?_)
            | ((refine wl_store_mid rfl 117 (.tmp 52) (.tmp 50) rfl g 19 rfl #[.int .i64 2, .int .i64 pgn, .bool true, .int .i64 0] rfl 140 D KD (size_tp 2 pgn true 0) (by rw [hsz]; show 19 + 4 ≤ 23; omega) (tp_one 2 pgn true 0) ?_); intro w1 k1 g1 s1))
          rw [ht2.out] at k1
          have OS := Out.of_grown g1 (S := fun i => i = g ∨ i = gt) (fun k e => by injection e with e; exact .inl e.symm)
          refine bodyPost_ret (results_tmp2 rfl _ _ _) rfl ⟨?_, ?_, Out.Blk.out HT (Out.of_grown g1 (S := fun i => i = g) (fun k e => by injection e with e; exact e.symm)) (fun h => ng h.symm), O.trans OS (fun i h => .inl h)⟩
          · unfold fV fOk; rw [hew]; rfl
          · exact k1
end Go.Proofs.Ytdokmnpkihmkpaa.CpuA
