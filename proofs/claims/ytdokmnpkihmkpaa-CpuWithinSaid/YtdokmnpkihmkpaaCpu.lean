/- Contracts of package cpu: an address's frame. -/
import Derived.Test.YtdokmnpkihmkpaaIsa3
import Derived.Test.YtdokmnpkihmkpaaTlb5
import Derived.Test.YtdokmnpkihmkpaaFrames4
import Derived.Test.YtdokmnpkihmkpaaStEq
import Derived.Test.YtdokmnpkihmkpaaHeldX
import Derived.Deep.DeepCutAuto
import Derived.Deep.CutRange
set_option linter.unusedVariables false
namespace Go.Proofs.Ytdokmnpkihmkpaa.Cpu
open Go.RowKit Go.Proofs.Ytdokmnpkihmkpaa.Base Go.Proofs.Ytdokmnpkihmkpaa.Row Go.Proofs.Ytdokmnpkihmkpaa.App Go.Proofs.Ytdokmnpkihmkpaa.Multi Go.Proofs.Ytdokmnpkihmkpaa.StEq Go.Proofs.Ytdokmnpkihmkpaa.Held Go.Proofs.Ytdokmnpkihmkpaa.Out Go.Proofs.Ytdokmnpkihmkpaa.HeldW Go.Proofs.Ytdokmnpkihmkpaa.HeldX Go.Proofs.Ytdokmnpkihmkpaa.Once Go.Proofs.Ytdokmnpkihmkpaa.Isa Go.Proofs.Ytdokmnpkihmkpaa.Isa2 Go.Proofs.Ytdokmnpkihmkpaa.Isa3 Go.Proofs.Ytdokmnpkihmkpaa.TlbMath Go.Proofs.Ytdokmnpkihmkpaa.Tlb Go.Proofs.Ytdokmnpkihmkpaa.Tlb3 Go.Proofs.Ytdokmnpkihmkpaa.Frames

theorem at_slot {P : Program} {ops : Array Oper} {Q : Exit → Act → World → Prop} {rest : List Oper} {o : Oper} {a : Act} {W : World} (n : Nat) (h : o.dst = some n) (k : wpList P ops Q (o :: rest) a W) : wpList P ops Q (o :: rest) a W := k
theorem at_none {P : Program} {ops : Array Oper} {Q : Exit → Act → World → Prop} {rest : List Oper} {o : Oper} {a : Act} {W : World} (h : o.dst = none) (k : wpList P ops Q (o :: rest) a W) : wpList P ops Q (o :: rest) a W := k
/-- The parts of a machine's heart. -/
def tail (gm gt : Nat) : List Value := [.pointer (some ⟨gm, 0, none⟩), .pointer (some ⟨gt, 0, none⟩)]
theorem tf_len : TF.length = 25 := by unfold TF; rw [List.length_set]; exact t4_len
theorem tb_at {w : World} {x : Nat} {T : TypeId} {tl : List Value} (h : Tb w x T tl) (i : Nat) (v : Value) (hv : tl[i]? = some v) : w.cell? ⟨x, 28 + i, none⟩ = some v := by
  have key : ∀ (d m : Int) (r : List Int), r.length = 25 → (oc d m (nums .i64 r ++ tl))[28 + i]? = some v := fun d m r hr => by
    unfold oc
    rw [List.getElem?_toArray, show 28 + i = (25 + i) + 1 + 1 + 1 by omega, List.getElem?_cons_succ, List.getElem?_cons_succ, List.getElem?_cons_succ, List.getElem?_append_right (by rw [nums_length, hr]; omega), nums_length, hr, show 25 + i - 25 = i by omega]
    exact hv
  rcases h with h | h
  · exact h.cellv _ _ (key 0 0 T0 t0_len)
  · exact h.cellv _ _ (key 1 0 TF tf_len)
theorem tb_ne {w : World} {x g : Nat} {T T' : TypeId} {tl : List Value} {cs : Array Value} (h : Tb w x T tl) (hg : Blk w g T' cs) (hne : T ≠ T') : x ≠ g := by
  rcases h with h | h
  · exact Blk.ne_ h hg hne
  · exact Blk.ne_ h hg hne
theorem tb_out {w w1 : World} {x : Nat} {T : TypeId} {tl : List Value} {S : Nat → Prop} (h : Tb w x T tl) (k : Out w w1 S) (hx : ¬ S x) : Tb w1 x T tl := by
  rcases h with h | h
  · exact .inl (Out.Blk.out h k hx)
  · exact .inr (Out.Blk.out h k hx)
/-- An instruction that is being done: the CPU, the space, the registers, the program counter, the trap. -/
structure Dn where
  sp : Int
  R : List Int
  pc : Int
  tc : Int
  tp : Int
  tw : Bool
  tk : Int
def cx (R : List Int) (pc : Int) : List Value := nums .u32 R ++ [.int .u32 pc]
def tr (d : Dn) : List Value := [.int .i64 d.tc, .int .i64 d.tp, .bool d.tw, .int .i64 d.tk]
def dg (x : Nat) (d : Dn) : Array Value := (.pointer (some ⟨x, 0, none⟩) :: .int .i64 d.sp :: (cx d.R d.pc ++ tr d)).toArray
theorem dg_reg (x : Nat) (d : Dn) (h : d.R.length = 16) (i : Nat) (hi : i < 16) : (dg x d)[2 + i]? = some (.int .u32 (d.R[i]?.getD 0)) := by
  unfold dg cx
  rw [List.getElem?_toArray, show 2 + i = i + 1 + 1 by omega, List.getElem?_cons_succ, List.getElem?_cons_succ, List.append_assoc, List.getElem?_append_left (by rw [nums_length, h]; exact hi)]
  unfold nums
  rw [List.getElem?_map, List.getElem?_eq_getElem (by omega)]
  rfl
theorem dg_rest (x : Nat) (d : Dn) (h : d.R.length = 16) (i : Nat) : (dg x d)[18 + i]? = (.int .u32 d.pc :: tr d)[i]? := by
  unfold dg cx
  rw [List.getElem?_toArray, show 18 + i = (16 + i) + 1 + 1 by omega, List.getElem?_cons_succ, List.getElem?_cons_succ, List.append_assoc, List.getElem?_append_right (by rw [nums_length, h]; omega), nums_length, h, show 16 + i - 16 = i by omega]
  rfl
set_option maxRecDepth 100000 in
set_option maxHeartbeats 2000000 in
theorem even_c (g : Nat) (a : Int) (w : World) (ha : a % 4 = 0) (h0 : 0 ≤ a) :
    Calls Try.prog 70 #[.pointer (some ⟨g, 0, none⟩), .int .u32 a] w fun r w' => r = .returned (.bool true) ∧ w = w' := by
  have hm : a.tmod 4 = 0 := by rw [Int.tmod_eq_emod_of_nonneg h0]; exact ha
  go_enter Try.func70, Try.ntmps70
  go_wp2_with fail
  go_ret
  exact ⟨rfl, rfl⟩
set_option maxRecDepth 100000 in
set_option maxHeartbeats 4000000 in
theorem find_yes (g x gm gt : Nat) (d : Dn) (l : List En) (m a : Int) (wr : Bool) (w : World) (HD : Blk w g 140 (dg x d)) (HX : Tb w x 143 (tail gm gt)) (HT : Tl w gt l m) (hl : l.length ≤ 8) (h0 : 0 ≤ a) (h1 : a < 4294967296)
    (hb : at_ l d.sp (a / 64) < l.length) (hw : wr = true → (getE l d.sp (a / 64)).w = true) :
    Calls Try.prog 77 #[.pointer (some ⟨g, 0, none⟩), .int .u32 a, .bool wr] w fun r w' => r = .returned (.tuple #[.int .i64 (getE l d.sp (a / 64)).f, .bool true]) ∧ Tl w' gt l m ∧ Out w w' (fun i => i = gt) := by
  have hgb : getB l d.sp (a / 64) = true := by unfold getB; simpa using hb
  have hgm : getM l d.sp (a / 64) m = m := by unfold getM; rw [if_pos hb]
  have hGet := fun w' h => get_c gt l m d.sp (a / 64) w' h hl
  rw [hgb, hgm] at hGet
  replace hGet := Lib.hid hGet
  have ng : g ≠ gt := Blk.ne_ HD HT (by decide)
  have nx : x ≠ gt := tb_ne HX HT (by decide)
  have hdv : a.tdiv 64 = a / 64 := Int.tdiv_eq_ediv_of_nonneg h0
  have hmd : a / 64 % 4294967296 = a / 64 := by omega
  obtain ⟨e, he⟩ : ∃ e, e = getE l d.sp (a / 64) := ⟨_, rfl⟩
  rw [← he] at hGet hw ⊢
  have O : Out w w (fun i => i = gt) := Out.refl _ _
  have e0 : (dg x d)[0]? = some (.pointer (some ⟨x, 0, none⟩)) := rfl
  have e1 : (dg x d)[1]? = some (.int .i64 d.sp) := rfl
  generalize d.sp = sp at *
  generalize dg x d = D at *
  replace e0 := Lib.hid e0
  replace e1 := Lib.hid e1
  clear hgb hgm hb hl he
  go_enter Try.func77, Try.ntmps77
  go_upto_region 2 with fail
  have HXd := HX
  have O := O.trans (Out.of_below (bl_drew (bl_refl w)) (fun i => i = gt)) (fun i h => .inl h)
  have HT := Blk.below HT (bl_drew (bl_refl w))
  have zT := HT.lt
  go_cut [9, 10] from 14 to 29 (fun p b wx => ∃ gN, p = .pointer (some ⟨gN, 0, none⟩) ∧ b = .bool true ∧ Blk wx gN 52 (ea e) ∧ Tl wx gt l m ∧ Out w wx (fun i => i = gt))
  case first =>
    refine wp_region_held_drew (S := (fun w' => Blk w' g 140 D ∧ Tb w' x 143 (tail gm gt))) (by kernel_rfl) (⟨HD.drew, HX.drew⟩) (fun hHeld => ?_)
    refine wpAnyH_take (i := 0) (oi := { dst := some 15, op := Op.move (Operand.tmp 0), type := 138, pos := "cpu.go:33", after := #[], guard := none }) (v := ?_) rfl (by kernel_rfl) (by kernel_rfl) (by kernel_rfl) (fun _ _ _ h => h) ?_ hHeld ?_
    rotate_left
    · refine Or.inl ⟨by rfl, fun w hSw => ?_⟩; skip; go_simp; (try with_reducible rfl)
    try simp only [Act.put, List.setIfInBounds_toArray, List.set_cons_zero, List.set_cons_succ]
    refine wpAnyH_take (i := 1) (oi := { dst := some 16, op := Op.nilCheck (Operand.tmp 15), type := 0, pos := "cpu.go:33", after := #[{ on := 0, ground := Ground.data }], guard := none }) (v := ?_) rfl (by kernel_rfl) (by kernel_rfl) (by kernel_rfl) (fun _ _ _ h => h) ?_ hHeld ?_
    rotate_left
    · refine Or.inl ⟨by rfl, fun w hSw => ?_⟩; skip; go_simp; (try with_reducible rfl)
    try simp only [Act.put, List.setIfInBounds_toArray, List.set_cons_zero, List.set_cons_succ]
    refine wpAnyH_take (i := 2) (oi := { dst := some 17, op := Op.fieldAddr 140 (Operand.tmp 16) 0, type := 0, pos := "cpu.go:33", after := #[{ on := 1, ground := Ground.data }], guard := none }) (v := ?_) rfl (by kernel_rfl) (by kernel_rfl) (by kernel_rfl) (fun _ _ _ h => h) ?_ hHeld ?_
    rotate_left
    · refine Or.inl ⟨by rfl, fun w hSw => ?_⟩; skip; go_simp; (try with_reducible rfl)
    try simp only [Act.put, List.setIfInBounds_toArray, List.set_cons_zero, List.set_cons_succ]
    refine wpAnyH_take (i := 3) (oi := { dst := some 18, op := Op.load 112 (Operand.tmp 17), type := 112, pos := "cpu.go:33", after := #[{ on := 2, ground := Ground.data }], guard := none }) (v := ?_) rfl (by kernel_rfl) (by kernel_rfl) (by kernel_rfl) (fun _ _ _ h => h) ?_ hHeld ?_
    rotate_left
    · refine Or.inl ⟨by rfl, fun w hSw => ?_⟩; have c0 : w.cell? ⟨g, 0, none⟩ = some (.pointer (some ⟨x, 0, none⟩)) := hSw.1.cellv 0 _ e0.out; go_simp; (try with_reducible rfl)
    try simp only [Act.put, List.setIfInBounds_toArray, List.set_cons_zero, List.set_cons_succ]
    refine wpAnyH_take (i := 4) (oi := { dst := some 19, op := Op.nilCheck (Operand.tmp 18), type := 0, pos := "cpu.go:33", after := #[{ on := 3, ground := Ground.data }], guard := none }) (v := ?_) rfl (by kernel_rfl) (by kernel_rfl) (by kernel_rfl) (fun _ _ _ h => h) ?_ hHeld ?_
    rotate_left
    · refine Or.inl ⟨by rfl, fun w hSw => ?_⟩; skip; go_simp; (try with_reducible rfl)
    try simp only [Act.put, List.setIfInBounds_toArray, List.set_cons_zero, List.set_cons_succ]
    refine wpAnyH_take (i := 5) (oi := { dst := some 20, op := Op.fieldAddr 143 (Operand.tmp 19) 2, type := 0, pos := "cpu.go:33", after := #[{ on := 4, ground := Ground.data }], guard := none }) (v := ?_) rfl (by kernel_rfl) (by kernel_rfl) (by kernel_rfl) (fun _ _ _ h => h) ?_ hHeld ?_
    rotate_left
    · refine Or.inl ⟨by rfl, fun w hSw => ?_⟩; skip; go_simp; (try with_reducible rfl)
    try simp only [Act.put, List.setIfInBounds_toArray, List.set_cons_zero, List.set_cons_succ]
    refine wpAnyH_take (i := 6) (oi := { dst := some 21, op := Op.load 50 (Operand.tmp 20), type := 50, pos := "cpu.go:33", after := #[{ on := 5, ground := Ground.data }], guard := none }) (v := ?_) rfl (by kernel_rfl) (by kernel_rfl) (by kernel_rfl) (fun _ _ _ h => h) ?_ hHeld ?_
    rotate_left
    · refine Or.inl ⟨by rfl, fun w hSw => ?_⟩; have c0 : w.cell? ⟨x, 29, none⟩ = some (.pointer (some ⟨gt, 0, none⟩)) := tb_at hSw.2 1 _ rfl; go_simp; (try with_reducible rfl)
    try simp only [Act.put, List.setIfInBounds_toArray, List.set_cons_zero, List.set_cons_succ]
    refine wpAnyH_take (i := 7) (oi := { dst := some 22, op := Op.move (Operand.tmp 0), type := 138, pos := "cpu.go:33", after := #[], guard := none }) (v := ?_) rfl (by kernel_rfl) (by kernel_rfl) (by kernel_rfl) (fun _ _ _ h => h) ?_ hHeld ?_
    rotate_left
    · refine Or.inl ⟨by rfl, fun w hSw => ?_⟩; skip; go_simp; (try with_reducible rfl)
    try simp only [Act.put, List.setIfInBounds_toArray, List.set_cons_zero, List.set_cons_succ]
    refine wpAnyH_take (i := 8) (oi := { dst := some 23, op := Op.nilCheck (Operand.tmp 22), type := 0, pos := "cpu.go:33", after := #[{ on := 7, ground := Ground.data }], guard := none }) (v := ?_) rfl (by kernel_rfl) (by kernel_rfl) (by kernel_rfl) (fun _ _ _ h => h) ?_ hHeld ?_
    rotate_left
    · refine Or.inl ⟨by rfl, fun w hSw => ?_⟩; skip; go_simp; (try with_reducible rfl)
    try simp only [Act.put, List.setIfInBounds_toArray, List.set_cons_zero, List.set_cons_succ]
    refine wpAnyH_take (i := 9) (oi := { dst := some 24, op := Op.fieldAddr 140 (Operand.tmp 23) 1, type := 0, pos := "cpu.go:33", after := #[{ on := 8, ground := Ground.data }], guard := none }) (v := ?_) rfl (by kernel_rfl) (by kernel_rfl) (by kernel_rfl) (fun _ _ _ h => h) ?_ hHeld ?_
    rotate_left
    · refine Or.inl ⟨by rfl, fun w hSw => ?_⟩; skip; go_simp; (try with_reducible rfl)
    try simp only [Act.put, List.setIfInBounds_toArray, List.set_cons_zero, List.set_cons_succ]
    refine wpAnyH_take (i := 10) (oi := { dst := some 25, op := Op.load 3 (Operand.tmp 24), type := 3, pos := "cpu.go:33", after := #[{ on := 9, ground := Ground.data }], guard := none }) (v := ?_) rfl (by kernel_rfl) (by kernel_rfl) (by kernel_rfl) (fun _ _ _ h => h) ?_ hHeld ?_
    rotate_left
    · refine Or.inl ⟨by rfl, fun w hSw => ?_⟩; have c0 : w.cell? ⟨g, 1, none⟩ = some (.int .i64 sp) := hSw.1.cellv 1 _ e1.out; go_simp; (try with_reducible rfl)
    try simp only [Act.put, List.setIfInBounds_toArray, List.set_cons_zero, List.set_cons_succ]
    refine wpAnyH_take (i := 11) (oi := { dst := some 26, op := Op.move (Operand.tmp 8), type := 3, pos := "cpu.go:33", after := #[], guard := none }) (v := ?_) rfl (by kernel_rfl) (by kernel_rfl) (by kernel_rfl) (fun _ _ _ h => h) ?_ hHeld ?_
    rotate_left
    · refine Or.inl ⟨by rfl, fun w hSw => ?_⟩; skip; go_simp; (try with_reducible rfl)
    try simp only [Act.put, List.setIfInBounds_toArray, List.set_cons_zero, List.set_cons_succ]
    refine wpAnyH_ready (rs := [12, 16]) (by kernel_rfl) (by simp) ?_
    refine AllReadyH.cons (o := { dst := some 27, op := Op.call { callee := Callee.value (Operand.func 39), args := #[Operand.tmp 21, Operand.tmp 25, Operand.tmp 26], argTypes := #[50, 3, 3] }, type := 69, pos := "cpu.go:33", after := #[{ on := 6, ground := Ground.data }, { on := 10, ground := Ground.data }, { on := 11, ground := Ground.data }], guard := none }) rfl (fun Kc hKc => ?_) ?_
    · go_simp
      refine (hGet.out _ HT).mono ?_
      rintro r wq ⟨rfl, HT, Gq⟩
      have Oq := Out.of_grown Gq (S := fun i => i = gt) (fun k e => by injection e with e; exact e.symm)
      have O := O.trans Oq (fun i h => .inl h)
      have zq := Oq.size
      have zT := HT.lt
      try have kN := Out.Blk.out kN Oq (fun h => nNt h)
      refine hKc.out _ _ (⟨Out.Blk.out hHeld.1 Oq ng, tb_out hHeld.2 Oq nx⟩) (fun hHeld => ?_)
      clear hKc Kc
      try simp only [Act.put, List.setIfInBounds_toArray, List.set_cons_zero, List.set_cons_succ]
      refine wpAnyH_take (i := 13) (oi := { dst := some 14, op := Op.move (Operand.tmp 27), type := 69, pos := "cpu.go:33", after := #[{ on := 12, ground := Ground.data }], guard := none }) (v := ?_) rfl (by kernel_rfl) (by kernel_rfl) (by kernel_rfl) (fun _ _ _ h => h) ?_ hHeld ?_
      rotate_left
      · refine Or.inl ⟨by rfl, fun w hSw => ?_⟩; skip; go_simp; (try with_reducible rfl)
      try simp only [Act.put, List.setIfInBounds_toArray, List.set_cons_zero, List.set_cons_succ]
      refine wpAnyH_take (i := 14) (oi := { dst := some 28, op := Op.extract (Operand.tmp 14) 0, type := 52, pos := "cpu.go:33", after := #[{ on := 13, ground := Ground.data }], guard := none }) (v := ?_) rfl (by kernel_rfl) (by kernel_rfl) (by kernel_rfl) (fun _ _ _ h => h) ?_ hHeld ?_
      rotate_left
      · refine Or.inl ⟨by rfl, fun w hSw => ?_⟩; skip; go_simp; (try with_reducible rfl)
      try simp only [Act.put, List.setIfInBounds_toArray, List.set_cons_zero, List.set_cons_succ]
      refine wpAnyH_take (i := 15) (oi := { dst := some 29, op := Op.extract (Operand.tmp 14) 1, type := 4, pos := "cpu.go:33", after := #[{ on := 13, ground := Ground.data }, { on := 17, ground := Ground.gcOnly Departure.lateStores }], guard := none }) (v := ?_) rfl (by kernel_rfl) (by kernel_rfl) (by kernel_rfl) (fun _ _ _ h => h) ?_ hHeld ?_
      rotate_left
      · refine Or.inl ⟨by rfl, fun w hSw => ?_⟩; skip; go_simp; (try with_reducible rfl)
      try simp only [Act.put, List.setIfInBounds_toArray, List.set_cons_zero, List.set_cons_succ]
      refine wpAnyH_ready (rs := [16]) (by kernel_rfl) (by simp) ?_
      refine AllReadyH.cons (o := { dst := some 9, op := Op.alloc 52, type := 0, pos := "cpu.go:33", after := #[], guard := none }) rfl (fun Kc hKc => ?_) AllReadyH.nil
      refine step_of (by rfl) (wp_alloc 52 rfl (ea ez) Tlb.new_e ?_)
      intro gN wN zN sN kN bN
      have nNt : gN ≠ gt := fun h => by omega
      have O1 := O.trans (Out.of_below bN (fun i => i = gt)) (fun i h => .inl h)
      have HT := Blk.below HT bN
      have zN2 : w.drew.heap.size ≤ gN := Nat.le_trans O.size zN
      have O := O1
      have ngN : g ≠ gN := fun h => by have := hHeld.1.lt; omega
      have nxN : x ≠ gN := fun h => by have := Tb.lt hHeld.2; omega
      refine hKc.out _ _ (⟨hHeld.1.below bN, hHeld.2.below bN⟩) (fun hHeld => ?_)
      clear hKc Kc
      try simp only [Act.put, List.setIfInBounds_toArray, List.set_cons_zero, List.set_cons_succ]
      refine wpAnyH_ready (rs := [17]) (by kernel_rfl) (by simp) ?_
      refine AllReadyH.cons (o := { dst := none, op := Op.store 52 (Operand.tmp 9) (Operand.tmp 28), type := 0, pos := "cpu.go:33", after := #[{ on := 16, ground := Ground.data }, { on := 14, ground := Ground.data }, { on := 12, ground := Ground.chain }, { on := 0, ground := Ground.phase }, { on := 1, ground := Ground.phase }, { on := 2, ground := Ground.phase }, { on := 3, ground := Ground.phase }, { on := 4, ground := Ground.phase }, { on := 5, ground := Ground.phase }, { on := 6, ground := Ground.phase }, { on := 7, ground := Ground.phase }, { on := 8, ground := Ground.phase }, { on := 9, ground := Ground.phase }, { on := 10, ground := Ground.phase }, { on := 11, ground := Ground.phase }, { on := 12, ground := Ground.phase }, { on := 13, ground := Ground.phase }, { on := 14, ground := Ground.phase }, { on := 15, ground := Ground.textOnly Departure.lateStores }, { on := 16, ground := Ground.phase }], guard := none }) rfl (fun Kc hKc => ?_) AllReadyH.nil
      refine step_of (by rfl) (wp_whole 52 (.tmp 9) (.tmp 28) (by rfl) gN (by rfl) (ea e) (by rfl) 52 (ea ez) kN (Tlb.size_ea _) rfl (ea_one _) ?_)
      intro wS kS gS sS
      have OS := Out.of_grown gS (S := fun i => i = gN) (fun k e => by injection e with e; exact e.symm)
      have O := O.trans OS (fun i h => .inr (by rw [h]; exact zN2))
      have HT : Tl wS gt l m := Out.Blk.out HT OS (fun h => nNt h.symm)
      have nx2 := nx
      refine hKc.out _ _ (⟨Out.Blk.out hHeld.1 OS (fun h => ngN h), tb_out hHeld.2 OS (fun h => nxN h)⟩) (fun hHeld => ?_)
      clear hKc Kc
      try simp only [Act.put]
      refine wpAnyH_take (i := 18) (oi := { dst := some 10, op := Op.assign (Operand.tmp 29), type := 4, pos := "cpu.go:33", after := #[{ on := 15, ground := Ground.data }, { on := 17, ground := Ground.chain }, { on := 0, ground := Ground.phase }, { on := 1, ground := Ground.phase }, { on := 2, ground := Ground.phase }, { on := 3, ground := Ground.phase }, { on := 4, ground := Ground.phase }, { on := 5, ground := Ground.phase }, { on := 6, ground := Ground.phase }, { on := 7, ground := Ground.phase }, { on := 8, ground := Ground.phase }, { on := 9, ground := Ground.phase }, { on := 10, ground := Ground.phase }, { on := 11, ground := Ground.phase }, { on := 12, ground := Ground.phase }, { on := 13, ground := Ground.phase }, { on := 14, ground := Ground.phase }, { on := 15, ground := Ground.phase }, { on := 16, ground := Ground.phase }, { on := 17, ground := Ground.phase }], guard := none }) (v := ?_) rfl (by kernel_rfl) (by kernel_rfl) (by kernel_rfl) (fun _ _ _ h => h) ?_ hHeld ?_
      rotate_left
      · refine Or.inl ⟨by rfl, fun w hSw => ?_⟩; skip; go_simp; (try with_reducible rfl)
      try simp only [Act.put, List.setIfInBounds_toArray, List.set_cons_zero, List.set_cons_succ]
      refine wpAnyH_done (by kernel_rfl) ?_ _
      go_wp2_with fail
      go_meet
      exact ⟨gN, rfl, rfl, kS, HT, O⟩
    refine AllReadyH.cons (o := { dst := some 9, op := Op.alloc 52, type := 0, pos := "cpu.go:33", after := #[], guard := none }) rfl (fun Kc hKc => ?_) ?_
    · refine step_of (by rfl) (wp_alloc 52 rfl (ea ez) Tlb.new_e ?_)
      intro gN wN zN sN kN bN
      have nNt : gN ≠ gt := fun h => by omega
      have O1 := O.trans (Out.of_below bN (fun i => i = gt)) (fun i h => .inl h)
      have HT := Blk.below HT bN
      have zN2 : w.drew.heap.size ≤ gN := Nat.le_trans O.size zN
      have O := O1
      have ngN : g ≠ gN := fun h => by have := hHeld.1.lt; omega
      have nxN : x ≠ gN := fun h => by have := Tb.lt hHeld.2; omega
      refine hKc.out _ _ (⟨hHeld.1.below bN, hHeld.2.below bN⟩) (fun hHeld => ?_)
      clear hKc Kc
      try simp only [Act.put, List.setIfInBounds_toArray, List.set_cons_zero, List.set_cons_succ]
      refine wpAnyH_ready (rs := [12]) (by kernel_rfl) (by simp) ?_
      refine AllReadyH.cons (o := { dst := some 27, op := Op.call { callee := Callee.value (Operand.func 39), args := #[Operand.tmp 21, Operand.tmp 25, Operand.tmp 26], argTypes := #[50, 3, 3] }, type := 69, pos := "cpu.go:33", after := #[{ on := 6, ground := Ground.data }, { on := 10, ground := Ground.data }, { on := 11, ground := Ground.data }], guard := none }) rfl (fun Kc hKc => ?_) AllReadyH.nil
      go_simp
      refine (hGet.out _ HT).mono ?_
      rintro r wq ⟨rfl, HT, Gq⟩
      have Oq := Out.of_grown Gq (S := fun i => i = gt) (fun k e => by injection e with e; exact e.symm)
      have O := O.trans Oq (fun i h => .inl h)
      have zq := Oq.size
      have zT := HT.lt
      try have kN := Out.Blk.out kN Oq (fun h => nNt h)
      refine hKc.out _ _ (⟨Out.Blk.out hHeld.1 Oq ng, tb_out hHeld.2 Oq nx⟩) (fun hHeld => ?_)
      clear hKc Kc
      try simp only [Act.put, List.setIfInBounds_toArray, List.set_cons_zero, List.set_cons_succ]
      refine wpAnyH_take (i := 13) (oi := { dst := some 14, op := Op.move (Operand.tmp 27), type := 69, pos := "cpu.go:33", after := #[{ on := 12, ground := Ground.data }], guard := none }) (v := ?_) rfl (by kernel_rfl) (by kernel_rfl) (by kernel_rfl) (fun _ _ _ h => h) ?_ hHeld ?_
      rotate_left
      · refine Or.inl ⟨by rfl, fun w hSw => ?_⟩; skip; go_simp; (try with_reducible rfl)
      try simp only [Act.put, List.setIfInBounds_toArray, List.set_cons_zero, List.set_cons_succ]
      refine wpAnyH_take (i := 14) (oi := { dst := some 28, op := Op.extract (Operand.tmp 14) 0, type := 52, pos := "cpu.go:33", after := #[{ on := 13, ground := Ground.data }], guard := none }) (v := ?_) rfl (by kernel_rfl) (by kernel_rfl) (by kernel_rfl) (fun _ _ _ h => h) ?_ hHeld ?_
      rotate_left
      · refine Or.inl ⟨by rfl, fun w hSw => ?_⟩; skip; go_simp; (try with_reducible rfl)
      try simp only [Act.put, List.setIfInBounds_toArray, List.set_cons_zero, List.set_cons_succ]
      refine wpAnyH_take (i := 15) (oi := { dst := some 29, op := Op.extract (Operand.tmp 14) 1, type := 4, pos := "cpu.go:33", after := #[{ on := 13, ground := Ground.data }, { on := 17, ground := Ground.gcOnly Departure.lateStores }], guard := none }) (v := ?_) rfl (by kernel_rfl) (by kernel_rfl) (by kernel_rfl) (fun _ _ _ h => h) ?_ hHeld ?_
      rotate_left
      · refine Or.inl ⟨by rfl, fun w hSw => ?_⟩; skip; go_simp; (try with_reducible rfl)
      try simp only [Act.put, List.setIfInBounds_toArray, List.set_cons_zero, List.set_cons_succ]
      refine wpAnyH_ready (rs := [17]) (by kernel_rfl) (by simp) ?_
      refine AllReadyH.cons (o := { dst := none, op := Op.store 52 (Operand.tmp 9) (Operand.tmp 28), type := 0, pos := "cpu.go:33", after := #[{ on := 16, ground := Ground.data }, { on := 14, ground := Ground.data }, { on := 12, ground := Ground.chain }, { on := 0, ground := Ground.phase }, { on := 1, ground := Ground.phase }, { on := 2, ground := Ground.phase }, { on := 3, ground := Ground.phase }, { on := 4, ground := Ground.phase }, { on := 5, ground := Ground.phase }, { on := 6, ground := Ground.phase }, { on := 7, ground := Ground.phase }, { on := 8, ground := Ground.phase }, { on := 9, ground := Ground.phase }, { on := 10, ground := Ground.phase }, { on := 11, ground := Ground.phase }, { on := 12, ground := Ground.phase }, { on := 13, ground := Ground.phase }, { on := 14, ground := Ground.phase }, { on := 15, ground := Ground.textOnly Departure.lateStores }, { on := 16, ground := Ground.phase }], guard := none }) rfl (fun Kc hKc => ?_) AllReadyH.nil
      refine step_of (by rfl) (wp_whole 52 (.tmp 9) (.tmp 28) (by rfl) gN (by rfl) (ea e) (by rfl) 52 (ea ez) kN (Tlb.size_ea _) rfl (ea_one _) ?_)
      intro wS kS gS sS
      have OS := Out.of_grown gS (S := fun i => i = gN) (fun k e => by injection e with e; exact e.symm)
      have O := O.trans OS (fun i h => .inr (by rw [h]; exact zN2))
      have HT : Tl wS gt l m := Out.Blk.out HT OS (fun h => nNt h.symm)
      have nx2 := nx
      refine hKc.out _ _ (⟨Out.Blk.out hHeld.1 OS (fun h => ngN h), tb_out hHeld.2 OS (fun h => nxN h)⟩) (fun hHeld => ?_)
      clear hKc Kc
      try simp only [Act.put]
      refine wpAnyH_take (i := 18) (oi := { dst := some 10, op := Op.assign (Operand.tmp 29), type := 4, pos := "cpu.go:33", after := #[{ on := 15, ground := Ground.data }, { on := 17, ground := Ground.chain }, { on := 0, ground := Ground.phase }, { on := 1, ground := Ground.phase }, { on := 2, ground := Ground.phase }, { on := 3, ground := Ground.phase }, { on := 4, ground := Ground.phase }, { on := 5, ground := Ground.phase }, { on := 6, ground := Ground.phase }, { on := 7, ground := Ground.phase }, { on := 8, ground := Ground.phase }, { on := 9, ground := Ground.phase }, { on := 10, ground := Ground.phase }, { on := 11, ground := Ground.phase }, { on := 12, ground := Ground.phase }, { on := 13, ground := Ground.phase }, { on := 14, ground := Ground.phase }, { on := 15, ground := Ground.phase }, { on := 16, ground := Ground.phase }, { on := 17, ground := Ground.phase }], guard := none }) (v := ?_) rfl (by kernel_rfl) (by kernel_rfl) (by kernel_rfl) (fun _ _ _ h => h) ?_ hHeld ?_
      rotate_left
      · refine Or.inl ⟨by rfl, fun w hSw => ?_⟩; skip; go_simp; (try with_reducible rfl)
      try simp only [Act.put, List.setIfInBounds_toArray, List.set_cons_zero, List.set_cons_succ]
      refine wpAnyH_done (by kernel_rfl) ?_ _
      go_wp2_with fail
      go_meet
      exact ⟨gN, rfl, rfl, kS, HT, O⟩
    exact AllReadyH.nil
  case rest =>
    obtain ⟨gN, rfl, rfl, kN, HT, O⟩ := hcut
    have c3 : wc.cell? ⟨gN, 3, none⟩ = some (.bool e.w) := kN.cellv 3 _ rfl
    have c2 : wc.cell? ⟨gN, 2, none⟩ = some (.int .i64 e.f) := kN.cellv 2 _ rfl
    clear kN hGet hdv
    cases wr with
    | false =>
      go_wp2_with fail
      refine bodyPost_ret (results_tmp2 rfl _ _ _) rfl ⟨rfl, HT, O⟩
    | true =>
      rw [hw rfl] at c3
      go_wp2_with fail
      refine bodyPost_ret (results_tmp2 rfl _ _ _) rfl ⟨rfl, HT, O⟩
end Go.Proofs.Ytdokmnpkihmkpaa.Cpu
