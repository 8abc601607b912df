/- Contracts of package cpu: a load, the instruction Set. -/
import Derived.Test.YtdokmnpkihmkpaaCpu
set_option linter.unusedVariables false
namespace Go.Proofs.Ytdokmnpkihmkpaa.Cpu2
open Go.RowKit Go.Proofs.Ytdokmnpkihmkpaa.Base Go.Proofs.Ytdokmnpkihmkpaa.Row Go.Proofs.Ytdokmnpkihmkpaa.App Go.Proofs.Ytdokmnpkihmkpaa.Multi Go.Proofs.Ytdokmnpkihmkpaa.StEq Go.Proofs.Ytdokmnpkihmkpaa.Held Go.Proofs.Ytdokmnpkihmkpaa.Out Go.Proofs.Ytdokmnpkihmkpaa.HeldW Go.Proofs.Ytdokmnpkihmkpaa.HeldX Go.Proofs.Ytdokmnpkihmkpaa.Once Go.Proofs.Ytdokmnpkihmkpaa.Isa Go.Proofs.Ytdokmnpkihmkpaa.Isa2 Go.Proofs.Ytdokmnpkihmkpaa.Isa3 Go.Proofs.Ytdokmnpkihmkpaa.TlbMath Go.Proofs.Ytdokmnpkihmkpaa.Tlb Go.Proofs.Ytdokmnpkihmkpaa.Tlb3 Go.Proofs.Ytdokmnpkihmkpaa.Frames Go.Proofs.Ytdokmnpkihmkpaa.Cpu

/-- A machine: its CPU, its memory, its TLB. -/
structure CS (w : World) (x gm gp gt n : Nat) (X : List Int) (l : List En) (m : Int) : Prop where
  t : Tb w x 143 (tail gm gt)
  mem : Mm w gm gp n X
  tlb : Tl w gt l m
section
variable {w w1 : World} {x gm gp gt n : Nat} {X : List Int} {l : List En} {m : Int} {S : Nat → Prop}
theorem mm_out (h : Mm w gm gp n X) (k : Out w w1 S) (h1 : ¬ S gm) (h2 : ¬ S gp) : Mm w1 gm gp n X := ⟨Out.Blk.out h.m k h1, Out.Blk.out h.p k h2, h.len, h.n256⟩
theorem CS.out (h : CS w x gm gp gt n X l m) (k : Out w w1 S) (h1 : ¬ S x) (h2 : ¬ S gm) (h3 : ¬ S gp) (h4 : ¬ S gt) : CS w1 x gm gp gt n X l m := ⟨tb_out h.t k h1, mm_out h.mem k h2 h3, Out.Blk.out h.tlb k h4⟩
theorem CS.below (h : CS w x gm gp gt n X l m) (hb : Below w.heap.size w w1) : CS w1 x gm gp gt n X l m := h.out (Out.of_below hb (fun _ => False)) (fun h => h) (fun h => h) (fun h => h) (fun h => h)
theorem CS.ne_ {g : Nat} {D : Array Value} (h : CS w x gm gp gt n X l m) (hg : Blk w g 140 D) : g ≠ x ∧ g ≠ gm ∧ g ≠ gp ∧ g ≠ gt :=
  ⟨fun e => tb_ne h.t hg (by decide) e.symm, Blk.ne_ hg h.mem.m (by decide), Blk.ne_ hg h.mem.p (by decide), Blk.ne_ hg h.tlb (by decide)⟩
theorem CS.nx (h : CS w x gm gp gt n X l m) : x ≠ gm ∧ x ≠ gp ∧ x ≠ gt ∧ gm ≠ gt ∧ gp ≠ gt :=
  ⟨tb_ne h.t h.mem.m (by decide), tb_ne h.t h.mem.p (by decide), tb_ne h.t h.tlb (by decide), Blk.ne_ h.mem.m h.tlb (by decide), Blk.ne_ h.mem.p h.tlb (by decide)⟩
theorem CS.lt (h : CS w x gm gp gt n X l m) : x < w.heap.size ∧ gm < w.heap.size ∧ gp < w.heap.size ∧ gt < w.heap.size := ⟨Tb.lt h.t, h.mem.m.lt, h.mem.p.lt, h.tlb.lt⟩
end
set_option maxRecDepth 100000 in
set_option maxHeartbeats 2000000 in
theorem load_yes (g x gm gp gt n f : Nat) (d : Dn) (X : List Int) (l : List En) (m a : Int) (wr : Bool) (w : World) (HD : Blk w g 140 (dg x d)) (C : CS w x gm gp gt n X l m) (hl : l.length ≤ 8) (h0 : 0 ≤ a) (h1 : a < 4294967296)
    (hb : at_ l d.sp (a / 64) < l.length) (hw : wr = true → (getE l d.sp (a / 64)).w = true) (hf : f < n) (hef : (getE l d.sp (a / 64)).f = f) :
    Calls Try.prog 71 #[.pointer (some ⟨g, 0, none⟩), .int .u32 a, .bool wr] w fun r w' => r = .returned (.tuple #[.int .u32 (X[f * 16 + (a % 64 / 4).toNat]?.getD 0), .bool true]) ∧ CS w' x gm gp gt n X l m ∧ Out w w' (fun i => i = gt) := by
  have hF := find_yes g x gm gt d l m a wr w HD C.t C.tlb hl h0 h1 hb hw
  rw [hef] at hF
  replace hF := Lib.hid hF
  obtain ⟨q, hq⟩ : ∃ q, q = (a % 64 / 4).toNat := ⟨_, rfl⟩
  rw [← hq]
  have hq1 : a.tmod 64 = a % 64 := Int.tmod_eq_emod_of_nonneg h0
  have hq2 : (a % 64).tdiv 4 = a % 64 / 4 := Int.tdiv_eq_ediv_of_nonneg (by omega)
  have hq3 : a % 64 / 4 = (q : Int) := by omega
  have hq16 : q < 16 := by omega
  have hq4 : (q : Int) % 4294967296 = (q : Int) := by omega
  have hq5 : a % 64 % 4294967296 = a % 64 := by omega
  have hG := Lib.hid (fun w' h => get_yes gm gp n f q X w' h hf hq16)
  have e0 : (dg x d)[0]? = some (.pointer (some ⟨x, 0, none⟩)) := rfl
  have ne1 := (C.ne_ HD).2.2.2
  have ne2 := C.nx
  have CH := Lib.hid C
  clear hb hw hef hq C
  go_enter Try.func71, Try.ntmps71
  go_wp2_with fail
  refine hF.out.mono ?_
  rintro r w2 ⟨rfl, HT, O⟩
  have C2 : CS w2 x gm gp gt n X l m := ⟨tb_out CH.out.t O ne2.2.2.1, mm_out CH.out.mem O ne2.2.2.2.1 ne2.2.2.2.2, HT⟩
  have HD2 := Out.Blk.out HD O ne1
  have c0 : w2.cell? ⟨g, 0, none⟩ = some (.pointer (some ⟨x, 0, none⟩)) := HD2.cellv 0 _ e0
  have c28 : w2.cell? ⟨x, 28, none⟩ = some (.pointer (some ⟨gm, 0, none⟩)) := tb_at C2.t 0 _ rfl
  have hGg := Lib.hid (hG.out w2 C2.mem)
  have C2' := Lib.hid C2
  clear hF HD HD2 C2 HT CH e0 hG
  go_wp2_with fail
  refine hGg.out.mono ?_
  rintro r w3 ⟨rfl, rfl⟩
  clear c0 c28
  go_wp2_with fail
  refine bodyPost_ret (results_tmp2 rfl _ _ _) rfl ⟨rfl, C2'.out, O⟩
/-- A register is set. -/
def dset (d : Dn) (i : Nat) (v : Int) : Dn := { d with R := d.R.set i v }
theorem dg_set (x : Nat) (d : Dn) (h : d.R.length = 16) (i : Nat) (hi : i < 16) (v : Int) : (dg x d).setIfInBounds (2 + i) (.int .u32 v) = dg x (dset d i v) := by
  apply Array.ext_getElem?
  intro j
  rw [Array.getElem?_setIfInBounds]
  have hR : (dset d i v).R.length = 16 := by show (d.R.set i v).length = 16; rw [List.length_set]; exact h
  have hsz : (dg x d).size = 23 := by unfold dg cx tr; simp [nums_length, h]
  rcases Nat.lt_or_ge j 2 with h2 | h2
  · rw [if_neg (by omega)]
    match j, h2 with
    | 0, _ => rfl
    | 1, _ => rfl
  · rcases Nat.lt_or_ge j 18 with h3 | h3
    · obtain ⟨k, rfl⟩ : ∃ k, j = 2 + k := ⟨j - 2, by omega⟩
      rw [dg_reg x d h k (by omega), dg_reg x _ hR k (by omega)]
      show _ = some (Value.int IntKind.u32 ((d.R.set i v)[k]?.getD 0))
      rw [List.getElem?_set]
      by_cases e : i = k
      · subst e
        rw [if_pos rfl, if_pos (by omega), if_pos rfl, if_pos (by omega)]
        rfl
      · rw [if_neg (by omega), if_neg e]
    · obtain ⟨k, rfl⟩ : ∃ k, j = 18 + k := ⟨j - 18, by omega⟩
      rw [if_neg (by omega), dg_rest x d h k, dg_rest x _ hR k]
      rfl
theorem dg_size (x : Nat) (d : Dn) (h : d.R.length = 16) : (dg x d).size = 23 := by unfold dg cx tr; simp [nums_length, h]
theorem size_u32' : (Try.prog.info? 28).map (·.size) = some 1 := by kernel_rfl
set_option maxRecDepth 100000 in
set_option maxHeartbeats 2000000 in
theorem do_set (g x a : Nat) (d : Dn) (b n : Int) (w : World) (HD : Blk w g 140 (dg x d)) (hR : d.R.length = 16) (ha : a < 16) (hpc : 0 ≤ d.pc ∧ d.pc < 4294967296) :
    Calls Try.prog 72 #[.pointer (some ⟨g, 0, none⟩), .agg (ins 1 a b n)] w fun r w' => r = .returned (.int .u32 ((d.pc + 4) % 4294967296)) ∧ Blk w' g 140 (dg x (dset d a (n % 4294967296))) ∧ Out w w' (fun i => i = g) := by
  have e18 : (dg x d)[18]? = some (.int .u32 d.pc) := by rw [show 18 = 18 + 0 from rfl, dg_rest x d hR 0]; rfl
  have hset := Lib.hid (dg_set x d hR a ha (n % 4294967296))
  have hsz := dg_size x d hR
  have ha' : (a : Int) < 16 := by omega
  obtain ⟨D2, hD2⟩ : ∃ D2, D2 = dg x (dset d a (n % 4294967296)) := ⟨_, rfl⟩
  rw [← hD2] at hset ⊢
  clear hD2
  generalize d.pc = pc at *
  generalize dg x d = D at *
  replace e18 := Lib.hid e18
  obtain ⟨p0, p1⟩ := hpc
  have zg := HD.lt
  go_enter Try.func72, Try.ntmps72
  go_upto_region 1 with ((with_reducible refine wl_box rfl 94 _ rfl (ins 1 a b n) rfl ?_); intro w1 k1 b1 s1)
  have HD := HD.below b1
  have O := Out.of_below b1 (fun i => i = g)
  have c18 : w1.cell? ⟨g, 18, none⟩ = some (.int .u32 pc) := HD.cellv 18 _ e18.out
  have i0 : w1.cell? ⟨w.heap.size, 0, none⟩ = some (.int .i64 1) := k1.cellv 0 _ rfl
  clear b1
  go_upto_region 6 with fail
  clear c18 i0
  refine wp_region_held_drew (S := (fun w' => Blk w' w.heap.size 94 (ins 1 a b n))) (by kernel_rfl) (k1.drew) (fun hHeld => ?_)
  refine wpAnyH_take (i := 0) (oi := { dst := some 43, op := Op.move (Operand.tmp 5), type := 150, pos := "cpu.go:141", after := #[], guard := none }) (v := ?_) rfl (by kernel_rfl) (by kernel_rfl) (by kernel_rfl) (fun _ _ _ h => h) ?_ hHeld ?_
  rotate_left
  · refine Or.inl ⟨by rfl, fun w hSw => ?_⟩; skip; go_simp; (try with_reducible rfl)
  try simp only [Act.put, List.setIfInBounds_toArray, List.set_cons_zero, List.set_cons_succ]
  refine wpAnyH_take (i := 1) (oi := { dst := some 44, op := Op.fieldAddr 94 (Operand.tmp 3) 1, type := 0, pos := "cpu.go:141", after := #[], guard := none }) (v := ?_) rfl (by kernel_rfl) (by kernel_rfl) (by kernel_rfl) (fun _ _ _ h => h) ?_ hHeld ?_
  rotate_left
  · refine Or.inl ⟨by rfl, fun w hSw => ?_⟩; skip; go_simp; (try with_reducible rfl)
  try simp only [Act.put, List.setIfInBounds_toArray, List.set_cons_zero, List.set_cons_succ]
  refine wpAnyH_take (i := 2) (oi := { dst := some 45, op := Op.load 3 (Operand.tmp 44), type := 3, pos := "cpu.go:141", after := #[{ on := 1, ground := Ground.data }], guard := none }) (v := ?_) rfl (by kernel_rfl) (by kernel_rfl) (by kernel_rfl) (fun _ _ _ h => h) ?_ hHeld ?_
  rotate_left
  · refine Or.inl ⟨by rfl, fun w' hSw => ?_⟩; have c0 : w'.cell? ⟨w.heap.size, 1, none⟩ = some (.int .i64 a) := Blk.cellv hSw 1 _ rfl; go_simp; (try with_reducible rfl)
  try simp only [Act.put, List.setIfInBounds_toArray, List.set_cons_zero, List.set_cons_succ]
  refine wpAnyH_take (i := 3) (oi := { dst := some 46, op := Op.fieldAddr 94 (Operand.tmp 3) 3, type := 0, pos := "cpu.go:141", after := #[], guard := none }) (v := ?_) rfl (by kernel_rfl) (by kernel_rfl) (by kernel_rfl) (fun _ _ _ h => h) ?_ hHeld ?_
  rotate_left
  · refine Or.inl ⟨by rfl, fun w hSw => ?_⟩; skip; go_simp; (try with_reducible rfl)
  try simp only [Act.put, List.setIfInBounds_toArray, List.set_cons_zero, List.set_cons_succ]
  refine wpAnyH_take (i := 4) (oi := { dst := some 47, op := Op.load 3 (Operand.tmp 46), type := 3, pos := "cpu.go:141", after := #[{ on := 3, ground := Ground.data }], guard := none }) (v := ?_) rfl (by kernel_rfl) (by kernel_rfl) (by kernel_rfl) (fun _ _ _ h => h) ?_ hHeld ?_
  rotate_left
  · refine Or.inl ⟨by rfl, fun w' hSw => ?_⟩; have c0 : w'.cell? ⟨w.heap.size, 3, none⟩ = some (.int .i64 n) := Blk.cellv hSw 3 _ rfl; go_simp; (try with_reducible rfl)
  try simp only [Act.put, List.setIfInBounds_toArray, List.set_cons_zero, List.set_cons_succ]
  refine wpAnyH_take (i := 5) (oi := { dst := some 48, op := Op.convert 3 28 (Operand.tmp 47), type := 28, pos := "cpu.go:141", after := #[{ on := 4, ground := Ground.data }], guard := none }) (v := ?_) rfl (by kernel_rfl) (by kernel_rfl) (by kernel_rfl) (fun _ _ _ h => h) ?_ hHeld ?_
  rotate_left
  · refine Or.inl ⟨by rfl, fun w hSw => ?_⟩; skip; go_simp; (try with_reducible rfl)
  try simp only [Act.put, List.setIfInBounds_toArray, List.set_cons_zero, List.set_cons_succ]
  refine wpAnyH_take (i := 6) (oi := { dst := some 49, op := Op.nilCheck (Operand.tmp 43), type := 0, pos := "cpu.go:141", after := #[{ on := 0, ground := Ground.data }], guard := none }) (v := ?_) rfl (by kernel_rfl) (by kernel_rfl) (by kernel_rfl) (fun _ _ _ h => h) ?_ hHeld ?_
  rotate_left
  · refine Or.inl ⟨by rfl, fun w hSw => ?_⟩; skip; go_simp; (try with_reducible rfl)
  try simp only [Act.put, List.setIfInBounds_toArray, List.set_cons_zero, List.set_cons_succ]
  refine wpAnyH_take (i := 7) (oi := { dst := some 50, op := Op.fieldAddr 109 (Operand.tmp 49) 0, type := 0, pos := "cpu.go:141", after := #[{ on := 6, ground := Ground.data }], guard := none }) (v := ?_) rfl (by kernel_rfl) (by kernel_rfl) (by kernel_rfl) (fun _ _ _ h => h) ?_ hHeld ?_
  rotate_left
  · refine Or.inl ⟨by rfl, fun w hSw => ?_⟩; skip; go_simp; (try with_reducible rfl)
  try simp only [Act.put, List.setIfInBounds_toArray, List.set_cons_zero, List.set_cons_succ]
  refine wpAnyH_take (i := 8) (oi := { dst := some 51, op := Op.indexAddr 39 (Operand.tmp 50) (Operand.tmp 45), type := 0, pos := "cpu.go:141", after := #[{ on := 7, ground := Ground.data }, { on := 2, ground := Ground.data }, { on := 0, ground := Ground.phase }, { on := 1, ground := Ground.phase }, { on := 2, ground := Ground.phase }, { on := 3, ground := Ground.phase }, { on := 4, ground := Ground.phase }, { on := 5, ground := Ground.phase }], guard := none }) (v := ?_) rfl (by kernel_rfl) (by kernel_rfl) (by kernel_rfl) (fun _ _ _ h => h) ?_ hHeld ?_
  rotate_left
  · refine Or.inl ⟨by rfl, fun w hSw => ?_⟩; skip; go_simp; (try with_reducible rfl)
  try simp only [Act.put, List.setIfInBounds_toArray, List.set_cons_zero, List.set_cons_succ]
  refine wpAnyH_ready (rs := [9]) (by kernel_rfl) (by simp) ?_
  refine AllReadyH.cons (o := { dst := none, op := Op.store 28 (Operand.tmp 51) (Operand.tmp 48), type := 0, pos := "cpu.go:141", after := #[{ on := 8, ground := Ground.data }, { on := 5, ground := Ground.data }, { on := 0, ground := Ground.phase }, { on := 1, ground := Ground.phase }, { on := 2, ground := Ground.phase }, { on := 3, ground := Ground.phase }, { on := 4, ground := Ground.phase }, { on := 5, ground := Ground.phase }], guard := none }) rfl (fun Kc hKc => ?_) AllReadyH.nil
  refine step_of (by rfl) (wp_set 28 (.tmp 51) (.tmp 48) (by rfl) g (2 + a) (by rfl) (.int .u32 (n % 4294967296)) (by rfl) (by rfl) 140 D HD.drew size_u32' (by rw [hsz]; omega) ?_)
  intro wS kS gS sS
  rw [hset.out] at kS
  have OS := Out.of_grown gS (S := fun i => i = g) (fun k e => by injection e with e; exact e.symm)
  refine hKc.out _ _ (Out.Blk.out hHeld OS (fun h => by omega)) (fun hHeld => ?_)
  clear hKc Kc
  try simp only [Act.put]
  refine wpAnyH_done (by kernel_rfl) ?_ _
  have O := (O.trans (Out.of_below (bl_drew (bl_refl w1)) (fun i => i = g)) (fun i h => .inl h)).trans OS (fun i h => .inl h)
  clear OS hHeld
  go_wp2_with fail
  go_ret
  exact ⟨rfl, kS, O⟩
end Go.Proofs.Ytdokmnpkihmkpaa.Cpu2
