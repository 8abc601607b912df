/- Contract of package cpu's Step, where nothing traps. -/
import Derived.Test.YtdokmnpkihmkpaaCpu2
set_option linter.unusedVariables false
namespace Go.Proofs.Ytdokmnpkihmkpaa.Cpu3
open Go.RowKit Go.Proofs.Ytdokmnpkihmkpaa.Base Go.Proofs.Ytdokmnpkihmkpaa.Row Go.Proofs.Ytdokmnpkihmkpaa.App Go.Proofs.Ytdokmnpkihmkpaa.Multi Go.Proofs.Ytdokmnpkihmkpaa.StEq Go.Proofs.Ytdokmnpkihmkpaa.Held Go.Proofs.Ytdokmnpkihmkpaa.Out Go.Proofs.Ytdokmnpkihmkpaa.HeldW Go.Proofs.Ytdokmnpkihmkpaa.HeldX Go.Proofs.Ytdokmnpkihmkpaa.Once Go.Proofs.Ytdokmnpkihmkpaa.Isa Go.Proofs.Ytdokmnpkihmkpaa.Isa2 Go.Proofs.Ytdokmnpkihmkpaa.Isa3 Go.Proofs.Ytdokmnpkihmkpaa.TlbMath Go.Proofs.Ytdokmnpkihmkpaa.Tlb Go.Proofs.Ytdokmnpkihmkpaa.Tlb3 Go.Proofs.Ytdokmnpkihmkpaa.Frames Go.Proofs.Ytdokmnpkihmkpaa.Cpu Go.Proofs.Ytdokmnpkihmkpaa.Cpu2

section
variable {P : Program} {ops : Array Oper} {Q : Exit → Act → World → Prop} {rest : List Oper} {o : Oper} {a : Act} {W : World}
/-- A value built of three parts. -/
theorem wl_build3 (hgd : o.guard = none) (T : TypeId) (i j k : Nat) (x y z : Operand) (ho : o.op = .build T #[(i, x), (j, y), (k, z)]) (u v t : Value) (hx : a.eval x = u) (hy : a.eval y = v) (hz : a.eval z = t) (cs : Array Value) (hb : P.built T [(i, u), (j, v), (k, t)] = some cs)
    (h : wpList P ops Q rest (a.put o.dst (.agg cs)) W) : wpList P ops Q (o :: rest) a W := by
  have e : (Array.map (fun (x : Nat × Operand) => match x with | (i, x) => (i, a.eval x)) #[(i, x), (j, y), (k, z)]).toList = [(i, u), (j, v), (k, t)] := by simp [hx, hy, hz]
  refine wpList_build hgd T _ ho ?_ ?_
  · rw [e, hb]; rfl
  · rw [e, hb]; exact h
end
/-- Two results in variables, both structs. -/
theorem res_two {fn : Func} {p q : Tmp} {ty tq : TypeId} (h : fn.results = #[.cell p ty, .cell q tq]) (P : Program) (tmps : Array Value) (w : World) (g g2 : Nat) (t t2 : TypeId) (cs cs2 : Array Value) (d d2 : TypeDesc)
    (hp : tmps.getD p undef = .pointer (some ⟨g, 0, none⟩)) (hg : Blk w g t cs) (hu : P.underlying ty = some d) (hd : d.isRow = true) (hi : (P.info? ty).map (·.size) = some cs.size)
    (hq : tmps.getD q undef = .pointer (some ⟨g2, 0, none⟩)) (hg2 : Blk w g2 t2 cs2) (hu2 : P.underlying tq = some d2) (hd2 : d2.isRow = true) (hi2 : (P.info? tq).map (·.size) = some cs2.size) :
    (results fn tmps).run P w = .ok (.tuple #[.agg cs, .agg cs2]) w := by
  have hl := run_loadVar_row (P := P) w g t ty cs (0, 0) d hg hu (by cases d <;> simp_all) hi
  have hl2 := run_loadVar_row (P := P) w g2 t2 tq cs2 (0, 0) d2 hg2 hu2 (by cases d2 <;> simp_all) hi2
  have hp' : tmps[p]?.getD undef = .pointer (some ⟨g, 0, none⟩) := by rw [← hp]; simp
  have hq' : tmps[q]?.getD undef = .pointer (some ⟨g2, 0, none⟩) := by rw [← hq]; simp
  simp only [results, h]
  simp [Result.andThen, hp', hq', asAddr, hl, hl2]
theorem list16 (l : List Int) (h : l.length = 16) : ∃ a0 a1 a2 a3 a4 a5 a6 a7 a8 a9 a10 a11 a12 a13 a14 a15, l = [a0, a1, a2, a3, a4, a5, a6, a7, a8, a9, a10, a11, a12, a13, a14, a15] := by
  match l, h with
  | [a0, a1, a2, a3, a4, a5, a6, a7, a8, a9, a10, a11, a12, a13, a14, a15], _ => exact ⟨a0, a1, a2, a3, a4, a5, a6, a7, a8, a9, a10, a11, a12, a13, a14, a15, rfl⟩
theorem cx_len (R : List Int) (pc : Int) (h : R.length = 16) : (cx R pc).length = 17 := by unfold cx; rw [List.length_append, nums_length, h]; rfl
theorem size_cx (R : List Int) (pc : Int) (h : R.length = 16) : (Try.prog.info? 109).map (·.size) = some (cx R pc).toArray.size := by rw [List.size_toArray, cx_len R pc h]; kernel_rfl
theorem size_cxl (R : List Int) (pc : Int) (h : R.length = 16) : (Try.prog.info? 109).map (·.size) = some (cx R pc).length := by rw [cx_len R pc h]; kernel_rfl
theorem cx_one (R : List Int) (pc : Int) : ∀ v ∈ (cx R pc).toArray, v.oneCell' = true := by
  intro v hv
  simp [cx, nums] at hv
  rcases hv with ⟨a, _, rfl⟩ | rfl <;> rfl
theorem tr_one (d : Dn) : ∀ v ∈ (tr d).toArray, v.oneCell' = true := by
  intro v hv
  simp [tr] at hv
  rcases hv with rfl | rfl | rfl | rfl <;> rfl
def zR : List Int := [0, 0, 0, 0, 0, 0, 0, 0, 0, 0, 0, 0, 0, 0, 0, 0]
/-- The beginning. -/
def d0 (sp : Int) (R : List Int) (pc : Int) : Dn := ⟨sp, R, pc, 0, 0, false, 0⟩
theorem new_cx : (Try.prog.info? 109).map (fun i => i.zero.map (·.cells)) = some (some (cx zR 0).toArray) := by kernel_rfl
theorem new_tr : (Try.prog.info? 117).map (fun i => i.zero.map (·.cells)) = some (some (tr (d0 0 [] 0)).toArray) := by kernel_rfl
theorem size_tr (d : Dn) : (Try.prog.info? 117).map (·.size) = some (tr d).toArray.size := by kernel_rfl
theorem size_trl (d : Dn) : (Try.prog.info? 117).map (·.size) = some (tr d).length := by kernel_rfl
set_option maxRecDepth 100000 in
theorem built_dn (x : Nat) (sp : Int) (R : List Int) (pc : Int) (h : R.length = 16) : Try.prog.built 140 [(0, .pointer (some ⟨x, 0, none⟩)), (1, .int .i64 sp), (2, .agg (cx R pc).toArray)] = some (dg x (d0 sp R pc)) := by
  obtain ⟨a0, a1, a2, a3, a4, a5, a6, a7, a8, a9, a10, a11, a12, a13, a14, a15, rfl⟩ := list16 R h
  kernel_rfl
theorem cx_pc (R : List Int) (pc : Int) (h : R.length = 16) : (cx R pc).toArray[16]? = some (.int .u32 pc) := by
  unfold cx
  rw [List.getElem?_toArray, List.getElem?_append_right (by rw [nums_length, h]; omega), nums_length, h]
  rfl
/-- The program counter is set. -/
def dpc (d : Dn) (v : Int) : Dn := { d with pc := v }
theorem dg_pc (x : Nat) (d : Dn) (h : d.R.length = 16) (v : Int) : (dg x d).setIfInBounds 18 (.int .u32 v) = dg x (dpc d v) := by
  apply Array.ext_getElem?
  intro j
  rw [Array.getElem?_setIfInBounds]
  have hR : (dpc d v).R.length = 16 := h
  have hsz := dg_size x d h
  rcases Nat.lt_or_ge j 2 with h2 | h2
  · rw [if_neg (by omega)]
    match j, h2 with
    | 0, _ => rfl
    | 1, _ => rfl
  · rcases Nat.lt_or_ge j 18 with h3 | h3
    · obtain ⟨k, rfl⟩ : ∃ k, j = 2 + k := ⟨j - 2, by omega⟩
      rw [if_neg (by omega), dg_reg x d h k (by omega), dg_reg x _ hR k (by omega)]
      rfl
    · obtain ⟨k, rfl⟩ : ∃ k, j = 18 + k := ⟨j - 18, by omega⟩
      rw [dg_rest x d h k, dg_rest x _ hR k]
      rcases k with _ | k
      · rw [if_pos rfl, if_pos (by omega)]; rfl
      · rw [if_neg (by omega)]; rfl
theorem dg_cx (x : Nat) (d : Dn) (h : d.R.length = 16) (j : Nat) (v : Value) (hv : (cx d.R d.pc)[j]? = some v) : (dg x d)[2 + j]? = some v := by
  have hj : j < 17 := by
    have := (List.getElem?_eq_some_iff.1 hv).1
    rw [cx_len _ _ h] at this; exact this
  unfold dg
  rw [List.getElem?_toArray, show 2 + j = j + 1 + 1 by omega, List.getElem?_cons_succ, List.getElem?_cons_succ, List.getElem?_append_left (by rw [cx_len _ _ h]; exact hj)]
  exact hv
theorem dg_tr (x : Nat) (d : Dn) (h : d.R.length = 16) (j : Nat) (v : Value) (hv : (tr d)[j]? = some v) : (dg x d)[19 + j]? = some v := by
  rw [show 19 + j = 18 + (1 + j) by omega, dg_rest x d h (1 + j), Nat.add_comm 1 j, List.getElem?_cons_succ]
  exact hv
set_option maxRecDepth 100000 in
set_option maxHeartbeats 4000000 in
theorem step_ok (x gm gp gt n f : Nat) (X X2 : List Int) (l : List En) (m sp : Int) (R : List Int) (pc nx op ra rb im word : Int) (d2 : Dn) (w : World) (C : CS w x gm gp gt n X l m) (hl : l.length ≤ 8) (hR : R.length = 16) (h0 : 0 ≤ pc) (h1 : pc < 4294967296) (hal : pc % 4 = 0)
    (hb : at_ l sp (pc / 64) < l.length) (hf : f < n) (hef : (getE l sp (pc / 64)).f = f) (hword : X[f * 16 + (pc % 64 / 4).toNat]?.getD 0 = word) (hw0 : 0 ≤ word) (hw1 : word < 4294967296) (hdb : decB word = true) (hdi : decI word = ins op ra rb im)
    (h2R : d2.R.length = 16) (h2t : d2.tc = 0)
    (hdo : ∀ g w1, Blk w1 g 140 (dg x (d0 sp R pc)) → CS w1 x gm gp gt n X l m → Calls Try.prog 72 #[.pointer (some ⟨g, 0, none⟩), .agg (ins op ra rb im)] w1 fun r w2 => r = .returned (.int .u32 nx) ∧ Blk w2 g 140 (dg x d2) ∧ CS w2 x gm gp gt n X2 l m ∧ Out w1 w2 (fun i => i = g ∨ i = gt ∨ i = gp)) :
    Calls Try.prog 54 #[.pointer (some ⟨x, 0, none⟩), .int .i64 sp, .agg (cx R pc).toArray] w fun r w' => r = .returned (.tuple #[.agg (cx d2.R nx).toArray, .agg (tr d2).toArray]) ∧ CS w' x gm gp gt n X2 l m ∧ Out w w' (fun i => i = x ∨ i = gt ∨ i = gp) := by
  have hLd := Lib.hid (fun g w' HD C' => load_yes g x gm gp gt n f (d0 sp R pc) X l m pc false w' HD C' hl h0 h1 hb (fun h => by cases h) hf hef)
  have hE := Lib.hid (fun g w' => even_c g pc w' hal h0)
  have hDec := fun w' h => decode_c x 143 (tail gm gt) word w' h hw0 hw1
  rw [hdi, hdb] at hDec
  replace hDec := Lib.hid hDec
  have hDo := Lib.hid hdo
  have hcs := size_cx R pc hR
  have hc1 := Lib.hid (cx_one R pc)
  have hbd := built_dn x sp R pc hR
  have hpc := Lib.hid (cx_pc R pc hR)
  have hs17 : (cx R pc).toArray.size = 17 := by rw [List.size_toArray, cx_len R pc hR]
  obtain ⟨cR, hcR⟩ : ∃ cR, cR = (cx R pc).toArray := ⟨_, rfl⟩
  rw [← hcR] at hcs hc1 hbd hpc hs17 ⊢
  have hd3R : (dpc d2 nx).R.length = 16 := h2R
  clear hdo hb hef hdi hdb hcR hal
  go_enter Try.func54, Try.ntmps54
  go_wp2_with (first
    | ((with_reducible refine wl_box rfl 109 (.tmp 2) rfl cR rfl ?_); intro w1 k1 b1 s1)
    | ((with_reducible refine wl_alloc rfl 109 rfl (cx zR 0).toArray new_cx ?_); intro w2 k2 b2 s2; have K1 := k1.below b2)
    | ((with_reducible refine wl_alloc rfl 117 rfl (tr (d0 0 [] 0)).toArray new_tr ?_); intro w3 k3 b3 s3; have K1 := K1.below b3; have K2 := k2.below b3)
    | (refine at_slot 19 rfl ?_; refine wl_load rfl 109 (.tmp 5) rfl w.heap.size rfl 109 cR _ K1 Try.underlying109 rfl hcs ?_)
    | (refine at_slot 20 rfl ?_; refine wl_build3 rfl 140 0 1 2 (.tmp 17) (.tmp 18) (.tmp 19) rfl (.pointer (some ⟨x, 0, none⟩)) (.int .i64 sp) (.agg cR) rfl rfl rfl (dg x (d0 sp R pc)) hbd ?_)
    | ((with_reducible refine wl_box rfl 140 (.tmp 20) rfl (dg x (d0 sp R pc)) rfl ?_); intro w4 k4 b4 s4; have K1 := K1.below b4; have K2 := K2.below b4; have K3 := k3.below b4; have c16 : w4.cell? ⟨w.heap.size, 16, none⟩ = some (.int .u32 pc) := K1.cellv 16 _ hpc.out))
  refine (hE.out _ _).mono ?_
  rintro r w5 ⟨rfl, rfl⟩
  have B4 := bl_then (bl_then (bl_then b1 b2) b3) b4
  have C4 := C.below B4
  have O := Out.of_below B4 (fun i => i = x ∨ i = gt ∨ i = gp)
  obtain ⟨l1, l2, l3, l4⟩ := C.lt
  have z1 := b1.size
  have z2 := b2.size
  have z3 := b3.size
  have hgs := Lib.hid (C4.ne_ k4)
  obtain ⟨g, hg⟩ : ∃ g, g = w3.heap.size := ⟨_, rfl⟩
  obtain ⟨g6, hg6⟩ : ∃ g6, g6 = w1.heap.size := ⟨_, rfl⟩
  obtain ⟨g7, hg7⟩ : ∃ g7, g7 = w2.heap.size := ⟨_, rfl⟩
  rw [← hg] at k4 hgs ⊢
  rw [← hg6] at K2 ⊢
  rw [← hg7] at K3 ⊢
  have f1 : w.heap.size < g6 := by omega
  have f2 : g6 < g7 := by omega
  have f3 : g7 < g := by omega
  clear hg hg6 hg7 b1 b2 b3 b4 k1 k2 k3 B4 hE
  have C4' := Lib.hid C4
  clear C4
  go_wp2_with fail
  refine (hLd.out g w4 k4 C4'.out).mono ?_
  rw [hword]
  rintro r w5 ⟨rfl, C5, O5⟩
  obtain ⟨ngx, ngm, ngp, ngt⟩ := hgs.out
  obtain ⟨nx1, nx2, nx3, nx4, nx5⟩ := C4'.out.nx
  have K2 := Out.Blk.out K2 O5 (fun h => by omega)
  have K3 := Out.Blk.out K3 O5 (fun h => by omega)
  have k5 := Out.Blk.out k4 O5 ngt
  have O := O.trans O5 (fun i h => .inl (.inr (.inl h)))
  have C5' := Lib.hid C5
  clear C4' hLd O5 C5 k4 K1
  go_wp2_with fail
  refine (hDec.out w5 C5'.out.t).mono ?_
  rintro r w6 ⟨rfl, T6, G6⟩
  have O6 := Out.of_grown G6 (S := fun i => i = x) (fun k e => by injection e with e; exact e.symm)
  have C6 : CS w6 x gm gp gt n X l m := ⟨T6, mm_out C5'.out.mem O6 nx1.symm nx2.symm, Out.Blk.out C5'.out.tlb O6 nx3.symm⟩
  have K2 := Out.Blk.out K2 O6 (fun h => by omega)
  have K3 := Out.Blk.out K3 O6 (fun h => by omega)
  have k6 := Out.Blk.out k5 O6 ngx
  have O := O.trans O6 (fun i h => .inl (.inl h))
  have z6 := k6.lt
  clear C5' hDec O6 T6 G6 k5
  go_wp2_with (first
    | ((with_reducible refine wl_alloc rfl 94 rfl (ins 0 0 0 0) new_i ?_); intro w7 k7 b7 s7)
    | ((refine wl_store rfl 94 (.tmp 11) (.tmp 52) rfl w6.heap.size rfl (ins op ra rb im) rfl 94 (ins 0 0 0 0) k7 (size_i _ rfl) rfl (by simp [ins, Value.oneCell']) ?_); intro w8 k8 g8 s8)
    | (refine at_slot 59 rfl ?_; refine wl_load rfl 94 (.tmp 11) rfl w6.heap.size rfl 94 (ins op ra rb im) _ k8 Try.underlying94 rfl (size_i _ rfl) ?_))
  have BE := below_grown b7 b7.size g8 (Nat.le_refl _)
  have C8 := C6.below BE
  have K2 := K2.below BE
  have K3 := K3.below BE
  have k8g := k6.below BE
  have O := O.trans (Out.of_below BE (fun i => i = x ∨ i = gt ∨ i = gp)) (fun i h => .inl h)
  clear C6 k7 b7 g8 k8 s7 s8 BE k6
  refine (hDo.out g w8 k8g C8).mono ?_
  rintro r w9 ⟨rfl, k9, C9, O9⟩
  have K2 := Out.Blk.out K2 O9 (fun h => by omega)
  have K3 := Out.Blk.out K3 O9 (fun h => by omega)
  have O := O.trans O9 (fun i h => by rcases h with h | h | h; exact .inr (by omega); exact .inl (.inr (.inl h)); exact .inl (.inr (.inr h)))
  have c19 : w9.cell? ⟨g, 19, none⟩ = some (.int .i64 0) := k9.cellv 19 _ (by rw [← h2t]; exact dg_tr x d2 h2R 0 _ rfl)
  have hsp := Lib.hid (dg_pc x d2 h2R nx)
  have hsz := dg_size x d2 h2R
  have C9' := Lib.hid C9
  clear C8 k8g hDo O9 C9
  go_upto_region 16 with (first
    | ((refine wl_set rfl 28 (.tmp 84) (.tmp 81) rfl g 18 rfl (.int .u32 nx) rfl rfl 140 (dg x d2) k9 size_u32' (by omega) ?_); intro w10 k10 g10 s10))
  rw [hsp.out] at k10
  have O10 := Out.of_grown g10 (S := fun i => i = g) (fun k e => by injection e with e; exact e.symm)
  have C10 := Lib.hid (C9'.out.out O10 ngx.symm ngm.symm ngp.symm ngt.symm)
  have K2 := Out.Blk.out K2 O10 (fun h => by omega)
  have K3 := Out.Blk.out K3 O10 (fun h => by omega)
  have O := O.trans O10 (fun i h => .inr (by omega))
  have hcx := Lib.hid (dg_cx x (dpc d2 nx) hd3R)
  have htr := Lib.hid (dg_tr x (dpc d2 nx) hd3R)
  clear C9' O10 g10 k9 c19 hsp hsz
  have O := O.trans (Out.of_below (bl_drew (bl_refl w10)) (fun i => i = x ∨ i = gt ∨ i = gp)) (fun i h => .inl h)
  have C11 := C10.out.below (bl_drew (bl_refl w10))
  have K2 := K2.drew
  have K3 := K3.drew
  have K10 := k10.drew
  refine wp_region_held_drew (S := (fun w' => Blk w' g 140 (dg x (dpc d2 nx)))) (by kernel_rfl) (k10.drew) (fun hHeld => ?_)
  refine wpAnyH_take (i := 0) (oi := { dst := some 85, op := Op.move (Operand.tmp 8), type := 138, pos := "cpu.go:187", after := #[], guard := none }) (v := ?_) rfl (by kernel_rfl) (by kernel_rfl) (by kernel_rfl) (fun _ _ _ h => h) ?_ hHeld ?_
  rotate_left
  · refine Or.inl ⟨by rfl, fun w hSw => ?_⟩; skip; go_simp; (try with_reducible rfl)
  try simp only [Act.put, List.setIfInBounds_toArray, List.set_cons_zero, List.set_cons_succ]
  refine wpAnyH_take (i := 1) (oi := { dst := some 86, op := Op.nilCheck (Operand.tmp 85), type := 0, pos := "cpu.go:187", after := #[{ on := 0, ground := Ground.data }], guard := none }) (v := ?_) rfl (by kernel_rfl) (by kernel_rfl) (by kernel_rfl) (fun _ _ _ h => h) ?_ hHeld ?_
  rotate_left
  · refine Or.inl ⟨by rfl, fun w hSw => ?_⟩; skip; go_simp; (try with_reducible rfl)
  try simp only [Act.put, List.setIfInBounds_toArray, List.set_cons_zero, List.set_cons_succ]
  refine wpAnyH_take (i := 2) (oi := { dst := some 87, op := Op.fieldAddr 140 (Operand.tmp 86) 2, type := 0, pos := "cpu.go:187", after := #[{ on := 1, ground := Ground.data }], guard := none }) (v := ?_) rfl (by kernel_rfl) (by kernel_rfl) (by kernel_rfl) (fun _ _ _ h => h) ?_ hHeld ?_
  rotate_left
  · refine Or.inl ⟨by rfl, fun w hSw => ?_⟩; skip; go_simp; (try with_reducible rfl)
  try simp only [Act.put, List.setIfInBounds_toArray, List.set_cons_zero, List.set_cons_succ]
  refine wpAnyH_take (i := 3) (oi := { dst := some 88, op := Op.load 109 (Operand.tmp 87), type := 109, pos := "cpu.go:187", after := #[{ on := 2, ground := Ground.data }], guard := none }) (v := ?_) rfl (by kernel_rfl) (by kernel_rfl) (by kernel_rfl) (fun _ _ _ h => h) ?_ hHeld ?_
  rotate_left
  · refine yIf_mid 109 (.tmp 87) g 2 140 (dg x (dpc d2 nx)) (cx d2.R nx) _ ?_ ?_ Try.underlying109 rfl (size_cxl _ _ h2R) ?_ ?_ ?_
    · exact fun _ h => h
    · exact hcx.out
    · rfl
    · rfl
    · rfl
  try simp only [Act.put, List.setIfInBounds_toArray, List.set_cons_zero, List.set_cons_succ]
  refine wpAnyH_take (i := 4) (oi := { dst := some 89, op := Op.move (Operand.tmp 8), type := 138, pos := "cpu.go:187", after := #[{ on := 8, ground := Ground.gcOnly Departure.lateStores }], guard := none }) (v := ?_) rfl (by kernel_rfl) (by kernel_rfl) (by kernel_rfl) (fun _ _ _ h => h) ?_ hHeld ?_
  rotate_left
  · refine Or.inl ⟨by rfl, fun w hSw => ?_⟩; skip; go_simp; (try with_reducible rfl)
  try simp only [Act.put, List.setIfInBounds_toArray, List.set_cons_zero, List.set_cons_succ]
  refine wpAnyH_take (i := 5) (oi := { dst := some 90, op := Op.nilCheck (Operand.tmp 89), type := 0, pos := "cpu.go:187", after := #[{ on := 4, ground := Ground.data }, { on := 8, ground := Ground.gcOnly Departure.lateStores }], guard := none }) (v := ?_) rfl (by kernel_rfl) (by kernel_rfl) (by kernel_rfl) (fun _ _ _ h => h) ?_ hHeld ?_
  rotate_left
  · refine Or.inl ⟨by rfl, fun w hSw => ?_⟩; skip; go_simp; (try with_reducible rfl)
  try simp only [Act.put, List.setIfInBounds_toArray, List.set_cons_zero, List.set_cons_succ]
  refine wpAnyH_take (i := 6) (oi := { dst := some 91, op := Op.fieldAddr 140 (Operand.tmp 90) 3, type := 0, pos := "cpu.go:187", after := #[{ on := 5, ground := Ground.data }, { on := 8, ground := Ground.gcOnly Departure.lateStores }], guard := none }) (v := ?_) rfl (by kernel_rfl) (by kernel_rfl) (by kernel_rfl) (fun _ _ _ h => h) ?_ hHeld ?_
  rotate_left
  · refine Or.inl ⟨by rfl, fun w hSw => ?_⟩; skip; go_simp; (try with_reducible rfl)
  try simp only [Act.put, List.setIfInBounds_toArray, List.set_cons_zero, List.set_cons_succ]
  refine wpAnyH_take (i := 7) (oi := { dst := some 92, op := Op.load 117 (Operand.tmp 91), type := 117, pos := "cpu.go:187", after := #[{ on := 6, ground := Ground.data }, { on := 8, ground := Ground.gcOnly Departure.lateStores }], guard := none }) (v := ?_) rfl (by kernel_rfl) (by kernel_rfl) (by kernel_rfl) (fun _ _ _ h => h) ?_ hHeld ?_
  rotate_left
  · refine yIf_mid 117 (.tmp 91) g 19 140 (dg x (dpc d2 nx)) (tr d2) _ ?_ ?_ Try.underlying117 rfl (size_trl _) ?_ ?_ ?_
    · exact fun _ h => h
    · exact htr.out
    · rfl
    · rfl
    · rfl
  try simp only [Act.put, List.setIfInBounds_toArray, List.set_cons_zero, List.set_cons_succ]
  refine wpAnyH_ready (rs := [8]) (by kernel_rfl) (by simp) ?_
  refine AllReadyH.cons (o := { dst := none, op := Op.store 109 (Operand.tmp 6) (Operand.tmp 88), type := 0, pos := "cpu.go:187", after := #[{ on := 3, ground := Ground.data }, { on := 0, ground := Ground.phase }, { on := 1, ground := Ground.phase }, { on := 2, ground := Ground.phase }, { on := 3, ground := Ground.phase }, { on := 4, ground := Ground.textOnly Departure.lateStores }, { on := 5, ground := Ground.textOnly Departure.lateStores }, { on := 6, ground := Ground.textOnly Departure.lateStores }, { on := 7, ground := Ground.textOnly Departure.lateStores }], guard := none }) rfl (fun Kc hKc => ?_) AllReadyH.nil
  refine step_of (by rfl) (wp_whole 109 (.tmp 6) (.tmp 88) (by rfl) g6 (by rfl) (cx d2.R nx).toArray (by rfl) 109 (cx zR 0).toArray K2 (size_cx _ _ h2R) (by rw [List.size_toArray, List.size_toArray, cx_len _ _ h2R]; rfl) (cx_one _ _) ?_)
  intro wS K2 GG sS
  have OG := Out.of_grown GG (S := fun i => i = g6) (fun k e => by injection e with e; exact e.symm)
  have C11 := C11.out OG (fun h => by omega) (fun h => by omega) (fun h => by omega) (fun h => by omega)
  have O := O.trans OG (fun i h => .inr (by omega))
  have K3 := Out.Blk.out K3 OG (fun h => by omega)
  refine hKc.out _ _ (Out.Blk.out hHeld OG (fun h => by omega)) (fun hHeld => ?_)
  clear hKc Kc
  try simp only [Act.put]
  refine wpAnyH_ready (rs := [9]) (by kernel_rfl) (by simp) ?_
  refine AllReadyH.cons (o := { dst := none, op := Op.store 117 (Operand.tmp 7) (Operand.tmp 92), type := 0, pos := "cpu.go:187", after := #[{ on := 7, ground := Ground.data }, { on := 8, ground := Ground.chain }, { on := 0, ground := Ground.phase }, { on := 1, ground := Ground.phase }, { on := 2, ground := Ground.phase }, { on := 3, ground := Ground.phase }, { on := 4, ground := Ground.phase }, { on := 5, ground := Ground.phase }, { on := 6, ground := Ground.phase }, { on := 7, ground := Ground.phase }, { on := 8, ground := Ground.phase }], guard := none }) rfl (fun Kc hKc => ?_) AllReadyH.nil
  refine step_of (by rfl) (wp_whole 117 (.tmp 7) (.tmp 92) (by rfl) g7 (by rfl) (tr d2).toArray (by rfl) 117 (tr (d0 0 [] 0)).toArray K3 (size_tr _) rfl (tr_one _) ?_)
  intro wT K3 GG sT
  have OG := Out.of_grown GG (S := fun i => i = g7) (fun k e => by injection e with e; exact e.symm)
  have C11 := C11.out OG (fun h => by omega) (fun h => by omega) (fun h => by omega) (fun h => by omega)
  have O := O.trans OG (fun i h => .inr (by omega))
  have K2 := Out.Blk.out K2 OG (fun h => by omega)
  refine hKc.out _ _ (Out.Blk.out hHeld OG (fun h => by omega)) (fun hHeld => ?_)
  clear hKc Kc
  try simp only [Act.put]
  refine wpAnyH_done (by kernel_rfl) ?_ _
  try go_wp2_with fail
  refine bodyPost_ret (res_two rfl _ _ _ g6 g7 109 117 (cx d2.R nx).toArray (tr d2).toArray _ _ rfl K2 Try.underlying109 rfl (size_cx _ _ h2R) rfl K3 Try.underlying117 rfl (size_tr _)) rfl ⟨rfl, C11, O⟩
end Go.Proofs.Ytdokmnpkihmkpaa.Cpu3
