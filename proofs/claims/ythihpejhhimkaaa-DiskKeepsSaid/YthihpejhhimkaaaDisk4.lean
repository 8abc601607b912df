/- Contracts of package disk: Waiting, Twin. -/
import Derived.Test.YthihpejhhimkaaaDisk3
import Derived.Lib.SliceRun
set_option linter.unusedVariables false
namespace Go.Proofs.Ythihpejhhimkaaa.Disk4
open Go.RowKit Go.Proofs.Ythihpejhhimkaaa.Base Go.Proofs.Ythihpejhhimkaaa.Row Go.Proofs.Ythihpejhhimkaaa.App Go.Proofs.Ythihpejhhimkaaa.Multi Go.Proofs.Ythihpejhhimkaaa.StEq Go.Proofs.Ythihpejhhimkaaa.Held Go.Proofs.Ythihpejhhimkaaa.Out Go.Proofs.Ythihpejhhimkaaa.HeldW Go.Proofs.Ythihpejhhimkaaa.DiskMath Go.Proofs.Ythihpejhhimkaaa.Disk Go.Proofs.Ythihpejhhimkaaa.Disk3

def iv (b : Nat) : List Value := [.int .i64 b]
theorem iv_len (b : Nat) : (iv b).length = 1 := rfl
theorem iv_one (b : Nat) : ∀ v ∈ iv b, v.oneCell' = true := by
  intro v hv
  rw [iv, List.mem_singleton] at hv
  subst hv; rfl
def bks (W : List Wr) : List Nat := W.map (·.b)
theorem bks_take {W : List Wr} {j : Nat} {x : Wr} (hx : W[j]? = some x) : bks (W.take (j + 1)) = bks (W.take j) ++ [x.b] := by
  obtain ⟨hl, rfl⟩ := List.getElem?_eq_some_iff.1 hx
  unfold bks
  rw [List.take_succ_eq_append_getElem hl, List.map_append]; rfl
theorem info_int : (Try.prog.info? 3).map (fun i => (i.zero, i.size, i.bytes)) = some (some (.int .i64 0), 1, 8) := by kernel_rfl
set_option maxRecDepth 100000 in
set_option maxHeartbeats 4000000 in
theorem waiting_c (g : Nat) (F : Nat → Prop) (L : List Bk) (W : List Wr) (B : Nat) (w : World) (h : DkF 59 34 71 B w g F L W) (hW : W.length ≤ 1000) :
    Calls Try.prog 20 #[.pointer (some ⟨g, 0, none⟩)] w fun r w' => ∃ A1 c1, (r = .returned (.slice A1 W.length c1) ∧ w'.ownsRow w.heap.size 3 1 (.slice A1 W.length c1) W.length ((bks W).flatMap iv)) ∧ Below w.heap.size w w' := by
  obtain ⟨Al, cl, Aw, cw, D, hFg, hFl, hFw⟩ := h
  have HQ := D.q
  replace D := D.d
  have f1 := D.cellv 1 (.slice Aw W.length cw) rfl
  go_enter Try.func20, Try.ntmps20
  go_wp2_with fail
  go_loopw [3, 13] (fun o i wr => ∃ (j : Nat) (A1 : Option Addr) (c1 : Nat), j ≤ W.length ∧ i = .int .i64 j ∧ o = .slice A1 j c1 ∧ wr.ownsRow w.heap.size 3 1 (.slice A1 j c1) j ((bks (W.take j)).flatMap iv) ∧ Below w.heap.size w wr) (fun _ i _ => W.length - (intOf i).toNat)
  case atStart => exact ⟨0, none, 0, by omega, rfl, rfl, own_nil _ _ _ _, bl_refl _⟩
  case round =>
    obtain ⟨j, A1, c1, hj, rfl, rfl, HO, HB⟩ := hrel
    obtain ⟨wo, rfl⟩ : ∃ wo : World, wo = wr := ⟨_, rfl⟩
    by_cases hlt : j < W.length
    · have hq : decide ((j : Int) < (W.length : Int)) = true := by simp; omega
      have hq2 : (j : Int) < (W.length : Int) := by omega
      obtain ⟨x, hx⟩ : ∃ x, W[j]? = some x := ⟨_, List.getElem?_eq_getElem hlt⟩
      obtain ⟨gq, curq, hAw, _, KQ, _, _, hcq⟩ := own_blk wv_len (own_below HQ HB) (by omega)
      have hAw' := Lib.hid hAw
      have hcx := Lib.hid (hcq j x hx)
      have hbt := Lib.hid (bks_take hx)
      subst hAw
      clear hx hcq
      go_wp2_with (first
        | (refine wl_load_mid rfl 71 (.tmp 15) rfl gq (j * 65) rfl 71 curq (wv x) _ KQ hcx.out Try.underlying71 rfl (sz_wv x) ?_)
        | ((with_reducible refine wl_alloc rfl 71 rfl (wc ⟨0, zb⟩) new_w ?_); intro w1 k1 b1 s1)
        | ((refine wl_store rfl 71 (.tmp 5) (.tmp 16) rfl wo.heap.size rfl (wc x) rfl 71 (wc ⟨0, zb⟩) k1 (sz_wc x) (by rw [wc_size, wc_size]) (wc_one x) ?_); intro w2 k2 g2 s2; have c0 := k2.cellv 0 (.int .i64 x.b) rfl)
        | (at_builtin; refine app_onef (w0 := w) (f := iv) w.heap.size 1 8 iv_len iv_one (.int .i64 0) rfl (.tmp 17) (.tmp 20) 46 3 rfl Try.underlying46 info_int rfl (by decide) (by decide) (.slice A1 j c1) j (bks (W.take j)) rfl ?dO x.b _ rfl w2.heap.size rfl rfl ?d1 ?d2 ?d3 ?_))
      case dO => exact own_below HO (below_grown b1 b1.size g2 (Nat.le_refl _))
      case d1 => omega
      case d2 => exact bl_then HB (below_grown b1 b1.size g2 (Nat.le_refl _))
      case d3 => exact (bl_then HB (below_grown b1 b1.size g2 (Nat.le_refl _))).size
      intro A5 c5 w5 HO5 B5 s5 _
      go_wp2_with fail
      go_roundw
      case rel => exact ⟨j + 1, A5, c5, by omega, by go_num, rfl, by rw [hbt.out, List.flatMap_append, List.flatMap_singleton]; exact HO5, B5⟩
      case measure => first | (simp [intOf]; done) | (simp [intOf]; omega)
    · obtain rfl : j = W.length := by omega
      have hq : decide ((W.length : Int) < (W.length : Int)) = false := by simp
      go_wp2_with fail
      go_ret
      exact ⟨A1, c1, ⟨rfl, by rw [List.take_length] at HO; exact HO⟩, HB⟩

def ClonePost (T : TypeId) (sz : Nat) (B : Nat) (xs : List Value) (n : Nat) (w w' : World) (r : Ending) : Prop := (∃ A1 c1, r = .returned (.slice A1 n c1) ∧ w'.ownsRow B T sz (.slice A1 n c1) n xs) ∧ Below w.heap.size w w'
set_option maxRecDepth 100000 in
theorem cloned_c (B : Nat) (A : Option Addr) (n c : Nat) (l : List _) (w : World) (hr : RF bv 64 w A n l) (hA : A = none → c = 0) (hn : n ≤ 1000000) (hB : B ≤ w.heap.size) :
    Calls Try.prog 28 #[.slice A n c] w fun r w' => ClonePost 34 64 (w.heap.size) (l.flatMap bv) n w w' r := by
  cases A with
  | none =>
    obtain rfl : c = 0 := hA rfl
    obtain rfl : n = 0 := by
      rcases Nat.eq_zero_or_pos n with hm | hm
      · exact hm
      · obtain ⟨g, o, e', _⟩ := hr.cells hm
        cases e'
    obtain rfl : l = [] := List.length_eq_zero_iff.1 hr.len
    clear hr hA
    have hnil := Lib.run_eql_slice_nil (P := Try.prog) w 56 34 none 0 0 0 0 Try.underlying56
    go_enter Try.func28, Try.ntmps28
    go_wp2
    go_ret
    exact ⟨⟨none, 0, rfl, own_nil _ _ _ _⟩, bl_refl _⟩
  | some ad =>
    have hA' := Lib.hid hA
    clear hA
    have hnil := Lib.run_eql_slice_nil (P := Try.prog) w 56 34 (some ad) n c 0 0 Try.underlying56
    have HO := World.ownsRow_lit (base := w.heap.size) w #[] 0 (e := 34) (size := 64) (Nat.le_refl _) (by simp [maxLen]) rfl
    have B1 := bl_alloc (bl_refl w) (.cells #[] 34)
    have hr1 := hr.below B1
    clear hr
    go_enter Try.func28, Try.ntmps28
    go_wp2_with (at_builtin; refine app_rf (w0 := w) (f := bv) w.heap.size 64 64 bv_len bv_one (.agg (bc zb)) rfl _ _ 56 34 rfl Try.underlying56 info_d rfl (by decide) (by decide) (.slice (some ⟨w.heap.size, 0, none⟩) 0 0) 0 [] rfl HO (some ad) n c l rfl hr1 hA'.out ?d1 B1 ?d3 ?_)
    case d1 => omega
    intro A3 c3 w5 HO5 B5 s5 _
    go_wp2
    go_ret
    exact ⟨⟨A3, c3, rfl, by simpa using HO5⟩, B5⟩
set_option maxRecDepth 100000 in
theorem clonew_c (B : Nat) (A : Option Addr) (n c : Nat) (l : List _) (w : World) (hr : RF wv 65 w A n l) (hA : A = none → c = 0) (hn : n ≤ 1000000) (hB : B ≤ w.heap.size) :
    Calls Try.prog 29 #[.slice A n c] w fun r w' => ClonePost 71 65 (w.heap.size) (l.flatMap wv) n w w' r := by
  cases A with
  | none =>
    obtain rfl : c = 0 := hA rfl
    obtain rfl : n = 0 := by
      rcases Nat.eq_zero_or_pos n with hm | hm
      · exact hm
      · obtain ⟨g, o, e', _⟩ := hr.cells hm
        cases e'
    obtain rfl : l = [] := List.length_eq_zero_iff.1 hr.len
    clear hr hA
    have hnil := Lib.run_eql_slice_nil (P := Try.prog) w 57 71 none 0 0 0 0 Try.underlying57
    go_enter Try.func29, Try.ntmps29
    go_wp2
    go_ret
    exact ⟨⟨none, 0, rfl, own_nil _ _ _ _⟩, bl_refl _⟩
  | some ad =>
    have hA' := Lib.hid hA
    clear hA
    have hnil := Lib.run_eql_slice_nil (P := Try.prog) w 57 71 (some ad) n c 0 0 Try.underlying57
    have HO := World.ownsRow_lit (base := w.heap.size) w #[] 0 (e := 71) (size := 65) (Nat.le_refl _) (by simp [maxLen]) rfl
    have B1 := bl_alloc (bl_refl w) (.cells #[] 71)
    have hr1 := hr.below B1
    clear hr
    go_enter Try.func29, Try.ntmps29
    go_wp2_with (at_builtin; refine app_rf (w0 := w) (f := wv) w.heap.size 65 72 wv_len wv_one (.agg (wc ⟨0, zb⟩)) rfl _ _ 57 71 rfl Try.underlying57 info_w rfl (by decide) (by decide) (.slice (some ⟨w.heap.size, 0, none⟩) 0 0) 0 [] rfl HO (some ad) n c l rfl hr1 hA'.out ?d1 B1 ?d3 ?_)
    case d1 => omega
    intro A3 c3 w5 HO5 B5 s5 _
    go_wp2
    go_ret
    exact ⟨⟨A3, c3, rfl, by simpa using HO5⟩, B5⟩

/-- A value boxed, in a region that draws its order. -/
theorem wp_box {P : Program} {o : Oper} {a : Act} {Q : Exit → Act → World → Prop} {W : World} {K : Act → World → Prop} (T : TypeId) (x : Operand) (ho : o.op = .box T x) (cs : Array Value) (hx : (a.eval x).cells = cs)
    (h : ∀ w', Blk w' W.heap.size T cs → Below W.heap.size W w' → W.heap.size < w'.heap.size → K (a.put o.dst (.pointer (some ⟨W.heap.size, 0, none⟩))) w') : o.wp P a W K Q := by
  have hrun : (Instr.box T (a.eval x)).run P W = .ok (.pointer (some ⟨W.heap.size, 0, none⟩)) (W.alloc (.cells cs T)) := by
    subst hx
    simp [Instr.box, newVar, newRow, newObj]
    rfl
  unfold Oper.wp execOp
  simp only [ho, Sem.run_bind, Sem.run_pure, hrun, Result.andThen_ok]
  exact h _ (Blk.new W T cs) (bl_alloc (bl_refl W) _) (by simp)
set_option maxRecDepth 100000 in
set_option maxHeartbeats 4000000 in
theorem twin_c (g : Nat) (F : Nat → Prop) (L : List Bk) (W : List Wr) (B : Nat) (w : World) (h : DkF 59 34 71 B w g F L W) (hL : L.length ≤ 1000) (hW : W.length ≤ 1000) (hB : B ≤ w.heap.size) :
    Calls Try.prog 16 #[.pointer (some ⟨g, 0, none⟩)] w fun r w' => ∃ g', r = .returned (.pointer (some ⟨g', 0, none⟩)) ∧ DkF 59 34 71 B w' g' (gro (fun _ => False) w w') L W ∧ Below w.heap.size w w' := by
  obtain ⟨Al, cl, Aw, cw, D, hFg, hFl, hFw⟩ := h
  have R1 := RF.of_own bv_len (by decide) D.l
  have R2 := RF.of_own wv_len (by decide) D.q
  have hA1 := Lib.hid (own_noneS D.l)
  have hA2 := Lib.hid (own_noneS D.q)
  replace D := D.d
  have hfinP : ∀ (wa wb w3 : World) (A3 : Option Addr) (c3 : Nat) (A4 : Option Addr) (c4 : Nat), Below w.drew.heap.size w.drew wa → wa.ownsRow w.drew.heap.size 34 64 (.slice A3 L.length c3) L.length (L.flatMap bv) → Below wa.heap.size wa wb → wb.ownsRow wa.heap.size 71 65 (.slice A4 W.length c4) W.length (W.flatMap wv) →
      Below wb.heap.size wb w3 → Blk w3 wb.heap.size 59 (dc A3 L.length c3 A4 W.length c4) → ∃ g', Ending.returned (.pointer (some ⟨wb.heap.size, 0, none⟩)) = .returned (.pointer (some ⟨g', 0, none⟩)) ∧ DkF 59 34 71 B w3 g' (gro (fun _ => False) w w3) L W ∧ Below w.heap.size w w3 := by
    intro wa wb w3 A3 c3 A4 c4 ba HO3 bb HO4 b3 k3
    have za : w.heap.size ≤ wa.heap.size := ba.size
    have zb' := bb.size
    have z3 := b3.size
    have H3 := own_below (own_below HO3 bb) b3
    have H4 := own_below HO4 b3
    have hz3 := k3.lt
    refine ⟨wb.heap.size, rfl, ⟨A3, c3, A4, c4, ⟨k3, own_mono H3 hB, own_mono H4 (by omega), by omega⟩, .inr ⟨by omega, hz3⟩, fun a ha => ?_, fun a ha => ?_⟩, bl_then (bl_then (show Below w.heap.size w wa from bl_then (bl_drew (bl_refl w)) ba) bb) b3⟩
    · obtain ⟨h1, h2, _⟩ := row_lt H3 a ha
      exact .inr ⟨h2, h1⟩
    · obtain ⟨h1, h2, _⟩ := row_lt H4 a ha
      exact .inr ⟨by omega, h1⟩
  have hfin := Lib.hid hfinP
  clear hfinP
  go_enter Try.func16, Try.ntmps16
  go_wp2_with fail
  refine wp_region_held_drew (S := (fun w' => Blk w' g 59 (dc Al L.length cl Aw W.length cw))) (by kernel_rfl) (D.drew) (fun hHeld => ?_)
  refine wpAnyH_take (i := 0) (oi := { dst := some 5, op := Op.move (Operand.tmp 0), type := 23, pos := "disk.go:107", after := #[], guard := none }) (v := ?_) rfl (by kernel_rfl) (by kernel_rfl) (by kernel_rfl) (fun _ _ _ h => h) ?_ hHeld ?_
  rotate_left
  · refine Or.inl ⟨by rfl, fun w hSw => ?_⟩; skip; go_simp; (try with_reducible rfl)
  try simp only [Act.put, List.setIfInBounds_toArray, List.set_cons_zero, List.set_cons_succ]
  refine wpAnyH_take (i := 1) (oi := { dst := some 6, op := Op.nilCheck (Operand.tmp 5), type := 0, pos := "disk.go:107", after := #[{ on := 0, ground := Ground.data }], guard := none }) (v := ?_) rfl (by kernel_rfl) (by kernel_rfl) (by kernel_rfl) (fun _ _ _ h => h) ?_ hHeld ?_
  rotate_left
  · refine Or.inl ⟨by rfl, fun w hSw => ?_⟩; skip; go_simp; (try with_reducible rfl)
  try simp only [Act.put, List.setIfInBounds_toArray, List.set_cons_zero, List.set_cons_succ]
  refine wpAnyH_take (i := 2) (oi := { dst := some 7, op := Op.fieldAddr 59 (Operand.tmp 6) 0, type := 0, pos := "disk.go:107", after := #[{ on := 1, ground := Ground.data }], guard := none }) (v := ?_) rfl (by kernel_rfl) (by kernel_rfl) (by kernel_rfl) (fun _ _ _ h => h) ?_ hHeld ?_
  rotate_left
  · refine Or.inl ⟨by rfl, fun w hSw => ?_⟩; skip; go_simp; (try with_reducible rfl)
  try simp only [Act.put, List.setIfInBounds_toArray, List.set_cons_zero, List.set_cons_succ]
  refine wpAnyH_take (i := 3) (oi := { dst := some 8, op := Op.load 56 (Operand.tmp 7), type := 56, pos := "disk.go:107", after := #[{ on := 2, ground := Ground.data }], guard := none }) (v := ?_) rfl (by kernel_rfl) (by kernel_rfl) (by kernel_rfl) (fun _ _ _ h => h) ?_ hHeld ?_
  rotate_left
  · refine Or.inl ⟨by rfl, fun w hSw => ?_⟩; have c0 := Blk.cellv hSw 0 (.slice Al L.length cl) rfl; go_simp; (try with_reducible rfl)
  try simp only [Act.put, List.setIfInBounds_toArray, List.set_cons_zero, List.set_cons_succ]
  refine wpAnyH_take (i := 5) (oi := { dst := some 10, op := Op.move (Operand.tmp 0), type := 23, pos := "disk.go:107", after := #[], guard := none }) (v := ?_) rfl (by kernel_rfl) (by kernel_rfl) (by kernel_rfl) (fun _ _ _ h => h) ?_ hHeld ?_
  rotate_left
  · refine Or.inl ⟨by rfl, fun w hSw => ?_⟩; skip; go_simp; (try with_reducible rfl)
  try simp only [Act.put, List.setIfInBounds_toArray, List.set_cons_zero, List.set_cons_succ]
  refine wpAnyH_take (i := 6) (oi := { dst := some 11, op := Op.nilCheck (Operand.tmp 10), type := 0, pos := "disk.go:107", after := #[{ on := 5, ground := Ground.data }], guard := none }) (v := ?_) rfl (by kernel_rfl) (by kernel_rfl) (by kernel_rfl) (fun _ _ _ h => h) ?_ hHeld ?_
  rotate_left
  · refine Or.inl ⟨by rfl, fun w hSw => ?_⟩; skip; go_simp; (try with_reducible rfl)
  try simp only [Act.put, List.setIfInBounds_toArray, List.set_cons_zero, List.set_cons_succ]
  refine wpAnyH_take (i := 7) (oi := { dst := some 12, op := Op.fieldAddr 59 (Operand.tmp 11) 1, type := 0, pos := "disk.go:107", after := #[{ on := 6, ground := Ground.data }], guard := none }) (v := ?_) rfl (by kernel_rfl) (by kernel_rfl) (by kernel_rfl) (fun _ _ _ h => h) ?_ hHeld ?_
  rotate_left
  · refine Or.inl ⟨by rfl, fun w hSw => ?_⟩; skip; go_simp; (try with_reducible rfl)
  try simp only [Act.put, List.setIfInBounds_toArray, List.set_cons_zero, List.set_cons_succ]
  refine wpAnyH_take (i := 8) (oi := { dst := some 13, op := Op.load 57 (Operand.tmp 12), type := 57, pos := "disk.go:107", after := #[{ on := 7, ground := Ground.data }], guard := none }) (v := ?_) rfl (by kernel_rfl) (by kernel_rfl) (by kernel_rfl) (fun _ _ _ h => h) ?_ hHeld ?_
  rotate_left
  · refine Or.inl ⟨by rfl, fun w hSw => ?_⟩; have c0 := Blk.cellv hSw 1 (.slice Aw W.length cw) rfl; go_simp; (try with_reducible rfl)
  try simp only [Act.put, List.setIfInBounds_toArray, List.set_cons_zero, List.set_cons_succ]
  refine wpAnyH_ready (rs := [4]) (by kernel_rfl) (by simp) ?_
  refine AllReadyH.cons (o := { dst := some 9, op := Op.call { callee := Callee.value (Operand.func 28), args := #[Operand.tmp 8], argTypes := #[56] }, type := 56, pos := "disk.go:107", after := #[{ on := 3, ground := Ground.data }], guard := none }) rfl (fun Kc hKc => ?_) AllReadyH.nil
  go_simp
  refine (cloned_c w.heap.size Al L.length cl L w.drew (R1.below (bl_drew (bl_refl w))) hA1.out (by omega) (Nat.le_refl _)).mono ?_
  rintro r wa ⟨⟨A3, c3, rfl, HO3⟩, ba⟩
  have KD := Blk.below hHeld ba
  refine hKc.out _ _ (KD) (fun hHeld => ?_)
  clear hKc Kc
  try simp only [Act.put, List.setIfInBounds_toArray, List.set_cons_zero, List.set_cons_succ]
  refine wpAnyH_ready (rs := [9]) (by kernel_rfl) (by simp) ?_
  refine AllReadyH.cons (o := { dst := some 14, op := Op.call { callee := Callee.value (Operand.func 29), args := #[Operand.tmp 13], argTypes := #[57] }, type := 57, pos := "disk.go:107", after := #[{ on := 8, ground := Ground.data }, { on := 4, ground := Ground.chain }], guard := none }) rfl (fun Kc hKc => ?_) AllReadyH.nil
  go_simp
  refine (clonew_c w.heap.size Aw W.length cw W wa ((R2.below (bl_drew (bl_refl w))).below ba) hA2.out (by omega) ba.size).mono ?_
  rintro r wb ⟨⟨A4, c4, rfl, HO4⟩, bb⟩
  have KD := Blk.below hHeld bb
  refine hKc.out _ _ (KD) (fun hHeld => ?_)
  clear hKc Kc
  try simp only [Act.put, List.setIfInBounds_toArray, List.set_cons_zero, List.set_cons_succ]
  refine wpAnyH_take (i := 10) (oi := { dst := some 15, op := Op.build 59 #[(0, Operand.tmp 9), (1, Operand.tmp 14)], type := 59, pos := "disk.go:107", after := #[{ on := 4, ground := Ground.data }, { on := 9, ground := Ground.data }], guard := none }) (v := ?_) rfl (by kernel_rfl) (by kernel_rfl) (by kernel_rfl) (fun _ _ _ h => h) ?_ hHeld ?_
  rotate_left
  · refine Or.inl ⟨by rfl, fun w hSw => ?_⟩; skip; go_simp; (try with_reducible rfl)
  try simp only [Act.put, List.setIfInBounds_toArray, List.set_cons_zero, List.set_cons_succ]
  refine wpAnyH_ready (rs := [11]) (by kernel_rfl) (by simp) ?_
  refine AllReadyH.cons (o := { dst := some 16, op := Op.box 59 (Operand.tmp 15), type := 23, pos := "disk.go:107", after := #[{ on := 10, ground := Ground.data }], guard := none }) rfl (fun Kc hKc => ?_) AllReadyH.nil
  refine step_of (by rfl) (wp_box 59 (.tmp 15) (by rfl) (dc A3 L.length c3 A4 W.length c4) (by rfl) ?_)
  intro wc1 kc bc1 sc1
  refine hKc.out _ _ (Blk.below hHeld bc1) (fun hHeld => ?_)
  clear hKc Kc
  try simp only [Act.put, List.setIfInBounds_toArray, List.set_cons_zero, List.set_cons_succ]
  refine wpAnyH_take (i := 12) (oi := { dst := some 2, op := Op.assign (Operand.tmp 16), type := 23, pos := "disk.go:107", after := #[{ on := 11, ground := Ground.data }, { on := 9, ground := Ground.chain }, { on := 0, ground := Ground.phase }, { on := 1, ground := Ground.phase }, { on := 2, ground := Ground.phase }, { on := 3, ground := Ground.phase }, { on := 4, ground := Ground.phase }, { on := 5, ground := Ground.phase }, { on := 6, ground := Ground.phase }, { on := 7, ground := Ground.phase }, { on := 8, ground := Ground.phase }, { on := 9, ground := Ground.phase }, { on := 10, ground := Ground.phase }, { on := 11, ground := Ground.phase }], guard := none }) (v := ?_) rfl (by kernel_rfl) (by kernel_rfl) (by kernel_rfl) (fun _ _ _ h => h) ?_ hHeld ?_
  rotate_left
  · refine Or.inl ⟨by rfl, fun w hSw => ?_⟩; skip; go_simp; (try with_reducible rfl)
  try simp only [Act.put, List.setIfInBounds_toArray, List.set_cons_zero, List.set_cons_succ]
  refine wpAnyH_done (by kernel_rfl) ?_ _
  go_wp2_with fail
  go_ret
  exact hfin.out wa wb wc1 A3 c3 A4 c4 ba HO3 bb HO4 bc1 kc
end Go.Proofs.Ythihpejhhimkaaa.Disk4
