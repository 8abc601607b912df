/- Contracts of package disk: Write. -/
import Derived.Test.YthihpejhhimkaaaDisk
set_option linter.unusedVariables false
namespace Go.Proofs.Ythihpejhhimkaaa.Disk2
open Go.RowKit Go.Proofs.Ythihpejhhimkaaa.Base Go.Proofs.Ythihpejhhimkaaa.Row Go.Proofs.Ythihpejhhimkaaa.App Go.Proofs.Ythihpejhhimkaaa.Multi Go.Proofs.Ythihpejhhimkaaa.StEq Go.Proofs.Ythihpejhhimkaaa.Held Go.Proofs.Ythihpejhhimkaaa.Out Go.Proofs.Ythihpejhhimkaaa.HeldW Go.Proofs.Ythihpejhhimkaaa.DiskMath Go.Proofs.Ythihpejhhimkaaa.Disk

set_option maxRecDepth 100000 in
theorem write_no (g : Nat) (F : Nat → Prop) (L : List Bk) (W : List Wr) (b : Int) (x : Bk) (B : Nat) (w : World) (h : DkF 59 34 71 B w g F L W) (hb : b < 0 ∨ (L.length : Int) ≤ b) :
    Calls Try.prog 17 #[.pointer (some ⟨g, 0, none⟩), .int .i64 b, .agg (bc x)] w fun r w' => r = .returned (.bool false) ∧ Below w.heap.size w w' := by
  obtain ⟨Al, cl, Aw, cw, D, _⟩ := h
  have D' := D.d
  have hlc := Lib.hid (fun w1 (hb : Below w.heap.size w w1) => len_c g L.length cl W.length cw Al Aw w1 (D'.below hb))
  clear D D'
  by_cases h0 : b < 0
  · have q1 : decide (b < 0) = true := by simpa using h0
    clear hb h0
    go_enter Try.func17, Try.ntmps17
    go_wp2_with ((with_reducible refine wl_box rfl 34 _ rfl (bc x) rfl ?_); intro w1 k1 b1 s1)
    go_ret
    exact ⟨rfl, b1⟩
  · have q1 : decide (b < 0) = false := by simpa using h0
    have q2 : decide ((L.length : Int) ≤ b) = true := by simp; omega
    clear hb h0
    go_enter Try.func17, Try.ntmps17
    go_wp2_with ((with_reducible refine wl_box rfl 34 _ rfl (bc x) rfl ?_); intro w1 k1 b1 s1)
    refine (hlc.out w1 b1).mono ?_
    rintro r w2 ⟨rfl, rfl⟩
    go_wp2_with fail
    go_ret
    exact ⟨rfl, b1⟩
set_option maxRecDepth 100000 in
theorem write_nil (b : Int) (x : Bk) (w : World) :
    Calls Try.prog 17 #[.pointer none, .int .i64 b, .agg (bc x)] w fun r w' => r = .returned (.bool false) ∧ Below w.heap.size w w' := by
  by_cases h0 : b < 0
  · have q1 : decide (b < 0) = true := by simpa using h0
    clear h0
    go_enter Try.func17, Try.ntmps17
    go_wp2_with ((with_reducible refine wl_box rfl 34 _ rfl (bc x) rfl ?_); intro w1 k1 b1 s1)
    go_ret
    exact ⟨rfl, b1⟩
  · have q1 : decide (b < 0) = false := by simpa using h0
    have q2 : decide (0 ≤ b) = true := by simp; omega
    clear h0
    go_enter Try.func17, Try.ntmps17
    go_wp2_with ((with_reducible refine wl_box rfl 34 _ rfl (bc x) rfl ?_); intro w1 k1 b1 s1)
    refine (len_nil w1).mono ?_
    rintro r w2 ⟨rfl, rfl⟩
    go_wp2_with fail
    go_ret
    exact ⟨rfl, b1⟩

set_option maxRecDepth 100000 in
set_option maxHeartbeats 4000000 in
theorem write_yes (g : Nat) (F : Nat → Prop) (L : List Bk) (W : List Wr) (b : Nat) (x : Bk) (B : Nat) (w : World) (h : DkF 59 34 71 B w g F L W) (hb : b < L.length) (hL : L.length ≤ 1000) (hW : W.length ≤ 1000) (hF : ∀ i, F i → i < w.heap.size) :
    Calls Try.prog 17 #[.pointer (some ⟨g, 0, none⟩), .int .i64 b, .agg (bc x)] w fun r w' => r = .returned (.bool true) ∧ DkF 59 34 71 B w' g (gro F w w') L (W ++ [⟨b, x⟩]) ∧ Out w w' F := by
  obtain ⟨Al, cl, Aw, cw, D, hFg, hFl, hFw⟩ := h
  have D' := D.d
  have hlc := Lib.hid (fun w1 (hb : Below w.heap.size w w1) => len_c g L.length cl W.length cw Al Aw w1 (D'.below hb))
  have HQ0 := D.q
  have hgl := D'.lt
  have hBg := D.b
  have hwg : some g ≠ (Value.slice Aw W.length cw).ownBlock := by
    cases Aw with
    | none => intro e; cases e
    | some a =>
      intro e
      injection e with e
      obtain ⟨_, _, cs, hk⟩ := row_lt HQ0 a rfl
      exact Blk.ne_ D' hk (by decide) e
  have hwx : some w.heap.size ≠ (Value.slice Aw W.length cw).ownBlock := by
    cases Aw with
    | none => intro e; cases e
    | some a =>
      intro e
      injection e with e
      have := (row_lt HQ0 a rfl).1
      omega
  have hwF : ∀ k, (Value.slice Aw W.length cw).ownBlock = some k → F k := by
    intro k hk
    cases Aw with
    | none => cases hk
    | some a => injection hk with hk; subst hk; exact hFw a rfl
  have hxg : some w.heap.size ≠ some g := by intro e; injection e with e; omega
  have hlF : ∀ k, (Value.slice Al L.length cl).ownBlock = some k → k ≠ g ∧ ¬ (Value.slice Aw W.length cw).ownBlock = some k := by
    intro k hk
    cases Al with
    | none => cases hk
    | some a =>
      injection hk with hk
      subst hk
      obtain ⟨h1, _, cs, hk⟩ := row_lt D.l a rfl
      refine ⟨fun e => Blk.ne_ (e ▸ hk) D' (by decide) rfl, fun e => ?_⟩
      cases Aw with
      | none => cases e
      | some j =>
        injection e with e
        obtain ⟨_, _, cs', hk'⟩ := row_lt HQ0 j rfl
        exact Blk.ne_ hk hk' (by decide) e.symm
  have hlA := Lib.hid (fun k h => (hlF k h).2)
  have HL0 := D.l
  have hfinP : ∀ (wx wA wB : World) (A1 : Option Addr) (c1 : Nat), wA.ownsRow B 71 65 (.slice A1 (W.length + 1) c1) (W.length + 1) ((W ++ [(⟨b, x⟩ : Wr)]).flatMap wv) → wA.ownsRow B 34 64 (.slice Al L.length cl) L.length (L.flatMap bv) → Blk wA g 59 (dc Al L.length cl Aw W.length cw) → Blk wB g 59 ((dc Al L.length cl Aw W.length cw).setIfInBounds 1 (.slice A1 (W.length + 1) c1)) → wA.grownBy wB (some g) →
      (∀ a1, A1 = some a1 → (Value.slice Aw W.length cw).ownBlock = some a1.block ∨ wx.heap.size ≤ a1.block) → Out w wA F → w.heap.size ≤ wx.heap.size → DkF 59 34 71 B wB g (gro F w wB) L (W ++ [(⟨b, x⟩ : Wr)]) ∧ Out w wB F := by
    intro wx wA wB A1 c1 HO HL DA kB gB atA OW hx
    have OG := Out.of_grown gB (S := fun k => k = g) (fun k e => by injection e with e; exact e.symm)
    have hne1 : ∀ k, (Value.slice A1 (W.length + 1) c1).ownBlock = some k → ¬ k = g := by
      intro k hk e
      cases A1 with
      | none => cases hk
      | some a =>
        injection hk with hk
        subst hk
        obtain ⟨_, _, cs, hk⟩ := row_lt HO a rfl
        exact Blk.ne_ (e ▸ hk) DA (by decide) rfl
    refine ⟨⟨Al, cl, A1, c1, ⟨?_, own_out HL OG (fun k hk e => (hlF k hk).1 e), ?_, hBg⟩, .inl hFg, fun a ha => .inl (hFl a ha), fun a ha => ?_⟩, OW.trans (Out.of_grown gB (S := F) (fun k e => by injection e with e; subst e; exact hFg)) (fun i h => .inl h)⟩
    · rw [List.length_append]; exact kB
    · rw [List.length_append]; exact own_out HO OG hne1
    · rcases atA a ha with h | h
      · exact .inl (hwF _ h)
      · subst ha
        have := (row_lt (own_out HO OG hne1) a rfl).1
        exact .inr ⟨by omega, this⟩
  have hfin := Lib.hid hfinP
  clear hfinP
  have q1 : decide ((b : Int) < 0) = false := by simp
  have q2 : decide ((L.length : Int) ≤ (b : Int)) = false := by simp; omega
  have q3 : decide (L.length ≤ b) = false := by simp; omega
  go_enter Try.func17, Try.ntmps17
  go_wp2_with ((with_reducible refine wl_box rfl 34 _ rfl (bc x) rfl ?_); intro w1 k1 b1 s1)
  refine (hlc.out w1 b1).mono ?_
  rintro r w2 ⟨rfl, rfl⟩
  go_wp2_with fail
  have KX : Blk w1.drew w.heap.size 34 (bc x) := k1
  have D : Blk w1.drew g 59 (dc Al L.length cl Aw W.length cw) := D'.below (bl_drew b1)
  have HQ : w1.drew.ownsRow B 71 65 (.slice Aw W.length cw) W.length (W.flatMap wv) := own_below HQ0 (bl_drew b1)
  have OW : Out w w1.drew F := Out.of_below (bl_drew b1) F
  have HL : w1.drew.ownsRow B 34 64 (.slice Al L.length cl) L.length (L.flatMap bv) := own_below HL0 (bl_drew b1)
  have hBx : B ≤ (w1.drew.alloc (.cells (wc ⟨b, x⟩) 71)).heap.size := by
    have h1 := (bl_alloc (bl_refl w1.drew) (.cells (wc ⟨b, x⟩) 71)).size
    have h2 : w.heap.size ≤ w1.drew.heap.size := b1.size
    omega
  have hbx2 : w.heap.size ≤ (w1.drew.alloc (.cells (wc ⟨b, x⟩) 71)).heap.size := Nat.le_trans b1.size (bl_alloc (bl_refl w1.drew) (.cells (wc ⟨b, x⟩) 71)).size
  clear k1 D' HQ0 HL0 b1 s1 hlc hFl hL hlF
  have fa : w1.cell? ⟨g, 1, none⟩ = some (.slice Aw W.length cw) := D.cellv 1 _ rfl
  have fb : w1.drew.cell? ⟨g, 1, none⟩ = some (.slice Aw W.length cw) := D.cellv 1 _ rfl
  have fc : (w1.drew.alloc (.cells (wc ⟨b, x⟩) 71)).cell? ⟨g, 1, none⟩ = some (.slice Aw W.length cw) := (D.alloc _).cellv 1 _ rfl
  have fd : (w1.alloc (.cells (wc ⟨b, x⟩) 71)).cell? ⟨g, 1, none⟩ = some (.slice Aw W.length cw) := (D.alloc _).cellv 1 _ rfl

  refine wp_region_held_drew (S := (fun w' => Blk w' w.heap.size 34 (bc x))) (by kernel_rfl) (KX) (fun hHeld => ?_)
  refine wpAnyH_take (i := 0) (oi := { dst := some 15, op := Op.move (Operand.tmp 0), type := 23, pos := "disk.go:59", after := #[], guard := none }) (v := ?_) rfl (by kernel_rfl) (by kernel_rfl) (by kernel_rfl) (fun _ _ _ h => h) ?_ hHeld ?_
  rotate_left
  · refine Or.inl ⟨by rfl, fun w hSw => ?_⟩; skip; go_simp; (try with_reducible rfl)
  try simp only [Act.put, List.setIfInBounds_toArray, List.set_cons_zero, List.set_cons_succ]
  refine wpAnyH_take (i := 1) (oi := { dst := some 16, op := Op.move (Operand.tmp 0), type := 23, pos := "disk.go:59", after := #[], guard := none }) (v := ?_) rfl (by kernel_rfl) (by kernel_rfl) (by kernel_rfl) (fun _ _ _ h => h) ?_ hHeld ?_
  rotate_left
  · refine Or.inl ⟨by rfl, fun w hSw => ?_⟩; skip; go_simp; (try with_reducible rfl)
  try simp only [Act.put, List.setIfInBounds_toArray, List.set_cons_zero, List.set_cons_succ]
  refine wpAnyH_take (i := 2) (oi := { dst := some 17, op := Op.nilCheck (Operand.tmp 16), type := 0, pos := "disk.go:59", after := #[{ on := 1, ground := Ground.data }], guard := none }) (v := ?_) rfl (by kernel_rfl) (by kernel_rfl) (by kernel_rfl) (fun _ _ _ h => h) ?_ hHeld ?_
  rotate_left
  · refine Or.inl ⟨by rfl, fun w hSw => ?_⟩; skip; go_simp; (try with_reducible rfl)
  try simp only [Act.put, List.setIfInBounds_toArray, List.set_cons_zero, List.set_cons_succ]
  refine wpAnyH_take (i := 3) (oi := { dst := some 18, op := Op.fieldAddr 59 (Operand.tmp 17) 1, type := 0, pos := "disk.go:59", after := #[{ on := 2, ground := Ground.data }], guard := none }) (v := ?_) rfl (by kernel_rfl) (by kernel_rfl) (by kernel_rfl) (fun _ _ _ h => h) ?_ hHeld ?_
  rotate_left
  · refine Or.inl ⟨by rfl, fun w hSw => ?_⟩; skip; go_simp; (try with_reducible rfl)
  try simp only [Act.put, List.setIfInBounds_toArray, List.set_cons_zero, List.set_cons_succ]
  refine wpAnyH_take (i := 5) (oi := { dst := some 20, op := Op.move (Operand.tmp 1), type := 3, pos := "disk.go:59", after := #[], guard := none }) (v := ?_) rfl (by kernel_rfl) (by kernel_rfl) (by kernel_rfl) (fun _ _ _ h => h) ?_ hHeld ?_
  rotate_left
  · refine Or.inl ⟨by rfl, fun w hSw => ?_⟩; skip; go_simp; (try with_reducible rfl)
  try simp only [Act.put, List.setIfInBounds_toArray, List.set_cons_zero, List.set_cons_succ]
  refine wpAnyH_take (i := 6) (oi := { dst := some 21, op := Op.load 34 (Operand.tmp 5), type := 34, pos := "disk.go:59", after := #[], guard := none }) (v := ?_) rfl (by kernel_rfl) (by kernel_rfl) (by kernel_rfl) (fun _ _ _ h => h) ?_ hHeld ?_
  rotate_left
  · refine yIf_load 34 (.tmp 5) w.heap.size 34 (bc x) _ ?_ Try.underlying34 rfl (sz_bc x) ?_ ?_ ?_
    · exact fun _ h => h
    · rfl
    · rfl
    · rfl
  try simp only [Act.put, List.setIfInBounds_toArray, List.set_cons_zero, List.set_cons_succ]
  refine wpAnyH_take (i := 7) (oi := { dst := some 22, op := Op.build 71 #[(0, Operand.tmp 20), (1, Operand.tmp 21)], type := 71, pos := "disk.go:59", after := #[{ on := 5, ground := Ground.data }, { on := 6, ground := Ground.data }], guard := none }) (v := ?_) rfl (by kernel_rfl) (by kernel_rfl) (by kernel_rfl) (fun _ _ _ h => h) ?_ hHeld ?_
  rotate_left
  · refine yIf_build2 71 0 1 (.tmp 20) (.tmp 21) (.int .i64 b) (.agg (bc x)) (wc ⟨b, x⟩) (built_w b x) ?_ ?_ ?_ ?_
    · rfl
    · rfl
    · rfl
    · rfl
  try simp only [Act.put, List.setIfInBounds_toArray, List.set_cons_zero, List.set_cons_succ]
  refine wpAnyH_ready (rs := [4, 8]) (by kernel_rfl) (by simp) ?_
  refine AllReadyH.cons (o := { dst := some 19, op := Op.load 57 (Operand.tmp 18), type := 57, pos := "disk.go:59", after := #[{ on := 3, ground := Ground.data }], guard := none }) rfl (fun Kc hKc => ?_) ?_
  · go_simp
    refine hKc.out _ _ (hHeld) (fun hHeld => ?_)
    clear hKc Kc
    try simp only [Act.put, List.setIfInBounds_toArray, List.set_cons_zero, List.set_cons_succ]
    refine wpAnyH_ready (rs := [8]) (by kernel_rfl) (by simp) ?_
    refine AllReadyH.cons (o := { dst := some 23, op := Op.buildSlice 57 1 #[(0, Operand.tmp 22)], type := 57, pos := "disk.go:59", after := #[{ on := 7, ground := Ground.data }], guard := none }) rfl (fun Kc hKc => ?_) AllReadyH.nil
    refine step_of (by rfl) (wp_bs1 57 71 (.tmp 22) (by rfl) Try.underlying57 (.agg (wc ⟨0, zb⟩)) 65 72 info_w rfl (by decide) (by decide) (wc ⟨b, x⟩) (by rfl) (wc_size _) ?_)
    have HA := row_news (heap_alloc_new w1.drew (.cells (wc ⟨b, x⟩) 71))
    have D := D.alloc (.cells (wc ⟨b, x⟩) 71)
    have HQ := HQ.alloc (.cells (wc ⟨b, x⟩) 71)
    have HL := HL.alloc (.cells (wc ⟨b, x⟩) 71)
    have OW := Out.trans OW (Out.of_below (bl_alloc (bl_refl w1.drew) (.cells (wc ⟨b, x⟩) 71)) F) (fun i h => .inl h)
    refine hKc.out _ _ (Blk.alloc hHeld _) (fun hHeld => ?_)
    clear hKc Kc
    try simp only [Act.put, List.setIfInBounds_toArray, List.set_cons_zero, List.set_cons_succ]
    refine wpAnyH_ready (rs := [9]) (by kernel_rfl) (by simp) ?_
    refine AllReadyH.cons (o := { dst := some 24, op := Op.call { callee := Callee.builtin Builtin.append, args := #[Operand.tmp 19, Operand.tmp 23], argTypes := #[57, 57] }, type := 57, pos := "disk.go:59", after := #[{ on := 4, ground := Ground.data }, { on := 8, ground := Ground.data }], guard := none }) rfl (fun Kc hKc => ?_) AllReadyH.nil
    refine step_of (by rfl) (wp_app_w (f := wv) B 65 72 wv_len wv_one (.agg (wc ⟨0, zb⟩)) (.tmp 19) (.tmp 23) 57 71 (by rfl) Try.underlying57 info_w rfl (by decide) (by decide) (.slice Aw W.length cw) W.length W (by rfl) HQ ⟨b, x⟩ ⟨w1.heap.size, 0, none⟩ 1 (by rfl) HA (by omega) hBx ?_)
    intro A1 c1 wA HO gA sA atA
    have D := D.grown gA hwg
    have HL := own_out HL (Out.of_grown gA (S := fun k => (Value.slice Aw W.length cw).ownBlock = some k) (fun k e => e)) hlA.out
    have OW := OW.trans (Out.of_grown gA hwF) (fun i h => .inl h)
    refine hKc.out _ _ (Blk.grown hHeld gA hwx) (fun hHeld => ?_)
    clear hKc Kc
    try simp only [Act.put, List.setIfInBounds_toArray, List.set_cons_zero, List.set_cons_succ]
    refine wpAnyH_take (i := 10) (oi := { dst := some 25, op := Op.nilCheck (Operand.tmp 15), type := 0, pos := "disk.go:59", after := #[{ on := 0, ground := Ground.data }, { on := 0, ground := Ground.phase }, { on := 1, ground := Ground.phase }, { on := 2, ground := Ground.phase }, { on := 3, ground := Ground.phase }, { on := 4, ground := Ground.phase }, { on := 5, ground := Ground.phase }, { on := 6, ground := Ground.phase }, { on := 7, ground := Ground.phase }, { on := 8, ground := Ground.phase }, { on := 9, ground := Ground.phase }], guard := none }) (v := ?_) rfl (by kernel_rfl) (by kernel_rfl) (by kernel_rfl) (fun _ _ _ h => h) ?_ hHeld ?_
    rotate_left
    · refine Or.inl ⟨by rfl, fun w hSw => ?_⟩; skip; go_simp; (try with_reducible rfl)
    try simp only [Act.put, List.setIfInBounds_toArray, List.set_cons_zero, List.set_cons_succ]
    refine wpAnyH_take (i := 11) (oi := { dst := some 26, op := Op.fieldAddr 59 (Operand.tmp 25) 1, type := 0, pos := "disk.go:59", after := #[{ on := 10, ground := Ground.data }, { on := 0, ground := Ground.phase }, { on := 1, ground := Ground.phase }, { on := 2, ground := Ground.phase }, { on := 3, ground := Ground.phase }, { on := 4, ground := Ground.phase }, { on := 5, ground := Ground.phase }, { on := 6, ground := Ground.phase }, { on := 7, ground := Ground.phase }, { on := 8, ground := Ground.phase }, { on := 9, ground := Ground.phase }], guard := none }) (v := ?_) rfl (by kernel_rfl) (by kernel_rfl) (by kernel_rfl) (fun _ _ _ h => h) ?_ hHeld ?_
    rotate_left
    · refine Or.inl ⟨by rfl, fun w hSw => ?_⟩; skip; go_simp; (try with_reducible rfl)
    try simp only [Act.put, List.setIfInBounds_toArray, List.set_cons_zero, List.set_cons_succ]
    refine wpAnyH_ready (rs := [12]) (by kernel_rfl) (by simp) ?_
    refine AllReadyH.cons (o := { dst := none, op := Op.store 57 (Operand.tmp 26) (Operand.tmp 24), type := 0, pos := "disk.go:59", after := #[{ on := 11, ground := Ground.data }, { on := 9, ground := Ground.data }, { on := 9, ground := Ground.chain }, { on := 0, ground := Ground.phase }, { on := 1, ground := Ground.phase }, { on := 2, ground := Ground.phase }, { on := 3, ground := Ground.phase }, { on := 4, ground := Ground.phase }, { on := 5, ground := Ground.phase }, { on := 6, ground := Ground.phase }, { on := 7, ground := Ground.phase }, { on := 8, ground := Ground.phase }, { on := 9, ground := Ground.phase }], guard := none }) rfl (fun Kc hKc => ?_) AllReadyH.nil
    refine step_of (by rfl) (wp_set 57 (.tmp 26) (.tmp 24) (by rfl) g 1 (by rfl) (.slice A1 (W.length + 1) c1) (by rfl) rfl 59 (dc Al L.length cl Aw W.length cw) D (by kernel_rfl) (by simp [dc]) ?_)
    intro wB kB gB sB
    refine hKc.out _ _ (Blk.grown hHeld gB hxg) (fun hHeld => ?_)
    clear hKc Kc
    try simp only [Act.put]
    refine wpAnyH_done (by kernel_rfl) ?_ _
    go_wp2_with fail
    go_ret
    exact ⟨rfl, hfin.out (w1.drew.alloc (.cells (wc ⟨b, x⟩) 71)) wA wB A1 c1 HO HL D kB gB atA OW hbx2⟩
  refine AllReadyH.cons (o := { dst := some 23, op := Op.buildSlice 57 1 #[(0, Operand.tmp 22)], type := 57, pos := "disk.go:59", after := #[{ on := 7, ground := Ground.data }], guard := none }) rfl (fun Kc hKc => ?_) ?_
  · refine step_of (by rfl) (wp_bs1 57 71 (.tmp 22) (by rfl) Try.underlying57 (.agg (wc ⟨0, zb⟩)) 65 72 info_w rfl (by decide) (by decide) (wc ⟨b, x⟩) (by rfl) (wc_size _) ?_)
    have HA := row_news (heap_alloc_new w1.drew (.cells (wc ⟨b, x⟩) 71))
    have D := D.alloc (.cells (wc ⟨b, x⟩) 71)
    have HQ := HQ.alloc (.cells (wc ⟨b, x⟩) 71)
    have HL := HL.alloc (.cells (wc ⟨b, x⟩) 71)
    have OW := Out.trans OW (Out.of_below (bl_alloc (bl_refl w1.drew) (.cells (wc ⟨b, x⟩) 71)) F) (fun i h => .inl h)
    refine hKc.out _ _ (Blk.alloc hHeld _) (fun hHeld => ?_)
    clear hKc Kc
    try simp only [Act.put, List.setIfInBounds_toArray, List.set_cons_zero, List.set_cons_succ]
    refine wpAnyH_ready (rs := [4]) (by kernel_rfl) (by simp) ?_
    refine AllReadyH.cons (o := { dst := some 19, op := Op.load 57 (Operand.tmp 18), type := 57, pos := "disk.go:59", after := #[{ on := 3, ground := Ground.data }], guard := none }) rfl (fun Kc hKc => ?_) AllReadyH.nil
    go_simp
    refine hKc.out _ _ (hHeld) (fun hHeld => ?_)
    clear hKc Kc
    try simp only [Act.put, List.setIfInBounds_toArray, List.set_cons_zero, List.set_cons_succ]
    refine wpAnyH_ready (rs := [9]) (by kernel_rfl) (by simp) ?_
    refine AllReadyH.cons (o := { dst := some 24, op := Op.call { callee := Callee.builtin Builtin.append, args := #[Operand.tmp 19, Operand.tmp 23], argTypes := #[57, 57] }, type := 57, pos := "disk.go:59", after := #[{ on := 4, ground := Ground.data }, { on := 8, ground := Ground.data }], guard := none }) rfl (fun Kc hKc => ?_) AllReadyH.nil
    refine step_of (by rfl) (wp_app_w (f := wv) B 65 72 wv_len wv_one (.agg (wc ⟨0, zb⟩)) (.tmp 19) (.tmp 23) 57 71 (by rfl) Try.underlying57 info_w rfl (by decide) (by decide) (.slice Aw W.length cw) W.length W (by rfl) HQ ⟨b, x⟩ ⟨w1.heap.size, 0, none⟩ 1 (by rfl) HA (by omega) hBx ?_)
    intro A1 c1 wA HO gA sA atA
    have D := D.grown gA hwg
    have HL := own_out HL (Out.of_grown gA (S := fun k => (Value.slice Aw W.length cw).ownBlock = some k) (fun k e => e)) hlA.out
    have OW := OW.trans (Out.of_grown gA hwF) (fun i h => .inl h)
    refine hKc.out _ _ (Blk.grown hHeld gA hwx) (fun hHeld => ?_)
    clear hKc Kc
    try simp only [Act.put, List.setIfInBounds_toArray, List.set_cons_zero, List.set_cons_succ]
    refine wpAnyH_take (i := 10) (oi := { dst := some 25, op := Op.nilCheck (Operand.tmp 15), type := 0, pos := "disk.go:59", after := #[{ on := 0, ground := Ground.data }, { on := 0, ground := Ground.phase }, { on := 1, ground := Ground.phase }, { on := 2, ground := Ground.phase }, { on := 3, ground := Ground.phase }, { on := 4, ground := Ground.phase }, { on := 5, ground := Ground.phase }, { on := 6, ground := Ground.phase }, { on := 7, ground := Ground.phase }, { on := 8, ground := Ground.phase }, { on := 9, ground := Ground.phase }], guard := none }) (v := ?_) rfl (by kernel_rfl) (by kernel_rfl) (by kernel_rfl) (fun _ _ _ h => h) ?_ hHeld ?_
    rotate_left
    · refine Or.inl ⟨by rfl, fun w hSw => ?_⟩; skip; go_simp; (try with_reducible rfl)
    try simp only [Act.put, List.setIfInBounds_toArray, List.set_cons_zero, List.set_cons_succ]
    refine wpAnyH_take (i := 11) (oi := { dst := some 26, op := Op.fieldAddr 59 (Operand.tmp 25) 1, type := 0, pos := "disk.go:59", after := #[{ on := 10, ground := Ground.data }, { on := 0, ground := Ground.phase }, { on := 1, ground := Ground.phase }, { on := 2, ground := Ground.phase }, { on := 3, ground := Ground.phase }, { on := 4, ground := Ground.phase }, { on := 5, ground := Ground.phase }, { on := 6, ground := Ground.phase }, { on := 7, ground := Ground.phase }, { on := 8, ground := Ground.phase }, { on := 9, ground := Ground.phase }], guard := none }) (v := ?_) rfl (by kernel_rfl) (by kernel_rfl) (by kernel_rfl) (fun _ _ _ h => h) ?_ hHeld ?_
    rotate_left
    · refine Or.inl ⟨by rfl, fun w hSw => ?_⟩; skip; go_simp; (try with_reducible rfl)
    try simp only [Act.put, List.setIfInBounds_toArray, List.set_cons_zero, List.set_cons_succ]
    refine wpAnyH_ready (rs := [12]) (by kernel_rfl) (by simp) ?_
    refine AllReadyH.cons (o := { dst := none, op := Op.store 57 (Operand.tmp 26) (Operand.tmp 24), type := 0, pos := "disk.go:59", after := #[{ on := 11, ground := Ground.data }, { on := 9, ground := Ground.data }, { on := 9, ground := Ground.chain }, { on := 0, ground := Ground.phase }, { on := 1, ground := Ground.phase }, { on := 2, ground := Ground.phase }, { on := 3, ground := Ground.phase }, { on := 4, ground := Ground.phase }, { on := 5, ground := Ground.phase }, { on := 6, ground := Ground.phase }, { on := 7, ground := Ground.phase }, { on := 8, ground := Ground.phase }, { on := 9, ground := Ground.phase }], guard := none }) rfl (fun Kc hKc => ?_) AllReadyH.nil
    refine step_of (by rfl) (wp_set 57 (.tmp 26) (.tmp 24) (by rfl) g 1 (by rfl) (.slice A1 (W.length + 1) c1) (by rfl) rfl 59 (dc Al L.length cl Aw W.length cw) D (by kernel_rfl) (by simp [dc]) ?_)
    intro wB kB gB sB
    refine hKc.out _ _ (Blk.grown hHeld gB hxg) (fun hHeld => ?_)
    clear hKc Kc
    try simp only [Act.put]
    refine wpAnyH_done (by kernel_rfl) ?_ _
    go_wp2_with fail
    go_ret
    exact ⟨rfl, hfin.out (w1.drew.alloc (.cells (wc ⟨b, x⟩) 71)) wA wB A1 c1 HO HL D kB gB atA OW hbx2⟩
  exact AllReadyH.nil

end Go.Proofs.Ythihpejhhimkaaa.Disk2
