/- Contracts of package cpu in every way: what goes to the memory. -/
import Derived.Test.YtdokmnpkihmkpaaCpuB
import Derived.Test.YtdokmnpkihmkpaaWordB
set_option linter.unusedVariables false
namespace Go.Proofs.Ytdokmnpkihmkpaa.CpuC
open Go.RowKit Go.Proofs.Ytdokmnpkihmkpaa.Base Go.Proofs.Ytdokmnpkihmkpaa.Row Go.Proofs.Ytdokmnpkihmkpaa.App Go.Proofs.Ytdokmnpkihmkpaa.Multi Go.Proofs.Ytdokmnpkihmkpaa.StEq Go.Proofs.Ytdokmnpkihmkpaa.Held Go.Proofs.Ytdokmnpkihmkpaa.Out Go.Proofs.Ytdokmnpkihmkpaa.HeldW Go.Proofs.Ytdokmnpkihmkpaa.HeldX Go.Proofs.Ytdokmnpkihmkpaa.Once Go.Proofs.Ytdokmnpkihmkpaa.Isa Go.Proofs.Ytdokmnpkihmkpaa.Isa2 Go.Proofs.Ytdokmnpkihmkpaa.Isa3 Go.Proofs.Ytdokmnpkihmkpaa.TlbMath Go.Proofs.Ytdokmnpkihmkpaa.Tlb Go.Proofs.Ytdokmnpkihmkpaa.Tlb3 Go.Proofs.Ytdokmnpkihmkpaa.Frames Go.Proofs.Ytdokmnpkihmkpaa.Frames2 Go.Proofs.Ytdokmnpkihmkpaa.Frames4 Go.Proofs.Ytdokmnpkihmkpaa.Cpu Go.Proofs.Ytdokmnpkihmkpaa.Cpu2 Go.Proofs.Ytdokmnpkihmkpaa.Cpu3 Go.Proofs.Ytdokmnpkihmkpaa.CpuA Go.Proofs.Ytdokmnpkihmkpaa.CpuB

/-- What may have been done to the memory. -/
def OkX (n : Nat) (sp : Int) (l : List En) (X X2 : List Int) (tc : Int) : Prop := X2 = X ∨ (tc = 0 ∧ ∃ e, e ∈ l ∧ e.s = sp ∧ e.w = true ∧ ∃ a v, X2 = putX n X e.f a v)
/-- The instruction and the machine behind it. -/
def St (g x gm gp gt n : Nat) (d : Dn) (X : List Int) (l : List En) (w w' : World) : Prop := ∃ d2 X2 m2, Blk w' g 140 (dg x d2) ∧ d2.R.length = 16 ∧ CS w' x gm gp gt n X2 l m2 ∧ Out w w' (fun i => i = g ∨ i = gt ∨ i = gp) ∧ OkX n d.sp l X X2 d2.tc
theorem get_mem {l : List En} {s p : Int} (h : getB l s p = true) : getE l s p ∈ l ∧ (getE l s p).s = s := by
  have hlt : at_ l s p < l.length := of_decide_eq_true h
  have hx : l[at_ l s p]? = some (getE l s p) := by
    unfold getE
    rw [List.getElem?_eq_getElem hlt]
    rfl
  refine ⟨List.mem_of_getElem? hx, ?_⟩
  have := at_yes _ hx
  unfold TlbMath.pg at this
  simp at this
  exact this.1
theorem fD_ok {d : Dn} {p : Int} {b : Bool} {e : En} {wr : Bool} (h : fOk b e wr = true) : fD d p b e wr = d := by
  unfold fOk at h
  unfold fD
  cases b with
  | false => cases h
  | true =>
    rw [if_neg (show ¬ true = false by simp)]
    by_cases hh : wr = true ∧ e.w = false
    · rw [hh.1, hh.2] at h; cases h
    · rw [if_neg hh]
theorem fD_R {d : Dn} {p : Int} {b : Bool} {e : En} {wr : Bool} : (fD d p b e wr).R = d.R := by
  unfold fD
  split
  · rfl
  · split <;> rfl
theorem fOk_b {b : Bool} {e : En} {wr : Bool} (h : fOk b e wr = true) : b = true ∧ (wr = true → e.w = true) := by
  unfold fOk at h
  cases b with
  | false => cases h
  | true =>
    refine ⟨rfl, fun hw => ?_⟩
    subst hw
    simpa using h
theorem ld_rng {n : Nat} {X : List Int} {b : Bool} {e : En} {wr : Bool} {q : Int} (hX : ∀ i : Nat, 0 ≤ X[i]?.getD 0 ∧ X[i]?.getD 0 < 4294967296) : 0 ≤ ldV n X b e wr q ∧ ldV n X b e wr q < 4294967296 := by
  unfold ldV getX
  split
  · split
    · exact hX _
    · omega
  · omega
theorem u32_rng (y : Int) : 0 ≤ IntKind.u32.wrap y ∧ IntKind.u32.wrap y < 4294967296 := by
  simp only [IntKind.wrap, IntKind.signed, IntKind.bits]; simp; omega
theorem u8_rng (y : Int) : 0 ≤ IntKind.u8.wrap y ∧ IntKind.u8.wrap y < 256 := by
  simp only [IntKind.wrap, IntKind.signed, IntKind.bits]; simp; omega
set_option maxRecDepth 100000 in
set_option maxHeartbeats 4000000 in
theorem mem_14 (g x gm gp gt n ra rb : Nat) (d : Dn) (X : List Int) (l : List En) (m im : Int) (w : World) (HD : Blk w g 140 (dg x d)) (C : CS w x gm gp gt n X l m) (hl : l.length ≤ 8) (hR : d.R.length = 16) (hX : ∀ i : Nat, 0 ≤ X[i]?.getD 0 ∧ X[i]?.getD 0 < 4294967296) (ha : ra < 16) (hb : rb < 16) (ht : d.tc = 0) :
    Calls Try.prog 79 #[.pointer (some ⟨g, 0, none⟩), .agg (ins 14 ra rb im)] w fun r w' => r = .returned (.tuple #[]) ∧ St g x gm gp gt n d X l w w' := by
  obtain ⟨rv, hrv⟩ : ∃ rv, d.R[rb]?.getD 0 = rv := ⟨_, rfl⟩
  obtain ⟨rav, hrav⟩ : ∃ rav, d.R[ra]?.getD 0 = rav := ⟨_, rfl⟩
  obtain ⟨i2, hw1⟩ : ∃ i2, IntKind.u32.wrap im = i2 := ⟨_, rfl⟩
  obtain ⟨a, hw2⟩ : ∃ a, IntKind.u32.wrap (rv + i2) = a := ⟨_, rfl⟩
  obtain ⟨h0, h1⟩ : 0 ≤ a ∧ a < 4294967296 := by rw [← hw2]; exact u32_rng _
  obtain ⟨b, hgb⟩ : ∃ b, getB l d.sp (a / 64) = b := ⟨_, rfl⟩
  obtain ⟨e, hge⟩ : ∃ e, getE l d.sp (a / 64) = e := ⟨_, rfl⟩
  have hmem : Hid (b = true → e ∈ l ∧ e.s = d.sp) := Lib.hid (fun h => by rw [← hge]; exact get_mem (by rw [hgb]; exact h))
  have hrb := dg_reg x d hR rb hb
  rw [hrv] at hrb
  replace hrb := Lib.hid hrb
  have hra := dg_reg x d hR ra ha
  rw [hrav] at hra
  replace hra := Lib.hid hra
  have hsz := dg_size x d hR
  have hb' : (rb : Int) < 16 := by omega
  have ha' : (ra : Int) < 16 := by omega
  have hLd := fun w' HD' C' => load_c g x gm gp gt n d X l m a false b e w' HD' hR C' hl h0 h1 hgb hge
  obtain ⟨ok, hok⟩ : ∃ ok, fOk b e false = ok := ⟨_, rfl⟩
  obtain ⟨v, hv⟩ : ∃ v, ldV n X b e false (a % 64 / 4) = v := ⟨_, rfl⟩
  obtain ⟨hv0, hv1⟩ : 0 ≤ v ∧ v < 4294967296 := by rw [← hv]; exact ld_rng hX
  obtain ⟨m2, hm2⟩ : ∃ m2, getM l d.sp (a / 64) m = m2 := ⟨_, rfl⟩
  rw [hok, hv, hm2] at hLd
  replace hLd := Lib.hid hLd
  have hOk : Hid (ok = true → fD d (a / 64) b e false = d) := Lib.hid (fun h => fD_ok (by rw [hok]; exact h))
  have hOk2 : Hid (ok = true → b = true ∧ e.w = e.w) := Lib.hid (fun h => by have := fOk_b (wr := false) (by rw [hok]; exact h); exact ⟨this.1, rfl⟩)
  have hD2 : (fD d (a / 64) b e false).R.length = 16 := by rw [fD_R]; exact hR
  have hset := Lib.hid (dg_set x d hR ra ha v)
  have hsR : Hid ((dset d ra v).R.length = 16) := Lib.hid (by show (d.R.set ra v).length = 16; rw [List.length_set]; exact hR)
  clear hv hm2 hok
  generalize fD d (a / 64) b e false = d2 at *
  replace hw1 := Lib.hid hw1
  replace hw2 := Lib.hid hw2
  have CH := Lib.hid C
  obtain ⟨ngx, ngm, ngp, ngt⟩ := C.ne_ HD
  have zg := HD.lt
  have zgt := C.lt.2.2.2
  have zgp := C.lt.2.2.1
  clear C hgb hge hX
  replace hD2 := Lib.hid hD2
  go_enter Try.func79, Try.ntmps79
  go_upto_region 1 with ((with_reducible refine wl_box rfl 94 _ rfl (ins 14 ra rb im) rfl ?_); intro w1 k1 b1 s1)
  have HD := HD.below b1
  have C1 := CH.out.below b1
  have O := Out.of_below b1 (fun i => i = g ∨ i = gt ∨ i = gp)
  refine wp_region_held_drew (S := (fun w' => Blk w' w.heap.size 94 (ins 14 ra rb im) ∧ Blk w' g 140 (dg x d))) (by kernel_rfl) (⟨k1.drew, HD.drew⟩) (fun hHeld => ?_)
  refine wpAnyH_take (i := 0) (oi := { dst := some 9, op := Op.move (Operand.tmp 0), type := 138, pos := "cpu.go:101", after := #[], guard := none }) (v := ?_) rfl (by kernel_rfl) (by kernel_rfl) (by kernel_rfl) (fun _ _ _ h => h) ?_ hHeld ?_
  rotate_left
  · refine Or.inl ⟨by rfl, fun w hSw => ?_⟩; skip; go_simp; (try with_reducible rfl)
  try simp only [Act.put, List.setIfInBounds_toArray, List.set_cons_zero, List.set_cons_succ]
  refine wpAnyH_take (i := 1) (oi := { dst := some 10, op := Op.fieldAddr 94 (Operand.tmp 3) 2, type := 0, pos := "cpu.go:101", after := #[], guard := none }) (v := ?_) rfl (by kernel_rfl) (by kernel_rfl) (by kernel_rfl) (fun _ _ _ h => h) ?_ hHeld ?_
  rotate_left
  · refine Or.inl ⟨by rfl, fun w hSw => ?_⟩; skip; go_simp; (try with_reducible rfl)
  try simp only [Act.put, List.setIfInBounds_toArray, List.set_cons_zero, List.set_cons_succ]
  refine wpAnyH_take (i := 2) (oi := { dst := some 11, op := Op.load 3 (Operand.tmp 10), type := 3, pos := "cpu.go:101", after := #[{ on := 1, ground := Ground.data }], guard := none }) (v := ?_) rfl (by kernel_rfl) (by kernel_rfl) (by kernel_rfl) (fun _ _ _ h => h) ?_ hHeld ?_
  rotate_left
  · refine Or.inl ⟨by rfl, fun w' hSw => ?_⟩; have c0 : w'.cell? ⟨w.heap.size, 2, none⟩ = some (.int .i64 rb) := hSw.1.cellv 2 _ rfl; go_simp; (try with_reducible rfl)
  try simp only [Act.put, List.setIfInBounds_toArray, List.set_cons_zero, List.set_cons_succ]
  refine wpAnyH_take (i := 3) (oi := { dst := some 12, op := Op.nilCheck (Operand.tmp 9), type := 0, pos := "cpu.go:101", after := #[{ on := 0, ground := Ground.data }], guard := none }) (v := ?_) rfl (by kernel_rfl) (by kernel_rfl) (by kernel_rfl) (fun _ _ _ h => h) ?_ hHeld ?_
  rotate_left
  · refine Or.inl ⟨by rfl, fun w hSw => ?_⟩; skip; go_simp; (try with_reducible rfl)
  try simp only [Act.put, List.setIfInBounds_toArray, List.set_cons_zero, List.set_cons_succ]
  refine wpAnyH_take (i := 4) (oi := { dst := some 13, op := Op.fieldAddr 140 (Operand.tmp 12) 2, type := 0, pos := "cpu.go:101", after := #[{ on := 3, ground := Ground.data }], guard := none }) (v := ?_) rfl (by kernel_rfl) (by kernel_rfl) (by kernel_rfl) (fun _ _ _ h => h) ?_ hHeld ?_
  rotate_left
  · refine Or.inl ⟨by rfl, fun w hSw => ?_⟩; skip; go_simp; (try with_reducible rfl)
  try simp only [Act.put, List.setIfInBounds_toArray, List.set_cons_zero, List.set_cons_succ]
  refine wpAnyH_take (i := 5) (oi := { dst := some 14, op := Op.fieldAddr 109 (Operand.tmp 13) 0, type := 0, pos := "cpu.go:101", after := #[{ on := 4, ground := Ground.data }], guard := none }) (v := ?_) rfl (by kernel_rfl) (by kernel_rfl) (by kernel_rfl) (fun _ _ _ h => h) ?_ hHeld ?_
  rotate_left
  · refine Or.inl ⟨by rfl, fun w hSw => ?_⟩; skip; go_simp; (try with_reducible rfl)
  try simp only [Act.put, List.setIfInBounds_toArray, List.set_cons_zero, List.set_cons_succ]
  refine wpAnyH_take (i := 6) (oi := { dst := some 15, op := Op.indexAddr 39 (Operand.tmp 14) (Operand.tmp 11), type := 0, pos := "cpu.go:101", after := #[{ on := 5, ground := Ground.data }, { on := 2, ground := Ground.data }], guard := none }) (v := ?_) rfl (by kernel_rfl) (by kernel_rfl) (by kernel_rfl) (fun _ _ _ h => h) ?_ hHeld ?_
  rotate_left
  · refine Or.inl ⟨by rfl, fun w hSw => ?_⟩; skip; go_simp; (try with_reducible rfl)
  try simp only [Act.put, List.setIfInBounds_toArray, List.set_cons_zero, List.set_cons_succ]
  refine wpAnyH_take (i := 7) (oi := { dst := some 16, op := Op.load 28 (Operand.tmp 15), type := 28, pos := "cpu.go:101", after := #[{ on := 6, ground := Ground.data }], guard := none }) (v := ?_) rfl (by kernel_rfl) (by kernel_rfl) (by kernel_rfl) (fun _ _ _ h => h) ?_ hHeld ?_
  rotate_left
  · refine Or.inl ⟨by rfl, fun w' hSw => ?_⟩; have c0 : w'.cell? ⟨g, 2 + rb, none⟩ = some (.int .u32 rv) := hSw.2.cellv _ _ hrb.out; go_simp; (try with_reducible rfl)
  try simp only [Act.put, List.setIfInBounds_toArray, List.set_cons_zero, List.set_cons_succ]
  refine wpAnyH_take (i := 8) (oi := { dst := some 17, op := Op.fieldAddr 94 (Operand.tmp 3) 3, type := 0, pos := "cpu.go:101", after := #[], guard := none }) (v := ?_) rfl (by kernel_rfl) (by kernel_rfl) (by kernel_rfl) (fun _ _ _ h => h) ?_ hHeld ?_
  rotate_left
  · refine Or.inl ⟨by rfl, fun w hSw => ?_⟩; skip; go_simp; (try with_reducible rfl)
  try simp only [Act.put, List.setIfInBounds_toArray, List.set_cons_zero, List.set_cons_succ]
  refine wpAnyH_take (i := 9) (oi := { dst := some 18, op := Op.load 3 (Operand.tmp 17), type := 3, pos := "cpu.go:101", after := #[{ on := 8, ground := Ground.data }], guard := none }) (v := ?_) rfl (by kernel_rfl) (by kernel_rfl) (by kernel_rfl) (fun _ _ _ h => h) ?_ hHeld ?_
  rotate_left
  · refine Or.inl ⟨by rfl, fun w' hSw => ?_⟩; have c0 : w'.cell? ⟨w.heap.size, 3, none⟩ = some (.int .i64 im) := hSw.1.cellv 3 _ rfl; go_simp; (try with_reducible rfl)
  try simp only [Act.put, List.setIfInBounds_toArray, List.set_cons_zero, List.set_cons_succ]
  refine wpAnyH_take (i := 10) (oi := { dst := some 19, op := Op.convert 3 28 (Operand.tmp 18), type := 28, pos := "cpu.go:101", after := #[{ on := 9, ground := Ground.data }], guard := none }) (v := ?_) rfl (by kernel_rfl) (by kernel_rfl) (by kernel_rfl) (fun _ _ _ h => h) ?_ hHeld ?_
  rotate_left
  · refine Or.inl ⟨by rfl, fun w hSw => ?_⟩; have c0 := hw1.out; go_simp; (try with_reducible rfl)
  try simp only [Act.put, List.setIfInBounds_toArray, List.set_cons_zero, List.set_cons_succ]
  refine wpAnyH_take (i := 11) (oi := { dst := some 20, op := Op.binOp BinOp.add 28 (Operand.tmp 16) (Operand.tmp 19) 28, type := 28, pos := "cpu.go:101", after := #[{ on := 7, ground := Ground.data }, { on := 10, ground := Ground.data }], guard := none }) (v := ?_) rfl (by kernel_rfl) (by kernel_rfl) (by kernel_rfl) (fun _ _ _ h => h) ?_ hHeld ?_
  rotate_left
  · refine Or.inl ⟨by rfl, fun w hSw => ?_⟩; have c0 := hw2.out; go_simp; (try with_reducible rfl)
  try simp only [Act.put, List.setIfInBounds_toArray, List.set_cons_zero, List.set_cons_succ]
  refine wpAnyH_take (i := 12) (oi := { dst := some 4, op := Op.assign (Operand.tmp 20), type := 28, pos := "cpu.go:101", after := #[{ on := 11, ground := Ground.data }, { on := 0, ground := Ground.phase }, { on := 1, ground := Ground.phase }, { on := 2, ground := Ground.phase }, { on := 3, ground := Ground.phase }, { on := 4, ground := Ground.phase }, { on := 5, ground := Ground.phase }, { on := 6, ground := Ground.phase }, { on := 7, ground := Ground.phase }, { on := 8, ground := Ground.phase }, { on := 9, ground := Ground.phase }, { on := 10, ground := Ground.phase }, { on := 11, ground := Ground.phase }], guard := none }) (v := ?_) rfl (by kernel_rfl) (by kernel_rfl) (by kernel_rfl) (fun _ _ _ h => h) ?_ hHeld ?_
  rotate_left
  · refine Or.inl ⟨by rfl, fun w hSw => ?_⟩; skip; go_simp; (try with_reducible rfl)
  try simp only [Act.put, List.setIfInBounds_toArray, List.set_cons_zero, List.set_cons_succ]
  refine wpAnyH_done (by kernel_rfl) ?_ _
  have k1 := hHeld.1
  have HD := hHeld.2
  have C1 := C1.below (bl_drew (bl_refl w1))
  have O := O.trans (Out.of_below (bl_drew (bl_refl w1)) (fun i => i = g ∨ i = gt ∨ i = gp)) (fun i h => .inl h)
  have z1 : w.heap.size < w1.drew.heap.size := k1.lt
  clear hHeld hw1 hw2 hrb b1
  generalize w1.drew = w2 at *
  have i0 : w2.cell? ⟨w.heap.size, 0, none⟩ = some (.int .i64 14) := k1.cellv 0 _ rfl
  have C1' := Lib.hid C1
  clear C1 CH
  have hE1 := Lib.hid (fun (h : a % 4 = 0) => even_c g a w2 h h0)
  have hE2 := Lib.hid (fun (h : ¬ a % 4 = 0) => even_no g x d a w2 HD hR h h0)
  rcases Decidable.em (a % 4 = 0) with hal | hal
  rotate_left
  · have hE := Lib.hid (hE2.out hal)
    clear hal hE1 hE2
    go_wp2_with fail
    refine hE.out.mono ?_
    rintro r w3 ⟨rfl, HD3, O3⟩
    have C3 := C1'.out.out O3 ngx.symm ngm.symm ngp.symm ngt.symm
    have O := O.trans O3 (fun i h => .inl (.inl h))
    clear hE i0
    go_wp2_with fail
    exact bodyPost_ret (results_none rfl _ _ _) rfl ⟨rfl, _, X, m, HD3, hR, C3, O, .inl rfl⟩
  have hE := Lib.hid (hE1.out hal)
  clear hE1 hE2
  go_wp2_with fail
  refine hE.out.mono ?_
  rintro r w2' ⟨rfl, rfl⟩
  clear hE
  go_wp2_with fail
  refine (hLd.out w2 HD C1'.out).mono ?_
  rintro r w3 ⟨rfl, HD3, C3, O3⟩
  have k3 := Out.Blk.out k1 O3 (fun h => by rcases h with h | h <;> omega)
  have O := O.trans O3 (fun i h => .inl (by rcases h with h | h; exact .inl h; exact .inr (.inl h)))
  have i0 : w3.cell? ⟨w.heap.size, 0, none⟩ = some (.int .i64 14) := k3.cellv 0 _ rfl
  have C3' := Lib.hid C3
  have z3 := k3.lt
  clear C3 C1' hLd O3 k1 HD
  cases ok with
  | false =>
    go_wp2_with fail
    go_end0
    exact ⟨rfl, d2, X, m2, HD3, hD2.out, C3'.out, O, .inl rfl⟩
  | true =>
    rw [hOk.out rfl] at HD3
    have hb2 := hOk2.out rfl
    go_upto_region 9 with fail
    have HD := HD3.drew
    have C4 := C3'.out.below (bl_drew (bl_refl w3))
    have O := O.trans (Out.of_below (bl_drew (bl_refl w3)) (fun i => i = g ∨ i = gt ∨ i = gp)) (fun i h => .inl h)
    clear C3' i0 HD3
    refine wp_region_held_drew (S := (fun w' => Blk w' w.heap.size 94 (ins 14 ra rb im))) (by kernel_rfl) (k3.drew) (fun hHeld => ?_)
    refine wpAnyH_take (i := 0) (oi := { dst := some 75, op := Op.move (Operand.tmp 0), type := 138, pos := "cpu.go:111", after := #[], guard := none }) (v := ?_) rfl (by kernel_rfl) (by kernel_rfl) (by kernel_rfl) (fun _ _ _ h => h) ?_ hHeld ?_
    rotate_left
    · refine Or.inl ⟨by rfl, fun w hSw => ?_⟩; skip; go_simp; (try with_reducible rfl)
    try simp only [Act.put, List.setIfInBounds_toArray, List.set_cons_zero, List.set_cons_succ]
    refine wpAnyH_take (i := 1) (oi := { dst := some 76, op := Op.fieldAddr 94 (Operand.tmp 3) 1, type := 0, pos := "cpu.go:111", after := #[], guard := none }) (v := ?_) rfl (by kernel_rfl) (by kernel_rfl) (by kernel_rfl) (fun _ _ _ h => h) ?_ hHeld ?_
    rotate_left
    · refine Or.inl ⟨by rfl, fun w hSw => ?_⟩; skip; go_simp; (try with_reducible rfl)
    try simp only [Act.put, List.setIfInBounds_toArray, List.set_cons_zero, List.set_cons_succ]
    refine wpAnyH_take (i := 2) (oi := { dst := some 77, op := Op.load 3 (Operand.tmp 76), type := 3, pos := "cpu.go:111", after := #[{ on := 1, ground := Ground.data }], guard := none }) (v := ?_) rfl (by kernel_rfl) (by kernel_rfl) (by kernel_rfl) (fun _ _ _ h => h) ?_ hHeld ?_
    rotate_left
    · refine Or.inl ⟨by rfl, fun w' hSw => ?_⟩; have c0 : w'.cell? ⟨w.heap.size, 1, none⟩ = some (.int .i64 ra) := Blk.cellv hSw 1 _ rfl; go_simp; (try with_reducible rfl)
    try simp only [Act.put, List.setIfInBounds_toArray, List.set_cons_zero, List.set_cons_succ]
    refine wpAnyH_take (i := 3) (oi := { dst := some 78, op := Op.move (Operand.tmp 7), type := 28, pos := "cpu.go:111", after := #[], guard := none }) (v := ?_) rfl (by kernel_rfl) (by kernel_rfl) (by kernel_rfl) (fun _ _ _ h => h) ?_ hHeld ?_
    rotate_left
    · refine Or.inl ⟨by rfl, fun w hSw => ?_⟩; skip; go_simp; (try with_reducible rfl)
    try simp only [Act.put, List.setIfInBounds_toArray, List.set_cons_zero, List.set_cons_succ]
    refine wpAnyH_take (i := 4) (oi := { dst := some 79, op := Op.nilCheck (Operand.tmp 75), type := 0, pos := "cpu.go:111", after := #[{ on := 0, ground := Ground.data }], guard := none }) (v := ?_) rfl (by kernel_rfl) (by kernel_rfl) (by kernel_rfl) (fun _ _ _ h => h) ?_ hHeld ?_
    rotate_left
    · refine Or.inl ⟨by rfl, fun w hSw => ?_⟩; skip; go_simp; (try with_reducible rfl)
    try simp only [Act.put, List.setIfInBounds_toArray, List.set_cons_zero, List.set_cons_succ]
    refine wpAnyH_take (i := 5) (oi := { dst := some 80, op := Op.fieldAddr 140 (Operand.tmp 79) 2, type := 0, pos := "cpu.go:111", after := #[{ on := 4, ground := Ground.data }], guard := none }) (v := ?_) rfl (by kernel_rfl) (by kernel_rfl) (by kernel_rfl) (fun _ _ _ h => h) ?_ hHeld ?_
    rotate_left
    · refine Or.inl ⟨by rfl, fun w hSw => ?_⟩; skip; go_simp; (try with_reducible rfl)
    try simp only [Act.put, List.setIfInBounds_toArray, List.set_cons_zero, List.set_cons_succ]
    refine wpAnyH_take (i := 6) (oi := { dst := some 81, op := Op.fieldAddr 109 (Operand.tmp 80) 0, type := 0, pos := "cpu.go:111", after := #[{ on := 5, ground := Ground.data }], guard := none }) (v := ?_) rfl (by kernel_rfl) (by kernel_rfl) (by kernel_rfl) (fun _ _ _ h => h) ?_ hHeld ?_
    rotate_left
    · refine Or.inl ⟨by rfl, fun w hSw => ?_⟩; skip; go_simp; (try with_reducible rfl)
    try simp only [Act.put, List.setIfInBounds_toArray, List.set_cons_zero, List.set_cons_succ]
    refine wpAnyH_take (i := 7) (oi := { dst := some 82, op := Op.indexAddr 39 (Operand.tmp 81) (Operand.tmp 77), type := 0, pos := "cpu.go:111", after := #[{ on := 6, ground := Ground.data }, { on := 2, ground := Ground.data }, { on := 0, ground := Ground.phase }, { on := 1, ground := Ground.phase }, { on := 2, ground := Ground.phase }, { on := 3, ground := Ground.phase }], guard := none }) (v := ?_) rfl (by kernel_rfl) (by kernel_rfl) (by kernel_rfl) (fun _ _ _ h => h) ?_ hHeld ?_
    rotate_left
    · refine Or.inl ⟨by rfl, fun w hSw => ?_⟩; skip; go_simp; (try with_reducible rfl)
    try simp only [Act.put, List.setIfInBounds_toArray, List.set_cons_zero, List.set_cons_succ]
    refine wpAnyH_ready (rs := [8]) (by kernel_rfl) (by simp) ?_
    refine AllReadyH.cons (o := { dst := none, op := Op.store 28 (Operand.tmp 82) (Operand.tmp 78), type := 0, pos := "cpu.go:111", after := #[{ on := 7, ground := Ground.data }, { on := 3, ground := Ground.data }, { on := 0, ground := Ground.phase }, { on := 1, ground := Ground.phase }, { on := 2, ground := Ground.phase }, { on := 3, ground := Ground.phase }], guard := none }) rfl (fun Kc hKc => ?_) AllReadyH.nil
    refine step_of (by rfl) (wp_set 28 (.tmp 82) (.tmp 78) (by rfl) g (2 + ra) (by rfl) (.int .u32 v) (by rfl) (by rfl) 140 (dg x d) HD size_u32' (by rw [hsz]; omega) ?_)
    intro wS kS gS sS
    rw [hset.out] at kS
    have OS := Out.of_grown gS (S := fun i => i = g) (fun k e => by injection e with e; exact e.symm)
    refine hKc.out _ _ (Out.Blk.out hHeld OS (fun h => by omega)) (fun hHeld => ?_)
    clear hKc Kc
    try simp only [Act.put]
    refine wpAnyH_done (by kernel_rfl) ?_ _
    have C5 := C4.out OS ngx.symm ngm.symm ngp.symm ngt.symm
    have O := O.trans OS (fun i h => .inl (.inl h))
    go_wp2_with fail
    go_end0
    exact ⟨rfl, _, X, m2, kS, hsR.out, C5, O, .inl rfl⟩

set_option maxRecDepth 100000 in
set_option maxHeartbeats 4000000 in
theorem mem_16 (g x gm gp gt n ra rb : Nat) (d : Dn) (X : List Int) (l : List En) (m im : Int) (w : World) (HD : Blk w g 140 (dg x d)) (C : CS w x gm gp gt n X l m) (hl : l.length ≤ 8) (hR : d.R.length = 16) (hX : ∀ i : Nat, 0 ≤ X[i]?.getD 0 ∧ X[i]?.getD 0 < 4294967296) (ha : ra < 16) (hb : rb < 16) (ht : d.tc = 0) :
    Calls Try.prog 79 #[.pointer (some ⟨g, 0, none⟩), .agg (ins 16 ra rb im)] w fun r w' => r = .returned (.tuple #[]) ∧ St g x gm gp gt n d X l w w' := by
  obtain ⟨rv, hrv⟩ : ∃ rv, d.R[rb]?.getD 0 = rv := ⟨_, rfl⟩
  obtain ⟨rav, hrav⟩ : ∃ rav, d.R[ra]?.getD 0 = rav := ⟨_, rfl⟩
  obtain ⟨i2, hw1⟩ : ∃ i2, IntKind.u32.wrap im = i2 := ⟨_, rfl⟩
  obtain ⟨a, hw2⟩ : ∃ a, IntKind.u32.wrap (rv + i2) = a := ⟨_, rfl⟩
  obtain ⟨h0, h1⟩ : 0 ≤ a ∧ a < 4294967296 := by rw [← hw2]; exact u32_rng _
  obtain ⟨b, hgb⟩ : ∃ b, getB l d.sp (a / 64) = b := ⟨_, rfl⟩
  obtain ⟨e, hge⟩ : ∃ e, getE l d.sp (a / 64) = e := ⟨_, rfl⟩
  have hmem : Hid (b = true → e ∈ l ∧ e.s = d.sp) := Lib.hid (fun h => by rw [← hge]; exact get_mem (by rw [hgb]; exact h))
  have hrb := dg_reg x d hR rb hb
  rw [hrv] at hrb
  replace hrb := Lib.hid hrb
  have hra := dg_reg x d hR ra ha
  rw [hrav] at hra
  replace hra := Lib.hid hra
  have hsz := dg_size x d hR
  have hb' : (rb : Int) < 16 := by omega
  have ha' : (ra : Int) < 16 := by omega
  have hLd := fun w' HD' C' => load_c g x gm gp gt n d X l m a false b e w' HD' hR C' hl h0 h1 hgb hge
  obtain ⟨ok, hok⟩ : ∃ ok, fOk b e false = ok := ⟨_, rfl⟩
  obtain ⟨v, hv⟩ : ∃ v, ldV n X b e false (a % 64 / 4) = v := ⟨_, rfl⟩
  obtain ⟨hv0, hv1⟩ : 0 ≤ v ∧ v < 4294967296 := by rw [← hv]; exact ld_rng hX
  obtain ⟨m2, hm2⟩ : ∃ m2, getM l d.sp (a / 64) m = m2 := ⟨_, rfl⟩
  rw [hok, hv, hm2] at hLd
  replace hLd := Lib.hid hLd
  have hOk : Hid (ok = true → fD d (a / 64) b e false = d) := Lib.hid (fun h => fD_ok (by rw [hok]; exact h))
  have hOk2 : Hid (ok = true → b = true ∧ e.w = e.w) := Lib.hid (fun h => by have := fOk_b (wr := false) (by rw [hok]; exact h); exact ⟨this.1, rfl⟩)
  have hD2 : (fD d (a / 64) b e false).R.length = 16 := by rw [fD_R]; exact hR
  obtain ⟨bv, hbv⟩ : ∃ bv, v / 256 ^ (a % 4 % 4).toNat % 256 = bv := ⟨_, rfl⟩
  have hset := Lib.hid (dg_set x d hR ra ha bv)
  have hsR : Hid ((dset d ra bv).R.length = 16) := Lib.hid (by show (d.R.set ra bv).length = 16; rw [List.length_set]; exact hR)
  have hBy := fun w' => WordB.byte_c v (a % 4) hv0 hv1 (by omega) (by omega) w'
  rw [hbv] at hBy
  replace hBy := Lib.hid hBy
  have hm4 : Hid (a.tmod 4 = a % 4) := Lib.hid (Int.tmod_eq_emod_of_nonneg h0)
  have hm5 : Hid (IntKind.i64.wrap (a % 4) = a % 4) := Lib.hid (by simp only [IntKind.wrap, IntKind.signed, IntKind.bits]; simp; omega)
  have hb0 : 0 ≤ bv ∧ bv < 256 := by omega
  have hbw : Hid (IntKind.u32.wrap bv = bv) := Lib.hid (by simp only [IntKind.wrap, IntKind.signed, IntKind.bits]; simp; omega)
  clear hbv
  clear hv hm2 hok
  generalize fD d (a / 64) b e false = d2 at *
  replace hw1 := Lib.hid hw1
  replace hw2 := Lib.hid hw2
  have CH := Lib.hid C
  obtain ⟨ngx, ngm, ngp, ngt⟩ := C.ne_ HD
  have zg := HD.lt
  have zgt := C.lt.2.2.2
  have zgp := C.lt.2.2.1
  clear C hgb hge hX
  replace hD2 := Lib.hid hD2
  go_enter Try.func79, Try.ntmps79
  go_upto_region 1 with ((with_reducible refine wl_box rfl 94 _ rfl (ins 16 ra rb im) rfl ?_); intro w1 k1 b1 s1)
  have HD := HD.below b1
  have C1 := CH.out.below b1
  have O := Out.of_below b1 (fun i => i = g ∨ i = gt ∨ i = gp)
  refine wp_region_held_drew (S := (fun w' => Blk w' w.heap.size 94 (ins 16 ra rb im) ∧ Blk w' g 140 (dg x d))) (by kernel_rfl) (⟨k1.drew, HD.drew⟩) (fun hHeld => ?_)
  refine wpAnyH_take (i := 0) (oi := { dst := some 9, op := Op.move (Operand.tmp 0), type := 138, pos := "cpu.go:101", after := #[], guard := none }) (v := ?_) rfl (by kernel_rfl) (by kernel_rfl) (by kernel_rfl) (fun _ _ _ h => h) ?_ hHeld ?_
  rotate_left
  · refine Or.inl ⟨by rfl, fun w hSw => ?_⟩; skip; go_simp; (try with_reducible rfl)
  try simp only [Act.put, List.setIfInBounds_toArray, List.set_cons_zero, List.set_cons_succ]
  refine wpAnyH_take (i := 1) (oi := { dst := some 10, op := Op.fieldAddr 94 (Operand.tmp 3) 2, type := 0, pos := "cpu.go:101", after := #[], guard := none }) (v := ?_) rfl (by kernel_rfl) (by kernel_rfl) (by kernel_rfl) (fun _ _ _ h => h) ?_ hHeld ?_
  rotate_left
  · refine Or.inl ⟨by rfl, fun w hSw => ?_⟩; skip; go_simp; (try with_reducible rfl)
  try simp only [Act.put, List.setIfInBounds_toArray, List.set_cons_zero, List.set_cons_succ]
  refine wpAnyH_take (i := 2) (oi := { dst := some 11, op := Op.load 3 (Operand.tmp 10), type := 3, pos := "cpu.go:101", after := #[{ on := 1, ground := Ground.data }], guard := none }) (v := ?_) rfl (by kernel_rfl) (by kernel_rfl) (by kernel_rfl) (fun _ _ _ h => h) ?_ hHeld ?_
  rotate_left
  · refine Or.inl ⟨by rfl, fun w' hSw => ?_⟩; have c0 : w'.cell? ⟨w.heap.size, 2, none⟩ = some (.int .i64 rb) := hSw.1.cellv 2 _ rfl; go_simp; (try with_reducible rfl)
  try simp only [Act.put, List.setIfInBounds_toArray, List.set_cons_zero, List.set_cons_succ]
  refine wpAnyH_take (i := 3) (oi := { dst := some 12, op := Op.nilCheck (Operand.tmp 9), type := 0, pos := "cpu.go:101", after := #[{ on := 0, ground := Ground.data }], guard := none }) (v := ?_) rfl (by kernel_rfl) (by kernel_rfl) (by kernel_rfl) (fun _ _ _ h => h) ?_ hHeld ?_
  rotate_left
  · refine Or.inl ⟨by rfl, fun w hSw => ?_⟩; skip; go_simp; (try with_reducible rfl)
  try simp only [Act.put, List.setIfInBounds_toArray, List.set_cons_zero, List.set_cons_succ]
  refine wpAnyH_take (i := 4) (oi := { dst := some 13, op := Op.fieldAddr 140 (Operand.tmp 12) 2, type := 0, pos := "cpu.go:101", after := #[{ on := 3, ground := Ground.data }], guard := none }) (v := ?_) rfl (by kernel_rfl) (by kernel_rfl) (by kernel_rfl) (fun _ _ _ h => h) ?_ hHeld ?_
  rotate_left
  · refine Or.inl ⟨by rfl, fun w hSw => ?_⟩; skip; go_simp; (try with_reducible rfl)
  try simp only [Act.put, List.setIfInBounds_toArray, List.set_cons_zero, List.set_cons_succ]
  refine wpAnyH_take (i := 5) (oi := { dst := some 14, op := Op.fieldAddr 109 (Operand.tmp 13) 0, type := 0, pos := "cpu.go:101", after := #[{ on := 4, ground := Ground.data }], guard := none }) (v := ?_) rfl (by kernel_rfl) (by kernel_rfl) (by kernel_rfl) (fun _ _ _ h => h) ?_ hHeld ?_
  rotate_left
  · refine Or.inl ⟨by rfl, fun w hSw => ?_⟩; skip; go_simp; (try with_reducible rfl)
  try simp only [Act.put, List.setIfInBounds_toArray, List.set_cons_zero, List.set_cons_succ]
  refine wpAnyH_take (i := 6) (oi := { dst := some 15, op := Op.indexAddr 39 (Operand.tmp 14) (Operand.tmp 11), type := 0, pos := "cpu.go:101", after := #[{ on := 5, ground := Ground.data }, { on := 2, ground := Ground.data }], guard := none }) (v := ?_) rfl (by kernel_rfl) (by kernel_rfl) (by kernel_rfl) (fun _ _ _ h => h) ?_ hHeld ?_
  rotate_left
  · refine Or.inl ⟨by rfl, fun w hSw => ?_⟩; skip; go_simp; (try with_reducible rfl)
  try simp only [Act.put, List.setIfInBounds_toArray, List.set_cons_zero, List.set_cons_succ]
  refine wpAnyH_take (i := 7) (oi := { dst := some 16, op := Op.load 28 (Operand.tmp 15), type := 28, pos := "cpu.go:101", after := #[{ on := 6, ground := Ground.data }], guard := none }) (v := ?_) rfl (by kernel_rfl) (by kernel_rfl) (by kernel_rfl) (fun _ _ _ h => h) ?_ hHeld ?_
  rotate_left
  · refine Or.inl ⟨by rfl, fun w' hSw => ?_⟩; have c0 : w'.cell? ⟨g, 2 + rb, none⟩ = some (.int .u32 rv) := hSw.2.cellv _ _ hrb.out; go_simp; (try with_reducible rfl)
  try simp only [Act.put, List.setIfInBounds_toArray, List.set_cons_zero, List.set_cons_succ]
  refine wpAnyH_take (i := 8) (oi := { dst := some 17, op := Op.fieldAddr 94 (Operand.tmp 3) 3, type := 0, pos := "cpu.go:101", after := #[], guard := none }) (v := ?_) rfl (by kernel_rfl) (by kernel_rfl) (by kernel_rfl) (fun _ _ _ h => h) ?_ hHeld ?_
  rotate_left
  · refine Or.inl ⟨by rfl, fun w hSw => ?_⟩; skip; go_simp; (try with_reducible rfl)
  try simp only [Act.put, List.setIfInBounds_toArray, List.set_cons_zero, List.set_cons_succ]
  refine wpAnyH_take (i := 9) (oi := { dst := some 18, op := Op.load 3 (Operand.tmp 17), type := 3, pos := "cpu.go:101", after := #[{ on := 8, ground := Ground.data }], guard := none }) (v := ?_) rfl (by kernel_rfl) (by kernel_rfl) (by kernel_rfl) (fun _ _ _ h => h) ?_ hHeld ?_
  rotate_left
  · refine Or.inl ⟨by rfl, fun w' hSw => ?_⟩; have c0 : w'.cell? ⟨w.heap.size, 3, none⟩ = some (.int .i64 im) := hSw.1.cellv 3 _ rfl; go_simp; (try with_reducible rfl)
  try simp only [Act.put, List.setIfInBounds_toArray, List.set_cons_zero, List.set_cons_succ]
  refine wpAnyH_take (i := 10) (oi := { dst := some 19, op := Op.convert 3 28 (Operand.tmp 18), type := 28, pos := "cpu.go:101", after := #[{ on := 9, ground := Ground.data }], guard := none }) (v := ?_) rfl (by kernel_rfl) (by kernel_rfl) (by kernel_rfl) (fun _ _ _ h => h) ?_ hHeld ?_
  rotate_left
  · refine Or.inl ⟨by rfl, fun w hSw => ?_⟩; have c0 := hw1.out; go_simp; (try with_reducible rfl)
  try simp only [Act.put, List.setIfInBounds_toArray, List.set_cons_zero, List.set_cons_succ]
  refine wpAnyH_take (i := 11) (oi := { dst := some 20, op := Op.binOp BinOp.add 28 (Operand.tmp 16) (Operand.tmp 19) 28, type := 28, pos := "cpu.go:101", after := #[{ on := 7, ground := Ground.data }, { on := 10, ground := Ground.data }], guard := none }) (v := ?_) rfl (by kernel_rfl) (by kernel_rfl) (by kernel_rfl) (fun _ _ _ h => h) ?_ hHeld ?_
  rotate_left
  · refine Or.inl ⟨by rfl, fun w hSw => ?_⟩; have c0 := hw2.out; go_simp; (try with_reducible rfl)
  try simp only [Act.put, List.setIfInBounds_toArray, List.set_cons_zero, List.set_cons_succ]
  refine wpAnyH_take (i := 12) (oi := { dst := some 4, op := Op.assign (Operand.tmp 20), type := 28, pos := "cpu.go:101", after := #[{ on := 11, ground := Ground.data }, { on := 0, ground := Ground.phase }, { on := 1, ground := Ground.phase }, { on := 2, ground := Ground.phase }, { on := 3, ground := Ground.phase }, { on := 4, ground := Ground.phase }, { on := 5, ground := Ground.phase }, { on := 6, ground := Ground.phase }, { on := 7, ground := Ground.phase }, { on := 8, ground := Ground.phase }, { on := 9, ground := Ground.phase }, { on := 10, ground := Ground.phase }, { on := 11, ground := Ground.phase }], guard := none }) (v := ?_) rfl (by kernel_rfl) (by kernel_rfl) (by kernel_rfl) (fun _ _ _ h => h) ?_ hHeld ?_
  rotate_left
  · refine Or.inl ⟨by rfl, fun w hSw => ?_⟩; skip; go_simp; (try with_reducible rfl)
  try simp only [Act.put, List.setIfInBounds_toArray, List.set_cons_zero, List.set_cons_succ]
  refine wpAnyH_done (by kernel_rfl) ?_ _
  have k1 := hHeld.1
  have HD := hHeld.2
  have C1 := C1.below (bl_drew (bl_refl w1))
  have O := O.trans (Out.of_below (bl_drew (bl_refl w1)) (fun i => i = g ∨ i = gt ∨ i = gp)) (fun i h => .inl h)
  have z1 : w.heap.size < w1.drew.heap.size := k1.lt
  clear hHeld hw1 hw2 hrb b1
  generalize w1.drew = w2 at *
  have i0 : w2.cell? ⟨w.heap.size, 0, none⟩ = some (.int .i64 16) := k1.cellv 0 _ rfl
  have C1' := Lib.hid C1
  clear C1 CH
  go_wp2_with fail
  refine (hLd.out w2 HD C1'.out).mono ?_
  rintro r w3 ⟨rfl, HD3, C3, O3⟩
  have k3 := Out.Blk.out k1 O3 (fun h => by rcases h with h | h <;> omega)
  have O := O.trans O3 (fun i h => .inl (by rcases h with h | h; exact .inl h; exact .inr (.inl h)))
  have i0 : w3.cell? ⟨w.heap.size, 0, none⟩ = some (.int .i64 16) := k3.cellv 0 _ rfl
  have C3' := Lib.hid C3
  have z3 := k3.lt
  clear C3 C1' hLd O3 k1 HD
  cases ok with
  | false =>
    go_wp2_with fail
    go_end0
    exact ⟨rfl, d2, X, m2, HD3, hD2.out, C3'.out, O, .inl rfl⟩
  | true =>
    rw [hOk.out rfl] at HD3
    have hb2 := hOk2.out rfl
    go_upto_region 11 with fail
    have HD := HD3.drew
    have C4 := C3'.out.below (bl_drew (bl_refl w3))
    have O := O.trans (Out.of_below (bl_drew (bl_refl w3)) (fun i => i = g ∨ i = gt ∨ i = gp)) (fun i h => .inl h)
    clear C3' i0 HD3
    refine wp_region_held_drew (S := (fun w' => Blk w' w.heap.size 94 (ins 16 ra rb im))) (by kernel_rfl) (k3.drew) (fun hHeld => ?_)
    refine wpAnyH_take (i := 0) (oi := { dst := some 87, op := Op.move (Operand.tmp 0), type := 138, pos := "cpu.go:113", after := #[], guard := none }) (v := ?_) rfl (by kernel_rfl) (by kernel_rfl) (by kernel_rfl) (fun _ _ _ h => h) ?_ hHeld ?_
    rotate_left
    · refine Or.inl ⟨by rfl, fun w hSw => ?_⟩; skip; go_simp; (try with_reducible rfl)
    try simp only [Act.put, List.setIfInBounds_toArray, List.set_cons_zero, List.set_cons_succ]
    refine wpAnyH_take (i := 1) (oi := { dst := some 88, op := Op.fieldAddr 94 (Operand.tmp 3) 1, type := 0, pos := "cpu.go:113", after := #[], guard := none }) (v := ?_) rfl (by kernel_rfl) (by kernel_rfl) (by kernel_rfl) (fun _ _ _ h => h) ?_ hHeld ?_
    rotate_left
    · refine Or.inl ⟨by rfl, fun w hSw => ?_⟩; skip; go_simp; (try with_reducible rfl)
    try simp only [Act.put, List.setIfInBounds_toArray, List.set_cons_zero, List.set_cons_succ]
    refine wpAnyH_take (i := 2) (oi := { dst := some 89, op := Op.load 3 (Operand.tmp 88), type := 3, pos := "cpu.go:113", after := #[{ on := 1, ground := Ground.data }], guard := none }) (v := ?_) rfl (by kernel_rfl) (by kernel_rfl) (by kernel_rfl) (fun _ _ _ h => h) ?_ hHeld ?_
    rotate_left
    · refine Or.inl ⟨by rfl, fun w' hSw => ?_⟩; have c0 : w'.cell? ⟨w.heap.size, 1, none⟩ = some (.int .i64 ra) := Blk.cellv hSw 1 _ rfl; go_simp; (try with_reducible rfl)
    try simp only [Act.put, List.setIfInBounds_toArray, List.set_cons_zero, List.set_cons_succ]
    refine wpAnyH_take (i := 3) (oi := { dst := some 90, op := Op.move (Operand.tmp 7), type := 28, pos := "cpu.go:113", after := #[], guard := none }) (v := ?_) rfl (by kernel_rfl) (by kernel_rfl) (by kernel_rfl) (fun _ _ _ h => h) ?_ hHeld ?_
    rotate_left
    · refine Or.inl ⟨by rfl, fun w hSw => ?_⟩; skip; go_simp; (try with_reducible rfl)
    try simp only [Act.put, List.setIfInBounds_toArray, List.set_cons_zero, List.set_cons_succ]
    refine wpAnyH_take (i := 4) (oi := { dst := some 91, op := Op.move (Operand.tmp 4), type := 28, pos := "cpu.go:113", after := #[], guard := none }) (v := ?_) rfl (by kernel_rfl) (by kernel_rfl) (by kernel_rfl) (fun _ _ _ h => h) ?_ hHeld ?_
    rotate_left
    · refine Or.inl ⟨by rfl, fun w hSw => ?_⟩; skip; go_simp; (try with_reducible rfl)
    try simp only [Act.put, List.setIfInBounds_toArray, List.set_cons_zero, List.set_cons_succ]
    refine wpAnyH_take (i := 5) (oi := { dst := some 92, op := Op.binOp BinOp.rem 28 (Operand.tmp 91) (Operand.const (Value.int IntKind.u32 4)) 28, type := 28, pos := "cpu.go:113", after := #[{ on := 4, ground := Ground.data }], guard := none }) (v := ?_) rfl (by kernel_rfl) (by kernel_rfl) (by kernel_rfl) (fun _ _ _ h => h) ?_ hHeld ?_
    rotate_left
    · refine Or.inl ⟨by rfl, fun w hSw => ?_⟩; have c0 := hm4.out; go_simp; (try with_reducible rfl)
    try simp only [Act.put, List.setIfInBounds_toArray, List.set_cons_zero, List.set_cons_succ]
    refine wpAnyH_take (i := 6) (oi := { dst := some 93, op := Op.convert 28 3 (Operand.tmp 92), type := 3, pos := "cpu.go:113", after := #[{ on := 5, ground := Ground.data }], guard := none }) (v := ?_) rfl (by kernel_rfl) (by kernel_rfl) (by kernel_rfl) (fun _ _ _ h => h) ?_ hHeld ?_
    rotate_left
    · refine Or.inl ⟨by rfl, fun w hSw => ?_⟩; have c0 := hm5.out; go_simp; (try with_reducible rfl)
    try simp only [Act.put, List.setIfInBounds_toArray, List.set_cons_zero, List.set_cons_succ]
    refine wpAnyH_take (i := 9) (oi := { dst := some 96, op := Op.nilCheck (Operand.tmp 87), type := 0, pos := "cpu.go:113", after := #[{ on := 0, ground := Ground.data }], guard := none }) (v := ?_) rfl (by kernel_rfl) (by kernel_rfl) (by kernel_rfl) (fun _ _ _ h => h) ?_ hHeld ?_
    rotate_left
    · refine Or.inl ⟨by rfl, fun w hSw => ?_⟩; skip; go_simp; (try with_reducible rfl)
    try simp only [Act.put, List.setIfInBounds_toArray, List.set_cons_zero, List.set_cons_succ]
    refine wpAnyH_take (i := 10) (oi := { dst := some 97, op := Op.fieldAddr 140 (Operand.tmp 96) 2, type := 0, pos := "cpu.go:113", after := #[{ on := 9, ground := Ground.data }], guard := none }) (v := ?_) rfl (by kernel_rfl) (by kernel_rfl) (by kernel_rfl) (fun _ _ _ h => h) ?_ hHeld ?_
    rotate_left
    · refine Or.inl ⟨by rfl, fun w hSw => ?_⟩; skip; go_simp; (try with_reducible rfl)
    try simp only [Act.put, List.setIfInBounds_toArray, List.set_cons_zero, List.set_cons_succ]
    refine wpAnyH_take (i := 11) (oi := { dst := some 98, op := Op.fieldAddr 109 (Operand.tmp 97) 0, type := 0, pos := "cpu.go:113", after := #[{ on := 10, ground := Ground.data }], guard := none }) (v := ?_) rfl (by kernel_rfl) (by kernel_rfl) (by kernel_rfl) (fun _ _ _ h => h) ?_ hHeld ?_
    rotate_left
    · refine Or.inl ⟨by rfl, fun w hSw => ?_⟩; skip; go_simp; (try with_reducible rfl)
    try simp only [Act.put, List.setIfInBounds_toArray, List.set_cons_zero, List.set_cons_succ]
    refine wpAnyH_ready (rs := [7]) (by kernel_rfl) (by simp) ?_
    refine AllReadyH.cons (o := { dst := some 94, op := Op.call { callee := Callee.value (Operand.func 83), args := #[Operand.tmp 90, Operand.tmp 93], argTypes := #[28, 3] }, type := 5, pos := "cpu.go:113", after := #[{ on := 3, ground := Ground.data }, { on := 6, ground := Ground.data }], guard := none }) rfl (fun Kc hKc => ?_) AllReadyH.nil
    go_simp
    refine (hBy.out _).mono ?_
    rintro r wq ⟨rfl, bq⟩
    have HD := HD.below bq
    have C4 := C4.below bq
    have O := O.trans (Out.of_below bq (fun i => i = g ∨ i = gt ∨ i = gp)) (fun i h => .inl h)
    refine hKc.out _ _ (Blk.below hHeld bq) (fun hHeld => ?_)
    clear hKc Kc
    try simp only [Act.put, List.setIfInBounds_toArray, List.set_cons_zero, List.set_cons_succ]
    refine wpAnyH_take (i := 8) (oi := { dst := some 95, op := Op.convert 5 28 (Operand.tmp 94), type := 28, pos := "cpu.go:113", after := #[{ on := 7, ground := Ground.data }], guard := none }) (v := ?_) rfl (by kernel_rfl) (by kernel_rfl) (by kernel_rfl) (fun _ _ _ h => h) ?_ hHeld ?_
    rotate_left
    · refine Or.inl ⟨by rfl, fun w hSw => ?_⟩; have c0 := hbw.out; go_simp; (try with_reducible rfl)
    try simp only [Act.put, List.setIfInBounds_toArray, List.set_cons_zero, List.set_cons_succ]
    refine wpAnyH_take (i := 12) (oi := { dst := some 99, op := Op.indexAddr 39 (Operand.tmp 98) (Operand.tmp 89), type := 0, pos := "cpu.go:113", after := #[{ on := 11, ground := Ground.data }, { on := 2, ground := Ground.data }, { on := 0, ground := Ground.phase }, { on := 1, ground := Ground.phase }, { on := 2, ground := Ground.phase }, { on := 3, ground := Ground.phase }, { on := 4, ground := Ground.phase }, { on := 5, ground := Ground.phase }, { on := 6, ground := Ground.phase }, { on := 7, ground := Ground.phase }, { on := 8, ground := Ground.phase }], guard := none }) (v := ?_) rfl (by kernel_rfl) (by kernel_rfl) (by kernel_rfl) (fun _ _ _ h => h) ?_ hHeld ?_
    rotate_left
    · refine Or.inl ⟨by rfl, fun w hSw => ?_⟩; skip; go_simp; (try with_reducible rfl)
    try simp only [Act.put, List.setIfInBounds_toArray, List.set_cons_zero, List.set_cons_succ]
    refine wpAnyH_ready (rs := [13]) (by kernel_rfl) (by simp) ?_
    refine AllReadyH.cons (o := { dst := none, op := Op.store 28 (Operand.tmp 99) (Operand.tmp 95), type := 0, pos := "cpu.go:113", after := #[{ on := 12, ground := Ground.data }, { on := 8, ground := Ground.data }, { on := 7, ground := Ground.chain }, { on := 0, ground := Ground.phase }, { on := 1, ground := Ground.phase }, { on := 2, ground := Ground.phase }, { on := 3, ground := Ground.phase }, { on := 4, ground := Ground.phase }, { on := 5, ground := Ground.phase }, { on := 6, ground := Ground.phase }, { on := 7, ground := Ground.phase }, { on := 8, ground := Ground.phase }], guard := none }) rfl (fun Kc hKc => ?_) AllReadyH.nil
    refine step_of (by rfl) (wp_set 28 (.tmp 99) (.tmp 95) (by rfl) g (2 + ra) (by rfl) (.int .u32 bv) (by rfl) (by rfl) 140 (dg x d) HD size_u32' (by rw [hsz]; omega) ?_)
    intro wS kS gS sS
    rw [hset.out] at kS
    have OS := Out.of_grown gS (S := fun i => i = g) (fun k e => by injection e with e; exact e.symm)
    refine hKc.out _ _ (Out.Blk.out hHeld OS (fun h => by omega)) (fun hHeld => ?_)
    clear hKc Kc
    try simp only [Act.put]
    refine wpAnyH_done (by kernel_rfl) ?_ _
    have C5 := C4.out OS ngx.symm ngm.symm ngp.symm ngt.symm
    have O := O.trans OS (fun i h => .inl (.inl h))
    go_wp2_with fail
    go_end0
    exact ⟨rfl, _, X, m2, kS, hsR.out, C5, O, .inl rfl⟩

set_option maxRecDepth 100000 in
set_option maxHeartbeats 4000000 in
theorem mem_15 (g x gm gp gt n ra rb : Nat) (d : Dn) (X : List Int) (l : List En) (m im : Int) (w : World) (HD : Blk w g 140 (dg x d)) (C : CS w x gm gp gt n X l m) (hl : l.length ≤ 8) (hR : d.R.length = 16) (hX : ∀ i : Nat, 0 ≤ X[i]?.getD 0 ∧ X[i]?.getD 0 < 4294967296) (ha : ra < 16) (hb : rb < 16) (ht : d.tc = 0) :
    Calls Try.prog 79 #[.pointer (some ⟨g, 0, none⟩), .agg (ins 15 ra rb im)] w fun r w' => r = .returned (.tuple #[]) ∧ St g x gm gp gt n d X l w w' := by
  obtain ⟨rv, hrv⟩ : ∃ rv, d.R[rb]?.getD 0 = rv := ⟨_, rfl⟩
  obtain ⟨rav, hrav⟩ : ∃ rav, d.R[ra]?.getD 0 = rav := ⟨_, rfl⟩
  obtain ⟨i2, hw1⟩ : ∃ i2, IntKind.u32.wrap im = i2 := ⟨_, rfl⟩
  obtain ⟨a, hw2⟩ : ∃ a, IntKind.u32.wrap (rv + i2) = a := ⟨_, rfl⟩
  obtain ⟨h0, h1⟩ : 0 ≤ a ∧ a < 4294967296 := by rw [← hw2]; exact u32_rng _
  obtain ⟨b, hgb⟩ : ∃ b, getB l d.sp (a / 64) = b := ⟨_, rfl⟩
  obtain ⟨e, hge⟩ : ∃ e, getE l d.sp (a / 64) = e := ⟨_, rfl⟩
  have hmem : Hid (b = true → e ∈ l ∧ e.s = d.sp) := Lib.hid (fun h => by rw [← hge]; exact get_mem (by rw [hgb]; exact h))
  have hrb := dg_reg x d hR rb hb
  rw [hrv] at hrb
  replace hrb := Lib.hid hrb
  have hra := dg_reg x d hR ra ha
  rw [hrav] at hra
  replace hra := Lib.hid hra
  have hsz := dg_size x d hR
  have hb' : (rb : Int) < 16 := by omega
  have ha' : (ra : Int) < 16 := by omega
  have hLd := fun w' HD' C' => load_c g x gm gp gt n d X l m a true b e w' HD' hR C' hl h0 h1 hgb hge
  obtain ⟨ok, hok⟩ : ∃ ok, fOk b e true = ok := ⟨_, rfl⟩
  obtain ⟨v, hv⟩ : ∃ v, ldV n X b e true (a % 64 / 4) = v := ⟨_, rfl⟩
  obtain ⟨hv0, hv1⟩ : 0 ≤ v ∧ v < 4294967296 := by rw [← hv]; exact ld_rng hX
  obtain ⟨m2, hm2⟩ : ∃ m2, getM l d.sp (a / 64) m = m2 := ⟨_, rfl⟩
  rw [hok, hv, hm2] at hLd
  replace hLd := Lib.hid hLd
  have hOk : Hid (ok = true → fD d (a / 64) b e true = d) := Lib.hid (fun h => fD_ok (by rw [hok]; exact h))
  have hOk2 : Hid (ok = true → b = true ∧ e.w = true) := Lib.hid (fun h => by have := fOk_b (wr := true) (by rw [hok]; exact h); exact ⟨this.1, this.2 rfl⟩)
  have hD2 : (fD d (a / 64) b e true).R.length = 16 := by rw [fD_R]; exact hR
  have hSt : Hid (∀ (h : ok = true) v' w' (HD' : Blk w' g 140 (dg x d)) (C' : CS w' x gm gp gt n X l m2), Calls Try.prog 84 #[.pointer (some ⟨g, 0, none⟩), .int .u32 a, .int .u32 v'] w' fun r w'' => r = .returned (.tuple #[]) ∧ Blk w'' g 140 (dg x d) ∧ CS w'' x gm gp gt n (putX n X e.f (a % 64 / 4) v') l (getM l d.sp (a / 64) m2) ∧ Out w' w'' (fun i => i = g ∨ i = gt ∨ i = gp)) := Lib.hid (fun h v' w' HD' C' => store_c g x gm gp gt n d X l m2 a v' b e w' HD' hR C' hl h0 h1 hgb hge (by rw [hok]; exact h))
  clear hv hm2 hok
  generalize fD d (a / 64) b e true = d2 at *
  replace hw1 := Lib.hid hw1
  replace hw2 := Lib.hid hw2
  have CH := Lib.hid C
  obtain ⟨ngx, ngm, ngp, ngt⟩ := C.ne_ HD
  have zg := HD.lt
  have zgt := C.lt.2.2.2
  have zgp := C.lt.2.2.1
  clear C hgb hge hX
  replace hD2 := Lib.hid hD2
  go_enter Try.func79, Try.ntmps79
  go_upto_region 1 with ((with_reducible refine wl_box rfl 94 _ rfl (ins 15 ra rb im) rfl ?_); intro w1 k1 b1 s1)
  have HD := HD.below b1
  have C1 := CH.out.below b1
  have O := Out.of_below b1 (fun i => i = g ∨ i = gt ∨ i = gp)
  refine wp_region_held_drew (S := (fun w' => Blk w' w.heap.size 94 (ins 15 ra rb im) ∧ Blk w' g 140 (dg x d))) (by kernel_rfl) (⟨k1.drew, HD.drew⟩) (fun hHeld => ?_)
  refine wpAnyH_take (i := 0) (oi := { dst := some 9, op := Op.move (Operand.tmp 0), type := 138, pos := "cpu.go:101", after := #[], guard := none }) (v := ?_) rfl (by kernel_rfl) (by kernel_rfl) (by kernel_rfl) (fun _ _ _ h => h) ?_ hHeld ?_
  rotate_left
  · refine Or.inl ⟨by rfl, fun w hSw => ?_⟩; skip; go_simp; (try with_reducible rfl)
  try simp only [Act.put, List.setIfInBounds_toArray, List.set_cons_zero, List.set_cons_succ]
  refine wpAnyH_take (i := 1) (oi := { dst := some 10, op := Op.fieldAddr 94 (Operand.tmp 3) 2, type := 0, pos := "cpu.go:101", after := #[], guard := none }) (v := ?_) rfl (by kernel_rfl) (by kernel_rfl) (by kernel_rfl) (fun _ _ _ h => h) ?_ hHeld ?_
  rotate_left
  · refine Or.inl ⟨by rfl, fun w hSw => ?_⟩; skip; go_simp; (try with_reducible rfl)
  try simp only [Act.put, List.setIfInBounds_toArray, List.set_cons_zero, List.set_cons_succ]
  refine wpAnyH_take (i := 2) (oi := { dst := some 11, op := Op.load 3 (Operand.tmp 10), type := 3, pos := "cpu.go:101", after := #[{ on := 1, ground := Ground.data }], guard := none }) (v := ?_) rfl (by kernel_rfl) (by kernel_rfl) (by kernel_rfl) (fun _ _ _ h => h) ?_ hHeld ?_
  rotate_left
  · refine Or.inl ⟨by rfl, fun w' hSw => ?_⟩; have c0 : w'.cell? ⟨w.heap.size, 2, none⟩ = some (.int .i64 rb) := hSw.1.cellv 2 _ rfl; go_simp; (try with_reducible rfl)
  try simp only [Act.put, List.setIfInBounds_toArray, List.set_cons_zero, List.set_cons_succ]
  refine wpAnyH_take (i := 3) (oi := { dst := some 12, op := Op.nilCheck (Operand.tmp 9), type := 0, pos := "cpu.go:101", after := #[{ on := 0, ground := Ground.data }], guard := none }) (v := ?_) rfl (by kernel_rfl) (by kernel_rfl) (by kernel_rfl) (fun _ _ _ h => h) ?_ hHeld ?_
  rotate_left
  · refine Or.inl ⟨by rfl, fun w hSw => ?_⟩; skip; go_simp; (try with_reducible rfl)
  try simp only [Act.put, List.setIfInBounds_toArray, List.set_cons_zero, List.set_cons_succ]
  refine wpAnyH_take (i := 4) (oi := { dst := some 13, op := Op.fieldAddr 140 (Operand.tmp 12) 2, type := 0, pos := "cpu.go:101", after := #[{ on := 3, ground := Ground.data }], guard := none }) (v := ?_) rfl (by kernel_rfl) (by kernel_rfl) (by kernel_rfl) (fun _ _ _ h => h) ?_ hHeld ?_
  rotate_left
  · refine Or.inl ⟨by rfl, fun w hSw => ?_⟩; skip; go_simp; (try with_reducible rfl)
  try simp only [Act.put, List.setIfInBounds_toArray, List.set_cons_zero, List.set_cons_succ]
  refine wpAnyH_take (i := 5) (oi := { dst := some 14, op := Op.fieldAddr 109 (Operand.tmp 13) 0, type := 0, pos := "cpu.go:101", after := #[{ on := 4, ground := Ground.data }], guard := none }) (v := ?_) rfl (by kernel_rfl) (by kernel_rfl) (by kernel_rfl) (fun _ _ _ h => h) ?_ hHeld ?_
  rotate_left
  · refine Or.inl ⟨by rfl, fun w hSw => ?_⟩; skip; go_simp; (try with_reducible rfl)
  try simp only [Act.put, List.setIfInBounds_toArray, List.set_cons_zero, List.set_cons_succ]
  refine wpAnyH_take (i := 6) (oi := { dst := some 15, op := Op.indexAddr 39 (Operand.tmp 14) (Operand.tmp 11), type := 0, pos := "cpu.go:101", after := #[{ on := 5, ground := Ground.data }, { on := 2, ground := Ground.data }], guard := none }) (v := ?_) rfl (by kernel_rfl) (by kernel_rfl) (by kernel_rfl) (fun _ _ _ h => h) ?_ hHeld ?_
  rotate_left
  · refine Or.inl ⟨by rfl, fun w hSw => ?_⟩; skip; go_simp; (try with_reducible rfl)
  try simp only [Act.put, List.setIfInBounds_toArray, List.set_cons_zero, List.set_cons_succ]
  refine wpAnyH_take (i := 7) (oi := { dst := some 16, op := Op.load 28 (Operand.tmp 15), type := 28, pos := "cpu.go:101", after := #[{ on := 6, ground := Ground.data }], guard := none }) (v := ?_) rfl (by kernel_rfl) (by kernel_rfl) (by kernel_rfl) (fun _ _ _ h => h) ?_ hHeld ?_
  rotate_left
  · refine Or.inl ⟨by rfl, fun w' hSw => ?_⟩; have c0 : w'.cell? ⟨g, 2 + rb, none⟩ = some (.int .u32 rv) := hSw.2.cellv _ _ hrb.out; go_simp; (try with_reducible rfl)
  try simp only [Act.put, List.setIfInBounds_toArray, List.set_cons_zero, List.set_cons_succ]
  refine wpAnyH_take (i := 8) (oi := { dst := some 17, op := Op.fieldAddr 94 (Operand.tmp 3) 3, type := 0, pos := "cpu.go:101", after := #[], guard := none }) (v := ?_) rfl (by kernel_rfl) (by kernel_rfl) (by kernel_rfl) (fun _ _ _ h => h) ?_ hHeld ?_
  rotate_left
  · refine Or.inl ⟨by rfl, fun w hSw => ?_⟩; skip; go_simp; (try with_reducible rfl)
  try simp only [Act.put, List.setIfInBounds_toArray, List.set_cons_zero, List.set_cons_succ]
  refine wpAnyH_take (i := 9) (oi := { dst := some 18, op := Op.load 3 (Operand.tmp 17), type := 3, pos := "cpu.go:101", after := #[{ on := 8, ground := Ground.data }], guard := none }) (v := ?_) rfl (by kernel_rfl) (by kernel_rfl) (by kernel_rfl) (fun _ _ _ h => h) ?_ hHeld ?_
  rotate_left
  · refine Or.inl ⟨by rfl, fun w' hSw => ?_⟩; have c0 : w'.cell? ⟨w.heap.size, 3, none⟩ = some (.int .i64 im) := hSw.1.cellv 3 _ rfl; go_simp; (try with_reducible rfl)
  try simp only [Act.put, List.setIfInBounds_toArray, List.set_cons_zero, List.set_cons_succ]
  refine wpAnyH_take (i := 10) (oi := { dst := some 19, op := Op.convert 3 28 (Operand.tmp 18), type := 28, pos := "cpu.go:101", after := #[{ on := 9, ground := Ground.data }], guard := none }) (v := ?_) rfl (by kernel_rfl) (by kernel_rfl) (by kernel_rfl) (fun _ _ _ h => h) ?_ hHeld ?_
  rotate_left
  · refine Or.inl ⟨by rfl, fun w hSw => ?_⟩; have c0 := hw1.out; go_simp; (try with_reducible rfl)
  try simp only [Act.put, List.setIfInBounds_toArray, List.set_cons_zero, List.set_cons_succ]
  refine wpAnyH_take (i := 11) (oi := { dst := some 20, op := Op.binOp BinOp.add 28 (Operand.tmp 16) (Operand.tmp 19) 28, type := 28, pos := "cpu.go:101", after := #[{ on := 7, ground := Ground.data }, { on := 10, ground := Ground.data }], guard := none }) (v := ?_) rfl (by kernel_rfl) (by kernel_rfl) (by kernel_rfl) (fun _ _ _ h => h) ?_ hHeld ?_
  rotate_left
  · refine Or.inl ⟨by rfl, fun w hSw => ?_⟩; have c0 := hw2.out; go_simp; (try with_reducible rfl)
  try simp only [Act.put, List.setIfInBounds_toArray, List.set_cons_zero, List.set_cons_succ]
  refine wpAnyH_take (i := 12) (oi := { dst := some 4, op := Op.assign (Operand.tmp 20), type := 28, pos := "cpu.go:101", after := #[{ on := 11, ground := Ground.data }, { on := 0, ground := Ground.phase }, { on := 1, ground := Ground.phase }, { on := 2, ground := Ground.phase }, { on := 3, ground := Ground.phase }, { on := 4, ground := Ground.phase }, { on := 5, ground := Ground.phase }, { on := 6, ground := Ground.phase }, { on := 7, ground := Ground.phase }, { on := 8, ground := Ground.phase }, { on := 9, ground := Ground.phase }, { on := 10, ground := Ground.phase }, { on := 11, ground := Ground.phase }], guard := none }) (v := ?_) rfl (by kernel_rfl) (by kernel_rfl) (by kernel_rfl) (fun _ _ _ h => h) ?_ hHeld ?_
  rotate_left
  · refine Or.inl ⟨by rfl, fun w hSw => ?_⟩; skip; go_simp; (try with_reducible rfl)
  try simp only [Act.put, List.setIfInBounds_toArray, List.set_cons_zero, List.set_cons_succ]
  refine wpAnyH_done (by kernel_rfl) ?_ _
  have k1 := hHeld.1
  have HD := hHeld.2
  have C1 := C1.below (bl_drew (bl_refl w1))
  have O := O.trans (Out.of_below (bl_drew (bl_refl w1)) (fun i => i = g ∨ i = gt ∨ i = gp)) (fun i h => .inl h)
  have z1 : w.heap.size < w1.drew.heap.size := k1.lt
  clear hHeld hw1 hw2 hrb b1
  generalize w1.drew = w2 at *
  have i0 : w2.cell? ⟨w.heap.size, 0, none⟩ = some (.int .i64 15) := k1.cellv 0 _ rfl
  have C1' := Lib.hid C1
  clear C1 CH
  have hE1 := Lib.hid (fun (h : a % 4 = 0) => even_c g a w2 h h0)
  have hE2 := Lib.hid (fun (h : ¬ a % 4 = 0) => even_no g x d a w2 HD hR h h0)
  rcases Decidable.em (a % 4 = 0) with hal | hal
  rotate_left
  · have hE := Lib.hid (hE2.out hal)
    clear hal hE1 hE2
    go_wp2_with fail
    refine hE.out.mono ?_
    rintro r w3 ⟨rfl, HD3, O3⟩
    have C3 := C1'.out.out O3 ngx.symm ngm.symm ngp.symm ngt.symm
    have O := O.trans O3 (fun i h => .inl (.inl h))
    clear hE i0
    go_wp2_with fail
    exact bodyPost_ret (results_none rfl _ _ _) rfl ⟨rfl, _, X, m, HD3, hR, C3, O, .inl rfl⟩
  have hE := Lib.hid (hE1.out hal)
  clear hE1 hE2
  go_wp2_with fail
  refine hE.out.mono ?_
  rintro r w2' ⟨rfl, rfl⟩
  clear hE
  go_wp2_with fail
  refine (hLd.out w2 HD C1'.out).mono ?_
  rintro r w3 ⟨rfl, HD3, C3, O3⟩
  have k3 := Out.Blk.out k1 O3 (fun h => by rcases h with h | h <;> omega)
  have O := O.trans O3 (fun i h => .inl (by rcases h with h | h; exact .inl h; exact .inr (.inl h)))
  have i0 : w3.cell? ⟨w.heap.size, 0, none⟩ = some (.int .i64 15) := k3.cellv 0 _ rfl
  have C3' := Lib.hid C3
  have z3 := k3.lt
  clear C3 C1' hLd O3 k1 HD
  cases ok with
  | false =>
    go_wp2_with fail
    go_end0
    exact ⟨rfl, d2, X, m2, HD3, hD2.out, C3'.out, O, .inl rfl⟩
  | true =>
    rw [hOk.out rfl] at HD3
    have hb2 := hOk2.out rfl
    replace hSt := Lib.hid (hSt.out rfl)
    go_upto_region 13 with fail
    have HD := HD3.drew
    have C4 := C3'.out.below (bl_drew (bl_refl w3))
    have O := O.trans (Out.of_below (bl_drew (bl_refl w3)) (fun i => i = g ∨ i = gt ∨ i = gp)) (fun i h => .inl h)
    clear C3' i0 HD3
    refine wp_region_held_drew (S := (fun w' => Blk w' w.heap.size 94 (ins 15 ra rb im) ∧ Blk w' g 140 (dg x d))) (by kernel_rfl) (⟨k3.drew, HD⟩) (fun hHeld => ?_)
    refine wpAnyH_take (i := 0) (oi := { dst := some 104, op := Op.move (Operand.tmp 0), type := 138, pos := "cpu.go:115", after := #[], guard := none }) (v := ?_) rfl (by kernel_rfl) (by kernel_rfl) (by kernel_rfl) (fun _ _ _ h => h) ?_ hHeld ?_
    rotate_left
    · refine Or.inl ⟨by rfl, fun w hSw => ?_⟩; skip; go_simp; (try with_reducible rfl)
    try simp only [Act.put, List.setIfInBounds_toArray, List.set_cons_zero, List.set_cons_succ]
    refine wpAnyH_take (i := 1) (oi := { dst := some 105, op := Op.move (Operand.tmp 4), type := 28, pos := "cpu.go:115", after := #[], guard := none }) (v := ?_) rfl (by kernel_rfl) (by kernel_rfl) (by kernel_rfl) (fun _ _ _ h => h) ?_ hHeld ?_
    rotate_left
    · refine Or.inl ⟨by rfl, fun w hSw => ?_⟩; skip; go_simp; (try with_reducible rfl)
    try simp only [Act.put, List.setIfInBounds_toArray, List.set_cons_zero, List.set_cons_succ]
    refine wpAnyH_take (i := 2) (oi := { dst := some 106, op := Op.move (Operand.tmp 0), type := 138, pos := "cpu.go:115", after := #[], guard := none }) (v := ?_) rfl (by kernel_rfl) (by kernel_rfl) (by kernel_rfl) (fun _ _ _ h => h) ?_ hHeld ?_
    rotate_left
    · refine Or.inl ⟨by rfl, fun w hSw => ?_⟩; skip; go_simp; (try with_reducible rfl)
    try simp only [Act.put, List.setIfInBounds_toArray, List.set_cons_zero, List.set_cons_succ]
    refine wpAnyH_take (i := 3) (oi := { dst := some 107, op := Op.fieldAddr 94 (Operand.tmp 3) 1, type := 0, pos := "cpu.go:115", after := #[], guard := none }) (v := ?_) rfl (by kernel_rfl) (by kernel_rfl) (by kernel_rfl) (fun _ _ _ h => h) ?_ hHeld ?_
    rotate_left
    · refine Or.inl ⟨by rfl, fun w hSw => ?_⟩; skip; go_simp; (try with_reducible rfl)
    try simp only [Act.put, List.setIfInBounds_toArray, List.set_cons_zero, List.set_cons_succ]
    refine wpAnyH_take (i := 4) (oi := { dst := some 108, op := Op.load 3 (Operand.tmp 107), type := 3, pos := "cpu.go:115", after := #[{ on := 3, ground := Ground.data }], guard := none }) (v := ?_) rfl (by kernel_rfl) (by kernel_rfl) (by kernel_rfl) (fun _ _ _ h => h) ?_ hHeld ?_
    rotate_left
    · refine Or.inl ⟨by rfl, fun w' hSw => ?_⟩; have c0 : w'.cell? ⟨w.heap.size, 1, none⟩ = some (.int .i64 ra) := hSw.1.cellv 1 _ rfl; go_simp; (try with_reducible rfl)
    try simp only [Act.put, List.setIfInBounds_toArray, List.set_cons_zero, List.set_cons_succ]
    refine wpAnyH_take (i := 5) (oi := { dst := some 109, op := Op.nilCheck (Operand.tmp 106), type := 0, pos := "cpu.go:115", after := #[{ on := 2, ground := Ground.data }], guard := none }) (v := ?_) rfl (by kernel_rfl) (by kernel_rfl) (by kernel_rfl) (fun _ _ _ h => h) ?_ hHeld ?_
    rotate_left
    · refine Or.inl ⟨by rfl, fun w hSw => ?_⟩; skip; go_simp; (try with_reducible rfl)
    try simp only [Act.put, List.setIfInBounds_toArray, List.set_cons_zero, List.set_cons_succ]
    refine wpAnyH_take (i := 6) (oi := { dst := some 110, op := Op.fieldAddr 140 (Operand.tmp 109) 2, type := 0, pos := "cpu.go:115", after := #[{ on := 5, ground := Ground.data }], guard := none }) (v := ?_) rfl (by kernel_rfl) (by kernel_rfl) (by kernel_rfl) (fun _ _ _ h => h) ?_ hHeld ?_
    rotate_left
    · refine Or.inl ⟨by rfl, fun w hSw => ?_⟩; skip; go_simp; (try with_reducible rfl)
    try simp only [Act.put, List.setIfInBounds_toArray, List.set_cons_zero, List.set_cons_succ]
    refine wpAnyH_take (i := 7) (oi := { dst := some 111, op := Op.fieldAddr 109 (Operand.tmp 110) 0, type := 0, pos := "cpu.go:115", after := #[{ on := 6, ground := Ground.data }], guard := none }) (v := ?_) rfl (by kernel_rfl) (by kernel_rfl) (by kernel_rfl) (fun _ _ _ h => h) ?_ hHeld ?_
    rotate_left
    · refine Or.inl ⟨by rfl, fun w hSw => ?_⟩; skip; go_simp; (try with_reducible rfl)
    try simp only [Act.put, List.setIfInBounds_toArray, List.set_cons_zero, List.set_cons_succ]
    refine wpAnyH_take (i := 8) (oi := { dst := some 112, op := Op.indexAddr 39 (Operand.tmp 111) (Operand.tmp 108), type := 0, pos := "cpu.go:115", after := #[{ on := 7, ground := Ground.data }, { on := 4, ground := Ground.data }], guard := none }) (v := ?_) rfl (by kernel_rfl) (by kernel_rfl) (by kernel_rfl) (fun _ _ _ h => h) ?_ hHeld ?_
    rotate_left
    · refine Or.inl ⟨by rfl, fun w hSw => ?_⟩; skip; go_simp; (try with_reducible rfl)
    try simp only [Act.put, List.setIfInBounds_toArray, List.set_cons_zero, List.set_cons_succ]
    refine wpAnyH_take (i := 9) (oi := { dst := some 113, op := Op.load 28 (Operand.tmp 112), type := 28, pos := "cpu.go:115", after := #[{ on := 8, ground := Ground.data }], guard := none }) (v := ?_) rfl (by kernel_rfl) (by kernel_rfl) (by kernel_rfl) (fun _ _ _ h => h) ?_ hHeld ?_
    rotate_left
    · refine Or.inl ⟨by rfl, fun w' hSw => ?_⟩; have c0 : w'.cell? ⟨g, 2 + ra, none⟩ = some (.int .u32 rav) := hSw.2.cellv _ _ hra.out; go_simp; (try with_reducible rfl)
    try simp only [Act.put, List.setIfInBounds_toArray, List.set_cons_zero, List.set_cons_succ]
    refine wpAnyH_ready (rs := [10]) (by kernel_rfl) (by simp) ?_
    refine AllReadyH.cons (o := { dst := some 114, op := Op.call { callee := Callee.value (Operand.func 84), args := #[Operand.tmp 104, Operand.tmp 105, Operand.tmp 113], argTypes := #[138, 28, 28] }, type := 0, pos := "cpu.go:115", after := #[{ on := 0, ground := Ground.data }, { on := 1, ground := Ground.data }, { on := 9, ground := Ground.data }], guard := none }) rfl (fun Kc hKc => ?_) AllReadyH.nil
    go_simp
    refine (hSt.out rav _ hHeld.2 C4).mono ?_
    rintro r wt ⟨rfl, KD, C5, Oq⟩
    have O := O.trans Oq (fun i h => .inl h)
    refine hKc.out _ _ (⟨Out.Blk.out hHeld.1 Oq (fun h => by rcases h with h | h | h <;> omega), KD⟩) (fun hHeld => ?_)
    clear hKc Kc
    try simp only [Act.put, List.setIfInBounds_toArray, List.set_cons_zero, List.set_cons_succ]
    refine wpAnyH_done (by kernel_rfl) ?_ _
    go_wp2_with fail
    go_end0
    exact ⟨rfl, d, _, _, hHeld.2, hR, C5, O, .inr ⟨ht, e, (hmem.out hb2.1).1, (hmem.out hb2.1).2, hb2.2, _, _, rfl⟩⟩

set_option maxRecDepth 100000 in
set_option maxHeartbeats 4000000 in
theorem mem_17 (g x gm gp gt n ra rb : Nat) (d : Dn) (X : List Int) (l : List En) (m im : Int) (w : World) (HD : Blk w g 140 (dg x d)) (C : CS w x gm gp gt n X l m) (hl : l.length ≤ 8) (hR : d.R.length = 16) (hX : ∀ i : Nat, 0 ≤ X[i]?.getD 0 ∧ X[i]?.getD 0 < 4294967296) (ha : ra < 16) (hb : rb < 16) (ht : d.tc = 0) :
    Calls Try.prog 79 #[.pointer (some ⟨g, 0, none⟩), .agg (ins 17 ra rb im)] w fun r w' => r = .returned (.tuple #[]) ∧ St g x gm gp gt n d X l w w' := by
  obtain ⟨rv, hrv⟩ : ∃ rv, d.R[rb]?.getD 0 = rv := ⟨_, rfl⟩
  obtain ⟨rav, hrav⟩ : ∃ rav, d.R[ra]?.getD 0 = rav := ⟨_, rfl⟩
  obtain ⟨i2, hw1⟩ : ∃ i2, IntKind.u32.wrap im = i2 := ⟨_, rfl⟩
  obtain ⟨a, hw2⟩ : ∃ a, IntKind.u32.wrap (rv + i2) = a := ⟨_, rfl⟩
  obtain ⟨h0, h1⟩ : 0 ≤ a ∧ a < 4294967296 := by rw [← hw2]; exact u32_rng _
  obtain ⟨b, hgb⟩ : ∃ b, getB l d.sp (a / 64) = b := ⟨_, rfl⟩
  obtain ⟨e, hge⟩ : ∃ e, getE l d.sp (a / 64) = e := ⟨_, rfl⟩
  have hmem : Hid (b = true → e ∈ l ∧ e.s = d.sp) := Lib.hid (fun h => by rw [← hge]; exact get_mem (by rw [hgb]; exact h))
  have hrb := dg_reg x d hR rb hb
  rw [hrv] at hrb
  replace hrb := Lib.hid hrb
  have hra := dg_reg x d hR ra ha
  rw [hrav] at hra
  replace hra := Lib.hid hra
  have hsz := dg_size x d hR
  have hb' : (rb : Int) < 16 := by omega
  have ha' : (ra : Int) < 16 := by omega
  have hLd := fun w' HD' C' => load_c g x gm gp gt n d X l m a true b e w' HD' hR C' hl h0 h1 hgb hge
  obtain ⟨ok, hok⟩ : ∃ ok, fOk b e true = ok := ⟨_, rfl⟩
  obtain ⟨v, hv⟩ : ∃ v, ldV n X b e true (a % 64 / 4) = v := ⟨_, rfl⟩
  obtain ⟨hv0, hv1⟩ : 0 ≤ v ∧ v < 4294967296 := by rw [← hv]; exact ld_rng hX
  obtain ⟨m2, hm2⟩ : ∃ m2, getM l d.sp (a / 64) m = m2 := ⟨_, rfl⟩
  rw [hok, hv, hm2] at hLd
  replace hLd := Lib.hid hLd
  have hOk : Hid (ok = true → fD d (a / 64) b e true = d) := Lib.hid (fun h => fD_ok (by rw [hok]; exact h))
  have hOk2 : Hid (ok = true → b = true ∧ e.w = true) := Lib.hid (fun h => by have := fOk_b (wr := true) (by rw [hok]; exact h); exact ⟨this.1, this.2 rfl⟩)
  have hD2 : (fD d (a / 64) b e true).R.length = 16 := by rw [fD_R]; exact hR
  have hSt : Hid (∀ (h : ok = true) v' w' (HD' : Blk w' g 140 (dg x d)) (C' : CS w' x gm gp gt n X l m2), Calls Try.prog 84 #[.pointer (some ⟨g, 0, none⟩), .int .u32 a, .int .u32 v'] w' fun r w'' => r = .returned (.tuple #[]) ∧ Blk w'' g 140 (dg x d) ∧ CS w'' x gm gp gt n (putX n X e.f (a % 64 / 4) v') l (getM l d.sp (a / 64) m2) ∧ Out w' w'' (fun i => i = g ∨ i = gt ∨ i = gp)) := Lib.hid (fun h v' w' HD' C' => store_c g x gm gp gt n d X l m2 a v' b e w' HD' hR C' hl h0 h1 hgb hge (by rw [hok]; exact h))
  obtain ⟨bb, hbb⟩ : ∃ bb, IntKind.u8.wrap rav = bb := ⟨_, rfl⟩
  obtain ⟨hbb0, hbb1⟩ : 0 ≤ bb ∧ bb < 256 := by rw [← hbb]; exact u8_rng _
  obtain ⟨nv, hnv⟩ : ∃ nv, v + (bb - v / 256 ^ (a % 4 % 4).toNat % 256) * 256 ^ (a % 4 % 4).toNat = nv := ⟨_, rfl⟩
  have hBy := fun w' => WordB.withbyte_c v (a % 4) bb hv0 hv1 (by omega) (by omega) hbb0 hbb1 w'
  rw [hnv] at hBy
  replace hBy := Lib.hid hBy
  have hm4 : Hid (a.tmod 4 = a % 4) := Lib.hid (Int.tmod_eq_emod_of_nonneg h0)
  have hm5 : Hid (IntKind.i64.wrap (a % 4) = a % 4) := Lib.hid (by simp only [IntKind.wrap, IntKind.signed, IntKind.bits]; simp; omega)
  have hbw := Lib.hid hbb
  clear hnv hbb
  clear hv hm2 hok
  generalize fD d (a / 64) b e true = d2 at *
  replace hw1 := Lib.hid hw1
  replace hw2 := Lib.hid hw2
  have CH := Lib.hid C
  obtain ⟨ngx, ngm, ngp, ngt⟩ := C.ne_ HD
  have zg := HD.lt
  have zgt := C.lt.2.2.2
  have zgp := C.lt.2.2.1
  clear C hgb hge hX
  replace hD2 := Lib.hid hD2
  go_enter Try.func79, Try.ntmps79
  go_upto_region 1 with ((with_reducible refine wl_box rfl 94 _ rfl (ins 17 ra rb im) rfl ?_); intro w1 k1 b1 s1)
  have HD := HD.below b1
  have C1 := CH.out.below b1
  have O := Out.of_below b1 (fun i => i = g ∨ i = gt ∨ i = gp)
  refine wp_region_held_drew (S := (fun w' => Blk w' w.heap.size 94 (ins 17 ra rb im) ∧ Blk w' g 140 (dg x d))) (by kernel_rfl) (⟨k1.drew, HD.drew⟩) (fun hHeld => ?_)
  refine wpAnyH_take (i := 0) (oi := { dst := some 9, op := Op.move (Operand.tmp 0), type := 138, pos := "cpu.go:101", after := #[], guard := none }) (v := ?_) rfl (by kernel_rfl) (by kernel_rfl) (by kernel_rfl) (fun _ _ _ h => h) ?_ hHeld ?_
  rotate_left
  · refine Or.inl ⟨by rfl, fun w hSw => ?_⟩; skip; go_simp; (try with_reducible rfl)
  try simp only [Act.put, List.setIfInBounds_toArray, List.set_cons_zero, List.set_cons_succ]
  refine wpAnyH_take (i := 1) (oi := { dst := some 10, op := Op.fieldAddr 94 (Operand.tmp 3) 2, type := 0, pos := "cpu.go:101", after := #[], guard := none }) (v := ?_) rfl (by kernel_rfl) (by kernel_rfl) (by kernel_rfl) (fun _ _ _ h => h) ?_ hHeld ?_
  rotate_left
  · refine Or.inl ⟨by rfl, fun w hSw => ?_⟩; skip; go_simp; (try with_reducible rfl)
  try simp only [Act.put, List.setIfInBounds_toArray, List.set_cons_zero, List.set_cons_succ]
  refine wpAnyH_take (i := 2) (oi := { dst := some 11, op := Op.load 3 (Operand.tmp 10), type := 3, pos := "cpu.go:101", after := #[{ on := 1, ground := Ground.data }], guard := none }) (v := ?_) rfl (by kernel_rfl) (by kernel_rfl) (by kernel_rfl) (fun _ _ _ h => h) ?_ hHeld ?_
  rotate_left
  · refine Or.inl ⟨by rfl, fun w' hSw => ?_⟩; have c0 : w'.cell? ⟨w.heap.size, 2, none⟩ = some (.int .i64 rb) := hSw.1.cellv 2 _ rfl; go_simp; (try with_reducible rfl)
  try simp only [Act.put, List.setIfInBounds_toArray, List.set_cons_zero, List.set_cons_succ]
  refine wpAnyH_take (i := 3) (oi := { dst := some 12, op := Op.nilCheck (Operand.tmp 9), type := 0, pos := "cpu.go:101", after := #[{ on := 0, ground := Ground.data }], guard := none }) (v := ?_) rfl (by kernel_rfl) (by kernel_rfl) (by kernel_rfl) (fun _ _ _ h => h) ?_ hHeld ?_
  rotate_left
  · refine Or.inl ⟨by rfl, fun w hSw => ?_⟩; skip; go_simp; (try with_reducible rfl)
  try simp only [Act.put, List.setIfInBounds_toArray, List.set_cons_zero, List.set_cons_succ]
  refine wpAnyH_take (i := 4) (oi := { dst := some 13, op := Op.fieldAddr 140 (Operand.tmp 12) 2, type := 0, pos := "cpu.go:101", after := #[{ on := 3, ground := Ground.data }], guard := none }) (v := ?_) rfl (by kernel_rfl) (by kernel_rfl) (by kernel_rfl) (fun _ _ _ h => h) ?_ hHeld ?_
  rotate_left
  · refine Or.inl ⟨by rfl, fun w hSw => ?_⟩; skip; go_simp; (try with_reducible rfl)
  try simp only [Act.put, List.setIfInBounds_toArray, List.set_cons_zero, List.set_cons_succ]
  refine wpAnyH_take (i := 5) (oi := { dst := some 14, op := Op.fieldAddr 109 (Operand.tmp 13) 0, type := 0, pos := "cpu.go:101", after := #[{ on := 4, ground := Ground.data }], guard := none }) (v := ?_) rfl (by kernel_rfl) (by kernel_rfl) (by kernel_rfl) (fun _ _ _ h => h) ?_ hHeld ?_
  rotate_left
  · refine Or.inl ⟨by rfl, fun w hSw => ?_⟩; skip; go_simp; (try with_reducible rfl)
  try simp only [Act.put, List.setIfInBounds_toArray, List.set_cons_zero, List.set_cons_succ]
  refine wpAnyH_take (i := 6) (oi := { dst := some 15, op := Op.indexAddr 39 (Operand.tmp 14) (Operand.tmp 11), type := 0, pos := "cpu.go:101", after := #[{ on := 5, ground := Ground.data }, { on := 2, ground := Ground.data }], guard := none }) (v := ?_) rfl (by kernel_rfl) (by kernel_rfl) (by kernel_rfl) (fun _ _ _ h => h) ?_ hHeld ?_
  rotate_left
  · refine Or.inl ⟨by rfl, fun w hSw => ?_⟩; skip; go_simp; (try with_reducible rfl)
  try simp only [Act.put, List.setIfInBounds_toArray, List.set_cons_zero, List.set_cons_succ]
  refine wpAnyH_take (i := 7) (oi := { dst := some 16, op := Op.load 28 (Operand.tmp 15), type := 28, pos := "cpu.go:101", after := #[{ on := 6, ground := Ground.data }], guard := none }) (v := ?_) rfl (by kernel_rfl) (by kernel_rfl) (by kernel_rfl) (fun _ _ _ h => h) ?_ hHeld ?_
  rotate_left
  · refine Or.inl ⟨by rfl, fun w' hSw => ?_⟩; have c0 : w'.cell? ⟨g, 2 + rb, none⟩ = some (.int .u32 rv) := hSw.2.cellv _ _ hrb.out; go_simp; (try with_reducible rfl)
  try simp only [Act.put, List.setIfInBounds_toArray, List.set_cons_zero, List.set_cons_succ]
  refine wpAnyH_take (i := 8) (oi := { dst := some 17, op := Op.fieldAddr 94 (Operand.tmp 3) 3, type := 0, pos := "cpu.go:101", after := #[], guard := none }) (v := ?_) rfl (by kernel_rfl) (by kernel_rfl) (by kernel_rfl) (fun _ _ _ h => h) ?_ hHeld ?_
  rotate_left
  · refine Or.inl ⟨by rfl, fun w hSw => ?_⟩; skip; go_simp; (try with_reducible rfl)
  try simp only [Act.put, List.setIfInBounds_toArray, List.set_cons_zero, List.set_cons_succ]
  refine wpAnyH_take (i := 9) (oi := { dst := some 18, op := Op.load 3 (Operand.tmp 17), type := 3, pos := "cpu.go:101", after := #[{ on := 8, ground := Ground.data }], guard := none }) (v := ?_) rfl (by kernel_rfl) (by kernel_rfl) (by kernel_rfl) (fun _ _ _ h => h) ?_ hHeld ?_
  rotate_left
  · refine Or.inl ⟨by rfl, fun w' hSw => ?_⟩; have c0 : w'.cell? ⟨w.heap.size, 3, none⟩ = some (.int .i64 im) := hSw.1.cellv 3 _ rfl; go_simp; (try with_reducible rfl)
  try simp only [Act.put, List.setIfInBounds_toArray, List.set_cons_zero, List.set_cons_succ]
  refine wpAnyH_take (i := 10) (oi := { dst := some 19, op := Op.convert 3 28 (Operand.tmp 18), type := 28, pos := "cpu.go:101", after := #[{ on := 9, ground := Ground.data }], guard := none }) (v := ?_) rfl (by kernel_rfl) (by kernel_rfl) (by kernel_rfl) (fun _ _ _ h => h) ?_ hHeld ?_
  rotate_left
  · refine Or.inl ⟨by rfl, fun w hSw => ?_⟩; have c0 := hw1.out; go_simp; (try with_reducible rfl)
  try simp only [Act.put, List.setIfInBounds_toArray, List.set_cons_zero, List.set_cons_succ]
  refine wpAnyH_take (i := 11) (oi := { dst := some 20, op := Op.binOp BinOp.add 28 (Operand.tmp 16) (Operand.tmp 19) 28, type := 28, pos := "cpu.go:101", after := #[{ on := 7, ground := Ground.data }, { on := 10, ground := Ground.data }], guard := none }) (v := ?_) rfl (by kernel_rfl) (by kernel_rfl) (by kernel_rfl) (fun _ _ _ h => h) ?_ hHeld ?_
  rotate_left
  · refine Or.inl ⟨by rfl, fun w hSw => ?_⟩; have c0 := hw2.out; go_simp; (try with_reducible rfl)
  try simp only [Act.put, List.setIfInBounds_toArray, List.set_cons_zero, List.set_cons_succ]
  refine wpAnyH_take (i := 12) (oi := { dst := some 4, op := Op.assign (Operand.tmp 20), type := 28, pos := "cpu.go:101", after := #[{ on := 11, ground := Ground.data }, { on := 0, ground := Ground.phase }, { on := 1, ground := Ground.phase }, { on := 2, ground := Ground.phase }, { on := 3, ground := Ground.phase }, { on := 4, ground := Ground.phase }, { on := 5, ground := Ground.phase }, { on := 6, ground := Ground.phase }, { on := 7, ground := Ground.phase }, { on := 8, ground := Ground.phase }, { on := 9, ground := Ground.phase }, { on := 10, ground := Ground.phase }, { on := 11, ground := Ground.phase }], guard := none }) (v := ?_) rfl (by kernel_rfl) (by kernel_rfl) (by kernel_rfl) (fun _ _ _ h => h) ?_ hHeld ?_
  rotate_left
  · refine Or.inl ⟨by rfl, fun w hSw => ?_⟩; skip; go_simp; (try with_reducible rfl)
  try simp only [Act.put, List.setIfInBounds_toArray, List.set_cons_zero, List.set_cons_succ]
  refine wpAnyH_done (by kernel_rfl) ?_ _
  have k1 := hHeld.1
  have HD := hHeld.2
  have C1 := C1.below (bl_drew (bl_refl w1))
  have O := O.trans (Out.of_below (bl_drew (bl_refl w1)) (fun i => i = g ∨ i = gt ∨ i = gp)) (fun i h => .inl h)
  have z1 : w.heap.size < w1.drew.heap.size := k1.lt
  clear hHeld hw1 hw2 hrb b1
  generalize w1.drew = w2 at *
  have i0 : w2.cell? ⟨w.heap.size, 0, none⟩ = some (.int .i64 17) := k1.cellv 0 _ rfl
  have C1' := Lib.hid C1
  clear C1 CH
  go_wp2_with fail
  refine (hLd.out w2 HD C1'.out).mono ?_
  rintro r w3 ⟨rfl, HD3, C3, O3⟩
  have k3 := Out.Blk.out k1 O3 (fun h => by rcases h with h | h <;> omega)
  have O := O.trans O3 (fun i h => .inl (by rcases h with h | h; exact .inl h; exact .inr (.inl h)))
  have i0 : w3.cell? ⟨w.heap.size, 0, none⟩ = some (.int .i64 17) := k3.cellv 0 _ rfl
  have C3' := Lib.hid C3
  have z3 := k3.lt
  clear C3 C1' hLd O3 k1 HD
  cases ok with
  | false =>
    go_wp2_with fail
    go_end0
    exact ⟨rfl, d2, X, m2, HD3, hD2.out, C3'.out, O, .inl rfl⟩
  | true =>
    rw [hOk.out rfl] at HD3
    have hb2 := hOk2.out rfl
    replace hSt := Lib.hid (hSt.out rfl)
    go_upto_region 6 with fail
    have HD := HD3.drew
    have C4 := C3'.out.below (bl_drew (bl_refl w3))
    have O := O.trans (Out.of_below (bl_drew (bl_refl w3)) (fun i => i = g ∨ i = gt ∨ i = gp)) (fun i h => .inl h)
    clear C3' i0 HD3
    refine wp_region_held_drew (S := (fun w' => Blk w' w.heap.size 94 (ins 17 ra rb im) ∧ Blk w' g 140 (dg x d))) (by kernel_rfl) (⟨k3.drew, HD⟩) (fun hHeld => ?_)
    refine wpAnyH_take (i := 0) (oi := { dst := some 51, op := Op.move (Operand.tmp 0), type := 138, pos := "cpu.go:117", after := #[], guard := none }) (v := ?_) rfl (by kernel_rfl) (by kernel_rfl) (by kernel_rfl) (fun _ _ _ h => h) ?_ hHeld ?_
    rotate_left
    · refine Or.inl ⟨by rfl, fun w hSw => ?_⟩; skip; go_simp; (try with_reducible rfl)
    try simp only [Act.put, List.setIfInBounds_toArray, List.set_cons_zero, List.set_cons_succ]
    refine wpAnyH_take (i := 1) (oi := { dst := some 52, op := Op.move (Operand.tmp 4), type := 28, pos := "cpu.go:117", after := #[], guard := none }) (v := ?_) rfl (by kernel_rfl) (by kernel_rfl) (by kernel_rfl) (fun _ _ _ h => h) ?_ hHeld ?_
    rotate_left
    · refine Or.inl ⟨by rfl, fun w hSw => ?_⟩; skip; go_simp; (try with_reducible rfl)
    try simp only [Act.put, List.setIfInBounds_toArray, List.set_cons_zero, List.set_cons_succ]
    refine wpAnyH_take (i := 2) (oi := { dst := some 53, op := Op.move (Operand.tmp 7), type := 28, pos := "cpu.go:117", after := #[], guard := none }) (v := ?_) rfl (by kernel_rfl) (by kernel_rfl) (by kernel_rfl) (fun _ _ _ h => h) ?_ hHeld ?_
    rotate_left
    · refine Or.inl ⟨by rfl, fun w hSw => ?_⟩; skip; go_simp; (try with_reducible rfl)
    try simp only [Act.put, List.setIfInBounds_toArray, List.set_cons_zero, List.set_cons_succ]
    refine wpAnyH_take (i := 3) (oi := { dst := some 54, op := Op.move (Operand.tmp 4), type := 28, pos := "cpu.go:117", after := #[], guard := none }) (v := ?_) rfl (by kernel_rfl) (by kernel_rfl) (by kernel_rfl) (fun _ _ _ h => h) ?_ hHeld ?_
    rotate_left
    · refine Or.inl ⟨by rfl, fun w hSw => ?_⟩; skip; go_simp; (try with_reducible rfl)
    try simp only [Act.put, List.setIfInBounds_toArray, List.set_cons_zero, List.set_cons_succ]
    refine wpAnyH_take (i := 4) (oi := { dst := some 55, op := Op.binOp BinOp.rem 28 (Operand.tmp 54) (Operand.const (Value.int IntKind.u32 4)) 28, type := 28, pos := "cpu.go:117", after := #[{ on := 3, ground := Ground.data }], guard := none }) (v := ?_) rfl (by kernel_rfl) (by kernel_rfl) (by kernel_rfl) (fun _ _ _ h => h) ?_ hHeld ?_
    rotate_left
    · refine Or.inl ⟨by rfl, fun w hSw => ?_⟩; have c0 := hm4.out; go_simp; (try with_reducible rfl)
    try simp only [Act.put, List.setIfInBounds_toArray, List.set_cons_zero, List.set_cons_succ]
    refine wpAnyH_take (i := 5) (oi := { dst := some 56, op := Op.convert 28 3 (Operand.tmp 55), type := 3, pos := "cpu.go:117", after := #[{ on := 4, ground := Ground.data }], guard := none }) (v := ?_) rfl (by kernel_rfl) (by kernel_rfl) (by kernel_rfl) (fun _ _ _ h => h) ?_ hHeld ?_
    rotate_left
    · refine Or.inl ⟨by rfl, fun w hSw => ?_⟩; have c0 := hm5.out; go_simp; (try with_reducible rfl)
    try simp only [Act.put, List.setIfInBounds_toArray, List.set_cons_zero, List.set_cons_succ]
    refine wpAnyH_take (i := 6) (oi := { dst := some 57, op := Op.move (Operand.tmp 0), type := 138, pos := "cpu.go:117", after := #[], guard := none }) (v := ?_) rfl (by kernel_rfl) (by kernel_rfl) (by kernel_rfl) (fun _ _ _ h => h) ?_ hHeld ?_
    rotate_left
    · refine Or.inl ⟨by rfl, fun w hSw => ?_⟩; skip; go_simp; (try with_reducible rfl)
    try simp only [Act.put, List.setIfInBounds_toArray, List.set_cons_zero, List.set_cons_succ]
    refine wpAnyH_take (i := 7) (oi := { dst := some 58, op := Op.fieldAddr 94 (Operand.tmp 3) 1, type := 0, pos := "cpu.go:117", after := #[], guard := none }) (v := ?_) rfl (by kernel_rfl) (by kernel_rfl) (by kernel_rfl) (fun _ _ _ h => h) ?_ hHeld ?_
    rotate_left
    · refine Or.inl ⟨by rfl, fun w hSw => ?_⟩; skip; go_simp; (try with_reducible rfl)
    try simp only [Act.put, List.setIfInBounds_toArray, List.set_cons_zero, List.set_cons_succ]
    refine wpAnyH_take (i := 8) (oi := { dst := some 59, op := Op.load 3 (Operand.tmp 58), type := 3, pos := "cpu.go:117", after := #[{ on := 7, ground := Ground.data }], guard := none }) (v := ?_) rfl (by kernel_rfl) (by kernel_rfl) (by kernel_rfl) (fun _ _ _ h => h) ?_ hHeld ?_
    rotate_left
    · refine Or.inl ⟨by rfl, fun w' hSw => ?_⟩; have c0 : w'.cell? ⟨w.heap.size, 1, none⟩ = some (.int .i64 ra) := hSw.1.cellv 1 _ rfl; go_simp; (try with_reducible rfl)
    try simp only [Act.put, List.setIfInBounds_toArray, List.set_cons_zero, List.set_cons_succ]
    refine wpAnyH_take (i := 9) (oi := { dst := some 60, op := Op.nilCheck (Operand.tmp 57), type := 0, pos := "cpu.go:117", after := #[{ on := 6, ground := Ground.data }], guard := none }) (v := ?_) rfl (by kernel_rfl) (by kernel_rfl) (by kernel_rfl) (fun _ _ _ h => h) ?_ hHeld ?_
    rotate_left
    · refine Or.inl ⟨by rfl, fun w hSw => ?_⟩; skip; go_simp; (try with_reducible rfl)
    try simp only [Act.put, List.setIfInBounds_toArray, List.set_cons_zero, List.set_cons_succ]
    refine wpAnyH_take (i := 10) (oi := { dst := some 61, op := Op.fieldAddr 140 (Operand.tmp 60) 2, type := 0, pos := "cpu.go:117", after := #[{ on := 9, ground := Ground.data }], guard := none }) (v := ?_) rfl (by kernel_rfl) (by kernel_rfl) (by kernel_rfl) (fun _ _ _ h => h) ?_ hHeld ?_
    rotate_left
    · refine Or.inl ⟨by rfl, fun w hSw => ?_⟩; skip; go_simp; (try with_reducible rfl)
    try simp only [Act.put, List.setIfInBounds_toArray, List.set_cons_zero, List.set_cons_succ]
    refine wpAnyH_take (i := 11) (oi := { dst := some 62, op := Op.fieldAddr 109 (Operand.tmp 61) 0, type := 0, pos := "cpu.go:117", after := #[{ on := 10, ground := Ground.data }], guard := none }) (v := ?_) rfl (by kernel_rfl) (by kernel_rfl) (by kernel_rfl) (fun _ _ _ h => h) ?_ hHeld ?_
    rotate_left
    · refine Or.inl ⟨by rfl, fun w hSw => ?_⟩; skip; go_simp; (try with_reducible rfl)
    try simp only [Act.put, List.setIfInBounds_toArray, List.set_cons_zero, List.set_cons_succ]
    refine wpAnyH_take (i := 12) (oi := { dst := some 63, op := Op.indexAddr 39 (Operand.tmp 62) (Operand.tmp 59), type := 0, pos := "cpu.go:117", after := #[{ on := 11, ground := Ground.data }, { on := 8, ground := Ground.data }], guard := none }) (v := ?_) rfl (by kernel_rfl) (by kernel_rfl) (by kernel_rfl) (fun _ _ _ h => h) ?_ hHeld ?_
    rotate_left
    · refine Or.inl ⟨by rfl, fun w hSw => ?_⟩; skip; go_simp; (try with_reducible rfl)
    try simp only [Act.put, List.setIfInBounds_toArray, List.set_cons_zero, List.set_cons_succ]
    refine wpAnyH_take (i := 13) (oi := { dst := some 64, op := Op.load 28 (Operand.tmp 63), type := 28, pos := "cpu.go:117", after := #[{ on := 12, ground := Ground.data }], guard := none }) (v := ?_) rfl (by kernel_rfl) (by kernel_rfl) (by kernel_rfl) (fun _ _ _ h => h) ?_ hHeld ?_
    rotate_left
    · refine Or.inl ⟨by rfl, fun w' hSw => ?_⟩; have c0 : w'.cell? ⟨g, 2 + ra, none⟩ = some (.int .u32 rav) := hSw.2.cellv _ _ hra.out; go_simp; (try with_reducible rfl)
    try simp only [Act.put, List.setIfInBounds_toArray, List.set_cons_zero, List.set_cons_succ]
    refine wpAnyH_take (i := 14) (oi := { dst := some 65, op := Op.convert 28 5 (Operand.tmp 64), type := 5, pos := "cpu.go:117", after := #[{ on := 13, ground := Ground.data }], guard := none }) (v := ?_) rfl (by kernel_rfl) (by kernel_rfl) (by kernel_rfl) (fun _ _ _ h => h) ?_ hHeld ?_
    rotate_left
    · refine Or.inl ⟨by rfl, fun w hSw => ?_⟩; have c0 := hbw.out; go_simp; (try with_reducible rfl)
    try simp only [Act.put, List.setIfInBounds_toArray, List.set_cons_zero, List.set_cons_succ]
    refine wpAnyH_ready (rs := [15]) (by kernel_rfl) (by simp) ?_
    refine AllReadyH.cons (o := { dst := some 66, op := Op.call { callee := Callee.value (Operand.func 85), args := #[Operand.tmp 53, Operand.tmp 56, Operand.tmp 65], argTypes := #[28, 3, 5] }, type := 28, pos := "cpu.go:117", after := #[{ on := 2, ground := Ground.data }, { on := 5, ground := Ground.data }, { on := 14, ground := Ground.data }], guard := none }) rfl (fun Kc hKc => ?_) AllReadyH.nil
    go_simp
    refine (hBy.out _).mono ?_
    rintro r wq ⟨rfl, bq⟩
    have C4 := C4.below bq
    have O := O.trans (Out.of_below bq (fun i => i = g ∨ i = gt ∨ i = gp)) (fun i h => .inl h)
    refine hKc.out _ _ (⟨hHeld.1.below bq, hHeld.2.below bq⟩) (fun hHeld => ?_)
    clear hKc Kc
    try simp only [Act.put, List.setIfInBounds_toArray, List.set_cons_zero, List.set_cons_succ]
    refine wpAnyH_ready (rs := [16]) (by kernel_rfl) (by simp) ?_
    refine AllReadyH.cons (o := { dst := some 67, op := Op.call { callee := Callee.value (Operand.func 84), args := #[Operand.tmp 51, Operand.tmp 52, Operand.tmp 66], argTypes := #[138, 28, 28] }, type := 0, pos := "cpu.go:117", after := #[{ on := 0, ground := Ground.data }, { on := 1, ground := Ground.data }, { on := 15, ground := Ground.data }, { on := 15, ground := Ground.chain }], guard := none }) rfl (fun Kc hKc => ?_) AllReadyH.nil
    go_simp
    refine (hSt.out nv _ hHeld.2 C4).mono ?_
    rintro r wt ⟨rfl, KD, C5, Oq⟩
    have O := O.trans Oq (fun i h => .inl h)
    refine hKc.out _ _ (⟨Out.Blk.out hHeld.1 Oq (fun h => by rcases h with h | h | h <;> omega), KD⟩) (fun hHeld => ?_)
    clear hKc Kc
    try simp only [Act.put, List.setIfInBounds_toArray, List.set_cons_zero, List.set_cons_succ]
    refine wpAnyH_done (by kernel_rfl) ?_ _
    go_wp2_with fail
    go_end0
    exact ⟨rfl, d, _, _, hHeld.2, hR, C5, O, .inr ⟨ht, e, (hmem.out hb2.1).1, (hmem.out hb2.1).2, hb2.2, _, _, rfl⟩⟩

end Go.Proofs.Ytdokmnpkihmkpaa.CpuC
