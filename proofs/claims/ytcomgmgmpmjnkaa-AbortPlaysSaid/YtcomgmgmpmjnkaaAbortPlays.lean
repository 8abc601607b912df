/- AbortPlays: at all deeds the law's text returns true. -/
import Derived.Test.YtcomgmgmpmjnkaaAbortI
import Derived.Test.YtcomgmgmpmjnkaaAbortArg
import Derived.Test.YtcomgmgmpmjnkaaHeldX
import Derived.Deep.DeepCutAuto
import Derived.Deep.CutBlock
set_option linter.unusedVariables false
namespace Go.Proofs.Ytcomgmgmpmjnkaa.AbortPlays
open Go.RowKit Go.Proofs.Ytcomgmgmpmjnkaa.Base Go.Proofs.Ytcomgmgmpmjnkaa.Row Go.Proofs.Ytcomgmgmpmjnkaa.App Go.Proofs.Ytcomgmgmpmjnkaa.Multi Go.Proofs.Ytcomgmgmpmjnkaa.StEq Go.Proofs.Ytcomgmgmpmjnkaa.Held Go.Proofs.Ytcomgmgmpmjnkaa.Out Go.Proofs.Ytcomgmgmpmjnkaa.HeldW Go.Proofs.Ytcomgmgmpmjnkaa.HeldX Go.Proofs.Ytcomgmgmpmjnkaa.AbortMath Go.Proofs.Ytcomgmgmpmjnkaa.Abort Go.Proofs.Ytcomgmgmpmjnkaa.Abort2 Go.Proofs.Ytcomgmgmpmjnkaa.Abort3 Go.Proofs.Ytcomgmgmpmjnkaa.Abort4 Go.Proofs.Ytcomgmgmpmjnkaa.Abort5 Go.Proofs.Ytcomgmgmpmjnkaa.Abort6 Go.Proofs.Ytcomgmgmpmjnkaa.Abort7 Go.Proofs.Ytcomgmgmpmjnkaa.Abort8 Go.Proofs.Ytcomgmgmpmjnkaa.AbortB Go.Proofs.Ytcomgmgmpmjnkaa.AbortC Go.Proofs.Ytcomgmgmpmjnkaa.AbortD Go.Proofs.Ytcomgmgmpmjnkaa.AbortG Go.Proofs.Ytcomgmgmpmjnkaa.AbortH Go.Proofs.Ytcomgmgmpmjnkaa.AbortI Go.Proofs.Ytcomgmgmpmjnkaa.AbortArg Go.Proofs.Ytcomgmgmpmjnkaa.Flat

theorem isr_len {w : World} {A : Option Addr} {n c : Nat} {l : List Wt} (h : IsR w A n c l) : n = l.length := ist_len h
theorem gone_wout (l : List Wt) (e : Int) : wout l e (-1) 0 = gone l e := by
  unfold wout gone off
  simp
theorem gone_fit {l : List Wt} (h : Fit l) (e : Int) : Fit (gone l e) := by rw [← gone_wout]; exact wout_fit h
theorem gone_nd {l : List Wt} (h : Nd l) (e : Int) : Nd (gone l e) := nd_sub h List.filter_sublist
def AskL (er : Int) (l2 : List Wt) (w w' : World) (r : Ending) : Prop := (∃ A1 n1 c1, r = .returned (.tuple #[.agg (lv A1 n1 c1), .int .i64 er]) ∧ IsL w' A1 n1 c1 l2) ∧ Below w.heap.size w w'
theorem ask_l (A : Option Addr) (n c : Nat) (l : List Wt) (x : Wt) (er : Int) (l2 : List Wt) (h : pask l x = (er, l2)) (w : World) (hl : IsL w A n c l) (hn : n ≤ 64) :
    Calls Try.prog 25 #[.agg (lv A n c), .agg (wa x)] w fun r w' => AskL er l2 w w' r := by
  have := ask_c A n c l x w hl hn
  refine this.mono ?_
  rintro r w1 ⟨⟨A1, n1, c1, rfl, hI⟩, b1⟩
  rw [h] at hI ⊢
  exact ⟨⟨A1, n1, c1, rfl, hI⟩, b1⟩
def RAskL (er : Int) (l2 : List Wt) (w w' : World) (r : Ending) : Prop := (∃ A1 n1 c1, r = .returned (.tuple #[.slice A1 n1 c1, .int .i64 er]) ∧ IsR w' A1 n1 c1 l2) ∧ Below w.heap.size w w'
theorem rask_l (A : Option Addr) (n c : Nat) (l : List Wt) (x : Wt) (er : Int) (l2 : List Wt) (h : pask l x = (er, l2)) (w : World) (hl : IsR w A n c l) (hn : n ≤ 64) :
    Calls Try.prog 30 #[.slice A n c, .agg (wa x)] w fun r w' => RAskL er l2 w w' r := by
  have := rask_c A n c l x w hl hn
  refine this.mono ?_
  rintro r w1 ⟨⟨A1, n1, c1, rfl, hI⟩, b1⟩
  rw [h] at hI ⊢
  exact ⟨⟨A1, n1, c1, rfl, hI⟩, b1⟩
def Sit (w wr : World) (gw : Nat) (x : Wt) (y : Value) : Prop := ∃ (A : Option Addr) (c : Nat) (A' : Option Addr) (c' : Nat) (l : List Wt), y = .slice A' l.length c' ∧ Blk wr w.heap.size 67 (lv A l.length c) ∧ IsL wr A l.length c l ∧ IsR wr A' l.length c' l ∧ Fit l ∧ Nd l ∧ Blk wr gw 64 (wa x) ∧ Below w.heap.size w wr
def Sit2 (w wr : World) (gw : Nat) (x : Wt) (A : Option Addr) (c : Nat) (A' : Option Addr) (c' : Nat) (l l2 : List Wt) (er : Int) (s8 s9 : Value) : Prop := ∃ (g : Nat) (A1 : Option Addr) (c1 : Nat), s8 = .pointer (some ⟨g, 0, none⟩) ∧ s9 = .int .i64 er ∧ Blk wr w.heap.size 67 (lv A l.length c) ∧ Blk wr gw 64 (wa x) ∧ Blk wr g 67 (lv A1 l2.length c1) ∧ gw < g ∧ w.heap.size < g ∧ IsL wr A1 l2.length c1 l2 ∧ IsR wr A' l.length c' l ∧ Below w.heap.size w wr
set_option maxRecDepth 100000 in
set_option maxHeartbeats 16000000 in
theorem main (A0 : Option Addr) (n0 c0 : Nat) (w : World) (hd : FlatRow w d5 A0 n0 c0) :
    Calls Try.prog 8 #[.slice A0 n0 c0] w fun e w' => e = .returned (.bool true) ∧ Below w.heap.size w w' := by
  have hdd := Lib.hid hd
  have hmx := flat_max hd
  clear hd
  go_enter Try.func8, Try.ntmps8
  go_wp2_with ((with_reducible refine wl_alloc rfl 67 rfl (lv none 0 0) new_l ?_); intro w1 k1 b1 s1)
  go_loopw [4, 5] (fun y i wr => ∃ (k : Nat) (A : Option Addr) (c : Nat) (A' : Option Addr) (c' : Nat) (l : List Wt), k ≤ n0 ∧ k ≤ 100 ∧ y = .slice A' l.length c' ∧ i = .int .i64 k ∧ Blk wr w.heap.size 67 (lv A l.length c) ∧ IsL wr A l.length c l ∧ IsR wr A' l.length c' l ∧ Fit l ∧ Nd l ∧ Below w.heap.size w wr) (fun _ i _ => 101 - (intOf i).toNat)
  case atStart => exact ⟨0, none, 0, none, 0, [], by omega, by omega, rfl, rfl, k1, isl_nil _, ist_nil _ _ _ _, fit_nil, List.Pairwise.nil, b1⟩
  case round =>
    clear k1 b1
    obtain ⟨k, A, c, A', c', l, hk, hk100, rfl, rfl, KX, HL, HR, HF, HN, HB⟩ := hrel
    obtain ⟨wo, rfl⟩ : ∃ wo : World, wo = wr := ⟨_, rfl⟩
    have hstop : (k < n0 ∧ k < 100) ∨ ((decide ((k : Int) < (n0 : Int)) = false ∧ n0 ≤ k) ∨ (decide ((k : Int) < (n0 : Int)) = true ∧ decide ((k : Int) < 100) = false ∧ k < n0)) := by
      by_cases h1 : k < n0
      · by_cases h2 : k < 100
        · exact .inl ⟨h1, h2⟩
        · exact .inr (.inr ⟨by simp; omega, by simp; omega, h1⟩)
      · exact .inr (.inl ⟨by simp; omega, by omega⟩)
    rcases hstop with ⟨hlt, hlt100⟩ | hstop
    · have hq : decide ((k : Int) < (n0 : Int)) = true := by simp; omega
      have hq2 : decide ((k : Int) < 100) = true := by simp; omega
      obtain ⟨ad, kd, x, rfl, DA⟩ := deed_at hdd.out k hlt
      have DB := DA.below HB
      have hDB := Lib.hid DB
      obtain ⟨e0, e1, e2, e3, e4⟩ := DB
      clear DA
      have hn64 : l.length ≤ 64 := HF.1
      have z1 := KX.lt
      have b7 := bl_alloc (bl_refl wo) (.cells #[.int .i64 x.e, .int .i64 x.k, .int .i64 x.n, .int .i64 x.l] 64)
      have KX := KX.below b7
      have HL := ist_below HL b7
      have HR := ist_below HR b7
      have HB := bl_then HB b7
      have KW : Blk (wo.alloc (.cells #[.int .i64 x.e, .int .i64 x.k, .int .i64 x.n, .int .i64 x.l] 64)) wo.heap.size 64 (wa x) := Blk.new wo 64 (wa x)
      have s7 : (wo.alloc (.cells #[.int .i64 x.e, .int .i64 x.k, .int .i64 x.n, .int .i64 x.l] 64)).heap.size = wo.heap.size + 1 := Array.size_push _
      go_upto_block 2 with (first
        | (refine wl_load rfl 67 (.tmp 3) rfl w.heap.size rfl 67 (lv A l.length c) _ KX Try.underlying67 rfl (lv_size _ _ _) ?_)
        | ((with_reducible refine wl_alloc rfl 67 rfl (lv none 0 0) new_l ?_); intro w8 k8 b8 s8)
        | ((refine wl_store rfl 67 _ _ rfl _ rfl (lv A l.length c) rfl 67 (lv none 0 0) k8 (lv_size _ _ _) rfl (lv_one _ _ _) ?_); intro w9 k9 g9 s9; rw [s7] at k9 g9; have b9 := below_grown b8 b8.size g9 (by omega); have e0' := (hDB.out.below (bl_then b7 b9)).1; have KX := KX.below b9; have KW := KW.below b9; have HL := ist_below HL b9; have HR := ist_below HR b9; have HB := bl_then HB b9))
      clear e0 e1 e2 e3 e4 e0' k8 b8 g9 b9 s7 b7 hDB hdd
      have g0 := KW.cellv 0 (.int .i64 x.e) rfl
      have g1 := KW.cellv 1 (.int .i64 x.k) rfl
      have g2 := KW.cellv 2 (.int .i64 x.n) rfl
      have zk9 := k9.lt
      go_cut [4] (fun y wx => Sit w wx wo.heap.size x y)
      case first =>
        have hcase : (kd = 0 ∨ kd = 1 ∨ kd = 2 ∨ kd = 3) ∨ kd = 4 ∨ kd = 5 ∨ ((kd == 0) = false ∧ (kd == 1) = false ∧ (kd == 2) = false ∧ (kd == 3) = false ∧ (kd == 4) = false ∧ (kd == 5) = false) := by
          by_cases h0 : kd = 0
          · exact .inl (.inl h0)
          by_cases h1 : kd = 1
          · exact .inl (.inr (.inl h1))
          by_cases h2 : kd = 2
          · exact .inl (.inr (.inr (.inl h2)))
          by_cases h3 : kd = 3
          · exact .inl (.inr (.inr (.inr h3)))
          by_cases h4 : kd = 4
          · exact .inr (.inl h4)
          by_cases h5 : kd = 5
          · exact .inr (.inr (.inl h5))
          exact .inr (.inr (.inr ⟨by simpa using h0, by simpa using h1, by simpa using h2, by simpa using h3, by simpa using h4, by simpa using h5⟩))
        rcases hcase with hkd | rfl | rfl | ⟨q0, q1, q2, q3, q4, q5⟩
        · obtain ⟨er, l2, hp⟩ : ∃ er l2, pask l x = (er, l2) := ⟨_, _, rfl⟩
          have hW := Lib.hid (fun w' => want_c x w')
          have hA := Lib.hid (fun w' (h : IsL w' A l.length c l) => ask_l A l.length c l x er l2 hp w' h hn64)
          have hR0 := Lib.hid (fun w' (h : IsR w' A' l.length c' l) => rask_l A' l.length c' l x er l2 hp w' h hn64)
          have hF2 := ask_fit HF x
          have hN2 := nd_ask (x := x) HN
          rw [hp] at hF2 hN2
          have hqe : (er != er) = false := by simp
          clear hp k9 zk9 g0 g1 g2
          go_upto_if 66 with fail
          go_cut [66] (fun s wx => s = .bool true ∧ wx = w9)
          case first =>
            clear hW hA hR0 hF2 hN2 hqe KX KW HB HL HR
            rcases hkd with rfl | rfl | rfl | rfl
            all_goals (
              go_wp2_with fail
              go_meet
              exact ⟨rfl, rfl⟩)
          case rest =>
            clear hkd
            obtain ⟨rfl, rfl⟩ := hcut
            go_upto_region 19 with fail
            go_cut [8, 9] (fun s8 s9 wx => Sit2 w wx wo.heap.size x A c A' c' l l2 er s8 s9)
            case first =>
              have KX := KX.drew
              have KW := KW.drew
              have HB := bl_drew HB
              have HL := ist_below HL (bl_drew (bl_refl _))
              have HR := ist_below HR (bl_drew (bl_refl _))
              refine wp_region_held_drew (S := (fun w' => Blk w' w.heap.size 67 (lv A l.length c) ∧ Blk w' wo.heap.size 64 (wa x))) (by kernel_rfl) (⟨KX, KW⟩) (fun hHeld => ?_)
              refine wpAnyH_take (i := 0) (oi := { dst := some 72, op := Op.load 67 (Operand.tmp 3), type := 67, pos := "law.go:52", after := #[], guard := none }) (v := ?_) rfl (by kernel_rfl) (by kernel_rfl) (by kernel_rfl) (fun _ _ _ h => h) ?_ hHeld ?_
              rotate_left
              · refine yIf_load 67 (.tmp 3) w.heap.size 67 (lv A l.length c) _ ?_ Try.underlying67 rfl (lv_size _ _ _) ?_ ?_ ?_
                · exact fun _ h => h.1
                · rfl
                · rfl
                · rfl
              try simp only [Act.put, List.setIfInBounds_toArray, List.set_cons_zero, List.set_cons_succ]
              refine wpAnyH_take (i := 1) (oi := { dst := some 73, op := Op.load 64 (Operand.tmp 6), type := 64, pos := "law.go:52", after := #[], guard := none }) (v := ?_) rfl (by kernel_rfl) (by kernel_rfl) (by kernel_rfl) (fun _ _ _ h => h) ?_ hHeld ?_
              rotate_left
              · refine yIf_load 64 (.tmp 6) wo.heap.size 64 (wa x) _ ?_ Try.underlying64 rfl (by kernel_rfl) ?_ ?_ ?_
                · exact fun _ h => h.2
                · rfl
                · rfl
                · rfl
              try simp only [Act.put, List.setIfInBounds_toArray, List.set_cons_zero, List.set_cons_succ]
              refine wpAnyH_ready (rs := [2, 7]) (by kernel_rfl) (by simp) ?_
              refine AllReadyH.cons (o := { dst := some 74, op := Op.call { callee := Callee.value (Operand.func 26), args := #[Operand.tmp 73], argTypes := #[64] }, type := 73, pos := "law.go:52", after := #[{ on := 1, ground := Ground.data }], guard := none }) rfl (fun Kc hKc => ?_) ?_
              · go_simp
                refine (hW.out _).mono ?_
                rintro r wa' ⟨rfl, ba⟩
                have HB := bl_then HB ba
                have HL := ist_below HL ba
                have HR := ist_below HR ba
                try have kN := Blk.below kN ba
                refine hKc.out _ _ (⟨Blk.below hHeld.1 ba, Blk.below hHeld.2 ba⟩) (fun hHeld => ?_)
                clear hKc Kc
                try simp only [Act.put, List.setIfInBounds_toArray, List.set_cons_zero, List.set_cons_succ]
                refine wpAnyH_ready (rs := [3, 7]) (by kernel_rfl) (by simp) ?_
                refine AllReadyH.cons (o := { dst := some 75, op := Op.call { callee := Callee.value (Operand.func 25), args := #[Operand.tmp 72, Operand.tmp 74], argTypes := #[67, 73] }, type := 71, pos := "law.go:52", after := #[{ on := 0, ground := Ground.data }, { on := 2, ground := Ground.data }, { on := 2, ground := Ground.chain }], guard := none }) rfl (fun Kc hKc => ?_) ?_
                · go_simp
                  refine (hA.out _ HL).mono ?_
                  rintro r wb ⟨⟨A1, n1, c1, rfl, hI⟩, bb⟩
                  obtain rfl := isl_len hI
                  have HB := bl_then HB bb
                  have HR := ist_below HR bb
                  try have kN := Blk.below kN bb
                  refine hKc.out _ _ (⟨Blk.below hHeld.1 bb, Blk.below hHeld.2 bb⟩) (fun hHeld => ?_)
                  clear hKc Kc
                  try simp only [Act.put, List.setIfInBounds_toArray, List.set_cons_zero, List.set_cons_succ]
                  refine wpAnyH_take (i := 4) (oi := { dst := some 71, op := Op.move (Operand.tmp 75), type := 71, pos := "law.go:52", after := #[{ on := 3, ground := Ground.data }], guard := none }) (v := ?_) rfl (by kernel_rfl) (by kernel_rfl) (by kernel_rfl) (fun _ _ _ h => h) ?_ hHeld ?_
                  rotate_left
                  · refine Or.inl ⟨by rfl, fun w hSw => ?_⟩; skip; go_simp; (try with_reducible rfl)
                  try simp only [Act.put, List.setIfInBounds_toArray, List.set_cons_zero, List.set_cons_succ]
                  refine wpAnyH_take (i := 5) (oi := { dst := some 76, op := Op.extract (Operand.tmp 71) 0, type := 67, pos := "law.go:52", after := #[{ on := 4, ground := Ground.data }], guard := none }) (v := ?_) rfl (by kernel_rfl) (by kernel_rfl) (by kernel_rfl) (fun _ _ _ h => h) ?_ hHeld ?_
                  rotate_left
                  · refine Or.inl ⟨by rfl, fun w hSw => ?_⟩; skip; go_simp; (try with_reducible rfl)
                  try simp only [Act.put, List.setIfInBounds_toArray, List.set_cons_zero, List.set_cons_succ]
                  refine wpAnyH_take (i := 6) (oi := { dst := some 77, op := Op.extract (Operand.tmp 71) 1, type := 70, pos := "law.go:52", after := #[{ on := 4, ground := Ground.data }, { on := 8, ground := Ground.gcOnly Departure.lateStores }], guard := none }) (v := ?_) rfl (by kernel_rfl) (by kernel_rfl) (by kernel_rfl) (fun _ _ _ h => h) ?_ hHeld ?_
                  rotate_left
                  · refine Or.inl ⟨by rfl, fun w hSw => ?_⟩; skip; go_simp; (try with_reducible rfl)
                  try simp only [Act.put, List.setIfInBounds_toArray, List.set_cons_zero, List.set_cons_succ]
                  refine wpAnyH_ready (rs := [7]) (by kernel_rfl) (by simp) ?_
                  refine AllReadyH.cons (o := { dst := some 8, op := Op.alloc 67, type := 0, pos := "law.go:52", after := #[], guard := none }) rfl (fun Kc hKc => ?_) AllReadyH.nil
                  refine step_of (by rfl) (wp_alloc 67 rfl (lv none 0 0) new_l ?_)
                  intro gN wN zN sN kN bN
                  have hgN : wo.heap.size < gN := Nat.lt_of_lt_of_le hHeld.2.lt zN
                  have hgN2 : w.heap.size < gN := Nat.lt_of_lt_of_le hHeld.1.lt zN
                  try have HL := ist_below HL bN
                  have HR := ist_below HR bN
                  try have hI := ist_below hI bN
                  have HB := bl_then HB bN
                  refine hKc.out _ _ (⟨Blk.below hHeld.1 bN, Blk.below hHeld.2 bN⟩) (fun hHeld => ?_)
                  clear hKc Kc
                  try simp only [Act.put, List.setIfInBounds_toArray, List.set_cons_zero, List.set_cons_succ]
                  refine wpAnyH_ready (rs := [8]) (by kernel_rfl) (by simp) ?_
                  refine AllReadyH.cons (o := { dst := none, op := Op.store 67 (Operand.tmp 8) (Operand.tmp 76), type := 0, pos := "law.go:52", after := #[{ on := 7, ground := Ground.data }, { on := 5, ground := Ground.data }, { on := 3, ground := Ground.chain }, { on := 0, ground := Ground.phase }, { on := 1, ground := Ground.phase }, { on := 2, ground := Ground.phase }, { on := 3, ground := Ground.phase }, { on := 4, ground := Ground.phase }, { on := 5, ground := Ground.phase }, { on := 6, ground := Ground.textOnly Departure.lateStores }, { on := 7, ground := Ground.phase }], guard := none }) rfl (fun Kc hKc => ?_) AllReadyH.nil
                  refine step_of (by rfl) (wp_whole 67 (.tmp 8) (.tmp 76) rfl gN (by rfl) (lv A1 l2.length c1) (by rfl) 67 (lv none 0 0) kN (lv_size _ _ _) rfl (lv_one _ _ _) ?_)
                  intro wS kS gS sS
                  have hI := isl_far hI gS kN
                  have HR := ist_far HR gS kN (by decide)
                  have HB := below_grown HB HB.size gS (by omega)
                  refine hKc.out _ _ (⟨Blk.grown hHeld.1 gS (fun e => by injection e with e; omega), Blk.grown hHeld.2 gS (fun e => by injection e with e; omega)⟩) (fun hHeld => ?_)
                  clear hKc Kc
                  try simp only [Act.put]
                  refine wpAnyH_take (i := 9) (oi := { dst := some 9, op := Op.assign (Operand.tmp 77), type := 70, pos := "law.go:52", after := #[{ on := 6, ground := Ground.data }, { on := 8, ground := Ground.chain }, { on := 0, ground := Ground.phase }, { on := 1, ground := Ground.phase }, { on := 2, ground := Ground.phase }, { on := 3, ground := Ground.phase }, { on := 4, ground := Ground.phase }, { on := 5, ground := Ground.phase }, { on := 6, ground := Ground.phase }, { on := 7, ground := Ground.phase }, { on := 8, ground := Ground.phase }], guard := none }) (v := ?_) rfl (by kernel_rfl) (by kernel_rfl) (by kernel_rfl) (fun _ _ _ h => h) ?_ hHeld ?_
                  rotate_left
                  · refine Or.inl ⟨by rfl, fun w hSw => ?_⟩; skip; go_simp; (try with_reducible rfl)
                  try simp only [Act.put, List.setIfInBounds_toArray, List.set_cons_zero, List.set_cons_succ]
                  refine wpAnyH_done (by kernel_rfl) ?_ _
                  go_wp2_with fail
                  go_meet
                  exact ⟨gN, A1, c1, rfl, rfl, hHeld.1, hHeld.2, kS, hgN, hgN2, hI, HR, HB⟩
                refine AllReadyH.cons (o := { dst := some 8, op := Op.alloc 67, type := 0, pos := "law.go:52", after := #[], guard := none }) rfl (fun Kc hKc => ?_) ?_
                · refine step_of (by rfl) (wp_alloc 67 rfl (lv none 0 0) new_l ?_)
                  intro gN wN zN sN kN bN
                  have hgN : wo.heap.size < gN := Nat.lt_of_lt_of_le hHeld.2.lt zN
                  have hgN2 : w.heap.size < gN := Nat.lt_of_lt_of_le hHeld.1.lt zN
                  try have HL := ist_below HL bN
                  have HR := ist_below HR bN
                  try have hI := ist_below hI bN
                  have HB := bl_then HB bN
                  refine hKc.out _ _ (⟨Blk.below hHeld.1 bN, Blk.below hHeld.2 bN⟩) (fun hHeld => ?_)
                  clear hKc Kc
                  try simp only [Act.put, List.setIfInBounds_toArray, List.set_cons_zero, List.set_cons_succ]
                  refine wpAnyH_ready (rs := [3]) (by kernel_rfl) (by simp) ?_
                  refine AllReadyH.cons (o := { dst := some 75, op := Op.call { callee := Callee.value (Operand.func 25), args := #[Operand.tmp 72, Operand.tmp 74], argTypes := #[67, 73] }, type := 71, pos := "law.go:52", after := #[{ on := 0, ground := Ground.data }, { on := 2, ground := Ground.data }, { on := 2, ground := Ground.chain }], guard := none }) rfl (fun Kc hKc => ?_) AllReadyH.nil
                  go_simp
                  refine (hA.out _ HL).mono ?_
                  rintro r wb ⟨⟨A1, n1, c1, rfl, hI⟩, bb⟩
                  obtain rfl := isl_len hI
                  have HB := bl_then HB bb
                  have HR := ist_below HR bb
                  try have kN := Blk.below kN bb
                  refine hKc.out _ _ (⟨Blk.below hHeld.1 bb, Blk.below hHeld.2 bb⟩) (fun hHeld => ?_)
                  clear hKc Kc
                  try simp only [Act.put, List.setIfInBounds_toArray, List.set_cons_zero, List.set_cons_succ]
                  refine wpAnyH_take (i := 4) (oi := { dst := some 71, op := Op.move (Operand.tmp 75), type := 71, pos := "law.go:52", after := #[{ on := 3, ground := Ground.data }], guard := none }) (v := ?_) rfl (by kernel_rfl) (by kernel_rfl) (by kernel_rfl) (fun _ _ _ h => h) ?_ hHeld ?_
                  rotate_left
                  · refine Or.inl ⟨by rfl, fun w hSw => ?_⟩; skip; go_simp; (try with_reducible rfl)
                  try simp only [Act.put, List.setIfInBounds_toArray, List.set_cons_zero, List.set_cons_succ]
                  refine wpAnyH_take (i := 5) (oi := { dst := some 76, op := Op.extract (Operand.tmp 71) 0, type := 67, pos := "law.go:52", after := #[{ on := 4, ground := Ground.data }], guard := none }) (v := ?_) rfl (by kernel_rfl) (by kernel_rfl) (by kernel_rfl) (fun _ _ _ h => h) ?_ hHeld ?_
                  rotate_left
                  · refine Or.inl ⟨by rfl, fun w hSw => ?_⟩; skip; go_simp; (try with_reducible rfl)
                  try simp only [Act.put, List.setIfInBounds_toArray, List.set_cons_zero, List.set_cons_succ]
                  refine wpAnyH_take (i := 6) (oi := { dst := some 77, op := Op.extract (Operand.tmp 71) 1, type := 70, pos := "law.go:52", after := #[{ on := 4, ground := Ground.data }, { on := 8, ground := Ground.gcOnly Departure.lateStores }], guard := none }) (v := ?_) rfl (by kernel_rfl) (by kernel_rfl) (by kernel_rfl) (fun _ _ _ h => h) ?_ hHeld ?_
                  rotate_left
                  · refine Or.inl ⟨by rfl, fun w hSw => ?_⟩; skip; go_simp; (try with_reducible rfl)
                  try simp only [Act.put, List.setIfInBounds_toArray, List.set_cons_zero, List.set_cons_succ]
                  refine wpAnyH_ready (rs := [8]) (by kernel_rfl) (by simp) ?_
                  refine AllReadyH.cons (o := { dst := none, op := Op.store 67 (Operand.tmp 8) (Operand.tmp 76), type := 0, pos := "law.go:52", after := #[{ on := 7, ground := Ground.data }, { on := 5, ground := Ground.data }, { on := 3, ground := Ground.chain }, { on := 0, ground := Ground.phase }, { on := 1, ground := Ground.phase }, { on := 2, ground := Ground.phase }, { on := 3, ground := Ground.phase }, { on := 4, ground := Ground.phase }, { on := 5, ground := Ground.phase }, { on := 6, ground := Ground.textOnly Departure.lateStores }, { on := 7, ground := Ground.phase }], guard := none }) rfl (fun Kc hKc => ?_) AllReadyH.nil
                  refine step_of (by rfl) (wp_whole 67 (.tmp 8) (.tmp 76) rfl gN (by rfl) (lv A1 l2.length c1) (by rfl) 67 (lv none 0 0) kN (lv_size _ _ _) rfl (lv_one _ _ _) ?_)
                  intro wS kS gS sS
                  have hI := isl_far hI gS kN
                  have HR := ist_far HR gS kN (by decide)
                  have HB := below_grown HB HB.size gS (by omega)
                  refine hKc.out _ _ (⟨Blk.grown hHeld.1 gS (fun e => by injection e with e; omega), Blk.grown hHeld.2 gS (fun e => by injection e with e; omega)⟩) (fun hHeld => ?_)
                  clear hKc Kc
                  try simp only [Act.put]
                  refine wpAnyH_take (i := 9) (oi := { dst := some 9, op := Op.assign (Operand.tmp 77), type := 70, pos := "law.go:52", after := #[{ on := 6, ground := Ground.data }, { on := 8, ground := Ground.chain }, { on := 0, ground := Ground.phase }, { on := 1, ground := Ground.phase }, { on := 2, ground := Ground.phase }, { on := 3, ground := Ground.phase }, { on := 4, ground := Ground.phase }, { on := 5, ground := Ground.phase }, { on := 6, ground := Ground.phase }, { on := 7, ground := Ground.phase }, { on := 8, ground := Ground.phase }], guard := none }) (v := ?_) rfl (by kernel_rfl) (by kernel_rfl) (by kernel_rfl) (fun _ _ _ h => h) ?_ hHeld ?_
                  rotate_left
                  · refine Or.inl ⟨by rfl, fun w hSw => ?_⟩; skip; go_simp; (try with_reducible rfl)
                  try simp only [Act.put, List.setIfInBounds_toArray, List.set_cons_zero, List.set_cons_succ]
                  refine wpAnyH_done (by kernel_rfl) ?_ _
                  go_wp2_with fail
                  go_meet
                  exact ⟨gN, A1, c1, rfl, rfl, hHeld.1, hHeld.2, kS, hgN, hgN2, hI, HR, HB⟩
                exact AllReadyH.nil
              refine AllReadyH.cons (o := { dst := some 8, op := Op.alloc 67, type := 0, pos := "law.go:52", after := #[], guard := none }) rfl (fun Kc hKc => ?_) ?_
              · refine step_of (by rfl) (wp_alloc 67 rfl (lv none 0 0) new_l ?_)
                intro gN wN zN sN kN bN
                have hgN : wo.heap.size < gN := Nat.lt_of_lt_of_le hHeld.2.lt zN
                have hgN2 : w.heap.size < gN := Nat.lt_of_lt_of_le hHeld.1.lt zN
                try have HL := ist_below HL bN
                have HR := ist_below HR bN
                try have hI := ist_below hI bN
                have HB := bl_then HB bN
                refine hKc.out _ _ (⟨Blk.below hHeld.1 bN, Blk.below hHeld.2 bN⟩) (fun hHeld => ?_)
                clear hKc Kc
                try simp only [Act.put, List.setIfInBounds_toArray, List.set_cons_zero, List.set_cons_succ]
                refine wpAnyH_ready (rs := [2]) (by kernel_rfl) (by simp) ?_
                refine AllReadyH.cons (o := { dst := some 74, op := Op.call { callee := Callee.value (Operand.func 26), args := #[Operand.tmp 73], argTypes := #[64] }, type := 73, pos := "law.go:52", after := #[{ on := 1, ground := Ground.data }], guard := none }) rfl (fun Kc hKc => ?_) AllReadyH.nil
                go_simp
                refine (hW.out _).mono ?_
                rintro r wa' ⟨rfl, ba⟩
                have HB := bl_then HB ba
                have HL := ist_below HL ba
                have HR := ist_below HR ba
                try have kN := Blk.below kN ba
                refine hKc.out _ _ (⟨Blk.below hHeld.1 ba, Blk.below hHeld.2 ba⟩) (fun hHeld => ?_)
                clear hKc Kc
                try simp only [Act.put, List.setIfInBounds_toArray, List.set_cons_zero, List.set_cons_succ]
                refine wpAnyH_ready (rs := [3]) (by kernel_rfl) (by simp) ?_
                refine AllReadyH.cons (o := { dst := some 75, op := Op.call { callee := Callee.value (Operand.func 25), args := #[Operand.tmp 72, Operand.tmp 74], argTypes := #[67, 73] }, type := 71, pos := "law.go:52", after := #[{ on := 0, ground := Ground.data }, { on := 2, ground := Ground.data }, { on := 2, ground := Ground.chain }], guard := none }) rfl (fun Kc hKc => ?_) AllReadyH.nil
                go_simp
                refine (hA.out _ HL).mono ?_
                rintro r wb ⟨⟨A1, n1, c1, rfl, hI⟩, bb⟩
                obtain rfl := isl_len hI
                have HB := bl_then HB bb
                have HR := ist_below HR bb
                try have kN := Blk.below kN bb
                refine hKc.out _ _ (⟨Blk.below hHeld.1 bb, Blk.below hHeld.2 bb⟩) (fun hHeld => ?_)
                clear hKc Kc
                try simp only [Act.put, List.setIfInBounds_toArray, List.set_cons_zero, List.set_cons_succ]
                refine wpAnyH_take (i := 4) (oi := { dst := some 71, op := Op.move (Operand.tmp 75), type := 71, pos := "law.go:52", after := #[{ on := 3, ground := Ground.data }], guard := none }) (v := ?_) rfl (by kernel_rfl) (by kernel_rfl) (by kernel_rfl) (fun _ _ _ h => h) ?_ hHeld ?_
                rotate_left
                · refine Or.inl ⟨by rfl, fun w hSw => ?_⟩; skip; go_simp; (try with_reducible rfl)
                try simp only [Act.put, List.setIfInBounds_toArray, List.set_cons_zero, List.set_cons_succ]
                refine wpAnyH_take (i := 5) (oi := { dst := some 76, op := Op.extract (Operand.tmp 71) 0, type := 67, pos := "law.go:52", after := #[{ on := 4, ground := Ground.data }], guard := none }) (v := ?_) rfl (by kernel_rfl) (by kernel_rfl) (by kernel_rfl) (fun _ _ _ h => h) ?_ hHeld ?_
                rotate_left
                · refine Or.inl ⟨by rfl, fun w hSw => ?_⟩; skip; go_simp; (try with_reducible rfl)
                try simp only [Act.put, List.setIfInBounds_toArray, List.set_cons_zero, List.set_cons_succ]
                refine wpAnyH_take (i := 6) (oi := { dst := some 77, op := Op.extract (Operand.tmp 71) 1, type := 70, pos := "law.go:52", after := #[{ on := 4, ground := Ground.data }, { on := 8, ground := Ground.gcOnly Departure.lateStores }], guard := none }) (v := ?_) rfl (by kernel_rfl) (by kernel_rfl) (by kernel_rfl) (fun _ _ _ h => h) ?_ hHeld ?_
                rotate_left
                · refine Or.inl ⟨by rfl, fun w hSw => ?_⟩; skip; go_simp; (try with_reducible rfl)
                try simp only [Act.put, List.setIfInBounds_toArray, List.set_cons_zero, List.set_cons_succ]
                refine wpAnyH_ready (rs := [8]) (by kernel_rfl) (by simp) ?_
                refine AllReadyH.cons (o := { dst := none, op := Op.store 67 (Operand.tmp 8) (Operand.tmp 76), type := 0, pos := "law.go:52", after := #[{ on := 7, ground := Ground.data }, { on := 5, ground := Ground.data }, { on := 3, ground := Ground.chain }, { on := 0, ground := Ground.phase }, { on := 1, ground := Ground.phase }, { on := 2, ground := Ground.phase }, { on := 3, ground := Ground.phase }, { on := 4, ground := Ground.phase }, { on := 5, ground := Ground.phase }, { on := 6, ground := Ground.textOnly Departure.lateStores }, { on := 7, ground := Ground.phase }], guard := none }) rfl (fun Kc hKc => ?_) AllReadyH.nil
                refine step_of (by rfl) (wp_whole 67 (.tmp 8) (.tmp 76) rfl gN (by rfl) (lv A1 l2.length c1) (by rfl) 67 (lv none 0 0) kN (lv_size _ _ _) rfl (lv_one _ _ _) ?_)
                intro wS kS gS sS
                have hI := isl_far hI gS kN
                have HR := ist_far HR gS kN (by decide)
                have HB := below_grown HB HB.size gS (by omega)
                refine hKc.out _ _ (⟨Blk.grown hHeld.1 gS (fun e => by injection e with e; omega), Blk.grown hHeld.2 gS (fun e => by injection e with e; omega)⟩) (fun hHeld => ?_)
                clear hKc Kc
                try simp only [Act.put]
                refine wpAnyH_take (i := 9) (oi := { dst := some 9, op := Op.assign (Operand.tmp 77), type := 70, pos := "law.go:52", after := #[{ on := 6, ground := Ground.data }, { on := 8, ground := Ground.chain }, { on := 0, ground := Ground.phase }, { on := 1, ground := Ground.phase }, { on := 2, ground := Ground.phase }, { on := 3, ground := Ground.phase }, { on := 4, ground := Ground.phase }, { on := 5, ground := Ground.phase }, { on := 6, ground := Ground.phase }, { on := 7, ground := Ground.phase }, { on := 8, ground := Ground.phase }], guard := none }) (v := ?_) rfl (by kernel_rfl) (by kernel_rfl) (by kernel_rfl) (fun _ _ _ h => h) ?_ hHeld ?_
                rotate_left
                · refine Or.inl ⟨by rfl, fun w hSw => ?_⟩; skip; go_simp; (try with_reducible rfl)
                try simp only [Act.put, List.setIfInBounds_toArray, List.set_cons_zero, List.set_cons_succ]
                refine wpAnyH_done (by kernel_rfl) ?_ _
                go_wp2_with fail
                go_meet
                exact ⟨gN, A1, c1, rfl, rfl, hHeld.1, hHeld.2, kS, hgN, hgN2, hI, HR, HB⟩
              exact AllReadyH.nil
            case rest =>
              clear KX KW HL HR HB
              obtain ⟨gN, A1, c1, rfl, rfl, KX, KW, kN, hgN, hgN2, hI, HR, HB⟩ := hcut
              go_wp2_with (first
                | (refine wl_load rfl 64 (.tmp 6) rfl wo.heap.size rfl 64 (wa x) _ KW Try.underlying64 rfl (by kernel_rfl) ?_))
              refine (hR0.out _ HR).mono ?_
              rintro r wr1 ⟨⟨A3, n3, c3, rfl, HR3⟩, br⟩
              obtain rfl := isr_len HR3
              have KX := KX.below br
              have KW := KW.below br
              have kN := kN.below br
              have hI := ist_below hI br
              have HB := bl_then HB br
              go_wp2_with (first
                | (refine wl_load rfl 67 (.tmp 8) rfl gN rfl 67 (lv A1 l2.length c1) _ kN Try.underlying67 rfl (lv_size _ _ _) ?_)
                | ((refine wl_store rfl 67 (.tmp 3) (.tmp 87) rfl w.heap.size rfl (lv A1 l2.length c1) rfl 67 (lv A l.length c) KX (lv_size _ _ _) rfl (lv_one _ _ _) ?_); intro wS kS gS sS))
              go_meet
              exact ⟨A1, c1, A3, c3, l2, rfl, kS, isl_far hI gS KX, ist_far HR3 gS KX (by decide), hF2, hN2, KW.grown gS (fun e => by injection e with e; omega), below_grown HB HB.size gS (Nat.le_refl _)⟩
        · have hw0 := fun h => back_wout (l := l) (e := x.e) (k := x.k) (n := x.n) HN h
          have hbl := fun h => back_len (l := l) (e := x.e) (k := x.k) (n := x.n) h
          have hbf := wout_fit (l := l) (e := x.e) (k := x.k) (n := x.n) HF
          have hbn := nd_wout (l := l) (e := x.e) (k := x.k) (n := x.n) HN
          have hneg := fun h => neg_has (l := l) (e := x.e) (k := x.k) (n := x.n) HF h
          have hpn : has l x.e x.k x.n = false → pback l x.e x.k x.n = l := fun h => by unfold pback; rw [h]; rfl
          have hB := Lib.hid (back_c A l.length c l x.e x.k x.n w9 HL hn64)
          have hR0 := Lib.hid (fun w' h => wout_c A' l.length c' l x.e x.k x.n w' h hn64)
          have B0 : ∃ hb lb, hb = has l x.e x.k x.n ∧ lb = pback l x.e x.k x.n := ⟨_, _, rfl, rfl⟩
          go_wp2_with (first
            | (refine wl_load rfl 67 (.tmp 3) rfl w.heap.size rfl 67 (lv A l.length c) _ KX Try.underlying67 rfl (lv_size _ _ _) ?_))
          refine hB.out.mono ?_
          rintro r wb ⟨⟨A1, n1, c1, rfl, hI⟩, bb⟩
          obtain rfl := isl_len hI
          have KX := KX.below bb
          have KW := KW.below bb
          have HR := ist_below HR bb
          have HB := bl_then HB bb
          have g0 := KW.cellv 0 (.int .i64 x.e) rfl
          have g1 := KW.cellv 1 (.int .i64 x.k) rfl
          have g2 := KW.cellv 2 (.int .i64 x.n) rfl
          clear hB
          by_cases hk0 : 0 ≤ x.k
          · have q1 : decide (0 ≤ x.k) = true := by simpa using hk0
            have hh := (hbl hk0).symm
            have hh2 := hw0 hk0
            rw [hh2] at hI ⊢
            rw [hh]
            clear hw0 hbl hneg hpn hh hh2 B0
            have zb := KW.lt
            have zb2 := KX.lt
            go_wp2_with (first
              | ((with_reducible refine wl_alloc rfl 67 rfl (lv none 0 0) new_l ?_); intro w8' k8 b8 s8)
              | ((refine wl_store rfl 67 _ _ rfl _ rfl (lv A1 (wout l x.e x.k x.n).length c1) rfl 67 (lv none 0 0) k8 (lv_size _ _ _) rfl (lv_one _ _ _) ?_); intro w7 k7 g7 s7; have b7 := below_grown b8 b8.size g7 (Nat.le_refl _); have KX := KX.below b7; have KW := KW.below b7; have hI := ist_below hI b7; have HR := ist_below HR b7; have HB := bl_then HB b7; have g0 := KW.cellv 0 (.int .i64 x.e) rfl; have g1 := KW.cellv 1 (.int .i64 x.k) rfl; have g2 := KW.cellv 2 (.int .i64 x.n) rfl))
            refine (hR0.out _ HR.1).mono ?_
            rintro r wr1 ⟨⟨A3, c3, rfl, HR3⟩, br⟩
            have KX := KX.below br
            have KW := KW.below br
            have kN := k7.below br
            have hI := ist_below hI br
            have HB := bl_then HB br
            clear g0 g1 g2 hR0
            generalize wout l x.e x.k x.n = l2 at *
            have qd : (decide (l2.length < l.length) != decide ((l2.length : Int) < (l.length : Int))) = false := by simp
            have qd2 : (decide (l2.length < l.length) != decide (l2.length < l.length)) = false := by simp
            go_wp2_with (first
              | (refine wl_load rfl 67 (.tmp 12) rfl wb.heap.size rfl 67 (lv A1 l2.length c1) _ kN Try.underlying67 rfl (lv_size _ _ _) ?_)
              | ((refine wl_store rfl 67 _ _ rfl w.heap.size rfl (lv A1 l2.length c1) rfl 67 (lv A l.length c) KX (lv_size _ _ _) rfl (lv_one _ _ _) ?_); intro wS kS gS sS))
            go_meet
            exact ⟨A1, c1, A3, c3, l2, rfl, kS, isl_far hI gS KX, ist_far HR3 gS KX (by decide), hbf, hbn, KW.grown gS (fun e => by injection e with e; omega), below_grown HB HB.size gS (Nat.le_refl _)⟩
          · have q1 : decide (0 ≤ x.k) = false := by simpa using hk0
            have hh := hneg (by omega)
            have hh2 := hpn hh
            rw [hh2] at hI ⊢
            rw [hh]
            clear hw0 hbl hneg hpn hh hh2 B0
            have zb := KW.lt
            have zb2 := KX.lt
            have qd : decide (l.length < l.length) = false := by simp
            have qd2 : decide ((l.length : Int) < (l.length : Int)) = false := by simp
            go_wp2_with (first
              | ((with_reducible refine wl_alloc rfl 67 rfl (lv none 0 0) new_l ?_); intro w8' k8 b8 s8)
              | (have _k := k8; (refine wl_store rfl 67 _ _ rfl _ rfl (lv A1 l.length c1) rfl 67 (lv none 0 0) k8 (lv_size _ _ _) rfl (lv_one _ _ _) ?_); intro w7 k7 g7 s7; have b7 := below_grown b8 b8.size g7 (Nat.le_refl _); have KX := KX.below b7; have KW := KW.below b7; have hI := ist_below hI b7; have HR := ist_below HR b7; have HB := bl_then HB b7; have g0 := KW.cellv 0 (.int .i64 x.e) rfl; have g1 := KW.cellv 1 (.int .i64 x.k) rfl; have g2 := KW.cellv 2 (.int .i64 x.n) rfl; clear k8)
              | (refine wl_load rfl 67 (.tmp 12) rfl wb.heap.size rfl 67 (lv A1 l.length c1) _ k7 Try.underlying67 rfl (lv_size _ _ _) ?_)
              | (have _k := k7; (refine wl_store rfl 67 _ _ rfl w.heap.size rfl (lv A1 l.length c1) rfl 67 (lv A l.length c) KX (lv_size _ _ _) rfl (lv_one _ _ _) ?_); intro wS kS gS sS))
            go_meet
            exact ⟨A1, c1, A', c', l, rfl, kS, isl_far hI gS KX, ist_far HR gS KX (by decide), HF, HN, KW.grown gS (fun e => by injection e with e; omega), below_grown HB HB.size gS (Nat.le_refl _)⟩
        · have hgf := gone_fit HF x.e
          have hgn := gone_nd HN x.e
          have hG := Lib.hid (gone_c A l.length c l x.e w9 HL hn64)
          have hR0 := fun w' h => wout_c A' l.length c' l x.e (-1) 0 w' h hn64
          rw [gone_wout] at hR0
          have hR0 := Lib.hid hR0
          go_wp2_with (first
            | (refine wl_load rfl 67 (.tmp 3) rfl w.heap.size rfl 67 (lv A l.length c) _ KX Try.underlying67 rfl (lv_size _ _ _) ?_))
          refine hG.out.mono ?_
          rintro r wb ⟨⟨A1, n1, c1, rfl, hI⟩, bb⟩
          obtain rfl := isl_len hI
          have KX := KX.below bb
          have KW := KW.below bb
          have HR := ist_below HR bb
          have HB := bl_then HB bb
          have zb := KW.lt
          have zb2 := KX.lt
          generalize gone l x.e = l2 at *
          clear hG g0 g1 g2
          go_wp2_with (first
            | ((refine wl_store rfl 67 _ _ rfl w.heap.size rfl (lv A1 l2.length c1) rfl 67 (lv A l.length c) KX (lv_size _ _ _) rfl (lv_one _ _ _) ?_); intro wS kS gS sS; have KW := KW.grown gS (fun e => by injection e with e; omega); have hI := isl_far hI gS KX; have HR := ist_far HR gS KX (by decide); have HB := below_grown HB HB.size gS (Nat.le_refl _); have g0 := KW.cellv 0 (.int .i64 x.e) rfl))
          refine (hR0.out _ HR.1).mono ?_
          rintro r wr1 ⟨⟨A3, c3, rfl, HR3⟩, br⟩
          have kS := kS.below br
          have KW := KW.below br
          have hI := ist_below hI br
          have HB := bl_then HB br
          clear g0 hR0
          go_wp2_with fail
          go_meet
          exact ⟨A1, c1, A3, c3, l2, rfl, kS, hI, HR3, hgf, hgn, KW, HB⟩
        · have hof := outs_fit HF
          have hon := nd_outs HN
          have hT := Lib.hid (turn_c A l.length c l w9 HL hn64 HF)
          have hR0 := Lib.hid (fun w' h => rturn_c A' l.length c' l w' h hn64 HF)
          go_wp2_with (first
            | (refine wl_load rfl 67 (.tmp 3) rfl w.heap.size rfl 67 (lv A l.length c) _ KX Try.underlying67 rfl (lv_size _ _ _) ?_))
          refine hT.out.mono ?_
          rintro r wb ⟨⟨A1, c1, A2, c2, rfl, hI, hJ⟩, bb⟩
          have KX := KX.below bb
          have KW := KW.below bb
          have k9 := k9.below bb
          have HL := ist_below HL bb
          have HR := ist_below HR bb
          have HB := bl_then HB bb
          have zb := KW.lt
          have zb2 := KX.lt
          clear hT g0 g1 g2 q0 q1 q2 q3 q4 q5
          go_wp2_with (first
            | ((with_reducible refine wl_alloc rfl 67 rfl (lv none 0 0) new_l ?_); intro w8' k8 b8 s8)
            | ((refine wl_store rfl 67 _ _ rfl _ rfl (lv A1 (outs l).length c1) rfl 67 (lv none 0 0) k8 (lv_size _ _ _) rfl (lv_one _ _ _) ?_); intro w7 k7 g7 s7; have b7 := below_grown b8 b8.size g7 (Nat.le_refl _); have KX := KX.below b7; have KW := KW.below b7; have k9 := k9.below b7; have HL := ist_below HL b7; have hI := ist_below hI b7; have hJ := ist_below hJ b7; have HR := ist_below HR b7; have HB := bl_then HB b7))
          refine (hR0.out _ HR.1).mono ?_
          rintro r wr1 ⟨⟨A3, c3, A4, c4, rfl, HR3, HR4⟩, br⟩
          have KX := KX.below br
          have KW := KW.below br
          have k9 := k9.below br
          have k7 := k7.below br
          have HL := ist_below HL br
          have HR := ist_below HR br
          have hI := ist_below hI br
          have hJ := ist_below hJ br
          have HB := bl_then HB br
          clear hR0
          generalize outs l = l2 at *
          generalize dues l = l3 at *
          go_wp2_with fail
          refine (same_c A2 A4 _ c2 c4 _ _ hJ.1 HR4.1).mono ?_
          rintro r ws1 ⟨rfl, bs⟩
          have KX := KX.below bs
          have KW := KW.below bs
          have k9 := k9.below bs
          have k7 := k7.below bs
          have HL := ist_below HL bs
          have HR := ist_below HR bs
          have HR3 := ist_below HR3 bs
          have hI := ist_below hI bs
          have HB := bl_then HB bs
          have hC3 := Lib.hid (all_c ws1.heap.size A l.length c l ws1 HL.1 HL.2.1 (by omega) (Nat.le_refl _))
          clear hJ HR4 HL
          go_wp2_with (first
            | (refine wl_load_on rfl 67 (.tmp 7) rfl (wo.heap.size + 1) rfl 67 (lv A l.length c) _ k9 Try.underlying67 rfl (lv_size _ _ _) ?hop ?_; case hop => exact ⟨_, _, rfl, rfl, rfl⟩))
          refine hC3.out.mono ?_
          rintro r ws2 ⟨⟨A9, c9, rfl, HO9⟩, bs2⟩
          have R9 := RF.of_own wv_len (by decide) HO9
          have KX := KX.below bs2
          have KW := KW.below bs2
          have k7 := k7.below bs2
          have HR := ist_below HR bs2
          have HR3 := ist_below HR3 bs2
          have hI := ist_below hI bs2
          have HB := bl_then HB bs2
          clear hC3 k9
          go_wp2_with fail
          refine (same_c A9 A' l.length c9 c' l ws2 R9 HR.1).mono ?_
          rintro r ws3 ⟨rfl, bs3⟩
          have KX := KX.below bs3
          have KW := KW.below bs3
          have k7 := k7.below bs3
          have HR3 := ist_below HR3 bs3
          have hI := ist_below hI bs3
          have HB := bl_then HB bs3
          clear R9 HO9 HR
          go_wp2_with (first
            | (refine wl_load rfl 67 (.tmp 15) rfl wb.heap.size rfl 67 (lv A1 l2.length c1) _ k7 Try.underlying67 rfl (lv_size _ _ _) ?_)
            | ((refine wl_store rfl 67 _ _ rfl w.heap.size rfl (lv A1 l2.length c1) rfl 67 (lv A l.length c) KX (lv_size _ _ _) rfl (lv_one _ _ _) ?_); intro wS kS gS sS))
          go_meet
          exact ⟨A1, c1, A3, c3, l2, rfl, kS, isl_far hI gS KX, ist_far HR3 gS KX (by decide), hof, hon, KW.grown gS (fun e => by injection e with e; omega), below_grown HB HB.size gS (Nat.le_refl _)⟩
      case rest =>
        clear KX KW HL HR HB HF HN k9 zk9 g0 g1 g2
        obtain ⟨A1, c1, A2, c2, l1, rfl, KX, IL, IR, HF, HN, KW, HB⟩ := hcut
        have f0 := KW.cellv 0 (.int .i64 x.e) rfl
        have f1 := KW.cellv 1 (.int .i64 x.k) rfl
        have hn64' : l1.length ≤ 64 := HF.1
        have hfl := fst_low HF x.e x.k
        have hw1 : low l1 x.e x.k < 512 → wI 512 (low l1 x.e x.k) = (low l1 x.e x.k : Int) := fun h => by simp [wI, h]
        have hw2 : ¬ low l1 x.e x.k < 512 → wI 512 (low l1 x.e x.k) = -1 := fun h => by simp [wI, h]
        by_cases hlow : low l1 x.e x.k < 512
        all_goals (
          first | rw [if_pos hlow] at hfl | rw [if_neg hlow] at hfl
          have hC1 := first_c A1 l1.length c1 l1 x.e x.k _ IL.1
          have hC2 := fun w' h => rfirst_c A2 l1.length c2 l1 x.e x.k w' h
          rw [hfl] at hC1
          first | rw [hw1 hlow] at hC2 | rw [hw2 hlow] at hC2
          generalize low l1 x.e x.k = lw at *
          have hC1 := Lib.hid hC1
          have hC2 := Lib.hid hC2
          clear hfl hlow hw1 hw2
          go_wp2_with (first
            | (refine wl_load rfl 67 (.tmp 3) rfl w.heap.size rfl 67 (lv A1 l1.length c1) _ KX Try.underlying67 rfl (lv_size _ _ _) ?_))
          refine hC1.out.mono ?_
          rintro r wE1 ⟨rfl, bE1⟩
          have KX := KX.below bE1
          have KW := KW.below bE1
          have IL := ist_below IL bE1
          have IR := ist_below IR bE1
          have HB := bl_then HB bE1
          have f0 := KW.cellv 0 (.int .i64 x.e) rfl
          have f1 := KW.cellv 1 (.int .i64 x.k) rfl
          go_wp2_with fail
          refine (hC2.out _ IR.1).mono ?_
          rintro r wE2 ⟨rfl, rfl⟩
          have hC3 := all_c wE1.heap.size A1 l1.length c1 l1 wE1 IL.1 IL.2.1 (by omega) (Nat.le_refl _)
          have hC3 := Lib.hid hC3
          clear f0 f1 hC1 hC2
          go_wp2_with (first
            | (refine wl_load rfl 67 (.tmp 3) rfl w.heap.size rfl 67 (lv A1 l1.length c1) _ KX Try.underlying67 rfl (lv_size _ _ _) ?_))
          refine hC3.out.mono ?_
          rintro r wE3 ⟨⟨A9, c9, rfl, HO9⟩, bE3⟩
          have KX := KX.below bE3
          have IL := ist_below IL bE3
          have IR := ist_below IR bE3
          have HB := bl_then HB bE3
          have R9 := RF.of_own wv_len (by decide) HO9
          go_wp2_with fail
          refine (same_c A9 A2 l1.length c9 c2 l1 wE3 R9 IR.1).mono ?_
          rintro r wE4 ⟨rfl, bE4⟩
          have KX := KX.below bE4
          have IL := ist_below IL bE4
          have IR := ist_below IR bE4
          have HB := bl_then HB bE4
          have qq1 : ((lw : Int) != (lw : Int)) = false := by simp
          have qq2 : decide (0 ≤ (lw : Int)) = true := by simp
          go_wp2_with fail
          go_roundw
          case rel => exact ⟨k + 1, A1, c1, A2, c2, l1, by omega, by omega, rfl, by go_num, KX, IL, IR, HF, HN, HB⟩
          case measure => first | (simp [intOf]; done) | (simp [intOf]; omega))
    · rcases hstop with ⟨q1, q3⟩ | ⟨q1, q2, q3⟩
      all_goals (
        go_wp2_with fail
        refine (awake_c _).mono ?_
        rintro r w3 ⟨rfl, b3⟩
        go_wp2
        go_ret
        exact ⟨rfl, bl_then HB b3⟩)

def Arg (i : Nat) (w : World) (v : Value) : Prop := Deeds w v
set_option maxRecDepth 100000 in
theorem arg0 {H : Type} {enc : TypeId × Value → H} {W : World} {base : Nat} {v : Value} {d : DataW H} {p : List MemPlace} (hv : Value.okWide Try.prog W .any base 62 v)
    (h : DataW.Trod enc Try.prog W 0 (fun _ => true) true 62 v d p) : Arg 0 W v := deeds_of hv h
theorem walk (v0 : Value) (w : World) (h0 : Arg 0 w v0) :
    Calls Try.prog 8 #[v0] w fun e w' => e = .returned (.bool true) ∧ Below w.heap.size w w' := by
  obtain ⟨A, n, c, rfl, hf⟩ := h0
  exact main A n c w hf
end Go.Proofs.Ytcomgmgmpmjnkaa.AbortPlays
