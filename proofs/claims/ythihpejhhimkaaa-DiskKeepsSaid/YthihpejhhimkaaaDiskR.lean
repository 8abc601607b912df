/- Contracts of package disk: Read. -/
import Derived.Test.YthihpejhhimkaaaDiskB
set_option linter.unusedVariables false
namespace Go.Proofs.Ythihpejhhimkaaa.DiskR
attribute [local go_sem] Oper.semAt_some
open Go.RowKit Go.Shelf Go.Proofs.Ythihpejhhimkaaa.Base Go.Proofs.Ythihpejhhimkaaa.Row Go.Proofs.Ythihpejhhimkaaa.App Go.Proofs.Ythihpejhhimkaaa.Multi Go.Proofs.Ythihpejhhimkaaa.StEq Go.Proofs.Ythihpejhhimkaaa.Held Go.Proofs.Ythihpejhhimkaaa.Out Go.Proofs.Ythihpejhhimkaaa.HeldW Go.Proofs.Ythihpejhhimkaaa.DiskMath Go.Proofs.Ythihpejhhimkaaa.Disk Go.Proofs.Ythihpejhhimkaaa.Disk3 Go.Proofs.Ythihpejhhimkaaa.In Go.Proofs.Ythihpejhhimkaaa.DiskB

theorem flip {P : Program} {f : FuncId} {args : Array Value} {w : World} {v : Value} (h : Calls P f args w fun e w' => e = .returned v ∧ w = w') : Calls P f args w fun e w' => e = .returned v ∧ w' = w :=
  h.mono fun _ _ ⟨h1, h2⟩ => ⟨h1, h2.symm⟩
theorem new_d : (Try.prog.info? 34).map (fun i => i.zero.map (·.cells)) = some (some (bc zb)) := by kernel_rfl
theorem new_b : (Try.prog.info? 4).map (fun i => i.zero.map (·.cells)) = some (some #[.bool false]) := by kernel_rfl
/-- How a round of Read leaves. -/
def RIx (w : World) (g4 g5 b : Nat) (c : Code) (pre : List (Nat × Wr)) (w' : World) : Prop :=
  ∃ (pre' : List (Nat × Wr)) (x : Nat × Wr), (c = Code.ret ∧ pre = pre' ++ [x] ∧ (∀ y ∈ pre', ¬ y.2.b = b) ∧ x.2.b = b) ∧ (Blk w' g4 34 (bc x.2.d) ∧ Blk w' g5 4 #[.bool true]) ∧ Below w.heap.size w w'
theorem over_back (W : List Wr) (b : Nat) (o : Bk) : ∀ k, k ≤ W.length → (∀ j, j < k → ¬ (bk W j).2.b = b) → over W b o W.length = over W b o (W.length - k)
  | 0, _, _ => rfl
  | k + 1, hk, h => by
    rw [over_back W b o k (by omega) (fun j hj => h j (by omega))]
    obtain ⟨m, hm⟩ : ∃ m, W.length - k = m + 1 := ⟨W.length - k - 1, by omega⟩
    have hx : W[m]? = some (W[m]'(by omega)) := List.getElem?_eq_getElem (by omega)
    have hb := h k (by omega)
    unfold bk at hb
    rw [show W.length - 1 - k = m by omega, hx] at hb
    rw [hm, over_no hx hb, show W.length - (k + 1) = m by omega]
theorem upto_get {α : Type} (f : Nat → α) (k j : Nat) (h : j < k) : f j ∈ upto f k := List.mem_map.2 ⟨j, List.mem_range.2 h, rfl⟩
theorem read_none {L : List Bk} {W : List Wr} {b : Nat} (h : ∀ y ∈ upto (bk W) W.length, ¬ y.2.b = b) : DiskMath.read L W b = at_ L b := by
  unfold DiskMath.read
  rw [over_back W b _ W.length (Nat.le_refl _) (fun j hj => h _ (upto_get _ _ _ hj)), Nat.sub_self]; rfl
theorem read_some {L : List Bk} {W : List Wr} {b k : Nat} {pre : List (Nat × Wr)} {x : Nat × Wr} (hk : k ≤ W.length) (hp : upto (bk W) k = pre ++ [x]) (hno : ∀ y ∈ pre, ¬ y.2.b = b) (hx : x.2.b = b) : DiskMath.read L W b = x.2.d := by
  have hl : k = pre.length + 1 := by
    have := congrArg List.length hp
    rw [upto_length, List.length_append] at this
    simpa using this
  subst hl
  rw [upto_succ] at hp
  obtain ⟨h1, h2⟩ := List.append_inj hp (by rw [upto_length])
  have h3 : bk W pre.length = x := by simpa using h2
  unfold DiskMath.read
  rw [over_back W b _ pre.length (by omega) (fun j hj => hno _ (by rw [← h1]; exact upto_get _ _ _ hj))]
  obtain ⟨m, hm⟩ : ∃ m, W.length - pre.length = m + 1 := ⟨W.length - pre.length - 1, by omega⟩
  have hx' : W[m]? = some (W[m]'(by omega)) := List.getElem?_eq_getElem (by omega)
  rw [← h3] at hx ⊢
  unfold bk at hx ⊢
  rw [show W.length - 1 - pre.length = m by omega, hx'] at hx ⊢
  rw [hm, over_yes hx' hx]; rfl
theorem ko_of {W W' : World} {g : Nat} {t : TypeId} {cs : Array Value} (hk : Blk W g t cs) (hg : W.grownBy W' (some g)) : KeepsOthers W W' :=
  KeepsOthers.of_grownBy hg (fun j o e ho => by
    injection e with e
    subst e
    unfold Blk at hk
    rw [hk] at ho
    injection ho with ho
    subst ho; rfl)
/-- Two results in variables. -/
theorem res_cell_cell {fn : Func} {p q : Tmp} {ty tq : TypeId} (h : fn.results = #[.cell p ty, .cell q tq]) (P : Program) (tmps : Array Value) (w : World) (g g2 : Nat) (t t2 : TypeId) (cs : Array Value) (d : TypeDesc) (v : Value)
    (hp : tmps.getD p undef = .pointer (some ⟨g, 0, none⟩)) (hg : Blk w g t cs) (hu : P.underlying ty = some d) (hd : d.isRow = true) (hi : (P.info? ty).map (·.size) = some cs.size)
    (hq : tmps.getD q undef = .pointer (some ⟨g2, 0, none⟩)) (hv : (loadVar tq ⟨g2, 0, none⟩).run P w = .ok v w) :
    (results fn tmps).run P w = .ok (.tuple #[.agg cs, v]) w := by
  have hl := run_loadVar_row (P := P) w g t ty cs (0, 0) d hg hu (by cases d <;> simp_all) hi
  have hp' : tmps[p]?.getD undef = .pointer (some ⟨g, 0, none⟩) := by rw [← hp]; simp
  have hq' : tmps[q]?.getD undef = .pointer (some ⟨g2, 0, none⟩) := by rw [← hq]; simp
  simp only [results, h]
  simp [Result.andThen, hp', hq', asAddr, hl, hv]
theorem load_bool (w : World) (g : Nat) (v : Bool) (h : Blk w g 4 #[.bool v]) : (loadVar 4 ⟨g, 0, none⟩).run Try.prog w = .ok (.bool v) w := by
  have hc := h.cellv 0 (.bool v) rfl
  have hu := Try.underlying4
  go_simp
set_option maxRecDepth 100000 in
set_option maxHeartbeats 4000000 in
theorem read_yes (g : Nat) (F : Nat → Prop) (L : List Bk) (W : List Wr) (b B : Nat) (w : World) (h : DkF 59 34 71 B w g F L W) (hb : b < L.length) (hL : L.length ≤ 1000) (hW : W.length ≤ 1000) :
    Calls Try.prog 12 #[.pointer (some ⟨g, 0, none⟩), .int .i64 b] w fun r w' => r = .returned (.tuple #[.agg (bc (DiskMath.read L W b)), .bool true]) ∧ Below w.heap.size w w' := by
  obtain ⟨Al, cl, Aw, cw, D, hFg, hFl, hFw⟩ := h
  have HQ := D.q
  have HL := D.l
  replace D := D.d
  have q1 : decide ((b : Int) < 0) = false := by simp
  have q2 : decide ((L.length : Int) ≤ (b : Int)) = false := by simp; omega
  have q3 : decide (L.length ≤ b) = false := by simp; omega
  refine (callsIn_wide (n := 8)).1 (callsIn_of_wp_marks Try.func12 rfl trivial (wpIn_wide.2 ?_) rfl)
  simp only [Try.ntmps12, List.size_toArray, List.length_cons, List.length_nil, Nat.reduceAdd, Nat.reduceSub, Array.replicate_succ, Array.replicate_zero, List.push_toArray, List.append_toArray, List.nil_append, List.cons_append]
  go_wp2_with (first
    | ((refine wl_box rfl 3 (.tmp 1) rfl #[.int .i64 b] rfl ?_); intro w1 k1 b1 s1)
    | ((with_reducible refine wl_alloc rfl 34 rfl (bc zb) new_d ?_); intro w2 k2 b2 s2)
    | ((with_reducible refine wl_alloc rfl 4 rfl #[.bool false] new_b ?_); intro w3 k3 b3 s3))
  have K1 := (k1.below b2).below b3
  have K2 := k2.below b3
  have B3 := bl_then (bl_then b1 b2) b3
  have z1 := b1.size
  have z2 := b2.size
  have D3 := D.below B3
  have f1 := K1.cellv 0 (.int .i64 b) rfl
  have hlc := Lib.hid (fun n => len_c g L.length cl W.length cw Al Aw (w3.drewN n) (D3.drewN n))
  have s1' := s1
  have s2' := s2
  clear k1 k2 b1 b2 b3 s1 s2
  go_quiet (exact Calls.quiet_of_same (flip (hlc.out _)))
  have f2 : w3.cell? ⟨g, 1, none⟩ = some (.slice Aw W.length cw) := D3.cellv 1 _ rfl
  clear hlc
  go_wp2_with fail
  refine ((callsIn_wide (n := 3)).1 (back_in Fence.wide 3 trivial rfl Aw W.length cw (w3.drewN nq))).mono ?_
  rintro r w4 ⟨rfl, rfl⟩
  go_wp2_with fail
  have zbs : w3.heap.size < ((w3.drewN nq).alloc (.cells #[.slice Aw W.length cw] 57)).heap.size := by rw [World.size_alloc]; exact Nat.lt_succ_self _
  have hbs : ((w3.drewN nq).alloc (.cells #[.slice Aw W.length cw] 57)).cell? ⟨w3.heap.size, 0, none⟩ = some (.slice Aw W.length cw) := (Blk.new (w3.drewN nq) 57 #[.slice Aw W.length cw]).cellv 0 _ rfl
  have B0 : Below w.heap.size w ((w3.drewN nq).alloc (.cells #[.slice Aw W.length cw] 57)) := bl_alloc (bl_drewN B3 nq) _
  have J1 : Blk ((w3.drewN nq).alloc (.cells #[.slice Aw W.length cw] 57)) w.heap.size 3 #[.int .i64 b] := (K1.drewN nq).alloc _
  have J2 : Blk ((w3.drewN nq).alloc (.cells #[.slice Aw W.length cw] 57)) w1.heap.size 34 (bc zb) := (K2.drewN nq).alloc _
  have J3 : Blk ((w3.drewN nq).alloc (.cells #[.slice Aw W.length cw] 57)) w2.heap.size 4 #[.bool false] := (k3.drewN nq).alloc _
  have hWs : Ws w.heap.size ((w3.drewN nq).alloc (.cells #[.slice Aw W.length cw] 57)) (.slice Aw W.length cw) W := by
    by_cases hn : 0 < W.length
    · obtain ⟨gq, curq, hAw, _, KQ, _, _, hcq⟩ := own_blk wv_len HQ hn
      exact .inr ⟨gq, curq, cw, by rw [hAw], KQ.lt, KQ.below B0, hcq⟩
    · have e0 : W.length = 0 := by omega
      rcases HQ.2 with ⟨e, _⟩ | ⟨gq, cap, curq, e, _, hk, _⟩
      · exact .inl ⟨e, List.length_eq_zero_iff.1 e0⟩
      · refine .inr ⟨gq, curq, cap, e, Blk.lt hk, Blk.below hk B0, fun i x hx => ?_⟩
        have := (List.getElem?_eq_some_iff.1 hx).1
        omega
  have zw1 : w.heap.size < w1.heap.size := s1'
  have zw2 : w1.heap.size < w2.heap.size := s2'
  have zw3 : w2.heap.size < w3.heap.size := s3
  clear K1 K2 k3 D3 B3 f1 f2 z1 z2 HQ
  generalize hW0 : (w3.drewN nq).alloc (.cells #[.slice Aw W.length cw] 57) = W0 at *
  clear hW0
  have hfinP : ∀ (Dd : Nat) (wB : World) (d : Bk), w.heap.size ≤ Dd → DiskMath.read L W b = d → Blk wB w1.heap.size 34 (bc d) → Blk wB w2.heap.size 4 #[.bool true] → Below w.heap.size w wB → wB.heap[Dd]? = some (.deferred (some [])) →
      ∀ (tm : Array Value), tm.getD 4 undef = .pointer (some ⟨w1.heap.size, 0, none⟩) → tm.getD 5 undef = .pointer (some ⟨w2.heap.size, 0, none⟩) →
      bodyPostM Fence.wide 8 Try.prog Try.f12 (fun r w' => r = .returned (.tuple #[.agg (bc (DiskMath.read L W b)), .bool true]) ∧ Below w.heap.size w w') Exit.ret { tmps := tm, defers := [{ target := .collected Dd, args := #[] }] } wB := by
    intro Dd wB d hDd hr J2 J3 hB hK tm h4 h5
    rw [hr]
    refine ⟨by simp, .inl ⟨_, _, rfl, run_takeDeferred hK, ?_⟩⟩
    have hPO : wB.grownBy (wB.putObj Dd (.deferred none)) (some Dd) := grownBy_putObj' wB Dd _
    have hne : ∀ (k : Nat) (t : TypeId) (cs : Array Value), Blk wB k t cs → some k ≠ some Dd := by
      intro k t cs hk e
      injection e with e
      subst e
      unfold Blk at hk
      rw [hk] at hK
      cases hK
    refine ⟨_, res_cell_cell rfl _ _ _ w1.heap.size w2.heap.size 34 4 (bc d) _ _ h4 (J2.grown hPO (hne _ _ _ J2)) Try.underlying34 rfl (sz_bc d) h5 (load_bool _ _ _ (J3.grown hPO (hne _ _ _ J3))), rfl, ?_⟩
    exact hB.trans (belowK_b (w := w) (Nat.le_refl _) wB Dd _ _ hDd hK rfl rfl)
  have hfin := Lib.hid hfinP
  clear hfinP
  refine (wpIn_wide (n := 8)).1 (wpIn_rangeFunc_ownH (F := Fence.wide) rfl (by omega) (gf := 30) (lb := #[.pointer (some ⟨w3.heap.size, 0, none⟩)]) rfl trivial (enters_of Try.func30 (by kernel_rfl) rfl)
    (back_stops Fence.wide (8 - 1) trivial rfl (by omega) w3.heap.size w.heap.size (.slice Aw W.length cw) W hW W0 zbs B0.size hbs hWs) (fun h k => h.trans k) ?hKb (Below.refl _ _) (fun _ => rfl)
    (fun pre w' => (Blk w' w.heap.size 3 #[.int .i64 b] ∧ (Blk w' w1.heap.size 34 (bc zb) ∧ Blk w' w2.heap.size 4 #[.bool false])) ∧ ((∀ y ∈ pre, ¬ y.2.b = b) ∧ (w3.heap.size < w'.heap.size ∧ Below w.heap.size w w')))
    (fun c pre w' => RIx w w1.heap.size w2.heap.size b c pre w')
    ?hI ?hIx ?h0
    (fun x a' w' => ∃ Bx, (w2.heap.size < Bx ∧ a' = { tmps := #[.pointer (some ⟨g, 0, none⟩), .int .i64 b, undef, .pointer (some ⟨w.heap.size, 0, none⟩), .pointer (some ⟨w1.heap.size, 0, none⟩), .pointer (some ⟨w2.heap.size, 0, none⟩), undef, .pointer (some ⟨Bx, 0, none⟩), .int .i64 b, .bool false, .bool false, .int .i64 b, .pointer (some ⟨g, 0, none⟩), .int .i64 L.length, .bool false, .bool false, undef, .pointer (some ⟨g, 0, none⟩), .pointer (some ⟨g, 0, none⟩), .pointer (some ⟨g, 1, none⟩), .slice Aw W.length cw, .func (.func 30) #[] #[.pointer (some ⟨w3.heap.size, 0, none⟩)], .int .i64 (x.1 : Int), .agg (wv x.2).toArray, undef, undef, undef, undef, undef, undef, undef, undef, undef, undef, undef, undef, undef], defers := [] }) ∧ Blk w' Bx 71 (wc x.2))
    ?hAx ?assign ?body ?done ?stop)
  case hKb =>
    intro W1 l o o' hl hlo hc hw
    refine ⟨belowK_b (w := W0) B0.size W1 l o o' hl hlo hc hw, ?_⟩
    exact World.putObj_heap_other (by omega)
  case hI =>
    refine OwnFrom.and (OwnFrom.and (Own.from (blk_own _ _ (fun _ => #[.int .i64 b])) _) (OwnFrom.and (Own.from (blk_own _ _ (fun _ => bc zb)) _) (Own.from (blk_own _ _ (fun _ => #[.bool false])) _))) (OwnFrom.and (ownFrom_pure _ _) (OwnFrom.and (fun _ X Y row hs hg _ => Nat.lt_of_lt_of_le hs hg.size) (ownFrom_below (Nat.le_refl _) B0.size)))
  case hIx =>
    rintro c s X Y row ⟨pre', x, h1, ⟨h2, h3⟩, h4⟩ hg hr
    exact ⟨pre', x, h1, ⟨blk_own _ _ (fun (_ : List Unit) => bc x.2.d) [] X Y row h2 hg (fun r e => (hr r e).2), blk_own _ _ (fun (_ : List Unit) => #[.bool true]) [] X Y row h3 hg (fun r e => (hr r e).2)⟩, ownFrom_below (β := Unit) (Nat.le_refl _) B0.size () X Y row h4 hg hr⟩
  case h0 => exact ⟨⟨J1, J2, J3⟩, by simp, zbs, B0⟩
  case hAx =>
    rintro x a' s X Y row ⟨Bx, h1, h2⟩ hg hr
    exact ⟨Bx, h1, blk_own _ _ (fun (_ : List Unit) => wc x.2) [] X Y row h2 hg (fun r e => (hr r e).2)⟩
  case assign =>
    rintro l pre x W1 K ⟨⟨J1, J2, J3⟩, hp, hsz, hB⟩ hK
    have hact : ∀ (t : Array Value), (((#[22, 23] : Array Nat).zip (encs x)).foldl (fun t (p, v) => t.setIfInBounds p v) t) = (t.setIfInBounds 22 (.int .i64 (x.1 : Int))).setIfInBounds 23 (.agg (wv x.2).toArray) := by
      intro t
      simp [encs]
    rw [hact]
    simp only [List.setIfInBounds_toArray, List.set_cons_succ, List.set_cons_zero]
    gi_wp2_with (first
      | ((refine wlin_alloc rfl 71 rfl (wc ⟨0, zb⟩) new_w ?_); intro w5 k5 b5 s5 e5)
      | ((refine wlin_store rfl 71 (.tmp 7) (.tmp 23) rfl W1.heap.size 0 rfl (wv x.2).toArray rfl 71 (wc ⟨0, zb⟩) k5 (sz_wc x.2) (by rw [Nat.zero_add, wc_size]; exact Nat.le_of_eq (wc_size x.2)) (wc_one x.2) ?_); intro w6 k6 g6 s6))
    have b6 : Below W1.heap.size W1 w6 := below_grown b5 b5.size g6 (Nat.le_refl _)
    have k6' : Blk w6 W1.heap.size 71 (wc x.2) := by
      rw [lay_all _ _ (by rw [wc_size]; exact (wv_len x.2).symm)] at k6
      exact k6
    have hko : KeepsOthers W1 w5 := by rw [e5]; exact KeepsOthers.alloc W1 _
    exact hK _ _ ((hko.trans (ko_of k5 g6)).from _) ⟨b6.mono hB.size, b6.block _ hsz⟩ ⟨⟨J1.below b6, J2.below b6, J3.below b6⟩, hp, Nat.lt_of_lt_of_le hsz b6.size, bl_then hB b6⟩ ⟨W1.heap.size, ⟨J3.lt, rfl⟩, k6'⟩
  case body =>
    rintro l pre x a' W1 hl ⟨r, hr⟩ ⟨⟨J1, J2, J3⟩, hp, hsz, hB⟩ ⟨Bx, ⟨hBx, rfl⟩, KX⟩ hlt
    have c0 := KX.cellv 0 (.int .i64 x.2.b) rfl
    have c1 := J1.cellv 0 (.int .i64 b) rfl
    by_cases he : x.2.b = b
    · have q : ((x.2.b : Int) == (b : Int)) = true := by simp [he]
      have hdx := Lib.hid (wc_d x.2)
      gi_wp2_with (first
        | (refine wlin_load rfl 34 (.tmp 28) rfl Bx 1 rfl 71 (wc x.2) (bv x.2.d) _ KX hdx.out Try.underlying34 rfl (by rw [bv_len]; exact size_d) ?_)
        | ((refine wlin_store rfl 34 (.tmp 4) (.tmp 29) rfl w1.heap.size 0 rfl (bv x.2.d).toArray rfl 34 (bc zb) J2 (sz_bc x.2.d) (by rw [Nat.zero_add, bc_size]; exact Nat.le_of_eq (bc_size x.2.d)) (bc_one x.2.d) ?_); intro w5 k5 g5 s5; have J35 := J3.grown g5 (fun e => by injection e with e; omega); have c5 := J35.cellv 0 (.bool false) rfl; have f5 := J35.frozen 0))
      have J25 : Blk w5 w1.heap.size 34 (bc x.2.d) := by
        rw [lay_all _ _ (by rw [bc_size]; exact (bv_len x.2.d).symm)] at k5
        exact k5
      have g7 := grownBy_set w5 w2.heap.size 0 (.bool true)
      have J27 := J25.grown g7 (fun e => by injection e with e; omega)
      have J37 : Blk (w5.setCell ⟨w2.heap.size, 0, none⟩ (.bool true)) w2.heap.size 4 #[.bool true] := J35.set_ 0 (.bool true)
      have hB7 := below_grown (below_grown hB hB.size g5 (by omega)) (Nat.le_trans hB.size g5.size) g7 (by omega)
      exact ⟨((ko_of J2 g5).trans (ko_of J35 g7)).from _, pre, x, ⟨rfl, rfl, hp, he⟩, ⟨J27, J37⟩, hB7⟩
    · have q : ((x.2.b : Int) == (b : Int)) = false := by simp; omega
      gi_wp2
      exact ⟨KeepsFrom.refl _ _, ⟨Below.refl _ _, rfl⟩, ⟨J1, J2, J3⟩, fun y hy => by
        rcases List.mem_append.1 hy with hy | hy
        · exact hp y hy
        · rw [List.mem_singleton] at hy
          subst hy; exact he, hsz, hB⟩
  case done =>
    rintro Dd ys W1 hD rfl ⟨⟨J1, J2, J3⟩, hp, hsz, hB⟩ hK
    have hread := Lib.hid (read_none (L := L) hp)
    have D1 := D.below hB
    obtain ⟨gl, curl, hAl, _, KL, hcs, hlc, hlr⟩ := own_blk bv_len (own_below HL hB) (by omega)
    subst hAl
    have hlb : L[b]? = some (at_ L b) := by unfold at_; rw [List.getElem?_eq_getElem hb]; rfl
    have hcl := Lib.hid (hlr b _ hlb)
    have hgl : gl < w.heap.size := by obtain ⟨h1, _⟩ := row_lt HL _ rfl; exact h1
    have hgg := D.lt
    have ne32 : some w2.heap.size ≠ some w1.heap.size := fun e => by injection e with e; omega
    have neg1 : some g ≠ some w1.heap.size := fun e => by injection e with e; omega
    have neb1 : some w.heap.size ≠ some w1.heap.size := fun e => by injection e with e; omega
    have nel1 : some gl ≠ some w1.heap.size := fun e => by injection e with e; omega
    have neg2 : some g ≠ some w2.heap.size := fun e => by injection e with e; omega
    have neb2 : some w.heap.size ≠ some w2.heap.size := fun e => by injection e with e; omega
    have nel2 : some gl ≠ some w2.heap.size := fun e => by injection e with e; omega
    have hbl : (b : Int) < (L.length : Int) := by omega
    clear hp
    go_wp2_with fail
    refine wp_region_noPanic ?_
    refine wp_region_held_drew (S := (fun w' => Blk w' g 59 (dc (some ⟨gl, 0, none⟩) L.length cl Aw W.length cw) ∧ Blk w' w.heap.size 3 #[.int .i64 b] ∧ Blk w' gl 34 curl)) (by kernel_rfl) (⟨D1.drew, J1.drew, KL.drew⟩) (fun hHeld => ?_)
    refine wpAnyH_take (i := 0) (oi := { dst := some 30, op := Op.move (Operand.tmp 0), type := 23, pos := "disk.go:51", after := #[], guard := none }) (v := ?_) rfl (by kernel_rfl) (by kernel_rfl) (by kernel_rfl) (fun _ _ _ h => h) ?_ hHeld ?_
    rotate_left
    · refine Or.inl ⟨by rfl, fun w hSw => ?_⟩; skip; go_simp; (try with_reducible rfl)
    try simp only [Act.put, List.setIfInBounds_toArray, List.set_cons_zero, List.set_cons_succ]
    refine wpAnyH_take (i := 1) (oi := { dst := some 31, op := Op.nilCheck (Operand.tmp 30), type := 0, pos := "disk.go:51", after := #[{ on := 0, ground := Ground.data }], guard := none }) (v := ?_) rfl (by kernel_rfl) (by kernel_rfl) (by kernel_rfl) (fun _ _ _ h => h) ?_ hHeld ?_
    rotate_left
    · refine Or.inl ⟨by rfl, fun w hSw => ?_⟩; skip; go_simp; (try with_reducible rfl)
    try simp only [Act.put, List.setIfInBounds_toArray, List.set_cons_zero, List.set_cons_succ]
    refine wpAnyH_take (i := 2) (oi := { dst := some 32, op := Op.fieldAddr 59 (Operand.tmp 31) 0, type := 0, pos := "disk.go:51", after := #[{ on := 1, ground := Ground.data }], guard := none }) (v := ?_) rfl (by kernel_rfl) (by kernel_rfl) (by kernel_rfl) (fun _ _ _ h => h) ?_ hHeld ?_
    rotate_left
    · refine Or.inl ⟨by rfl, fun w hSw => ?_⟩; skip; go_simp; (try with_reducible rfl)
    try simp only [Act.put, List.setIfInBounds_toArray, List.set_cons_zero, List.set_cons_succ]
    refine wpAnyH_take (i := 3) (oi := { dst := some 33, op := Op.load 56 (Operand.tmp 32), type := 56, pos := "disk.go:51", after := #[{ on := 2, ground := Ground.data }], guard := none }) (v := ?_) rfl (by kernel_rfl) (by kernel_rfl) (by kernel_rfl) (fun _ _ _ h => h) ?_ hHeld ?_
    rotate_left
    · refine Or.inl ⟨by rfl, fun w hSw => ?_⟩; have c0 := Blk.cellv hSw.1 0 (.slice (some ⟨gl, 0, none⟩) L.length cl) rfl; go_simp; (try with_reducible rfl)
    try simp only [Act.put, List.setIfInBounds_toArray, List.set_cons_zero, List.set_cons_succ]
    refine wpAnyH_take (i := 4) (oi := { dst := some 34, op := Op.load 3 (Operand.tmp 3), type := 3, pos := "disk.go:51", after := #[], guard := none }) (v := ?_) rfl (by kernel_rfl) (by kernel_rfl) (by kernel_rfl) (fun _ _ _ h => h) ?_ hHeld ?_
    rotate_left
    · refine Or.inl ⟨by rfl, fun w hSw => ?_⟩; have c0 := Blk.cellv hSw.2.1 0 (.int .i64 b) rfl; go_simp; (try with_reducible rfl)
    try simp only [Act.put, List.setIfInBounds_toArray, List.set_cons_zero, List.set_cons_succ]
    refine wpAnyH_take (i := 5) (oi := { dst := some 35, op := Op.indexAddr 56 (Operand.tmp 33) (Operand.tmp 34), type := 0, pos := "disk.go:51", after := #[{ on := 3, ground := Ground.data }, { on := 4, ground := Ground.data }], guard := none }) (v := ?_) rfl (by kernel_rfl) (by kernel_rfl) (by kernel_rfl) (fun _ _ _ h => h) ?_ hHeld ?_
    rotate_left
    · refine Or.inl ⟨by rfl, fun w hSw => ?_⟩; skip; go_simp; (try with_reducible rfl)
    try simp only [Act.put, List.setIfInBounds_toArray, List.set_cons_zero, List.set_cons_succ]
    refine wpAnyH_take (i := 6) (oi := { dst := some 36, op := Op.load 34 (Operand.tmp 35), type := 34, pos := "disk.go:51", after := #[{ on := 5, ground := Ground.data }], guard := none }) (v := ?_) rfl (by kernel_rfl) (by kernel_rfl) (by kernel_rfl) (fun _ _ _ h => h) ?_ hHeld ?_
    rotate_left
    · refine yIf_mid 34 (.tmp 35) gl (b * 64) 34 curl (bv (at_ L b)) _ ?_ ?_ Try.underlying34 rfl (by rw [bv_len]; exact size_d) ?_ ?_ ?_
      · exact fun _ h => h.2.2
      · exact hcl.out
      · rfl
      · rfl
      · rfl
    try simp only [Act.put, List.setIfInBounds_toArray, List.set_cons_zero, List.set_cons_succ]
    refine wpAnyH_ready (rs := [7]) (by kernel_rfl) (by simp) ?_
    refine AllReadyH.cons (o := { dst := none, op := Op.store 34 (Operand.tmp 4) (Operand.tmp 36), type := 0, pos := "disk.go:51", after := #[{ on := 6, ground := Ground.data }, { on := 0, ground := Ground.phase }, { on := 1, ground := Ground.phase }, { on := 2, ground := Ground.phase }, { on := 3, ground := Ground.phase }, { on := 4, ground := Ground.phase }, { on := 5, ground := Ground.phase }, { on := 6, ground := Ground.phase }], guard := none }) rfl (fun Kc hKc => ?_) AllReadyH.nil
    refine step_of (by rfl) (wp_mid 34 (.tmp 4) (.tmp 36) (by rfl) w1.heap.size 0 (by rfl) (bc (at_ L b)) (by rfl) 34 (bc zb) J2.drew (sz_bc _) (by rw [bc_size, bc_size]; omega) (bc_one _) ?_)
    intro wA kA gA sA
    have J3A := J3.drew.grown gA ne32
    refine hKc.out _ _ (⟨Blk.grown hHeld.1 gA neg1, Blk.grown hHeld.2.1 gA neb1, Blk.grown hHeld.2.2 gA nel1⟩) (fun hHeld => ?_)
    clear hKc Kc
    try simp only [Act.put]
    refine wpAnyH_ready (rs := [8]) (by kernel_rfl) (by simp) ?_
    refine AllReadyH.cons (o := { dst := none, op := Op.store 4 (Operand.tmp 5) (Operand.const (Value.bool true)), type := 0, pos := "disk.go:51", after := #[{ on := 7, ground := Ground.chain }, { on := 0, ground := Ground.phase }, { on := 1, ground := Ground.phase }, { on := 2, ground := Ground.phase }, { on := 3, ground := Ground.phase }, { on := 4, ground := Ground.phase }, { on := 5, ground := Ground.phase }, { on := 6, ground := Ground.phase }, { on := 7, ground := Ground.phase }], guard := none }) rfl (fun Kc hKc => ?_) AllReadyH.nil
    refine step_of (by rfl) (wp_set 4 (.tmp 5) (.const (.bool true)) (by rfl) w2.heap.size 0 (by rfl) (.bool true) (by rfl) rfl 4 #[.bool false] J3A (by kernel_rfl) (by simp) ?_)
    intro wB kB gB sB
    refine hKc.out _ _ (⟨Blk.grown hHeld.1 gB neg2, Blk.grown hHeld.2.1 gB neb2, Blk.grown hHeld.2.2 gB nel2⟩) (fun hHeld => ?_)
    clear hKc Kc
    try simp only [Act.put]
    refine wpAnyH_done (by kernel_rfl) ?_ _
    refine NoPanic.normal ?_
    go_wp2_with fail
    rw [lay_all _ _ (by rw [bc_size]; exact (bv_len (at_ L b)).symm)] at kA
    have kA' : Blk wB w1.heap.size 34 (bc (at_ L b)) := Blk.grown kA gB (fun e => by injection e with e; omega)
    have hKB : wB.heap[Dd]? = some (.deferred (some [])) := (((KeepsOthers.drew W1).trans (ko_of (J2.drew) gA)).trans (ko_of J3A gB)).same Dd _ hK rfl
    have hBB := below_grown (below_grown (bl_drew hB) (bl_drew hB).size gA (by omega)) (Nat.le_trans (bl_drew hB).size gA.size) gB (by omega)
    exact hfin.out Dd wB (at_ L b) (by omega) hread.out kA' kB hBB hKB _ rfl rfl
  case stop =>
    rintro Dd c pre W1 hD ⟨k, hk, hpre⟩ ⟨pre', x, ⟨rfl, rfl, hno, hx⟩, ⟨J2, J3⟩, hB⟩ hK
    have hread := Lib.hid (read_some (L := L) hk hpre.symm hno hx)
    gi_wp2
    exact hfin.out Dd W1 x.2.d (by omega) hread.out J2 J3 hB hK _ rfl rfl
end Go.Proofs.Ythihpejhhimkaaa.DiskR
