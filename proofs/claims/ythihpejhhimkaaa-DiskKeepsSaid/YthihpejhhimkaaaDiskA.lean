/- A disk of the call's own; the chapter's example. -/
import Derived.Test.YthihpejhhimkaaaDiskN
set_option linter.unusedVariables false
namespace Go.Proofs.Ythihpejhhimkaaa.DiskA
open Go.RowKit Go.Shelf Go.Proofs.Ythihpejhhimkaaa.Base Go.Proofs.Ythihpejhhimkaaa.Row Go.Proofs.Ythihpejhhimkaaa.App Go.Proofs.Ythihpejhhimkaaa.Multi Go.Proofs.Ythihpejhhimkaaa.StEq Go.Proofs.Ythihpejhhimkaaa.Held Go.Proofs.Ythihpejhhimkaaa.Out Go.Proofs.Ythihpejhhimkaaa.HeldW Go.Proofs.Ythihpejhhimkaaa.DiskMath Go.Proofs.Ythihpejhhimkaaa.Disk Go.Proofs.Ythihpejhhimkaaa.Disk2 Go.Proofs.Ythihpejhhimkaaa.Disk3 Go.Proofs.Ythihpejhhimkaaa.Disk4 Go.Proofs.Ythihpejhhimkaaa.DiskR Go.Proofs.Ythihpejhhimkaaa.DiskN

/-- A disk that was made since w0. -/
def Mine (w0 w : World) (g : Nat) (L : List Bk) (W : List Wr) : Prop :=
  ∃ F : Nat → Prop, DkF 59 34 71 w0.heap.size w g F L W ∧ (∀ i, F i → w0.heap.size ≤ i ∧ i < w.heap.size) ∧ Below w0.heap.size w0 w
section
variable {w0 w w1 : World} {g : Nat} {L : List Bk} {W : List Wr}
theorem Mine.below (h : Mine w0 w g L W) (hb : Below w.heap.size w w1) : Mine w0 w1 g L W := by
  obtain ⟨F, hD, hF, hB⟩ := h
  exact ⟨F, hD.below hb, fun i hi => ⟨(hF i hi).1, Nat.lt_of_lt_of_le (hF i hi).2 hb.size⟩, bl_then hB hb⟩
theorem Mine.bl (h : Mine w0 w g L W) : Below w0.heap.size w0 w := h.choose_spec.2.2
theorem mine_step {F : Nat → Prop} {L' : List Bk} {W' : List Wr} (hF : ∀ i, F i → w0.heap.size ≤ i ∧ i < w.heap.size) (hB : Below w0.heap.size w0 w) (hD : DkF 59 34 71 w0.heap.size w1 g (gro F w w1) L' W') (ho : Out w w1 F) : Mine w0 w1 g L' W' :=
  ⟨gro F w w1, hD, fun i hi => by
    rcases hi with hi | ⟨h1, h2⟩
    · exact ⟨(hF i hi).1, Nat.lt_of_lt_of_le (hF i hi).2 ho.size⟩
    · exact ⟨Nat.le_trans hB.size h1, h2⟩, ho.below hB hB.size (fun i hi => (hF i hi).1)⟩
end
theorem mine_new (n : Nat) (h1 : 1 ≤ n) (h2 : n ≤ 512) (w : World) :
    Calls Try.prog 8 #[.int .i64 n] w fun r w' => ∃ g, r = .returned (.pointer (some ⟨g, 0, none⟩)) ∧ Mine w w' g (List.replicate n zb) [] := by
  refine (new_c n h1 h2 w.heap.size w (Nat.le_refl _)).mono ?_
  rintro r w1 ⟨g, rfl, hD, hb⟩
  refine ⟨g, rfl, _, hD, fun i hi => ?_, hb⟩
  rcases hi with hi | ⟨h1, h2⟩
  · exact hi.elim
  · exact ⟨h1, h2⟩
theorem mine_write {w0 w : World} {g : Nat} {L : List Bk} {W : List Wr} (h : Mine w0 w g L W) (b : Nat) (x : Bk) (hb : b < L.length) (hL : L.length ≤ 1000) (hW : W.length ≤ 1000) :
    Calls Try.prog 17 #[.pointer (some ⟨g, 0, none⟩), .int .i64 b, .agg (bc x)] w fun r w' => r = .returned (.bool true) ∧ Mine w0 w' g L (W ++ [⟨b, x⟩]) := by
  obtain ⟨F, hD, hF, hB⟩ := h
  refine (write_yes g F L W b x w0.heap.size w hD hb hL hW (fun i hi => (hF i hi).2)).mono ?_
  rintro r w1 ⟨rfl, hD', ho⟩
  exact ⟨rfl, mine_step hF hB hD' ho⟩
theorem mine_flush {w0 w : World} {g : Nat} {L : List Bk} {W : List Wr} (h : Mine w0 w g L W) (hok : Ok L W) (hL : L.length ≤ 1000) (hW : W.length ≤ 1000) :
    Calls Try.prog 15 #[.pointer (some ⟨g, 0, none⟩)] w fun r w' => r = .returned (.tuple #[]) ∧ Mine w0 w' g (land W yes L W.length) [] := by
  obtain ⟨F, hD, hF, hB⟩ := h
  refine (flush_c g F L W w0.heap.size w hD hok hL hW (fun i hi => (hF i hi).2)).mono ?_
  rintro r w1 ⟨rfl, hD', ho⟩
  exact ⟨rfl, mine_step hF hB hD' ho⟩
theorem mine_crash {w0 w wp : World} {g : Nat} {L : List Bk} {W : List Wr} (h : Mine w0 wp g L W) (hp : Below wp.heap.size wp w) (hok : Ok L W) (hL : L.length ≤ 1000) (hW : W.length ≤ 1000) (Ak : Option Addr) (nk ck : Nat) (ks : List Bool) (hk : RF bo 1 w Ak nk ks) (hkF : ∀ a, Ak = some a → a.block < w0.heap.size ∨ wp.heap.size ≤ a.block) :
    Calls Try.prog 19 #[.pointer (some ⟨g, 0, none⟩), .slice Ak nk ck] w fun r w' => r = .returned (.int .i64 (count (kf ks) W.length : Nat)) ∧ Mine w0 w' g (land W (kf ks) L W.length) [] := by
  obtain ⟨F, hD, hF, hB⟩ := h
  refine (crash_c g F L W w0.heap.size w (hD.below hp) hok hL hW (fun i hi => Nat.lt_of_lt_of_le (hF i hi).2 hp.size) Ak nk ck ks hk (fun _ a ha hi => ?_)).mono ?_
  · have h1 := hF _ hi
    have h2 := hkF a ha
    omega
  · rintro r w1 ⟨rfl, hD', ho⟩
    exact ⟨rfl, mine_step (w := w) (fun i hi => ⟨(hF i hi).1, Nat.lt_of_lt_of_le (hF i hi).2 hp.size⟩) (bl_then hB hp) hD' ho⟩
theorem mine_read {w0 w : World} {g : Nat} {L : List Bk} {W : List Wr} (h : Mine w0 w g L W) (b : Nat) (hb : b < L.length) (hL : L.length ≤ 1000) (hW : W.length ≤ 1000) :
    Calls Try.prog 12 #[.pointer (some ⟨g, 0, none⟩), .int .i64 b] w fun r w' => r = .returned (.tuple #[.agg (bc (DiskMath.read L W b)), .bool true]) ∧ Below w.heap.size w w' := by
  obtain ⟨F, hD, hF, hB⟩ := h
  exact read_yes g F L W b w0.heap.size w hD hb hL hW

section
variable {P : Program} {ops : Array Oper} {Q : Exit → Act → World → Prop} {rest : List Oper} {o : Oper} {a : Act} {W : World}
/-- A value built of one part. -/
theorem wl_build1 (hgd : o.guard = none) (T : TypeId) (i : Nat) (x : Operand) (ho : o.op = .build T #[(i, x)]) (v : Value) (hx : a.eval x = v) (cs : Array Value) (hb : P.built T [(i, v)] = some cs)
    (h : wpList P ops Q rest (a.put o.dst (.agg cs)) W) : wpList P ops Q (o :: rest) a W := by
  have e : (Array.map (fun (x : Nat × Operand) => match x with | (i, x) => (i, a.eval x)) #[(i, x)]).toList = [(i, v)] := by simp [hx]
  refine wpList_build hgd T #[(i, x)] ho ?_ ?_
  · rw [e, hb]; rfl
  · rw [e, hb]; exact h
end
def one (v : Int) : Bk := ⟨v :: List.replicate 63 0, by simp⟩
theorem built_one (v : Int) : Try.prog.built 34 [(0, .int .u8 v)] = some (bc (one v)) := by kernel_rfl
theorem awl1 : land [⟨0, one 1⟩] yes [zb, zb] 1 = [one 1, zb] := rfl
theorem awl2 : land [⟨0, one 2⟩, ⟨1, one 3⟩] (kf [false, true]) [one 1, zb] 2 = [one 1, one 3] := rfl
theorem awc : count (kf [false, true]) 2 = 1 := rfl
theorem awr0 : DiskMath.read [one 1, one 3] [] 0 = one 1 := rfl
theorem awr1 : DiskMath.read [one 1, one 3] [] 1 = one 3 := rfl
theorem rf2 (w : World) (b c : Bool) (g : Nat) (h : Blk w g 4 #[.bool b, .bool c]) : RF bo 1 w (some ⟨g, 0, none⟩) 2 [b, c] :=
  ⟨rfl, by decide, fun _ => ⟨g, 0, rfl, fun i x hx j v hv => by
    match i, hx with
    | 0, hx =>
      simp at hx; subst hx
      match j, hv with
      | 0, hv => simp [bo] at hv; subst hv; exact h.cellv 0 _ rfl
      | j + 1, hv => simp [bo] at hv
    | 1, hx =>
      simp at hx; subst hx
      match j, hv with
      | 0, hv => simp [bo] at hv; subst hv; exact h.cellv 1 _ rfl
      | j + 1, hv => simp [bo] at hv
    | i + 2, hx => simp at hx⟩⟩
set_option maxRecDepth 100000 in
set_option maxHeartbeats 4000000 in
theorem awake_c (w : World) : Calls Try.prog 14 #[] w fun e w' => e = .returned (.bool true) ∧ Below w.heap.size w w' := by
  go_enter Try.func14, Try.ntmps14
  go_wp2_with fail
  refine (mine_new 2 (by omega) (by omega) w).mono ?_
  rintro r w1 ⟨g, rfl, M⟩
  replace M : Mine w w1 g [zb, zb] [] := M
  go_wp2_with (refine wl_build1 rfl 34 0 _ rfl (.int .u8 1) rfl (bc (one 1)) (built_one 1) ?_)
  refine (mine_write M 0 (one 1) (by simp) (by simp) (by simp)).mono ?_
  rintro r w2 ⟨rfl, M2⟩
  replace M2 : Mine w w2 g [zb, zb] [⟨0, one 1⟩] := M2
  clear M
  go_wp2_with fail
  refine (mine_flush M2 (fun x hx => by simp at hx; subst hx; simp) (by simp) (by simp)).mono ?_
  rintro r w3 ⟨rfl, M3⟩
  replace M3 : Mine w w3 g [one 1, zb] [] := M3
  clear M2
  go_wp2_with (refine wl_build1 rfl 34 0 _ rfl (.int .u8 2) rfl (bc (one 2)) (built_one 2) ?_)
  refine (mine_write M3 0 (one 2) (by simp) (by simp) (by simp)).mono ?_
  rintro r w4 ⟨rfl, M4⟩
  replace M4 : Mine w w4 g [one 1, zb] [⟨0, one 2⟩] := M4
  clear M3
  go_wp2_with (refine wl_build1 rfl 34 0 _ rfl (.int .u8 3) rfl (bc (one 3)) (built_one 3) ?_)
  refine (mine_write M4 1 (one 3) (by simp) (by simp) (by simp)).mono ?_
  rintro r w5 ⟨rfl, M5⟩
  replace M5 : Mine w w5 g [one 1, zb] [⟨0, one 2⟩, ⟨1, one 3⟩] := M5
  clear M4
  go_wp2_with fail
  have B5 : Below w5.heap.size w5 (w5.alloc (.cells #[.bool false, .bool true] 4)) := bl_alloc (bl_refl w5) _
  refine (mine_crash M5 B5 (fun x hx => by simp at hx; rcases hx with rfl | rfl <;> simp) (by simp) (by simp) (some ⟨w5.heap.size, 0, none⟩) 2 2 [false, true] (rf2 _ _ _ _ (Blk.new w5 _ _)) (fun a ha => by injection ha with ha; subst ha; exact .inr (Nat.le_refl _))).mono ?_
  rintro r w6 ⟨rfl, M6⟩
  replace M6 : Mine w w6 g [one 1, one 3] [] := M6
  rw [show count (kf [false, true]) ([⟨0, one 2⟩, ⟨1, one 3⟩] : List Wr).length = 1 from rfl]
  clear M5 B5
  go_wp2_with fail
  refine (mine_read M6 0 (by simp) (by simp) (by simp)).mono ?_
  rintro r w7 ⟨rfl, b7⟩
  rw [awr0]
  have M7 := M6.below b7
  clear M6 b7
  go_wp2_with (first
    | ((with_reducible refine wl_alloc rfl 34 rfl (bc zb) new_d ?_); intro w8 k8 b8 s8)
    | ((refine wl_store rfl 34 (.tmp 3) (.tmp 25) rfl w7.heap.size rfl (bc (one 1)) rfl 34 (bc zb) k8 (sz_bc _) rfl (bc_one _) ?_); intro w9 k9 g9 s9))
  have b9 := below_grown b8 b8.size g9 (Nat.le_refl _)
  have M9 := M7.below b9
  clear M7 k8 b8 g9 b9
  refine (mine_read M9 1 (by simp) (by simp) (by simp)).mono ?_
  rintro r w10 ⟨rfl, b10⟩
  rw [awr1]
  have M10 := M9.below b10
  have K9 := k9.below b10
  clear M9 b10 k9
  go_wp2_with (first
    | ((with_reducible refine wl_alloc rfl 34 rfl (bc zb) new_d ?_); intro w11 k11 b11 s11)
    | ((refine wl_store rfl 34 (.tmp 5) (.tmp 30) rfl w10.heap.size rfl (bc (one 3)) rfl 34 (bc zb) k11 (sz_bc _) rfl (bc_one _) ?_); intro w12 k12 g12 s12; have c1 := ((K9.below b11).grown g12 (fun e => by injection e with e; have := K9.lt; omega)).cellv 0 (.int .u8 1) rfl; have c2 := k12.cellv 0 (.int .u8 3) rfl))
  go_ret
  exact ⟨rfl, (M10.below (below_grown b11 b11.size g12 (Nat.le_refl _))).bl⟩
end Go.Proofs.Ythihpejhhimkaaa.DiskA
