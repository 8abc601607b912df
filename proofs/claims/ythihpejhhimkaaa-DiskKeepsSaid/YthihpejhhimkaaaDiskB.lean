/- slices.Backward over the writes of a disk: its contract. -/
import Derived.Test.YthihpejhhimkaaaDisk4
import Derived.Test.YthihpejhhimkaaaIn
set_option linter.unusedVariables false
namespace Go.Proofs.Ythihpejhhimkaaa.DiskB
open Go.RowKit Go.Shelf Go.Proofs.Ythihpejhhimkaaa.Base Go.Proofs.Ythihpejhhimkaaa.Row Go.Proofs.Ythihpejhhimkaaa.App Go.Proofs.Ythihpejhhimkaaa.Multi Go.Proofs.Ythihpejhhimkaaa.StEq Go.Proofs.Ythihpejhhimkaaa.Held Go.Proofs.Ythihpejhhimkaaa.Out Go.Proofs.Ythihpejhhimkaaa.HeldW Go.Proofs.Ythihpejhhimkaaa.DiskMath Go.Proofs.Ythihpejhhimkaaa.Disk Go.Proofs.Ythihpejhhimkaaa.Disk3 Go.Proofs.Ythihpejhhimkaaa.In
attribute [local go_sem] Oper.semAt_some

def upto {α : Type} (f : Nat → α) (k : Nat) : List α := (List.range k).map f
theorem upto_succ {α : Type} (f : Nat → α) (k : Nat) : upto f (k + 1) = upto f k ++ [f k] := by simp [upto, List.range_succ]
theorem upto_length {α : Type} (f : Nat → α) (k : Nat) : (upto f k).length = k := by simp [upto]
/-- The j-th write from behind. -/
def bk (W : List Wr) (j : Nat) : Nat × Wr := (W.length - 1 - j, W[W.length - 1 - j]?.getD ⟨0, zb⟩)
def encs (x : Nat × Wr) : Array Value := #[.int .i64 (x.1 : Int), .agg (wv x.2).toArray]
/-- The writes lie in a block below n₀; or there are none. -/
def Ws (n₀ : Nat) (w : World) (sv : Value) (W : List Wr) : Prop :=
  (sv = .slice none 0 0 ∧ W = []) ∨ ∃ gq cur cap, sv = .slice (some ⟨gq, 0, none⟩) W.length cap ∧ gq < n₀ ∧ Blk w gq 71 cur ∧ ∀ i x, W[i]? = some x → ∀ j v, (wv x)[j]? = some v → cur[i * 65 + j]? = some v
/-- What a round keeps: what lies below n₀, and the iterator's own box. -/
def Kpb (n₀ Bs : Nat) (A B : World) : Prop := Below n₀ A B ∧ B.heap[Bs]? = A.heap[Bs]?
theorem Kpb.trans {n₀ Bs : Nat} {A B C : World} (h : Kpb n₀ Bs A B) (k : Kpb n₀ Bs B C) : Kpb n₀ Bs A C := ⟨h.1.trans k.1, k.2.trans h.2⟩
set_option maxRecDepth 100000 in
set_option maxHeartbeats 2000000 in
theorem back1_in (F : Fence) (n : Nat) (h7 : F.fn 30) (hro : F.round = none) (hn : 1 ≤ n) (l Bs n₀ gq cap : Nat) (cur : Array Value) (W : List Wr) (hW : W.length ≤ 1000) (hb : gq < n₀) (J Jx : List (Nat × Wr) → World → Prop)
    (hY : ∀ pre x w, J pre w → pre.length < W.length → YieldAt F (n - 1) Try.prog l (encs x) w fun e w' =>
      (e = .returned (.bool true) ∧ J (pre ++ [x]) w' ∧ Kpb n₀ Bs w w') ∨ (e = .returned (.bool false) ∧ Jx (pre ++ [x]) w'))
    (w : World) (hBs : w.cell? ⟨Bs, 0, none⟩ = some (.slice (some ⟨gq, 0, none⟩) W.length cap)) (hc : Blk w gq 71 cur) (hcs : ∀ i x, W[i]? = some x → ∀ j v, (wv x)[j]? = some v → cur[i * 65 + j]? = some v) (h0 : J [] w) :
    CallsIn F n Try.prog 30 #[.func (.yield l) #[] #[], .pointer (some ⟨Bs, 0, none⟩)] w fun e w' => (∃ v, e = .returned v) ∧
      ((∃ ys, ys = upto (bk W) W.length ∧ J ys w') ∨ (∃ pre, (∃ k, k ≤ W.length ∧ pre = upto (bk W) k) ∧ Jx pre w')) := by
  refine callsIn_of_wp Try.func30 rfl h7 ?_ hro
  simp only [Try.ntmps30, List.size_toArray, List.length_cons, List.length_nil, Nat.reduceAdd, Nat.reduceSub, Array.replicate_succ, Array.replicate_zero, List.push_toArray, List.append_toArray, List.nil_append, List.cons_append]
  gi_wp2
  gi_loopw [3] (fun i wr => ∃ k m : Nat, k + m = W.length ∧ i = .int .i64 ((m : Int) - 1) ∧ J (upto (bk W) k) wr ∧ Kpb n₀ Bs w wr)
    (fun i _ => (intOf i + 1).toNat)
  case atStart => exact ⟨0, W.length, by omega, by go_num, h0, Below.refl _ _, rfl⟩
  case round =>
    obtain ⟨k, m, hk, rfl, hJs, hnx⟩ := hrel
    have hbs : wr.cell? ⟨Bs, 0, none⟩ = some (.slice (some ⟨gq, 0, none⟩) W.length cap) := (World.cell?_of_block hnx.2).trans hBs
    have KQ : Blk wr gq 71 cur := (hnx.1.block gq hb).trans hc
    by_cases hlt : 1 ≤ m
    · obtain ⟨i, rfl⟩ : ∃ i, m = i + 1 := ⟨m - 1, by omega⟩
      have hi : i < W.length := by omega
      have hii : (i : Int) < (W.length : Int) := by omega
      have e1 : ((i + 1 : Nat) : Int) - 1 = (i : Int) := by omega
      obtain ⟨x, hx⟩ : ∃ x, W[i]? = some x := ⟨_, List.getElem?_eq_getElem hi⟩
      have hbk : bk W k = (i, x) := by
        unfold bk
        rw [show W.length - 1 - k = i by omega, hx]; rfl
      obtain ⟨fn, tmps, assign, body, hy, hR⟩ := hY _ (i, x) wr hJs (by rw [upto_length]; omega)
      unfold encs at hy
      dsimp only at hy
      have hcx := Lib.hid (hcs i x hx)
      have q1 : decide ((0 : Int) ≤ (i : Int)) = true := by simp
      rw [e1]
      have hup := Lib.hid (show upto (bk W) (k + 1) = upto (bk W) k ++ [(i, x)] by rw [upto_succ, hbk])
      clear hx hbk e1 hcs
      gi_wp2_with (refine wlin_load rfl 71 (.tmp 15) rfl gq (i * 65) rfl 71 cur (wv x) _ KQ hcx.out Try.underlying71 rfl (sz_wv x) ?_)
      refine hR.mono ?_
      rintro e W3 (⟨rfl, hJ3, hk3⟩ | ⟨rfl, hJx3⟩)
      · gi_wp2
        go_roundw
        case rel => exact ⟨k + 1, i, by omega, by go_num, by rw [hup.out]; exact hJ3, hnx.trans hk3⟩
        case measure => first | (simp [intOf]; done) | (simp [intOf]; omega)
      · gi_wp2
        refine bodyPost_ret (results_none rfl _ _ _) rfl ?_
        exact ⟨⟨_, rfl⟩, .inr ⟨_, ⟨k + 1, by omega, hup.out.symm⟩, hJx3⟩⟩
    · obtain rfl : m = 0 := by omega
      have e1 : ((0 : Nat) : Int) - 1 = -1 := rfl
      rw [e1]
      obtain rfl : k = W.length := by omega
      gi_wp2
      go_end0
      exact ⟨⟨_, rfl⟩, .inl ⟨_, rfl, hJs⟩⟩
set_option maxRecDepth 100000 in
theorem back1_nil (F : Fence) (n : Nat) (h7 : F.fn 30) (hro : F.round = none) (l Bs : Nat) (J : List (Nat × Wr) → World → Prop) (w : World) (hBs : w.cell? ⟨Bs, 0, none⟩ = some (.slice none 0 0)) (h0 : J [] w) :
    CallsIn F n Try.prog 30 #[.func (.yield l) #[] #[], .pointer (some ⟨Bs, 0, none⟩)] w fun e w' => (∃ v, e = .returned v) ∧ J [] w' := by
  refine callsIn_of_wp Try.func30 rfl h7 ?_ hro
  simp only [Try.ntmps30, List.size_toArray, List.length_cons, List.length_nil, Nat.reduceAdd, Nat.reduceSub, Array.replicate_succ, Array.replicate_zero, List.push_toArray, List.append_toArray, List.nil_append, List.cons_append]
  gi_wp2
  gi_loopw [3] (fun i wr => i = .int .i64 (-1) ∧ J [] wr) (fun _ _ => 0)
  case atStart => exact ⟨by first | rfl | go_num, h0⟩
  case round =>
    obtain ⟨rfl, hJs⟩ := hrel
    gi_wp2
    go_end0
    exact ⟨⟨_, rfl⟩, hJs⟩
theorem back_in (F : Fence) (n : Nat) (h5 : F.fn 27) (hro : F.round = none) (a : Option Addr) (len cap : Nat) (w : World) :
    CallsIn F n Try.prog 27 #[.slice a len cap] w fun e w' => e = .returned (.func (.func 30) #[] #[.pointer (some ⟨w.heap.size, 0, none⟩)]) ∧ w' = w.alloc (.cells #[.slice a len cap] 57) := by
  refine callsIn_of_wp Try.func27 rfl h5 ?_ hro
  simp only [Try.ntmps27, List.size_toArray, List.length_cons, List.length_nil, Nat.reduceAdd, Nat.reduceSub, Array.replicate_succ, Array.replicate_zero, List.push_toArray, List.append_toArray, List.nil_append, List.cons_append]
  gi_wp2
  go_ret
  exact ⟨rfl, rfl⟩
theorem Ws.below {n₀ : Nat} {A B : World} (h : Below n₀ A B) {sv : Value} {W : List Wr} : Ws n₀ A sv W → Ws n₀ B sv W
  | .inl e => .inl e
  | .inr ⟨gq, cur, cap, e, hb, hc, hr⟩ => .inr ⟨gq, cur, cap, e, hb, (h.block gq hb).trans hc, hr⟩
theorem back_stops (F : Fence) (n : Nat) (h7 : F.fn 30) (hro : F.round = none) (hn : 1 ≤ n) (Bs n₀ : Nat) (sv : Value) (W : List Wr) (hW : W.length ≤ 1000) (w : World) (hBs : Bs < w.heap.size) (hn₀ : n₀ ≤ w.heap.size)
    (hc : w.cell? ⟨Bs, 0, none⟩ = some sv) (hI : Ws n₀ w sv W) :
    SeqStopsK F n Try.prog 30 #[.pointer (some ⟨Bs, 0, none⟩)] encs (Kpb n₀ Bs) (fun ys => ys = upto (bk W) W.length) (fun pre => ∃ k, k ≤ W.length ∧ pre = upto (bk W) k) W.length w := fun l J Jx w1 hW1 _ _ hY h0 => by
  have hc' := (hW1.cell (p := ⟨Bs, 0, none⟩) hBs).trans hc
  rcases hI.below (hW1.mono hn₀) with ⟨rfl, rfl⟩ | ⟨gq, cur, cap, rfl, hb, hk, hcs⟩
  · exact (back1_nil F n h7 hro l Bs J w1 hc' h0).mono fun e W' ⟨he, hj⟩ => ⟨he, .inl ⟨_, rfl, hj⟩⟩
  · exact back1_in F n h7 hro hn l Bs n₀ gq cap cur W hW hb J Jx hY w1 hc' hk hcs h0
end Go.Proofs.Ythihpejhhimkaaa.DiskB
