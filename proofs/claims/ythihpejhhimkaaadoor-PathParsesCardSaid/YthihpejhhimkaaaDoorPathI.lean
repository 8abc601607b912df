/- strings.SplitSeq at one stroke: its iterator's contract. -/
import Derived.Test.YthihpejhhimkaaaDoorPath2
import Derived.Test.YthihpejhhimkaaaDoorPathL
set_option linter.unusedVariables false
namespace Go.Proofs.YthihpejhhimkaaaDoor.PathI
open Go.RowKit Go.Shelf Go.Proofs.YthihpejhhimkaaaDoor.Base Go.Proofs.YthihpejhhimkaaaDoor.Row Go.Proofs.YthihpejhhimkaaaDoor.Out Go.Proofs.YthihpejhhimkaaaDoor.In Go.Proofs.YthihpejhhimkaaaDoor.PathL Go.Proofs.YthihpejhhimkaaaDoor.Dir Go.Proofs.YthihpejhhimkaaaDoor.Path Go.Proofs.YthihpejhhimkaaaDoor.Path2
attribute [local go_sem] Oper.semAt_some

/-- The three boxes lie as they lay. -/
def Kp3 (b : Nat) (A B : World) : Prop := ∀ k, b ≤ k → k < b + 3 → B.heap[k]? = A.heap[k]?
theorem Kp3.trans {b : Nat} {A B C : World} (h : Kp3 b A B) (k : Kp3 b B C) : Kp3 b A C := fun i h1 h2 => (k i h1 h2).trans (h i h1 h2)
theorem Kp3.put {b : Nat} (W : World) (l : Nat) (o' : Obj) (h : b + 3 ≤ l) : Kp3 b W (W.putObj l o') := fun k h1 h2 => World.putObj_heap_other (by omega)
theorem Kp3.blk {b k : Nat} {A B : World} {t : TypeId} {cs : Array Value} (h : Kp3 b A B) (hb : Blk A k t cs) (h1 : b ≤ k) (h2 : k < b + 3) : Blk B k t cs := (h k h1 h2).trans hb
/-- How long a text the first box holds. -/
def lenAt (b : Nat) (w : World) : Nat := match w.cell? ⟨b, 0, none⟩ with | some (.string r) => r.size | _ => 0
theorem lenAt_eq {b : Nat} {w : World} {t : TypeId} {r : ByteArray} (h : Blk w b t #[.string r]) : lenAt b w = r.size := by
  unfold lenAt
  rw [h.cellv 0 (.string r) rfl]
def enc1 (x : ByteArray) : Array Value := #[.string x]
theorem ext_le (r : ByteArray) (a b : Nat) : (r.extract a b).size ≤ r.size := by
  rw [ByteArray.size_extract]
  omega
set_option maxRecDepth 100000 in
set_option maxHeartbeats 4000000 in
theorem split_stops (b : Nat) (s : ByteArray) (hs : s.size ≤ maxLen) (w : World) (hb : b + 3 ≤ w.heap.size)
    (k0 : Blk w b 9 #[.string s]) (k1 : Blk w (b + 1) 9 #[.string ⟨#[47]⟩]) (k2 : Blk w (b + 2) 3 #[.int .i64 0]) :
    SeqC Fence.wide 7 Tryd.prog 47 #[.pointer (some ⟨b + 1, 0, none⟩), .pointer (some ⟨b, 0, none⟩), .pointer (some ⟨b + 2, 0, none⟩)] enc1 (fun x => x.size ≤ s.size) (Kp3 b) b
      (fun ys => ys.map tl = parts (tl s)) (fun pre => ∃ r, pre.map tl ++ r = parts (tl s)) w := by
  intro l J Jx W hW hJ hY h0
  unfold maxLen at hs
  have K0 : Blk W b 9 #[.string s] := k0.below hW
  have K1 : Blk W (b + 1) 9 #[.string ⟨#[47]⟩] := k1.below hW
  have K2 : Blk W (b + 2) 3 #[.int .i64 0] := k2.below hW
  have HI := Lib.hid (fun r w => idx_c r w)
  have hJ' := Lib.hid hJ
  have hY' := Lib.hid hY
  clear hJ hY k0 k1 k2
  refine callsIn_of_wp Tryd.func47 rfl trivial ?_ rfl
  simp only [Tryd.ntmps47, List.size_toArray, List.length_cons, List.length_nil, Nat.reduceAdd, Nat.reduceSub, Array.replicate_succ, Array.replicate_zero, List.push_toArray, List.append_toArray, List.nil_append, List.cons_append]
  have c0 := K0.cellv 0 (.string s) rfl
  have c1 := K1.cellv 0 (.string ⟨#[47]⟩) rfl
  have c2 := K2.cellv 0 (.int .i64 0) rfl
  gi_wp2
  gi_loopw [7] (fun _ wr => ∃ (pre : List ByteArray) (r : ByteArray), r.size ≤ s.size ∧ pre.map tl ++ parts (tl r) = parts (tl s) ∧ Blk wr b 9 #[.string r] ∧ Blk wr (b + 1) 9 #[.string ⟨#[47]⟩] ∧ Blk wr (b + 2) 3 #[.int .i64 0] ∧ J pre wr)
    (fun _ wr => lenAt b wr)
  case atStart => exact ⟨[], s, Nat.le_refl _, rfl, K0, K1, K2, h0⟩
  case round =>
    clear K0 K1 K2 c0 c1 c2
    obtain ⟨pre, r, hr, hp, K0, K1, K2, hj⟩ := hrel
    have c0 := K0.cellv 0 (.string r) rfl
    have c1 := K1.cellv 0 (.string ⟨#[47]⟩) rfl
    have c2 := K2.cellv 0 (.int .i64 0) rfl
    have f0 := K0.frozen 0
    have HP := Lib.hid hp
    have HJ := Lib.hid hj
    clear hp hj
    have hcase : (Lib.indexByte (tl r) 47 < (tl r).length ∧ 0 ≤ Lib.indexByte (tl r) 47) ∨ Lib.indexByte (tl r) 47 = -1 := by
      have h1 := Lib.indexByte_ge (tl r) 47
      rcases index_lt (tl r) 47 with h | h
      · by_cases h2 : 0 ≤ Lib.indexByte (tl r) 47
        · exact .inl ⟨h, h2⟩
        · exact .inr (by omega)
      · exact .inr h
    rcases hcase with ⟨hi, hpos⟩ | hi
    · · obtain ⟨i, hii⟩ : ∃ i : Nat, Lib.indexByte (tl r) 47 = (i : Int) := ⟨(Lib.indexByte (tl r) 47).toNat, by omega⟩
        have HX : Hid (∀ w, Calls Tryd.prog 49 #[.string r, .string ⟨#[47]⟩] w fun e w' => e = .returned (.int .i64 (i : Int)) ∧ w' = w) := Lib.hid (fun w => by have := HI.out r w; rwa [show Lib.indexByte r.data.toList 47 = (i : Int) from hii] at this)
        obtain ⟨hil, hpp⟩ := parts_some hii
        rw [tl_len] at hil
        have q1 : decide ((i : Int) < 0) = false := by simp
        have q2 : (i : Int) < (r.size : Int) := by omega
        have q3 : decide ((i : Int) ≤ (r.size : Int)) = true := by simp; omega
        have q4 : wrap64 ((i : Int) + 1) = (i : Int) + 1 := by unfold wrap64; omega
        have q5 : decide (0 ≤ (i : Int) + 1) = true := by simp; omega
        have q6 : decide ((i : Int) + 1 ≤ (r.size : Int)) = true := by simp; omega
        have q7 : decide (i ≤ r.size) = true := by simp; omega
        have q8 : decide (i + 1 ≤ r.size) = true := by simp; omega
        obtain ⟨fn, tmps, assign, body, hy, hR⟩ := hY'.out pre (r.extract 0 i) wr (Nat.le_trans (ext_le _ _ _) hr) HJ.out
        unfold enc1 at hy
        have HR := Lib.hid hR
        clear hR hii hi hpos
        gi_wp2_with (first
          | (gi_at_call 49; refine (callsIn_wide.2 (HX.out _)).mono ?_; rintro e w' ⟨rfl, rfl⟩)
          | (refine ⟨trivial, ?_⟩; gi_at_call 49; refine (callsIn_wide.2 (HX.out _)).mono ?_; rintro e w' ⟨rfl, rfl⟩))
        refine HR.out.mono ?_
        rintro e W3 (⟨rfl, hJ3, hk3⟩ | ⟨rfl, hJx3⟩)
        · have K00 := K0
          have K0 := hk3.blk K0 (by omega) (by omega)
          have K1 := hk3.blk K1 (by omega) (by omega)
          have K2 := hk3.blk K2 (by omega) (by omega)
          have c0 := K0.cellv 0 (.string r) rfl
          have c1 := K1.cellv 0 (.string ⟨#[47]⟩) rfl
          have c2 := K2.cellv 0 (.int .i64 0) rfl
          have f0 := K0.frozen 0
          have hj := Lib.hid (hJ'.out _ _ (.string (r.extract (i + 1) r.size)) hJ3)
          have hj3 := Lib.hid hJ3
          clear hJ3
          have hcut : (pre ++ [r.extract 0 i]).map tl ++ parts (tl (r.extract (i + 1) r.size)) = parts (tl s) := by
            rw [← HP.out, hpp, List.map_append, List.map_cons, List.map_nil, tl_extract, tl_extract]
            rw [show (tl r).take r.size = tl r by rw [List.take_of_length_le]; rw [tl_len]; exact Nat.le_refl _]
            simp
          have hsz : (r.extract (i + 1) r.size).size < r.size := by rw [ByteArray.size_extract]; omega
          have k0' : Blk (W3.setCell ⟨b, 0, none⟩ (.string (r.extract (i + 1) r.size))) b 9 #[.string (r.extract (i + 1) r.size)] := K0.set_ 0 _
          have k1' : Blk (W3.setCell ⟨b, 0, none⟩ (.string (r.extract (i + 1) r.size))) (b + 1) 9 #[.string ⟨#[47]⟩] := K1.far (show b + 1 ≠ b by omega) _
          have k2' : Blk (W3.setCell ⟨b, 0, none⟩ (.string (r.extract (i + 1) r.size))) (b + 2) 3 #[.int .i64 0] := K2.far (show b + 2 ≠ b by omega) _
          have hme : lenAt b (W3.setCell ⟨b, 0, none⟩ (.string (r.extract (i + 1) r.size))) < lenAt b w' := by rw [lenAt_eq k0', lenAt_eq K00]; exact hsz
          have HH := Lib.hid (And.intro hcut (And.intro hsz (And.intro k0' (And.intro k1' (And.intro k2' hme)))))
          clear hcut hsz k0' k1' k2' hme K0 K1 K2
          gi_wp2
          obtain ⟨hcut, hsz, k0', k1', k2', hme⟩ := HH.out
          exact ⟨⟨_, _, by omega, hcut, k0', k1', k2', hj.out⟩, hme⟩
        · gi_wp2
          refine bodyPost_ret (results_none rfl _ _ _) rfl ?_
          refine ⟨⟨_, rfl⟩, .inr ⟨_, ⟨parts ((tl r).drop (i + 1)), ?_⟩, hJx3⟩⟩
          rw [← HP.out, hpp, List.map_append, List.map_cons, List.map_nil, tl_extract]
          simp
    · have HX : Hid (∀ w, Calls Tryd.prog 49 #[.string r, .string ⟨#[47]⟩] w fun e w' => e = .returned (.int .i64 (-1)) ∧ w' = w) := Lib.hid (fun w => by have := HI.out r w; rwa [show Lib.indexByte r.data.toList 47 = -1 from hi] at this)
      have hpp := parts_none hi
      obtain ⟨fn, tmps, assign, body, hy, hR⟩ := hY'.out pre r wr hr HJ.out
      unfold enc1 at hy
      have HR := Lib.hid hR
      clear hR hi
      gi_wp2_with (first
        | (gi_at_call 49; refine (callsIn_wide.2 (HX.out _)).mono ?_; rintro e w' ⟨rfl, rfl⟩)
        | (refine ⟨trivial, ?_⟩; gi_at_call 49; refine (callsIn_wide.2 (HX.out _)).mono ?_; rintro e w' ⟨rfl, rfl⟩))
      refine HR.out.mono ?_
      have hall : pre.map tl ++ [tl r] = parts (tl s) := by rw [← HP.out, hpp]
      have hall2 : (pre ++ [r]).map tl = parts (tl s) := by rw [← hall]; simp
      rintro e W3 (⟨rfl, hJ3, hk3⟩ | ⟨rfl, hJx3⟩)
      · gi_wp2
        go_end0
        exact ⟨⟨_, rfl⟩, .inl ⟨_, hall2, hJ3⟩⟩
      · gi_wp2
        go_end0
        exact ⟨⟨_, rfl⟩, .inr ⟨_, ⟨[], by rw [List.append_nil, hall2]⟩, hJx3⟩⟩
end Go.Proofs.YthihpejhhimkaaaDoor.PathI
