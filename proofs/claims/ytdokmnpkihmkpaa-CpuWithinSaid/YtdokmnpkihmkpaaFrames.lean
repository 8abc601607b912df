/- Contracts of package frames. -/
import Derived.Test.YtdokmnpkihmkpaaRow
import Derived.Test.YtdokmnpkihmkpaaProg
import Derived.Laws.MakeOwn
import Derived.StillTailTactics
import Derived.Deep.RegionHeld3
set_option linter.unusedVariables false
namespace Go.Proofs.Ytdokmnpkihmkpaa.Frames
open Go.RowKit Go.Proofs.Ytdokmnpkihmkpaa.Base Go.Proofs.Ytdokmnpkihmkpaa.Row

/-- Words in memory. -/
def pg (X : List Int) : Array Value := (nums .u32 X).toArray
theorem pg_size (X : List Int) : (pg X).size = X.length := by simp [pg, nums]
theorem pg_get (X : List Int) (i : Nat) (h : i < X.length) : (pg X)[i]? = some (.int .u32 (X[i]?.getD 0)) := by
  unfold pg nums
  simp [List.getElem?_eq_getElem h]
theorem pg_set (X : List Int) (i : Nat) (v : Int) : (pg X).setIfInBounds i (.int .u32 v) = pg (X.set i v) := by
  unfold pg nums
  simp [List.map_set]
theorem pg_one (X : List Int) : ∀ v ∈ pg X, v.oneCell' = true := by
  intro v hv
  simp [pg, nums] at hv
  obtain ⟨a, _, rfl⟩ := hv
  rfl
theorem size_pg (X : List Int) (h : X.length = 16) : (Try.prog.info? 40).map (·.size) = some (pg X).size := by rw [pg_size, h]; kernel_rfl
theorem size_pgl (l : List Value) (h : l.length = 16) : (Try.prog.info? 40).map (·.size) = some l.length := by rw [h]; kernel_rfl
def z16 : List Int := [0, 0, 0, 0, 0, 0, 0, 0, 0, 0, 0, 0, 0, 0, 0, 0]
theorem new_p : (Try.prog.info? 40).map (fun i => i.zero.map (·.cells)) = some (some (pg z16)) := by kernel_rfl
theorem zero_p : Try.prog.built 40 [] = some (pg z16) := by kernel_rfl
theorem size_u32 : (Try.prog.info? 28).map (·.size) = some 1 := by kernel_rfl

/-- A memory: its slice, its words. -/
structure Mm (w : World) (g gp n : Nat) (X : List Int) : Prop where
  m : Blk w g 124 #[.slice (some ⟨gp, 0, none⟩) n n]
  p : Blk w gp 40 (pg X)
  len : X.length = n * 16
  n256 : n ≤ 256
theorem Mm.ne {w : World} {g gp n : Nat} {X : List Int} (h : Mm w g gp n X) : g ≠ gp := Blk.ne_ h.m h.p (by decide)
theorem Mm.below {w w1 : World} {g gp n : Nat} {X : List Int} (h : Mm w g gp n X) (hb : Below w.heap.size w w1) : Mm w1 g gp n X := ⟨h.m.below hb, h.p.below hb, h.len, h.n256⟩
theorem Mm.grown {w w1 : World} {g gp n b : Nat} {X : List Int} (h : Mm w g gp n X) (hg : w.grownBy w1 (some b)) (h1 : g ≠ b) (h2 : gp ≠ b) : Mm w1 g gp n X :=
  ⟨h.m.grown hg (fun e => by injection e with e; exact h1 e), h.p.grown hg (fun e => by injection e with e; exact h2 e), h.len, h.n256⟩

theorem made (n : Nat) : madeCells (pg z16) (n * 16) = pg (List.replicate (n * 16) 0) := by
  apply Array.ext_getElem?
  intro i
  rcases Nat.lt_or_ge i (n * 16) with h | h
  · rw [pg_get _ i (by simpa using h)]
    have h1 : i % 16 < 16 := Nat.mod_lt _ (by omega)
    have h2 : (pg z16)[i % 16]! = .int .u32 0 := by
      have : ∀ j, j < 16 → (pg z16)[j]! = .int .u32 0 := by
        intro j hj
        match j, hj with
        | 0, _ => rfl
        | 1, _ => rfl
        | 2, _ => rfl
        | 3, _ => rfl
        | 4, _ => rfl
        | 5, _ => rfl
        | 6, _ => rfl
        | 7, _ => rfl
        | 8, _ => rfl
        | 9, _ => rfl
        | 10, _ => rfl
        | 11, _ => rfl
        | 12, _ => rfl
        | 13, _ => rfl
        | 14, _ => rfl
        | 15, _ => rfl
        | k + 16, hj => exact absurd hj (by omega)
      exact this _ h1
    have h3 : (pg z16).size = 16 := rfl
    simp only [madeCells, h3]
    rw [Array.getElem?_map, Array.getElem?_range, if_pos h]
    simp [h2, h]
  · rw [Array.getElem?_eq_none (by rw [size_madeCells]; exact h), Array.getElem?_eq_none (by rw [pg_size]; simpa using h)]

set_option maxRecDepth 100000 in
set_option maxHeartbeats 2000000 in
theorem new_c (n : Nat) (h1 : 1 ≤ n) (h2 : n ≤ 256) (w : World) :
    Calls Try.prog 16 #[.int .i64 n] w fun r w' => r = .returned (.pointer (some ⟨w.heap.size + 1, 0, none⟩)) ∧ Mm w' (w.heap.size + 1) w.heap.size n (List.replicate (n * 16) 0) ∧ Below w.heap.size w w' := by
  obtain ⟨i0, hi, hz0, hz1, hz2⟩ := info_parts (show (Try.prog.info? 40).map (fun i => (i.zero, i.size, i.bytes)) = some (some (.agg (pg z16)), 16, 64) by kernel_rfl)
  have hmk : (Instr.makeSlice 122 (.int .i64 n) (.int .i64 n)).run Try.prog w = .ok (.slice (some ⟨w.heap.size, 0, none⟩) n n) (w.alloc (.cells (pg (List.replicate (n * 16) 0)) 40)) := by
    have := run_make w 122 40 i0 _ Try.underlying122 hi hz0 .i64 .i64 n n (by omega) (by omega) (by rw [hz2]; omega) (by omega)
    rw [hz1, Int.toNat_natCast, show (Value.agg (pg z16)).cells = pg z16 from rfl, made] at this
    exact this
  have q1 : decide ((n : Int) < 1) = false := by simp; omega
  have q2 : decide (256 < (n : Int)) = false := by simp; omega
  have hl : (List.replicate (n * 16) (0 : Int)).length = n * 16 := by simp
  clear hi hz0 hz1 hz2
  have B1 := bl_alloc (bl_refl w) (.cells (pg (List.replicate (n * 16) 0)) 40)
  have KP := Blk.new w 40 (pg (List.replicate (n * 16) 0))
  have hsz : (w.alloc (.cells (pg (List.replicate (n * 16) 0)) 40)).heap.size = w.heap.size + 1 := Array.size_push _
  generalize List.replicate (n * 16) (0 : Int) = X at *
  go_enter Try.func16, Try.ntmps16
  generalize w.alloc (.cells (pg X) 40) = w1 at *
  go_wp2_with (first
    | ((with_reducible refine wl_box rfl 124 _ rfl (#[.slice (some ⟨w.heap.size, 0, none⟩) n n]) rfl ?_); intro w2 k2 b2 s2))
  go_ret
  rw [hsz] at k2
  refine ⟨rfl, ⟨k2, KP.below b2, hl, h2⟩, bl_then B1 b2⟩
set_option maxRecDepth 100000 in
theorem new_no (n : Int) (h : n < 1 ∨ 256 < n) (w : World) :
    Calls Try.prog 16 #[.int .i64 n] w fun r w' => r = .returned (.pointer none) ∧ w = w' := by
  by_cases h1 : n < 1
  · have q1 : decide (n < 1) = true := by simpa using h1
    clear h h1
    go_enter Try.func16, Try.ntmps16
    go_wp2
    go_ret
    exact ⟨rfl, rfl⟩
  · have q1 : decide (n < 1) = false := by simpa using h1
    have q2 : decide (256 < n) = true := by simp; omega
    clear h h1
    go_enter Try.func16, Try.ntmps16
    go_wp2
    go_ret
    exact ⟨rfl, rfl⟩
set_option maxRecDepth 100000 in
theorem len_c (g gp n : Nat) (X : List Int) (w : World) (h : Mm w g gp n X) :
    Calls Try.prog 29 #[.pointer (some ⟨g, 0, none⟩)] w fun r w' => r = .returned (.int .i64 n) ∧ w = w' := by
  have c := h.m.cellv 0 _ rfl
  clear h
  go_enter Try.func29, Try.ntmps29
  go_wp2
  go_ret
  exact ⟨rfl, rfl⟩
set_option maxRecDepth 100000 in
theorem len_nil (w : World) : Calls Try.prog 29 #[.pointer none] w fun r w' => r = .returned (.int .i64 0) ∧ w = w' := by
  go_enter Try.func29, Try.ntmps29
  go_wp2
  go_ret
  exact ⟨rfl, rfl⟩
def inB (n : Nat) (f : Int) : Bool := decide (0 ≤ f ∧ f < (n : Int))
set_option maxRecDepth 100000 in
theorem in_c (g gp n : Nat) (X : List Int) (f : Int) (w : World) (h : Mm w g gp n X) :
    Calls Try.prog 58 #[.pointer (some ⟨g, 0, none⟩), .int .i64 f] w fun r w' => r = .returned (.bool (inB n f)) ∧ w = w' := by
  have hL := Lib.hid (len_c g gp n X w h)
  clear h
  by_cases h0 : 0 ≤ f
  · have q0 : decide (0 ≤ f) = true := by simpa using h0
    have hr : Hid (inB n f = decide (f < (n : Int))) := Lib.hid (by simp [inB, h0])
    rw [hr.out]
    clear h0
    go_enter Try.func58, Try.ntmps58
    go_wp2_with fail
    refine (hL.out).mono ?_
    rintro r w1 ⟨rfl, rfl⟩
    go_wp2
    go_ret
    exact ⟨rfl, rfl⟩
  · have q0 : decide (0 ≤ f) = false := by simpa using h0
    have hr : Hid (inB n f = false) := Lib.hid (by simp [inB, h0])
    rw [hr.out]
    clear h0
    go_enter Try.func58, Try.ntmps58
    go_wp2
    go_ret
    exact ⟨rfl, rfl⟩
set_option maxRecDepth 100000 in
theorem in_nil (f : Int) (w : World) :
    Calls Try.prog 58 #[.pointer none, .int .i64 f] w fun r w' => r = .returned (.bool false) ∧ w = w' := by
  by_cases h0 : 0 ≤ f
  · have q0 : decide (0 ≤ f) = true := by simpa using h0
    have q1 : decide (f < 0) = false := by simp; omega
    clear h0
    go_enter Try.func58, Try.ntmps58
    go_wp2_with fail
    refine (len_nil w).mono ?_
    rintro r w1 ⟨rfl, rfl⟩
    go_wp2
    go_ret
    exact ⟨rfl, rfl⟩
  · have q0 : decide (0 ≤ f) = false := by simpa using h0
    clear h0
    go_enter Try.func58, Try.ntmps58
    go_wp2
    go_ret
    exact ⟨rfl, rfl⟩
theorem inB_yes (n f : Nat) (h : f < n) : inB n f = true := by simp [inB]; omega

set_option maxRecDepth 100000 in
theorem get_yes (g gp n f at_ : Nat) (X : List Int) (w : World) (h : Mm w g gp n X) (hf : f < n) (ha : at_ < 16) :
    Calls Try.prog 23 #[.pointer (some ⟨g, 0, none⟩), .int .i64 f, .int .i64 at_] w fun r w' => r = .returned (.tuple #[.int .u32 (X[f * 16 + at_]?.getD 0), .bool true]) ∧ w = w' := by
  have hI := Lib.hid (in_c g gp n X f w h)
  rw [inB_yes n f hf] at hI
  have c := h.m.cellv 0 _ rfl
  have c1 := h.p.cellv (f * 16 + at_) _ (pg_get X (f * 16 + at_) (by rw [h.len]; omega))
  have n256 := h.n256
  clear h
  have q1 : decide ((at_ : Int) < 0) = false := by simp
  have q2 : decide (16 ≤ (at_ : Int)) = false := by simp; omega
  have q3 : (f : Int) < (n : Int) := by omega
  have q4 : (at_ : Int) < 16 := by omega
  go_enter Try.func23, Try.ntmps23
  go_wp2_with fail
  refine (hI.out).mono ?_
  rintro r w1 ⟨rfl, rfl⟩
  go_wp2
  go_ret2
  exact ⟨rfl, rfl⟩
set_option maxRecDepth 100000 in
theorem get_nil (f at_ : Int) (w : World) :
    Calls Try.prog 23 #[.pointer none, .int .i64 f, .int .i64 at_] w fun r w' => r = .returned (.tuple #[.int .u32 0, .bool false]) ∧ w = w' := by
  go_enter Try.func23, Try.ntmps23
  go_wp2_with fail
  refine (in_nil f w).mono ?_
  rintro r w1 ⟨rfl, rfl⟩
  go_wp2
  go_ret2
  exact ⟨rfl, rfl⟩
set_option maxRecDepth 100000 in
theorem put_yes (g gp n f at_ : Nat) (v : Int) (X : List Int) (w : World) (h : Mm w g gp n X) (hf : f < n) (ha : at_ < 16) :
    Calls Try.prog 25 #[.pointer (some ⟨g, 0, none⟩), .int .i64 f, .int .i64 at_, .int .u32 v] w fun r w' => r = .returned (.bool true) ∧ Mm w' g gp n (X.set (f * 16 + at_) v) ∧ w.grownBy w' (some gp) := by
  have hI := Lib.hid (in_c g gp n X f w h)
  rw [inB_yes n f hf] at hI
  have c := h.m.cellv 0 _ rfl
  have hh := Lib.hid h
  have hsz : Hid (f * 16 + at_ < (pg X).size) := Lib.hid (by rw [pg_size, h.len]; omega)
  clear h
  have q1 : decide ((at_ : Int) < 0) = false := by simp
  have q2 : decide (16 ≤ (at_ : Int)) = false := by simp; omega
  have q3 : (f : Int) < (n : Int) := by omega
  have q4 : (at_ : Int) < 16 := by omega
  go_enter Try.func25, Try.ntmps25
  go_wp2_with fail
  refine (hI.out).mono ?_
  rintro r w1 ⟨rfl, rfl⟩
  go_wp2_with (first | ((refine wl_set (by rfl) 28 _ _ (by rfl) gp (f * 16 + at_) (by rfl) (.int .u32 v) (by rfl) rfl 40 (pg X) hh.out.p size_u32 hsz.out ?_); intro w4 k4 g4 s4))
  rw [pg_set] at k4
  go_ret
  exact ⟨rfl, ⟨hh.out.m.grown g4 (fun e => by injection e with e; exact hh.out.ne e), k4, by rw [List.length_set]; exact hh.out.len, hh.out.n256⟩, g4⟩
set_option maxRecDepth 100000 in
theorem put_nil (f at_ v : Int) (w : World) :
    Calls Try.prog 25 #[.pointer none, .int .i64 f, .int .i64 at_, .int .u32 v] w fun r w' => r = .returned (.bool false) ∧ w = w' := by
  go_enter Try.func25, Try.ntmps25
  go_wp2_with fail
  refine (in_nil f w).mono ?_
  rintro r w1 ⟨rfl, rfl⟩
  go_wp2
  go_ret
  exact ⟨rfl, rfl⟩
end Go.Proofs.Ytdokmnpkihmkpaa.Frames
