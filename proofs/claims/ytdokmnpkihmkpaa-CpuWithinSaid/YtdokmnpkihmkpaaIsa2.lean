/- Contracts of package isa: fields, fits, Valid, Known. -/
import Derived.Test.YtdokmnpkihmkpaaIsa
set_option linter.unusedVariables false
namespace Go.Proofs.Ytdokmnpkihmkpaa.Isa2
open Go.RowKit Go.Proofs.Ytdokmnpkihmkpaa.Base Go.Proofs.Ytdokmnpkihmkpaa.Row Go.Proofs.Ytdokmnpkihmkpaa.Once Go.Proofs.Ytdokmnpkihmkpaa.Isa

/-- A table, filled or not. -/
def Tb (w : World) (g : Nat) (T : TypeId) (tail : List Value) : Prop := Blk w g T (oc 0 0 (nums .i64 T0 ++ tail)) ∨ Blk w g T (oc 1 0 (nums .i64 TF ++ tail))
theorem Tb.grown {w w1 : World} {g g' : Nat} {T : TypeId} {tail : List Value} (h : Tb w g T tail) (hg : w.grownBy w1 (some g')) (hne : g ≠ g') : Tb w1 g T tail := by
  rcases h with h | h
  · exact .inl (h.grown hg (fun e => by injection e with e; exact hne e))
  · exact .inr (h.grown hg (fun e => by injection e with e; exact hne e))
theorem Tb.below {w w1 : World} {g : Nat} {T : TypeId} {tail : List Value} (h : Tb w g T tail) (hb : Below w.heap.size w w1) : Tb w1 g T tail := by
  rcases h with h | h
  · exact .inl (h.below hb)
  · exact .inr (h.below hb)
theorem Tb.lt {w : World} {g : Nat} {T : TypeId} {tail : List Value} (h : Tb w g T tail) : g < w.heap.size := by
  rcases h with h | h <;> exact h.lt
theorem Tb.drew {w : World} {g : Nat} {T : TypeId} {tail : List Value} (h : Tb w g T tail) : Tb w.drew g T tail := h

def fld (op : Int) : Int := if 0 ≤ op ∧ op ≤ 24 then TF[op.toNat]?.getD 0 else 0

set_option maxRecDepth 100000 in
set_option maxHeartbeats 2000000 in
theorem fields_in (g : Nat) (T : TypeId) (tail : List Value) (op : Nat) (hop : op ≤ 24) (w : World) (h : Tb w g T tail) :
    Calls Try.prog 66 #[.pointer (some ⟨g, 0, none⟩), .int .i64 op] w fun r w' => r = .returned (.int .i64 (TF[op]?.getD 0)) ∧ Tb w' g T tail ∧ w.grownBy w' (some g) := by
  have hdo : Calls Try.prog 75 #[.pointer (some ⟨g, 0, none⟩), .func (.func 76) #[.pointer (some ⟨g, 0, none⟩)] #[]] w fun e w' => e = .returned (.tuple #[]) ∧ Blk w' g T (oc 1 0 (nums .i64 TF ++ tail)) ∧ w.grownBy w' (some g) := by
    rcases h with h | h
    · exact do_first g T _ _ w h (fun w1 h1 => fill_c g T tail w1 h1)
    · refine (do_done g w _ (h.cellv 0 _ rfl)).mono ?_
      rintro r w1 ⟨rfl, rfl⟩
      exact ⟨rfl, h, World.grownBy.refl _ _⟩
  have hdo := Lib.hid hdo
  have hmf : ∀ (fn : Fn) (first cap : Array Value) (w : World), (Instr.makeFunc fn first cap).run Try.prog w = .ok (.func fn first cap) w := fun _ _ _ _ => rfl
  have q1 : decide ((op : Int) < 0) = false := by simp
  have q2 : decide (24 < (op : Int)) = false := by simp; omega
  have q3 : (op : Int) < 25 := by omega
  clear h
  go_enter Try.func66, Try.ntmps66
  go_wp2_with fail
  refine (hdo.out).mono ?_
  rintro r w1 ⟨rfl, k1, g1⟩
  have c1 := k1.cellv (3 + op) _ (oc_get 1 0 TF tail op (by rw [tf_len]; omega))
  go_wp2
  go_ret
  exact ⟨rfl, .inr k1, g1⟩
set_option maxRecDepth 100000 in
theorem fields_out (g : Nat) (op : Int) (hop : ¬ (0 ≤ op ∧ op ≤ 24)) (w : World) :
    Calls Try.prog 66 #[.pointer (some ⟨g, 0, none⟩), .int .i64 op] w fun r w' => r = .returned (.int .i64 0) ∧ w = w' := by
  by_cases h : op < 0
  · have q1 : decide (op < 0) = true := by simpa using h
    clear hop h
    go_enter Try.func66, Try.ntmps66
    go_wp2
    go_ret
    exact ⟨rfl, rfl⟩
  · have q1 : decide (op < 0) = false := by simpa using h
    have q2 : decide (24 < op) = true := by simp; omega
    clear hop h
    go_enter Try.func66, Try.ntmps66
    go_wp2
    go_ret
    exact ⟨rfl, rfl⟩
set_option maxRecDepth 100000 in
theorem fields_nil (op : Int) (w : World) :
    Calls Try.prog 66 #[.pointer none, .int .i64 op] w fun r w' => r = .returned (.int .i64 0) ∧ w = w' := by
  go_enter Try.func66, Try.ntmps66
  go_wp2
  go_ret
  exact ⟨rfl, rfl⟩
theorem fields_c (g : Nat) (T : TypeId) (tail : List Value) (op : Int) (w : World) (h : Tb w g T tail) :
    Calls Try.prog 66 #[.pointer (some ⟨g, 0, none⟩), .int .i64 op] w fun r w' => r = .returned (.int .i64 (fld op)) ∧ Tb w' g T tail ∧ w.grownBy w' (some g) := by
  by_cases hop : 0 ≤ op ∧ op ≤ 24
  · obtain ⟨n, rfl⟩ : ∃ n : Nat, op = n := ⟨op.toNat, by omega⟩
    unfold fld
    rw [if_pos hop, Int.toNat_natCast]
    exact fields_in g T tail n (by omega) w h
  · unfold fld
    rw [if_neg hop]
    refine (fields_out g op hop w).mono ?_
    rintro r w1 ⟨rfl, rfl⟩
    exact ⟨rfl, h, World.grownBy.refl _ _⟩

set_option maxRecDepth 100000 in
theorem known_c (g : Nat) (T : TypeId) (tail : List Value) (op : Int) (w : World) (h : Tb w g T tail) :
    Calls Try.prog 52 #[.pointer (some ⟨g, 0, none⟩), .int .i64 op] w fun r w' => r = .returned (.bool (fld op != 0)) ∧ Tb w' g T tail ∧ w.grownBy w' (some g) := by
  have hf := Lib.hid (fields_c g T tail op w h)
  clear h
  go_enter Try.func52, Try.ntmps52
  go_wp2_with fail
  refine hf.out.mono ?_
  rintro r w1 ⟨rfl, k1, g1⟩
  go_wp2
  go_ret
  exact ⟨rfl, k1, g1⟩
set_option maxRecDepth 100000 in
theorem known_nil (op : Int) (w : World) :
    Calls Try.prog 52 #[.pointer none, .int .i64 op] w fun r w' => r = .returned (.bool false) ∧ w = w' := by
  go_enter Try.func52, Try.ntmps52
  go_wp2_with fail
  refine (fields_nil op w).mono ?_
  rintro r w1 ⟨rfl, rfl⟩
  go_wp2
  go_ret
  exact ⟨rfl, rfl⟩

def fitsB (f bit v lo hi : Int) : Bool := if bits .and .i64 f bit = 0 then v == 0 else decide (lo ≤ v ∧ v ≤ hi)
set_option maxRecDepth 100000 in
theorem fits_c (f bit v lo hi : Int) (w : World) :
    Calls Try.prog 67 #[.int .i64 f, .int .i64 bit, .int .i64 v, .int .i64 lo, .int .i64 hi] w fun r w' => r = .returned (.bool (fitsB f bit v lo hi)) ∧ w = w' := by
  by_cases h : bits .and .i64 f bit = 0
  · have hr : Hid (fitsB f bit v lo hi = (v == 0)) := Lib.hid (by unfold fitsB; rw [if_pos h])
    rw [hr.out]
    generalize hb : bits .and .i64 f bit = x at *
    subst h
    go_enter Try.func67, Try.ntmps67
    go_wp2
    go_ret
    exact ⟨rfl, rfl⟩
  · have hr : Hid (fitsB f bit v lo hi = decide (lo ≤ v ∧ v ≤ hi)) := Lib.hid (by unfold fitsB; rw [if_neg h])
    rw [hr.out]
    have hq : (bits .and .i64 f bit == 0) = false := by simpa using h
    generalize hb : bits .and .i64 f bit = x at *
    by_cases h1 : lo ≤ v
    · have q1 : decide (lo ≤ v) = true := by simpa using h1
      have hr2 : Hid (decide (lo ≤ v ∧ v ≤ hi) = decide (v ≤ hi)) := Lib.hid (by simp [h1])
      rw [hr2.out]
      clear h h1
      go_enter Try.func67, Try.ntmps67
      go_wp2
      go_ret
      exact ⟨rfl, rfl⟩
    · have q1 : decide (lo ≤ v) = false := by simpa using h1
      have hr2 : Hid (decide (lo ≤ v ∧ v ≤ hi) = false) := Lib.hid (by simp [h1])
      rw [hr2.out]
      clear h h1
      go_enter Try.func67, Try.ntmps67
      go_wp2
      go_ret
      exact ⟨rfl, rfl⟩

def ins (op a b n : Int) : Array Value := #[.int .i64 op, .int .i64 a, .int .i64 b, .int .i64 n]
def valB (op a b n : Int) : Bool := (fld op != 0) && fitsB (fld op) 1 a 0 15 && fitsB (fld op) 2 b 0 15 && fitsB (fld op) 4 n (-32768) 32767
set_option maxRecDepth 100000 in
set_option maxHeartbeats 2000000 in
theorem valid_c (g : Nat) (T : TypeId) (tail : List Value) (op a b n : Int) (w : World) (h : Tb w g T tail) :
    Calls Try.prog 46 #[.pointer (some ⟨g, 0, none⟩), .agg (ins op a b n)] w fun r w' => r = .returned (.bool (valB op a b n)) ∧ Tb w' g T tail ∧ w.grownBy w' (some g) := by
  have hg := h.lt
  have h1 := h.below (bl_alloc (bl_refl w) (.cells (ins op a b n) 94))
  have KD := Blk.new w 94 (ins op a b n)
  have hf := Lib.hid (fields_c g T tail op _ h1)
  have d0 := KD.cellv 0 (.int .i64 op) rfl
  have KD' := Lib.hid KD
  clear h h1 KD
  go_enter Try.func46, Try.ntmps46
  go_wp2_with fail
  refine hf.out.mono ?_
  rintro r w1 ⟨rfl, k1, g1⟩
  have KD1 := KD'.out.grown g1 (fun e => by injection e with e; omega)
  have d1 := KD1.cellv 1 (.int .i64 a) rfl
  have d2 := KD1.cellv 2 (.int .i64 b) rfl
  have d3 := KD1.cellv 3 (.int .i64 n) rfl
  have GG : w.grownBy w1 (some g) := World.grownBy.trans (grown_of_below (bl_alloc (bl_refl w) (.cells (ins op a b n) 94)) _) g1
  have GGh := Lib.hid GG
  have k1h := Lib.hid k1
  clear d0 KD' KD1 hf g1 GG k1
  by_cases hf0 : fld op = 0
  · have hV : Hid (valB op a b n = false) := Lib.hid (by simp [valB, hf0])
    generalize fld op = f at *
    subst hf0
    go_wp2_with fail
    go_ret
    exact ⟨ret_bool hV.out.symm, k1h.out, GGh.out⟩
  · have q0 : (fld op != 0) = true := by simpa using hf0
    have hA := Lib.hid (fits_c (fld op) 1 a 0 15 w1)
    have hB := Lib.hid (fits_c (fld op) 2 b 0 15 w1)
    have hN := Lib.hid (fits_c (fld op) 4 n (-32768) 32767 w1)
    have hV : Hid (valB op a b n = (fitsB (fld op) 1 a 0 15 && fitsB (fld op) 2 b 0 15 && fitsB (fld op) 4 n (-32768) 32767)) := Lib.hid (by simp [valB, q0])
    generalize fitsB (fld op) 1 a 0 15 = x at *
    generalize fitsB (fld op) 2 b 0 15 = y at *
    generalize fitsB (fld op) 4 n (-32768) 32767 = z at *
    generalize fld op = f at *
    clear hf0
    cases x with
    | false =>
      go_wp2_with fail
      refine hA.out.mono ?_
      rintro r w2 ⟨rfl, rfl⟩
      go_wp2_with fail
      go_ret
      exact ⟨ret_bool hV.out.symm, k1h.out, GGh.out⟩
    | true =>
      cases y with
      | false =>
        go_wp2_with fail
        refine hA.out.mono ?_
        rintro r w2 ⟨rfl, rfl⟩
        go_wp2_with fail
        refine hB.out.mono ?_
        rintro r w2 ⟨rfl, rfl⟩
        go_wp2_with fail
        go_ret
        exact ⟨ret_bool hV.out.symm, k1h.out, GGh.out⟩
      | true =>
        go_wp2_with fail
        refine hA.out.mono ?_
        rintro r w2 ⟨rfl, rfl⟩
        go_wp2_with fail
        refine hB.out.mono ?_
        rintro r w2 ⟨rfl, rfl⟩
        go_wp2_with fail
        refine hN.out.mono ?_
        rintro r w2 ⟨rfl, rfl⟩
        go_wp2_with fail
        go_ret
        exact ⟨ret_bool (by rw [hV.out]; rfl), k1h.out, GGh.out⟩
end Go.Proofs.Ytdokmnpkihmkpaa.Isa2
