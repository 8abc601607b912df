/- FramesNone: with a nil memory the law's text returns true. -/
import Derived.Test.YtdokmnpkihmkpaaFrames3
import Derived.Lib.SmallJoins
import Derived.ChangeArms
set_option linter.unusedVariables false
namespace Go.Proofs.Ytdokmnpkihmkpaa.FramesNone
open Go.RowKit Go.Proofs.Ytdokmnpkihmkpaa.Base Go.Proofs.Ytdokmnpkihmkpaa.Row Go.Proofs.Ytdokmnpkihmkpaa.Frames Go.Proofs.Ytdokmnpkihmkpaa.Frames2 Go.Proofs.Ytdokmnpkihmkpaa.Frames3
open Go.Joins Go.ChangeShapes Go.WideShapes

/-- What the argument is. -/
def Arg (i : Nat) (w : World) (v : Value) : Prop := ∃ a b c x, v = .agg #[.int .i64 a, .int .i64 b, .int .i64 c, .int .u32 x]
set_option maxRecDepth 100000 in
theorem arg1 {H : Type} {enc : TypeId × Value → H} {W : World} {base : Nat} {v : Value} {d : DataW H} {p : List MemPlace} (hv : Value.okWide Try.prog W .any base 30 v)
    (h : DataW.Trod enc Try.prog W 0 (fun _ => true) true 30 v d p) : Arg 1 W v := by
  obtain ⟨v0, v1, v2, v3, y0, y1, y2, y3, n, rfl, _, _, h0, h1, h2, h3⟩ := open_agg4 Try.underlying30 (by kernel_rfl) (by kernel_rfl) hv h
  obtain ⟨a, ha, _, _⟩ := DataW.trod_int Try.underlying3 h0
  obtain ⟨b, hb, _, _⟩ := DataW.trod_int Try.underlying3 h1
  obtain ⟨c, hc, _, _⟩ := DataW.trod_int Try.underlying3 h2
  obtain ⟨x, hx, _, _⟩ := DataW.trod_int Try.underlying28 h3
  injection ha with ha
  injection hb with hb
  injection hc with hc
  injection hx with hx
  subst ha hb hc hx
  exact ⟨a, b, c, x, rfl⟩

theorem eqp (d e : List Int) (hd : d.length = 16) (he : e.length = 16) (w : World) : (Op.equalIn 10000 40 (.agg (pg d)) (.agg (pg e))).run Try.prog w = .ok (d == e) w := by
  obtain ⟨i0, hi, _, hz1, _⟩ := info_parts (show (Try.prog.info? 28).map (fun i => (i.zero, i.size, i.bytes)) = some (some (.int .u32 0), 1, 4) by kernel_rfl)
  exact run_eq_ints 9998 40 16 28 .u32 i0 Try.underlying40 Try.underlying28 hi hz1 d e hd he

/-- New, whatever size. -/
def nw (n : Int) : Bool := decide (1 ≤ n ∧ n ≤ 256)
theorem new_any (n : Int) (w : World) : Calls Try.prog 16 #[.int .i64 n] w fun r w' => r = .returned (.pointer (if nw n then some ⟨w.heap.size + 1, 0, none⟩ else none)) ∧ Below w.heap.size w w' := by
  by_cases h : 1 ≤ n ∧ n ≤ 256
  · rw [show nw n = true from decide_eq_true h, if_pos rfl]
    obtain ⟨m, rfl⟩ : ∃ m : Nat, n = m := ⟨n.toNat, by omega⟩
    exact (new_c m (by omega) (by omega) w).mono fun _ _ h => ⟨h.1, h.2.2⟩
  · rw [show nw n = false from decide_eq_false h, if_neg (by decide)]
    exact (new_no n (by omega) w).mono fun _ _ h => ⟨h.1, h.2 ▸ bl_refl _⟩

set_option maxRecDepth 100000 in
set_option maxHeartbeats 8000000 in
theorem walk (n : Int) (v0 : Value) (w : World) (w0 : (Lit.int .i64 n).wf = true) (h0 : Arg 1 w v0) :
    Calls Try.prog 5 #[.int .i64 n, v0] w fun e w' => e = .returned (.bool true) ∧ Below w.heap.size w w' := by
  obtain ⟨a, b, c, x, rfl⟩ := h0
  clear w0
  go_enter Try.func5, Try.ntmps5
  go_wp2_with (first
    | ((with_reducible refine wl_box rfl 30 _ rfl (#[.int .i64 a, .int .i64 b, .int .i64 c, .int .u32 x]) rfl ?_); intro w1 k1 b1 s1; have f1 := k1.cellv 1 (.int .i64 b) rfl; have f2 := k1.cellv 2 (.int .i64 c) rfl; have f3 := k1.cellv 3 (.int .u32 x) rfl))
  refine (get_nil b c _).mono ?_
  rintro e w2 ⟨rfl, rfl⟩
  go_wp2_with fail
  refine (page_nil b _).mono ?_
  rintro e w2 ⟨rfl, b2⟩
  go_wp2_with (first
    | ((with_reducible refine wl_alloc rfl 40 rfl (pg z16) new_p ?_); intro w3 k3 b3 s3)
    | ((refine wl_store (by rfl) 40 _ _ (by rfl) w2.heap.size (by rfl) (pg z16) (by rfl) 40 (pg z16) k3 (size_pg _ rfl) rfl (pg_one _) ?_); intro w4 k4 g4 s4))
  have K1 := (k1.below b2).below b3
  have K1' := K1.grown g4 (fun e => by injection e with e; have := b2.size; omega)
  have BB := below_grown (bl_then (bl_then b1 b2) b3) (by have := b2.size; have := b1.size; have := b3.size; omega) g4 (by have := b2.size; have := b1.size; omega)
  clear k1 f1 f2 f3 K1 k3 b1 b2 b3 g4
  have HB := bl_drew BB
  have KD := K1'.drew
  have KP := k4.drew
  have t1 := KD.cellv 1 (.int .i64 b) rfl
  have t2 := KD.cellv 2 (.int .i64 c) rfl
  have t3 := KD.cellv 3 (.int .u32 x) rfl
  have tr : w4.drew.rangeAt w2.heap.size 0 (nums .u32 z16) := KP.rangeL 0 _ (fun j v h => by rw [Nat.zero_add]; simpa [pg] using h)
  have hzp := zero_p
  have hup := Try.underlying40
  have hsp : (Try.prog.info? 40).map (·.size) = some (nums .u32 z16).length := by kernel_rfl
  have heq : ∀ W, (Op.equalIn 10000 40 (.agg (nums .u32 z16).toArray) (.agg #[.int .u32 0, .int .u32 0, .int .u32 0, .int .u32 0, .int .u32 0, .int .u32 0, .int .u32 0, .int .u32 0, .int .u32 0, .int .u32 0, .int .u32 0, .int .u32 0, .int .u32 0, .int .u32 0, .int .u32 0, .int .u32 0])).run Try.prog W = .ok true W := eqp z16 z16 rfl rfl
  go_region_held3 (fun w' => w'.cell? ⟨w.heap.size, 1, none⟩ = some (.int .i64 b) ∧ w'.cell? ⟨w.heap.size, 2, none⟩ = some (.int .i64 c) ∧ w'.cell? ⟨w.heap.size, 3, none⟩ = some (.int .u32 x) ∧ w'.rangeAt w2.heap.size 0 (nums .u32 z16))
    (first
      | go_keep
      | exact ⟨KD.cellv 1 _ rfl, KD.cellv 2 _ rfl, KD.cellv 3 _ rfl, KP.rangeL 0 _ (fun j v h => by rw [Nat.zero_add]; simpa [pg] using h)⟩)
    (first
      | (go_at_call 25; refine (put_nil b c x _).mono ?_; rintro r wa ⟨rfl, rfl⟩)
      | (go_at_call 27; refine (page_c 1 _).mono ?_; rintro r wa ⟨rfl, ba⟩; have KD := KD.below ba; have KP := KP.below ba; have HB := bl_then HB ba)
      | (go_at_call 26; refine (lay_nil b (ramp 1 16) _).mono ?_; rintro r wa ⟨rfl, ba⟩; have KD := KD.below ba; have KP := KP.below ba; have HB := bl_then HB ba)
      | (go_at_call 28; refine (copy_nil b c _).mono ?_; rintro r wa ⟨rfl, ba⟩; have KD := KD.below ba; have KP := KP.below ba; have HB := bl_then HB ba)
      | (go_at_call 29; refine (len_nil _).mono ?_; rintro r wa ⟨rfl, rfl⟩)
      | (go_at_call 21; refine (twin_nil _).mono ?_; rintro r wa ⟨rfl, rfl⟩)
      | (go_at_call 22; refine (others_nil _).mono ?_; rintro r wa ⟨rfl, rfl⟩))
  all_goals (
    clear t1 t2 t3 tr hup hsp heq KD KP K1' BB k4
    have hN := Lib.hid (new_any n)
    rcases (show n < 1 ∨ (1 ≤ n ∧ n ≤ 256) ∨ 256 < n by omega) with h | h | h
    · have q1 : decide (n < 1) = true := by simp; omega
      rw [show nw n = false from decide_eq_false (by omega)] at hN
      clear h
      go_wp2_with fail
      refine (hN.out _).mono ?_
      rintro r w5 ⟨rfl, b5⟩
      go_wp2_with fail
      refine (awake_c _).mono ?_
      rintro r w6 ⟨rfl, b6⟩
      go_wp2
      go_ret
      exact ⟨rfl, bl_then (bl_then HB b5) b6⟩
    · have q1 : decide (n < 1) = false := by simp; omega
      have q2 : decide (256 < n) = false := by simp; omega
      rw [show nw n = true from decide_eq_true h] at hN
      clear h
      go_wp2_with fail
      refine (hN.out _).mono ?_
      rintro r w5 ⟨rfl, b5⟩
      go_wp2_with fail
      refine (awake_c _).mono ?_
      rintro r w6 ⟨rfl, b6⟩
      go_wp2
      go_ret
      exact ⟨rfl, bl_then (bl_then HB b5) b6⟩
    · have q1 : decide (n < 1) = false := by simp; omega
      have q2 : decide (256 < n) = true := by simp; omega
      rw [show nw n = false from decide_eq_false (by omega)] at hN
      clear h
      go_wp2_with fail
      refine (hN.out _).mono ?_
      rintro r w5 ⟨rfl, b5⟩
      go_wp2_with fail
      refine (awake_c _).mono ?_
      rintro r w6 ⟨rfl, b6⟩
      go_wp2
      go_ret
      exact ⟨rfl, bl_then (bl_then HB b5) b6⟩)
end Go.Proofs.Ytdokmnpkihmkpaa.FramesNone
