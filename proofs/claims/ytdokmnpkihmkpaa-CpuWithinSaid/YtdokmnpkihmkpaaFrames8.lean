/- One deed in no memory. -/
import Derived.Test.YtdokmnpkihmkpaaFrames7
import Derived.Test.YtdokmnpkihmkpaaFlat
set_option linter.unusedVariables false
namespace Go.Proofs.Ytdokmnpkihmkpaa.Frames8
open Go.RowKit Go.Proofs.Ytdokmnpkihmkpaa.Base Go.Proofs.Ytdokmnpkihmkpaa.Row Go.Proofs.Ytdokmnpkihmkpaa.Frames Go.Proofs.Ytdokmnpkihmkpaa.Frames2 Go.Proofs.Ytdokmnpkihmkpaa.Frames3 Go.Proofs.Ytdokmnpkihmkpaa.Frames4 Go.Proofs.Ytdokmnpkihmkpaa.Frames5 Go.Proofs.Ytdokmnpkihmkpaa.Frames6 Go.Proofs.Ytdokmnpkihmkpaa.Frames7
open Go.ChangeShapes Go.WideShapes Go.Deep Go.Proofs.Ytdokmnpkihmkpaa.Flat

theorem at_nil (f a : Int) (w : World) :
    Calls Try.prog 56 #[.slice none 0 0, .int .i64 f, .int .i64 a] w fun r w' => r = .returned (.int .i64 (-1)) ∧ w = w' := by
  have := at_c none 0 0 0 f a w rfl (by omega)
  rwa [show atv 0 f a = -1 by unfold atv; rw [show okB 0 f a = false from decide_eq_false (by omega)]; rfl] at this
set_option maxRecDepth 100000 in
theorem rcopy_nil (t f : Int) (w : World) :
    Calls Try.prog 57 #[.slice none 0 0, .int .i64 t, .int .i64 f] w fun r w' => r = .returned (.bool false) ∧ w = w' := by
  have hA := Lib.hid (at_nil t 0 w)
  go_enter Try.func57, Try.ntmps57
  go_wp2_with fail
  refine (hA.out).mono ?_
  rintro r w1 ⟨rfl, rfl⟩
  go_wp2
  go_ret
  exact ⟨rfl, rfl⟩
set_option maxRecDepth 100000 in
set_option maxHeartbeats 8000000 in
theorem does_nil (kd f a v : Int) (w : World) :
    Calls Try.prog 18 #[.pointer none, .slice none 0 0, .agg (dd kd f a v)] w fun r w' => r = .returned (.bool true) ∧ Below w.heap.size w w' := by
  have B1 := Lib.hid (bl_alloc (bl_refl w) (.cells (dd kd f a v) 30))
  have KD := Blk.new w 30 (dd kd f a v)
  have hA := Lib.hid (fun w' => at_nil f a w')
  have hA0 := Lib.hid (fun w' => at_nil f 0 w')
  have hP := Lib.hid (fun w' => put_nil f a v w')
  have d0 := KD.cellv 0 (.int .i64 kd) rfl
  have d1 := KD.cellv 1 (.int .i64 f) rfl
  have d2 := KD.cellv 2 (.int .i64 a) rfl
  have d3 := KD.cellv 3 (.int .u32 v) rfl
  have KDh := Lib.hid KD
  clear KD
  by_cases h3 : kd = 3
  · subst h3
    go_enter Try.func18, Try.ntmps18
    go_wp2_with fail
    refine (hA.out _).mono ?_
    rintro r w1 ⟨rfl, rfl⟩
    go_wp2_with fail
    clear d0 d1 d2 d3
    have HB := bl_drew B1.out
    have KD := KDh.out.drew
    have t1 := KD.cellv 1 (.int .i64 f) rfl
    have t2 := KD.cellv 2 (.int .i64 a) rfl
    go_region_held3 (fun w' => w'.cell? ⟨w.heap.size, 1, none⟩ = some (.int .i64 f) ∧ w'.cell? ⟨w.heap.size, 2, none⟩ = some (.int .i64 a))
      (first
        | go_keep
        | exact ⟨KD.cellv 1 _ rfl, KD.cellv 2 _ rfl⟩)
      (first
        | (go_at_call 28; refine (copy_nil f a _).mono ?_; rintro r wa ⟨rfl, ba⟩; have KD := KD.below ba; have HB := bl_then HB ba; clear ba)
        | (go_at_call 57; refine (rcopy_nil f a _).mono ?_; rintro r wa ⟨rfl, rfl⟩))
    all_goals (
      go_wp2
      go_ret
      exact ⟨rfl, HB⟩)
  by_cases h4 : kd = 4
  · subst h4
    go_enter Try.func18, Try.ntmps18
    go_wp2_with fail
    refine (hA.out _).mono ?_
    rintro r w1 ⟨rfl, rfl⟩
    go_wp2_with fail
    refine (hA0.out _).mono ?_
    rintro r w1 ⟨rfl, rfl⟩
    go_wp2_with fail
    go_loopw [8] (fun i wr => i = .int .i64 0 ∧ w.alloc (.cells (dd 4 f a v) 30) = wr) (fun _ _ => 0)
    case atStart => exact ⟨rfl, rfl⟩
    case round =>
      obtain ⟨rfl, rfl⟩ := hrel
      go_wp2_with fail
      clear d0 d1 d2 d3
      have HB := bl_drew B1.out
      have KD := KDh.out.drew
      have t1 := KD.cellv 1 (.int .i64 f) rfl
      have t3 := KD.cellv 3 (.int .u32 v) rfl
      go_region_held3 (fun w' => w'.cell? ⟨w.heap.size, 1, none⟩ = some (.int .i64 f) ∧ w'.cell? ⟨w.heap.size, 3, none⟩ = some (.int .u32 v))
        (first
          | go_keep
          | exact ⟨KD.cellv 1 _ rfl, KD.cellv 3 _ rfl⟩)
        (first
          | (go_at_call 27; refine (page_c v _).mono ?_; rintro r wa ⟨rfl, ba⟩; have KD := KD.below ba; have HB := bl_then HB ba; clear ba)
          | (go_at_call 26; refine (lay_nil f (ramp v 16) _).mono ?_; rintro r wa ⟨rfl, ba⟩; have KD := KD.below ba; have HB := bl_then HB ba; clear ba))
      all_goals (
        go_wp2
        go_ret
        exact ⟨rfl, HB⟩)
  have q3 : (kd == 3) = false := by simpa using h3
  have q4 : (kd == 4) = false := by simpa using h4
  by_cases h0 : kd = 0 ∨ kd = 1 ∨ kd = 2
  · rcases h0 with rfl | rfl | rfl
    all_goals (
      clear h3 h4 q3 q4
      go_enter Try.func18, Try.ntmps18
      go_wp2_with fail
      refine (hA.out _).mono ?_
      rintro r w1 ⟨rfl, rfl⟩
      go_wp2_with fail
      refine (hP.out _).mono ?_
      rintro r w1 ⟨rfl, rfl⟩
      go_wp2
      go_ret
      exact ⟨rfl, B1.out⟩)
  · have h0' : kd ≠ 0 := by omega
    have h1' : kd ≠ 1 := by omega
    have h2' : kd ≠ 2 := by omega
    clear h0 q3 q4
    go_enter Try.func18, Try.ntmps18
    go_wp2_with fail
    refine (hA.out _).mono ?_
    rintro r w1 ⟨rfl, rfl⟩
    go_wp2
    go_ret
    exact ⟨rfl, B1.out⟩

/-- Any deed. -/
theorem does_c (g gp b N n c : Nat) (X : List Int) (kd f a v : Int) (w : World) (hx : Mm w g gp n X) (hy : Rf w b X) (hl : X.length = N) (hN : N = n * 16) (hn : n ≤ 256) :
    Calls Try.prog 18 #[.pointer (some ⟨g, 0, none⟩), .slice (some ⟨b, 0, none⟩) N c, .agg (dd kd f a v)] w fun r w' => DoPost g gp b n (pDo n X kd f a v) w w' r := by
  by_cases h0 : kd = 0 ∨ kd = 1 ∨ kd = 2
  · rw [show pDo n X kd f a v = putX n X f a v by unfold pDo; rw [if_pos h0]]
    exact does_put kd h0 g gp b N n c X f a v w hx hy hl hN hn
  by_cases h3 : kd = 3
  · subst h3
    rw [show pDo n X 3 f a v = copyX n X f a by unfold pDo; rw [if_neg h0, if_pos rfl]]
    exact does_copy g gp b N n c X f a v w hx hy hl hN hn
  by_cases h4 : kd = 4
  · subst h4
    rw [show pDo n X 4 f a v = layQ n X f (ramp v 16) by unfold pDo; rw [if_neg h0, if_neg h3, if_pos rfl]]
    exact does_lay g gp b N n c X f a v w hx hy hl hN hn
  rw [show pDo n X kd f a v = X by unfold pDo; rw [if_neg h0, if_neg h3, if_neg h4]]
  exact does_none g gp b N n c X kd f a v w (by omega) (by omega) (by omega) h3 h4 hx hy hN hn

/-! ### deeds as arguments -/
theorem f_int : FlatOf Try.prog 3 [isI .i64] := flat_int Try.underlying3 (by kernel_rfl)
theorem f_u32 : FlatOf Try.prog 28 [isI .u32] := flat_int Try.underlying28 (by kernel_rfl)
set_option maxRecDepth 100000 in
theorem f_deed : FlatOf Try.prog 30 ([[isI .i64], [isI .i64], [isI .i64], [isI .u32]] : List (List (Value → Prop))).flatten :=
  flat_struct Try.underlying30 _ (by kernel_rfl) fun j ps h => by
    match j, h with
    | 0, h => simp at h; subst h; exact ⟨_, rfl, rfl, f_int⟩
    | 1, h => simp at h; subst h; exact ⟨_, rfl, rfl, f_int⟩
    | 2, h => simp at h; subst h; exact ⟨_, rfl, rfl, f_int⟩
    | 3, h => simp at h; subst h; exact ⟨_, rfl, rfl, f_u32⟩
/-- One deed. -/
def Deed1 (v : Value) : Prop := ∃ a b c x, v = .agg (dd a b c x)
set_option maxRecDepth 100000 in
theorem deed_of {H : Type} {enc : TypeId × Value → H} {W : World} {base : Nat} {v : Value} {d : DataW H} {p : List MemPlace} (hv : Value.okWide Try.prog W .any base 30 v)
    (h : DataW.Trod enc Try.prog W 0 (fun _ => true) true 30 v d p) : Deed1 v := by
  obtain ⟨cs, rfl, _⟩ := okWide_struct Try.underlying30 hv
  obtain ⟨hsz, hi⟩ := open_flat f_deed rfl h
  obtain ⟨_, h0, a, rfl, _⟩ := hi 0 _ rfl
  obtain ⟨_, h1, b, rfl, _⟩ := hi 1 _ rfl
  obtain ⟨_, h2, c, rfl, _⟩ := hi 2 _ rfl
  obtain ⟨_, h3, d, rfl, _⟩ := hi 3 _ rfl
  refine ⟨a, b, c, d, ?_⟩
  congr 1
  apply Array.ext_getElem?
  intro i
  match i with
  | 0 => exact h0
  | 1 => exact h1
  | 2 => exact h2
  | 3 => exact h3
  | i + 4 => rw [Array.getElem?_eq_none (by rw [hsz]; show 4 ≤ i + 4; omega), Array.getElem?_eq_none (by show 4 ≤ i + 4; omega)]
/-- A slice of deeds. -/
def Deeds (w : World) (v : Value) : Prop := ∃ A n c, v = .slice A n c ∧ FlatRow w ([[isI .i64], [isI .i64], [isI .i64], [isI .u32]] : List (List (Value → Prop))).flatten A n c
set_option maxRecDepth 100000 in
theorem deeds_of {H : Type} {enc : TypeId × Value → H} {W : World} {base : Nat} {v : Value} {d : DataW H} {p : List MemPlace} (hv : Value.okWide Try.prog W .any base 22 v)
    (h : DataW.Trod enc Try.prog W 0 (fun _ => true) true 22 v d p) : Deeds W v := by
  obtain ⟨A, n, c, hv', hf⟩ := open_flat_slice Try.underlying22 f_deed hv h
  exact ⟨A, n, c, hv', hf⟩
theorem add_lit (a : Addr) (i j : Nat) (hj : j ≠ 0) : a.add (i + j) = ⟨(a.add i).block, (a.add i).off + j, none⟩ := by
  rw [← add_off]
  generalize a.add i = b
  unfold Addr.add
  rw [if_neg hj]
/-- A deed's four cells. -/
def DeedAt (w : World) (q : Addr) (kd f a v : Int) : Prop :=
  w.cell? q = some (.int .i64 kd) ∧ w.cell? ⟨q.block, q.off + 1, none⟩ = some (.int .i64 f) ∧ w.cell? ⟨q.block, q.off + 2, none⟩ = some (.int .i64 a) ∧ w.cell? ⟨q.block, q.off + 3, none⟩ = some (.int .u32 v)
theorem DeedAt.below {w w1 : World} {q : Addr} {kd f a v : Int} (h : DeedAt w q kd f a v) (hb : Below w.heap.size w w1) : DeedAt w1 q kd f a v :=
  ⟨bl_cell hb h.1, bl_cell hb h.2.1, bl_cell hb h.2.2.1, bl_cell hb h.2.2.2⟩
theorem deed_at {w : World} {A : Option Addr} {n c : Nat} (h : FlatRow w ([[isI .i64], [isI .i64], [isI .i64], [isI .u32]] : List (List (Value → Prop))).flatten A n c) (k : Nat) (hk : k < n) :
    ∃ (ad : Addr) (kd f a v : Int), A = some ad ∧ DeedAt w (ad.add (k * 4)) kd f a v := by
  rcases h with ⟨_, h0, _⟩ | ⟨ad, rfl, _, _, hi⟩
  · omega
  obtain ⟨_, h0, a, rfl, _⟩ := hi k hk 0 _ rfl
  obtain ⟨_, h1, b, rfl, _⟩ := hi k hk 1 _ rfl
  obtain ⟨_, h2, c, rfl, _⟩ := hi k hk 2 _ rfl
  obtain ⟨_, h3, d, rfl, _⟩ := hi k hk 3 _ rfl
  refine ⟨ad, a, b, c, d, rfl, h0, ?_, ?_, ?_⟩
  · rw [← add_lit ad (k * 4) 1 (by omega)]; exact h1
  · rw [← add_lit ad (k * 4) 2 (by omega)]; exact h2
  · rw [← add_lit ad (k * 4) 3 (by omega)]; exact h3
theorem flat_max {w : World} {ps : List (Value → Prop)} {A : Option Addr} {n c : Nat} (h : FlatRow w ps A n c) : n ≤ 9223372036854775807 := by
  rcases h with ⟨_, h, _⟩ | ⟨_, _, h1, h2, _⟩
  · omega
  · simp only [maxLen] at h2; omega
end Go.Proofs.Ytdokmnpkihmkpaa.Frames8
