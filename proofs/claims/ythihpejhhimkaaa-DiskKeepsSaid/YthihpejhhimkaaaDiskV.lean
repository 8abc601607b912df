/- Two disks apart, the program's and the reference's; the arguments of the disk laws. -/
import Derived.Test.YthihpejhhimkaaaDiskU
import Derived.Test.YthihpejhhimkaaaFlatW
set_option linter.unusedVariables false
namespace Go.Proofs.Ythihpejhhimkaaa.DiskV
open Go.RowKit Go.ChangeShapes Go.WideShapes Go.Deep Go.Proofs.Ythihpejhhimkaaa.Base Go.Proofs.Ythihpejhhimkaaa.Row Go.Proofs.Ythihpejhhimkaaa.App Go.Proofs.Ythihpejhhimkaaa.Multi Go.Proofs.Ythihpejhhimkaaa.Flat Go.Proofs.Ythihpejhhimkaaa.FlatW Go.Proofs.Ythihpejhhimkaaa.Out Go.Proofs.Ythihpejhhimkaaa.DiskMath Go.Proofs.Ythihpejhhimkaaa.Disk Go.Proofs.Ythihpejhhimkaaa.Disk2 Go.Proofs.Ythihpejhhimkaaa.Disk3 Go.Proofs.Ythihpejhhimkaaa.DiskS Go.Proofs.Ythihpejhhimkaaa.DiskT Go.Proofs.Ythihpejhhimkaaa.DiskU

/-! ### slices that came in -/
theorem cell_spot {w : World} {a : Addr} {v : Value} (h : w.cell? a = some v) : a = ⟨a.block, a.off, none⟩ := by
  cases a with
  | mk b o s =>
    cases s with
    | none => rfl
    | some k =>
      unfold World.cell? at h
      split at h <;> simp at h
theorem row_list {α : Type} {w : World} {q : Value → Prop} (f : α → Value) (hq : ∀ v, q v → ∃ x, v = f x) {A : Option Addr} {n c : Nat} (h : FlatRow w [q] A n c) :
    ∃ l : List α, l.length = n ∧ n ≤ 9223372036854775807 ∧ (0 < n → ∃ g o, A = some ⟨g, o, none⟩ ∧ ∀ i x, l[i]? = some x → w.cell? ⟨g, o + i, none⟩ = some (f x)) := by
  rcases h with ⟨rfl, rfl, rfl⟩ | ⟨a, rfl, hl, hm, hc⟩
  · exact ⟨[], rfl, by omega, fun h => by omega⟩
  · have hb : ∀ m, m ≤ n → ∃ l : List α, l.length = m ∧ ∀ i x, l[i]? = some x → w.cell? (a.add i) = some (f x) := by
      intro m
      induction m with
      | zero => intro _; exact ⟨[], rfl, fun i x hx => by simp at hx⟩
      | succ m ih =>
        intro hmn
        obtain ⟨l, hl', hx⟩ := ih (by omega)
        obtain ⟨u, hu, hqu⟩ := hc m (by omega) 0 q rfl
        obtain ⟨x, rfl⟩ := hq u hqu
        refine ⟨l ++ [x], by simp [hl'], fun i y hy => ?_⟩
        by_cases hi : i < m
        · rw [List.getElem?_append_left (by omega)] at hy
          exact hx i y hy
        · have hi2 : i < (l ++ [x]).length := (List.getElem?_eq_some_iff.1 hy).1
          have him : i = m := by simp [hl'] at hi2; omega
          subst him
          rw [List.getElem?_append_right (by omega), hl', Nat.sub_self] at hy
          simp at hy
          subst hy
          simpa using hu
    obtain ⟨l, hl', hx⟩ := hb n (Nat.le_refl _)
    refine ⟨l, hl', by simp only [maxLen] at hm; omega, fun hn => ?_⟩
    have h0 : l[0]? = some (l[0]'(by omega)) := List.getElem?_eq_getElem (by omega)
    have hc0 := hx 0 _ h0
    have ea : a.add 0 = a := by unfold Addr.add; simp
    rw [ea] at hc0
    refine ⟨a.block, a.off, by rw [← cell_spot hc0], fun i x hix => ?_⟩
    have := hx i x hix
    unfold Addr.add at this
    split at this
    · rename_i h0; subst h0; rw [Nat.add_zero, ← cell_spot hc0]; exact this
    · exact this

/-- A deed: what kind, which block, which bytes, what is kept. -/
structure Dd where
  kd : Int
  bl : Int
  A : Option Addr
  n : Nat
  c : Nat
  xs : List Int
  Ak : Option Addr
  nk : Nat
  ck : Nat
  ks : List Bool
def dv (d : Dd) : Array Value := #[.int .i64 d.kd, .int .i64 d.bl, .slice d.A d.n d.c, .slice d.Ak d.nk d.ck]
theorem dv_one (d : Dd) : ∀ v ∈ dv d, v.oneCell' = true := by
  intro v hv
  simp [dv] at hv
  rcases hv with rfl | rfl | rfl | rfl <;> rfl
/-- A deed's slices lie in w. -/
def Has (w : World) (d : Dd) : Prop := Rd w .u8 d.A d.n d.xs ∧ RF bo 1 w d.Ak d.nk d.ks ∧ (∀ a, d.Ak = some a → 0 < d.nk → a.block < w.heap.size)
theorem Has.below {w w1 : World} {d : Dd} (h : Has w d) (hb : Below w.heap.size w w1) : Has w1 d := ⟨h.1.below hb, h.2.1.below hb, fun a ha hn => Nat.lt_of_lt_of_le (h.2.2 a ha hn) hb.size⟩
theorem f_int : FlatOf Try.prog 3 [isI .i64] := flat_int Try.underlying3 (by kernel_rfl)
theorem f_u8 : FlatOf Try.prog 5 [isI .u8] := flat_int Try.underlying5 (by kernel_rfl)
theorem f_bool : FlatOf Try.prog 4 [isB] := flat_bool Try.underlying4 (by kernel_rfl)
def d4 (w : World) : List (Value → Prop) := ([[isI .i64], [isI .i64], [isS w [isI .u8]], [isS w [isB]]] : List (List (Value → Prop))).flatten
theorem f_deed (w : World) : FlatAt Try.prog w 31 (d4 w) :=
  at_struct Try.underlying31 _ (by kernel_rfl) fun j ps h => by
    match j, h with
    | 0, h => simp at h; subst h; exact ⟨_, rfl, rfl, flat_at f_int w⟩
    | 1, h => simp at h; subst h; exact ⟨_, rfl, rfl, flat_at f_int w⟩
    | 2, h => simp at h; subst h; exact ⟨_, rfl, rfl, at_slice Try.underlying28 (flat_at f_u8 w) (by kernel_rfl)⟩
    | 3, h => simp at h; subst h; exact ⟨_, rfl, rfl, at_slice Try.underlying29 (flat_at f_bool w) (by kernel_rfl)⟩
theorem bools_of {w : World} {A : Option Addr} {n c : Nat} (h : FlatRow w [isB] A n c) : ∃ ks, RF bo 1 w A n ks ∧ (∀ a, A = some a → 0 < n → a.block < w.heap.size) := by
  obtain ⟨l, hl, hm, hc⟩ := row_list (fun b : Bool => Value.bool b) (fun v hv => hv) h
  refine ⟨l, ⟨hl, hm, fun hn => ?_⟩, fun a ha hn => ?_⟩
  · obtain ⟨g, o, e, hx⟩ := hc hn
    refine ⟨g, o, e, fun i x hix j v hv => ?_⟩
    unfold bo at hv
    have hj : j = 0 := by
      have := (List.getElem?_eq_some_iff.1 hv).1
      simpa using this
    subst hj
    simp at hv
    subst hv
    rw [Nat.mul_one, Nat.add_zero]
    exact hx i x hix
  · obtain ⟨g, o, e, hx⟩ := hc hn
    rw [ha] at e
    injection e with e
    subst e
    exact World.block_lt_of_cell? w _ (hx 0 _ (List.getElem?_eq_getElem (by omega)))
theorem bytes_of {w : World} {A : Option Addr} {n c : Nat} (h : FlatRow w [isI .u8] A n c) : ∃ xs, Rd w .u8 A n xs := by
  obtain ⟨l, hl, hm, hc⟩ := row_list (fun x : Int => Value.int .u8 x) (fun v hv => by obtain ⟨x, h, _⟩ := hv; exact ⟨x, h⟩) h
  refine ⟨l, hl, hm, fun hn => ?_⟩
  obtain ⟨g, o, e, hx⟩ := hc hn
  refine ⟨_, e, fun j hj => ?_⟩
  have h1 : l[j]? = some (l[j]'(by omega)) := List.getElem?_eq_getElem (by omega)
  have h2 := hx j _ h1
  rw [h1, Addr.add_lit]
  exact h2
theorem cells_has {w : World} {v0 v1 v2 v3 : Value} (h0 : isI .i64 v0) (h1 : isI .i64 v1) (h2 : isS w [isI .u8] v2) (h3 : isS w [isB] v3) : ∃ d : Dd, v0 = .int .i64 d.kd ∧ v1 = .int .i64 d.bl ∧ v2 = .slice d.A d.n d.c ∧ v3 = .slice d.Ak d.nk d.ck ∧ Has w d := by
  obtain ⟨a, rfl, _⟩ := h0
  obtain ⟨b, rfl, _⟩ := h1
  obtain ⟨A, n, c, rfl, hA⟩ := h2
  obtain ⟨B, m, e, rfl, hB⟩ := h3
  obtain ⟨xs, hxs⟩ := bytes_of hA
  obtain ⟨ks, hks, hlt⟩ := bools_of hB
  exact ⟨⟨a, b, A, n, c, xs, B, m, e, ks⟩, rfl, rfl, rfl, rfl, hxs, hks, hlt⟩
/-- A deed by value. -/
def Deed1 (w : World) (v : Value) : Prop := ∃ d, v = .agg (dv d) ∧ Has w d
set_option maxRecDepth 100000 in
theorem deed_of {H : Type} {enc : TypeId × Value → H} {W : World} {base : Nat} {v : Value} {d : DataW H} {p : List MemPlace} (hv : Value.okWide Try.prog W .any base 31 v)
    (h : DataW.Trod enc Try.prog W 0 (fun _ => true) true 31 v d p) : Deed1 W v := by
  obtain ⟨cs, rfl, _⟩ := okWide_struct Try.underlying31 hv
  obtain ⟨hsz, hi⟩ := open_at (f_deed W) rfl h
  obtain ⟨v0, g0, h0⟩ := hi 0 _ rfl
  obtain ⟨v1, g1, h1⟩ := hi 1 _ rfl
  obtain ⟨v2, g2, h2⟩ := hi 2 _ rfl
  obtain ⟨v3, g3, h3⟩ := hi 3 _ rfl
  obtain ⟨d, rfl, rfl, rfl, rfl, hd⟩ := cells_has h0 h1 h2 h3
  refine ⟨d, ?_, hd⟩
  congr 1
  apply Array.ext_getElem?
  intro i
  match i with
  | 0 => exact g0
  | 1 => exact g1
  | 2 => exact g2
  | 3 => exact g3
  | i + 4 => rw [Array.getElem?_eq_none (by rw [hsz]; show 4 ≤ i + 4; omega), Array.getElem?_eq_none (by show 4 ≤ i + 4; omega)]
/-- A slice of deeds. -/
def Deeds (w : World) (v : Value) : Prop := ∃ A n c, v = .slice A n c ∧ FlatRow w (d4 w) A n c
set_option maxRecDepth 100000 in
theorem deeds_of {H : Type} {enc : TypeId × Value → H} {W : World} {base : Nat} {v : Value} {d : DataW H} {p : List MemPlace} (hv : Value.okWide Try.prog W .any base 22 v)
    (h : DataW.Trod enc Try.prog W 0 (fun _ => true) true 22 v d p) : Deeds W v := by
  obtain ⟨A, n, c, hv', hf⟩ := open_at_slice Try.underlying22 (f_deed W) hv h
  exact ⟨A, n, c, hv', hf⟩
/-- A slice of bools. -/
def Bools (w : World) (v : Value) : Prop := ∃ A n c ks, v = .slice A n c ∧ RF bo 1 w A n ks ∧ (∀ a, A = some a → 0 < n → a.block < w.heap.size)
set_option maxRecDepth 100000 in
theorem boolsl_of {H : Type} {enc : TypeId × Value → H} {W : World} {base : Nat} {v : Value} {d : DataW H} {p : List MemPlace} (hv : Value.okWide Try.prog W .any base 29 v)
    (h : DataW.Trod enc Try.prog W 0 (fun _ => true) true 29 v d p) : Bools W v := by
  obtain ⟨A, n, c, hv', hf⟩ := open_at_slice Try.underlying29 (flat_at f_bool W) hv h
  obtain ⟨ks, h1, h2⟩ := bools_of hf
  exact ⟨A, n, c, ks, hv', h1, h2⟩
theorem flat_max {w : World} {ps : List (Value → Prop)} {A : Option Addr} {n c : Nat} (h : FlatRow w ps A n c) : n ≤ 9223372036854775807 := by
  rcases h with ⟨_, h, _⟩ | ⟨_, _, h1, h2, _⟩
  · omega
  · simp only [maxLen] at h2; omega
theorem add_lit2 (a : Addr) (i j : Nat) (hj : j ≠ 0) : a.add (i + j) = ⟨(a.add i).block, (a.add i).off + j, none⟩ := by
  rw [← add_off]
  generalize a.add i = b
  unfold Addr.add
  rw [if_neg hj]
/-- A deed's cells. -/
def DeedAt (w : World) (q : Addr) (d : Dd) : Prop :=
  w.cell? q = some (.int .i64 d.kd) ∧ w.cell? ⟨q.block, q.off + 1, none⟩ = some (.int .i64 d.bl) ∧ w.cell? ⟨q.block, q.off + 2, none⟩ = some (.slice d.A d.n d.c) ∧ w.cell? ⟨q.block, q.off + 3, none⟩ = some (.slice d.Ak d.nk d.ck)
theorem DeedAt.below {w w1 : World} {q : Addr} {d : Dd} (h : DeedAt w q d) {B : Nat} (hB : B = w.heap.size) (hb : Below B w w1) : DeedAt w1 q d := by
  subst hB
  exact ⟨bl_cell hb h.1, bl_cell hb h.2.1, bl_cell hb h.2.2.1, bl_cell hb h.2.2.2⟩
theorem deed_at {w : World} {A : Option Addr} {n c : Nat} (h : FlatRow w (d4 w) A n c) (k : Nat) (hk : k < n) : ∃ (ad : Addr) (d : Dd), A = some ad ∧ DeedAt w (ad.add (k * 4)) d ∧ Has w d := by
  rcases h with ⟨_, h0, _⟩ | ⟨ad, rfl, _, _, hi⟩
  · omega
  obtain ⟨v0, g0, h0⟩ := hi k hk 0 _ rfl
  obtain ⟨v1, g1, h1⟩ := hi k hk 1 _ rfl
  obtain ⟨v2, g2, h2⟩ := hi k hk 2 _ rfl
  obtain ⟨v3, g3, h3⟩ := hi k hk 3 _ rfl
  obtain ⟨d, rfl, rfl, rfl, rfl, hd⟩ := cells_has h0 h1 h2 h3
  refine ⟨ad, d, rfl, ⟨g0, ?_, ?_, ?_⟩, hd⟩
  · rw [← add_lit2 ad (k * 4) 1 (by omega)]; exact g1
  · rw [← add_lit2 ad (k * 4) 2 (by omega)]; exact g2
  · rw [← add_lit2 ad (k * 4) 3 (by omega)]; exact g3

/-! ### two disks -/
def DP (B : Nat) (w : World) (g : Nat) (F : Nat → Prop) (L : List Bk) (W : List Wr) : Prop := DkF 59 34 71 B w g F L W
def DR (B : Nat) (w : World) (g : Nat) (F : Nat → Prop) (L : List Bk) (W : List Wr) : Prop := DkF 63 33 65 B w g F L W
/-- The program's disk and the reference's, apart, and apart from the blocks of R. -/
def Two (w0 : World) (R : Nat → Prop) (w : World) (gd gx : Nat) (L : List Bk) (W : List Wr) (L' : List Bk) (W' : List Wr) : Prop :=
  ∃ F G, DP w0.heap.size w gd F L W ∧ DR w0.heap.size w gx G L' W' ∧ (∀ i, F i → w0.heap.size ≤ i ∧ i < w.heap.size) ∧ (∀ i, G i → w0.heap.size ≤ i ∧ i < w.heap.size) ∧ (∀ i, F i → ¬ G i) ∧ (∀ i, R i → i < w.heap.size ∧ ¬ F i ∧ ¬ G i) ∧ Below w0.heap.size w0 w
def Step (w0 : World) (R : Nat → Prop) (w w' : World) (gd gx : Nat) (L : List Bk) (W : List Wr) (L' : List Bk) (W' : List Wr) : Prop := Two w0 R w' gd gx L W L' W' ∧ Out w w' (fun i => ¬ R i)
section
variable {w0 w w1 : World} {R R2 : Nat → Prop} {gd gx : Nat} {L L' L2 : List Bk} {W W' W2 : List Wr}
theorem Two.bl (h : Two w0 R w gd gx L W L' W') : Below w0.heap.size w0 w := h.choose_spec.choose_spec.2.2.2.2.2.2
theorem Two.below (h : Two w0 R w gd gx L W L' W') (hb : Below w.heap.size w w1) : Two w0 R w1 gd gx L W L' W' := by
  obtain ⟨F, G, hF, hG, bF, bG, hd, hR, hB⟩ := h
  have hs := hb.size
  exact ⟨F, G, DkF.below hF hb, DkF.below hG hb, fun i h => ⟨(bF i h).1, by have := (bF i h).2; omega⟩, fun i h => ⟨(bG i h).1, by have := (bG i h).2; omega⟩, hd, fun i h => ⟨by have := (hR i h).1; omega, (hR i h).2⟩, bl_thenB hB hB.size hb⟩
theorem Two.mono (h : Two w0 R w gd gx L W L' W') (hR2 : ∀ i, R2 i → R i) : Two w0 R2 w gd gx L W L' W' := by
  obtain ⟨F, G, hF, hG, bF, bG, hd, hR, hB⟩ := h
  exact ⟨F, G, hF, hG, bF, bG, hd, fun i h => hR i (hR2 i h), hB⟩
/-- A new block is put aside. -/
theorem Two.add (h : Two w0 R w gd gx L W L' W') (hb : Below w.heap.size w w1) (ge : Nat) (h1 : w.heap.size ≤ ge) (h2 : ge < w1.heap.size) : Two w0 (fun i => R i ∨ i = ge) w1 gd gx L W L' W' := by
  have hs := hb.size
  obtain ⟨F, G, hF, hG, bF, bG, hd, hR, hB⟩ := h
  refine ⟨F, G, DkF.below hF hb, DkF.below hG hb, fun i h => ⟨(bF i h).1, by have := (bF i h).2; omega⟩, fun i h => ⟨(bG i h).1, by have := (bG i h).2; omega⟩, hd, fun i h => ?_, bl_thenB hB hB.size hb⟩
  rcases h with h | rfl
  · exact ⟨by have := (hR i h).1; omega, (hR i h).2⟩
  · exact ⟨h2, fun h => by have := (bF _ h).2; omega, fun h => by have := (bG _ h).2; omega⟩
/-- Something is done to the blocks put aside. -/
theorem Two.out (h : Two w0 R w gd gx L W L' W') (k : Out w w1 R) (hRB : ∀ i, R i → w0.heap.size ≤ i) : Two w0 (gro R w w1) w1 gd gx L W L' W' := by
  have hs := k.size
  obtain ⟨F, G, hF, hG, bF, bG, hd, hR, hB⟩ := h
  refine ⟨F, G, DkF.out hF k (fun i hi hr => (hR i hr).2.1 hi), DkF.out hG k (fun i hi hr => (hR i hr).2.2 hi), fun i h => ⟨(bF i h).1, by have := (bF i h).2; omega⟩, fun i h => ⟨(bG i h).1, by have := (bG i h).2; omega⟩, hd, fun i h => ?_, k.below hB hB.size hRB⟩
  rcases h with h | ⟨h1, h2⟩
  · exact ⟨by have := (hR i h).1; omega, (hR i h).2⟩
  · exact ⟨h2, fun h => by have := (bF _ h).2; omega, fun h => by have := (bG _ h).2; omega⟩
theorem two_d {F G : Nat → Prop} (hG : DR w0.heap.size w gx G L' W') (bF : ∀ i, F i → w0.heap.size ≤ i ∧ i < w.heap.size) (bG : ∀ i, G i → w0.heap.size ≤ i ∧ i < w.heap.size) (hd : ∀ i, F i → ¬ G i) (hR : ∀ i, R i → i < w.heap.size ∧ ¬ F i ∧ ¬ G i) (hB : Below w0.heap.size w0 w)
    (hF : DP w0.heap.size w1 gd (gro F w w1) L2 W2) (k : Out w w1 F) : Step w0 R w w1 gd gx L2 W2 L' W' := by
  have hs := k.size
  have hs0 := hB.size
  refine ⟨⟨gro F w w1, G, hF, DkF.out hG k (fun i hi hf => hd i hf hi), fun i h => ?_, fun i h => ⟨(bG i h).1, by have := (bG i h).2; omega⟩, fun i h hg => ?_, fun i h => ⟨by have := (hR i h).1; omega, fun hf => ?_, (hR i h).2.2⟩, k.below hB hB.size (fun i h => (bF i h).1)⟩, k.mono (fun i hf hr => (hR i hr).2.1 hf)⟩
  · rcases h with h | ⟨h1, h2⟩
    · exact ⟨(bF i h).1, by have := (bF i h).2; omega⟩
    · exact ⟨by omega, h2⟩
  · rcases h with h | ⟨h1, h2⟩
    · exact hd i h hg
    · have := (bG i hg).2; omega
  · rcases hf with hf | ⟨h1, h2⟩
    · exact (hR i h).2.1 hf
    · have := (hR i h).1; omega
theorem two_x {F G : Nat → Prop} (hF : DP w0.heap.size w gd F L W) (bF : ∀ i, F i → w0.heap.size ≤ i ∧ i < w.heap.size) (bG : ∀ i, G i → w0.heap.size ≤ i ∧ i < w.heap.size) (hd : ∀ i, F i → ¬ G i) (hR : ∀ i, R i → i < w.heap.size ∧ ¬ F i ∧ ¬ G i) (hB : Below w0.heap.size w0 w)
    (hG : DR w0.heap.size w1 gx (gro G w w1) L2 W2) (k : Out w w1 G) : Step w0 R w w1 gd gx L W L2 W2 := by
  have hs := k.size
  have hs0 := hB.size
  refine ⟨⟨F, gro G w w1, DkF.out hF k (fun i hi hf => hd i hi hf), hG, fun i h => ⟨(bF i h).1, by have := (bF i h).2; omega⟩, fun i h => ?_, fun i h hg => ?_, fun i h => ⟨by have := (hR i h).1; omega, (hR i h).2.1, fun hf => ?_⟩, k.below hB hB.size (fun i h => (bG i h).1)⟩, k.mono (fun i hf hr => (hR i hr).2.2 hf)⟩
  · rcases h with h | ⟨h1, h2⟩
    · exact ⟨(bG i h).1, by have := (bG i h).2; omega⟩
    · exact ⟨by omega, h2⟩
  · rcases hg with hg | ⟨h1, h2⟩
    · exact hd i h hg
    · have := (bF i h).2; omega
  · rcases hf with hf | ⟨h1, h2⟩
    · exact (hR i h).2.2 hf
    · have := (hR i h).1; omega
theorem Step.trans {w2 : World} (h : Out w w1 (fun i => ¬ R i)) (k : Step w0 R w1 w2 gd gx L W L' W') : Step w0 R w w2 gd gx L W L' W' := ⟨k.1, h.trans k.2 (fun i hi => .inl hi)⟩

/-! ### what is done to the two -/
theorem two_write (h : Two w0 R w gd gx L W L' W') (b : Nat) (x : Bk) (hb : b < L.length) (hL : L.length ≤ 1000) (hW : W.length ≤ 1000) :
    Calls Try.prog 17 #[.pointer (some ⟨gd, 0, none⟩), .int .i64 b, .agg (bc x)] w fun r w' => r = .returned (.bool true) ∧ Step w0 R w w' gd gx L (W ++ [⟨b, x⟩]) L' W' := by
  obtain ⟨F, G, hF, hG, bF, bG, hd, hR, hB⟩ := h
  refine (write_yes gd F L W b x _ w hF hb hL hW (fun i h => (bF i h).2)).mono ?_
  rintro r w' ⟨rfl, h1, h2⟩
  exact ⟨rfl, two_d hG bF bG hd hR hB h1 h2⟩
theorem two_write_no (h : Two w0 R w gd gx L W L' W') (b : Int) (x : Bk) (hb : b < 0 ∨ (L.length : Int) ≤ b) :
    Calls Try.prog 17 #[.pointer (some ⟨gd, 0, none⟩), .int .i64 b, .agg (bc x)] w fun r w' => r = .returned (.bool false) ∧ Below w.heap.size w w' := by
  obtain ⟨F, G, hF, hG, bF, bG, hd, hR, hB⟩ := h
  exact write_no gd F L W b x _ w hF hb
theorem two_flush (h : Two w0 R w gd gx L W L' W') (hok : Ok L W) (hL : L.length ≤ 1000) (hW : W.length ≤ 1000) :
    Calls Try.prog 15 #[.pointer (some ⟨gd, 0, none⟩)] w fun r w' => r = .returned (.tuple #[]) ∧ Step w0 R w w' gd gx (land W yes L W.length) [] L' W' := by
  obtain ⟨F, G, hF, hG, bF, bG, hd, hR, hB⟩ := h
  refine (flush_c gd F L W _ w hF hok hL hW (fun i h => (bF i h).2)).mono ?_
  rintro r w' ⟨rfl, h1, h2⟩
  exact ⟨rfl, two_d hG bF bG hd hR hB h1 h2⟩
theorem two_crash (h : Two w0 R w gd gx L W L' W') (hok : Ok L W) (hL : L.length ≤ 1000) (hW : W.length ≤ 1000) (Ak : Option Addr) (nk ck : Nat) (ks : List Bool) (hk : RF bo 1 w Ak nk ks) (hA : ∀ a, Ak = some a → 0 < nk → a.block < w0.heap.size) :
    Calls Try.prog 19 #[.pointer (some ⟨gd, 0, none⟩), .slice Ak nk ck] w fun r w' => r = .returned (.int .i64 (count (kf ks) W.length : Nat)) ∧ Step w0 R w w' gd gx (land W (kf ks) L W.length) [] L' W' := by
  obtain ⟨F, G, hF, hG, bF, bG, hd, hR, hB⟩ := h
  refine (crash_c gd F L W _ w hF hok hL hW (fun i h => (bF i h).2) Ak nk ck ks hk (fun hn a ha hf => by have := hA a ha hn; have := (bF _ hf).1; omega)).mono ?_
  rintro r w' ⟨rfl, h1, h2⟩
  exact ⟨rfl, two_d hG bF bG hd hR hB h1 h2⟩
theorem two_settle (h : Two w0 R w gd gx L W L' W') (hok : Ok L W) (hL : L.length ≤ 32) (hW : W.length ≤ 1000) (bits : Int) (bb : Nat) (hbb : R bb) (hbc : w.cell? ⟨bb, 0, none⟩ = some (.int .i64 bits)) :
    Calls Try.prog 22 #[.pointer (some ⟨gd, 0, none⟩), .func (.func 23) #[] #[.pointer (some ⟨bb, 0, none⟩)]] w fun r w' => r = .returned (.int .i64 (count (mk bits W) W.length : Nat)) ∧ Step w0 R w w' gd gx (land W (mk bits W) L W.length) (rest W (mk bits W) W.length) L' W' := by
  obtain ⟨F, G, hF, hG, bF, bG, hd, hR, hB⟩ := h
  refine (settle_c gd F L W _ w hF hok hL hW (fun i h => (bF i h).2) hB.size bits bb (hR bb hbb).2.1 hbc).mono ?_
  rintro r w' ⟨rfl, h1, h2⟩
  exact ⟨rfl, two_d hG bF bG hd hR hB h1 h2⟩
theorem two_read (h : Two w0 R w gd gx L W L' W') (b : Nat) (hb : b < L.length) (hL : L.length ≤ 1000) (hW : W.length ≤ 1000) :
    Calls Try.prog 12 #[.pointer (some ⟨gd, 0, none⟩), .int .i64 b] w fun r w' => r = .returned (.tuple #[.agg (bc (DiskMath.read L W b)), .bool true]) ∧ Below w.heap.size w w' := by
  obtain ⟨F, G, hF, hG, bF, bG, hd, hR, hB⟩ := h
  exact DiskR.read_yes gd F L W b _ w hF hb hL hW
theorem two_len (h : Two w0 R w gd gx L W L' W') :
    Calls Try.prog 21 #[.pointer (some ⟨gd, 0, none⟩)] w fun r w' => r = .returned (.int .i64 L.length) ∧ w = w' := by
  obtain ⟨F, G, ⟨Al, cl, Aw, cw, D, _⟩, hG, bF, bG, hd, hR, hB⟩ := h
  exact len_c gd L.length cl W.length cw Al Aw w D.d
theorem two_read_off (h : Two w0 R w gd gx L W L' W') (b : Int) (hb : b < 0 ∨ (L.length : Int) ≤ b) :
    Calls Try.prog 12 #[.pointer (some ⟨gd, 0, none⟩), .int .i64 b] w fun r w' => r = .returned (.tuple #[.agg (bc zb), .bool false]) ∧ Below w.heap.size w w' := by
  by_cases h0 : b < 0
  · exact DiskN.read_neg _ b w h0
  · exact DiskN.read_off _ L.length b w (by omega) (by omega) (fun w' hb' => (two_len (h.below hb')).mono (fun r w'' ⟨h1, h2⟩ => ⟨h1, h2⟩))
theorem two_waiting (h : Two w0 R w gd gx L W L' W') (hW : W.length ≤ 1000) :
    Calls Try.prog 20 #[.pointer (some ⟨gd, 0, none⟩)] w fun r w' => ∃ A1 c1, (r = .returned (.slice A1 W.length c1) ∧ w'.ownsRow w.heap.size 3 1 (.slice A1 W.length c1) W.length ((Disk4.bks W).flatMap Disk4.iv)) ∧ Below w.heap.size w w' := by
  obtain ⟨F, G, hF, hG, bF, bG, hd, hR, hB⟩ := h
  exact Disk4.waiting_c gd F L W _ w hF hW
theorem two_rin_yes (h : Two w0 R w gd gx L W L' W') (b : Nat) (hb : b < L'.length) :
    Calls Try.prog 13 #[.pointer (some ⟨gx, 0, none⟩), .int .i64 b] w fun r w' => r = .returned (.bool true) ∧ w = w' := by
  obtain ⟨F, G, hF, ⟨Al, cl, Aw, cw, D, _⟩, bF, bG, hd, hR, hB⟩ := h
  exact rin_yes gx L'.length cl W'.length cw b Al Aw w D.d hb
theorem two_rin_no (h : Two w0 R w gd gx L W L' W') (b : Int) (hb : b < 0 ∨ (L'.length : Int) ≤ b) :
    Calls Try.prog 13 #[.pointer (some ⟨gx, 0, none⟩), .int .i64 b] w fun r w' => r = .returned (.bool false) ∧ w = w' := by
  obtain ⟨F, G, hF, ⟨Al, cl, Aw, cw, D, _⟩, bF, bG, hd, hR, hB⟩ := h
  exact rin_no gx L'.length cl W'.length cw b Al Aw w D.d hb
theorem two_rread (h : Two w0 R w gd gx L W L' W') (b : Nat) (hb : b < L'.length) (hL : L'.length ≤ 1000) (hW : W'.length ≤ 1000) :
    Calls Try.prog 26 #[.pointer (some ⟨gx, 0, none⟩), .int .i64 b] w fun r w' => r = .returned (.agg (bc (DiskMath.read L' W' b))) ∧ Below w.heap.size w w' := by
  obtain ⟨F, G, hF, hG, bF, bG, hd, hR, hB⟩ := h
  exact rread_c gx G L' W' b _ w hG hb hL hW
theorem two_rflush (h : Two w0 R w gd gx L W L' W') (hok : Ok L' W') (hL : L'.length ≤ 1000) (hW : W'.length ≤ 1000) :
    Calls Try.prog 25 #[.pointer (some ⟨gx, 0, none⟩), .slice none 0 0, .bool true] w fun r w' => r = .returned (.int .i64 (count yes W'.length : Nat)) ∧ Step w0 R w w' gd gx L W (land W' yes L' W'.length) [] := by
  obtain ⟨F, G, hF, hG, bF, bG, hd, hR, hB⟩ := h
  refine (rflush_c gx G L' W' _ w hG hok hL hW (fun i h => (bG i h).2)).mono ?_
  rintro r w' ⟨rfl, h1, h2⟩
  exact ⟨rfl, two_x hF bF bG hd hR hB h1 h2⟩
theorem two_rcrash (h : Two w0 R w gd gx L W L' W') (hok : Ok L' W') (hL : L'.length ≤ 1000) (hW : W'.length ≤ 1000) (Ak : Option Addr) (nk ck : Nat) (ks : List Bool) (hk : RF bo 1 w Ak nk ks) (hA : ∀ a, Ak = some a → 0 < nk → a.block < w0.heap.size) :
    Calls Try.prog 25 #[.pointer (some ⟨gx, 0, none⟩), .slice Ak nk ck, .bool false] w fun r w' => r = .returned (.int .i64 (count (kf ks) W'.length : Nat)) ∧ Step w0 R w w' gd gx L W (land W' (kf ks) L' W'.length) [] := by
  obtain ⟨F, G, hF, hG, bF, bG, hd, hR, hB⟩ := h
  refine (rcrash_c gx G L' W' _ w hG hok hL hW (fun i h => (bG i h).2) Ak nk ck ks hk (fun hn a ha hf => by have := hA a ha hn; have := (bG _ hf).1; omega)).mono ?_
  rintro r w' ⟨rfl, h1, h2⟩
  exact ⟨rfl, two_x hF bF bG hd hR hB h1 h2⟩
theorem two_rsettle (h : Two w0 R w gd gx L W L' W') (hok : Ok L' W') (hL : L'.length ≤ 32) (hW : W'.length ≤ 1000) (bits : Int) :
    Calls Try.prog 24 #[.pointer (some ⟨gx, 0, none⟩), .int .i64 bits] w fun r w' => r = .returned (.int .i64 (count (mk bits W') W'.length : Nat)) ∧ Step w0 R w w' gd gx L W (land W' (mk bits W') L' W'.length) (rest W' (mk bits W') W'.length) := by
  obtain ⟨F, G, hF, hG, bF, bG, hd, hR, hB⟩ := h
  refine (rsettle_c gx G L' W' _ w hG hok hL hW (fun i h => (bG i h).2) hB.size bits).mono ?_
  rintro r w' ⟨rfl, h1, h2⟩
  exact ⟨rfl, two_x hF bF bG hd hR hB h1 h2⟩
/-- The reference's disk, opened and shut again. -/
theorem two_open (h : Two w0 R w gd gx L W L' W') : ∃ Al cl Aw cw, Blk w gx 63 (dc Al L'.length cl Aw W'.length cw) ∧ w.ownsRow w0.heap.size 65 65 (.slice Aw W'.length cw) W'.length (W'.flatMap wv) ∧
    ∀ (wa wb w2 : World) (A5 : Option Addr) (c5 : Nat) (y : Wr), Below w.heap.size w wa → wb.ownsRow w0.heap.size 65 65 (.slice A5 (W'.length + 1) c5) (W'.length + 1) ((W' ++ [y]).flatMap wv) → wa.grownBy wb (Value.slice Aw W'.length cw).ownBlock → (∀ a1, A5 = some a1 → (Value.slice Aw W'.length cw).ownBlock = some a1.block ∨ wa.heap.size ≤ a1.block) → wb.grownBy w2 (some gx) → Blk w2 gx 63 (dc Al L'.length cl A5 (W'.length + 1) c5) → Step w0 R w w2 gd gx L W L' (W' ++ [y]) := by
  obtain ⟨F, G, hF, hG, bF, bG, hd, hR, hB⟩ := h
  obtain ⟨Al, cl, Aw, cw, D, hGg, hGl, hGw⟩ := hG
  refine ⟨Al, cl, Aw, cw, D.d, D.q, ?_⟩
  intro wa wb w2 A5 c5 y ha HO g1 hat g2 hk
  have hG0 : DR w0.heap.size w gx G L' W' := ⟨Al, cl, Aw, cw, D, hGg, hGl, hGw⟩
  have hGo : ∀ k, (Value.slice Aw W'.length cw).ownBlock = some k → G k := by
    intro k hk
    cases Aw with
    | none => cases hk
    | some a => injection hk with hk; subst hk; exact hGw a rfl
  have O1 : Out w wb G := (Out.of_below ha G).trans (Out.of_grown g1 (S := G) hGo) (fun i h => .inl h)
  have O2 : Out w w2 G := O1.trans (Out.of_grown g2 (S := G) (fun k e => by injection e with e; subst e; exact hGg)) (fun i h => .inl h)
  have OG := Out.of_grown g2 (S := fun k => k = gx) (fun k e => by injection e with e; exact e.symm)
  have hgw : wb.ownsRow w0.heap.size 65 65 (.slice Aw W'.length cw) W'.length (W'.flatMap wv) ∨ True := .inr trivial
  have DA : Blk wb gx 63 (dc Al L'.length cl Aw W'.length cw) := by
    refine (D.d.below ha).grown g1 (fun e => ?_)
    cases Aw with
    | none => cases e
    | some a =>
      injection e with e
      obtain ⟨_, _, cs, hk'⟩ := row_lt D.q a rfl
      exact Blk.ne_ D.d hk' (by decide) e
  have hne : ∀ k, (Value.slice A5 (W'.length + 1) c5).ownBlock = some k → ¬ k = gx := by
    intro k hk' e
    cases A5 with
    | none => cases hk'
    | some a =>
      injection hk' with hk'
      subst hk'
      obtain ⟨_, _, cs, hb⟩ := row_lt HO a rfl
      exact Blk.ne_ (e ▸ hb) DA (by decide) rfl
  have HL : w2.ownsRow w0.heap.size 33 64 (.slice Al L'.length cl) L'.length (L'.flatMap bv) := by
    have h1 := own_below D.l ha
    have h2 := own_out h1 (Out.of_grown g1 (S := fun k => (Value.slice Aw W'.length cw).ownBlock = some k) (fun k e => e)) (fun b hb e => by
      cases Al with
      | none => cases hb
      | some a =>
        injection hb with hb
        subst hb
        obtain ⟨_, _, cs, hk1⟩ := row_lt D.l a rfl
        cases Aw with
        | none => cases e
        | some a2 =>
          injection e with e
          obtain ⟨_, _, cs2, hk2⟩ := row_lt D.q a2 rfl
          exact Blk.ne_ hk1 hk2 (by decide) e.symm)
    refine own_out h2 OG (fun b hb e => ?_)
    cases Al with
    | none => cases hb
    | some a =>
      injection hb with hb
      subst hb
      obtain ⟨_, _, cs, hk1⟩ := row_lt D.l a rfl
      exact Blk.ne_ (e ▸ hk1) D.d (by decide) rfl
  refine two_x hF bF bG hd hR hB ⟨Al, cl, A5, c5, ⟨by rw [List.length_append]; exact hk, HL, by rw [List.length_append]; exact own_out HO OG hne, D.b⟩, .inl hGg, fun a ha => .inl (hGl a ha), fun a ha' => ?_⟩ O2
  rcases hat a ha' with h | h
  · exact .inl (hGo _ h)
  · subst ha'
    have h1 := (row_lt (own_out HO OG hne) a rfl).1
    have h2 := ha.size
    exact .inr ⟨by omega, h1⟩
end
end Go.Proofs.Ythihpejhhimkaaa.DiskV
