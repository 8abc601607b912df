/- DiskKeeps: the state of the law: the disk, its twin, the row of what was written. -/
import Derived.Test.YthihpejhhimkaaaDiskZ
set_option linter.unusedVariables false
namespace Go.Proofs.Ythihpejhhimkaaa.DiskK
open Go.RowKit Go.ChangeShapes Go.WideShapes Go.Deep Go.Proofs.Ythihpejhhimkaaa.Base Go.Proofs.Ythihpejhhimkaaa.Row Go.Proofs.Ythihpejhhimkaaa.App Go.Proofs.Ythihpejhhimkaaa.Multi Go.Proofs.Ythihpejhhimkaaa.Flat Go.Proofs.Ythihpejhhimkaaa.StEq Go.Proofs.Ythihpejhhimkaaa.Held Go.Proofs.Ythihpejhhimkaaa.Out Go.Proofs.Ythihpejhhimkaaa.HeldW Go.Proofs.Ythihpejhhimkaaa.HeldX Go.Proofs.Ythihpejhhimkaaa.DiskMath Go.Proofs.Ythihpejhhimkaaa.Disk Go.Proofs.Ythihpejhhimkaaa.Disk3 Go.Proofs.Ythihpejhhimkaaa.DiskS Go.Proofs.Ythihpejhhimkaaa.DiskU Go.Proofs.Ythihpejhhimkaaa.DiskV Go.Proofs.Ythihpejhhimkaaa.DiskW Go.Proofs.Ythihpejhhimkaaa.DiskX Go.Proofs.Ythihpejhhimkaaa.DiskZ

/-- A block and the number of a deed. -/
def pv (p : Int × Nat) : List Value := [.int .i64 p.1, .int .i64 p.2]
theorem pv_len (p : Int × Nat) : (pv p).length = 2 := rfl
theorem pv_one (p : Int × Nat) : ∀ v ∈ pv p, v.oneCell' = true := by
  intro v hv
  simp [pv] at hv
  rcases hv with rfl | rfl <;> rfl
theorem info_a : (Try.prog.info? 44).map (fun i => (i.zero, i.size, i.bytes)) = some (some (.agg #[.int .i64 0, .int .i64 0]), 2, 16) := by kernel_rfl
/-- The disk (now Lc, W2), its twin (L1), the row of what was written (V). -/
def KS (w0 : World) (B : Nat) (Rt : Nat → Prop) (gd gx gt : Nat) (Lc L1 L : List Bk) (W : List Wr) (w : World) (Aw : Option Addr) (m cw : Nat) (W2 : List Wr) (V : List (Int × Nat)) : Prop :=
  ∃ R, Two w0 R w gd gx Lc W2 L W ∧ DP w0.heap.size w gt Rt L1 [] ∧ (∀ i, Rt i → R i) ∧ (∀ i, Rt i → i < B) ∧ (∀ i, R i → w0.heap.size ≤ i) ∧ (∀ b, (Value.slice Aw m cw).ownBlock = some b → R b) ∧ w.ownsRow B 44 2 (.slice Aw m cw) m (V.flatMap pv) ∧ B ≤ w.heap.size
section
variable {w0 w w1 : World} {B gd gx gt m cw : Nat} {Rt : Nat → Prop} {Lc L1 L : List Bk} {W W2 : List Wr} {Aw : Option Addr} {V : List (Int × Nat)}
theorem KS.below (h : KS w0 B Rt gd gx gt Lc L1 L W w Aw m cw W2 V) (hb : Below w.heap.size w w1) : KS w0 B Rt gd gx gt Lc L1 L W w1 Aw m cw W2 V := by
  obtain ⟨R, T, D, h1, h2, h3, h4, HO, h5⟩ := h
  exact ⟨R, T.below hb, DkF.below D hb, h1, h2, h3, h4, own_below HO hb, Nat.le_trans h5 hb.size⟩
theorem KS.bl (h : KS w0 B Rt gd gx gt Lc L1 L W w Aw m cw W2 V) : Below w0.heap.size w0 w := by
  obtain ⟨R, T, _⟩ := h
  exact T.bl
theorem KS.le (h : KS w0 B Rt gd gx gt Lc L1 L W w Aw m cw W2 V) : B ≤ w.heap.size := by
  obtain ⟨_, _, _, _, _, _, _, _, h⟩ := h
  exact h
theorem KS.own (h : KS w0 B Rt gd gx gt Lc L1 L W w Aw m cw W2 V) : w.ownsRow B 44 2 (.slice Aw m cw) m (V.flatMap pv) := by
  obtain ⟨_, _, _, _, _, _, _, h, _⟩ := h
  exact h
theorem KS.rf (h : KS w0 B Rt gd gx gt Lc L1 L W w Aw m cw W2 V) : RF pv 2 w Aw m V := RF.of_own pv_len (by decide) h.own
def KW (w0 : World) (B : Nat) (Rt : Nat → Prop) (gd gx gt : Nat) (Lc L1 L : List Bk) (W : List Wr) (w : World) (Aw : Option Addr) (m cw : Nat) (W2 : List Wr) (V : List (Int × Nat)) (S : World → Prop) (w' : World) : Prop := KS w0 B Rt gd gx gt Lc L1 L W w' Aw m cw W2 V
theorem ks_write (h : KS w0 B Rt gd gx gt Lc L1 L W w Aw m cw W2 V) (b : Nat) (x : Bk) (hb : b < Lc.length) (hL : Lc.length ≤ 1000) (hW : W2.length ≤ 1000) :
    Calls Try.prog 17 #[.pointer (some ⟨gd, 0, none⟩), .int .i64 b, .agg (bc x)] w fun r w' => r = .returned (.bool true) ∧ KS w0 B Rt gd gx gt Lc L1 L W w' Aw m cw (W2 ++ [⟨b, x⟩]) V := by
  obtain ⟨R, T, D, h1, h2, h3, h4, HO, h5⟩ := h
  refine (two_write T b x hb hL hW).mono ?_
  rintro r w' ⟨rfl, T2, O⟩
  exact ⟨rfl, R, T2, DkF.out D O (fun i hi hn => hn (h1 i hi)), h1, h2, h3, h4, own_out HO O (fun b hb hn => hn (h4 b hb)), Nat.le_trans h5 O.size⟩
theorem ks_write_no (h : KS w0 B Rt gd gx gt Lc L1 L W w Aw m cw W2 V) (b : Int) (x : Bk) (hb : b < 0 ∨ (Lc.length : Int) ≤ b) :
    Calls Try.prog 17 #[.pointer (some ⟨gd, 0, none⟩), .int .i64 b, .agg (bc x)] w fun r w' => r = .returned (.bool false) ∧ KS w0 B Rt gd gx gt Lc L1 L W w' Aw m cw W2 V := by
  have h0 := h
  obtain ⟨R, T, _⟩ := h
  refine (two_write_no T b x hb).mono ?_
  rintro r w' ⟨rfl, hb⟩
  exact ⟨rfl, h0.below hb⟩
theorem ks_crash (h : KS w0 B Rt gd gx gt Lc L1 L W w Aw m cw W2 V) (hok : Ok Lc W2) (hL : Lc.length ≤ 1000) (hW : W2.length ≤ 1000) (Ak : Option Addr) (nk ck : Nat) (ks : List Bool) (hk : RF bo 1 w Ak nk ks) (hA : ∀ a, Ak = some a → 0 < nk → a.block < w0.heap.size) :
    Calls Try.prog 19 #[.pointer (some ⟨gd, 0, none⟩), .slice Ak nk ck] w fun r w' => r = .returned (.int .i64 (count (kf ks) W2.length : Nat)) ∧ KS w0 B Rt gd gx gt (land W2 (kf ks) Lc W2.length) L1 L W w' Aw m cw [] V := by
  obtain ⟨R, T, D, h1, h2, h3, h4, HO, h5⟩ := h
  refine (two_crash T hok hL hW Ak nk ck ks hk hA).mono ?_
  rintro r w' ⟨rfl, T2, O⟩
  exact ⟨rfl, R, T2, DkF.out D O (fun i hi hn => hn (h1 i hi)), h1, h2, h3, h4, own_out HO O (fun b hb hn => hn (h4 b hb)), Nat.le_trans h5 O.size⟩
theorem ks_waiting (h : KS w0 B Rt gd gx gt Lc L1 L W w Aw m cw [] V) :
    Calls Try.prog 20 #[.pointer (some ⟨gd, 0, none⟩)] w fun r w' => (∃ A1 c1, r = .returned (.slice A1 0 c1)) ∧ Below w.heap.size w w' := by
  obtain ⟨R, T, _⟩ := h
  refine (two_waiting T (by simp)).mono ?_
  rintro r w' ⟨A1, c1, ⟨rfl, _⟩, hb⟩
  exact ⟨⟨A1, c1, rfl⟩, hb⟩
theorem ks_read (h : KS w0 B Rt gd gx gt Lc L1 L W w Aw m cw [] V) (b : Nat) (hb : b < Lc.length) (hL : Lc.length ≤ 1000) :
    Calls Try.prog 12 #[.pointer (some ⟨gd, 0, none⟩), .int .i64 b] w fun r w' => r = .returned (.tuple #[.agg (bc (at_ Lc b)), .bool true]) ∧ Below w.heap.size w w' := by
  obtain ⟨R, T, _⟩ := h
  exact two_read T b hb hL (by simp)
theorem ks_old (h : KS w0 B Rt gd gx gt Lc L1 L W w Aw m cw W2 V) (b : Nat) (hb : b < L1.length) (hL : L1.length ≤ 1000) :
    Calls Try.prog 12 #[.pointer (some ⟨gt, 0, none⟩), .int .i64 b] w fun r w' => r = .returned (.tuple #[.agg (bc (at_ L1 b)), .bool true]) ∧ Below w.heap.size w w' := by
  obtain ⟨R, T, D, _⟩ := h
  exact DiskR.read_yes gt Rt L1 [] b _ w D hb hL (by simp)
theorem ks_app (h : KS w0 B Rt gd gx gt Lc L1 L W w Aw m cw W2 V) (y : Int × Nat) (A5 : Option Addr) (c5 : Nat) (HO5 : w1.ownsRow B 44 2 (.slice A5 (m + 1) c5) (m + 1) ((V ++ [y]).flatMap pv)) (G : w.grownBy w1 (Value.slice Aw m cw).ownBlock)
    (hat : ∀ a1, A5 = some a1 → (Value.slice Aw m cw).ownBlock = some a1.block ∨ w.heap.size ≤ a1.block) : KS w0 B Rt gd gx gt Lc L1 L W w1 A5 (m + 1) c5 W2 (V ++ [y]) := by
  obtain ⟨R, T, D, h1, h2, h3, h4, HO, h5⟩ := h
  have O := Out.of_grown G (S := fun i => (Value.slice Aw m cw).ownBlock = some i) (fun k e => e)
  have hs := T.bl.size
  refine ⟨gro R w w1, T.out (O.mono h4) h3, DkF.out D O (fun i hi e => ?_), fun i hi => .inl (h1 i hi), h2, fun i hi => ?_, fun b hb => ?_, HO5, Nat.le_trans h5 O.size⟩
  · have := own_base HO i e
    have := h2 i hi
    omega
  · rcases hi with hi | hi
    · exact h3 i hi
    · omega
  · have hlt := (World.ownsRow.lt HO5 b hb).2
    cases A5 with
    | none => cases hb
    | some a1 =>
      have hbb : a1.block = b := by
        have : (Value.slice (some a1) (m + 1) c5).ownBlock = some a1.block := by rfl
        rw [this] at hb
        injection hb
      rcases hat a1 rfl with h | h
      · exact .inl (h4 b (by rw [h, hbb]))
      · exact .inr ⟨by omega, hlt⟩
theorem ks_start {w2 w3 : World} (T2 : Two w0 (fun _ => False) w2 gd gx Lc [] L W) (b3 : Below w2.heap.size w2 w3) (hT : DP w0.heap.size w3 gt (gro (fun _ => False) w2 w3) Lc []) : KS w0 w3.heap.size (gro (fun _ => False) w2 w3) gd gx gt Lc Lc L W w3 none 0 0 [] [] := by
  have hs := T2.bl.size
  refine ⟨gro (fun _ => False) w2 w3, T2.out (Out.of_below b3 _) (fun i h => h.elim), hT, fun i h => h, fun i h => ?_, fun i h => ?_, fun b hb => (by cases hb), own_nil _ _ _ _, Nat.le_refl _⟩
  · rcases h with h | h
    · exact h.elim
    · exact h.2
  · rcases h with h | h
    · exact h.elim
    · omega
end
/-- What the row of what was written tells of the writes. -/
def Rel (w0 : World) (A1 : Option Addr) (n1 : Nat) (W2 : List Wr) (V : List (Int × Nat)) : Prop :=
  V.length = W2.length ∧ ∀ (q : Nat) (z : Wr), W2[q]? = some z → ∃ (i : Nat) (d : Dd) (ad : Addr), V[q]? = some ((z.b : Int), i) ∧ i < n1 ∧ A1 = some ad ∧ DeedAt w0 (ad.add (i * 4)) d ∧ Has w0 d ∧ z.d = ofB d.xs
theorem rel_nil (w0 : World) (A1 : Option Addr) (n1 : Nat) : Rel w0 A1 n1 [] [] := ⟨rfl, fun q z h => by simp at h⟩
theorem Rel.push {w0 : World} {A1 : Option Addr} {n1 : Nat} {W2 : List Wr} {V : List (Int × Nat)} (h : Rel w0 A1 n1 W2 V) (b i : Nat) (d : Dd) (ad : Addr) (hi : i < n1) (hA : A1 = some ad) (hD : DeedAt w0 (ad.add (i * 4)) d) (hH : Has w0 d) : Rel w0 A1 n1 (W2 ++ [⟨b, ofB d.xs⟩]) (V ++ [((b : Int), i)]) := by
  obtain ⟨hl, h⟩ := h
  refine ⟨by simp [hl], fun q z hz => ?_⟩
  rcases Nat.lt_or_ge q W2.length with hq | hq
  · rw [List.getElem?_append_left hq] at hz
    obtain ⟨i', d', ad', g1, g2⟩ := h q z hz
    exact ⟨i', d', ad', by rw [List.getElem?_append_left (by omega)]; exact g1, g2⟩
  · rw [List.getElem?_append_right hq] at hz
    have hq0 : q - W2.length = 0 := by
      rcases Nat.eq_zero_or_pos (q - W2.length) with h0 | h0
      · exact h0
      · rw [List.getElem?_eq_none (by simp; omega)] at hz; cases hz
    rw [hq0] at hz
    have hz' : (⟨b, ofB d.xs⟩ : Wr) = z := by simpa using hz
    subst hz'
    exact ⟨i, d, ad, by rw [List.getElem?_append_right (by omega), hl, hq0]; rfl, hi, hA, hD, hH, rfl⟩
end Go.Proofs.Ythihpejhhimkaaa.DiskK
