/- Contracts of package frames: frames and places that are not there; the reference. -/
import Derived.Test.YtdokmnpkihmkpaaFrames3
set_option linter.unusedVariables false
namespace Go.Proofs.Ytdokmnpkihmkpaa.Frames4
open Go.RowKit Go.Proofs.Ytdokmnpkihmkpaa.Base Go.Proofs.Ytdokmnpkihmkpaa.Row Go.Proofs.Ytdokmnpkihmkpaa.Frames Go.Proofs.Ytdokmnpkihmkpaa.Frames2 Go.Proofs.Ytdokmnpkihmkpaa.Frames3

theorem info_u32 : (Try.prog.info? 28).map (fun i => (i.zero, i.size, i.bytes)) = some (some (.int .u32 0), 1, 4) := by kernel_rfl
theorem wrap_id (x : Int) (h0 : -9223372036854775808 ≤ x) (h1 : x ≤ 9223372036854775807) : IntKind.i64.wrap x = x := by rw [IntKind.wrap_i64]; omega
/-- Is there such a place? -/
def okB (n : Nat) (f a : Int) : Bool := decide (0 ≤ f ∧ f < (n : Int) ∧ 0 ≤ a ∧ a < 16)
def wh (f a : Int) : Nat := f.toNat * 16 + a.toNat
def putX (n : Nat) (X : List Int) (f a v : Int) : List Int := if okB n f a then X.set (wh f a) v else X
def layQ (n : Nat) (X : List Int) (f : Int) (P : List Int) : List Int := if inB n f then layX X f.toNat P else X
def copyX (n : Nat) (X : List Int) (t f : Int) : List Int := if inB n f then layQ n X t (pgAt X f.toNat) else X
theorem okB_nat (n f a : Nat) (h1 : f < n) (h2 : a < 16) : okB n f a = true := by simp [okB]; omega
theorem wh_nat (f a : Nat) : wh f a = f * 16 + a := rfl
theorem inB_nat {n : Nat} {f : Int} (h : inB n f = true) : ∃ m : Nat, f = m ∧ m < n := by
  have := of_decide_eq_true h
  exact ⟨f.toNat, by omega, by omega⟩
theorem okB_ex {n : Nat} {f a : Int} (h : okB n f a = true) : ∃ m k : Nat, f = m ∧ a = k ∧ m < n ∧ k < 16 := by
  have := of_decide_eq_true h
  exact ⟨f.toNat, a.toNat, by omega, by omega, by omega, by omega⟩

set_option maxRecDepth 100000 in
theorem put_c (g gp n : Nat) (f at_ v : Int) (X : List Int) (w : World) (h : Mm w g gp n X) :
    Calls Try.prog 25 #[.pointer (some ⟨g, 0, none⟩), .int .i64 f, .int .i64 at_, .int .u32 v] w fun r w' => r = .returned (.bool (okB n f at_)) ∧ Mm w' g gp n (putX n X f at_ v) ∧ w.grownBy w' (some gp) := by
  cases hok : okB n f at_ with
  | true =>
    obtain ⟨m, k, rfl, rfl, h1, h2⟩ := okB_ex hok
    rw [show putX n X m k v = X.set (m * 16 + k) v by unfold putX; rw [if_pos hok]; rfl]
    exact put_yes g gp n m k v X w h h1 h2
  | false =>
    rw [show putX n X f at_ v = X by unfold putX; rw [hok]; rfl]
    refine Calls.mono (R := fun r w' => r = .returned (.bool false) ∧ w = w') ?_ (fun r w' h' => ⟨h'.1, h'.2 ▸ h, h'.2 ▸ grown_of_below (bl_refl w) _⟩)
    have hI := Lib.hid (in_c g gp n X f w h)
    clear h
    cases hin : inB n f with
    | false =>
      rw [hin] at hI
      clear hok hin
      go_enter Try.func25, Try.ntmps25
      go_wp2_with fail
      refine (hI.out).mono ?_
      rintro r w1 ⟨rfl, rfl⟩
      go_wp2
      go_ret
      exact ⟨rfl, rfl⟩
    | true =>
      rw [hin] at hI
      by_cases h0 : at_ < 0
      · have q1 : decide (at_ < 0) = true := by simpa using h0
        clear hok hin h0
        go_enter Try.func25, Try.ntmps25
        go_wp2_with fail
        refine (hI.out).mono ?_
        rintro r w1 ⟨rfl, rfl⟩
        go_wp2
        go_ret
        exact ⟨rfl, rfl⟩
      · have h3 : 16 ≤ at_ := by
          have h1 := of_decide_eq_true hin
          have h2 := of_decide_eq_false hok
          omega
        have q1 : decide (at_ < 0) = false := by simpa using h0
        have q2 : decide (16 ≤ at_) = true := by simpa using h3
        clear hok hin h0 h3
        go_enter Try.func25, Try.ntmps25
        go_wp2_with fail
        refine (hI.out).mono ?_
        rintro r w1 ⟨rfl, rfl⟩
        go_wp2
        go_ret
        exact ⟨rfl, rfl⟩
set_option maxRecDepth 100000 in
theorem lay_c (g gp n : Nat) (f : Int) (X P : List Int) (w : World) (h : Mm w g gp n X) (hP : P.length = 16) :
    Calls Try.prog 26 #[.pointer (some ⟨g, 0, none⟩), .int .i64 f, .agg (pg P)] w fun r w' => r = .returned (.bool (inB n f)) ∧ Mm w' g gp n (layQ n X f P) ∧ w.grownBy w' (some gp) := by
  cases hin : inB n f with
  | true =>
    obtain ⟨m, rfl, h1⟩ := inB_nat hin
    rw [show layQ n X m P = layX X m P by unfold layQ; rw [if_pos hin]; rfl]
    exact lay_yes g gp n m X P w h h1 hP
  | false =>
    rw [show layQ n X f P = X by unfold layQ; rw [hin]; rfl]
    refine Calls.mono (R := fun r w' => r = .returned (.bool false) ∧ Below w.heap.size w w') ?_ (fun r w' h' => ⟨h'.1, h.below h'.2, grown_of_below h'.2 _⟩)
    have hI := Lib.hid (fun w' h' => in_c g gp n X f w' h')
    rw [hin] at hI
    have hh := Lib.hid h
    clear h hin
    go_enter Try.func26, Try.ntmps26
    go_wp2_with (first
      | ((with_reducible refine wl_box rfl 40 _ rfl (pg P) rfl ?_); intro w1 k1 b1 s1))
    refine (hI.out w1 (hh.out.below b1)).mono ?_
    rintro r w2 ⟨rfl, rfl⟩
    go_wp2
    go_ret
    exact ⟨rfl, b1⟩
set_option maxRecDepth 100000 in
set_option maxHeartbeats 2000000 in
theorem page_no (g gp n : Nat) (f : Int) (X : List Int) (w : World) (h : Mm w g gp n X) (hin : inB n f = false) :
    Calls Try.prog 24 #[.pointer (some ⟨g, 0, none⟩), .int .i64 f] w fun r w' => r = .returned (.tuple #[.agg (pg z16), .bool false]) ∧ Below w.heap.size w w' := by
  have hI := Lib.hid (fun w' h' => in_c g gp n X f w' h')
  rw [hin] at hI
  have hh := Lib.hid h
  clear h hin
  go_enter Try.func24, Try.ntmps24
  go_wp2_with (first
    | ((with_reducible refine wl_alloc rfl 40 rfl (pg z16) new_p ?_); intro w1 k1 b1 s1))
  refine (hI.out w1 (hh.out.below b1)).mono ?_
  rintro r w2 ⟨rfl, rfl⟩
  go_wp2_with (first
    | (with_reducible refine wl_build0 rfl 40 rfl (pg z16) zero_p ?_)
    | ((refine wl_store (by rfl) 40 _ _ (by rfl) w.heap.size (by rfl) (pg z16) (by rfl) 40 (pg z16) k1 (size_pg _ rfl) rfl (pg_one _) ?_); intro w3 k3 g3 s3))
  refine bodyPost_ret (res_cell_tmp rfl _ _ _ w.heap.size 40 (pg z16) _ rfl k3 Try.underlying40 rfl (size_pg _ rfl)) rfl ⟨rfl, ?_⟩
  exact below_grown b1 b1.size g3 (Nat.le_refl _)
set_option maxRecDepth 100000 in
set_option maxHeartbeats 2000000 in
theorem copy_c (g gp n : Nat) (t f : Int) (X : List Int) (w : World) (h : Mm w g gp n X) :
    Calls Try.prog 28 #[.pointer (some ⟨g, 0, none⟩), .int .i64 t, .int .i64 f] w fun r w' => r = .returned (.bool (inB n t && inB n f)) ∧ Mm w' g gp n (copyX n X t f) ∧ w.grownBy w' (some gp) := by
  cases hin : inB n f with
  | false =>
    rw [show copyX n X t f = X by unfold copyX; rw [hin]; rfl, Bool.and_false]
    refine Calls.mono (R := fun r w' => r = .returned (.bool false) ∧ Below w.heap.size w w') ?_ (fun r w' h' => ⟨h'.1, h.below h'.2, grown_of_below h'.2 _⟩)
    have hP := Lib.hid (page_no g gp n f X w h hin)
    clear h hin
    go_enter Try.func28, Try.ntmps28
    go_wp2_with fail
    refine (hP.out).mono ?_
    rintro r w1 ⟨rfl, b1⟩
    go_wp2_with (first
      | ((with_reducible refine wl_alloc rfl 40 rfl (pg z16) new_p ?_); intro w2 k2 b2 s2)
      | ((refine wl_store (by rfl) 40 _ _ (by rfl) w1.heap.size (by rfl) (pg z16) (by rfl) 40 (pg z16) k2 (size_pg _ rfl) rfl (pg_one _) ?_); intro w3 k3 g3 s3))
    go_ret
    exact ⟨rfl, below_grown (bl_then b1 b2) (by have := b1.size; have := b2.size; omega) g3 b1.size⟩
  | true =>
    obtain ⟨m, rfl, h1⟩ := inB_nat hin
    rw [show copyX n X t m = layQ n X t (pgAt X m) by unfold copyX; rw [if_pos hin]; rfl, Bool.and_true]
    have hP := Lib.hid (page_yes g gp n m X w h h1)
    have hh := Lib.hid h
    have hpl := Lib.hid (pgAt_len X n m h.len h1)
    have hL := Lib.hid (fun w' h' => lay_c g gp n t X (pgAt X m) w' h' hpl.out)
    clear h hin
    go_enter Try.func28, Try.ntmps28
    go_wp2_with fail
    refine (hP.out).mono ?_
    rintro r w1 ⟨rfl, b1⟩
    have h1 := hh.out.below b1
    have z1 := b1.size
    go_wp2_with (first
      | ((with_reducible refine wl_alloc rfl 40 rfl (pg z16) new_p ?_); intro w2 k2 b2 s2)
      | ((refine wl_store (by rfl) 40 _ _ (by rfl) w1.heap.size (by rfl) (pg (pgAt X m)) (by rfl) 40 (pg z16) k2 (size_pg _ hpl.out) (by rw [pg_size, pg_size, hpl.out]; rfl) (pg_one _) ?_); intro w3 k3 g3 s3)
      | (refine wl_load_on (by rfl) 40 _ (by rfl) w1.heap.size (by rfl) 40 (pg (pgAt X m)) _ k3 Try.underlying40 rfl (size_pg _ hpl.out) (by exact ⟨_, _, rfl, rfl, rfl⟩) ?_))
    have h3 := (h1.below b2).grown g3 (by have := h1.m.lt; omega) (by have := h1.p.lt; omega)
    have B3 := below_grown (bl_then b1 b2) (by have := b1.size; have := b2.size; omega) g3 b1.size
    refine (hL.out w3 h3).mono ?_
    rintro r w4 ⟨rfl, h4, g4⟩
    go_wp2
    go_ret
    exact ⟨rfl, h4, World.grownBy.trans (grown_of_below B3 _) g4⟩

/-! ### the reference: a row of words of the call's own -/
def Rf (w : World) (b : Nat) (X : List Int) : Prop := ∃ cur : Array Value, Blk w b 28 cur ∧ ∀ i, i < X.length → cur[i]? = some (.int .u32 (X[i]?.getD 0))
theorem Rf.cell {w : World} {b : Nat} {X : List Int} (h : Rf w b X) (i : Nat) (hi : i < X.length) : w.cell? ⟨b, i, none⟩ = some (.int .u32 (X[i]?.getD 0)) := by
  obtain ⟨cur, hb, hc⟩ := h
  exact hb.cellv i _ (hc i hi)
theorem Rf.below {w w1 : World} {b : Nat} {X : List Int} (h : Rf w b X) (hb : Below w.heap.size w w1) : Rf w1 b X := by
  obtain ⟨cur, hk, hc⟩ := h
  exact ⟨cur, hk.below hb, hc⟩
theorem Rf.grown {w w1 : World} {b r : Nat} {X : List Int} (h : Rf w b X) (hg : w.grownBy w1 (some r)) (hr : b ≠ r) : Rf w1 b X := by
  obtain ⟨cur, hk, hc⟩ := h
  exact ⟨cur, hk.grown hg (fun e => by injection e with e; exact hr e), hc⟩
theorem Rf.lt {w : World} {b : Nat} {X : List Int} (h : Rf w b X) : b < w.heap.size := by
  obtain ⟨cur, hk, hc⟩ := h
  exact hk.lt
theorem Rf.ne {w : World} {b g gp n : Nat} {X Y : List Int} (h : Rf w b X) (hm : Mm w g gp n Y) : b ≠ g ∧ b ≠ gp := by
  obtain ⟨cur, hk, hc⟩ := h
  exact ⟨Blk.ne_ hk hm.m (by decide), Blk.ne_ hk hm.p (by decide)⟩
theorem Rf.of_own {w : World} {base N c : Nat} {A : Option Addr} {X : List Int} (h : w.ownsRow base 28 1 (.slice A N c) N (nums .u32 X)) (hN : 0 < N) : ∃ b, A = some ⟨b, 0, none⟩ ∧ base ≤ b ∧ X.length = N ∧ N ≤ c ∧ Rf w b X := by
  obtain ⟨hl, h2⟩ := h
  have hl' : X.length = N := by simpa [nums] using hl
  rcases h2 with ⟨_, h0⟩ | ⟨g, cap, cur, hv, hb, hk, hc, _, hs, ht⟩
  · omega
  · injection hv with e1 e2 e3
    subst e1 e3
    refine ⟨g, rfl, hb, hl', hc, cur, hk, fun i hi => ?_⟩
    have : (cur.toList.take (N * 1))[i]? = (nums .u32 X)[i]? := by rw [ht]
    rw [List.getElem?_take, if_pos (by omega), Array.getElem?_toList] at this
    rw [this]
    simp [nums, List.getElem?_eq_getElem hi]

/-- k cells laid from o on. -/
def blend (X : List Int) (o : Nat) (P : List Int) (k : Nat) : List Int := (List.range X.length).map fun j => if o ≤ j ∧ j < o + k then P[j - o]?.getD 0 else X[j]?.getD 0
theorem blend_len (X : List Int) (o : Nat) (P : List Int) (k : Nat) : (blend X o P k).length = X.length := by simp [blend]
theorem blend_get (X : List Int) (o : Nat) (P : List Int) (k j : Nat) (h : j < X.length) : (blend X o P k)[j]?.getD 0 = if o ≤ j ∧ j < o + k then P[j - o]?.getD 0 else X[j]?.getD 0 := by
  unfold blend
  rw [List.getElem?_map, List.getElem?_range h]
  rfl
theorem ext_getD {X Y : List Int} (hl : X.length = Y.length) (h : ∀ j, j < X.length → X[j]?.getD 0 = Y[j]?.getD 0) : X = Y := by
  apply List.ext_getElem hl
  intro j h1 h2
  have := h j h1
  rwa [List.getElem?_eq_getElem h1, List.getElem?_eq_getElem h2] at this
theorem blend_zero (X : List Int) (o : Nat) (P : List Int) : blend X o P 0 = X := by
  apply ext_getD (blend_len _ _ _ _)
  intro j hj
  rw [blend_len] at hj
  rw [blend_get _ _ _ _ _ hj, if_neg (by omega)]
theorem blend_set (X : List Int) (o : Nat) (P : List Int) (k : Nat) : (blend X o P k).set (o + k) (P[k]?.getD 0) = blend X o P (k + 1) := by
  apply ext_getD (by rw [List.length_set, blend_len, blend_len])
  intro j hj
  rw [List.length_set, blend_len] at hj
  rw [blend_get _ _ _ _ _ hj, List.getElem?_set]
  by_cases h : o + k = j
  · subst h
    rw [if_pos rfl, if_pos (by rw [blend_len]; exact hj), if_pos (by omega)]
    rw [show o + k - o = k by omega]; rfl
  · rw [if_neg h, blend_get _ _ _ _ _ hj]
    by_cases h2 : o ≤ j ∧ j < o + k
    · rw [if_pos h2, if_pos (by omega)]
    · rw [if_neg h2, if_neg (by omega)]
theorem layX_get (X : List Int) (n f : Nat) (P : List Int) (hl : X.length = n * 16) (hf : f < n) (hP : P.length = 16) (j : Nat) (hj : j < X.length) :
    (layX X f P)[j]?.getD 0 = if f * 16 ≤ j ∧ j < f * 16 + 16 then P[j - f * 16]?.getD 0 else X[j]?.getD 0 := by
  unfold layX
  by_cases h : f * 16 ≤ j ∧ j < f * 16 + 16
  · rw [if_pos h, List.getElem?_append_right (by rw [List.length_take]; omega), List.length_take, Nat.min_eq_left (by omega), List.getElem?_append_left (by omega)]
  · rw [if_neg h]
    rcases Nat.lt_or_ge j (f * 16) with h1 | h1
    · rw [List.getElem?_append_left (by rw [List.length_take]; omega), List.getElem?_take, if_pos h1]
    · rw [List.getElem?_append_right (by rw [List.length_take]; omega), List.length_take, Nat.min_eq_left (by omega), List.getElem?_append_right (by omega), List.getElem?_drop]
      congr 2; omega
theorem blend_lay (X : List Int) (n f : Nat) (P : List Int) (hl : X.length = n * 16) (hf : f < n) (hP : P.length = 16) : blend X (f * 16) P 16 = layX X f P := by
  apply ext_getD (by rw [blend_len, layX_len X n f P hl hf hP, hl])
  intro j hj
  rw [blend_len] at hj
  rw [blend_get _ _ _ _ _ hj, layX_get X n f P hl hf hP j hj]
theorem pgAt_get (X : List Int) (f i : Nat) (hi : i < 16) : (pgAt X f)[i]?.getD 0 = X[f * 16 + i]?.getD 0 := by
  unfold pgAt
  rw [List.getElem?_take, if_pos hi, List.getElem?_drop]
theorem ramp_get (v : Int) (i : Nat) (hi : i < 16) : (ramp v 16)[i]?.getD 0 = IntKind.u32.wrap (v + i) := by
  unfold ramp
  rw [List.getElem?_map, List.getElem?_range hi]
  simp [hi]
theorem Rf.set_ {w1 : World} {b i : Nat} {X : List Int} {v : Int} {cur : Array Value} (hc : ∀ i, i < X.length → cur[i]? = some (.int .u32 (X[i]?.getD 0))) (hk : Blk w1 b 28 (cur.setIfInBounds i (.int .u32 v))) : Rf w1 b (X.set i v) := by
  refine ⟨_, hk, fun j hj => ?_⟩
  rw [List.length_set] at hj
  rw [Array.getElem?_setIfInBounds, List.getElem?_set]
  have hs : j < cur.size := (Array.getElem?_eq_some_iff.1 (hc j hj)).1
  by_cases h : i = j
  · subst h; rw [if_pos rfl, if_pos rfl, if_pos hs, if_pos hj]; rfl
  · rw [if_neg h, if_neg h, hc j hj]
theorem Rf.size {X : List Int} {cur : Array Value} (hc : ∀ i, i < X.length → cur[i]? = some (.int .u32 (X[i]?.getD 0))) (i : Nat) (h : i < X.length) : i < cur.size := (Array.getElem?_eq_some_iff.1 (hc i h)).1
end Go.Proofs.Ytdokmnpkihmkpaa.Frames4
