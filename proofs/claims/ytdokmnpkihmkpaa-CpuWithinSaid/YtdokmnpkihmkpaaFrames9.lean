/- The twin of a memory, and what is the same of it. -/
import Derived.Test.YtdokmnpkihmkpaaFrames8
set_option linter.unusedVariables false
namespace Go.Proofs.Ytdokmnpkihmkpaa.Frames9
open Go.RowKit Go.Proofs.Ytdokmnpkihmkpaa.Base Go.Proofs.Ytdokmnpkihmkpaa.Row Go.Proofs.Ytdokmnpkihmkpaa.Frames Go.Proofs.Ytdokmnpkihmkpaa.Frames2 Go.Proofs.Ytdokmnpkihmkpaa.Frames3 Go.Proofs.Ytdokmnpkihmkpaa.Frames4 Go.Proofs.Ytdokmnpkihmkpaa.Frames5 Go.Proofs.Ytdokmnpkihmkpaa.Frames6

/-- A memory whose row may be longer than it shows. -/
structure Mt (w : World) (g gp n c : Nat) (X : List Int) : Prop where
  m : Blk w g 124 #[.slice (some ⟨gp, 0, none⟩) n c]
  p : ∃ cur : Array Value, Blk w gp 40 cur ∧ ∀ i, i < X.length → cur[i]? = some (.int .u32 (X[i]?.getD 0))
  len : X.length = n * 16
  n256 : n ≤ 256
theorem Mt.below {w w1 : World} {g gp n c : Nat} {X : List Int} (h : Mt w g gp n c X) (hb : Below w.heap.size w w1) : Mt w1 g gp n c X := by
  obtain ⟨cur, hk, hc⟩ := h.p
  exact ⟨h.m.below hb, ⟨cur, hk.below hb, hc⟩, h.len, h.n256⟩
theorem Mt.fr {w w1 : World} {g gp n c b1 b2 : Nat} {X : List Int} (h : Mt w g gp n c X) (hf : Fr b1 b2 w w1) (h1 : g ≠ b1) (h2 : g ≠ b2) (h3 : gp ≠ b1) (h4 : gp ≠ b2) : Mt w1 g gp n c X := by
  obtain ⟨cur, hk, hc⟩ := h.p
  exact ⟨(hf.2.2 g h.m.lt h1 h2).trans h.m, ⟨cur, (hf.2.2 gp hk.lt h3 h4).trans hk, hc⟩, h.len, h.n256⟩
theorem Mt.plt {w : World} {g gp n c : Nat} {X : List Int} (h : Mt w g gp n c X) : gp < w.heap.size := by
  obtain ⟨cur, hk, hc⟩ := h.p
  exact hk.lt
theorem Mt.of {w : World} {g gp n : Nat} {X : List Int} (h : Mm w g gp n X) : Mt w g gp n n X := ⟨h.m, ⟨_, h.p, fun i hi => pg_get X i hi⟩, h.len, h.n256⟩
theorem Mt.range {w : World} {g gp n c : Nat} {X : List Int} (h : Mt w g gp n c X) (f : Nat) (hf : f < n) : w.rangeAt gp (f * 16) (nums .u32 (pgAt X f)) := by
  obtain ⟨cur, hk, hc⟩ := h.p
  refine hk.rangeL _ _ (fun j v hv => ?_)
  have hl := pgAt_len X n f h.len hf
  have hj : j < 16 := by
    rcases Nat.lt_or_ge j 16 with h1 | h1
    · exact h1
    · rw [List.getElem?_eq_none (by rw [nums_length, hl]; exact h1)] at hv; cases hv
  rw [hc (f * 16 + j) (by rw [h.len]; omega), ← pgAt_get X f j hj]
  unfold nums at hv
  rw [List.getElem?_map, List.getElem?_eq_getElem (by omega)] at hv
  rw [List.getElem?_eq_getElem (by omega)]
  exact hv

set_option maxRecDepth 100000 in
theorem tlen_c (g gp n c : Nat) (X : List Int) (w : World) (h : Mt w g gp n c X) :
    Calls Try.prog 29 #[.pointer (some ⟨g, 0, none⟩)] w fun r w' => r = .returned (.int .i64 n) ∧ w = w' := by
  have c := h.m.cellv 0 _ rfl
  clear h
  go_enter Try.func29, Try.ntmps29
  go_wp2
  go_ret
  exact ⟨rfl, rfl⟩
set_option maxRecDepth 100000 in
theorem tin_c (g gp n c f : Nat) (X : List Int) (w : World) (h : Mt w g gp n c X) (hf : f < n) :
    Calls Try.prog 58 #[.pointer (some ⟨g, 0, none⟩), .int .i64 f] w fun r w' => r = .returned (.bool true) ∧ w = w' := by
  have hL := Lib.hid (tlen_c g gp n c X w h)
  clear h
  have q0 : decide (0 ≤ (f : Int)) = true := by simp
  have q1 : decide ((f : Int) < (n : Int)) = true := by simp; omega
  go_enter Try.func58, Try.ntmps58
  go_wp2_with fail
  refine (hL.out).mono ?_
  rintro r w1 ⟨rfl, rfl⟩
  go_wp2
  go_ret
  exact ⟨rfl, rfl⟩
set_option maxRecDepth 100000 in
theorem tget_c (g gp n c f at_ : Nat) (X : List Int) (w : World) (h : Mt w g gp n c X) (hf : f < n) (ha : at_ < 16) :
    Calls Try.prog 23 #[.pointer (some ⟨g, 0, none⟩), .int .i64 f, .int .i64 at_] w fun r w' => r = .returned (.tuple #[.int .u32 (X[f * 16 + at_]?.getD 0), .bool true]) ∧ w = w' := by
  have hI := Lib.hid (tin_c g gp n c f X w h hf)
  have cm := h.m.cellv 0 _ rfl
  obtain ⟨cur, hk, hc⟩ := h.p
  have c1 := hk.cellv (f * 16 + at_) _ (hc (f * 16 + at_) (by rw [h.len]; omega))
  have n256 := h.n256
  clear h hk hc
  have q1 : decide ((at_ : Int) < 0) = false := by simp
  have q2 : decide (16 ≤ (at_ : Int)) = false := by simp; omega
  have q3 : (f : Int) < (n : Int) := by omega
  have q4 : (at_ : Int) < 16 := by omega
  go_enter Try.func23, Try.ntmps23
  go_wp2_with fail
  refine (hI.out).mono ?_
  rintro r w1 ⟨rfl, rfl⟩
  go_wp2
  go_ret2
  exact ⟨rfl, rfl⟩
set_option maxRecDepth 100000 in
set_option maxHeartbeats 2000000 in
theorem tpage_c (g gp n c f : Nat) (X : List Int) (w : World) (h : Mt w g gp n c X) (hf : f < n) :
    Calls Try.prog 24 #[.pointer (some ⟨g, 0, none⟩), .int .i64 f] w fun r w' => r = .returned (.tuple #[.agg (pg (pgAt X f)), .bool true]) ∧ Below w.heap.size w w' := by
  have hI := Lib.hid (fun w' h' => tin_c g gp n c f X w' h' hf)
  have hh := Lib.hid h
  have hpl := Lib.hid (pgAt_len X n f h.len hf)
  have q3 : (f : Int) < (n : Int) := by omega
  have n256 := h.n256
  clear h
  go_enter Try.func24, Try.ntmps24
  go_wp2_with (first
    | ((with_reducible refine wl_alloc rfl 40 rfl (pg z16) new_p ?_); intro w1 k1 b1 s1))
  have h1 := Lib.hid (hh.out.below b1)
  refine (hI.out w1 h1.out).mono ?_
  rintro r w2 ⟨rfl, rfl⟩
  have c := h1.out.m.cellv 0 _ rfl
  obtain ⟨cur, hk, hc⟩ := h1.out.p
  have hrg := Lib.hid (h1.out.range f hf)
  have hpart : Hid (∀ j v, (nums .u32 (pgAt X f))[j]? = some v → cur[f * 16 + j]? = some v) := Lib.hid (fun j v hv => (hk.cell _).symm.trans (hrg.out j v hv))
  clear hc
  go_wp2_with (first
    | (refine wl_load_mid (by rfl) 40 _ (by rfl) gp (f * 16) (by rfl) 40 cur (nums .u32 (pgAt X f)) _ hk hpart.out Try.underlying40 rfl (size_pgl _ (by rw [nums_length]; exact hpl.out)) ?_)
    | ((refine wl_store (by rfl) 40 _ _ (by rfl) w.heap.size (by rfl) (pg (pgAt X f)) (by rfl) 40 (pg z16) k1 (size_pg _ hpl.out) (by rw [pg_size, pg_size, hpl.out]; rfl) (pg_one _) ?_); intro w3 k3 g3 s3))
  refine bodyPost_ret (res_cell_tmp rfl _ _ _ w.heap.size 40 (pg (pgAt X f)) _ rfl k3 Try.underlying40 rfl (size_pg _ hpl.out)) rfl ⟨rfl, ?_⟩
  exact below_grown b1 b1.size g3 (Nat.le_refl _)
set_option maxRecDepth 100000 in
set_option maxHeartbeats 8000000 in
theorem tsame_c (g gp b N n c d : Nat) (X : List Int) (w : World) (hx : Mt w g gp n d X) (hy : Rf w b X) (hl : X.length = N) (hN : N = n * 16) (hn : n ≤ 256) :
    Calls Try.prog 19 #[.pointer (some ⟨g, 0, none⟩), .slice (some ⟨b, 0, none⟩) N c] w fun r w' => r = .returned (.bool true) ∧ Below w.heap.size w w' := by
  have hxh := Lib.hid hx
  have hyh := Lib.hid hy
  have hL := Lib.hid (fun w' h' => tlen_c g gp n d X w' h')
  have hlh := Lib.hid hl
  have hNh := Lib.hid hN
  have qd : (N : Int) / 16 = n := by omega
  have hNb : N ≤ 4096 := by omega
  clear hx hy hl hN
  go_enter Try.func19, Try.ntmps19
  go_wp2_with fail
  refine (hL.out _ hxh.out).mono ?_
  rintro r w1 ⟨rfl, rfl⟩
  go_wp2_with fail
  go_loopw [5] (fun i wr => ∃ (k : Nat), k ≤ n ∧ i = .int .i64 k ∧ Below w.heap.size w wr) (fun i _ => n - (intOf i).toNat)
  case atStart => exact ⟨0, by omega, rfl, bl_refl w⟩
  case round =>
    obtain ⟨k, hk, rfl, HB⟩ := hrel
    obtain ⟨w2, rfl⟩ : ∃ w2 : World, w2 = wr := ⟨_, rfl⟩
    have hx2 := Lib.hid (hxh.out.below HB)
    by_cases hlt : k < n
    · have hq : decide ((k : Int) < (n : Int)) = true := by simp; omega
      have hP := Lib.hid (tpage_c g gp n d k X w2 hx2.out hlt)
      have hpl := Lib.hid (pgAt_len X n k (by rw [hlh.out]; exact hNh.out) hlt)
      have hpg := Lib.hid (pgAt_get X k)
      have hkn := Lib.hid (show k * 16 + 16 ≤ N by have := hNh.out; omega)
      have m1 : IntKind.i64.wrap (16 * (k : Int)) = (k * 16 : Nat) := by rw [show 16 * (k : Int) = (k * 16 : Nat) by omega]; exact wrap_id _ (by omega) (by omega)
      obtain ⟨o, ho⟩ : ∃ o, k * 16 = o := ⟨_, rfl⟩
      rw [ho] at m1 hpg hkn
      clear ho
      obtain ⟨P, hPe⟩ : ∃ P, pgAt X k = P := ⟨_, rfl⟩
      have hGt := Lib.hid (fun j w' h' (hj : j < 16) => tget_c g gp n d k j X w' h' hlt hj)
      have hGv := Lib.hid (pgAt_get X k)
      rw [hPe] at hP hpl hpg hGv
      clear hPe
      go_wp2_with fail
      refine (hL.out _ hx2.out).mono ?_
      rintro r w3 ⟨rfl, rfl⟩
      go_wp2_with fail
      refine (hP.out).mono ?_
      rintro r w3 ⟨rfl, b3⟩
      go_wp2_with (first
        | ((with_reducible refine wl_alloc rfl 40 rfl (pg z16) new_p ?_); intro w4 k4 b4 s4)
        | ((refine wl_store (by rfl) 40 _ _ (by rfl) w3.heap.size (by rfl) (pg P) (by rfl) 40 (pg z16) k4 (size_pg _ hpl.out) (by rw [pg_size, pg_size, hpl.out]; rfl) (pg_one _) ?_); intro w5 k5 g5 s5))
      have B5 := below_grown (bl_then (bl_then HB b3) b4) (by have := HB.size; have := b3.size; have := b4.size; omega) g5 (by have := HB.size; have := b3.size; omega)
      have hpb : Hid (w.heap.size ≤ w3.heap.size) := Lib.hid (by have := HB.size; have := b3.size; omega)
      clear HB b3 b4 g5 k4 hx2
      go_loopw [8] (fun i wr => ∃ (j : Nat), j ≤ 16 ∧ i = .int .i64 j ∧ Blk wr w3.heap.size 40 (pg P) ∧ Below w.heap.size w wr) (fun i _ => 16 - (intOf i).toNat)
      case atStart => exact ⟨0, by omega, rfl, k5, B5⟩
      case round =>
        clear k5 B5
        obtain ⟨j, hj, rfl, HK, HB⟩ := hrel
        obtain ⟨w6, rfl⟩ : ∃ w6 : World, w6 = wr := ⟨_, rfl⟩
        by_cases hj16 : j < 16
        · have hq2 : decide ((j : Int) < 16) = true := by simp; omega
          have m2 : IntKind.i64.wrap ((o : Int) + (j : Int)) = (o + j : Nat) := by rw [show (o : Int) + (j : Int) = (o + j : Nat) by omega]; exact wrap_id _ (by omega) (by have := hkn.out; omega)
          have hG := Lib.hid (hGt.out j w6 (hxh.out.below HB) hj16)
          rw [← hGv.out j hj16] at hG
          have c1 := HK.cellv j _ (pg_get P j (by rw [hpl.out]; exact hj16))
          have c2 := (hyh.out.below HB).cell (o + j) (by rw [hlh.out]; have := hkn.out; omega)
          rw [← hpg.out j hj16] at c2
          have i1 : o + j < N := by have := hkn.out; omega
          obtain ⟨u, hu⟩ : ∃ u, o + j = u := ⟨_, rfl⟩
          rw [hu] at m2 c2 i1
          clear hu
          have i1' : (u : Int) < N := by omega
          have i2' : (j : Int) < 16 := by omega
          generalize P[j]?.getD 0 = y at *
          have HBh := Lib.hid HB
          have HKh := Lib.hid HK
          clear HB HK
          go_wp2_with fail
          refine (hG.out).mono ?_
          rintro r w7 ⟨rfl, rfl⟩
          go_wp2_with fail
          go_quiet (fail)
          go_wp2
          go_roundw
          case rel => exact ⟨j + 1, by omega, by go_num, Blk.drewN HKh.out _, bl_drewN HBh.out _⟩
          case measure => first | (simp [intOf]; done) | (simp [intOf]; omega)
        · have hq2 : decide ((j : Int) < 16) = false := by simp; omega
          go_wp2_with fail
          go_roundw
          case rel => exact ⟨k + 1, by omega, by go_num, HB⟩
          case measure => first | (simp [intOf]; done) | (simp [intOf]; omega)
    · have hq : decide ((k : Int) < (n : Int)) = false := by simp; omega
      go_wp2_with fail
      refine (hL.out _ hx2.out).mono ?_
      rintro r w3 ⟨rfl, rfl⟩
      go_wp2
      go_ret
      exact ⟨rfl, HB⟩

theorem info_page : (Try.prog.info? 40).map (fun i => (i.zero, i.size, i.bytes)) = some (some (.agg (pg z16)), 16, 64) := by kernel_rfl
set_option maxRecDepth 100000 in
set_option maxHeartbeats 2000000 in
theorem twin_c (g gp n : Nat) (X : List Int) (w : World) (h : Mm w g gp n X) (hn : 1 ≤ n) :
    Calls Try.prog 21 #[.pointer (some ⟨g, 0, none⟩)] w fun r w' => (∃ g2 gp2 c, r = .returned (.pointer (some ⟨g2, 0, none⟩)) ∧ w.heap.size ≤ g2 ∧ w.heap.size ≤ gp2 ∧ Mt w' g2 gp2 n c X) ∧ Below w.heap.size w w' := by
  have hh := Lib.hid h
  have c := h.m.cellv 0 _ rfl
  have hl := Lib.hid h.len
  have n256 := h.n256
  clear h
  go_enter Try.func21, Try.ntmps21
  go_wp2_with (at_builtin; refine app_own (w0 := w) w.heap.size 16 64 (.agg (pg z16)) rfl _ _ 122 40 rfl Try.underlying122 info_page rfl (by omega) (by omega) (.slice none 0 0) 0 [] rfl (own_nil _ _ _ _) ⟨gp, 0, none⟩ n n (pg X).toList rfl ?d4 ?d0 ?d5 ?d1 ?d2 ?d3 ?_)
  case d4 => rw [Array.length_toList, pg_size]; exact hl.out
  case d0 => exact row_news hh.out.p
  case d5 => exact fun v hv => pg_one X v (by simpa using hv)
  case d1 => omega
  case d2 => exact bl_refl w
  case d3 => omega
  intro A2 c2 w4 HO4 HB4 hs4 _
  clear c
  go_wp2_with (first
    | ((refine wl_box (by rfl) 124 _ (by rfl) (#[.slice A2 n c2]) (by rfl) ?_); intro w5 k5 b5 s5))
  go_ret
  obtain ⟨hl2, h2⟩ := HO4
  rcases h2 with ⟨_, h0⟩ | ⟨g2, cap, cur, hv, hb, hk, hc, _, hsz, ht⟩
  · omega
  · injection hv with e1 e2 e3
    subst e1 e3
    have HK : Blk w4 g2 40 cur := hk
    refine ⟨⟨w4.heap.size, g2, c2, rfl, by omega, hb, ⟨k5, ⟨cur, HK.below b5, fun i hi => ?_⟩, hl.out, n256⟩⟩, bl_then HB4 b5⟩
    have e : (cur.toList.take (n * 16))[i]? = (pg X).toList[i]? := by rw [ht]
    rw [List.getElem?_take, if_pos (by rw [← hl.out]; exact hi), Array.getElem?_toList, Array.getElem?_toList, pg_get X i hi] at e
    exact e
end Go.Proofs.Ytdokmnpkihmkpaa.Frames9
