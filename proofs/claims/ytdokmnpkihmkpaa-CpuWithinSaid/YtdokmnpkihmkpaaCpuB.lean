/- Contracts of package cpu in every way: a word's load and store. -/
import Derived.Test.YtdokmnpkihmkpaaCpuA
set_option linter.unusedVariables false
namespace Go.Proofs.Ytdokmnpkihmkpaa.CpuB
open Go.RowKit Go.Proofs.Ytdokmnpkihmkpaa.Base Go.Proofs.Ytdokmnpkihmkpaa.Row Go.Proofs.Ytdokmnpkihmkpaa.App Go.Proofs.Ytdokmnpkihmkpaa.Multi Go.Proofs.Ytdokmnpkihmkpaa.StEq Go.Proofs.Ytdokmnpkihmkpaa.Held Go.Proofs.Ytdokmnpkihmkpaa.Out Go.Proofs.Ytdokmnpkihmkpaa.HeldW Go.Proofs.Ytdokmnpkihmkpaa.HeldX Go.Proofs.Ytdokmnpkihmkpaa.Once Go.Proofs.Ytdokmnpkihmkpaa.Isa Go.Proofs.Ytdokmnpkihmkpaa.Isa2 Go.Proofs.Ytdokmnpkihmkpaa.Isa3 Go.Proofs.Ytdokmnpkihmkpaa.TlbMath Go.Proofs.Ytdokmnpkihmkpaa.Tlb Go.Proofs.Ytdokmnpkihmkpaa.Tlb3 Go.Proofs.Ytdokmnpkihmkpaa.Frames Go.Proofs.Ytdokmnpkihmkpaa.Frames2 Go.Proofs.Ytdokmnpkihmkpaa.Frames4 Go.Proofs.Ytdokmnpkihmkpaa.Cpu Go.Proofs.Ytdokmnpkihmkpaa.Cpu2 Go.Proofs.Ytdokmnpkihmkpaa.Cpu3 Go.Proofs.Ytdokmnpkihmkpaa.CpuA

/-- What a load tells. -/
def ldV (n : Nat) (X : List Int) (b : Bool) (e : En) (wr : Bool) (q : Int) : Int := if fOk b e wr = true then getX n X e.f q else 0
/-- The memory behind a store. -/
def stX (n : Nat) (X : List Int) (b : Bool) (e : En) (q v : Int) : List Int := if fOk b e true = true then putX n X e.f q v else X
set_option maxRecDepth 100000 in
set_option maxHeartbeats 2000000 in
theorem load_c (g x gm gp gt n : Nat) (d : Dn) (X : List Int) (l : List En) (m a : Int) (wr : Bool) (b : Bool) (e : En) (w : World) (HD : Blk w g 140 (dg x d)) (hR : d.R.length = 16) (C : CS w x gm gp gt n X l m) (hl : l.length ≤ 8) (h0 : 0 ≤ a) (h1 : a < 4294967296)
    (hb : getB l d.sp (a / 64) = b) (he : getE l d.sp (a / 64) = e) :
    Calls Try.prog 71 #[.pointer (some ⟨g, 0, none⟩), .int .u32 a, .bool wr] w fun r w' => r = .returned (.tuple #[.int .u32 (ldV n X b e wr (a % 64 / 4)), .bool (fOk b e wr)]) ∧ Blk w' g 140 (dg x (fD d (a / 64) b e wr)) ∧ CS w' x gm gp gt n X l (getM l d.sp (a / 64) m) ∧ Out w w' (fun i => i = g ∨ i = gt) := by
  have hF := find_c g x gm gt d l m a wr b e w HD hR C.t C.tlb hl h0 h1 hb he
  obtain ⟨d2, hd2⟩ : ∃ d2, d2 = fD d (a / 64) b e wr := ⟨_, rfl⟩
  obtain ⟨m2, hm2⟩ : ∃ m2, m2 = getM l d.sp (a / 64) m := ⟨_, rfl⟩
  rw [← hd2, ← hm2] at hF ⊢
  have hq1 : a.tmod 64 = a % 64 := Int.tmod_eq_emod_of_nonneg h0
  have hq2 : (a % 64).tdiv 4 = a % 64 / 4 := Int.tdiv_eq_ediv_of_nonneg (by omega)
  have hq4 : a % 64 / 4 % 4294967296 = a % 64 / 4 := by omega
  have hq5 : a % 64 % 4294967296 = a % 64 := by omega
  have e0 : (dg x d2)[0]? = some (.pointer (some ⟨x, 0, none⟩)) := rfl
  have ng := C.ne_ HD
  have ne2 := C.nx
  have CH := Lib.hid C
  have hG := Lib.hid (fun w' h => fget_c gm gp n e.f (a % 64 / 4) X w' h)
  have hv : Hid (fOk b e wr = true → ldV n X b e wr (a % 64 / 4) = getX n X e.f (a % 64 / 4)) := Lib.hid (fun h => by unfold ldV; rw [if_pos h])
  have hv0 : Hid (fOk b e wr = false → ldV n X b e wr (a % 64 / 4) = 0) := Lib.hid (fun h => by unfold ldV; rw [if_neg (by rw [h]; simp)])
  have hf : Hid (fOk b e wr = true → fV b e wr = e.f) := Lib.hid (fun h => by unfold fV; rw [if_pos h])
  have hf0 : Hid (fOk b e wr = false → fV b e wr = 0) := Lib.hid (fun h => by unfold fV; rw [if_neg (by rw [h]; simp)])
  clear hd2 hm2 hb he C HD
  generalize ldV n X b e wr (a % 64 / 4) = V at *
  generalize fV b e wr = F at *
  generalize dg x d2 = D at *
  cases hok : fOk b e wr with
  | false =>
    rw [hok] at hF
    have hv1 := hv0.out hok
    have hf1 := hf0.out hok
    subst hv1 hf1
    replace hF := Lib.hid hF
    clear hv hv0 hf hf0 hok hG hq1 hq2 hq4 hq5
    go_enter Try.func71, Try.ntmps71
    go_wp2_with fail
    refine hF.out.mono ?_
    rintro r w2 ⟨rfl, HD2, HT, O⟩
    have C2 : CS w2 x gm gp gt n X l m2 := ⟨tb_out CH.out.t O (fun h => by rcases h with h | h; exact ng.1 h.symm; exact ne2.2.2.1 h), mm_out CH.out.mem O (fun h => by rcases h with h | h; exact ng.2.1 h.symm; exact ne2.2.2.2.1 h) (fun h => by rcases h with h | h; exact ng.2.2.1 h.symm; exact ne2.2.2.2.2 h), HT⟩
    clear hF CH
    go_wp2_with fail
    refine bodyPost_ret (results_tmp2 rfl _ _ _) rfl ⟨rfl, HD2, C2, O⟩
  | true =>
    rw [hok] at hF
    rw [hv.out hok]
    rw [hf.out hok] at hF
    replace hF := Lib.hid hF
    clear hv hv0 hf hf0 hok
    go_enter Try.func71, Try.ntmps71
    go_wp2_with fail
    refine hF.out.mono ?_
    rintro r w2 ⟨rfl, HD2, HT, O⟩
    have C2 : CS w2 x gm gp gt n X l m2 := ⟨tb_out CH.out.t O (fun h => by rcases h with h | h; exact ng.1 h.symm; exact ne2.2.2.1 h), mm_out CH.out.mem O (fun h => by rcases h with h | h; exact ng.2.1 h.symm; exact ne2.2.2.2.1 h) (fun h => by rcases h with h | h; exact ng.2.2.1 h.symm; exact ne2.2.2.2.2 h), HT⟩
    have c0 : w2.cell? ⟨g, 0, none⟩ = some (.pointer (some ⟨x, 0, none⟩)) := HD2.cellv 0 _ e0
    have c28 : w2.cell? ⟨x, 28, none⟩ = some (.pointer (some ⟨gm, 0, none⟩)) := tb_at C2.t 0 _ rfl
    have hGg := Lib.hid (hG.out w2 C2.mem)
    have C2' := Lib.hid C2
    have HDh := Lib.hid HD2
    clear hF HD2 C2 HT CH e0 hG
    go_wp2_with fail
    refine hGg.out.mono ?_
    rintro r w3 ⟨rfl, rfl⟩
    clear c0 c28
    go_wp2_with fail
    refine bodyPost_ret (results_tmp2 rfl _ _ _) rfl ⟨rfl, HDh.out, C2'.out, O⟩
set_option maxRecDepth 100000 in
set_option maxHeartbeats 2000000 in
theorem store_c (g x gm gp gt n : Nat) (d : Dn) (X : List Int) (l : List En) (m a v : Int) (b : Bool) (e : En) (w : World) (HD : Blk w g 140 (dg x d)) (hR : d.R.length = 16) (C : CS w x gm gp gt n X l m) (hl : l.length ≤ 8) (h0 : 0 ≤ a) (h1 : a < 4294967296)
    (hb : getB l d.sp (a / 64) = b) (he : getE l d.sp (a / 64) = e) (hok : fOk b e true = true) :
    Calls Try.prog 84 #[.pointer (some ⟨g, 0, none⟩), .int .u32 a, .int .u32 v] w fun r w' => r = .returned (.tuple #[]) ∧ Blk w' g 140 (dg x d) ∧ CS w' x gm gp gt n (putX n X e.f (a % 64 / 4) v) l (getM l d.sp (a / 64) m) ∧ Out w w' (fun i => i = g ∨ i = gt ∨ i = gp) := by
  have hF := find_c g x gm gt d l m a true b e w HD hR C.t C.tlb hl h0 h1 hb he
  have hfd : fD d (a / 64) b e true = d := by
    unfold fOk at hok
    unfold fD
    cases b with
    | false => cases hok
    | true => cases hw : e.w with
      | false => rw [hw] at hok; cases hok
      | true => rw [if_neg (by simp), if_neg (by simp)]
  rw [hfd] at hF
  obtain ⟨m2, hm2⟩ : ∃ m2, m2 = getM l d.sp (a / 64) m := ⟨_, rfl⟩
  rw [← hm2] at hF ⊢
  rw [show fV b e true = e.f by unfold fV; rw [if_pos hok], hok] at hF
  replace hF := Lib.hid hF
  have hq1 : a.tmod 64 = a % 64 := Int.tmod_eq_emod_of_nonneg h0
  have hq2 : (a % 64).tdiv 4 = a % 64 / 4 := Int.tdiv_eq_ediv_of_nonneg (by omega)
  have hq4 : a % 64 / 4 % 4294967296 = a % 64 / 4 := by omega
  have hq5 : a % 64 % 4294967296 = a % 64 := by omega
  have hG := Lib.hid (fun w' h => put_c gm gp n e.f (a % 64 / 4) v X w' h)
  have e0 : (dg x d)[0]? = some (.pointer (some ⟨x, 0, none⟩)) := rfl
  have ng := C.ne_ HD
  have ne2 := C.nx
  have CH := Lib.hid C
  clear hm2 hb he C HD hok hfd
  generalize dg x d = D at *
  go_enter Try.func84, Try.ntmps84
  go_wp2_with fail
  refine hF.out.mono ?_
  rintro r w2 ⟨rfl, HD2, HT, O⟩
  have C2 : CS w2 x gm gp gt n X l m2 := ⟨tb_out CH.out.t O (fun h => by rcases h with h | h; exact ng.1 h.symm; exact ne2.2.2.1 h), mm_out CH.out.mem O (fun h => by rcases h with h | h; exact ng.2.1 h.symm; exact ne2.2.2.2.1 h) (fun h => by rcases h with h | h; exact ng.2.2.1 h.symm; exact ne2.2.2.2.2 h), HT⟩
  have c0 : w2.cell? ⟨g, 0, none⟩ = some (.pointer (some ⟨x, 0, none⟩)) := HD2.cellv 0 _ e0
  have c28 : w2.cell? ⟨x, 28, none⟩ = some (.pointer (some ⟨gm, 0, none⟩)) := tb_at C2.t 0 _ rfl
  have hGg := Lib.hid (hG.out w2 C2.mem)
  have C2' := Lib.hid C2
  have HDh := Lib.hid HD2
  clear hF HD2 C2 HT CH e0 hG
  go_wp2_with fail
  refine hGg.out.mono ?_
  rintro r w3 ⟨rfl, HM, G3⟩
  have O3 := Out.of_grown G3 (S := fun i => i = gp) (fun k e => by injection e with e; exact e.symm)
  have C3 : CS w3 x gm gp gt n (putX n X e.f (a % 64 / 4) v) l m2 := ⟨tb_out C2'.out.t O3 ne2.2.1, HM, Out.Blk.out C2'.out.tlb O3 ne2.2.2.2.2.symm⟩
  have HD3 := Out.Blk.out HDh.out O3 (fun h => ng.2.2.1 h)
  have OO := (O.mono (S2 := fun i => i = g ∨ i = gt ∨ i = gp) (fun i h => by rcases h with h | h; exact .inl h; exact .inr (.inl h))).trans O3 (fun i h => .inl (.inr (.inr h)))
  clear c0 c28 C2' HM G3 O3 HDh
  go_wp2_with fail
  go_end0
  exact ⟨rfl, HD3, C3, OO⟩
end Go.Proofs.Ytdokmnpkihmkpaa.CpuB
