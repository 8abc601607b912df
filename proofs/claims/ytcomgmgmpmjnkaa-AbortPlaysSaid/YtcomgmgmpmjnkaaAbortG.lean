/- Contracts of slices.DeleteFunc with the closure of Gone, and of Gone. -/
import Derived.Test.YtcomgmgmpmjnkaaAbortF
import Derived.Test.YtcomgmgmpmjnkaaOut
set_option linter.unusedVariables false
namespace Go.Proofs.Ytcomgmgmpmjnkaa.AbortG
open Go.RowKit Go.Proofs.Ytcomgmgmpmjnkaa.Base Go.Proofs.Ytcomgmgmpmjnkaa.Row Go.Proofs.Ytcomgmgmpmjnkaa.App Go.Proofs.Ytcomgmgmpmjnkaa.Multi Go.Proofs.Ytcomgmgmpmjnkaa.Out Go.Proofs.Ytcomgmgmpmjnkaa.Del Go.Proofs.Ytcomgmgmpmjnkaa.AbortMath Go.Proofs.Ytcomgmgmpmjnkaa.Abort Go.Proofs.Ytcomgmgmpmjnkaa.Abort2 Go.Proofs.Ytcomgmgmpmjnkaa.Abort3 Go.Proofs.Ytcomgmgmpmjnkaa.Abort4 Go.Proofs.Ytcomgmgmpmjnkaa.Abort6 Go.Proofs.Ytcomgmgmpmjnkaa.Abort9 Go.Proofs.Ytcomgmgmpmjnkaa.AbortB Go.Proofs.Ytcomgmgmpmjnkaa.AbortE Go.Proofs.Ytcomgmgmpmjnkaa.AbortF

/-- What is left when an environment's wants are gone. -/
def gone (l : List Wt) (e : Int) : List Wt := l.filter (fun x => !(x.e == e))
theorem gone_succ {l : List Wt} {e : Int} {i : Nat} {x : Wt} (hx : l[i]? = some x) : gone (l.take (i + 1)) e = gone (l.take i) e ++ (if (x.e == e) = true then [] else [x]) := by
  obtain ⟨hi, rfl⟩ := List.getElem?_eq_some_iff.1 hx
  unfold gone
  rw [List.take_succ_eq_append_getElem hi, List.filter_append]
  cases h : (l[i].e == e) <;> simp [h]
theorem gone_le (l : List Wt) (e : Int) (i : Nat) : (gone (l.take i) e).length ≤ i := by
  unfold gone
  exact Nat.le_trans (List.length_filter_le _ _) (by rw [List.length_take]; omega)
theorem gone_none {l : List Wt} {e : Int} (h : gat l e = l.length) : gone l e = l := by
  unfold gone
  rw [List.filter_eq_self]
  intro x hx
  obtain ⟨j, hj, rfl⟩ := List.mem_iff_getElem.1 hx
  rw [gat_no j l[j] (by omega) (List.getElem?_eq_getElem hj)]; rfl
theorem gone_first {l : List Wt} {e : Int} : gone (l.take (gat l e)) e = l.take (gat l e) := by
  unfold gone
  rw [List.filter_eq_self]
  intro x hx
  obtain ⟨j, hj, rfl⟩ := List.mem_iff_getElem.1 hx
  rw [List.length_take] at hj
  rw [List.getElem_take, gat_no j l[j] (by omega) (List.getElem?_eq_getElem (by omega))]; rfl
theorem gone_first1 {l : List Wt} {e : Int} (h : gat l e < l.length) : gone (l.take (gat l e + 1)) e = l.take (gat l e) := by
  have hx := List.getElem?_eq_getElem h
  rw [gone_succ hx, if_pos (gat_yes _ hx), List.append_nil, gone_first]

def DFPost (B : Nat) (l : List Wt) (w w' : World) (r : Ending) : Prop := (∃ A1 c1, r = .returned (.slice A1 l.length c1) ∧ w'.ownsRow B 73 4 (.slice A1 l.length c1) l.length (l.flatMap wv)) ∧ Below B w w'
theorem df_here {B : Nat} {l l2 : List Wt} {w w' : World} {A : Option Addr} {m c : Nat} (h : l2 = l) (hm : m = l2.length) (HO : w'.ownsRow B 73 4 (.slice A m c) m (l2.flatMap wv)) (hb : Below B w w') : DFPost B l w w' (.returned (.slice A m c)) := by
  subst h
  subst hm
  exact ⟨⟨A, c, rfl, HO⟩, hb⟩
theorem set_take {L : List Wt} {a : Nat} {x : Wt} (h : a < L.length) : (L.set a x).take (a + 1) = L.take a ++ [x] := by
  rw [List.take_succ_eq_append_getElem (by rw [List.length_set]; exact h), List.take_set_of_le (Nat.le_refl _), List.getElem_set_self]
theorem set_drop {L : List Wt} {a b : Nat} {x : Wt} (h : a < b) : (L.set a x).drop b = L.drop b := by
  rw [List.drop_set_of_lt h]
theorem drop_step {L l : List Wt} {b : Nat} (h : L.drop b = l.drop b) : L.drop (b + 1) = l.drop (b + 1) := by
  rw [← List.drop_drop, ← List.drop_drop, h]
theorem drop_get {L l : List Wt} {b : Nat} (h : L.drop b = l.drop b) : L[b]? = l[b]? := by
  have := congrArg (fun z => z[0]?) h
  simpa [List.getElem?_drop] using this
set_option maxRecDepth 100000 in
set_option maxHeartbeats 2000000 in
theorem delf_c (B : Nat) (A : Option Addr) (n c : Nat) (l : List Wt) (e : Int) (b1 : Nat) (w : World) (HO : w.ownsRow B 73 4 (.slice A n c) n (l.flatMap wv)) (hn : n ≤ 64) (hB : B ≤ w.heap.size) (hb1 : b1 < B) (h1 : w.cell? ⟨b1, 0, none⟩ = some (.int .i64 e)) :
    Calls Try.prog 68 #[.slice A n c, .func (.func 69) #[] #[.pointer (some ⟨b1, 0, none⟩)]] w fun r w' => DFPost B (gone l e) w w' r := by
  have hr := RF.of_own wv_len (by decide) HO
  have hll := hr.len
  have hle := gat_le l e
  have hI := indexg_c A n c l e b1 w hr h1
  rcases Nat.lt_or_ge (gat l e) n with hg | hg
  · have hF := Lib.hid (gone_first1 (l := l) (e := e) (by omega))
    rw [wI_is hg] at hI
    have hI := Lib.hid hI
    have hCl := Lib.hid (fun x w' (hb : Below B w w') => gone1_c x e b1 w' ((hb.cell (p := ⟨b1, 0, none⟩) hb1).trans h1))
    generalize gat l e = i0 at *
    cases A with
    | none => exact absurd (own_no HO) (by omega)
    | some ad =>
    obtain ⟨g, rfl⟩ := own_at0 HO
    have q1 : ((i0 : Int) == -1) = false := by first | (simp; done) | (simp; omega)
    have hlen := Lib.hid hll
    have hHO := Lib.hid HO
    clear hr h1 hll HO hle
    go_enter Try.func68, Try.ntmps68
    go_wp2_with fail
    refine hI.out.mono ?_
    rintro r w1 ⟨rfl, b1'⟩
    have HO1 := own_below hHO.out b1'
    have B1 : Below B w w1 := b1'.mono hB
    clear hI hHO b1'
    go_wp2_with fail
    go_loopw [5, 6] (fun i j wr => ∃ (a b : Nat) (L : List Wt), i = .int .i64 a ∧ j = .int .i64 b ∧ a < b ∧ b ≤ n ∧ L.length = n ∧ a = (gone (l.take b) e).length ∧ L.take a = gone (l.take b) e ∧ L.drop b = l.drop b ∧ wr.ownsRow B 73 4 (.slice (some ⟨g, 0, none⟩) n c) n (L.flatMap wv) ∧ Below B w wr) (fun _ j _ => n - (intOf j).toNat)
    case atStart => exact ⟨i0, i0 + 1, l, rfl, by go_num, by omega, by omega, hlen.out, by rw [hF.out, List.length_take, hlen.out, Nat.min_eq_left (by omega)], by rw [hF.out], rfl, HO1, B1⟩
    case round =>
      clear HO1 B1 hF q1 hg
      obtain ⟨a, b, L, rfl, rfl, hab, hbn, hL, ha, hT, hD, HO, HB⟩ := hrel
      obtain ⟨wo, rfl⟩ : ∃ wo : World, wo = wr := ⟨_, rfl⟩
      obtain ⟨g', cur, hg', hBg, hk, hcs, hnc, hget⟩ := own_blk wv_len HO (by omega)
      injection hg' with hg'
      injection hg' with hg'
      subst hg'
      have hL' := Lib.hid hL
      have ha' := Lib.hid ha
      have hT' := Lib.hid hT
      have hD' := Lib.hid hD
      have hcs' := Lib.hid hcs
      clear hL ha hT hD hcs
      by_cases hlt : b < n
      · have hq : decide ((b : Int) < (n : Int)) = true := by simp; omega
        have hx : l[b]? = some (l[b]'(by have := hlen.out; omega)) := List.getElem?_eq_getElem _
        have hxL := (drop_get hD'.out).trans hx
        generalize l[b]'(by have := hlen.out; omega) = x at *
        have d0 := hk.cellv (b * 4) _ (hget b x hxL 0 _ rfl)
        have d1 := hk.cellv (b * 4 + 1) _ (hget b x hxL 1 _ rfl)
        have d2 := hk.cellv (b * 4 + 2) _ (hget b x hxL 2 _ rfl)
        have d3 := hk.cellv (b * 4 + 3) _ (hget b x hxL 3 _ rfl)
        have hgs := Lib.hid (gone_succ (e := e) hx)
        have hal : a < n := by omega
        have hget' := Lib.hid hget
        clear hx hxL hget
        have K7 : Blk (wo.alloc (.cells (wa x) 73)) wo.heap.size 73 (wa x) := Blk.new wo _ _
        have B7 := bl_alloc' HB hB (.cells (wa x) 73)
        have z7 := HB.size
        have hC := Lib.hid (hCl.out x _ B7)
        have hHO := Lib.hid HO
        have hHB := Lib.hid HB
        have hhk := hk.alloc (.cells (wa x) 73)
        clear HO HB
        obtain ⟨xe, xk, xn, xl⟩ := x
        simp only [wa] at d0 d1 d2 d3 hC K7 B7 hhk hgs
        cases hh : (xe == e) with
        | true =>
          rw [hh] at hC
          rw [hh, if_pos rfl, List.append_nil] at hgs
          clear hh
          go_wp2_with fail
          refine (hC.out).mono ?_
          rintro r w2 ⟨rfl, b2⟩
          have B2 : Below B w w2 := bl_thenB B7 (by have := B7.size; omega) b2
          have HO2 := own_below (hHO.out.alloc _) b2
          clear d0 d1 d2 d3
          go_wp2_with fail
          go_roundw
          case rel => exact ⟨a, b + 1, L, rfl, by go_num, by omega, by omega, hL'.out, by rw [hgs.out]; exact ha'.out, by rw [hgs.out]; exact hT'.out, drop_step hD'.out, HO2, B2⟩
          case measure => first | (simp [intOf]; done) | (simp [intOf]; omega)
        | false =>
          rw [hh] at hC
          rw [hh, if_neg (by decide)] at hgs
          clear hh
          go_wp2_with fail
          refine (hC.out).mono ?_
          rintro r w2 ⟨rfl, b2⟩
          have B2 : Below B w w2 := bl_thenB B7 (by have := B7.size; omega) b2
          have HO2 := own_below (hHO.out.alloc _) b2
          have K2 := K7.below b2
          have H2 := hhk.below b2
          have zB2 : B ≤ w2.heap.size := Nat.le_trans hB B2.size
          clear d0 d1 d2 d3 hhk K7
          go_wp2_with (first
            | (refine wl_load rfl 73 _ rfl wo.heap.size rfl 73 (wa ⟨xe, xk, xn, xl⟩) _ K2 Try.underlying73 rfl (by kernel_rfl) ?_)
            | (refine wl_store_mid rfl 73 _ _ rfl g (a * 4) rfl (wa ⟨xe, xk, xn, xl⟩) rfl 73 cur H2 (by kernel_rfl) ?hold (wa_one _) ?_))
          case hold => have h1 := hcs'.out; have h2 : (wa ⟨xe, xk, xn, xl⟩).size = 4 := rfl; omega
          intro w3 K3 G3 z3
          have HO3 := own_put wv_len (by decide) HO2 a (by omega) ⟨xe, xk, xn, xl⟩ rfl H2 K3
          have B3 := below_grown B2 zB2 G3 hBg
          go_wp2_with fail
          go_roundw
          case rel => exact ⟨a + 1, b + 1, L.set a ⟨xe, xk, xn, xl⟩, by go_num, by go_num, by omega, by omega, by rw [List.length_set]; exact hL'.out, by rw [hgs.out, List.length_append, ← ha'.out]; rfl, by rw [hgs.out, set_take (by rw [hL'.out]; exact hal), hT'.out], by rw [set_drop (by omega)]; exact drop_step hD'.out, HO3, B3⟩
          case measure => first | (simp [intOf]; done) | (simp [intOf]; omega)
      · obtain rfl : b = n := by omega
        have hq : decide ((b : Int) < (b : Int)) = false := by simp
        have hfin := Lib.hid (show l.take b = l from List.take_of_length_le (by rw [hlen.out]; omega))
        rw [hfin.out] at ha' hT'
        obtain ⟨zs, hzs⟩ : ∃ zs, zs = (Builtin.zeroCells (wa ⟨0, 0, 0, 0⟩) (b - a)).toList := ⟨_, rfl⟩
        have hzl : zs.length = (b - a) * 4 := by rw [hzs, zero_len]; rfl
        have hcl : ∀ ty, (Builtin.clear_ #[65] ty #[.slice (some ⟨g, a * 4, none⟩) (b - a) (c - a)]).run Try.prog wo = .ok (.tuple #[]) (wo.setCells g (a * 4) zs) := fun ty => by
          have hz : (b - a) * (Value.agg (wa ⟨0, 0, 0, 0⟩)).cells.size = (b - a) * 4 := by rw [zcells]; rfl
          rw [hzs]
          refine run_clear_mul wo _ _ ty (.agg (wa ⟨0, 0, 0, 0⟩)) Try.underlying65 want_zero g (a * 4) (b - a) (c - a) (by omega) (by rw [zcells]; exact zone _) ?_ (fun t _ => hk.frozen _)
          intro t ht
          rw [hz] at ht
          have hx : a * 4 + t < cur.size := by rw [hcs'.out]; omega
          rw [hk.cellv _ _ (Array.getElem?_eq_getElem hx)]
          rfl
        have hF : Blk (wo.setCells g (a * 4) zs) g 73 (lay cur (a * 4) zs) := Blk.setCells zs (a * 4) hk
        obtain ⟨cur', hk', _, _, hcm, hs', ht'⟩ := own_parts HO
        have hcc : cur' = cur := by
          unfold Blk at hk hk'
          rw [hk] at hk'
          injection hk' with h1
          injection h1 with h1
          exact h1.symm
        subst hcc
        have hT2 : (lay cur' (a * 4) zs).toList.take (a * 4) = (gone l e).flatMap wv := by
          rw [take_lay_lo (by rw [hzl, hs']; omega) (Nat.le_refl _), ← hT'.out, ← flat_take L a (by rw [hL'.out]; omega), ← ht', List.take_take, Nat.min_eq_left (by omega)]
        have hEnd := Lib.hid (own_made (w := wo.setCells g (a * 4) zs) hF hBg (show a ≤ c by omega) hcm (by rw [lay_size]; exact hs') hT2 (by rw [flat_len wv_len, ← ha'.out]))
        have hEB := Lib.hid (below_grown HB (Nat.le_trans hB HB.size) (grownBy_setCells g zs (a * 4) wo) hBg)
        have hac : ¬ c = a := by omega
        have ha2 := Lib.hid ha'.out
        have hac' : a ≤ c := by omega
        have han' : a ≤ b := by omega
        have h0 : ¬ b - a = 0 := by omega
        clear hzl hzs hF hT2 ht' hs' hk' hk hget HO HB ha' hT' hfin
        go_wp2_with fail
        go_ret
        exact df_here rfl ha2.out hEnd.out hEB.out
  · have hgn : gat l e = l.length := by omega
    have hgl := Lib.hid (gone_none hgn)
    have h2 : ¬ gat l e < n := by omega
    have h3 : wI n (gat l e) = -1 := by simp [wI, h2]
    rw [h3] at hI
    have hI := Lib.hid hI
    have hHO := Lib.hid HO
    have hlen := Lib.hid hll
    clear hr h1 hll HO hle hg hgn h2 h3
    go_enter Try.func68, Try.ntmps68
    go_wp2_with fail
    refine hI.out.mono ?_
    rintro r w1 ⟨rfl, b1'⟩
    have HO1 := own_below hHO.out b1'
    have B1 : Below B w w1 := b1'.mono hB
    clear hI hHO b1'
    go_wp2_with fail
    go_ret
    rw [hgl.out]
    exact df_here rfl hlen.out.symm HO1 B1
end Go.Proofs.Ytcomgmgmpmjnkaa.AbortG
