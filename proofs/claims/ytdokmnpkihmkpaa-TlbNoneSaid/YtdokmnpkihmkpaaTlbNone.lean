/- TlbNone: with a nil TLB the law's text returns true, at every entry. -/
import Derived.Test.YtdokmnpkihmkpaaTlb5
import Derived.Test.YtdokmnpkihmkpaaFlat
import Derived.Lib.SmallJoins
import Derived.ChangeArms
import Derived.Laws.StructEq
import Derived.Deep.RegionHeld3
set_option linter.unusedVariables false
namespace Go.Proofs.Ytdokmnpkihmkpaa.TlbNone
open Go.RowKit Go.Proofs.Ytdokmnpkihmkpaa.Base Go.Proofs.Ytdokmnpkihmkpaa.Row Go.Proofs.Ytdokmnpkihmkpaa.App Go.Proofs.Ytdokmnpkihmkpaa.Multi Go.Proofs.Ytdokmnpkihmkpaa.TlbMath Go.Proofs.Ytdokmnpkihmkpaa.Tlb Go.Proofs.Ytdokmnpkihmkpaa.Tlb2 Go.Proofs.Ytdokmnpkihmkpaa.Tlb3 Go.Proofs.Ytdokmnpkihmkpaa.Tlb4 Go.Proofs.Ytdokmnpkihmkpaa.Tlb5
open Go.Joins Go.ChangeShapes Go.WideShapes

/-- What the argument is. -/
def Arg (i : Nat) (w : World) (v : Value) : Prop := ∃ x : En, v = .agg (ea x)
set_option maxRecDepth 100000 in
theorem arg0 {H : Type} {enc : TypeId × Value → H} {W : World} {base : Nat} {v : Value} {d : DataW H} {p : List MemPlace} (hv : Value.okWide Try.prog W .any base 58 v)
    (h : DataW.Trod enc Try.prog W 0 (fun _ => true) true 58 v d p) : Arg 0 W v := by
  obtain ⟨v0, v1, v2, v3, y0, y1, y2, y3, n, rfl, _, _, h0, h1, h2, h3⟩ := open_agg4 Try.underlying58 (by kernel_rfl) (by kernel_rfl) hv h
  obtain ⟨a, ha, _, _⟩ := DataW.trod_int Try.underlying3 h0
  obtain ⟨b, hb, _, _⟩ := DataW.trod_int Try.underlying3 h1
  obtain ⟨c, hc, _, _⟩ := DataW.trod_int Try.underlying3 h2
  obtain ⟨x, hx, _⟩ := DataW.trod_bool Try.underlying4 h3
  injection ha with ha
  injection hb with hb
  injection hc with hc
  injection hx with hx
  subst ha hb hc hx
  exact ⟨⟨a, b, c, x⟩, rfl⟩

set_option maxRecDepth 100000 in
set_option maxHeartbeats 4000000 in
theorem walk (v0 : Value) (w : World) (h0 : Arg 0 w v0) :
    Calls Try.prog 8 #[v0] w fun e w' => e = .returned (.bool true) ∧ Below w.heap.size w w' := by
  obtain ⟨x, rfl⟩ := h0
  go_enter Try.func8, Try.ntmps8
  go_wp2_with (first
    | ((with_reducible refine wl_box rfl 58 _ rfl (ea x) rfl ?_); intro w1 k1 b1 s1; have f0 := k1.cellv 0 (.int .i64 x.s) rfl; have f1 := k1.cellv 1 (.int .i64 x.p) rfl; have f2 := k1.cellv 2 (.int .i64 x.f) rfl)
    | (with_reducible refine wl_load rfl 58 _ rfl w.heap.size rfl 58 (ea x) _ k1 Try.underlying58 rfl (by kernel_rfl) ?_))
  refine (entry_c x w1).mono ?_
  rintro r w2 ⟨rfl, b2⟩
  go_wp2_with fail
  refine (put_nil x w2).mono ?_
  rintro r w3 ⟨rfl, b3⟩
  have K3 := (k1.below b2).below b3
  have B3 := bl_then (bl_then b1 b2) b3
  have f0 := K3.cellv 0 (.int .i64 x.s) rfl
  have f1 := K3.cellv 1 (.int .i64 x.p) rfl
  clear k1 b1 b2 b3
  go_wp2_with fail
  refine (get_nil x.s x.p w3).mono ?_
  rintro r w4 ⟨rfl, b4⟩
  have K4 := K3.below b4
  have B4 := bl_then B3 b4
  have z4 := B4.size
  have zl := K4.lt
  clear f0 f1 K3 B3 b4
  go_wp2_with (first
    | ((with_reducible refine wl_alloc rfl 52 rfl (ea ez) new_e ?_); intro w5 k5 b5 s5)
    | ((refine wl_store rfl 52 _ _ rfl w4.heap.size rfl (ea ez) rfl 52 (ea ez) k5 (size_ea _) rfl (ea_one _) ?_); intro w6 k6 g6 s6))
  have K6 := (K4.below b5).grown g6 (fun e => by injection e with e; omega)
  have B6 := below_grown (bl_then B4 b5) (by have := b5.size; omega) g6 z4
  clear k5 K4 b5 B4 g6
  have HB := bl_drew B6
  have KD := K6.drew
  have KP := k6.drew
  have t1 := KD.cellv 0 (.int .i64 x.s) rfl
  have t2 := KD.cellv 1 (.int .i64 x.p) rfl
  have t3 := KD.cellv 2 (.int .i64 x.f) rfl
  have p0 := KP.cellv 0 (.int .i64 0) rfl
  have p1 := KP.cellv 1 (.int .i64 0) rfl
  have p2 := KP.cellv 2 (.int .i64 0) rfl
  have p3 := KP.cellv 3 (.bool false) rfl
  go_region_held3 (fun w' => w'.cell? ⟨w.heap.size, 0, none⟩ = some (.int .i64 x.s) ∧ w'.cell? ⟨w.heap.size, 1, none⟩ = some (.int .i64 x.p) ∧ w'.cell? ⟨w.heap.size, 2, none⟩ = some (.int .i64 x.f) ∧ w'.cell? ⟨w4.heap.size, 0, none⟩ = some (.int .i64 0) ∧ w'.cell? ⟨w4.heap.size, 1, none⟩ = some (.int .i64 0) ∧ w'.cell? ⟨w4.heap.size, 2, none⟩ = some (.int .i64 0) ∧ w'.cell? ⟨w4.heap.size, 3, none⟩ = some (.bool false))
    (first
      | exact ⟨KD.cellv 0 _ rfl, KD.cellv 1 _ rfl, KD.cellv 2 _ rfl, KP.cellv 0 _ rfl, KP.cellv 1 _ rfl, KP.cellv 2 _ rfl, KP.cellv 3 _ rfl⟩
      | go_keep)
    (first
      | (go_at_call 33; refine (frame_nil x.f _).mono ?_; rintro r wa ⟨rfl, ba⟩; have KD := KD.below ba; have KP := KP.below ba; have HB := bl_then HB ba)
      | (go_at_call 37; refine (space_nil x.s _).mono ?_; rintro r wa ⟨rfl, ba⟩; have KD := KD.below ba; have KP := KP.below ba; have HB := bl_then HB ba)
      | (go_at_call 38; refine (page_nil x.s x.p _).mono ?_; rintro r wa ⟨rfl, ba⟩; have KD := KD.below ba; have KP := KP.below ba; have HB := bl_then HB ba)
      | (go_at_call 32; refine (all_nil _).mono ?_; rintro r wa ⟨rfl, rfl⟩)
      | (go_at_call 42; refine (misses_nil _).mono ?_; rintro r wa ⟨rfl, rfl⟩)
      | (go_at_call 34; refine (awake_c _).mono ?_; rintro r wa ⟨rfl, ba⟩; have KD := KD.below ba; have KP := KP.below ba; have HB := bl_then HB ba))
  all_goals (
    go_wp2
    go_ret
    exact ⟨rfl, HB⟩)
end Go.Proofs.Ytdokmnpkihmkpaa.TlbNone
