/- Contract of slices.Delete of one want of an own row. -/
import Derived.Test.YtcomgmgmpmjnkaaAbort8
import Derived.Test.YtcomgmgmpmjnkaaDel
import Derived.Deep.RegionLaw
set_option linter.unusedVariables false
namespace Go.Proofs.Ytcomgmgmpmjnkaa.Abort9
open Go.RowKit Go.Proofs.Ytcomgmgmpmjnkaa.Base Go.Proofs.Ytcomgmgmpmjnkaa.Row Go.Proofs.Ytcomgmgmpmjnkaa.App Go.Proofs.Ytcomgmgmpmjnkaa.Multi Go.Proofs.Ytcomgmgmpmjnkaa.Del Go.Proofs.Ytcomgmgmpmjnkaa.AbortMath Go.Proofs.Ytcomgmgmpmjnkaa.Abort Go.Proofs.Ytcomgmgmpmjnkaa.Abort2 Go.Proofs.Ytcomgmgmpmjnkaa.Abort3 Go.Proofs.Ytcomgmgmpmjnkaa.Abort4 Go.Proofs.Ytcomgmgmpmjnkaa.Abort5 Go.Proofs.Ytcomgmgmpmjnkaa.Abort6 Go.Proofs.Ytcomgmgmpmjnkaa.Abort7 Go.Proofs.Ytcomgmgmpmjnkaa.Abort8

def DelPost (B g c m : Nat) (l : List Wt) (w w' : World) (r : Ending) : Prop := (r = .returned (.slice (some ⟨g, 0, none⟩) m c) ∧ w'.ownsRow B 73 4 (.slice (some ⟨g, 0, none⟩) m c) m (l.flatMap wv)) ∧ Below B w w'
theorem zcells : (Value.agg (wa ⟨0, 0, 0, 0⟩)).cells = wa ⟨0, 0, 0, 0⟩ := by kernel_rfl
theorem zone (n : Nat) : ∀ v ∈ (Builtin.zeroCells (wa ⟨0, 0, 0, 0⟩) n).toList, v.oneCell' = true := by
  intro v hv
  unfold Builtin.zeroCells at hv
  rw [Array.toList_map, List.mem_map] at hv
  obtain ⟨j, _, rfl⟩ := hv
  have hj : j % (wa ⟨0, 0, 0, 0⟩).size < (wa ⟨0, 0, 0, 0⟩).size := Nat.mod_lt _ (by decide)
  rw [getElem!_pos (wa ⟨0, 0, 0, 0⟩) _ hj]
  exact wa_one ⟨0, 0, 0, 0⟩ _ (Array.getElem_mem hj)
theorem flat_take (l : List Wt) (k : Nat) (hk : k ≤ l.length) : (l.flatMap wv).take (k * 4) = (l.take k).flatMap wv := by
  have h : l.flatMap wv = (l.take k).flatMap wv ++ (l.drop k).flatMap wv := by rw [← List.flatMap_append, List.take_append_drop]
  have h2 : ((l.take k).flatMap wv).length = k * 4 := by rw [flat_len wv_len, List.length_take, Nat.min_eq_left hk]
  rw [h, List.take_left' h2]
theorem flat_drop (l : List Wt) (k : Nat) (hk : k ≤ l.length) : (l.flatMap wv).drop (k * 4) = (l.drop k).flatMap wv := by
  have h : l.flatMap wv = (l.take k).flatMap wv ++ (l.drop k).flatMap wv := by rw [← List.flatMap_append, List.take_append_drop]
  have h2 : ((l.take k).flatMap wv).length = k * 4 := by rw [flat_len wv_len, List.length_take, Nat.min_eq_left hk]
  rw [h, List.drop_left' h2]
theorem want_parts : ∃ i0, Try.prog.info? 73 = some i0 ∧ i0.size = 4 := by
  have h := info_want
  cases h0 : Try.prog.info? 73 with
  | none => rw [h0] at h; cases h
  | some i0 =>
    rw [h0] at h
    simp at h
    exact ⟨i0, rfl, h.2.1⟩
theorem want_zero : ∀ w, (zeroValue 73).run Try.prog w = .ok (.agg (wa ⟨0, 0, 0, 0⟩)) w := by
  intro w
  have h := info_want
  cases h0 : Try.prog.info? 73 with
  | none => rw [h0] at h; cases h
  | some i0 =>
    rw [h0] at h
    simp at h
    simp [zeroValue, typeInfo, h0, h.1, go_sem]
set_option maxRecDepth 100000 in
set_option maxHeartbeats 1000000 in
theorem delete_c (B g c n i : Nat) (l : List Wt) (w : World) (HO : w.ownsRow B 73 4 (.slice (some ⟨g, 0, none⟩) n c) n (l.flatMap wv)) (hi : i < n) (hn : n ≤ 64) (hB : B ≤ w.heap.size) (j : Nat) (hj : j = i + 1) :
    Calls Try.prog 67 #[.slice (some ⟨g, 0, none⟩) n c, .int .i64 i, .int .i64 j] w fun r w' => DelPost B g c (n - 1) (l.eraseIdx i) w w' r := by
  have hl : l.length = n := by
    have h1 := HO.1
    rw [flat_len wv_len] at h1
    omega
  obtain ⟨cur, hk, hb, hc, hm, hs, ht⟩ := own_parts HO
  clear HO
  have q1 : ((i : Int) == (j : Int)) = false := by simp; omega
  have q2 : ¬ i = j := by omega
  have hic : i ≤ c := by omega
  have hjc : j ≤ c := by omega
  have hjn : j ≤ n := by omega
  have hij : i ≤ j := by omega
  obtain ⟨news, hnews⟩ : ∃ news, news = (l.drop j).flatMap wv := ⟨_, rfl⟩
  have hlen : news.length = (n - j) * 4 := by rw [hnews, flat_len wv_len, List.length_drop, hl]
  obtain ⟨A, hA, hsrc⟩ : ∃ A : Addr, (if c = j then some (⟨g, 0, none⟩ : Addr) else some ⟨g, j * 4, none⟩) = some A ∧ Hid (∀ t u, news[t]? = some u → w.drew.cell? (A.add t) = some u) := by
    by_cases h : c = j
    · refine ⟨⟨g, 0, none⟩, by simp [h], fun t u hu => ?_⟩
      have h0 : news.length = 0 := by rw [hlen]; omega
      rw [List.length_eq_zero_iff.1 h0] at hu
      simp at hu
    · refine ⟨⟨g, j * 4, none⟩, by simp [h], fun t u hu => ?_⟩
      rw [hnews, ← flat_drop l j (by omega), List.getElem?_drop, ← ht, List.getElem?_take] at hu
      split at hu
      · rw [Array.getElem?_toList] at hu
        rw [Addr.add_lit]
        exact hk.cellv (j * 4 + t) u hu
      · cases hu
  have s1 : Hid (news.length = (n - j) * 4) := Lib.hid hlen
  have s2 : Hid (∀ u ∈ news, u.oneCell' = true) := Lib.hid (by
    intro u hu
    rw [hnews, List.mem_flatMap] at hu
    obtain ⟨x, _, hx⟩ := hu
    exact wv_one x u hx)
  have s3 : Hid (∀ t, t < news.length → (w.drew.cell? ⟨g, 0 + i * 4 + t, none⟩).isSome = true ∧ w.drew.frozen? ⟨g, 0 + i * 4 + t, none⟩ = false) := Lib.hid (by
    intro t ht
    rw [hlen] at ht
    have hx : 0 + i * 4 + t < cur.size := by omega
    refine ⟨?_, hk.frozen _⟩
    rw [show w.drew.cell? ⟨g, 0 + i * 4 + t, none⟩ = some cur[0 + i * 4 + t] from hk.cellv _ _ (Array.getElem?_eq_getElem hx)]
    rfl)
  have hw4 : Try.prog.underlying 65 = some (.slice 73) := Try.underlying65
  obtain ⟨i0, hi0, hz1⟩ := want_parts
  obtain ⟨W1, hW1⟩ : ∃ W1, W1 = w.drew.setCells g (0 + i * 4) news := ⟨_, rfl⟩
  have hk1 : Blk W1 g 73 (lay cur (0 + i * 4) news) := by rw [hW1]; exact Blk.setCells news (0 + i * 4) (show Blk w.drew g _ cur from hk)
  obtain ⟨m, hmm⟩ : ∃ m, m = i + (n - j) := ⟨_, rfl⟩
  have hn1 : n - m = 1 := by omega
  have hmc : ¬ c = m := by omega
  have hb1 : Below B w W1 := by rw [hW1]; exact below_grown (bl_drew (Below.refl B w)) hB (grownBy_setCells g news _ w.drew) hb
  have hcl : ∀ ty, (Builtin.clear_ #[65] ty #[.slice (some ⟨g, m * 4, none⟩) (n - m) (c - m)]).run Try.prog W1 = .ok (.tuple #[]) (W1.setCells g (m * 4) (Builtin.zeroCells (wa ⟨0, 0, 0, 0⟩) (n - m)).toList) := fun ty => by
    have hz : (n - m) * (Value.agg (wa ⟨0, 0, 0, 0⟩)).cells.size = 4 := by rw [hn1, zcells]; rfl
    refine run_clear_mul W1 _ _ ty (.agg (wa ⟨0, 0, 0, 0⟩)) hw4 want_zero g (m * 4) (n - m) (c - m) (by omega) (by rw [zcells]; exact zone _) ?_ (fun t _ => hk1.frozen _)
    intro t ht
    rw [hz] at ht
    have hx : m * 4 + t < (lay cur (0 + i * 4) news).size := by rw [lay_size, hs]; omega
    rw [hk1.cellv _ _ (Array.getElem?_eq_getElem hx)]
    rfl
  have hW : Hid (W1 = w.drew.setCells g (0 + i * 4) news) := Lib.hid hW1
  rw [hn1] at hcl
  obtain ⟨zs, hzs⟩ : ∃ zs, zs = (Builtin.zeroCells (wa ⟨0, 0, 0, 0⟩) 1).toList := ⟨_, rfl⟩
  rw [← hzs] at hcl
  have hzl : zs.length = 4 := by rw [hzs, zero_len]; rfl
  have hF : Blk (W1.setCells g (m * 4) zs) g 73 (lay (lay cur (0 + i * 4) news) (m * 4) zs) := Blk.setCells zs (m * 4) hk1
  have hlm : (l.eraseIdx i).length = m := by rw [List.length_eraseIdx, if_pos (by omega)]; omega
  have hin : 0 + i * 4 + news.length ≤ cur.size := by rw [hlen, hs]; omega
  have hT : (lay (lay cur (0 + i * 4) news) (m * 4) zs).toList.take (m * 4) = (l.eraseIdx i).flatMap wv := by
    rw [take_lay_lo (by rw [lay_size, hzl, hs]; omega) (Nat.le_refl _), show m * 4 = 0 + i * 4 + news.length by rw [hlen]; omega, take_lay hin, hnews, List.eraseIdx_eq_take_drop_succ, List.flatMap_append, ← hj, ← flat_take l i (by omega), ← ht, List.take_take, show min (i * 4) (n * 4) = 0 + i * 4 by omega]
  have hEnd : Hid ((W1.setCells g (m * 4) zs).ownsRow B 73 4 (.slice (some ⟨g, 0, none⟩) m c) m ((l.eraseIdx i).flatMap wv) ∧ Below B w (W1.setCells g (m * 4) zs)) := Lib.hid ⟨own_made hF hb (by omega) hm (by rw [lay_size, lay_size]; exact hs) hT (by rw [flat_len wv_len, hlm]), below_grown hb1 (Nat.le_trans hB hb1.size) (grownBy_setCells g zs _ W1) hb⟩
  have hm1 : Hid (n - 1 = m) := Lib.hid (by omega)
  have hj' := Lib.hid hj
  have hmm' := Lib.hid hmm
  have hmn : m ≤ n := by omega
  have hmc' : m ≤ c := by omega
  clear hW1 hj hmm hk hnews hlen hs ht hk1 hF hT hlm hin hzl hzs hb1
  go_enter Try.func67, Try.ntmps67
  go_wp2_with fail
  go_region_law (refine step_append_room rfl (.tmp 22) (.tmp 25) 65 rfl 73 i0 4 hw4 hi0 hz1 g 0 i c (by simp [Act.eval, Act.put]) A (n - j) (c - j) news (by simp [Act.eval, Act.put]) s1.out hsrc.out s2.out (by omega) s3.out ?_; rw [← hW.out, ← hmm'.out])
  go_wp2
  go_ret
  rw [hm1.out]
  exact ⟨⟨rfl, hEnd.out.1⟩, hEnd.out.2⟩
end Go.Proofs.Ytcomgmgmpmjnkaa.Abort9
