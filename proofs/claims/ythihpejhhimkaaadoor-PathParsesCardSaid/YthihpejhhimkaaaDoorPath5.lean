/- Contract of the reference's Parse. -/
import Derived.Test.YthihpejhhimkaaaDoorPath4
set_option linter.unusedVariables false
namespace Go.Proofs.YthihpejhhimkaaaDoor.Path5
open Go.RowKit Go.Proofs.YthihpejhhimkaaaDoor.Base Go.Proofs.YthihpejhhimkaaaDoor.Row Go.Proofs.YthihpejhhimkaaaDoor.App Go.Proofs.YthihpejhhimkaaaDoor.Multi Go.Proofs.YthihpejhhimkaaaDoor.StEq Go.Proofs.YthihpejhhimkaaaDoor.Held Go.Proofs.YthihpejhhimkaaaDoor.Out Go.Proofs.YthihpejhhimkaaaDoor.HeldW Go.Proofs.YthihpejhhimkaaaDoor.HeldX Go.Proofs.YthihpejhhimkaaaDoor.Dir Go.Proofs.YthihpejhhimkaaaDoor.Path Go.Proofs.YthihpejhhimkaaaDoor.Path2 Go.Proofs.YthihpejhhimkaaaDoor.PathP Go.Proofs.YthihpejhhimkaaaDoor.Path3 Go.Proofs.YthihpejhhimkaaaDoor.Path4

theorem parts_cut : ∀ (l : List UInt8) (k : Nat), (∀ j, j < k → l[j]? ≠ some 47) → l[k]? = some 47 → parts l = l.take k :: parts (l.drop (k + 1))
  | [], k, _, h => by simp at h
  | c :: l, 0, _, h => by
    have hc : c = 47 := by simpa using h
    rw [parts, if_pos hc]
    simp
  | c :: l, k + 1, hj, h => by
    have hc : ¬ c = 47 := fun e => hj 0 (by omega) (by simp [e])
    have := parts_cut l k (fun j hjk => by have := hj (j + 1) (by omega); simpa using this) (by simpa using h)
    rw [parts, if_neg hc, this]
    simp
theorem parts_all : ∀ (l : List UInt8), (∀ j : Nat, l[j]? ≠ some 47) → parts l = [l]
  | [], _ => rfl
  | c :: l, hj => by
    have hc : ¬ c = 47 := fun e => hj 0 (by simp [e])
    have := parts_all l (fun j => by have := hj (j + 1); simpa using this)
    rw [parts, if_neg hc, this]
/-- Where the reading stands: the parts so far, where the next one begins, how far it has been looked at. -/
def At (s : ByteArray) (pre : List ByteArray) (fr k : Nat) : Prop :=
  (1 ≤ fr ∧ fr ≤ k ∧ k ≤ s.size ∧ pre.map tl ++ parts ((tl s).drop fr) = parts ((tl s).drop 1) ∧ ∀ j, fr ≤ j → j < k → (tl s)[j]? ≠ some 47) ∨
  (k = s.size + 1 ∧ pre.map tl = parts ((tl s).drop 1))
theorem at_start (s : ByteArray) (h : 1 ≤ s.size) : At s [] 1 1 := .inl ⟨by omega, by omega, h, rfl, fun j h1 h2 => by omega⟩
theorem at_step {s : ByteArray} {pre : List ByteArray} {fr k : Nat} (h : At s pre fr k) (hk : k < s.size) (hc : (tl s)[k]? ≠ some 47) : At s pre fr (k + 1) := by
  rcases h with ⟨h1, h2, h3, h4, h5⟩ | ⟨h1, _⟩
  · refine .inl ⟨h1, by omega, by omega, h4, fun j a b => ?_⟩
    rcases Nat.lt_or_ge j k with h | h
    · exact h5 j a h
    · obtain rfl : j = k := by omega
      exact hc
  · omega
theorem at_cut {s : ByteArray} {pre : List ByteArray} {fr k : Nat} (h : At s pre fr k) (hk : k < s.size) (hc : (tl s)[k]? = some 47) : At s (pre ++ [s.extract fr k]) (k + 1) (k + 1) := by
  rcases h with ⟨h1, h2, h3, h4, h5⟩ | ⟨h1, _⟩
  · refine .inl ⟨by omega, by omega, by omega, ?_, fun j a b => by omega⟩
    have hp := parts_cut ((tl s).drop fr) (k - fr) (fun j hj => by rw [List.getElem?_drop]; exact h5 _ (by omega) (by omega)) (by rw [List.getElem?_drop, show fr + (k - fr) = k by omega]; exact hc)
    rw [← h4, hp, List.map_append, List.map_cons, List.map_nil, tl_extract, List.drop_drop, show fr + (k - fr + 1) = k + 1 by omega, List.append_assoc, List.drop_take]
    rfl
  · omega
theorem at_end {s : ByteArray} {pre : List ByteArray} {fr k : Nat} (h : At s pre fr k) (hk : k = s.size) : At s (pre ++ [s.extract fr k]) (k + 1) (k + 1) := by
  subst hk
  rcases h with ⟨h1, h2, h3, h4, h5⟩ | ⟨h1, _⟩
  · refine .inr ⟨rfl, ?_⟩
    have hp := parts_all ((tl s).drop fr) (fun j => by
      rw [List.getElem?_drop]
      rcases Nat.lt_or_ge (fr + j) s.size with h | h
      · exact h5 _ (by omega) h
      · rw [List.getElem?_eq_none (by rw [tl_len]; exact h)]; simp)
    rw [← h4, hp, List.map_append, List.map_cons, List.map_nil, tl_extract, List.take_of_length_le (by rw [tl_len]; exact Nat.le_refl _)]
  · omega
theorem at_done {s : ByteArray} {pre : List ByteArray} {fr k : Nat} (h : At s pre fr k) (hk : ¬ k ≤ s.size) : pre = segs s := by
  rcases h with ⟨_, _, h3, _⟩ | ⟨_, h⟩
  · omega
  · exact segs_of h
theorem at_range {s : ByteArray} {pre : List ByteArray} {fr k : Nat} (h : At s pre fr k) (hk : k ≤ s.size) : 1 ≤ fr ∧ fr ≤ k := by
  rcases h with ⟨h1, h2, _⟩ | ⟨h1, _⟩
  · exact ⟨h1, h2⟩
  · omega
theorem at_pre {s : ByteArray} {pre : List ByteArray} {fr k : Nat} (h : At s pre fr k) : ∃ ys, pre ++ ys = segs s := by
  rcases h with ⟨_, _, _, h4, _⟩ | ⟨_, h⟩
  · refine ⟨(parts ((tl s).drop fr)).map fun l => ⟨l.toArray⟩, segs_of ?_⟩
    rw [List.map_append, List.map_map]
    rw [← h4]
    congr 1
    exact List.map_id _
  · exact ⟨[], by rw [List.append_nil]; exact segs_of h⟩
theorem res_err {s : ByteArray} {pre : List ByteArray} {fr k : Nat} {e : Int} (ha : abs_ s = true) (h : At s pre fr k) (hr : run [] pre = .error e) : res s = .error e := by
  obtain ⟨ys, hy⟩ := at_pre h
  unfold res
  rw [if_pos ha, ← hy, run_append, hr]
theorem res_ok {s : ByteArray} {pre : List ByteArray} {fr k : Nat} {L : List ByteArray} (ha : abs_ s = true) (h : At s pre fr k) (hk : ¬ k ≤ s.size) (hr : run [] pre = .ok L) : res s = .ok L := by
  unfold res
  rw [if_pos ha, ← at_done h hk, hr]
/-- What the reference's Parse tells. -/
def RefP (w : World) (s : ByteArray) (e : Ending) (w' : World) : Prop :=
  Below w.heap.size w w' ∧
  ((∃ k, res s = .error k ∧ e = .returned (.tuple #[.slice none 0 0, .int .i64 k])) ∨
   (∃ L A c, res s = .ok L ∧ e = .returned (.tuple #[.slice A L.length c, .int .i64 0]) ∧ SL w' A L.length L))
theorem abs_size {s : ByteArray} (h : abs_ s = true) : 1 ≤ s.size ∧ (tl s)[0]? = some 47 := by
  rw [← tl_len]
  unfold abs_ at h
  cases hh : tl s with
  | nil => rw [hh] at h; simp at h
  | cons c l => rw [hh] at h; simpa using h
theorem abs_no {s : ByteArray} (h : abs_ s = false) (h1 : 0 < s.size) : ¬ (tl s)[0]? = some 47 := by
  intro h2
  unfold abs_ at h
  cases hh : tl s with
  | nil => rw [hh] at h2; simp at h2
  | cons c l => rw [hh] at h h2; simp at h h2; exact h h2
theorem get_tl {s : ByteArray} {k : Nat} (h : k < s.size) : (tl s)[k]? = some s[k] := get_data s k h
theorem u8_eq {c : UInt8} : ((c.toNat : Int) = 47) ↔ c = 47 := by
  constructor
  · intro h
    have : c.toNat = 47 := by omega
    exact UInt8.toNat_inj.1 this
  · rintro rfl; rfl
theorem own_emp {w : World} {b : Nat} (A : Option Addr) (c : Nat) (h : c = 0) : w.ownsRow b 9 1 (.slice none 0 0) 0 (([] : List ByteArray).flatMap ss) := own_nil _ _ _ _
theorem ext_le' (r : ByteArray) (a b : Nat) : (r.extract a b).size ≤ r.size := by
  rw [ByteArray.size_extract]
  omega
theorem own_up {w : World} {b m c : Nat} {A : Option Addr} {L : List ByteArray} (KO : w.ownsRow b 9 1 (.slice A L.length c) L.length (L.flatMap ss)) (hm : m = L.length - 1) : w.ownsRow b 9 1 (.slice A m c) m (L.dropLast.flatMap ss) := by
  cases A with
  | none =>
    rcases KO.2 with ⟨e, h0⟩ | ⟨g, cap, cur, e, _⟩
    · injection e with _ e1 e2
      have hL0 := List.length_eq_zero_iff.1 h0
      subst hL0
      rw [e2, hm]
      exact own_nil _ _ _ _
    · cases e
  | some ad =>
    obtain ⟨g, hg⟩ : ∃ g, ad = ⟨g, 0, none⟩ := by
      rcases KO.2 with ⟨e, _⟩ | ⟨g, cap, cur, e, _⟩
      · cases e
      · injection e with e
        injection e with e
        exact ⟨g, e⟩
    subst hg
    have := own_init KO m (by omega)
    rw [flat_ss] at this
    rwa [List.dropLast_eq_take, ← hm]
set_option maxRecDepth 100000 in
set_option maxHeartbeats 8000000 in
theorem rparse_c (s : ByteArray) (hs : s.size ≤ 1000) (w : World) :
    Calls Tryd.prog 25 #[.string s] w fun e w' => RefP w s e w' := by
  cases ha : abs_ s with
  | false =>
    have HR : Hid (res s = .error 1) := Lib.hid (by unfold res; rw [if_neg (by rw [ha]; simp)])
    rcases Nat.eq_zero_or_pos s.size with h0 | h0
    · have q : ((s.size : Int) == 0) = true := by simp [h0]
      clear h0 ha
      go_enter Tryd.func25, Tryd.ntmps25
      go_wp2_with fail
      exact bodyPost_ret (results_tmp2 rfl _ _ _) rfl ⟨bl_refl w, .inl ⟨1, HR.out, rfl⟩⟩
    · have hne := abs_no ha h0
      rw [get_tl h0] at hne
      have hc : ¬ (s[0].toNat : Int) = 47 := fun h => hne (by rw [u8_eq.1 h])
      have q : ((s.size : Int) == 0) = false := by rw [beq_eq_false_iff_ne]; omega
      have q2 : ((s[0].toNat : Int) != 47) = true := by simpa using hc
      have q3 : decide ((0 : Int) < (s.size : Int)) = true := by simp; omega
      have q4 : (0 : Int) < (s.size : Int) := by omega
      clear ha hne
      go_enter Tryd.func25, Tryd.ntmps25
      go_wp2_with fail
      exact bodyPost_ret (results_tmp2 rfl _ _ _) rfl ⟨bl_refl w, .inl ⟨1, HR.out, rfl⟩⟩
  | true =>
    obtain ⟨h1, h47⟩ := abs_size ha
    rw [get_tl (show 0 < s.size by omega)] at h47
    have HA := Lib.hid ha
    have hc : (s[0].toNat : Int) = 47 := by
      injection h47 with h
      exact u8_eq.2 h
    have q : ((s.size : Int) == 0) = false := by rw [beq_eq_false_iff_ne]; omega
    have q2 : ((s[0].toNat : Int) != 47) = false := by simpa using hc
    have q4 : (0 : Int) < (s.size : Int) := by omega
    have H0 := Lib.hid (at_start s h1)
    clear ha h47
    go_enter Tryd.func25, Tryd.ntmps25
    go_wp2_with fail
    clear q q2 q4 hc
    go_loopw [4, 5, 6] (fun o f i wr => ∃ (L pre : List ByteArray) (A : Option Addr) (c fr k : Nat), o = .slice A L.length c ∧ f = .int .i64 fr ∧ i = .int .i64 k ∧ run [] pre = .ok L ∧ L.length ≤ 8 ∧ At s pre fr k ∧
        wr.ownsRow w.heap.size 9 1 (.slice A L.length c) L.length (L.flatMap ss) ∧ Below w.heap.size w wr) (fun _ _ i _ => s.size + 1 - (intOf i).toNat)
    case atStart => exact ⟨[], [], none, 0, 1, 1, rfl, rfl, rfl, rfl, by simp, H0.out, own_nil _ _ _ _, bl_refl w⟩
    case round =>
      clear H0
      obtain ⟨L, pre, A, c, fr, k, rfl, rfl, rfl, hrun, hL, hat, HO, HB⟩ := hrel
      have HAT := Lib.hid hat
      have HRUN := Lib.hid hrun
      clear hat hrun
      by_cases hle : k ≤ s.size
      · obtain ⟨hf1, hf2⟩ := at_range HAT.out hle
        have p1 : decide ((k : Int) ≤ (s.size : Int)) = true := by simp; omega
        have hcase : (k < s.size ∧ ∃ h : k < s.size, ¬ (s[k].toNat : Int) = 47) ∨ ((∃ h : k < s.size, (s[k].toNat : Int) = 47) ∨ k = s.size) := by
          rcases Nat.lt_or_ge k s.size with h | h
          · by_cases h2 : (s[k].toNat : Int) = 47
            · exact .inr (.inl ⟨h, h2⟩)
            · exact .inl ⟨h, h, h2⟩
          · exact .inr (.inr (by omega))
        rcases hcase with ⟨hlt, _, hc⟩ | hcut
        · have NX := Lib.hid (at_step HAT.out hlt (by rw [get_tl hlt]; intro h; injection h with h; exact hc (u8_eq.2 h)))
          have p2 : decide ((k : Int) < (s.size : Int)) = true := by simp; omega
          have p3 : ((s[k].toNat : Int) != 47) = true := by simpa using hc
          have p4 : (k : Int) < (s.size : Int) := by omega
          go_wp2_with fail
          go_roundw
          case rel => exact ⟨L, pre, A, c, fr, k + 1, rfl, rfl, by go_num, HRUN.out, hL, NX.out, HO, HB⟩
          case measure => first | (simp [intOf]; done) | (simp [intOf]; omega)
        · rcases hcut with ⟨hlt, hc⟩ | hend
          · have NX := Lib.hid (at_cut HAT.out hlt (by rw [get_tl hlt, u8_eq.1 hc]))
            have p2 : decide ((k : Int) < (s.size : Int)) = true := by simp; omega
            have p3 : ((s[k].toNat : Int) != 47) = false := by simpa using hc
            have p4 : (k : Int) < (s.size : Int) := by omega
            have r5 : decide ((fr : Int) ≤ (k : Int)) = true := by simp; omega
            have r6 : (fr : Int) ≤ (k : Int) := by omega
            have r7 : (k : Int) ≤ (s.size : Int) := by omega
            have r8 : decide (fr ≤ k) = true := by simp; omega
            have r9 : decide (k ≤ s.size) = true := by simp; omega
            have hxs : (s.extract fr k).size ≤ maxLen := by unfold maxLen; have := ext_le' s fr k; omega
            obtain ⟨x, hx⟩ : ∃ x, s.extract fr k = x := ⟨_, rfl⟩
            rw [hx] at NX hxs
            have HN := Lib.hid (fun w => rname_c x w hxs)
            have HX := Lib.hid hx
            clear hxs
            have hb0 : x.toList.isEmpty = decide (x.toList = []) := by cases x.toList <;> rfl
            have hcap := own_cap HO
            have hnone := own_noneS HO
            by_cases e1 : x.toList = []
            · have HR := Lib.hid (run_skip HRUN.out (.inl e1))
              have t1 : x.toList.isEmpty = true := by rw [e1]; rfl
              clear hb0
              go_wp2_with fail
              go_roundw
              case rel => exact ⟨L, _, A, c, k + 1, k + 1, rfl, by go_num, by go_num, HR.out, hL, NX.out, HO, HB⟩
              case measure => first | (simp [intOf]; done) | (simp [intOf]; omega)
            · by_cases e2 : x.toList = [46]
              · have HR := Lib.hid (run_skip HRUN.out (.inr e2))
                have t1 : x.toList.isEmpty = false := by rw [e2]; rfl
                have t2 : (x.toList == [46]) = true := by simp [e2]
                clear hb0
                go_wp2_with fail
                go_roundw
                case rel => exact ⟨L, _, A, c, k + 1, k + 1, rfl, by go_num, by go_num, HR.out, hL, NX.out, HO, HB⟩
                case measure => first | (simp [intOf]; done) | (simp [intOf]; omega)
              · have t1 : x.toList.isEmpty = false := by rw [hb0]; simpa using e1
                have t2 : (x.toList == [46]) = false := by simpa using e2
                have e12 : ¬ (x.toList = [] ∨ x.toList = [46]) := fun h => h.elim e1 e2
                clear hb0
                by_cases e3 : x.toList = [46, 46]
                · have HR := Lib.hid (run_up HRUN.out e12 e3)
                  have t3 : (x.toList == [46, 46]) = true := by simp [e3]
                  by_cases e4 : L.length = 0
                  · have hL0 : L = [] := List.length_eq_zero_iff.1 e4
                    subst hL0
                    have t4 : decide ((0 : Int) < (([] : List ByteArray).length : Int)) = false := by simp
                    clear e12
                    go_wp2_with fail
                    go_roundw
                    case rel => exact ⟨[], _, A, c, k + 1, k + 1, rfl, by go_num, by go_num, HR.out, by simp, NX.out, HO, HB⟩
                    case measure => first | (simp [intOf]; done) | (simp [intOf]; omega)
                  · obtain ⟨m, hm⟩ : ∃ m : Nat, m = L.length - 1 := ⟨_, rfl⟩
                    have hd : L.dropLast.length = m := by rw [List.length_dropLast, hm]
                    have HO2 := Lib.hid (own_up HO hm)
                    have t4 : decide ((0 : Int) < (L.length : Int)) = true := by simp; omega
                    have t5 : wrap64 ((L.length : Int) - 1) = (m : Int) := by unfold wrap64; omega
                    have t6 : decide (m ≤ c) = true := by simp; omega
                    have t7 : (m : Int) ≤ (c : Int) := by omega
                    have t8 : m ≤ c := by omega
                    have t9 : (0 : Int) < (L.length : Int) := by omega
                    have ta : L ≠ [] := by intro h; rw [h] at e4; exact e4 rfl
                    clear e12
                    go_wp2_with fail
                    go_roundw
                    case rel => exact ⟨L.dropLast, _, A, c, k + 1, k + 1, by rw [hd, hm], by go_num, by go_num, HR.out, by omega, NX.out, by rw [hd]; exact HO2.out, HB⟩
                    case measure => first | (simp [intOf]; done) | (simp [intOf]; omega)
                · have t3 : (x.toList == [46, 46]) = false := by simpa using e3
                  cases hn : nameB x with
                  | false =>
                    have HR := Lib.hid (res_err HA.out NX.out (run_bad HRUN.out e12 e3 hn))
                    rw [hn] at HN
                    clear e12 hn
                    go_wp2_with (go_at_call 11; refine (HN.out _).mono ?_; rintro e w' ⟨rfl, rfl⟩)
                    exact bodyPost_ret (results_tmp2 rfl _ _ _) rfl ⟨HB, .inl ⟨18, HR.out, rfl⟩⟩
                  | true =>
                    rw [hn] at HN
                    by_cases e4 : L.length = 8
                    · have HR := Lib.hid (res_err HA.out NX.out (run_big HRUN.out e12 e3 hn e4))
                      have t4 : decide ((8 : Int) ≤ (L.length : Int)) = true := by simp; omega
                      have t5 : (8 : Int) ≤ (L.length : Int) := by omega
                      clear e12 hn
                      go_wp2_with (go_at_call 11; refine (HN.out _).mono ?_; rintro e w' ⟨rfl, rfl⟩)
                      exact bodyPost_ret (results_tmp2 rfl _ _ _) rfl ⟨HB, .inl ⟨22, HR.out, rfl⟩⟩
                    · have HR := Lib.hid (run_new HRUN.out e12 e3 hn e4)
                      have t4 : decide ((8 : Int) ≤ (L.length : Int)) = false := by simp; omega
                      have t5 : ¬ (8 : Int) ≤ (L.length : Int) := by omega
                      have hr0 := Lib.hid (sl_own HO)
                      have hA' := Lib.hid hnone
                      have hsz := HB.size
                      clear e12 hn hnone HO
                      go_wp2_with (first
                        | (go_at_call 11; refine (HN.out _).mono ?_; clear HN; rintro e w' ⟨rfl, rfl⟩)
                        | (at_builtin; refine app_rf (w0 := w) (f := ss) w.heap.size 1 16 ss_len ss_one (.string ⟨#[]⟩) rfl _ _ 49 9 rfl Tryd.underlying49 info_s rfl (by decide) (by decide) (.slice none 0 0) 0 [] rfl (own_nil _ _ _ _) A L.length c L rfl hr0.out hA'.out ?d1 HB hsz ?_))
                      case d1 => omega
                      intro A5 c5 w5 HO5 B5 s5 _
                      try rw [List.nil_append] at HO5
                      try simp only [Nat.zero_add] at HO5 ⊢
                      have s5' := B5.size
                      clear hA' hr0 HB
                      go_wp2_with (at_builtin; refine app_onef (w0 := w) (f := ss) w.heap.size 1 16 ss_len ss_one (.string ⟨#[]⟩) rfl _ _ 49 9 rfl Tryd.underlying49 info_s rfl (by decide) (by decide) (.slice A5 L.length c5) L.length L rfl HO5 x _ rfl w5.heap.size rfl rfl ?d4 ?d5 ?d6 ?_)
                      case d4 => omega
                      case d5 => exact B5
                      case d6 => exact s5'
                      intro A6 c6 w6 HO6 B6 s6 _
                      go_wp2_with fail
                      go_roundw
                      case rel => exact ⟨L ++ [x], _, A6, c6, k + 1, k + 1, by simp, by go_num, by go_num, HR.out, by simp; omega, NX.out, by simpa using HO6, B6⟩
                      case measure => first | (simp [intOf]; done) | (simp [intOf]; omega)
          · have NX := Lib.hid (at_end HAT.out hend)
            have p2 : decide ((k : Int) < (s.size : Int)) = false := by simp; omega
            have p4 : ¬ (k : Int) < (s.size : Int) := by omega
            clear hend
            have r5 : decide ((fr : Int) ≤ (k : Int)) = true := by simp; omega
            have r6 : (fr : Int) ≤ (k : Int) := by omega
            have r7 : (k : Int) ≤ (s.size : Int) := by omega
            have r8 : decide (fr ≤ k) = true := by simp; omega
            have r9 : decide (k ≤ s.size) = true := by simp; omega
            have hxs : (s.extract fr k).size ≤ maxLen := by unfold maxLen; have := ext_le' s fr k; omega
            obtain ⟨x, hx⟩ : ∃ x, s.extract fr k = x := ⟨_, rfl⟩
            rw [hx] at NX hxs
            have HN := Lib.hid (fun w => rname_c x w hxs)
            have HX := Lib.hid hx
            clear hxs
            have hb0 : x.toList.isEmpty = decide (x.toList = []) := by cases x.toList <;> rfl
            have hcap := own_cap HO
            have hnone := own_noneS HO
            by_cases e1 : x.toList = []
            · have HR := Lib.hid (run_skip HRUN.out (.inl e1))
              have t1 : x.toList.isEmpty = true := by rw [e1]; rfl
              clear hb0
              go_wp2_with fail
              go_roundw
              case rel => exact ⟨L, _, A, c, k + 1, k + 1, rfl, by go_num, by go_num, HR.out, hL, NX.out, HO, HB⟩
              case measure => first | (simp [intOf]; done) | (simp [intOf]; omega)
            · by_cases e2 : x.toList = [46]
              · have HR := Lib.hid (run_skip HRUN.out (.inr e2))
                have t1 : x.toList.isEmpty = false := by rw [e2]; rfl
                have t2 : (x.toList == [46]) = true := by simp [e2]
                clear hb0
                go_wp2_with fail
                go_roundw
                case rel => exact ⟨L, _, A, c, k + 1, k + 1, rfl, by go_num, by go_num, HR.out, hL, NX.out, HO, HB⟩
                case measure => first | (simp [intOf]; done) | (simp [intOf]; omega)
              · have t1 : x.toList.isEmpty = false := by rw [hb0]; simpa using e1
                have t2 : (x.toList == [46]) = false := by simpa using e2
                have e12 : ¬ (x.toList = [] ∨ x.toList = [46]) := fun h => h.elim e1 e2
                clear hb0
                by_cases e3 : x.toList = [46, 46]
                · have HR := Lib.hid (run_up HRUN.out e12 e3)
                  have t3 : (x.toList == [46, 46]) = true := by simp [e3]
                  by_cases e4 : L.length = 0
                  · have hL0 : L = [] := List.length_eq_zero_iff.1 e4
                    subst hL0
                    have t4 : decide ((0 : Int) < (([] : List ByteArray).length : Int)) = false := by simp
                    clear e12
                    go_wp2_with fail
                    go_roundw
                    case rel => exact ⟨[], _, A, c, k + 1, k + 1, rfl, by go_num, by go_num, HR.out, by simp, NX.out, HO, HB⟩
                    case measure => first | (simp [intOf]; done) | (simp [intOf]; omega)
                  · obtain ⟨m, hm⟩ : ∃ m : Nat, m = L.length - 1 := ⟨_, rfl⟩
                    have hd : L.dropLast.length = m := by rw [List.length_dropLast, hm]
                    have HO2 := Lib.hid (own_up HO hm)
                    have t4 : decide ((0 : Int) < (L.length : Int)) = true := by simp; omega
                    have t5 : wrap64 ((L.length : Int) - 1) = (m : Int) := by unfold wrap64; omega
                    have t6 : decide (m ≤ c) = true := by simp; omega
                    have t7 : (m : Int) ≤ (c : Int) := by omega
                    have t8 : m ≤ c := by omega
                    have t9 : (0 : Int) < (L.length : Int) := by omega
                    have ta : L ≠ [] := by intro h; rw [h] at e4; exact e4 rfl
                    clear e12
                    go_wp2_with fail
                    go_roundw
                    case rel => exact ⟨L.dropLast, _, A, c, k + 1, k + 1, by rw [hd, hm], by go_num, by go_num, HR.out, by omega, NX.out, by rw [hd]; exact HO2.out, HB⟩
                    case measure => first | (simp [intOf]; done) | (simp [intOf]; omega)
                · have t3 : (x.toList == [46, 46]) = false := by simpa using e3
                  cases hn : nameB x with
                  | false =>
                    have HR := Lib.hid (res_err HA.out NX.out (run_bad HRUN.out e12 e3 hn))
                    rw [hn] at HN
                    clear e12 hn
                    go_wp2_with (go_at_call 11; refine (HN.out _).mono ?_; rintro e w' ⟨rfl, rfl⟩)
                    exact bodyPost_ret (results_tmp2 rfl _ _ _) rfl ⟨HB, .inl ⟨18, HR.out, rfl⟩⟩
                  | true =>
                    rw [hn] at HN
                    by_cases e4 : L.length = 8
                    · have HR := Lib.hid (res_err HA.out NX.out (run_big HRUN.out e12 e3 hn e4))
                      have t4 : decide ((8 : Int) ≤ (L.length : Int)) = true := by simp; omega
                      have t5 : (8 : Int) ≤ (L.length : Int) := by omega
                      clear e12 hn
                      go_wp2_with (go_at_call 11; refine (HN.out _).mono ?_; rintro e w' ⟨rfl, rfl⟩)
                      exact bodyPost_ret (results_tmp2 rfl _ _ _) rfl ⟨HB, .inl ⟨22, HR.out, rfl⟩⟩
                    · have HR := Lib.hid (run_new HRUN.out e12 e3 hn e4)
                      have t4 : decide ((8 : Int) ≤ (L.length : Int)) = false := by simp; omega
                      have t5 : ¬ (8 : Int) ≤ (L.length : Int) := by omega
                      have hr0 := Lib.hid (sl_own HO)
                      have hA' := Lib.hid hnone
                      have hsz := HB.size
                      clear e12 hn hnone HO
                      go_wp2_with (first
                        | (go_at_call 11; refine (HN.out _).mono ?_; clear HN; rintro e w' ⟨rfl, rfl⟩)
                        | (at_builtin; refine app_rf (w0 := w) (f := ss) w.heap.size 1 16 ss_len ss_one (.string ⟨#[]⟩) rfl _ _ 49 9 rfl Tryd.underlying49 info_s rfl (by decide) (by decide) (.slice none 0 0) 0 [] rfl (own_nil _ _ _ _) A L.length c L rfl hr0.out hA'.out ?d1 HB hsz ?_))
                      case d1 => omega
                      intro A5 c5 w5 HO5 B5 s5 _
                      try rw [List.nil_append] at HO5
                      try simp only [Nat.zero_add] at HO5 ⊢
                      have s5' := B5.size
                      clear hA' hr0 HB
                      go_wp2_with (at_builtin; refine app_onef (w0 := w) (f := ss) w.heap.size 1 16 ss_len ss_one (.string ⟨#[]⟩) rfl _ _ 49 9 rfl Tryd.underlying49 info_s rfl (by decide) (by decide) (.slice A5 L.length c5) L.length L rfl HO5 x _ rfl w5.heap.size rfl rfl ?d4 ?d5 ?d6 ?_)
                      case d4 => omega
                      case d5 => exact B5
                      case d6 => exact s5'
                      intro A6 c6 w6 HO6 B6 s6 _
                      go_wp2_with fail
                      go_roundw
                      case rel => exact ⟨L ++ [x], _, A6, c6, k + 1, k + 1, by simp, by go_num, by go_num, HR.out, by simp; omega, NX.out, by simpa using HO6, B6⟩
                      case measure => first | (simp [intOf]; done) | (simp [intOf]; omega)
      · have p1 : decide ((k : Int) ≤ (s.size : Int)) = false := by simp; omega
        have HF := Lib.hid (res_ok HA.out HAT.out hle HRUN.out)
        go_wp2_with fail
        exact bodyPost_ret (results_tmp2 rfl _ _ _) rfl ⟨HB, .inr ⟨L, A, c, HF.out, rfl, sl_own HO⟩⟩
end Go.Proofs.YthihpejhhimkaaaDoor.Path5
