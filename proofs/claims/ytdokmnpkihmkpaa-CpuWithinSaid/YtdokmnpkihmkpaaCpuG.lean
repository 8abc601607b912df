/- The law CpuWithin's plain side; the argument's slices as lists. -/
import Derived.Test.YtdokmnpkihmkpaaCpuF
import Derived.Test.YtdokmnpkihmkpaaCpuNone
import Derived.Test.YtdokmnpkihmkpaaFramesApart
set_option linter.unusedVariables false
namespace Go.Proofs.Ytdokmnpkihmkpaa.CpuG
open Go.RowKit Go.Proofs.Ytdokmnpkihmkpaa.Base Go.Proofs.Ytdokmnpkihmkpaa.Row Go.Proofs.Ytdokmnpkihmkpaa.Multi Go.Proofs.Ytdokmnpkihmkpaa.Flat Go.Proofs.Ytdokmnpkihmkpaa.TlbMath Go.Proofs.Ytdokmnpkihmkpaa.Tlb Go.Proofs.Ytdokmnpkihmkpaa.Out Go.Proofs.Ytdokmnpkihmkpaa.Frames2 Go.Proofs.Ytdokmnpkihmkpaa.Frames4 Go.Proofs.Ytdokmnpkihmkpaa.Frames6 Go.Proofs.Ytdokmnpkihmkpaa.Frames9 Go.Proofs.Ytdokmnpkihmkpaa.CpuC

/-- Does an entry of the space name the frame, and may it be written? -/
def nq (sp f : Int) (e : En) : Bool := e.f == f && e.w && e.s == sp
def nmk (l : List En) (sp f : Int) (k : Nat) : Bool := (l.take k).any (nq sp f)
theorem nmk_zero (l : List En) (sp f : Int) : nmk l sp f 0 = false := by simp [nmk]
theorem nmk_succ {l : List En} {sp f : Int} {k : Nat} {e : En} (h : l[k]? = some e) : nmk l sp f (k + 1) = (nmk l sp f k || nq sp f e) := by
  unfold nmk
  rw [List.take_add_one, h, List.any_append]
  simp
theorem nmk_all {l : List En} {sp f : Int} {e : En} (h : e ∈ l) (hq : nq sp f e = true) : nmk l sp f l.length = true := by
  unfold nmk
  rw [List.take_length, List.any_eq_true]
  exact ⟨e, h, hq⟩
theorem put_other (n : Nat) (X : List Int) (f a v : Int) (hl : X.length = n * 16) (i : Nat) (hi : i < n) (hne : (i : Int) ≠ f) : pgAt (putX n X f a v) i = pgAt X i := by
  have := FramesApart.do_other n X 0 f a v hl i hi hne
  unfold pDo at this
  rw [if_pos (Or.inl rfl)] at this
  exact this
theorem named {n : Nat} {sp : Int} {l : List En} {X X2 : List Int} {tc : Int} (h : OkX n sp l X X2 tc) (hl : X.length = n * 16) (i : Nat) (hi : i < n) (hne : pgAt X2 i ≠ pgAt X i) : nmk l sp i l.length = true := by
  rcases h with rfl | ⟨_, e, he, hs, hw, a, v, rfl⟩
  · exact absurd rfl hne
  · rcases Decidable.em ((i : Int) = e.f) with hf | hf
    · exact nmk_all he (by unfold nq; rw [hf, hw, hs]; simp)
    · exact absurd (put_other n X e.f a v hl i hi hf) hne
theorem okx_len {n : Nat} {sp : Int} {l : List En} {X X2 : List Int} {tc : Int} (h : OkX n sp l X X2 tc) : X2.length = X.length := by
  rcases h with rfl | ⟨_, e, _, _, _, a, v, rfl⟩
  · rfl
  · exact putX_len _ _ _ _ _
theorem Mt.out {w w1 : World} {g gp n c : Nat} {X : List Int} {S : Nat → Prop} (h : Mt w g gp n c X) (k : Out w w1 S) (h1 : ¬ S g) (h2 : ¬ S gp) : Mt w1 g gp n c X := by
  obtain ⟨cur, hk, hc⟩ := h.p
  exact ⟨Out.Blk.out h.m k h1, ⟨cur, Out.Blk.out hk k h2, hc⟩, h.len, h.n256⟩
/-! ### the argument -/
theorem build_list {α : Type} (Q : Nat → α → Prop) : ∀ n : Nat, (∀ i, i < n → ∃ x, Q i x) → ∃ l : List α, l.length = n ∧ ∀ i x, l[i]? = some x → Q i x
  | 0, _ => ⟨[], rfl, fun i x h => by simp at h⟩
  | n + 1, h => by
    obtain ⟨l, h1, h2⟩ := build_list Q n (fun i hi => h i (by omega))
    obtain ⟨y, hy⟩ := h n (by omega)
    refine ⟨l ++ [y], by simp [h1], fun i x hx => ?_⟩
    rcases Nat.lt_or_ge i n with hi | hi
    · rw [List.getElem?_append_left (by omega)] at hx
      exact h2 i x hx
    · rw [List.getElem?_append_right (by omega), h1] at hx
      obtain rfl : i = n := by
        have := (List.getElem?_eq_some_iff.1 hx).1
        simp at this
        omega
      rw [Nat.sub_self] at hx
      obtain rfl : y = x := by simpa using hx
      exact hy
theorem rd_of_flat {w : World} {A : Option Addr} {n c : Nat} (h : FlatRow w [isI .u32] A n c) : ∃ xs, Rd w .u32 A n xs ∧ (∀ x ∈ xs, 0 ≤ x ∧ x < 4294967296) ∧ ∀ a, A = some a → 0 < n → a.block < w.heap.size := by
  have hmax := TlbArg.flat_max h
  rcases h with ⟨rfl, rfl, _⟩ | ⟨a, rfl, _, _, hi⟩
  · exact ⟨[], Rd.nil _ _ _, by simp, fun a h => by cases h⟩
  · obtain ⟨xs, hl, hx⟩ := build_list (fun i x => w.cell? (a.add i) = some (.int .u32 x) ∧ 0 ≤ x ∧ x < 4294967296) n (fun i hin => by
      obtain ⟨u, hu, x, rfl, hwf⟩ := hi i hin 0 _ rfl
      refine ⟨x, ?_, wf_u32_range hwf⟩
      simpa using hu)
    refine ⟨xs, ⟨hl, hmax, fun _ => ⟨a, rfl, fun j hj => ?_⟩⟩, fun x hxm => ?_, fun b hb hn => ?_⟩
    · have hjl : j < xs.length := by omega
      have := (hx j xs[j] (List.getElem?_eq_getElem hjl)).1
      rw [this, List.getElem?_eq_getElem hjl]
      rfl
    · obtain ⟨i, hil, rfl⟩ := List.getElem_of_mem hxm
      exact (hx i _ (List.getElem?_eq_getElem hil)).2
    · injection hb with hb
      subst hb
      have hjl : 0 < xs.length := by omega
      have := (hx 0 xs[0] (List.getElem?_eq_getElem hjl)).1
      have h2 := World.block_lt_of_cell? w _ this
      rw [show a.add 0 = a by unfold Addr.add; simp] at h2
      exact h2
theorem rf_of_flat {w : World} {A : Option Addr} {n c : Nat} (h : FlatRow w CpuNone.e4 A n c) : ∃ es, RF ev 4 w A n es := by
  have hmax := TlbArg.flat_max h
  rcases h with ⟨rfl, rfl, _⟩ | ⟨a, rfl, _, _, hi⟩
  · exact ⟨[], RF.nil _ _ _ _⟩
  · rcases Nat.eq_zero_or_pos n with rfl | hn
    · exact ⟨[], RF.nil _ _ _ _⟩
    obtain ⟨u, hu, _⟩ := hi 0 hn 0 _ rfl
    obtain ⟨g, o, sp⟩ := a
    have hspot : sp = none := by
      rw [show ((⟨g, o, sp⟩ : Addr).add (0 * CpuNone.e4.length + 0)) = ⟨g, o, sp⟩ by unfold Addr.add; simp] at hu
      cases sp with
      | none => rfl
      | some s =>
        unfold World.cell? at hu
        split at hu
        · simp at hu
        · cases hu
    subst hspot
    obtain ⟨es, hl, hx⟩ := build_list (fun i (e : En) => w.rangeAt g (o + i * 4) (ev e)) n (fun i hin => by
      obtain ⟨_, h0, s, rfl, _⟩ := hi i hin 0 _ rfl
      obtain ⟨_, h1, p, rfl, _⟩ := hi i hin 1 _ rfl
      obtain ⟨_, h2, f, rfl, _⟩ := hi i hin 2 _ rfl
      obtain ⟨_, h3, b, rfl⟩ := hi i hin 3 _ rfl
      refine ⟨⟨s, p, f, b⟩, fun j v hv => ?_⟩
      have e4 : ∀ j, (⟨g, o, none⟩ : Addr).add (i * CpuNone.e4.length + j) = ⟨g, o + i * 4 + j, none⟩ := fun j => by
        show (⟨g, o, none⟩ : Addr).add (i * 4 + j) = _
        unfold Addr.add
        split
        · rename_i hz
          rw [show o + i * 4 + j = o by omega]
        · rw [Nat.add_assoc]
      match j, hv with
      | 0, hv => rw [e4] at h0; exact h0.trans hv
      | 1, hv => rw [e4] at h1; exact h1.trans hv
      | 2, hv => rw [e4] at h2; exact h2.trans hv
      | 3, hv => rw [e4] at h3; exact h3.trans hv
      | j + 4, hv => simp [ev] at hv)
    exact ⟨es, ⟨hl, hmax, fun _ => ⟨g, o, rfl, hx⟩⟩⟩
end Go.Proofs.Ytdokmnpkihmkpaa.CpuG
