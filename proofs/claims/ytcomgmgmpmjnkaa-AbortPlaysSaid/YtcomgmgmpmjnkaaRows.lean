/-
  No cell of these rows narrows 'for every input' (looked for: loops, veiled, ifaces, maps, wideKeys, modest, calm, conditions, laid).
  DERIVED. THE GIVEN ROWS OF THIS SEAT. 9 by the template 'for every input the law returns true; each argument reads behind the call as it read before'; 0 by the template 'total and deterministic' (their statements: YtcomgmgmpmjnkaaTotals.lean).
  GIVEN WITH THE SEED: the statements are not yours to turn. If you find one false, say at which input.
  Laid BY PROGRAM, IN A SANDBOX (cutbox-rows.mjs): the forced cells as the released guide's own fill.sh prints them over the translation f2529b8d18186060… (all of the seat's roots in one cut). By AI agents, Wed Nov 11 2026. No macro, syntax, notation, axiom, sorry.
-/
import Derived.Test.YtcomgmgmpmjnkaaChecked
import GoSem.Claim
import GoSem.ClaimJoined
import GoSem.ClaimMapViews
import Derived.JoinedTies
import Derived.KernelRfl
namespace Go.Proofs.Ytcomgmgmpmjnkaa
/- THE CELL 'sum', in the pinned program and in every row, IS THE sha256 OF THE DUMP (.gsa) THAT YtcomgmgmpmjnkaaProg.lean LOADS. Nothing in Lean hashes anything: it is a label: what it is worth is what the hold of that sum in a sandbox is worth. -/
noncomputable def Try.pinned : Pinned := { name := "ytcomgmgmpmjnkaa", sum := "f2529b8d181860605b05c209c095c0c16c577d686266355eae3bed85d0a758cf", checked := Try.checked }
namespace Rows
def none {H : Type} : Left H := { results := [], args := [] }

/-- 'onionskinlaw07.ClockOnce': WHATEVER THE INPUT: true; the input reads as it did. -/
def clockOnceSpec : ChangeSpec := { name := "clockOnce", fn := fun _ => fun
  | [d1, d2] => { results := [.lit (.bool true)], args := [d1, d2] }
  | _ => none }
def clockOnceRow : OpenClaim := { program := "ytcomgmgmpmjnkaa", sum := "f2529b8d181860605b05c209c095c0c16c577d686266355eae3bed85d0a758cf", func := "onionskin/onionskinlaw07.ClockOnce", spec := "clockOnce", inPlace := ["sync/atomic.StoreUint64", "sync/atomic.StoreUint32", "sync/atomic.LoadUint32", "sync/atomic.LoadUint64", "sync/atomic.CompareAndSwapUint32", "sync/atomic.SwapUint32", "sync/atomic.AddUint64"], apart := false }
def ClockOnceSaid : Prop := clockOnceRow.holds Try.pinned (OpenSpec.ofChange clockOnceSpec)

/-- ITS FALSE NEIGHBOUR: 'it returns false'. Refute it at one input. -/
def clockOnceWrong : ChangeSpec := { name := "clockOnce", fn := fun _ => fun
  | [d1, d2] => { results := [.lit (.bool false)], args := [d1, d2] }
  | _ => none }
def ClockOnceWrongFalsely : Prop := clockOnceRow.holds Try.pinned (OpenSpec.ofChange clockOnceWrong)

/-- 'onionskinlaw07.ClockPlays': WHATEVER THE INPUT: true; the input reads as it did. -/
def clockPlaysSpec : ChangeSpec := { name := "clockPlays", fn := fun _ => fun
  | [d] => { results := [.lit (.bool true)], args := [d] }
  | _ => none }
def clockPlaysRow : OpenClaim := { program := "ytcomgmgmpmjnkaa", sum := "f2529b8d181860605b05c209c095c0c16c577d686266355eae3bed85d0a758cf", func := "onionskin/onionskinlaw07.ClockPlays", spec := "clockPlays", inPlace := ["sync/atomic.AddUint64", "sync/atomic.AddInt64", "sync/atomic.SwapInt64", "sync/atomic.StoreUint64", "sync/atomic.StoreUint32", "sync/atomic.SwapUint32", "sync/atomic.LoadUint32", "sync/atomic.LoadUint64", "sync/atomic.CompareAndSwapUint32", "sync/atomic.LoadInt64"], apart := false }
def ClockPlaysSaid : Prop := clockPlaysRow.holds Try.pinned (OpenSpec.ofChange clockPlaysSpec)

/-- ITS FALSE NEIGHBOUR: 'it returns false'. Refute it at one input. -/
def clockPlaysWrong : ChangeSpec := { name := "clockPlays", fn := fun _ => fun
  | [d] => { results := [.lit (.bool false)], args := [d] }
  | _ => none }
def ClockPlaysWrongFalsely : Prop := clockPlaysRow.holds Try.pinned (OpenSpec.ofChange clockPlaysWrong)

/-- 'onionskinlaw07.ClockNone': WHATEVER THE INPUT: true; the input reads as it did. -/
def clockNoneSpec : ChangeSpec := { name := "clockNone", fn := fun _ => fun
  | [d] => { results := [.lit (.bool true)], args := [d] }
  | _ => none }
def clockNoneRow : OpenClaim := { program := "ytcomgmgmpmjnkaa", sum := "f2529b8d181860605b05c209c095c0c16c577d686266355eae3bed85d0a758cf", func := "onionskin/onionskinlaw07.ClockNone", spec := "clockNone", inPlace := ["sync/atomic.StoreUint64", "sync/atomic.StoreUint32", "sync/atomic.AddUint64", "sync/atomic.LoadUint64", "sync/atomic.AddInt64", "sync/atomic.LoadInt64", "sync/atomic.SwapInt64", "sync/atomic.LoadUint32", "sync/atomic.CompareAndSwapUint32", "sync/atomic.SwapUint32"], apart := false }
def ClockNoneSaid : Prop := clockNoneRow.holds Try.pinned (OpenSpec.ofChange clockNoneSpec)

/-- ITS FALSE NEIGHBOUR: 'it returns false'. Refute it at one input. -/
def clockNoneWrong : ChangeSpec := { name := "clockNone", fn := fun _ => fun
  | [d] => { results := [.lit (.bool false)], args := [d] }
  | _ => none }
def ClockNoneWrongFalsely : Prop := clockNoneRow.holds Try.pinned (OpenSpec.ofChange clockNoneWrong)

/-- 'onionskinlaw17.AbortDue': WHATEVER THE INPUT: true; the input reads as it did. -/
def abortDueSpec : ChangeSpec := { name := "abortDue", fn := fun _ => fun
  | [d1, d2, d3] => { results := [.lit (.bool true)], args := [d1, d2, d3] }
  | _ => none }
def abortDueRow : OpenClaim := { program := "ytcomgmgmpmjnkaa", sum := "f2529b8d181860605b05c209c095c0c16c577d686266355eae3bed85d0a758cf", func := "onionskin/onionskinlaw17.AbortDue", spec := "abortDue", unfollowed := true, recurses := true, apart := false }
def AbortDueSaid : Prop := abortDueRow.holds Try.pinned (OpenSpec.ofChange abortDueSpec)

/-- ITS FALSE NEIGHBOUR: 'it returns false'. Refute it at one input. -/
def abortDueWrong : ChangeSpec := { name := "abortDue", fn := fun _ => fun
  | [d1, d2, d3] => { results := [.lit (.bool false)], args := [d1, d2, d3] }
  | _ => none }
def AbortDueWrongFalsely : Prop := abortDueRow.holds Try.pinned (OpenSpec.ofChange abortDueWrong)

/-- 'onionskinlaw17.AbortMost': WHATEVER THE INPUT: true; the input reads as it did. -/
def abortMostSpec : ChangeSpec := { name := "abortMost", fn := fun _ => fun
  | [d] => { results := [.lit (.bool true)], args := [d] }
  | _ => none }
def abortMostRow : OpenClaim := { program := "ytcomgmgmpmjnkaa", sum := "f2529b8d181860605b05c209c095c0c16c577d686266355eae3bed85d0a758cf", func := "onionskin/onionskinlaw17.AbortMost", spec := "abortMost", unfollowed := true, recurses := true, apart := false }
def AbortMostSaid : Prop := abortMostRow.holds Try.pinned (OpenSpec.ofChange abortMostSpec)

/-- ITS FALSE NEIGHBOUR: 'it returns false'. Refute it at one input. -/
def abortMostWrong : ChangeSpec := { name := "abortMost", fn := fun _ => fun
  | [d] => { results := [.lit (.bool false)], args := [d] }
  | _ => none }
def AbortMostWrongFalsely : Prop := abortMostRow.holds Try.pinned (OpenSpec.ofChange abortMostWrong)

/-- 'onionskinlaw17.AbortPlays': WHATEVER THE INPUT: true; the input reads as it did. -/
def abortPlaysSpec : ChangeSpec := { name := "abortPlays", fn := fun _ => fun
  | [d] => { results := [.lit (.bool true)], args := [d] }
  | _ => none }
def abortPlaysRow : OpenClaim := { program := "ytcomgmgmpmjnkaa", sum := "f2529b8d181860605b05c209c095c0c16c577d686266355eae3bed85d0a758cf", func := "onionskin/onionskinlaw17.AbortPlays", spec := "abortPlays", unfollowed := true, recurses := true, apart := false }
def AbortPlaysSaid : Prop := abortPlaysRow.holds Try.pinned (OpenSpec.ofChange abortPlaysSpec)

/-- ITS FALSE NEIGHBOUR: 'it returns false'. Refute it at one input. -/
def abortPlaysWrong : ChangeSpec := { name := "abortPlays", fn := fun _ => fun
  | [d] => { results := [.lit (.bool false)], args := [d] }
  | _ => none }
def AbortPlaysWrongFalsely : Prop := abortPlaysRow.holds Try.pinned (OpenSpec.ofChange abortPlaysWrong)

/-- 'onionskinlaw16.SlotsFair': WHATEVER THE INPUT: true; the input reads as it did. -/
def slotsFairSpec : ChangeSpec := { name := "slotsFair", fn := fun _ => fun
  | [d1, d2] => { results := [.lit (.bool true)], args := [d1, d2] }
  | _ => none }
def slotsFairRow : OpenClaim := { program := "ytcomgmgmpmjnkaa", sum := "f2529b8d181860605b05c209c095c0c16c577d686266355eae3bed85d0a758cf", func := "onionskin/onionskinlaw16.SlotsFair", spec := "slotsFair", apart := false }
def SlotsFairSaid : Prop := slotsFairRow.holds Try.pinned (OpenSpec.ofChange slotsFairSpec)

/-- ITS FALSE NEIGHBOUR: 'it returns false'. Refute it at one input. -/
def slotsFairWrong : ChangeSpec := { name := "slotsFair", fn := fun _ => fun
  | [d1, d2] => { results := [.lit (.bool false)], args := [d1, d2] }
  | _ => none }
def SlotsFairWrongFalsely : Prop := slotsFairRow.holds Try.pinned (OpenSpec.ofChange slotsFairWrong)

/-- 'onionskinlaw16.SlotsWait': WHATEVER THE INPUT: true; the input reads as it did. -/
def slotsWaitSpec : ChangeSpec := { name := "slotsWait", fn := fun _ => fun
  | [d1, d2] => { results := [.lit (.bool true)], args := [d1, d2] }
  | _ => none }
def slotsWaitRow : OpenClaim := { program := "ytcomgmgmpmjnkaa", sum := "f2529b8d181860605b05c209c095c0c16c577d686266355eae3bed85d0a758cf", func := "onionskin/onionskinlaw16.SlotsWait", spec := "slotsWait", apart := false }
def SlotsWaitSaid : Prop := slotsWaitRow.holds Try.pinned (OpenSpec.ofChange slotsWaitSpec)

/-- ITS FALSE NEIGHBOUR: 'it returns false'. Refute it at one input. -/
def slotsWaitWrong : ChangeSpec := { name := "slotsWait", fn := fun _ => fun
  | [d1, d2] => { results := [.lit (.bool false)], args := [d1, d2] }
  | _ => none }
def SlotsWaitWrongFalsely : Prop := slotsWaitRow.holds Try.pinned (OpenSpec.ofChange slotsWaitWrong)

/-- 'onionskinlaw16.SlotsPlay': WHATEVER THE INPUT: true; the input reads as it did. -/
def slotsPlaySpec : ChangeSpec := { name := "slotsPlay", fn := fun _ => fun
  | [d1, d2] => { results := [.lit (.bool true)], args := [d1, d2] }
  | _ => none }
def slotsPlayRow : OpenClaim := { program := "ytcomgmgmpmjnkaa", sum := "f2529b8d181860605b05c209c095c0c16c577d686266355eae3bed85d0a758cf", func := "onionskin/onionskinlaw16.SlotsPlay", spec := "slotsPlay", apart := false }
def SlotsPlaySaid : Prop := slotsPlayRow.holds Try.pinned (OpenSpec.ofChange slotsPlaySpec)

/-- ITS FALSE NEIGHBOUR: 'it returns false'. Refute it at one input. -/
def slotsPlayWrong : ChangeSpec := { name := "slotsPlay", fn := fun _ => fun
  | [d1, d2] => { results := [.lit (.bool false)], args := [d1, d2] }
  | _ => none }
def SlotsPlayWrongFalsely : Prop := slotsPlayRow.holds Try.pinned (OpenSpec.ofChange slotsPlayWrong)

/- THE SECOND FORM. 'bulk': how many values and letters a reading holds, each counted each time it is reached (what is shared counts as often as it is met; a slice's spare places count too). A statement '..UptoSaid' is the law's where the arguments, and the package variables that the reading takes, are together of bulk at most 1048576: NARROWER than '..Said'. Prove '..Said' where nothing that the law and all that it calls make is longer than what came in: it says more and counts as full. Else prove '..UptoSaid'. A law counts once. -/
mutual
def uptoBulk {H : Type} : DataW H → Nat
  | .lit (.string bytes) => bytes.length + 1
  | .lit _ => 1
  | .nil => 1
  | .ptr d => uptoBulk d + 1
  | .slice elems spare => uptoBulkAll elems + uptoBulkAll spare + 1
  | .agg parts => uptoBulkAll parts + 1
  | .iface _ d => uptoBulk d + 1
  | .map entries => uptoBulkEntries entries + 1
  | .held _ => 1
def uptoBulkAll {H : Type} : List (DataW H) → Nat
  | [] => 0
  | d :: r => uptoBulk d + uptoBulkAll r
def uptoBulkEntries {H : Type} : List (Lit × DataW H) → Nat
  | [] => 0
  | x :: r => uptoBulkEntry x + uptoBulkEntries r
def uptoBulkEntry {H : Type} : Lit × DataW H → Nat
  | (.string bytes, d) => bytes.length + uptoBulk d + 1
  | (_, d) => uptoBulk d + 1
 end
def uptoSmall : (H : Type) → List (DataW H) → Bool := fun _ ds => decide (uptoBulkAll ds ≤ 1048576)
def OpenSpec.upto (s : _root_.Go.ChangeSpec) : _root_.Go.OpenSpec := { _root_.Go.OpenSpec.ofChange s with cond := some uptoSmall }

/-- 'onionskinlaw07.ClockOnce', WHERE WHAT IT READS IS OF BULK AT MOST 1048576: true; the input reads as it did. -/
def clockOnceUptoRow : OpenClaim := { program := "ytcomgmgmpmjnkaa", sum := "f2529b8d181860605b05c209c095c0c16c577d686266355eae3bed85d0a758cf", func := "onionskin/onionskinlaw07.ClockOnce", spec := "clockOnce", inPlace := ["sync/atomic.StoreUint64", "sync/atomic.StoreUint32", "sync/atomic.LoadUint32", "sync/atomic.LoadUint64", "sync/atomic.CompareAndSwapUint32", "sync/atomic.SwapUint32", "sync/atomic.AddUint64"], apart := false, narrowed := true }
def ClockOnceUptoSaid : Prop := clockOnceUptoRow.holds Try.pinned (OpenSpec.upto clockOnceSpec)

/-- 'onionskinlaw07.ClockPlays', WHERE WHAT IT READS IS OF BULK AT MOST 1048576: true; the input reads as it did. -/
def clockPlaysUptoRow : OpenClaim := { program := "ytcomgmgmpmjnkaa", sum := "f2529b8d181860605b05c209c095c0c16c577d686266355eae3bed85d0a758cf", func := "onionskin/onionskinlaw07.ClockPlays", spec := "clockPlays", inPlace := ["sync/atomic.AddUint64", "sync/atomic.AddInt64", "sync/atomic.SwapInt64", "sync/atomic.StoreUint64", "sync/atomic.StoreUint32", "sync/atomic.SwapUint32", "sync/atomic.LoadUint32", "sync/atomic.LoadUint64", "sync/atomic.CompareAndSwapUint32", "sync/atomic.LoadInt64"], apart := false, narrowed := true }
def ClockPlaysUptoSaid : Prop := clockPlaysUptoRow.holds Try.pinned (OpenSpec.upto clockPlaysSpec)

/-- 'onionskinlaw07.ClockNone', WHERE WHAT IT READS IS OF BULK AT MOST 1048576: true; the input reads as it did. -/
def clockNoneUptoRow : OpenClaim := { program := "ytcomgmgmpmjnkaa", sum := "f2529b8d181860605b05c209c095c0c16c577d686266355eae3bed85d0a758cf", func := "onionskin/onionskinlaw07.ClockNone", spec := "clockNone", inPlace := ["sync/atomic.StoreUint64", "sync/atomic.StoreUint32", "sync/atomic.AddUint64", "sync/atomic.LoadUint64", "sync/atomic.AddInt64", "sync/atomic.LoadInt64", "sync/atomic.SwapInt64", "sync/atomic.LoadUint32", "sync/atomic.CompareAndSwapUint32", "sync/atomic.SwapUint32"], apart := false, narrowed := true }
def ClockNoneUptoSaid : Prop := clockNoneUptoRow.holds Try.pinned (OpenSpec.upto clockNoneSpec)

/-- 'onionskinlaw17.AbortDue', WHERE WHAT IT READS IS OF BULK AT MOST 1048576: true; the input reads as it did. -/
def abortDueUptoRow : OpenClaim := { program := "ytcomgmgmpmjnkaa", sum := "f2529b8d181860605b05c209c095c0c16c577d686266355eae3bed85d0a758cf", func := "onionskin/onionskinlaw17.AbortDue", spec := "abortDue", unfollowed := true, recurses := true, apart := false, narrowed := true }
def AbortDueUptoSaid : Prop := abortDueUptoRow.holds Try.pinned (OpenSpec.upto abortDueSpec)

/-- 'onionskinlaw17.AbortMost', WHERE WHAT IT READS IS OF BULK AT MOST 1048576: true; the input reads as it did. -/
def abortMostUptoRow : OpenClaim := { program := "ytcomgmgmpmjnkaa", sum := "f2529b8d181860605b05c209c095c0c16c577d686266355eae3bed85d0a758cf", func := "onionskin/onionskinlaw17.AbortMost", spec := "abortMost", unfollowed := true, recurses := true, apart := false, narrowed := true }
def AbortMostUptoSaid : Prop := abortMostUptoRow.holds Try.pinned (OpenSpec.upto abortMostSpec)

/-- 'onionskinlaw17.AbortPlays', WHERE WHAT IT READS IS OF BULK AT MOST 1048576: true; the input reads as it did. -/
def abortPlaysUptoRow : OpenClaim := { program := "ytcomgmgmpmjnkaa", sum := "f2529b8d181860605b05c209c095c0c16c577d686266355eae3bed85d0a758cf", func := "onionskin/onionskinlaw17.AbortPlays", spec := "abortPlays", unfollowed := true, recurses := true, apart := false, narrowed := true }
def AbortPlaysUptoSaid : Prop := abortPlaysUptoRow.holds Try.pinned (OpenSpec.upto abortPlaysSpec)

/-- 'onionskinlaw16.SlotsFair', WHERE WHAT IT READS IS OF BULK AT MOST 1048576: true; the input reads as it did. -/
def slotsFairUptoRow : OpenClaim := { program := "ytcomgmgmpmjnkaa", sum := "f2529b8d181860605b05c209c095c0c16c577d686266355eae3bed85d0a758cf", func := "onionskin/onionskinlaw16.SlotsFair", spec := "slotsFair", apart := false, narrowed := true }
def SlotsFairUptoSaid : Prop := slotsFairUptoRow.holds Try.pinned (OpenSpec.upto slotsFairSpec)

/-- 'onionskinlaw16.SlotsWait', WHERE WHAT IT READS IS OF BULK AT MOST 1048576: true; the input reads as it did. -/
def slotsWaitUptoRow : OpenClaim := { program := "ytcomgmgmpmjnkaa", sum := "f2529b8d181860605b05c209c095c0c16c577d686266355eae3bed85d0a758cf", func := "onionskin/onionskinlaw16.SlotsWait", spec := "slotsWait", apart := false, narrowed := true }
def SlotsWaitUptoSaid : Prop := slotsWaitUptoRow.holds Try.pinned (OpenSpec.upto slotsWaitSpec)

/-- 'onionskinlaw16.SlotsPlay', WHERE WHAT IT READS IS OF BULK AT MOST 1048576: true; the input reads as it did. -/
def slotsPlayUptoRow : OpenClaim := { program := "ytcomgmgmpmjnkaa", sum := "f2529b8d181860605b05c209c095c0c16c577d686266355eae3bed85d0a758cf", func := "onionskin/onionskinlaw16.SlotsPlay", spec := "slotsPlay", apart := false, narrowed := true }
def SlotsPlayUptoSaid : Prop := slotsPlayUptoRow.holds Try.pinned (OpenSpec.upto slotsPlaySpec)

end Rows
end Go.Proofs.Ytcomgmgmpmjnkaa
