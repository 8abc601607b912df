/-
  No cell of these rows narrows 'for every input' (looked for: loops, veiled, ifaces, maps, wideKeys, modest, calm, conditions, laid).
  DERIVED. THE GIVEN ROWS OF THIS SEAT. 7 by the template 'for every input the law returns true; each argument reads behind the call as it read before'; 0 by the template 'total and deterministic' (their statements: YteokofkdfeglnaaTotals.lean).
  GIVEN WITH THE SEED: the statements are not yours to turn. If you find one false, say at which input.
  Laid BY PROGRAM, IN A SANDBOX (cutbox-rows.mjs): the forced cells as the released guide's own fill.sh prints them over the translation 7eabe3c46992e4f2… (all of the seat's roots in one cut). By AI agents, Wed Nov 11 2026. No macro, syntax, notation, axiom, sorry.
-/
import Derived.Test.YteokofkdfeglnaaChecked
import GoSem.Claim
import GoSem.ClaimJoined
import GoSem.ClaimMapViews
import Derived.JoinedTies
import Derived.KernelRfl
namespace Go.Proofs.Yteokofkdfeglnaa
/- THE CELL 'sum', in the pinned program and in every row, IS THE sha256 OF THE DUMP (.gsa) THAT YteokofkdfeglnaaProg.lean LOADS. Nothing in Lean hashes anything: it is a label: what it is worth is what the hold of that sum in a sandbox is worth. -/
noncomputable def Try.pinned : Pinned := { name := "yteokofkdfeglnaa", sum := "7eabe3c46992e4f23e7ba9c512d190905cb86eaf991b2d9f62dc4b2051479f1f", checked := Try.checked }
namespace Rows
def none {H : Type} : Left H := { results := [], args := [] }

/-- 'onionskinlaw14.AbiChecks': WHATEVER THE INPUT: true; the input reads as it did. -/
def abiChecksSpec : ChangeSpec := { name := "abiChecks", fn := fun _ => fun
  | [d] => { results := [.lit (.bool true)], args := [d] }
  | _ => none }
def abiChecksRow : OpenClaim := { program := "yteokofkdfeglnaa", sum := "7eabe3c46992e4f23e7ba9c512d190905cb86eaf991b2d9f62dc4b2051479f1f", func := "onionskin/onionskinlaw14.AbiChecks", spec := "abiChecks", inPlace := ["internal/bytealg.IndexByteString"], apart := false }
def AbiChecksSaid : Prop := abiChecksRow.holds Try.pinned (OpenSpec.ofChange abiChecksSpec)

/-- ITS FALSE NEIGHBOUR: 'it returns false'. Refute it at one input. -/
def abiChecksWrong : ChangeSpec := { name := "abiChecks", fn := fun _ => fun
  | [d] => { results := [.lit (.bool false)], args := [d] }
  | _ => none }
def AbiChecksWrongFalsely : Prop := abiChecksRow.holds Try.pinned (OpenSpec.ofChange abiChecksWrong)

/-- 'onionskinlaw14.AbiForty': WHATEVER THE INPUT: true; the input reads as it did. -/
def abiFortySpec : ChangeSpec := { name := "abiForty", fn := fun _ => fun
  | [d] => { results := [.lit (.bool true)], args := [d] }
  | _ => none }
def abiFortyRow : OpenClaim := { program := "yteokofkdfeglnaa", sum := "7eabe3c46992e4f23e7ba9c512d190905cb86eaf991b2d9f62dc4b2051479f1f", func := "onionskin/onionskinlaw14.AbiForty", spec := "abiForty", inPlace := ["internal/bytealg.IndexByteString"], apart := false }
def AbiFortySaid : Prop := abiFortyRow.holds Try.pinned (OpenSpec.ofChange abiFortySpec)

/-- ITS FALSE NEIGHBOUR: 'it returns false'. Refute it at one input. -/
def abiFortyWrong : ChangeSpec := { name := "abiForty", fn := fun _ => fun
  | [d] => { results := [.lit (.bool false)], args := [d] }
  | _ => none }
def AbiFortyWrongFalsely : Prop := abiFortyRow.holds Try.pinned (OpenSpec.ofChange abiFortyWrong)

/-- 'onionskinlaw14.AbiNames': WHATEVER THE INPUT: true; the input reads as it did. -/
def abiNamesSpec : ChangeSpec := { name := "abiNames", fn := fun _ => fun
  | [d] => { results := [.lit (.bool true)], args := [d] }
  | _ => none }
def abiNamesRow : OpenClaim := { program := "yteokofkdfeglnaa", sum := "7eabe3c46992e4f23e7ba9c512d190905cb86eaf991b2d9f62dc4b2051479f1f", func := "onionskin/onionskinlaw14.AbiNames", spec := "abiNames", inPlace := ["internal/bytealg.IndexByteString"], apart := false }
def AbiNamesSaid : Prop := abiNamesRow.holds Try.pinned (OpenSpec.ofChange abiNamesSpec)

/-- ITS FALSE NEIGHBOUR: 'it returns false'. Refute it at one input. -/
def abiNamesWrong : ChangeSpec := { name := "abiNames", fn := fun _ => fun
  | [d] => { results := [.lit (.bool false)], args := [d] }
  | _ => none }
def AbiNamesWrongFalsely : Prop := abiNamesRow.holds Try.pinned (OpenSpec.ofChange abiNamesWrong)

/-- 'onionskinlaw14.AbiRenames': WHATEVER THE INPUT: true; the input reads as it did. -/
def abiRenamesSpec : ChangeSpec := { name := "abiRenames", fn := fun _ => fun
  | [d1, d2, d3] => { results := [.lit (.bool true)], args := [d1, d2, d3] }
  | _ => none }
def abiRenamesRow : OpenClaim := { program := "yteokofkdfeglnaa", sum := "7eabe3c46992e4f23e7ba9c512d190905cb86eaf991b2d9f62dc4b2051479f1f", func := "onionskin/onionskinlaw14.AbiRenames", spec := "abiRenames", inPlace := ["internal/bytealg.IndexByteString"], unfollowed := true, recurses := true, apart := false }
def AbiRenamesSaid : Prop := abiRenamesRow.holds Try.pinned (OpenSpec.ofChange abiRenamesSpec)

/-- ITS FALSE NEIGHBOUR: 'it returns false'. Refute it at one input. -/
def abiRenamesWrong : ChangeSpec := { name := "abiRenames", fn := fun _ => fun
  | [d1, d2, d3] => { results := [.lit (.bool false)], args := [d1, d2, d3] }
  | _ => none }
def AbiRenamesWrongFalsely : Prop := abiRenamesRow.holds Try.pinned (OpenSpec.ofChange abiRenamesWrong)

/-- 'onionskinlaw13.LedgerPlays': WHATEVER THE INPUT: true; the input reads as it did. -/
def ledgerPlaysSpec : ChangeSpec := { name := "ledgerPlays", fn := fun _ => fun
  | [d1, d2] => { results := [.lit (.bool true)], args := [d1, d2] }
  | _ => none }
def ledgerPlaysRow : OpenClaim := { program := "yteokofkdfeglnaa", sum := "7eabe3c46992e4f23e7ba9c512d190905cb86eaf991b2d9f62dc4b2051479f1f", func := "onionskin/onionskinlaw13.LedgerPlays", spec := "ledgerPlays", inPlace := ["(*internal/sync.Mutex).Lock", "internal/race.Disable", "sync/atomic.CompareAndSwapInt32", "internal/race.Enable", "internal/race.Acquire", "(*internal/sync.Mutex).lockSlow", "internal/sync.runtime_canSpin", "internal/sync.runtime_doSpin", "internal/sync.throw", "internal/sync.runtime_nanotime", "internal/sync.runtime_SemacquireMutex", "sync/atomic.AddInt32", "(*internal/sync.Mutex).Unlock", "internal/race.ReleaseMerge", "(*internal/sync.Mutex).unlockSlow", "internal/sync.fatal", "internal/sync.runtime_Semrelease"], apart := false }
def LedgerPlaysSaid : Prop := ledgerPlaysRow.holds Try.pinned (OpenSpec.ofChange ledgerPlaysSpec)

/-- ITS FALSE NEIGHBOUR: 'it returns false'. Refute it at one input. -/
def ledgerPlaysWrong : ChangeSpec := { name := "ledgerPlays", fn := fun _ => fun
  | [d1, d2] => { results := [.lit (.bool false)], args := [d1, d2] }
  | _ => none }
def LedgerPlaysWrongFalsely : Prop := ledgerPlaysRow.holds Try.pinned (OpenSpec.ofChange ledgerPlaysWrong)

/-- 'onionskinlaw13.LedgerKeeps': WHATEVER THE INPUT: true; the input reads as it did. -/
def ledgerKeepsSpec : ChangeSpec := { name := "ledgerKeeps", fn := fun _ => fun
  | [d1, d2] => { results := [.lit (.bool true)], args := [d1, d2] }
  | _ => none }
def ledgerKeepsRow : OpenClaim := { program := "yteokofkdfeglnaa", sum := "7eabe3c46992e4f23e7ba9c512d190905cb86eaf991b2d9f62dc4b2051479f1f", func := "onionskin/onionskinlaw13.LedgerKeeps", spec := "ledgerKeeps", inPlace := ["(*internal/sync.Mutex).Lock", "internal/race.Disable", "sync/atomic.CompareAndSwapInt32", "internal/race.Enable", "internal/race.Acquire", "(*internal/sync.Mutex).lockSlow", "internal/sync.runtime_canSpin", "internal/sync.runtime_doSpin", "internal/sync.throw", "internal/sync.runtime_nanotime", "internal/sync.runtime_SemacquireMutex", "sync/atomic.AddInt32", "(*internal/sync.Mutex).Unlock", "internal/race.ReleaseMerge", "(*internal/sync.Mutex).unlockSlow", "internal/sync.fatal", "internal/sync.runtime_Semrelease"], apart := false }
def LedgerKeepsSaid : Prop := ledgerKeepsRow.holds Try.pinned (OpenSpec.ofChange ledgerKeepsSpec)

/-- ITS FALSE NEIGHBOUR: 'it returns false'. Refute it at one input. -/
def ledgerKeepsWrong : ChangeSpec := { name := "ledgerKeeps", fn := fun _ => fun
  | [d1, d2] => { results := [.lit (.bool false)], args := [d1, d2] }
  | _ => none }
def LedgerKeepsWrongFalsely : Prop := ledgerKeepsRow.holds Try.pinned (OpenSpec.ofChange ledgerKeepsWrong)

/-- 'onionskinlaw13.LedgerNone': WHATEVER THE INPUT: true; the input reads as it did. -/
def ledgerNoneSpec : ChangeSpec := { name := "ledgerNone", fn := fun _ => fun
  | [d] => { results := [.lit (.bool true)], args := [d] }
  | _ => none }
def ledgerNoneRow : OpenClaim := { program := "yteokofkdfeglnaa", sum := "7eabe3c46992e4f23e7ba9c512d190905cb86eaf991b2d9f62dc4b2051479f1f", func := "onionskin/onionskinlaw13.LedgerNone", spec := "ledgerNone", inPlace := ["(*internal/sync.Mutex).Lock", "internal/race.Disable", "sync/atomic.CompareAndSwapInt32", "internal/race.Enable", "internal/race.Acquire", "(*internal/sync.Mutex).lockSlow", "internal/sync.runtime_canSpin", "internal/sync.runtime_doSpin", "internal/sync.throw", "internal/sync.runtime_nanotime", "internal/sync.runtime_SemacquireMutex", "sync/atomic.AddInt32", "(*internal/sync.Mutex).Unlock", "internal/race.ReleaseMerge", "(*internal/sync.Mutex).unlockSlow", "internal/sync.fatal", "internal/sync.runtime_Semrelease"], apart := false }
def LedgerNoneSaid : Prop := ledgerNoneRow.holds Try.pinned (OpenSpec.ofChange ledgerNoneSpec)

/-- ITS FALSE NEIGHBOUR: 'it returns false'. Refute it at one input. -/
def ledgerNoneWrong : ChangeSpec := { name := "ledgerNone", fn := fun _ => fun
  | [d] => { results := [.lit (.bool false)], args := [d] }
  | _ => none }
def LedgerNoneWrongFalsely : Prop := ledgerNoneRow.holds Try.pinned (OpenSpec.ofChange ledgerNoneWrong)

/- THE SECOND FORM. 'bulk': how many values and letters a reading holds, each counted each time it is reached (what is shared counts as often as it is met; a slice's spare places count too). A statement '..UptoSaid' is the law's where the arguments, and the package variables that the reading takes, are together of bulk at most 1048576: NARROWER than '..Said'. Prove '..Said' where nothing that the law and all that it calls make is longer than what came in: it says more and counts as full. Else prove '..UptoSaid'. A law counts once. -/
mutual
def uptoBulk {H : Type} : DataW H → Nat
  | .lit (.string bytes) => bytes.length + 1
  | .lit _ => 1
  | .nil => 1
  | .ptr d => uptoBulk d + 1
  | .slice elems spare => uptoBulkAll elems + uptoBulkAll spare + 1
  | .agg parts => uptoBulkAll parts + 1
  | .iface _ d => uptoBulk d + 1
  | .map entries => uptoBulkEntries entries + 1
  | .held _ => 1
def uptoBulkAll {H : Type} : List (DataW H) → Nat
  | [] => 0
  | d :: r => uptoBulk d + uptoBulkAll r
def uptoBulkEntries {H : Type} : List (Lit × DataW H) → Nat
  | [] => 0
  | x :: r => uptoBulkEntry x + uptoBulkEntries r
def uptoBulkEntry {H : Type} : Lit × DataW H → Nat
  | (.string bytes, d) => bytes.length + uptoBulk d + 1
  | (_, d) => uptoBulk d + 1
 end
def uptoSmall : (H : Type) → List (DataW H) → Bool := fun _ ds => decide (uptoBulkAll ds ≤ 1048576)
def OpenSpec.upto (s : _root_.Go.ChangeSpec) : _root_.Go.OpenSpec := { _root_.Go.OpenSpec.ofChange s with cond := some uptoSmall }

/-- 'onionskinlaw14.AbiChecks', WHERE WHAT IT READS IS OF BULK AT MOST 1048576: true; the input reads as it did. -/
def abiChecksUptoRow : OpenClaim := { program := "yteokofkdfeglnaa", sum := "7eabe3c46992e4f23e7ba9c512d190905cb86eaf991b2d9f62dc4b2051479f1f", func := "onionskin/onionskinlaw14.AbiChecks", spec := "abiChecks", inPlace := ["internal/bytealg.IndexByteString"], apart := false, narrowed := true }
def AbiChecksUptoSaid : Prop := abiChecksUptoRow.holds Try.pinned (OpenSpec.upto abiChecksSpec)

/-- 'onionskinlaw14.AbiForty', WHERE WHAT IT READS IS OF BULK AT MOST 1048576: true; the input reads as it did. -/
def abiFortyUptoRow : OpenClaim := { program := "yteokofkdfeglnaa", sum := "7eabe3c46992e4f23e7ba9c512d190905cb86eaf991b2d9f62dc4b2051479f1f", func := "onionskin/onionskinlaw14.AbiForty", spec := "abiForty", inPlace := ["internal/bytealg.IndexByteString"], apart := false, narrowed := true }
def AbiFortyUptoSaid : Prop := abiFortyUptoRow.holds Try.pinned (OpenSpec.upto abiFortySpec)

/-- 'onionskinlaw14.AbiNames', WHERE WHAT IT READS IS OF BULK AT MOST 1048576: true; the input reads as it did. -/
def abiNamesUptoRow : OpenClaim := { program := "yteokofkdfeglnaa", sum := "7eabe3c46992e4f23e7ba9c512d190905cb86eaf991b2d9f62dc4b2051479f1f", func := "onionskin/onionskinlaw14.AbiNames", spec := "abiNames", inPlace := ["internal/bytealg.IndexByteString"], apart := false, narrowed := true }
def AbiNamesUptoSaid : Prop := abiNamesUptoRow.holds Try.pinned (OpenSpec.upto abiNamesSpec)

/-- 'onionskinlaw14.AbiRenames', WHERE WHAT IT READS IS OF BULK AT MOST 1048576: true; the input reads as it did. -/
def abiRenamesUptoRow : OpenClaim := { program := "yteokofkdfeglnaa", sum := "7eabe3c46992e4f23e7ba9c512d190905cb86eaf991b2d9f62dc4b2051479f1f", func := "onionskin/onionskinlaw14.AbiRenames", spec := "abiRenames", inPlace := ["internal/bytealg.IndexByteString"], unfollowed := true, recurses := true, apart := false, narrowed := true }
def AbiRenamesUptoSaid : Prop := abiRenamesUptoRow.holds Try.pinned (OpenSpec.upto abiRenamesSpec)

/-- 'onionskinlaw13.LedgerPlays', WHERE WHAT IT READS IS OF BULK AT MOST 1048576: true; the input reads as it did. -/
def ledgerPlaysUptoRow : OpenClaim := { program := "yteokofkdfeglnaa", sum := "7eabe3c46992e4f23e7ba9c512d190905cb86eaf991b2d9f62dc4b2051479f1f", func := "onionskin/onionskinlaw13.LedgerPlays", spec := "ledgerPlays", inPlace := ["(*internal/sync.Mutex).Lock", "internal/race.Disable", "sync/atomic.CompareAndSwapInt32", "internal/race.Enable", "internal/race.Acquire", "(*internal/sync.Mutex).lockSlow", "internal/sync.runtime_canSpin", "internal/sync.runtime_doSpin", "internal/sync.throw", "internal/sync.runtime_nanotime", "internal/sync.runtime_SemacquireMutex", "sync/atomic.AddInt32", "(*internal/sync.Mutex).Unlock", "internal/race.ReleaseMerge", "(*internal/sync.Mutex).unlockSlow", "internal/sync.fatal", "internal/sync.runtime_Semrelease"], apart := false, narrowed := true }
def LedgerPlaysUptoSaid : Prop := ledgerPlaysUptoRow.holds Try.pinned (OpenSpec.upto ledgerPlaysSpec)

/-- 'onionskinlaw13.LedgerKeeps', WHERE WHAT IT READS IS OF BULK AT MOST 1048576: true; the input reads as it did. -/
def ledgerKeepsUptoRow : OpenClaim := { program := "yteokofkdfeglnaa", sum := "7eabe3c46992e4f23e7ba9c512d190905cb86eaf991b2d9f62dc4b2051479f1f", func := "onionskin/onionskinlaw13.LedgerKeeps", spec := "ledgerKeeps", inPlace := ["(*internal/sync.Mutex).Lock", "internal/race.Disable", "sync/atomic.CompareAndSwapInt32", "internal/race.Enable", "internal/race.Acquire", "(*internal/sync.Mutex).lockSlow", "internal/sync.runtime_canSpin", "internal/sync.runtime_doSpin", "internal/sync.throw", "internal/sync.runtime_nanotime", "internal/sync.runtime_SemacquireMutex", "sync/atomic.AddInt32", "(*internal/sync.Mutex).Unlock", "internal/race.ReleaseMerge", "(*internal/sync.Mutex).unlockSlow", "internal/sync.fatal", "internal/sync.runtime_Semrelease"], apart := false, narrowed := true }
def LedgerKeepsUptoSaid : Prop := ledgerKeepsUptoRow.holds Try.pinned (OpenSpec.upto ledgerKeepsSpec)

/-- 'onionskinlaw13.LedgerNone', WHERE WHAT IT READS IS OF BULK AT MOST 1048576: true; the input reads as it did. -/
def ledgerNoneUptoRow : OpenClaim := { program := "yteokofkdfeglnaa", sum := "7eabe3c46992e4f23e7ba9c512d190905cb86eaf991b2d9f62dc4b2051479f1f", func := "onionskin/onionskinlaw13.LedgerNone", spec := "ledgerNone", inPlace := ["(*internal/sync.Mutex).Lock", "internal/race.Disable", "sync/atomic.CompareAndSwapInt32", "internal/race.Enable", "internal/race.Acquire", "(*internal/sync.Mutex).lockSlow", "internal/sync.runtime_canSpin", "internal/sync.runtime_doSpin", "internal/sync.throw", "internal/sync.runtime_nanotime", "internal/sync.runtime_SemacquireMutex", "sync/atomic.AddInt32", "(*internal/sync.Mutex).Unlock", "internal/race.ReleaseMerge", "(*internal/sync.Mutex).unlockSlow", "internal/sync.fatal", "internal/sync.runtime_Semrelease"], apart := false, narrowed := true }
def LedgerNoneUptoSaid : Prop := ledgerNoneUptoRow.holds Try.pinned (OpenSpec.upto ledgerNoneSpec)

end Rows
end Go.Proofs.Yteokofkdfeglnaa
