/- The locks of package sync under this program's numbers. -/
import Derived.Test.YteokofkdfeglnaaProg
import Derived.Conc.RwLib
import Derived.Conc.MuData
import Derived.Conc.MuLone
import Derived.KernelRfl
namespace Go.Proofs.Yteokofkdfeglnaa
abbrev muLink : Go.Conc.Locks.MuLink := { lock := 42, unlock := 43, ilock := 46, iunlock := 47, lockSlow := 53, unlockSlow := 56, disable := 49, enable := 51, acquire := 52, relMerge := 54, cas32 := 50, add32 := 55, tMutex := 75, tIMutex := 73, tPMutex := 85, tPIMutex := 86, tPI32 := 88, tUP := 90, tNoCopy := 71, tU32 := 23 }
theorem muLib : Go.Conc.Locks.MuLib Try.prog muLink :=
  ⟨Try.func42, Try.func43, Try.func46, Try.func47, Try.func49, Try.func51, Try.func52, Try.func54, Try.func50, Try.func55, Try.underlying73, Try.runUnderlying73, Try.sizeOf73, Try.isAgg73, Try.zeroValue73, Try.underlying75, Try.runUnderlying75, Try.sizeOf75, Try.isAgg75, Try.zeroValue75, Try.underlying85, Try.runUnderlying85, Try.sizeOf85, Try.isAgg85, Try.zeroValue85, Try.underlying86, Try.runUnderlying86, Try.sizeOf86, Try.isAgg86, Try.zeroValue86, Try.underlying88, Try.runUnderlying88, Try.sizeOf88, Try.isAgg88, Try.zeroValue88, Try.underlying90, Try.runUnderlying90, Try.sizeOf90, Try.isAgg90, Try.zeroValue90, Try.underlying71, Try.runUnderlying71, Try.sizeOf71, Try.isAgg71, Try.zeroValue71, Try.underlying21, Try.runUnderlying21, Try.sizeOf21, Try.isAgg21, Try.zeroValue21, (by kernel_rfl)⟩
end Go.Proofs.Yteokofkdfeglnaa
