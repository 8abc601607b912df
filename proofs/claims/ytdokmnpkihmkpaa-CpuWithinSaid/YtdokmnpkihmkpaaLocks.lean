/- The locks of package sync under this program's numbers. -/
import Derived.Test.YtdokmnpkihmkpaaProg
import Derived.Conc.RwLib
import Derived.Conc.MuData
import Derived.Conc.MuLone
import Derived.KernelRfl
namespace Go.Proofs.Ytdokmnpkihmkpaa
abbrev muLink : Go.Conc.Locks.MuLink := { lock := 88, unlock := 89, ilock := 93, iunlock := 94, lockSlow := 101, unlockSlow := 104, disable := 97, enable := 99, acquire := 100, relMerge := 102, cas32 := 98, add32 := 103, tMutex := 87, tIMutex := 85, tPMutex := 165, tPIMutex := 168, tPI32 := 170, tUP := 172, tNoCopy := 80, tU32 := 28 }
theorem muLib : Go.Conc.Locks.MuLib Try.prog muLink :=
  ⟨Try.func88, Try.func89, Try.func93, Try.func94, Try.func97, Try.func99, Try.func100, Try.func102, Try.func98, Try.func103, Try.underlying85, Try.runUnderlying85, Try.sizeOf85, Try.isAgg85, Try.zeroValue85, Try.underlying87, Try.runUnderlying87, Try.sizeOf87, Try.isAgg87, Try.zeroValue87, Try.underlying165, Try.runUnderlying165, Try.sizeOf165, Try.isAgg165, Try.zeroValue165, Try.underlying168, Try.runUnderlying168, Try.sizeOf168, Try.isAgg168, Try.zeroValue168, Try.underlying170, Try.runUnderlying170, Try.sizeOf170, Try.isAgg170, Try.zeroValue170, Try.underlying172, Try.runUnderlying172, Try.sizeOf172, Try.isAgg172, Try.zeroValue172, Try.underlying80, Try.runUnderlying80, Try.sizeOf80, Try.isAgg80, Try.zeroValue80, Try.underlying21, Try.runUnderlying21, Try.sizeOf21, Try.isAgg21, Try.zeroValue21, (by kernel_rfl)⟩
end Go.Proofs.Ytdokmnpkihmkpaa
