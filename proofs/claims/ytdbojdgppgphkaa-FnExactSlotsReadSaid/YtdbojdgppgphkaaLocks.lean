/- The numbers under which this dump holds sync.Mutex, and that it holds it. No condition. -/
import Derived.Test.YtdbojdgppgphkaaProg
import Derived.Conc.RwLib
import Derived.Conc.MuData
import Derived.KernelRfl
namespace Go.Proofs
abbrev Try.muLink : Go.Conc.Locks.MuLink := { lock := 13, unlock := 14, ilock := 16, iunlock := 17, lockSlow := 24, unlockSlow := 27, disable := 20, enable := 22, acquire := 23, relMerge := 25, cas32 := 21, add32 := 26, tMutex := 45, tIMutex := 43, tPMutex := 49, tPIMutex := 56, tPI32 := 58, tUP := 60, tNoCopy := 40, tU32 := 41 }
theorem Try.muLib : Go.Conc.Locks.MuLib Try.prog Try.muLink :=
  ⟨Try.func13, Try.func14, Try.func16, Try.func17, Try.func20, Try.func22, Try.func23, Try.func25, Try.func21, Try.func26, Try.underlying43, Try.runUnderlying43, Try.sizeOf43, Try.isAgg43, Try.zeroValue43, Try.underlying45, Try.runUnderlying45, Try.sizeOf45, Try.isAgg45, Try.zeroValue45, Try.underlying49, Try.runUnderlying49, Try.sizeOf49, Try.isAgg49, Try.zeroValue49, Try.underlying56, Try.runUnderlying56, Try.sizeOf56, Try.isAgg56, Try.zeroValue56, Try.underlying58, Try.runUnderlying58, Try.sizeOf58, Try.isAgg58, Try.zeroValue58, Try.underlying60, Try.runUnderlying60, Try.sizeOf60, Try.isAgg60, Try.zeroValue60, Try.underlying40, Try.runUnderlying40, Try.sizeOf40, Try.isAgg40, Try.zeroValue40, Try.underlying21, Try.runUnderlying21, Try.sizeOf21, Try.isAgg21, Try.zeroValue21, (by kernel_rfl)⟩
end Go.Proofs
