/- The numbers under which this dump holds sync.Mutex, and that it holds it. No condition. -/
import Derived.Test.YtdbojdgppgphkaaDoorProg
import Derived.Conc.RwLib
import Derived.Conc.MuData
import Derived.KernelRfl
namespace Go.Proofs
abbrev Tryd.muLink : Go.Conc.Locks.MuLink := { lock := 120, unlock := 121, ilock := 143, iunlock := 144, lockSlow := 162, unlockSlow := 165, disable := 158, enable := 160, acquire := 161, relMerge := 163, cas32 := 159, add32 := 164, tMutex := 163, tIMutex := 161, tPMutex := 183, tPIMutex := 199, tPI32 := 201, tUP := 196, tNoCopy := 159, tU32 := 130 }
theorem Tryd.muLib : Go.Conc.Locks.MuLib Tryd.prog Tryd.muLink :=
  ⟨Tryd.func120, Tryd.func121, Tryd.func143, Tryd.func144, Tryd.func158, Tryd.func160, Tryd.func161, Tryd.func163, Tryd.func159, Tryd.func164, Tryd.underlying161, Tryd.runUnderlying161, Tryd.sizeOf161, Tryd.isAgg161, Tryd.zeroValue161, Tryd.underlying163, Tryd.runUnderlying163, Tryd.sizeOf163, Tryd.isAgg163, Tryd.zeroValue163, Tryd.underlying183, Tryd.runUnderlying183, Tryd.sizeOf183, Tryd.isAgg183, Tryd.zeroValue183, Tryd.underlying199, Tryd.runUnderlying199, Tryd.sizeOf199, Tryd.isAgg199, Tryd.zeroValue199, Tryd.underlying201, Tryd.runUnderlying201, Tryd.sizeOf201, Tryd.isAgg201, Tryd.zeroValue201, Tryd.underlying196, Tryd.runUnderlying196, Tryd.sizeOf196, Tryd.isAgg196, Tryd.zeroValue196, Tryd.underlying159, Tryd.runUnderlying159, Tryd.sizeOf159, Tryd.isAgg159, Tryd.zeroValue159, Tryd.underlying21, Tryd.runUnderlying21, Tryd.sizeOf21, Tryd.isAgg21, Tryd.zeroValue21, (by kernel_rfl)⟩
end Go.Proofs
