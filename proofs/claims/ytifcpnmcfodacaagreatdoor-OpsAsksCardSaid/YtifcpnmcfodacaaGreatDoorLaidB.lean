/- The world of the witness: its shape. No condition. -/
import Derived.Test.YtifcpnmcfodacaaGreatDoorLaidA

namespace Go.Ev
open Go Go.Proofs Go.Proofs.YtifcpnmcfodacaaGreatDoor
set_option maxRecDepth 100000
theorem wit_zip (os : Os) (args : Array Value) : ((witWorld os).forCall (fun _ _ => 0) ⟨#[], args, []⟩).variablesZipB Tryz.prog = true := by kernel_rfl
theorem wit_rest (os : Os) (args : Array Value) : (((witWorld os).forCall (fun _ _ => 0) ⟨#[], args, []⟩).heap.toList.drop Tryz.prog.globals.size).take ((begin Tryz.prog (fun _ _ => 0) default).world.heap.size - Tryz.prog.globals.size) =
      (begin Tryz.prog (fun _ _ => 0) default).world.heap.toList.drop Tryz.prog.globals.size := by kernel_rfl
theorem wit_shape (os : Os) (args : Array Value) : ((witWorld os).forCall (fun _ _ => 0) ⟨#[], args, []⟩).Shaped Tryz.prog := World.shaped_of_ZipB (wit_zip os args) (wit_rest os args)
theorem wit_met_call (os : Os) (args : Array Value) : laidMetH Tryz.prog laid8 ((witWorld os).forCall (fun _ _ => 0) ⟨#[], args, []⟩).memory := (wit_met os).of_heap (by simp [World.memory, World.forCall, Input.heap])
end Go.Ev
