/- The document's example is answered. -/
import Derived.Test.YtldlcejlfaogbaaGreatDoorDmIr
namespace Go.Proofs.YtldlcejlfaogbaaGreatDoor.Vs
set_option maxRecDepth 100000
noncomputable def Tb : Tab Zs := tabOf Zs fnL fnL_ok (fun _ _ => none) (fun _ _ _ h => by cases h)
theorem known_c : Fn Zs 10 [] (.bool true) := run_ok (T := Tb) (n := 200) rfl rfl (by kernel_rfl)

end Go.Proofs.YtldlcejlfaogbaaGreatDoor.Vs
