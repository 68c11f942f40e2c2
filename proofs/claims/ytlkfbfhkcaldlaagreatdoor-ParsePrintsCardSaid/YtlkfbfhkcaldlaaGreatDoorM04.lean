/- Texts of this claim, joined: Ok. -/
import Derived.Test.YtlkfbfhkcaldlaaGreatDoorM02
import Derived.Test.YtlkfbfhkcaldlaaGreatDoorM03
import Derived.Test.YtlkfbfhkcaldlaaGreatDoorProg
set_option linter.unusedVariables false
set_option linter.unusedSimpArgs false
namespace Go.Abs.YtlkfbfhkcaldlaaGreatDoor
set_option maxRecDepth 50000 in
theorem Ue (f:Nat)(F:AF)(h:fns f=some F)(hne:f∉[136]):cu Go.Proofs.Tryz.prog 10 f F=true:=by
 unfold fns at h
 split at h
 all_goals first
  | exact absurd (List.mem_cons_self ..) hne
  | (cases h;kernel_rfl)
  | cases h
end Go.Abs.YtlkfbfhkcaldlaaGreatDoor
