/-
The shelf has all contracts that are wanted here: nothing is added.
-/
import Derived.Test.YtljmpghijlibaaaDoorShelf
namespace Go.Proofs.YtljmpghijlibaaaDoor
end Go.Proofs.YtljmpghijlibaaaDoor
