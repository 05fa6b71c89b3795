/-
The shelf has all contracts that are wanted here: nothing is added.
-/
import Derived.Test.YtpblphddpcogcaaDoorShelf
namespace Go.Proofs.YtpblphddpcogcaaDoor
end Go.Proofs.YtpblphddpcogcaaDoor
