/- Nothing of its own. -/
import Derived.Test.YtpblphddpcogcaaDoorShelf
namespace Go.Proofs.YtpblphddpcogcaaDoor
end Go.Proofs.YtpblphddpcogcaaDoor
