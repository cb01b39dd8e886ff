import Derived.Test.YtmpkdnikkganlaaStopsD
namespace Go.Proofs.Ytmpkdnikkganlaa
open Go.RowKit
end Go.Proofs.Ytmpkdnikkganlaa
