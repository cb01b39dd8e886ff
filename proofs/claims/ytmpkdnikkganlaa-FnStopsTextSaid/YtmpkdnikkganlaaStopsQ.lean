import Derived.Test.YtmpkdnikkganlaaStopsG
namespace Go.Proofs.Ytmpkdnikkganlaa
open Go.RowKit
end Go.Proofs.Ytmpkdnikkganlaa
