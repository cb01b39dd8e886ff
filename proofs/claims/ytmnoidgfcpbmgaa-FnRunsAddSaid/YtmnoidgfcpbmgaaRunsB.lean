import Derived.Test.YtmnoidgfcpbmgaaRunsA
namespace Go.Proofs.Ytmnoidgfcpbmgaa
open Go.RowKit
end Go.Proofs.Ytmnoidgfcpbmgaa
