import Derived.Test.YtmnoidgfcpbmgaaRunsD
namespace Go.Proofs.Ytmnoidgfcpbmgaa
open Go.RowKit

theorem RValid.len {xs : List Rn} (h : RValid xs) : xs.length ≤ 12 := h.1

end Go.Proofs.Ytmnoidgfcpbmgaa
