/-
  No cell of these rows narrows 'for every input' (looked for: loops, veiled, ifaces, maps, wideKeys, modest, calm, conditions, laid).
  DERIVED. THE GIVEN ROWS OF THIS SEAT. 7 by the template 'for every input the law returns true; each argument reads behind the call as it read before'; 0 by the template 'total and deterministic' (their statements: YtaajombljiiigaaTotals.lean).
  GIVEN WITH THE SEED: the statements are not yours to turn. If you find one false, say at which input.
  Laid BY PROGRAM, IN A SANDBOX (cutbox-rows.mjs): the forced cells as the released guide's own fill.sh prints them over the translation fbc2ec840f556b69… (all of the seat's roots in one cut). By AI agents, Wed Nov 11 2026. No macro, syntax, notation, axiom, sorry.
-/
import Derived.Test.YtaajombljiiigaaChecked
import GoSem.Claim
import GoSem.ClaimJoined
import GoSem.ClaimMapViews
import Derived.JoinedTies
import Derived.KernelRfl
namespace Go.Proofs.Ytaajombljiiigaa
/- THE CELL 'sum', in the pinned program and in every row, IS THE sha256 OF THE DUMP (.gsa) THAT YtaajombljiiigaaProg.lean LOADS. Nothing in Lean hashes anything: it is a label: what it is worth is what the hold of that sum in a sandbox is worth. -/
noncomputable def Try.pinned : Pinned := { name := "ytaajombljiiigaa", sum := "fbc2ec840f556b69324116f088a32d66ad669c84cd3e5537e3c11500d112e232", checked := Try.checked }
namespace Rows
def none {H : Type} : Left H := { results := [], args := [] }

/-- 'laws.FnExactRoadsValid': WHATEVER THE INPUT: true; the input reads as it did. -/
def fnExactRoadsValidSpec : ChangeSpec := { name := "fnExactRoadsValid", fn := fun _ => fun
  | [d1, d2] => { results := [.lit (.bool true)], args := [d1, d2] }
  | _ => none }
def fnExactRoadsValidRow : OpenClaim := { program := "ytaajombljiiigaa", sum := "fbc2ec840f556b69324116f088a32d66ad669c84cd3e5537e3c11500d112e232", func := "loop.example/mailcoaches/laws.FnExactRoadsValid", spec := "fnExactRoadsValid", apart := false }
def FnExactRoadsValidSaid : Prop := fnExactRoadsValidRow.holds Try.pinned (OpenSpec.ofChange fnExactRoadsValidSpec)

/-- ITS FALSE NEIGHBOUR: 'it returns false'. Refute it at one input. -/
def fnExactRoadsValidWrong : ChangeSpec := { name := "fnExactRoadsValid", fn := fun _ => fun
  | [d1, d2] => { results := [.lit (.bool false)], args := [d1, d2] }
  | _ => none }
def FnExactRoadsValidWrongFalsely : Prop := fnExactRoadsValidRow.holds Try.pinned (OpenSpec.ofChange fnExactRoadsValidWrong)

/-- 'laws.FnExactRoadsLength': WHATEVER THE INPUT: true; the input reads as it did. -/
def fnExactRoadsLengthSpec : ChangeSpec := { name := "fnExactRoadsLength", fn := fun _ => fun
  | [d1, d2] => { results := [.lit (.bool true)], args := [d1, d2] }
  | _ => none }
def fnExactRoadsLengthRow : OpenClaim := { program := "ytaajombljiiigaa", sum := "fbc2ec840f556b69324116f088a32d66ad669c84cd3e5537e3c11500d112e232", func := "loop.example/mailcoaches/laws.FnExactRoadsLength", spec := "fnExactRoadsLength", apart := false }
def FnExactRoadsLengthSaid : Prop := fnExactRoadsLengthRow.holds Try.pinned (OpenSpec.ofChange fnExactRoadsLengthSpec)

/-- ITS FALSE NEIGHBOUR: 'it returns false'. Refute it at one input. -/
def fnExactRoadsLengthWrong : ChangeSpec := { name := "fnExactRoadsLength", fn := fun _ => fun
  | [d1, d2] => { results := [.lit (.bool false)], args := [d1, d2] }
  | _ => none }
def FnExactRoadsLengthWrongFalsely : Prop := fnExactRoadsLengthRow.holds Try.pinned (OpenSpec.ofChange fnExactRoadsLengthWrong)

/-- 'laws.FnExactRoadsDirect': WHATEVER THE INPUT: true; the input reads as it did. -/
def fnExactRoadsDirectSpec : ChangeSpec := { name := "fnExactRoadsDirect", fn := fun _ => fun
  | [d1, d2, d3, d4] => { results := [.lit (.bool true)], args := [d1, d2, d3, d4] }
  | _ => none }
def fnExactRoadsDirectRow : OpenClaim := { program := "ytaajombljiiigaa", sum := "fbc2ec840f556b69324116f088a32d66ad669c84cd3e5537e3c11500d112e232", func := "loop.example/mailcoaches/laws.FnExactRoadsDirect", spec := "fnExactRoadsDirect", apart := false }
def FnExactRoadsDirectSaid : Prop := fnExactRoadsDirectRow.holds Try.pinned (OpenSpec.ofChange fnExactRoadsDirectSpec)

/-- ITS FALSE NEIGHBOUR: 'it returns false'. Refute it at one input. -/
def fnExactRoadsDirectWrong : ChangeSpec := { name := "fnExactRoadsDirect", fn := fun _ => fun
  | [d1, d2, d3, d4] => { results := [.lit (.bool false)], args := [d1, d2, d3, d4] }
  | _ => none }
def FnExactRoadsDirectWrongFalsely : Prop := fnExactRoadsDirectRow.holds Try.pinned (OpenSpec.ofChange fnExactRoadsDirectWrong)

/-- 'laws.FnExactRoadsAdd': WHATEVER THE INPUT: true; the input reads as it did. -/
def fnExactRoadsAddSpec : ChangeSpec := { name := "fnExactRoadsAdd", fn := fun _ => fun
  | [d1, d2, d3] => { results := [.lit (.bool true)], args := [d1, d2, d3] }
  | _ => none }
def fnExactRoadsAddRow : OpenClaim := { program := "ytaajombljiiigaa", sum := "fbc2ec840f556b69324116f088a32d66ad669c84cd3e5537e3c11500d112e232", func := "loop.example/mailcoaches/laws.FnExactRoadsAdd", spec := "fnExactRoadsAdd", apart := false }
def FnExactRoadsAddSaid : Prop := fnExactRoadsAddRow.holds Try.pinned (OpenSpec.ofChange fnExactRoadsAddSpec)

/-- ITS FALSE NEIGHBOUR: 'it returns false'. Refute it at one input. -/
def fnExactRoadsAddWrong : ChangeSpec := { name := "fnExactRoadsAdd", fn := fun _ => fun
  | [d1, d2, d3] => { results := [.lit (.bool false)], args := [d1, d2, d3] }
  | _ => none }
def FnExactRoadsAddWrongFalsely : Prop := fnExactRoadsAddRow.holds Try.pinned (OpenSpec.ofChange fnExactRoadsAddWrong)

/-- 'laws.FnExactRoadsWhole': WHATEVER THE INPUT: true; the input reads as it did. -/
def fnExactRoadsWholeSpec : ChangeSpec := { name := "fnExactRoadsWhole", fn := fun _ => fun
  | [d1, d2] => { results := [.lit (.bool true)], args := [d1, d2] }
  | _ => none }
def fnExactRoadsWholeRow : OpenClaim := { program := "ytaajombljiiigaa", sum := "fbc2ec840f556b69324116f088a32d66ad669c84cd3e5537e3c11500d112e232", func := "loop.example/mailcoaches/laws.FnExactRoadsWhole", spec := "fnExactRoadsWhole", unfollowed := true, recurses := true, apart := false }
def FnExactRoadsWholeSaid : Prop := fnExactRoadsWholeRow.holds Try.pinned (OpenSpec.ofChange fnExactRoadsWholeSpec)

/-- ITS FALSE NEIGHBOUR: 'it returns false'. Refute it at one input. -/
def fnExactRoadsWholeWrong : ChangeSpec := { name := "fnExactRoadsWhole", fn := fun _ => fun
  | [d1, d2] => { results := [.lit (.bool false)], args := [d1, d2] }
  | _ => none }
def FnExactRoadsWholeWrongFalsely : Prop := fnExactRoadsWholeRow.holds Try.pinned (OpenSpec.ofChange fnExactRoadsWholeWrong)

/-- 'laws.FnExactRoadsClose': WHATEVER THE INPUT: true; the input reads as it did. -/
def fnExactRoadsCloseSpec : ChangeSpec := { name := "fnExactRoadsClose", fn := fun _ => fun
  | [d1, d2, d3, d4] => { results := [.lit (.bool true)], args := [d1, d2, d3, d4] }
  | _ => none }
def fnExactRoadsCloseRow : OpenClaim := { program := "ytaajombljiiigaa", sum := "fbc2ec840f556b69324116f088a32d66ad669c84cd3e5537e3c11500d112e232", func := "loop.example/mailcoaches/laws.FnExactRoadsClose", spec := "fnExactRoadsClose", unfollowed := true, recurses := true, apart := false }
def FnExactRoadsCloseSaid : Prop := fnExactRoadsCloseRow.holds Try.pinned (OpenSpec.ofChange fnExactRoadsCloseSpec)

/-- ITS FALSE NEIGHBOUR: 'it returns false'. Refute it at one input. -/
def fnExactRoadsCloseWrong : ChangeSpec := { name := "fnExactRoadsClose", fn := fun _ => fun
  | [d1, d2, d3, d4] => { results := [.lit (.bool false)], args := [d1, d2, d3, d4] }
  | _ => none }
def FnExactRoadsCloseWrongFalsely : Prop := fnExactRoadsCloseRow.holds Try.pinned (OpenSpec.ofChange fnExactRoadsCloseWrong)

/-- 'laws.FnExactRoadsMiddle': WHATEVER THE INPUT: true; the input reads as it did. -/
def fnExactRoadsMiddleSpec : ChangeSpec := { name := "fnExactRoadsMiddle", fn := fun _ => fun
  | [d1, d2] => { results := [.lit (.bool true)], args := [d1, d2] }
  | _ => none }
def fnExactRoadsMiddleRow : OpenClaim := { program := "ytaajombljiiigaa", sum := "fbc2ec840f556b69324116f088a32d66ad669c84cd3e5537e3c11500d112e232", func := "loop.example/mailcoaches/laws.FnExactRoadsMiddle", spec := "fnExactRoadsMiddle", unfollowed := true, recurses := true, apart := false }
def FnExactRoadsMiddleSaid : Prop := fnExactRoadsMiddleRow.holds Try.pinned (OpenSpec.ofChange fnExactRoadsMiddleSpec)

/-- ITS FALSE NEIGHBOUR: 'it returns false'. Refute it at one input. -/
def fnExactRoadsMiddleWrong : ChangeSpec := { name := "fnExactRoadsMiddle", fn := fun _ => fun
  | [d1, d2] => { results := [.lit (.bool false)], args := [d1, d2] }
  | _ => none }
def FnExactRoadsMiddleWrongFalsely : Prop := fnExactRoadsMiddleRow.holds Try.pinned (OpenSpec.ofChange fnExactRoadsMiddleWrong)

/- THE SECOND FORM. 'bulk': how many values and letters a reading holds, each counted each time it is reached (what is shared counts as often as it is met; a slice's spare places count too). A statement '..UptoSaid' is the law's where the arguments, and the package variables that the reading takes, are together of bulk at most 1048576: NARROWER than '..Said'. Prove '..Said' where nothing that the law and all that it calls make is longer than what came in: it says more and counts as full. Else prove '..UptoSaid'. A law counts once. -/
mutual
def uptoBulk {H : Type} : DataW H → Nat
  | .lit (.string bytes) => bytes.length + 1
  | .lit _ => 1
  | .nil => 1
  | .ptr d => uptoBulk d + 1
  | .slice elems spare => uptoBulkAll elems + uptoBulkAll spare + 1
  | .agg parts => uptoBulkAll parts + 1
  | .iface _ d => uptoBulk d + 1
  | .map entries => uptoBulkEntries entries + 1
  | .held _ => 1
def uptoBulkAll {H : Type} : List (DataW H) → Nat
  | [] => 0
  | d :: r => uptoBulk d + uptoBulkAll r
def uptoBulkEntries {H : Type} : List (Lit × DataW H) → Nat
  | [] => 0
  | x :: r => uptoBulkEntry x + uptoBulkEntries r
def uptoBulkEntry {H : Type} : Lit × DataW H → Nat
  | (.string bytes, d) => bytes.length + uptoBulk d + 1
  | (_, d) => uptoBulk d + 1
 end
def uptoSmall : (H : Type) → List (DataW H) → Bool := fun _ ds => decide (uptoBulkAll ds ≤ 1048576)
def OpenSpec.upto (s : _root_.Go.ChangeSpec) : _root_.Go.OpenSpec := { _root_.Go.OpenSpec.ofChange s with cond := some uptoSmall }

/-- 'laws.FnExactRoadsValid', WHERE WHAT IT READS IS OF BULK AT MOST 1048576: true; the input reads as it did. -/
def fnExactRoadsValidUptoRow : OpenClaim := { program := "ytaajombljiiigaa", sum := "fbc2ec840f556b69324116f088a32d66ad669c84cd3e5537e3c11500d112e232", func := "loop.example/mailcoaches/laws.FnExactRoadsValid", spec := "fnExactRoadsValid", apart := false, narrowed := true }
def FnExactRoadsValidUptoSaid : Prop := fnExactRoadsValidUptoRow.holds Try.pinned (OpenSpec.upto fnExactRoadsValidSpec)

/-- 'laws.FnExactRoadsLength', WHERE WHAT IT READS IS OF BULK AT MOST 1048576: true; the input reads as it did. -/
def fnExactRoadsLengthUptoRow : OpenClaim := { program := "ytaajombljiiigaa", sum := "fbc2ec840f556b69324116f088a32d66ad669c84cd3e5537e3c11500d112e232", func := "loop.example/mailcoaches/laws.FnExactRoadsLength", spec := "fnExactRoadsLength", apart := false, narrowed := true }
def FnExactRoadsLengthUptoSaid : Prop := fnExactRoadsLengthUptoRow.holds Try.pinned (OpenSpec.upto fnExactRoadsLengthSpec)

/-- 'laws.FnExactRoadsDirect', WHERE WHAT IT READS IS OF BULK AT MOST 1048576: true; the input reads as it did. -/
def fnExactRoadsDirectUptoRow : OpenClaim := { program := "ytaajombljiiigaa", sum := "fbc2ec840f556b69324116f088a32d66ad669c84cd3e5537e3c11500d112e232", func := "loop.example/mailcoaches/laws.FnExactRoadsDirect", spec := "fnExactRoadsDirect", apart := false, narrowed := true }
def FnExactRoadsDirectUptoSaid : Prop := fnExactRoadsDirectUptoRow.holds Try.pinned (OpenSpec.upto fnExactRoadsDirectSpec)

/-- 'laws.FnExactRoadsAdd', WHERE WHAT IT READS IS OF BULK AT MOST 1048576: true; the input reads as it did. -/
def fnExactRoadsAddUptoRow : OpenClaim := { program := "ytaajombljiiigaa", sum := "fbc2ec840f556b69324116f088a32d66ad669c84cd3e5537e3c11500d112e232", func := "loop.example/mailcoaches/laws.FnExactRoadsAdd", spec := "fnExactRoadsAdd", apart := false, narrowed := true }
def FnExactRoadsAddUptoSaid : Prop := fnExactRoadsAddUptoRow.holds Try.pinned (OpenSpec.upto fnExactRoadsAddSpec)

/-- 'laws.FnExactRoadsWhole', WHERE WHAT IT READS IS OF BULK AT MOST 1048576: true; the input reads as it did. -/
def fnExactRoadsWholeUptoRow : OpenClaim := { program := "ytaajombljiiigaa", sum := "fbc2ec840f556b69324116f088a32d66ad669c84cd3e5537e3c11500d112e232", func := "loop.example/mailcoaches/laws.FnExactRoadsWhole", spec := "fnExactRoadsWhole", unfollowed := true, recurses := true, apart := false, narrowed := true }
def FnExactRoadsWholeUptoSaid : Prop := fnExactRoadsWholeUptoRow.holds Try.pinned (OpenSpec.upto fnExactRoadsWholeSpec)

/-- 'laws.FnExactRoadsClose', WHERE WHAT IT READS IS OF BULK AT MOST 1048576: true; the input reads as it did. -/
def fnExactRoadsCloseUptoRow : OpenClaim := { program := "ytaajombljiiigaa", sum := "fbc2ec840f556b69324116f088a32d66ad669c84cd3e5537e3c11500d112e232", func := "loop.example/mailcoaches/laws.FnExactRoadsClose", spec := "fnExactRoadsClose", unfollowed := true, recurses := true, apart := false, narrowed := true }
def FnExactRoadsCloseUptoSaid : Prop := fnExactRoadsCloseUptoRow.holds Try.pinned (OpenSpec.upto fnExactRoadsCloseSpec)

/-- 'laws.FnExactRoadsMiddle', WHERE WHAT IT READS IS OF BULK AT MOST 1048576: true; the input reads as it did. -/
def fnExactRoadsMiddleUptoRow : OpenClaim := { program := "ytaajombljiiigaa", sum := "fbc2ec840f556b69324116f088a32d66ad669c84cd3e5537e3c11500d112e232", func := "loop.example/mailcoaches/laws.FnExactRoadsMiddle", spec := "fnExactRoadsMiddle", unfollowed := true, recurses := true, apart := false, narrowed := true }
def FnExactRoadsMiddleUptoSaid : Prop := fnExactRoadsMiddleUptoRow.holds Try.pinned (OpenSpec.upto fnExactRoadsMiddleSpec)

end Rows
end Go.Proofs.Ytaajombljiiigaa
