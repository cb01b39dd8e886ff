/-
  No cell of these rows narrows 'for every input' (looked for: loops, veiled, ifaces, maps, wideKeys, modest, calm, conditions, laid).
  DERIVED. THE GIVEN ROWS OF THIS SEAT. 9 by the template 'for every input the law returns true; each argument reads behind the call as it read before'; 0 by the template 'total and deterministic' (their statements: YtggngmeoifdidaaTotals.lean).
  GIVEN WITH THE SEED: the statements are not yours to turn. If you find one false, say at which input.
  Laid BY PROGRAM, IN A SANDBOX (cutbox-rows.mjs): the forced cells as the released guide's own fill.sh prints them over the translation d7bc35259bc8c795… (all of the seat's roots in one cut). By AI agents, Wed Nov 11 2026. No macro, syntax, notation, axiom, sorry.
-/
import Derived.Test.YtggngmeoifdidaaChecked
import GoSem.Claim
import GoSem.ClaimJoined
import GoSem.ClaimMapViews
import Derived.JoinedTies
import Derived.KernelRfl
namespace Go.Proofs.Ytggngmeoifdidaa
/- THE CELL 'sum', in the pinned program and in every row, IS THE sha256 OF THE DUMP (.gsa) THAT YtggngmeoifdidaaProg.lean LOADS. Nothing in Lean hashes anything: it is a label: what it is worth is what the hold of that sum in a sandbox is worth. -/
noncomputable def Try.pinned : Pinned := { name := "ytggngmeoifdidaa", sum := "d7bc35259bc8c7956ea03cf2fef31b23267c35447d047a06d8299993ed2817f5", checked := Try.checked }
namespace Rows
def none {H : Type} : Left H := { results := [], args := [] }

/-- 'laws.FnExactConstants': WHATEVER THE INPUT: true; the input reads as it did. -/
def fnExactConstantsSpec : ChangeSpec := { name := "fnExactConstants", fn := fun _ => fun
  | [] => { results := [.lit (.bool true)], args := [] }
  | _ => none }
def fnExactConstantsRow : OpenClaim := { program := "ytggngmeoifdidaa", sum := "d7bc35259bc8c7956ea03cf2fef31b23267c35447d047a06d8299993ed2817f5", func := "loop.example/mailcoaches/laws.FnExactConstants", spec := "fnExactConstants", apart := false }
def FnExactConstantsSaid : Prop := fnExactConstantsRow.holds Try.pinned (OpenSpec.ofChange fnExactConstantsSpec)

/-- ITS FALSE NEIGHBOUR: 'it returns false'. Refute it at one input. -/
def fnExactConstantsWrong : ChangeSpec := { name := "fnExactConstants", fn := fun _ => fun
  | [] => { results := [.lit (.bool false)], args := [] }
  | _ => none }
def FnExactConstantsWrongFalsely : Prop := fnExactConstantsRow.holds Try.pinned (OpenSpec.ofChange fnExactConstantsWrong)

/-- 'laws.FnExactClockLocal': WHATEVER THE INPUT: true; the input reads as it did. -/
def fnExactClockLocalSpec : ChangeSpec := { name := "fnExactClockLocal", fn := fun _ => fun
  | [d1, d2] => { results := [.lit (.bool true)], args := [d1, d2] }
  | _ => none }
def fnExactClockLocalRow : OpenClaim := { program := "ytggngmeoifdidaa", sum := "d7bc35259bc8c7956ea03cf2fef31b23267c35447d047a06d8299993ed2817f5", func := "loop.example/mailcoaches/laws.FnExactClockLocal", spec := "fnExactClockLocal", apart := false }
def FnExactClockLocalSaid : Prop := fnExactClockLocalRow.holds Try.pinned (OpenSpec.ofChange fnExactClockLocalSpec)

/-- ITS FALSE NEIGHBOUR: 'it returns false'. Refute it at one input. -/
def fnExactClockLocalWrong : ChangeSpec := { name := "fnExactClockLocal", fn := fun _ => fun
  | [d1, d2] => { results := [.lit (.bool false)], args := [d1, d2] }
  | _ => none }
def FnExactClockLocalWrongFalsely : Prop := fnExactClockLocalRow.holds Try.pinned (OpenSpec.ofChange fnExactClockLocalWrong)

/-- 'laws.FnExactClockUntil': WHATEVER THE INPUT: true; the input reads as it did. -/
def fnExactClockUntilSpec : ChangeSpec := { name := "fnExactClockUntil", fn := fun _ => fun
  | [d1, d2] => { results := [.lit (.bool true)], args := [d1, d2] }
  | _ => none }
def fnExactClockUntilRow : OpenClaim := { program := "ytggngmeoifdidaa", sum := "d7bc35259bc8c7956ea03cf2fef31b23267c35447d047a06d8299993ed2817f5", func := "loop.example/mailcoaches/laws.FnExactClockUntil", spec := "fnExactClockUntil", apart := false }
def FnExactClockUntilSaid : Prop := fnExactClockUntilRow.holds Try.pinned (OpenSpec.ofChange fnExactClockUntilSpec)

/-- ITS FALSE NEIGHBOUR: 'it returns false'. Refute it at one input. -/
def fnExactClockUntilWrong : ChangeSpec := { name := "fnExactClockUntil", fn := fun _ => fun
  | [d1, d2] => { results := [.lit (.bool false)], args := [d1, d2] }
  | _ => none }
def FnExactClockUntilWrongFalsely : Prop := fnExactClockUntilRow.holds Try.pinned (OpenSpec.ofChange fnExactClockUntilWrong)

/-- 'laws.FnExactClockText': WHATEVER THE INPUT: true; the input reads as it did. -/
def fnExactClockTextSpec : ChangeSpec := { name := "fnExactClockText", fn := fun _ => fun
  | [d] => { results := [.lit (.bool true)], args := [d] }
  | _ => none }
def fnExactClockTextRow : OpenClaim := { program := "ytggngmeoifdidaa", sum := "d7bc35259bc8c7956ea03cf2fef31b23267c35447d047a06d8299993ed2817f5", func := "loop.example/mailcoaches/laws.FnExactClockText", spec := "fnExactClockText", recurses := true, apart := false }
def FnExactClockTextSaid : Prop := fnExactClockTextRow.holds Try.pinned (OpenSpec.ofChange fnExactClockTextSpec)

/-- ITS FALSE NEIGHBOUR: 'it returns false'. Refute it at one input. -/
def fnExactClockTextWrong : ChangeSpec := { name := "fnExactClockText", fn := fun _ => fun
  | [d] => { results := [.lit (.bool false)], args := [d] }
  | _ => none }
def FnExactClockTextWrongFalsely : Prop := fnExactClockTextRow.holds Try.pinned (OpenSpec.ofChange fnExactClockTextWrong)

/-- 'laws.FnClockUntil': WHATEVER THE INPUT: true; the input reads as it did. -/
def fnClockUntilSpec : ChangeSpec := { name := "fnClockUntil", fn := fun _ => fun
  | [d1, d2] => { results := [.lit (.bool true)], args := [d1, d2] }
  | _ => none }
def fnClockUntilRow : OpenClaim := { program := "ytggngmeoifdidaa", sum := "d7bc35259bc8c7956ea03cf2fef31b23267c35447d047a06d8299993ed2817f5", func := "loop.example/mailcoaches/laws.FnClockUntil", spec := "fnClockUntil", apart := false }
def FnClockUntilSaid : Prop := fnClockUntilRow.holds Try.pinned (OpenSpec.ofChange fnClockUntilSpec)

/-- ITS FALSE NEIGHBOUR: 'it returns false'. Refute it at one input. -/
def fnClockUntilWrong : ChangeSpec := { name := "fnClockUntil", fn := fun _ => fun
  | [d1, d2] => { results := [.lit (.bool false)], args := [d1, d2] }
  | _ => none }
def FnClockUntilWrongFalsely : Prop := fnClockUntilRow.holds Try.pinned (OpenSpec.ofChange fnClockUntilWrong)

/-- 'laws.FnExactClockFrom': WHATEVER THE INPUT: true; the input reads as it did. -/
def fnExactClockFromSpec : ChangeSpec := { name := "fnExactClockFrom", fn := fun _ => fun
  | [d] => { results := [.lit (.bool true)], args := [d] }
  | _ => none }
def fnExactClockFromRow : OpenClaim := { program := "ytggngmeoifdidaa", sum := "d7bc35259bc8c7956ea03cf2fef31b23267c35447d047a06d8299993ed2817f5", func := "loop.example/mailcoaches/laws.FnExactClockFrom", spec := "fnExactClockFrom", recurses := true, apart := false }
def FnExactClockFromSaid : Prop := fnExactClockFromRow.holds Try.pinned (OpenSpec.ofChange fnExactClockFromSpec)

/-- ITS FALSE NEIGHBOUR: 'it returns false'. Refute it at one input. -/
def fnExactClockFromWrong : ChangeSpec := { name := "fnExactClockFrom", fn := fun _ => fun
  | [d] => { results := [.lit (.bool false)], args := [d] }
  | _ => none }
def FnExactClockFromWrongFalsely : Prop := fnExactClockFromRow.holds Try.pinned (OpenSpec.ofChange fnExactClockFromWrong)

/-- 'laws.FnClockText': WHATEVER THE INPUT: true; the input reads as it did. -/
def fnClockTextSpec : ChangeSpec := { name := "fnClockText", fn := fun _ => fun
  | [d] => { results := [.lit (.bool true)], args := [d] }
  | _ => none }
def fnClockTextRow : OpenClaim := { program := "ytggngmeoifdidaa", sum := "d7bc35259bc8c7956ea03cf2fef31b23267c35447d047a06d8299993ed2817f5", func := "loop.example/mailcoaches/laws.FnClockText", spec := "fnClockText", recurses := true, apart := false }
def FnClockTextSaid : Prop := fnClockTextRow.holds Try.pinned (OpenSpec.ofChange fnClockTextSpec)

/-- ITS FALSE NEIGHBOUR: 'it returns false'. Refute it at one input. -/
def fnClockTextWrong : ChangeSpec := { name := "fnClockText", fn := fun _ => fun
  | [d] => { results := [.lit (.bool false)], args := [d] }
  | _ => none }
def FnClockTextWrongFalsely : Prop := fnClockTextRow.holds Try.pinned (OpenSpec.ofChange fnClockTextWrong)

/-- 'laws.FnClockLocal': WHATEVER THE INPUT: true; the input reads as it did. -/
def fnClockLocalSpec : ChangeSpec := { name := "fnClockLocal", fn := fun _ => fun
  | [d] => { results := [.lit (.bool true)], args := [d] }
  | _ => none }
def fnClockLocalRow : OpenClaim := { program := "ytggngmeoifdidaa", sum := "d7bc35259bc8c7956ea03cf2fef31b23267c35447d047a06d8299993ed2817f5", func := "loop.example/mailcoaches/laws.FnClockLocal", spec := "fnClockLocal", apart := false }
def FnClockLocalSaid : Prop := fnClockLocalRow.holds Try.pinned (OpenSpec.ofChange fnClockLocalSpec)

/-- ITS FALSE NEIGHBOUR: 'it returns false'. Refute it at one input. -/
def fnClockLocalWrong : ChangeSpec := { name := "fnClockLocal", fn := fun _ => fun
  | [d] => { results := [.lit (.bool false)], args := [d] }
  | _ => none }
def FnClockLocalWrongFalsely : Prop := fnClockLocalRow.holds Try.pinned (OpenSpec.ofChange fnClockLocalWrong)

/-- 'laws.FnClockFrom': WHATEVER THE INPUT: true; the input reads as it did. -/
def fnClockFromSpec : ChangeSpec := { name := "fnClockFrom", fn := fun _ => fun
  | [d] => { results := [.lit (.bool true)], args := [d] }
  | _ => none }
def fnClockFromRow : OpenClaim := { program := "ytggngmeoifdidaa", sum := "d7bc35259bc8c7956ea03cf2fef31b23267c35447d047a06d8299993ed2817f5", func := "loop.example/mailcoaches/laws.FnClockFrom", spec := "fnClockFrom", recurses := true, apart := false }
def FnClockFromSaid : Prop := fnClockFromRow.holds Try.pinned (OpenSpec.ofChange fnClockFromSpec)

/-- ITS FALSE NEIGHBOUR: 'it returns false'. Refute it at one input. -/
def fnClockFromWrong : ChangeSpec := { name := "fnClockFrom", fn := fun _ => fun
  | [d] => { results := [.lit (.bool false)], args := [d] }
  | _ => none }
def FnClockFromWrongFalsely : Prop := fnClockFromRow.holds Try.pinned (OpenSpec.ofChange fnClockFromWrong)

/- THE SECOND FORM. 'bulk': how many values and letters a reading holds, each counted each time it is reached (what is shared counts as often as it is met; a slice's spare places count too). A statement '..UptoSaid' is the law's where the arguments, and the package variables that the reading takes, are together of bulk at most 1048576: NARROWER than '..Said'. Prove '..Said' where nothing that the law and all that it calls make is longer than what came in: it says more and counts as full. Else prove '..UptoSaid'. A law counts once. -/
mutual
def uptoBulk {H : Type} : DataW H → Nat
  | .lit (.string bytes) => bytes.length + 1
  | .lit _ => 1
  | .nil => 1
  | .ptr d => uptoBulk d + 1
  | .slice elems spare => uptoBulkAll elems + uptoBulkAll spare + 1
  | .agg parts => uptoBulkAll parts + 1
  | .iface _ d => uptoBulk d + 1
  | .map entries => uptoBulkEntries entries + 1
  | .held _ => 1
def uptoBulkAll {H : Type} : List (DataW H) → Nat
  | [] => 0
  | d :: r => uptoBulk d + uptoBulkAll r
def uptoBulkEntries {H : Type} : List (Lit × DataW H) → Nat
  | [] => 0
  | x :: r => uptoBulkEntry x + uptoBulkEntries r
def uptoBulkEntry {H : Type} : Lit × DataW H → Nat
  | (.string bytes, d) => bytes.length + uptoBulk d + 1
  | (_, d) => uptoBulk d + 1
 end
def uptoSmall : (H : Type) → List (DataW H) → Bool := fun _ ds => decide (uptoBulkAll ds ≤ 1048576)
def OpenSpec.upto (s : _root_.Go.ChangeSpec) : _root_.Go.OpenSpec := { _root_.Go.OpenSpec.ofChange s with cond := some uptoSmall }

/-- 'laws.FnExactConstants', WHERE WHAT IT READS IS OF BULK AT MOST 1048576: true; the input reads as it did. -/
def fnExactConstantsUptoRow : OpenClaim := { program := "ytggngmeoifdidaa", sum := "d7bc35259bc8c7956ea03cf2fef31b23267c35447d047a06d8299993ed2817f5", func := "loop.example/mailcoaches/laws.FnExactConstants", spec := "fnExactConstants", apart := false, narrowed := true }
def FnExactConstantsUptoSaid : Prop := fnExactConstantsUptoRow.holds Try.pinned (OpenSpec.upto fnExactConstantsSpec)

/-- 'laws.FnExactClockLocal', WHERE WHAT IT READS IS OF BULK AT MOST 1048576: true; the input reads as it did. -/
def fnExactClockLocalUptoRow : OpenClaim := { program := "ytggngmeoifdidaa", sum := "d7bc35259bc8c7956ea03cf2fef31b23267c35447d047a06d8299993ed2817f5", func := "loop.example/mailcoaches/laws.FnExactClockLocal", spec := "fnExactClockLocal", apart := false, narrowed := true }
def FnExactClockLocalUptoSaid : Prop := fnExactClockLocalUptoRow.holds Try.pinned (OpenSpec.upto fnExactClockLocalSpec)

/-- 'laws.FnExactClockUntil', WHERE WHAT IT READS IS OF BULK AT MOST 1048576: true; the input reads as it did. -/
def fnExactClockUntilUptoRow : OpenClaim := { program := "ytggngmeoifdidaa", sum := "d7bc35259bc8c7956ea03cf2fef31b23267c35447d047a06d8299993ed2817f5", func := "loop.example/mailcoaches/laws.FnExactClockUntil", spec := "fnExactClockUntil", apart := false, narrowed := true }
def FnExactClockUntilUptoSaid : Prop := fnExactClockUntilUptoRow.holds Try.pinned (OpenSpec.upto fnExactClockUntilSpec)

/-- 'laws.FnExactClockText', WHERE WHAT IT READS IS OF BULK AT MOST 1048576: true; the input reads as it did. -/
def fnExactClockTextUptoRow : OpenClaim := { program := "ytggngmeoifdidaa", sum := "d7bc35259bc8c7956ea03cf2fef31b23267c35447d047a06d8299993ed2817f5", func := "loop.example/mailcoaches/laws.FnExactClockText", spec := "fnExactClockText", recurses := true, apart := false, narrowed := true }
def FnExactClockTextUptoSaid : Prop := fnExactClockTextUptoRow.holds Try.pinned (OpenSpec.upto fnExactClockTextSpec)

/-- 'laws.FnClockUntil', WHERE WHAT IT READS IS OF BULK AT MOST 1048576: true; the input reads as it did. -/
def fnClockUntilUptoRow : OpenClaim := { program := "ytggngmeoifdidaa", sum := "d7bc35259bc8c7956ea03cf2fef31b23267c35447d047a06d8299993ed2817f5", func := "loop.example/mailcoaches/laws.FnClockUntil", spec := "fnClockUntil", apart := false, narrowed := true }
def FnClockUntilUptoSaid : Prop := fnClockUntilUptoRow.holds Try.pinned (OpenSpec.upto fnClockUntilSpec)

/-- 'laws.FnExactClockFrom', WHERE WHAT IT READS IS OF BULK AT MOST 1048576: true; the input reads as it did. -/
def fnExactClockFromUptoRow : OpenClaim := { program := "ytggngmeoifdidaa", sum := "d7bc35259bc8c7956ea03cf2fef31b23267c35447d047a06d8299993ed2817f5", func := "loop.example/mailcoaches/laws.FnExactClockFrom", spec := "fnExactClockFrom", recurses := true, apart := false, narrowed := true }
def FnExactClockFromUptoSaid : Prop := fnExactClockFromUptoRow.holds Try.pinned (OpenSpec.upto fnExactClockFromSpec)

/-- 'laws.FnClockText', WHERE WHAT IT READS IS OF BULK AT MOST 1048576: true; the input reads as it did. -/
def fnClockTextUptoRow : OpenClaim := { program := "ytggngmeoifdidaa", sum := "d7bc35259bc8c7956ea03cf2fef31b23267c35447d047a06d8299993ed2817f5", func := "loop.example/mailcoaches/laws.FnClockText", spec := "fnClockText", recurses := true, apart := false, narrowed := true }
def FnClockTextUptoSaid : Prop := fnClockTextUptoRow.holds Try.pinned (OpenSpec.upto fnClockTextSpec)

/-- 'laws.FnClockLocal', WHERE WHAT IT READS IS OF BULK AT MOST 1048576: true; the input reads as it did. -/
def fnClockLocalUptoRow : OpenClaim := { program := "ytggngmeoifdidaa", sum := "d7bc35259bc8c7956ea03cf2fef31b23267c35447d047a06d8299993ed2817f5", func := "loop.example/mailcoaches/laws.FnClockLocal", spec := "fnClockLocal", apart := false, narrowed := true }
def FnClockLocalUptoSaid : Prop := fnClockLocalUptoRow.holds Try.pinned (OpenSpec.upto fnClockLocalSpec)

/-- 'laws.FnClockFrom', WHERE WHAT IT READS IS OF BULK AT MOST 1048576: true; the input reads as it did. -/
def fnClockFromUptoRow : OpenClaim := { program := "ytggngmeoifdidaa", sum := "d7bc35259bc8c7956ea03cf2fef31b23267c35447d047a06d8299993ed2817f5", func := "loop.example/mailcoaches/laws.FnClockFrom", spec := "fnClockFrom", recurses := true, apart := false, narrowed := true }
def FnClockFromUptoSaid : Prop := fnClockFromUptoRow.holds Try.pinned (OpenSpec.upto fnClockFromSpec)

end Rows
end Go.Proofs.Ytggngmeoifdidaa
