/-
  No cell of these rows narrows 'for every input' (looked for: loops, veiled, ifaces, maps, wideKeys, modest, calm, conditions, laid).
  DERIVED. THE GIVEN ROWS OF THIS SEAT. 19 by the template 'for every input the law returns true; each argument reads behind the call as it read before'; 0 by the template 'total and deterministic' (their statements: YtdmbgnbegnlcaaaTotals.lean).
  GIVEN WITH THE SEED: the statements are not yours to turn. If you find one false, say at which input.
  Laid BY PROGRAM, IN A SANDBOX (cutbox-rows.mjs): the forced cells as the released guide's own fill.sh prints them over the translation ee08559382dfcaa9… (all of the seat's roots in one cut). By AI agents, Wed Nov 11 2026. No macro, syntax, notation, axiom, sorry.
-/
import Derived.Test.YtdmbgnbegnlcaaaChecked
import GoSem.Claim
import GoSem.ClaimJoined
import GoSem.ClaimMapViews
import Derived.JoinedTies
import Derived.KernelRfl
namespace Go.Proofs.Ytdmbgnbegnlcaaa
/- THE CELL 'sum', in the pinned program and in every row, IS THE sha256 OF THE DUMP (.gsa) THAT YtdmbgnbegnlcaaaProg.lean LOADS. Nothing in Lean hashes anything: it is a label: what it is worth is what the hold of that sum in a sandbox is worth. -/
noncomputable def Try.pinned : Pinned := { name := "ytdmbgnbegnlcaaa", sum := "ee08559382dfcaa980e8b2c607fddca7ba3c870deebc6d7246deb1713ef19a6d", checked := Try.checked }
namespace Rows
def none {H : Type} : Left H := { results := [], args := [] }

/-- 'laws.FnExactStopsText': WHATEVER THE INPUT: true; the input reads as it did. -/
def fnExactStopsTextSpec : ChangeSpec := { name := "fnExactStopsText", fn := fun _ => fun
  | [d1, d2] => { results := [.lit (.bool true)], args := [d1, d2] }
  | _ => none }
def fnExactStopsTextRow : OpenClaim := { program := "ytdmbgnbegnlcaaa", sum := "ee08559382dfcaa980e8b2c607fddca7ba3c870deebc6d7246deb1713ef19a6d", func := "loop.example/mailcoaches/laws.FnExactStopsText", spec := "fnExactStopsText", inPlace := ["internal/abi.NoEscape", "internal/bytealg.MakeNoZero"], recurses := true, apart := false }
def FnExactStopsTextSaid : Prop := fnExactStopsTextRow.holds Try.pinned (OpenSpec.ofChange fnExactStopsTextSpec)

/-- ITS FALSE NEIGHBOUR: 'it returns false'. Refute it at one input. -/
def fnExactStopsTextWrong : ChangeSpec := { name := "fnExactStopsText", fn := fun _ => fun
  | [d1, d2] => { results := [.lit (.bool false)], args := [d1, d2] }
  | _ => none }
def FnExactStopsTextWrongFalsely : Prop := fnExactStopsTextRow.holds Try.pinned (OpenSpec.ofChange fnExactStopsTextWrong)

/-- 'laws.FnExactStopsValid': WHATEVER THE INPUT: true; the input reads as it did. -/
def fnExactStopsValidSpec : ChangeSpec := { name := "fnExactStopsValid", fn := fun _ => fun
  | [d1, d2] => { results := [.lit (.bool true)], args := [d1, d2] }
  | _ => none }
def fnExactStopsValidRow : OpenClaim := { program := "ytdmbgnbegnlcaaa", sum := "ee08559382dfcaa980e8b2c607fddca7ba3c870deebc6d7246deb1713ef19a6d", func := "loop.example/mailcoaches/laws.FnExactStopsValid", spec := "fnExactStopsValid", apart := false }
def FnExactStopsValidSaid : Prop := fnExactStopsValidRow.holds Try.pinned (OpenSpec.ofChange fnExactStopsValidSpec)

/-- ITS FALSE NEIGHBOUR: 'it returns false'. Refute it at one input. -/
def fnExactStopsValidWrong : ChangeSpec := { name := "fnExactStopsValid", fn := fun _ => fun
  | [d1, d2] => { results := [.lit (.bool false)], args := [d1, d2] }
  | _ => none }
def FnExactStopsValidWrongFalsely : Prop := fnExactStopsValidRow.holds Try.pinned (OpenSpec.ofChange fnExactStopsValidWrong)

/-- 'laws.FnExactStopsRun': WHATEVER THE INPUT: true; the input reads as it did. -/
def fnExactStopsRunSpec : ChangeSpec := { name := "fnExactStopsRun", fn := fun _ => fun
  | [d1, d2] => { results := [.lit (.bool true)], args := [d1, d2] }
  | _ => none }
def fnExactStopsRunRow : OpenClaim := { program := "ytdmbgnbegnlcaaa", sum := "ee08559382dfcaa980e8b2c607fddca7ba3c870deebc6d7246deb1713ef19a6d", func := "loop.example/mailcoaches/laws.FnExactStopsRun", spec := "fnExactStopsRun", apart := false }
def FnExactStopsRunSaid : Prop := fnExactStopsRunRow.holds Try.pinned (OpenSpec.ofChange fnExactStopsRunSpec)

/-- ITS FALSE NEIGHBOUR: 'it returns false'. Refute it at one input. -/
def fnExactStopsRunWrong : ChangeSpec := { name := "fnExactStopsRun", fn := fun _ => fun
  | [d1, d2] => { results := [.lit (.bool false)], args := [d1, d2] }
  | _ => none }
def FnExactStopsRunWrongFalsely : Prop := fnExactStopsRunRow.holds Try.pinned (OpenSpec.ofChange fnExactStopsRunWrong)

/-- 'laws.FnExactStopsWait': WHATEVER THE INPUT: true; the input reads as it did. -/
def fnExactStopsWaitSpec : ChangeSpec := { name := "fnExactStopsWait", fn := fun _ => fun
  | [d1, d2] => { results := [.lit (.bool true)], args := [d1, d2] }
  | _ => none }
def fnExactStopsWaitRow : OpenClaim := { program := "ytdmbgnbegnlcaaa", sum := "ee08559382dfcaa980e8b2c607fddca7ba3c870deebc6d7246deb1713ef19a6d", func := "loop.example/mailcoaches/laws.FnExactStopsWait", spec := "fnExactStopsWait", apart := false }
def FnExactStopsWaitSaid : Prop := fnExactStopsWaitRow.holds Try.pinned (OpenSpec.ofChange fnExactStopsWaitSpec)

/-- ITS FALSE NEIGHBOUR: 'it returns false'. Refute it at one input. -/
def fnExactStopsWaitWrong : ChangeSpec := { name := "fnExactStopsWait", fn := fun _ => fun
  | [d1, d2] => { results := [.lit (.bool false)], args := [d1, d2] }
  | _ => none }
def FnExactStopsWaitWrongFalsely : Prop := fnExactStopsWaitRow.holds Try.pinned (OpenSpec.ofChange fnExactStopsWaitWrong)

/-- 'laws.FnExactStopsAt': WHATEVER THE INPUT: true; the input reads as it did. -/
def fnExactStopsAtSpec : ChangeSpec := { name := "fnExactStopsAt", fn := fun _ => fun
  | [d1, d2, d3] => { results := [.lit (.bool true)], args := [d1, d2, d3] }
  | _ => none }
def fnExactStopsAtRow : OpenClaim := { program := "ytdmbgnbegnlcaaa", sum := "ee08559382dfcaa980e8b2c607fddca7ba3c870deebc6d7246deb1713ef19a6d", func := "loop.example/mailcoaches/laws.FnExactStopsAt", spec := "fnExactStopsAt", apart := false }
def FnExactStopsAtSaid : Prop := fnExactStopsAtRow.holds Try.pinned (OpenSpec.ofChange fnExactStopsAtSpec)

/-- ITS FALSE NEIGHBOUR: 'it returns false'. Refute it at one input. -/
def fnExactStopsAtWrong : ChangeSpec := { name := "fnExactStopsAt", fn := fun _ => fun
  | [d1, d2, d3] => { results := [.lit (.bool false)], args := [d1, d2, d3] }
  | _ => none }
def FnExactStopsAtWrongFalsely : Prop := fnExactStopsAtRow.holds Try.pinned (OpenSpec.ofChange fnExactStopsAtWrong)

/-- 'laws.FnStopsText': WHATEVER THE INPUT: true; the input reads as it did. -/
def fnStopsTextSpec : ChangeSpec := { name := "fnStopsText", fn := fun _ => fun
  | [d] => { results := [.lit (.bool true)], args := [d] }
  | _ => none }
def fnStopsTextRow : OpenClaim := { program := "ytdmbgnbegnlcaaa", sum := "ee08559382dfcaa980e8b2c607fddca7ba3c870deebc6d7246deb1713ef19a6d", func := "loop.example/mailcoaches/laws.FnStopsText", spec := "fnStopsText", inPlace := ["internal/abi.NoEscape", "internal/bytealg.MakeNoZero"], unfollowed := true, recurses := true, apart := false }
def FnStopsTextSaid : Prop := fnStopsTextRow.holds Try.pinned (OpenSpec.ofChange fnStopsTextSpec)

/-- ITS FALSE NEIGHBOUR: 'it returns false'. Refute it at one input. -/
def fnStopsTextWrong : ChangeSpec := { name := "fnStopsText", fn := fun _ => fun
  | [d] => { results := [.lit (.bool false)], args := [d] }
  | _ => none }
def FnStopsTextWrongFalsely : Prop := fnStopsTextRow.holds Try.pinned (OpenSpec.ofChange fnStopsTextWrong)

/-- 'laws.FnExactStopsWhere': WHATEVER THE INPUT: true; the input reads as it did. -/
def fnExactStopsWhereSpec : ChangeSpec := { name := "fnExactStopsWhere", fn := fun _ => fun
  | [d1, d2, d3] => { results := [.lit (.bool true)], args := [d1, d2, d3] }
  | _ => none }
def fnExactStopsWhereRow : OpenClaim := { program := "ytdmbgnbegnlcaaa", sum := "ee08559382dfcaa980e8b2c607fddca7ba3c870deebc6d7246deb1713ef19a6d", func := "loop.example/mailcoaches/laws.FnExactStopsWhere", spec := "fnExactStopsWhere", apart := false }
def FnExactStopsWhereSaid : Prop := fnExactStopsWhereRow.holds Try.pinned (OpenSpec.ofChange fnExactStopsWhereSpec)

/-- ITS FALSE NEIGHBOUR: 'it returns false'. Refute it at one input. -/
def fnExactStopsWhereWrong : ChangeSpec := { name := "fnExactStopsWhere", fn := fun _ => fun
  | [d1, d2, d3] => { results := [.lit (.bool false)], args := [d1, d2, d3] }
  | _ => none }
def FnExactStopsWhereWrongFalsely : Prop := fnExactStopsWhereRow.holds Try.pinned (OpenSpec.ofChange fnExactStopsWhereWrong)

/-- 'laws.FnStopsWait': WHATEVER THE INPUT: true; the input reads as it did. -/
def fnStopsWaitSpec : ChangeSpec := { name := "fnStopsWait", fn := fun _ => fun
  | [d1, d2] => { results := [.lit (.bool true)], args := [d1, d2] }
  | _ => none }
def fnStopsWaitRow : OpenClaim := { program := "ytdmbgnbegnlcaaa", sum := "ee08559382dfcaa980e8b2c607fddca7ba3c870deebc6d7246deb1713ef19a6d", func := "loop.example/mailcoaches/laws.FnStopsWait", spec := "fnStopsWait", apart := false }
def FnStopsWaitSaid : Prop := fnStopsWaitRow.holds Try.pinned (OpenSpec.ofChange fnStopsWaitSpec)

/-- ITS FALSE NEIGHBOUR: 'it returns false'. Refute it at one input. -/
def fnStopsWaitWrong : ChangeSpec := { name := "fnStopsWait", fn := fun _ => fun
  | [d1, d2] => { results := [.lit (.bool false)], args := [d1, d2] }
  | _ => none }
def FnStopsWaitWrongFalsely : Prop := fnStopsWaitRow.holds Try.pinned (OpenSpec.ofChange fnStopsWaitWrong)

/-- 'laws.FnStopsRun': WHATEVER THE INPUT: true; the input reads as it did. -/
def fnStopsRunSpec : ChangeSpec := { name := "fnStopsRun", fn := fun _ => fun
  | [d] => { results := [.lit (.bool true)], args := [d] }
  | _ => none }
def fnStopsRunRow : OpenClaim := { program := "ytdmbgnbegnlcaaa", sum := "ee08559382dfcaa980e8b2c607fddca7ba3c870deebc6d7246deb1713ef19a6d", func := "loop.example/mailcoaches/laws.FnStopsRun", spec := "fnStopsRun", apart := false }
def FnStopsRunSaid : Prop := fnStopsRunRow.holds Try.pinned (OpenSpec.ofChange fnStopsRunSpec)

/-- ITS FALSE NEIGHBOUR: 'it returns false'. Refute it at one input. -/
def fnStopsRunWrong : ChangeSpec := { name := "fnStopsRun", fn := fun _ => fun
  | [d] => { results := [.lit (.bool false)], args := [d] }
  | _ => none }
def FnStopsRunWrongFalsely : Prop := fnStopsRunRow.holds Try.pinned (OpenSpec.ofChange fnStopsRunWrong)

/-- 'laws.FnExactStopsMeet': WHATEVER THE INPUT: true; the input reads as it did. -/
def fnExactStopsMeetSpec : ChangeSpec := { name := "fnExactStopsMeet", fn := fun _ => fun
  | [d1, d2, d3] => { results := [.lit (.bool true)], args := [d1, d2, d3] }
  | _ => none }
def fnExactStopsMeetRow : OpenClaim := { program := "ytdmbgnbegnlcaaa", sum := "ee08559382dfcaa980e8b2c607fddca7ba3c870deebc6d7246deb1713ef19a6d", func := "loop.example/mailcoaches/laws.FnExactStopsMeet", spec := "fnExactStopsMeet", apart := false }
def FnExactStopsMeetSaid : Prop := fnExactStopsMeetRow.holds Try.pinned (OpenSpec.ofChange fnExactStopsMeetSpec)

/-- ITS FALSE NEIGHBOUR: 'it returns false'. Refute it at one input. -/
def fnExactStopsMeetWrong : ChangeSpec := { name := "fnExactStopsMeet", fn := fun _ => fun
  | [d1, d2, d3] => { results := [.lit (.bool false)], args := [d1, d2, d3] }
  | _ => none }
def FnExactStopsMeetWrongFalsely : Prop := fnExactStopsMeetRow.holds Try.pinned (OpenSpec.ofChange fnExactStopsMeetWrong)

/-- 'laws.FnStopsWhere': WHATEVER THE INPUT: true; the input reads as it did. -/
def fnStopsWhereSpec : ChangeSpec := { name := "fnStopsWhere", fn := fun _ => fun
  | [d] => { results := [.lit (.bool true)], args := [d] }
  | _ => none }
def fnStopsWhereRow : OpenClaim := { program := "ytdmbgnbegnlcaaa", sum := "ee08559382dfcaa980e8b2c607fddca7ba3c870deebc6d7246deb1713ef19a6d", func := "loop.example/mailcoaches/laws.FnStopsWhere", spec := "fnStopsWhere", apart := false }
def FnStopsWhereSaid : Prop := fnStopsWhereRow.holds Try.pinned (OpenSpec.ofChange fnStopsWhereSpec)

/-- ITS FALSE NEIGHBOUR: 'it returns false'. Refute it at one input. -/
def fnStopsWhereWrong : ChangeSpec := { name := "fnStopsWhere", fn := fun _ => fun
  | [d] => { results := [.lit (.bool false)], args := [d] }
  | _ => none }
def FnStopsWhereWrongFalsely : Prop := fnStopsWhereRow.holds Try.pinned (OpenSpec.ofChange fnStopsWhereWrong)

/-- 'laws.FnExactStopsPart': WHATEVER THE INPUT: true; the input reads as it did. -/
def fnExactStopsPartSpec : ChangeSpec := { name := "fnExactStopsPart", fn := fun _ => fun
  | [d1, d2, d3, d4] => { results := [.lit (.bool true)], args := [d1, d2, d3, d4] }
  | _ => none }
def fnExactStopsPartRow : OpenClaim := { program := "ytdmbgnbegnlcaaa", sum := "ee08559382dfcaa980e8b2c607fddca7ba3c870deebc6d7246deb1713ef19a6d", func := "loop.example/mailcoaches/laws.FnExactStopsPart", spec := "fnExactStopsPart", apart := false }
def FnExactStopsPartSaid : Prop := fnExactStopsPartRow.holds Try.pinned (OpenSpec.ofChange fnExactStopsPartSpec)

/-- ITS FALSE NEIGHBOUR: 'it returns false'. Refute it at one input. -/
def fnExactStopsPartWrong : ChangeSpec := { name := "fnExactStopsPart", fn := fun _ => fun
  | [d1, d2, d3, d4] => { results := [.lit (.bool false)], args := [d1, d2, d3, d4] }
  | _ => none }
def FnExactStopsPartWrongFalsely : Prop := fnExactStopsPartRow.holds Try.pinned (OpenSpec.ofChange fnExactStopsPartWrong)

/-- 'laws.FnExactStopsLater': WHATEVER THE INPUT: true; the input reads as it did. -/
def fnExactStopsLaterSpec : ChangeSpec := { name := "fnExactStopsLater", fn := fun _ => fun
  | [d1, d2, d3] => { results := [.lit (.bool true)], args := [d1, d2, d3] }
  | _ => none }
def fnExactStopsLaterRow : OpenClaim := { program := "ytdmbgnbegnlcaaa", sum := "ee08559382dfcaa980e8b2c607fddca7ba3c870deebc6d7246deb1713ef19a6d", func := "loop.example/mailcoaches/laws.FnExactStopsLater", spec := "fnExactStopsLater", unfollowed := true, recurses := true, apart := false }
def FnExactStopsLaterSaid : Prop := fnExactStopsLaterRow.holds Try.pinned (OpenSpec.ofChange fnExactStopsLaterSpec)

/-- ITS FALSE NEIGHBOUR: 'it returns false'. Refute it at one input. -/
def fnExactStopsLaterWrong : ChangeSpec := { name := "fnExactStopsLater", fn := fun _ => fun
  | [d1, d2, d3] => { results := [.lit (.bool false)], args := [d1, d2, d3] }
  | _ => none }
def FnExactStopsLaterWrongFalsely : Prop := fnExactStopsLaterRow.holds Try.pinned (OpenSpec.ofChange fnExactStopsLaterWrong)

/-- 'laws.FnStopsPart': WHATEVER THE INPUT: true; the input reads as it did. -/
def fnStopsPartSpec : ChangeSpec := { name := "fnStopsPart", fn := fun _ => fun
  | [d] => { results := [.lit (.bool true)], args := [d] }
  | _ => none }
def fnStopsPartRow : OpenClaim := { program := "ytdmbgnbegnlcaaa", sum := "ee08559382dfcaa980e8b2c607fddca7ba3c870deebc6d7246deb1713ef19a6d", func := "loop.example/mailcoaches/laws.FnStopsPart", spec := "fnStopsPart", apart := false }
def FnStopsPartSaid : Prop := fnStopsPartRow.holds Try.pinned (OpenSpec.ofChange fnStopsPartSpec)

/-- ITS FALSE NEIGHBOUR: 'it returns false'. Refute it at one input. -/
def fnStopsPartWrong : ChangeSpec := { name := "fnStopsPart", fn := fun _ => fun
  | [d] => { results := [.lit (.bool false)], args := [d] }
  | _ => none }
def FnStopsPartWrongFalsely : Prop := fnStopsPartRow.holds Try.pinned (OpenSpec.ofChange fnStopsPartWrong)

/-- 'laws.FnExactStopsBack': WHATEVER THE INPUT: true; the input reads as it did. -/
def fnExactStopsBackSpec : ChangeSpec := { name := "fnExactStopsBack", fn := fun _ => fun
  | [d1, d2, d3] => { results := [.lit (.bool true)], args := [d1, d2, d3] }
  | _ => none }
def fnExactStopsBackRow : OpenClaim := { program := "ytdmbgnbegnlcaaa", sum := "ee08559382dfcaa980e8b2c607fddca7ba3c870deebc6d7246deb1713ef19a6d", func := "loop.example/mailcoaches/laws.FnExactStopsBack", spec := "fnExactStopsBack", unfollowed := true, recurses := true, apart := false }
def FnExactStopsBackSaid : Prop := fnExactStopsBackRow.holds Try.pinned (OpenSpec.ofChange fnExactStopsBackSpec)

/-- ITS FALSE NEIGHBOUR: 'it returns false'. Refute it at one input. -/
def fnExactStopsBackWrong : ChangeSpec := { name := "fnExactStopsBack", fn := fun _ => fun
  | [d1, d2, d3] => { results := [.lit (.bool false)], args := [d1, d2, d3] }
  | _ => none }
def FnExactStopsBackWrongFalsely : Prop := fnExactStopsBackRow.holds Try.pinned (OpenSpec.ofChange fnExactStopsBackWrong)

/-- 'laws.FnStopsLater': WHATEVER THE INPUT: true; the input reads as it did. -/
def fnStopsLaterSpec : ChangeSpec := { name := "fnStopsLater", fn := fun _ => fun
  | [d] => { results := [.lit (.bool true)], args := [d] }
  | _ => none }
def fnStopsLaterRow : OpenClaim := { program := "ytdmbgnbegnlcaaa", sum := "ee08559382dfcaa980e8b2c607fddca7ba3c870deebc6d7246deb1713ef19a6d", func := "loop.example/mailcoaches/laws.FnStopsLater", spec := "fnStopsLater", unfollowed := true, recurses := true, apart := false }
def FnStopsLaterSaid : Prop := fnStopsLaterRow.holds Try.pinned (OpenSpec.ofChange fnStopsLaterSpec)

/-- ITS FALSE NEIGHBOUR: 'it returns false'. Refute it at one input. -/
def fnStopsLaterWrong : ChangeSpec := { name := "fnStopsLater", fn := fun _ => fun
  | [d] => { results := [.lit (.bool false)], args := [d] }
  | _ => none }
def FnStopsLaterWrongFalsely : Prop := fnStopsLaterRow.holds Try.pinned (OpenSpec.ofChange fnStopsLaterWrong)

/-- 'laws.FnStopsAt': WHATEVER THE INPUT: true; the input reads as it did. -/
def fnStopsAtSpec : ChangeSpec := { name := "fnStopsAt", fn := fun _ => fun
  | [d] => { results := [.lit (.bool true)], args := [d] }
  | _ => none }
def fnStopsAtRow : OpenClaim := { program := "ytdmbgnbegnlcaaa", sum := "ee08559382dfcaa980e8b2c607fddca7ba3c870deebc6d7246deb1713ef19a6d", func := "loop.example/mailcoaches/laws.FnStopsAt", spec := "fnStopsAt", unfollowed := true, recurses := true, apart := false }
def FnStopsAtSaid : Prop := fnStopsAtRow.holds Try.pinned (OpenSpec.ofChange fnStopsAtSpec)

/-- ITS FALSE NEIGHBOUR: 'it returns false'. Refute it at one input. -/
def fnStopsAtWrong : ChangeSpec := { name := "fnStopsAt", fn := fun _ => fun
  | [d] => { results := [.lit (.bool false)], args := [d] }
  | _ => none }
def FnStopsAtWrongFalsely : Prop := fnStopsAtRow.holds Try.pinned (OpenSpec.ofChange fnStopsAtWrong)

/-- 'laws.FnStopsMeet': WHATEVER THE INPUT: true; the input reads as it did. -/
def fnStopsMeetSpec : ChangeSpec := { name := "fnStopsMeet", fn := fun _ => fun
  | [d] => { results := [.lit (.bool true)], args := [d] }
  | _ => none }
def fnStopsMeetRow : OpenClaim := { program := "ytdmbgnbegnlcaaa", sum := "ee08559382dfcaa980e8b2c607fddca7ba3c870deebc6d7246deb1713ef19a6d", func := "loop.example/mailcoaches/laws.FnStopsMeet", spec := "fnStopsMeet", unfollowed := true, recurses := true, apart := false }
def FnStopsMeetSaid : Prop := fnStopsMeetRow.holds Try.pinned (OpenSpec.ofChange fnStopsMeetSpec)

/-- ITS FALSE NEIGHBOUR: 'it returns false'. Refute it at one input. -/
def fnStopsMeetWrong : ChangeSpec := { name := "fnStopsMeet", fn := fun _ => fun
  | [d] => { results := [.lit (.bool false)], args := [d] }
  | _ => none }
def FnStopsMeetWrongFalsely : Prop := fnStopsMeetRow.holds Try.pinned (OpenSpec.ofChange fnStopsMeetWrong)

/-- 'laws.FnStopsBack': WHATEVER THE INPUT: true; the input reads as it did. -/
def fnStopsBackSpec : ChangeSpec := { name := "fnStopsBack", fn := fun _ => fun
  | [d] => { results := [.lit (.bool true)], args := [d] }
  | _ => none }
def fnStopsBackRow : OpenClaim := { program := "ytdmbgnbegnlcaaa", sum := "ee08559382dfcaa980e8b2c607fddca7ba3c870deebc6d7246deb1713ef19a6d", func := "loop.example/mailcoaches/laws.FnStopsBack", spec := "fnStopsBack", unfollowed := true, recurses := true, apart := false }
def FnStopsBackSaid : Prop := fnStopsBackRow.holds Try.pinned (OpenSpec.ofChange fnStopsBackSpec)

/-- ITS FALSE NEIGHBOUR: 'it returns false'. Refute it at one input. -/
def fnStopsBackWrong : ChangeSpec := { name := "fnStopsBack", fn := fun _ => fun
  | [d] => { results := [.lit (.bool false)], args := [d] }
  | _ => none }
def FnStopsBackWrongFalsely : Prop := fnStopsBackRow.holds Try.pinned (OpenSpec.ofChange fnStopsBackWrong)

/- THE SECOND FORM. 'bulk': how many values and letters a reading holds, each counted each time it is reached (what is shared counts as often as it is met; a slice's spare places count too). A statement '..UptoSaid' is the law's where the arguments, and the package variables that the reading takes, are together of bulk at most 1048576: NARROWER than '..Said'. Prove '..Said' where nothing that the law and all that it calls make is longer than what came in: it says more and counts as full. Else prove '..UptoSaid'. A law counts once. -/
mutual
def uptoBulk {H : Type} : DataW H → Nat
  | .lit (.string bytes) => bytes.length + 1
  | .lit _ => 1
  | .nil => 1
  | .ptr d => uptoBulk d + 1
  | .slice elems spare => uptoBulkAll elems + uptoBulkAll spare + 1
  | .agg parts => uptoBulkAll parts + 1
  | .iface _ d => uptoBulk d + 1
  | .map entries => uptoBulkEntries entries + 1
  | .held _ => 1
def uptoBulkAll {H : Type} : List (DataW H) → Nat
  | [] => 0
  | d :: r => uptoBulk d + uptoBulkAll r
def uptoBulkEntries {H : Type} : List (Lit × DataW H) → Nat
  | [] => 0
  | x :: r => uptoBulkEntry x + uptoBulkEntries r
def uptoBulkEntry {H : Type} : Lit × DataW H → Nat
  | (.string bytes, d) => bytes.length + uptoBulk d + 1
  | (_, d) => uptoBulk d + 1
 end
def uptoSmall : (H : Type) → List (DataW H) → Bool := fun _ ds => decide (uptoBulkAll ds ≤ 1048576)
def OpenSpec.upto (s : _root_.Go.ChangeSpec) : _root_.Go.OpenSpec := { _root_.Go.OpenSpec.ofChange s with cond := some uptoSmall }

/-- 'laws.FnExactStopsText', WHERE WHAT IT READS IS OF BULK AT MOST 1048576: true; the input reads as it did. -/
def fnExactStopsTextUptoRow : OpenClaim := { program := "ytdmbgnbegnlcaaa", sum := "ee08559382dfcaa980e8b2c607fddca7ba3c870deebc6d7246deb1713ef19a6d", func := "loop.example/mailcoaches/laws.FnExactStopsText", spec := "fnExactStopsText", inPlace := ["internal/abi.NoEscape", "internal/bytealg.MakeNoZero"], recurses := true, apart := false, narrowed := true }
def FnExactStopsTextUptoSaid : Prop := fnExactStopsTextUptoRow.holds Try.pinned (OpenSpec.upto fnExactStopsTextSpec)

/-- 'laws.FnExactStopsValid', WHERE WHAT IT READS IS OF BULK AT MOST 1048576: true; the input reads as it did. -/
def fnExactStopsValidUptoRow : OpenClaim := { program := "ytdmbgnbegnlcaaa", sum := "ee08559382dfcaa980e8b2c607fddca7ba3c870deebc6d7246deb1713ef19a6d", func := "loop.example/mailcoaches/laws.FnExactStopsValid", spec := "fnExactStopsValid", apart := false, narrowed := true }
def FnExactStopsValidUptoSaid : Prop := fnExactStopsValidUptoRow.holds Try.pinned (OpenSpec.upto fnExactStopsValidSpec)

/-- 'laws.FnExactStopsRun', WHERE WHAT IT READS IS OF BULK AT MOST 1048576: true; the input reads as it did. -/
def fnExactStopsRunUptoRow : OpenClaim := { program := "ytdmbgnbegnlcaaa", sum := "ee08559382dfcaa980e8b2c607fddca7ba3c870deebc6d7246deb1713ef19a6d", func := "loop.example/mailcoaches/laws.FnExactStopsRun", spec := "fnExactStopsRun", apart := false, narrowed := true }
def FnExactStopsRunUptoSaid : Prop := fnExactStopsRunUptoRow.holds Try.pinned (OpenSpec.upto fnExactStopsRunSpec)

/-- 'laws.FnExactStopsWait', WHERE WHAT IT READS IS OF BULK AT MOST 1048576: true; the input reads as it did. -/
def fnExactStopsWaitUptoRow : OpenClaim := { program := "ytdmbgnbegnlcaaa", sum := "ee08559382dfcaa980e8b2c607fddca7ba3c870deebc6d7246deb1713ef19a6d", func := "loop.example/mailcoaches/laws.FnExactStopsWait", spec := "fnExactStopsWait", apart := false, narrowed := true }
def FnExactStopsWaitUptoSaid : Prop := fnExactStopsWaitUptoRow.holds Try.pinned (OpenSpec.upto fnExactStopsWaitSpec)

/-- 'laws.FnExactStopsAt', WHERE WHAT IT READS IS OF BULK AT MOST 1048576: true; the input reads as it did. -/
def fnExactStopsAtUptoRow : OpenClaim := { program := "ytdmbgnbegnlcaaa", sum := "ee08559382dfcaa980e8b2c607fddca7ba3c870deebc6d7246deb1713ef19a6d", func := "loop.example/mailcoaches/laws.FnExactStopsAt", spec := "fnExactStopsAt", apart := false, narrowed := true }
def FnExactStopsAtUptoSaid : Prop := fnExactStopsAtUptoRow.holds Try.pinned (OpenSpec.upto fnExactStopsAtSpec)

/-- 'laws.FnStopsText', WHERE WHAT IT READS IS OF BULK AT MOST 1048576: true; the input reads as it did. -/
def fnStopsTextUptoRow : OpenClaim := { program := "ytdmbgnbegnlcaaa", sum := "ee08559382dfcaa980e8b2c607fddca7ba3c870deebc6d7246deb1713ef19a6d", func := "loop.example/mailcoaches/laws.FnStopsText", spec := "fnStopsText", inPlace := ["internal/abi.NoEscape", "internal/bytealg.MakeNoZero"], unfollowed := true, recurses := true, apart := false, narrowed := true }
def FnStopsTextUptoSaid : Prop := fnStopsTextUptoRow.holds Try.pinned (OpenSpec.upto fnStopsTextSpec)

/-- 'laws.FnExactStopsWhere', WHERE WHAT IT READS IS OF BULK AT MOST 1048576: true; the input reads as it did. -/
def fnExactStopsWhereUptoRow : OpenClaim := { program := "ytdmbgnbegnlcaaa", sum := "ee08559382dfcaa980e8b2c607fddca7ba3c870deebc6d7246deb1713ef19a6d", func := "loop.example/mailcoaches/laws.FnExactStopsWhere", spec := "fnExactStopsWhere", apart := false, narrowed := true }
def FnExactStopsWhereUptoSaid : Prop := fnExactStopsWhereUptoRow.holds Try.pinned (OpenSpec.upto fnExactStopsWhereSpec)

/-- 'laws.FnStopsWait', WHERE WHAT IT READS IS OF BULK AT MOST 1048576: true; the input reads as it did. -/
def fnStopsWaitUptoRow : OpenClaim := { program := "ytdmbgnbegnlcaaa", sum := "ee08559382dfcaa980e8b2c607fddca7ba3c870deebc6d7246deb1713ef19a6d", func := "loop.example/mailcoaches/laws.FnStopsWait", spec := "fnStopsWait", apart := false, narrowed := true }
def FnStopsWaitUptoSaid : Prop := fnStopsWaitUptoRow.holds Try.pinned (OpenSpec.upto fnStopsWaitSpec)

/-- 'laws.FnStopsRun', WHERE WHAT IT READS IS OF BULK AT MOST 1048576: true; the input reads as it did. -/
def fnStopsRunUptoRow : OpenClaim := { program := "ytdmbgnbegnlcaaa", sum := "ee08559382dfcaa980e8b2c607fddca7ba3c870deebc6d7246deb1713ef19a6d", func := "loop.example/mailcoaches/laws.FnStopsRun", spec := "fnStopsRun", apart := false, narrowed := true }
def FnStopsRunUptoSaid : Prop := fnStopsRunUptoRow.holds Try.pinned (OpenSpec.upto fnStopsRunSpec)

/-- 'laws.FnExactStopsMeet', WHERE WHAT IT READS IS OF BULK AT MOST 1048576: true; the input reads as it did. -/
def fnExactStopsMeetUptoRow : OpenClaim := { program := "ytdmbgnbegnlcaaa", sum := "ee08559382dfcaa980e8b2c607fddca7ba3c870deebc6d7246deb1713ef19a6d", func := "loop.example/mailcoaches/laws.FnExactStopsMeet", spec := "fnExactStopsMeet", apart := false, narrowed := true }
def FnExactStopsMeetUptoSaid : Prop := fnExactStopsMeetUptoRow.holds Try.pinned (OpenSpec.upto fnExactStopsMeetSpec)

/-- 'laws.FnStopsWhere', WHERE WHAT IT READS IS OF BULK AT MOST 1048576: true; the input reads as it did. -/
def fnStopsWhereUptoRow : OpenClaim := { program := "ytdmbgnbegnlcaaa", sum := "ee08559382dfcaa980e8b2c607fddca7ba3c870deebc6d7246deb1713ef19a6d", func := "loop.example/mailcoaches/laws.FnStopsWhere", spec := "fnStopsWhere", apart := false, narrowed := true }
def FnStopsWhereUptoSaid : Prop := fnStopsWhereUptoRow.holds Try.pinned (OpenSpec.upto fnStopsWhereSpec)

/-- 'laws.FnExactStopsPart', WHERE WHAT IT READS IS OF BULK AT MOST 1048576: true; the input reads as it did. -/
def fnExactStopsPartUptoRow : OpenClaim := { program := "ytdmbgnbegnlcaaa", sum := "ee08559382dfcaa980e8b2c607fddca7ba3c870deebc6d7246deb1713ef19a6d", func := "loop.example/mailcoaches/laws.FnExactStopsPart", spec := "fnExactStopsPart", apart := false, narrowed := true }
def FnExactStopsPartUptoSaid : Prop := fnExactStopsPartUptoRow.holds Try.pinned (OpenSpec.upto fnExactStopsPartSpec)

/-- 'laws.FnExactStopsLater', WHERE WHAT IT READS IS OF BULK AT MOST 1048576: true; the input reads as it did. -/
def fnExactStopsLaterUptoRow : OpenClaim := { program := "ytdmbgnbegnlcaaa", sum := "ee08559382dfcaa980e8b2c607fddca7ba3c870deebc6d7246deb1713ef19a6d", func := "loop.example/mailcoaches/laws.FnExactStopsLater", spec := "fnExactStopsLater", unfollowed := true, recurses := true, apart := false, narrowed := true }
def FnExactStopsLaterUptoSaid : Prop := fnExactStopsLaterUptoRow.holds Try.pinned (OpenSpec.upto fnExactStopsLaterSpec)

/-- 'laws.FnStopsPart', WHERE WHAT IT READS IS OF BULK AT MOST 1048576: true; the input reads as it did. -/
def fnStopsPartUptoRow : OpenClaim := { program := "ytdmbgnbegnlcaaa", sum := "ee08559382dfcaa980e8b2c607fddca7ba3c870deebc6d7246deb1713ef19a6d", func := "loop.example/mailcoaches/laws.FnStopsPart", spec := "fnStopsPart", apart := false, narrowed := true }
def FnStopsPartUptoSaid : Prop := fnStopsPartUptoRow.holds Try.pinned (OpenSpec.upto fnStopsPartSpec)

/-- 'laws.FnExactStopsBack', WHERE WHAT IT READS IS OF BULK AT MOST 1048576: true; the input reads as it did. -/
def fnExactStopsBackUptoRow : OpenClaim := { program := "ytdmbgnbegnlcaaa", sum := "ee08559382dfcaa980e8b2c607fddca7ba3c870deebc6d7246deb1713ef19a6d", func := "loop.example/mailcoaches/laws.FnExactStopsBack", spec := "fnExactStopsBack", unfollowed := true, recurses := true, apart := false, narrowed := true }
def FnExactStopsBackUptoSaid : Prop := fnExactStopsBackUptoRow.holds Try.pinned (OpenSpec.upto fnExactStopsBackSpec)

/-- 'laws.FnStopsLater', WHERE WHAT IT READS IS OF BULK AT MOST 1048576: true; the input reads as it did. -/
def fnStopsLaterUptoRow : OpenClaim := { program := "ytdmbgnbegnlcaaa", sum := "ee08559382dfcaa980e8b2c607fddca7ba3c870deebc6d7246deb1713ef19a6d", func := "loop.example/mailcoaches/laws.FnStopsLater", spec := "fnStopsLater", unfollowed := true, recurses := true, apart := false, narrowed := true }
def FnStopsLaterUptoSaid : Prop := fnStopsLaterUptoRow.holds Try.pinned (OpenSpec.upto fnStopsLaterSpec)

/-- 'laws.FnStopsAt', WHERE WHAT IT READS IS OF BULK AT MOST 1048576: true; the input reads as it did. -/
def fnStopsAtUptoRow : OpenClaim := { program := "ytdmbgnbegnlcaaa", sum := "ee08559382dfcaa980e8b2c607fddca7ba3c870deebc6d7246deb1713ef19a6d", func := "loop.example/mailcoaches/laws.FnStopsAt", spec := "fnStopsAt", unfollowed := true, recurses := true, apart := false, narrowed := true }
def FnStopsAtUptoSaid : Prop := fnStopsAtUptoRow.holds Try.pinned (OpenSpec.upto fnStopsAtSpec)

/-- 'laws.FnStopsMeet', WHERE WHAT IT READS IS OF BULK AT MOST 1048576: true; the input reads as it did. -/
def fnStopsMeetUptoRow : OpenClaim := { program := "ytdmbgnbegnlcaaa", sum := "ee08559382dfcaa980e8b2c607fddca7ba3c870deebc6d7246deb1713ef19a6d", func := "loop.example/mailcoaches/laws.FnStopsMeet", spec := "fnStopsMeet", unfollowed := true, recurses := true, apart := false, narrowed := true }
def FnStopsMeetUptoSaid : Prop := fnStopsMeetUptoRow.holds Try.pinned (OpenSpec.upto fnStopsMeetSpec)

/-- 'laws.FnStopsBack', WHERE WHAT IT READS IS OF BULK AT MOST 1048576: true; the input reads as it did. -/
def fnStopsBackUptoRow : OpenClaim := { program := "ytdmbgnbegnlcaaa", sum := "ee08559382dfcaa980e8b2c607fddca7ba3c870deebc6d7246deb1713ef19a6d", func := "loop.example/mailcoaches/laws.FnStopsBack", spec := "fnStopsBack", unfollowed := true, recurses := true, apart := false, narrowed := true }
def FnStopsBackUptoSaid : Prop := fnStopsBackUptoRow.holds Try.pinned (OpenSpec.upto fnStopsBackSpec)

end Rows
end Go.Proofs.Ytdmbgnbegnlcaaa
