/-
  No cell of these rows narrows 'for every input' (looked for: loops, veiled, ifaces, maps, wideKeys, modest, calm, conditions, laid).
  DERIVED. THE GIVEN ROWS OF THIS SEAT. 21 by the template 'for every input the law returns true; each argument reads behind the call as it read before'; 0 by the template 'total and deterministic' (their statements: YtgimheekaceifaaTotals.lean).
  GIVEN WITH THE SEED: the statements are not yours to turn. If you find one false, say at which input.
  Laid BY PROGRAM, IN A SANDBOX (cutbox-rows.mjs): the forced cells as the released guide's own fill.sh prints them over the translation 8e7e0d81ac03219b… (all of the seat's roots in one cut). By AI agents, Wed Nov 11 2026. No macro, syntax, notation, axiom, sorry.
-/
import Derived.Test.YtgimheekaceifaaChecked
import GoSem.Claim
import GoSem.ClaimJoined
import GoSem.ClaimMapViews
import Derived.JoinedTies
import Derived.KernelRfl
namespace Go.Proofs.Ytgimheekaceifaa
/- THE CELL 'sum', in the pinned program and in every row, IS THE sha256 OF THE DUMP (.gsa) THAT YtgimheekaceifaaProg.lean LOADS. Nothing in Lean hashes anything: it is a label: what it is worth is what the hold of that sum in a sandbox is worth. -/
noncomputable def Try.pinned : Pinned := { name := "ytgimheekaceifaa", sum := "8e7e0d81ac03219b5061cd9f225cadc47c98af68354f505129e76e5885270ed6", checked := Try.checked }
namespace Rows
def none {H : Type} : Left H := { results := [], args := [] }

/-- 'laws.FnExactRunsValid': WHATEVER THE INPUT: true; the input reads as it did. -/
def fnExactRunsValidSpec : ChangeSpec := { name := "fnExactRunsValid", fn := fun _ => fun
  | [d] => { results := [.lit (.bool true)], args := [d] }
  | _ => none }
def fnExactRunsValidRow : OpenClaim := { program := "ytgimheekaceifaa", sum := "8e7e0d81ac03219b5061cd9f225cadc47c98af68354f505129e76e5885270ed6", func := "loop.example/mailcoaches/laws.FnExactRunsValid", spec := "fnExactRunsValid", apart := false }
def FnExactRunsValidSaid : Prop := fnExactRunsValidRow.holds Try.pinned (OpenSpec.ofChange fnExactRunsValidSpec)

/-- ITS FALSE NEIGHBOUR: 'it returns false'. Refute it at one input. -/
def fnExactRunsValidWrong : ChangeSpec := { name := "fnExactRunsValid", fn := fun _ => fun
  | [d] => { results := [.lit (.bool false)], args := [d] }
  | _ => none }
def FnExactRunsValidWrongFalsely : Prop := fnExactRunsValidRow.holds Try.pinned (OpenSpec.ofChange fnExactRunsValidWrong)

/-- 'laws.FnExactTeamsBusy': WHATEVER THE INPUT: true; the input reads as it did. -/
def fnExactTeamsBusySpec : ChangeSpec := { name := "fnExactTeamsBusy", fn := fun _ => fun
  | [d1, d2, d3] => { results := [.lit (.bool true)], args := [d1, d2, d3] }
  | _ => none }
def fnExactTeamsBusyRow : OpenClaim := { program := "ytgimheekaceifaa", sum := "8e7e0d81ac03219b5061cd9f225cadc47c98af68354f505129e76e5885270ed6", func := "loop.example/mailcoaches/laws.FnExactTeamsBusy", spec := "fnExactTeamsBusy", apart := false }
def FnExactTeamsBusySaid : Prop := fnExactTeamsBusyRow.holds Try.pinned (OpenSpec.ofChange fnExactTeamsBusySpec)

/-- ITS FALSE NEIGHBOUR: 'it returns false'. Refute it at one input. -/
def fnExactTeamsBusyWrong : ChangeSpec := { name := "fnExactTeamsBusy", fn := fun _ => fun
  | [d1, d2, d3] => { results := [.lit (.bool false)], args := [d1, d2, d3] }
  | _ => none }
def FnExactTeamsBusyWrongFalsely : Prop := fnExactTeamsBusyRow.holds Try.pinned (OpenSpec.ofChange fnExactTeamsBusyWrong)

/-- 'laws.FnRunsAdd': WHATEVER THE INPUT: true; the input reads as it did. -/
def fnRunsAddSpec : ChangeSpec := { name := "fnRunsAdd", fn := fun _ => fun
  | [d1, d2] => { results := [.lit (.bool true)], args := [d1, d2] }
  | _ => none }
def fnRunsAddRow : OpenClaim := { program := "ytgimheekaceifaa", sum := "8e7e0d81ac03219b5061cd9f225cadc47c98af68354f505129e76e5885270ed6", func := "loop.example/mailcoaches/laws.FnRunsAdd", spec := "fnRunsAdd", unfollowed := true, recurses := true, apart := false }
def FnRunsAddSaid : Prop := fnRunsAddRow.holds Try.pinned (OpenSpec.ofChange fnRunsAddSpec)

/-- ITS FALSE NEIGHBOUR: 'it returns false'. Refute it at one input. -/
def fnRunsAddWrong : ChangeSpec := { name := "fnRunsAdd", fn := fun _ => fun
  | [d1, d2] => { results := [.lit (.bool false)], args := [d1, d2] }
  | _ => none }
def FnRunsAddWrongFalsely : Prop := fnRunsAddRow.holds Try.pinned (OpenSpec.ofChange fnRunsAddWrong)

/-- 'laws.FnExactRunsLater': WHATEVER THE INPUT: true; the input reads as it did. -/
def fnExactRunsLaterSpec : ChangeSpec := { name := "fnExactRunsLater", fn := fun _ => fun
  | [d1, d2] => { results := [.lit (.bool true)], args := [d1, d2] }
  | _ => none }
def fnExactRunsLaterRow : OpenClaim := { program := "ytgimheekaceifaa", sum := "8e7e0d81ac03219b5061cd9f225cadc47c98af68354f505129e76e5885270ed6", func := "loop.example/mailcoaches/laws.FnExactRunsLater", spec := "fnExactRunsLater", apart := false }
def FnExactRunsLaterSaid : Prop := fnExactRunsLaterRow.holds Try.pinned (OpenSpec.ofChange fnExactRunsLaterSpec)

/-- ITS FALSE NEIGHBOUR: 'it returns false'. Refute it at one input. -/
def fnExactRunsLaterWrong : ChangeSpec := { name := "fnExactRunsLater", fn := fun _ => fun
  | [d1, d2] => { results := [.lit (.bool false)], args := [d1, d2] }
  | _ => none }
def FnExactRunsLaterWrongFalsely : Prop := fnExactRunsLaterRow.holds Try.pinned (OpenSpec.ofChange fnExactRunsLaterWrong)

/-- 'laws.FnExactTeamsPeak': WHATEVER THE INPUT: true; the input reads as it did. -/
def fnExactTeamsPeakSpec : ChangeSpec := { name := "fnExactTeamsPeak", fn := fun _ => fun
  | [d1, d2] => { results := [.lit (.bool true)], args := [d1, d2] }
  | _ => none }
def fnExactTeamsPeakRow : OpenClaim := { program := "ytgimheekaceifaa", sum := "8e7e0d81ac03219b5061cd9f225cadc47c98af68354f505129e76e5885270ed6", func := "loop.example/mailcoaches/laws.FnExactTeamsPeak", spec := "fnExactTeamsPeak", apart := false }
def FnExactTeamsPeakSaid : Prop := fnExactTeamsPeakRow.holds Try.pinned (OpenSpec.ofChange fnExactTeamsPeakSpec)

/-- ITS FALSE NEIGHBOUR: 'it returns false'. Refute it at one input. -/
def fnExactTeamsPeakWrong : ChangeSpec := { name := "fnExactTeamsPeak", fn := fun _ => fun
  | [d1, d2] => { results := [.lit (.bool false)], args := [d1, d2] }
  | _ => none }
def FnExactTeamsPeakWrongFalsely : Prop := fnExactTeamsPeakRow.holds Try.pinned (OpenSpec.ofChange fnExactTeamsPeakWrong)

/-- 'laws.FnExactRosterValid': WHATEVER THE INPUT: true; the input reads as it did. -/
def fnExactRosterValidSpec : ChangeSpec := { name := "fnExactRosterValid", fn := fun _ => fun
  | [d1, d2, d3] => { results := [.lit (.bool true)], args := [d1, d2, d3] }
  | _ => none }
def fnExactRosterValidRow : OpenClaim := { program := "ytgimheekaceifaa", sum := "8e7e0d81ac03219b5061cd9f225cadc47c98af68354f505129e76e5885270ed6", func := "loop.example/mailcoaches/laws.FnExactRosterValid", spec := "fnExactRosterValid", apart := false }
def FnExactRosterValidSaid : Prop := fnExactRosterValidRow.holds Try.pinned (OpenSpec.ofChange fnExactRosterValidSpec)

/-- ITS FALSE NEIGHBOUR: 'it returns false'. Refute it at one input. -/
def fnExactRosterValidWrong : ChangeSpec := { name := "fnExactRosterValid", fn := fun _ => fun
  | [d1, d2, d3] => { results := [.lit (.bool false)], args := [d1, d2, d3] }
  | _ => none }
def FnExactRosterValidWrongFalsely : Prop := fnExactRosterValidRow.holds Try.pinned (OpenSpec.ofChange fnExactRosterValidWrong)

/-- 'laws.FnExactRunsAdd': WHATEVER THE INPUT: true; the input reads as it did. -/
def fnExactRunsAddSpec : ChangeSpec := { name := "fnExactRunsAdd", fn := fun _ => fun
  | [d1, d2] => { results := [.lit (.bool true)], args := [d1, d2] }
  | _ => none }
def fnExactRunsAddRow : OpenClaim := { program := "ytgimheekaceifaa", sum := "8e7e0d81ac03219b5061cd9f225cadc47c98af68354f505129e76e5885270ed6", func := "loop.example/mailcoaches/laws.FnExactRunsAdd", spec := "fnExactRunsAdd", apart := false }
def FnExactRunsAddSaid : Prop := fnExactRunsAddRow.holds Try.pinned (OpenSpec.ofChange fnExactRunsAddSpec)

/-- ITS FALSE NEIGHBOUR: 'it returns false'. Refute it at one input. -/
def fnExactRunsAddWrong : ChangeSpec := { name := "fnExactRunsAdd", fn := fun _ => fun
  | [d1, d2] => { results := [.lit (.bool false)], args := [d1, d2] }
  | _ => none }
def FnExactRunsAddWrongFalsely : Prop := fnExactRunsAddRow.holds Try.pinned (OpenSpec.ofChange fnExactRunsAddWrong)

/-- 'laws.FnRoster': WHATEVER THE INPUT: true; the input reads as it did. -/
def fnRosterSpec : ChangeSpec := { name := "fnRoster", fn := fun _ => fun
  | [d1, d2] => { results := [.lit (.bool true)], args := [d1, d2] }
  | _ => none }
def fnRosterRow : OpenClaim := { program := "ytgimheekaceifaa", sum := "8e7e0d81ac03219b5061cd9f225cadc47c98af68354f505129e76e5885270ed6", func := "loop.example/mailcoaches/laws.FnRoster", spec := "fnRoster", apart := false }
def FnRosterSaid : Prop := fnRosterRow.holds Try.pinned (OpenSpec.ofChange fnRosterSpec)

/-- ITS FALSE NEIGHBOUR: 'it returns false'. Refute it at one input. -/
def fnRosterWrong : ChangeSpec := { name := "fnRoster", fn := fun _ => fun
  | [d1, d2] => { results := [.lit (.bool false)], args := [d1, d2] }
  | _ => none }
def FnRosterWrongFalsely : Prop := fnRosterRow.holds Try.pinned (OpenSpec.ofChange fnRosterWrong)

/-- 'laws.FnExactRosterTeams': WHATEVER THE INPUT: true; the input reads as it did. -/
def fnExactRosterTeamsSpec : ChangeSpec := { name := "fnExactRosterTeams", fn := fun _ => fun
  | [d1, d2, d3] => { results := [.lit (.bool true)], args := [d1, d2, d3] }
  | _ => none }
def fnExactRosterTeamsRow : OpenClaim := { program := "ytgimheekaceifaa", sum := "8e7e0d81ac03219b5061cd9f225cadc47c98af68354f505129e76e5885270ed6", func := "loop.example/mailcoaches/laws.FnExactRosterTeams", spec := "fnExactRosterTeams", apart := false }
def FnExactRosterTeamsSaid : Prop := fnExactRosterTeamsRow.holds Try.pinned (OpenSpec.ofChange fnExactRosterTeamsSpec)

/-- ITS FALSE NEIGHBOUR: 'it returns false'. Refute it at one input. -/
def fnExactRosterTeamsWrong : ChangeSpec := { name := "fnExactRosterTeams", fn := fun _ => fun
  | [d1, d2, d3] => { results := [.lit (.bool false)], args := [d1, d2, d3] }
  | _ => none }
def FnExactRosterTeamsWrongFalsely : Prop := fnExactRosterTeamsRow.holds Try.pinned (OpenSpec.ofChange fnExactRosterTeamsWrong)

/-- 'laws.FnExactRosterMinutes': WHATEVER THE INPUT: true; the input reads as it did. -/
def fnExactRosterMinutesSpec : ChangeSpec := { name := "fnExactRosterMinutes", fn := fun _ => fun
  | [d1, d2, d3] => { results := [.lit (.bool true)], args := [d1, d2, d3] }
  | _ => none }
def fnExactRosterMinutesRow : OpenClaim := { program := "ytgimheekaceifaa", sum := "8e7e0d81ac03219b5061cd9f225cadc47c98af68354f505129e76e5885270ed6", func := "loop.example/mailcoaches/laws.FnExactRosterMinutes", spec := "fnExactRosterMinutes", apart := false }
def FnExactRosterMinutesSaid : Prop := fnExactRosterMinutesRow.holds Try.pinned (OpenSpec.ofChange fnExactRosterMinutesSpec)

/-- ITS FALSE NEIGHBOUR: 'it returns false'. Refute it at one input. -/
def fnExactRosterMinutesWrong : ChangeSpec := { name := "fnExactRosterMinutes", fn := fun _ => fun
  | [d1, d2, d3] => { results := [.lit (.bool false)], args := [d1, d2, d3] }
  | _ => none }
def FnExactRosterMinutesWrongFalsely : Prop := fnExactRosterMinutesRow.holds Try.pinned (OpenSpec.ofChange fnExactRosterMinutesWrong)

/-- 'laws.FnExactTeamsLeast': WHATEVER THE INPUT: true; the input reads as it did. -/
def fnExactTeamsLeastSpec : ChangeSpec := { name := "fnExactTeamsLeast", fn := fun _ => fun
  | [d1, d2] => { results := [.lit (.bool true)], args := [d1, d2] }
  | _ => none }
def fnExactTeamsLeastRow : OpenClaim := { program := "ytgimheekaceifaa", sum := "8e7e0d81ac03219b5061cd9f225cadc47c98af68354f505129e76e5885270ed6", func := "loop.example/mailcoaches/laws.FnExactTeamsLeast", spec := "fnExactTeamsLeast", unfollowed := true, recurses := true, apart := false }
def FnExactTeamsLeastSaid : Prop := fnExactTeamsLeastRow.holds Try.pinned (OpenSpec.ofChange fnExactTeamsLeastSpec)

/-- ITS FALSE NEIGHBOUR: 'it returns false'. Refute it at one input. -/
def fnExactTeamsLeastWrong : ChangeSpec := { name := "fnExactTeamsLeast", fn := fun _ => fun
  | [d1, d2] => { results := [.lit (.bool false)], args := [d1, d2] }
  | _ => none }
def FnExactTeamsLeastWrongFalsely : Prop := fnExactTeamsLeastRow.holds Try.pinned (OpenSpec.ofChange fnExactTeamsLeastWrong)

/-- 'laws.FnRunsLater': WHATEVER THE INPUT: true; the input reads as it did. -/
def fnRunsLaterSpec : ChangeSpec := { name := "fnRunsLater", fn := fun _ => fun
  | [d1, d2] => { results := [.lit (.bool true)], args := [d1, d2] }
  | _ => none }
def fnRunsLaterRow : OpenClaim := { program := "ytgimheekaceifaa", sum := "8e7e0d81ac03219b5061cd9f225cadc47c98af68354f505129e76e5885270ed6", func := "loop.example/mailcoaches/laws.FnRunsLater", spec := "fnRunsLater", unfollowed := true, recurses := true, apart := false }
def FnRunsLaterSaid : Prop := fnRunsLaterRow.holds Try.pinned (OpenSpec.ofChange fnRunsLaterSpec)

/-- ITS FALSE NEIGHBOUR: 'it returns false'. Refute it at one input. -/
def fnRunsLaterWrong : ChangeSpec := { name := "fnRunsLater", fn := fun _ => fun
  | [d1, d2] => { results := [.lit (.bool false)], args := [d1, d2] }
  | _ => none }
def FnRunsLaterWrongFalsely : Prop := fnRunsLaterRow.holds Try.pinned (OpenSpec.ofChange fnRunsLaterWrong)

/-- 'laws.FnExactRosterMake': WHATEVER THE INPUT: true; the input reads as it did. -/
def fnExactRosterMakeSpec : ChangeSpec := { name := "fnExactRosterMake", fn := fun _ => fun
  | [d1, d2] => { results := [.lit (.bool true)], args := [d1, d2] }
  | _ => none }
def fnExactRosterMakeRow : OpenClaim := { program := "ytgimheekaceifaa", sum := "8e7e0d81ac03219b5061cd9f225cadc47c98af68354f505129e76e5885270ed6", func := "loop.example/mailcoaches/laws.FnExactRosterMake", spec := "fnExactRosterMake", unfollowed := true, recurses := true, apart := false }
def FnExactRosterMakeSaid : Prop := fnExactRosterMakeRow.holds Try.pinned (OpenSpec.ofChange fnExactRosterMakeSpec)

/-- ITS FALSE NEIGHBOUR: 'it returns false'. Refute it at one input. -/
def fnExactRosterMakeWrong : ChangeSpec := { name := "fnExactRosterMake", fn := fun _ => fun
  | [d1, d2] => { results := [.lit (.bool false)], args := [d1, d2] }
  | _ => none }
def FnExactRosterMakeWrongFalsely : Prop := fnExactRosterMakeRow.holds Try.pinned (OpenSpec.ofChange fnExactRosterMakeWrong)

/-- 'laws.FnExactRestMost': WHATEVER THE INPUT: true; the input reads as it did. -/
def fnExactRestMostSpec : ChangeSpec := { name := "fnExactRestMost", fn := fun _ => fun
  | [d1, d2] => { results := [.lit (.bool true)], args := [d1, d2] }
  | _ => none }
def fnExactRestMostRow : OpenClaim := { program := "ytgimheekaceifaa", sum := "8e7e0d81ac03219b5061cd9f225cadc47c98af68354f505129e76e5885270ed6", func := "loop.example/mailcoaches/laws.FnExactRestMost", spec := "fnExactRestMost", unfollowed := true, recurses := true, apart := false }
def FnExactRestMostSaid : Prop := fnExactRestMostRow.holds Try.pinned (OpenSpec.ofChange fnExactRestMostSpec)

/-- ITS FALSE NEIGHBOUR: 'it returns false'. Refute it at one input. -/
def fnExactRestMostWrong : ChangeSpec := { name := "fnExactRestMost", fn := fun _ => fun
  | [d1, d2] => { results := [.lit (.bool false)], args := [d1, d2] }
  | _ => none }
def FnExactRestMostWrongFalsely : Prop := fnExactRestMostRow.holds Try.pinned (OpenSpec.ofChange fnExactRestMostWrong)

/-- 'laws.FnTeamsBusy': WHATEVER THE INPUT: true; the input reads as it did. -/
def fnTeamsBusySpec : ChangeSpec := { name := "fnTeamsBusy", fn := fun _ => fun
  | [d1, d2] => { results := [.lit (.bool true)], args := [d1, d2] }
  | _ => none }
def fnTeamsBusyRow : OpenClaim := { program := "ytgimheekaceifaa", sum := "8e7e0d81ac03219b5061cd9f225cadc47c98af68354f505129e76e5885270ed6", func := "loop.example/mailcoaches/laws.FnTeamsBusy", spec := "fnTeamsBusy", unfollowed := true, recurses := true, apart := false }
def FnTeamsBusySaid : Prop := fnTeamsBusyRow.holds Try.pinned (OpenSpec.ofChange fnTeamsBusySpec)

/-- ITS FALSE NEIGHBOUR: 'it returns false'. Refute it at one input. -/
def fnTeamsBusyWrong : ChangeSpec := { name := "fnTeamsBusy", fn := fun _ => fun
  | [d1, d2] => { results := [.lit (.bool false)], args := [d1, d2] }
  | _ => none }
def FnTeamsBusyWrongFalsely : Prop := fnTeamsBusyRow.holds Try.pinned (OpenSpec.ofChange fnTeamsBusyWrong)

/-- 'laws.FnExactRosterSwap': WHATEVER THE INPUT: true; the input reads as it did. -/
def fnExactRosterSwapSpec : ChangeSpec := { name := "fnExactRosterSwap", fn := fun _ => fun
  | [d1, d2, d3, d4, d5, d6] => { results := [.lit (.bool true)], args := [d1, d2, d3, d4, d5, d6] }
  | _ => none }
def fnExactRosterSwapRow : OpenClaim := { program := "ytgimheekaceifaa", sum := "8e7e0d81ac03219b5061cd9f225cadc47c98af68354f505129e76e5885270ed6", func := "loop.example/mailcoaches/laws.FnExactRosterSwap", spec := "fnExactRosterSwap", apart := false }
def FnExactRosterSwapSaid : Prop := fnExactRosterSwapRow.holds Try.pinned (OpenSpec.ofChange fnExactRosterSwapSpec)

/-- ITS FALSE NEIGHBOUR: 'it returns false'. Refute it at one input. -/
def fnExactRosterSwapWrong : ChangeSpec := { name := "fnExactRosterSwap", fn := fun _ => fun
  | [d1, d2, d3, d4, d5, d6] => { results := [.lit (.bool false)], args := [d1, d2, d3, d4, d5, d6] }
  | _ => none }
def FnExactRosterSwapWrongFalsely : Prop := fnExactRosterSwapRow.holds Try.pinned (OpenSpec.ofChange fnExactRosterSwapWrong)

/-- 'laws.FnRestMost': WHATEVER THE INPUT: true; the input reads as it did. -/
def fnRestMostSpec : ChangeSpec := { name := "fnRestMost", fn := fun _ => fun
  | [d] => { results := [.lit (.bool true)], args := [d] }
  | _ => none }
def fnRestMostRow : OpenClaim := { program := "ytgimheekaceifaa", sum := "8e7e0d81ac03219b5061cd9f225cadc47c98af68354f505129e76e5885270ed6", func := "loop.example/mailcoaches/laws.FnRestMost", spec := "fnRestMost", unfollowed := true, recurses := true, apart := false }
def FnRestMostSaid : Prop := fnRestMostRow.holds Try.pinned (OpenSpec.ofChange fnRestMostSpec)

/-- ITS FALSE NEIGHBOUR: 'it returns false'. Refute it at one input. -/
def fnRestMostWrong : ChangeSpec := { name := "fnRestMost", fn := fun _ => fun
  | [d] => { results := [.lit (.bool false)], args := [d] }
  | _ => none }
def FnRestMostWrongFalsely : Prop := fnRestMostRow.holds Try.pinned (OpenSpec.ofChange fnRestMostWrong)

/-- 'laws.FnRosterMake': WHATEVER THE INPUT: true; the input reads as it did. -/
def fnRosterMakeSpec : ChangeSpec := { name := "fnRosterMake", fn := fun _ => fun
  | [d1, d2] => { results := [.lit (.bool true)], args := [d1, d2] }
  | _ => none }
def fnRosterMakeRow : OpenClaim := { program := "ytgimheekaceifaa", sum := "8e7e0d81ac03219b5061cd9f225cadc47c98af68354f505129e76e5885270ed6", func := "loop.example/mailcoaches/laws.FnRosterMake", spec := "fnRosterMake", unfollowed := true, recurses := true, apart := false }
def FnRosterMakeSaid : Prop := fnRosterMakeRow.holds Try.pinned (OpenSpec.ofChange fnRosterMakeSpec)

/-- ITS FALSE NEIGHBOUR: 'it returns false'. Refute it at one input. -/
def fnRosterMakeWrong : ChangeSpec := { name := "fnRosterMake", fn := fun _ => fun
  | [d1, d2] => { results := [.lit (.bool false)], args := [d1, d2] }
  | _ => none }
def FnRosterMakeWrongFalsely : Prop := fnRosterMakeRow.holds Try.pinned (OpenSpec.ofChange fnRosterMakeWrong)

/-- 'laws.FnRosterMinutes': WHATEVER THE INPUT: true; the input reads as it did. -/
def fnRosterMinutesSpec : ChangeSpec := { name := "fnRosterMinutes", fn := fun _ => fun
  | [d] => { results := [.lit (.bool true)], args := [d] }
  | _ => none }
def fnRosterMinutesRow : OpenClaim := { program := "ytgimheekaceifaa", sum := "8e7e0d81ac03219b5061cd9f225cadc47c98af68354f505129e76e5885270ed6", func := "loop.example/mailcoaches/laws.FnRosterMinutes", spec := "fnRosterMinutes", apart := false }
def FnRosterMinutesSaid : Prop := fnRosterMinutesRow.holds Try.pinned (OpenSpec.ofChange fnRosterMinutesSpec)

/-- ITS FALSE NEIGHBOUR: 'it returns false'. Refute it at one input. -/
def fnRosterMinutesWrong : ChangeSpec := { name := "fnRosterMinutes", fn := fun _ => fun
  | [d] => { results := [.lit (.bool false)], args := [d] }
  | _ => none }
def FnRosterMinutesWrongFalsely : Prop := fnRosterMinutesRow.holds Try.pinned (OpenSpec.ofChange fnRosterMinutesWrong)

/-- 'laws.FnTeamsLeast': WHATEVER THE INPUT: true; the input reads as it did. -/
def fnTeamsLeastSpec : ChangeSpec := { name := "fnTeamsLeast", fn := fun _ => fun
  | [d] => { results := [.lit (.bool true)], args := [d] }
  | _ => none }
def fnTeamsLeastRow : OpenClaim := { program := "ytgimheekaceifaa", sum := "8e7e0d81ac03219b5061cd9f225cadc47c98af68354f505129e76e5885270ed6", func := "loop.example/mailcoaches/laws.FnTeamsLeast", spec := "fnTeamsLeast", unfollowed := true, recurses := true, apart := false }
def FnTeamsLeastSaid : Prop := fnTeamsLeastRow.holds Try.pinned (OpenSpec.ofChange fnTeamsLeastSpec)

/-- ITS FALSE NEIGHBOUR: 'it returns false'. Refute it at one input. -/
def fnTeamsLeastWrong : ChangeSpec := { name := "fnTeamsLeast", fn := fun _ => fun
  | [d] => { results := [.lit (.bool false)], args := [d] }
  | _ => none }
def FnTeamsLeastWrongFalsely : Prop := fnTeamsLeastRow.holds Try.pinned (OpenSpec.ofChange fnTeamsLeastWrong)

/-- 'laws.FnTeamsPeak': WHATEVER THE INPUT: true; the input reads as it did. -/
def fnTeamsPeakSpec : ChangeSpec := { name := "fnTeamsPeak", fn := fun _ => fun
  | [d] => { results := [.lit (.bool true)], args := [d] }
  | _ => none }
def fnTeamsPeakRow : OpenClaim := { program := "ytgimheekaceifaa", sum := "8e7e0d81ac03219b5061cd9f225cadc47c98af68354f505129e76e5885270ed6", func := "loop.example/mailcoaches/laws.FnTeamsPeak", spec := "fnTeamsPeak", unfollowed := true, recurses := true, apart := false }
def FnTeamsPeakSaid : Prop := fnTeamsPeakRow.holds Try.pinned (OpenSpec.ofChange fnTeamsPeakSpec)

/-- ITS FALSE NEIGHBOUR: 'it returns false'. Refute it at one input. -/
def fnTeamsPeakWrong : ChangeSpec := { name := "fnTeamsPeak", fn := fun _ => fun
  | [d] => { results := [.lit (.bool false)], args := [d] }
  | _ => none }
def FnTeamsPeakWrongFalsely : Prop := fnTeamsPeakRow.holds Try.pinned (OpenSpec.ofChange fnTeamsPeakWrong)

/- THE SECOND FORM. 'bulk': how many values and letters a reading holds, each counted each time it is reached (what is shared counts as often as it is met; a slice's spare places count too). A statement '..UptoSaid' is the law's where the arguments, and the package variables that the reading takes, are together of bulk at most 1048576: NARROWER than '..Said'. Prove '..Said' where nothing that the law and all that it calls make is longer than what came in: it says more and counts as full. Else prove '..UptoSaid'. A law counts once. -/
mutual
def uptoBulk {H : Type} : DataW H → Nat
  | .lit (.string bytes) => bytes.length + 1
  | .lit _ => 1
  | .nil => 1
  | .ptr d => uptoBulk d + 1
  | .slice elems spare => uptoBulkAll elems + uptoBulkAll spare + 1
  | .agg parts => uptoBulkAll parts + 1
  | .iface _ d => uptoBulk d + 1
  | .map entries => uptoBulkEntries entries + 1
  | .held _ => 1
def uptoBulkAll {H : Type} : List (DataW H) → Nat
  | [] => 0
  | d :: r => uptoBulk d + uptoBulkAll r
def uptoBulkEntries {H : Type} : List (Lit × DataW H) → Nat
  | [] => 0
  | x :: r => uptoBulkEntry x + uptoBulkEntries r
def uptoBulkEntry {H : Type} : Lit × DataW H → Nat
  | (.string bytes, d) => bytes.length + uptoBulk d + 1
  | (_, d) => uptoBulk d + 1
 end
def uptoSmall : (H : Type) → List (DataW H) → Bool := fun _ ds => decide (uptoBulkAll ds ≤ 1048576)
def OpenSpec.upto (s : _root_.Go.ChangeSpec) : _root_.Go.OpenSpec := { _root_.Go.OpenSpec.ofChange s with cond := some uptoSmall }

/-- 'laws.FnExactRunsValid', WHERE WHAT IT READS IS OF BULK AT MOST 1048576: true; the input reads as it did. -/
def fnExactRunsValidUptoRow : OpenClaim := { program := "ytgimheekaceifaa", sum := "8e7e0d81ac03219b5061cd9f225cadc47c98af68354f505129e76e5885270ed6", func := "loop.example/mailcoaches/laws.FnExactRunsValid", spec := "fnExactRunsValid", apart := false, narrowed := true }
def FnExactRunsValidUptoSaid : Prop := fnExactRunsValidUptoRow.holds Try.pinned (OpenSpec.upto fnExactRunsValidSpec)

/-- 'laws.FnExactTeamsBusy', WHERE WHAT IT READS IS OF BULK AT MOST 1048576: true; the input reads as it did. -/
def fnExactTeamsBusyUptoRow : OpenClaim := { program := "ytgimheekaceifaa", sum := "8e7e0d81ac03219b5061cd9f225cadc47c98af68354f505129e76e5885270ed6", func := "loop.example/mailcoaches/laws.FnExactTeamsBusy", spec := "fnExactTeamsBusy", apart := false, narrowed := true }
def FnExactTeamsBusyUptoSaid : Prop := fnExactTeamsBusyUptoRow.holds Try.pinned (OpenSpec.upto fnExactTeamsBusySpec)

/-- 'laws.FnRunsAdd', WHERE WHAT IT READS IS OF BULK AT MOST 1048576: true; the input reads as it did. -/
def fnRunsAddUptoRow : OpenClaim := { program := "ytgimheekaceifaa", sum := "8e7e0d81ac03219b5061cd9f225cadc47c98af68354f505129e76e5885270ed6", func := "loop.example/mailcoaches/laws.FnRunsAdd", spec := "fnRunsAdd", unfollowed := true, recurses := true, apart := false, narrowed := true }
def FnRunsAddUptoSaid : Prop := fnRunsAddUptoRow.holds Try.pinned (OpenSpec.upto fnRunsAddSpec)

/-- 'laws.FnExactRunsLater', WHERE WHAT IT READS IS OF BULK AT MOST 1048576: true; the input reads as it did. -/
def fnExactRunsLaterUptoRow : OpenClaim := { program := "ytgimheekaceifaa", sum := "8e7e0d81ac03219b5061cd9f225cadc47c98af68354f505129e76e5885270ed6", func := "loop.example/mailcoaches/laws.FnExactRunsLater", spec := "fnExactRunsLater", apart := false, narrowed := true }
def FnExactRunsLaterUptoSaid : Prop := fnExactRunsLaterUptoRow.holds Try.pinned (OpenSpec.upto fnExactRunsLaterSpec)

/-- 'laws.FnExactTeamsPeak', WHERE WHAT IT READS IS OF BULK AT MOST 1048576: true; the input reads as it did. -/
def fnExactTeamsPeakUptoRow : OpenClaim := { program := "ytgimheekaceifaa", sum := "8e7e0d81ac03219b5061cd9f225cadc47c98af68354f505129e76e5885270ed6", func := "loop.example/mailcoaches/laws.FnExactTeamsPeak", spec := "fnExactTeamsPeak", apart := false, narrowed := true }
def FnExactTeamsPeakUptoSaid : Prop := fnExactTeamsPeakUptoRow.holds Try.pinned (OpenSpec.upto fnExactTeamsPeakSpec)

/-- 'laws.FnExactRosterValid', WHERE WHAT IT READS IS OF BULK AT MOST 1048576: true; the input reads as it did. -/
def fnExactRosterValidUptoRow : OpenClaim := { program := "ytgimheekaceifaa", sum := "8e7e0d81ac03219b5061cd9f225cadc47c98af68354f505129e76e5885270ed6", func := "loop.example/mailcoaches/laws.FnExactRosterValid", spec := "fnExactRosterValid", apart := false, narrowed := true }
def FnExactRosterValidUptoSaid : Prop := fnExactRosterValidUptoRow.holds Try.pinned (OpenSpec.upto fnExactRosterValidSpec)

/-- 'laws.FnExactRunsAdd', WHERE WHAT IT READS IS OF BULK AT MOST 1048576: true; the input reads as it did. -/
def fnExactRunsAddUptoRow : OpenClaim := { program := "ytgimheekaceifaa", sum := "8e7e0d81ac03219b5061cd9f225cadc47c98af68354f505129e76e5885270ed6", func := "loop.example/mailcoaches/laws.FnExactRunsAdd", spec := "fnExactRunsAdd", apart := false, narrowed := true }
def FnExactRunsAddUptoSaid : Prop := fnExactRunsAddUptoRow.holds Try.pinned (OpenSpec.upto fnExactRunsAddSpec)

/-- 'laws.FnRoster', WHERE WHAT IT READS IS OF BULK AT MOST 1048576: true; the input reads as it did. -/
def fnRosterUptoRow : OpenClaim := { program := "ytgimheekaceifaa", sum := "8e7e0d81ac03219b5061cd9f225cadc47c98af68354f505129e76e5885270ed6", func := "loop.example/mailcoaches/laws.FnRoster", spec := "fnRoster", apart := false, narrowed := true }
def FnRosterUptoSaid : Prop := fnRosterUptoRow.holds Try.pinned (OpenSpec.upto fnRosterSpec)

/-- 'laws.FnExactRosterTeams', WHERE WHAT IT READS IS OF BULK AT MOST 1048576: true; the input reads as it did. -/
def fnExactRosterTeamsUptoRow : OpenClaim := { program := "ytgimheekaceifaa", sum := "8e7e0d81ac03219b5061cd9f225cadc47c98af68354f505129e76e5885270ed6", func := "loop.example/mailcoaches/laws.FnExactRosterTeams", spec := "fnExactRosterTeams", apart := false, narrowed := true }
def FnExactRosterTeamsUptoSaid : Prop := fnExactRosterTeamsUptoRow.holds Try.pinned (OpenSpec.upto fnExactRosterTeamsSpec)

/-- 'laws.FnExactRosterMinutes', WHERE WHAT IT READS IS OF BULK AT MOST 1048576: true; the input reads as it did. -/
def fnExactRosterMinutesUptoRow : OpenClaim := { program := "ytgimheekaceifaa", sum := "8e7e0d81ac03219b5061cd9f225cadc47c98af68354f505129e76e5885270ed6", func := "loop.example/mailcoaches/laws.FnExactRosterMinutes", spec := "fnExactRosterMinutes", apart := false, narrowed := true }
def FnExactRosterMinutesUptoSaid : Prop := fnExactRosterMinutesUptoRow.holds Try.pinned (OpenSpec.upto fnExactRosterMinutesSpec)

/-- 'laws.FnExactTeamsLeast', WHERE WHAT IT READS IS OF BULK AT MOST 1048576: true; the input reads as it did. -/
def fnExactTeamsLeastUptoRow : OpenClaim := { program := "ytgimheekaceifaa", sum := "8e7e0d81ac03219b5061cd9f225cadc47c98af68354f505129e76e5885270ed6", func := "loop.example/mailcoaches/laws.FnExactTeamsLeast", spec := "fnExactTeamsLeast", unfollowed := true, recurses := true, apart := false, narrowed := true }
def FnExactTeamsLeastUptoSaid : Prop := fnExactTeamsLeastUptoRow.holds Try.pinned (OpenSpec.upto fnExactTeamsLeastSpec)

/-- 'laws.FnRunsLater', WHERE WHAT IT READS IS OF BULK AT MOST 1048576: true; the input reads as it did. -/
def fnRunsLaterUptoRow : OpenClaim := { program := "ytgimheekaceifaa", sum := "8e7e0d81ac03219b5061cd9f225cadc47c98af68354f505129e76e5885270ed6", func := "loop.example/mailcoaches/laws.FnRunsLater", spec := "fnRunsLater", unfollowed := true, recurses := true, apart := false, narrowed := true }
def FnRunsLaterUptoSaid : Prop := fnRunsLaterUptoRow.holds Try.pinned (OpenSpec.upto fnRunsLaterSpec)

/-- 'laws.FnExactRosterMake', WHERE WHAT IT READS IS OF BULK AT MOST 1048576: true; the input reads as it did. -/
def fnExactRosterMakeUptoRow : OpenClaim := { program := "ytgimheekaceifaa", sum := "8e7e0d81ac03219b5061cd9f225cadc47c98af68354f505129e76e5885270ed6", func := "loop.example/mailcoaches/laws.FnExactRosterMake", spec := "fnExactRosterMake", unfollowed := true, recurses := true, apart := false, narrowed := true }
def FnExactRosterMakeUptoSaid : Prop := fnExactRosterMakeUptoRow.holds Try.pinned (OpenSpec.upto fnExactRosterMakeSpec)

/-- 'laws.FnExactRestMost', WHERE WHAT IT READS IS OF BULK AT MOST 1048576: true; the input reads as it did. -/
def fnExactRestMostUptoRow : OpenClaim := { program := "ytgimheekaceifaa", sum := "8e7e0d81ac03219b5061cd9f225cadc47c98af68354f505129e76e5885270ed6", func := "loop.example/mailcoaches/laws.FnExactRestMost", spec := "fnExactRestMost", unfollowed := true, recurses := true, apart := false, narrowed := true }
def FnExactRestMostUptoSaid : Prop := fnExactRestMostUptoRow.holds Try.pinned (OpenSpec.upto fnExactRestMostSpec)

/-- 'laws.FnTeamsBusy', WHERE WHAT IT READS IS OF BULK AT MOST 1048576: true; the input reads as it did. -/
def fnTeamsBusyUptoRow : OpenClaim := { program := "ytgimheekaceifaa", sum := "8e7e0d81ac03219b5061cd9f225cadc47c98af68354f505129e76e5885270ed6", func := "loop.example/mailcoaches/laws.FnTeamsBusy", spec := "fnTeamsBusy", unfollowed := true, recurses := true, apart := false, narrowed := true }
def FnTeamsBusyUptoSaid : Prop := fnTeamsBusyUptoRow.holds Try.pinned (OpenSpec.upto fnTeamsBusySpec)

/-- 'laws.FnExactRosterSwap', WHERE WHAT IT READS IS OF BULK AT MOST 1048576: true; the input reads as it did. -/
def fnExactRosterSwapUptoRow : OpenClaim := { program := "ytgimheekaceifaa", sum := "8e7e0d81ac03219b5061cd9f225cadc47c98af68354f505129e76e5885270ed6", func := "loop.example/mailcoaches/laws.FnExactRosterSwap", spec := "fnExactRosterSwap", apart := false, narrowed := true }
def FnExactRosterSwapUptoSaid : Prop := fnExactRosterSwapUptoRow.holds Try.pinned (OpenSpec.upto fnExactRosterSwapSpec)

/-- 'laws.FnRestMost', WHERE WHAT IT READS IS OF BULK AT MOST 1048576: true; the input reads as it did. -/
def fnRestMostUptoRow : OpenClaim := { program := "ytgimheekaceifaa", sum := "8e7e0d81ac03219b5061cd9f225cadc47c98af68354f505129e76e5885270ed6", func := "loop.example/mailcoaches/laws.FnRestMost", spec := "fnRestMost", unfollowed := true, recurses := true, apart := false, narrowed := true }
def FnRestMostUptoSaid : Prop := fnRestMostUptoRow.holds Try.pinned (OpenSpec.upto fnRestMostSpec)

/-- 'laws.FnRosterMake', WHERE WHAT IT READS IS OF BULK AT MOST 1048576: true; the input reads as it did. -/
def fnRosterMakeUptoRow : OpenClaim := { program := "ytgimheekaceifaa", sum := "8e7e0d81ac03219b5061cd9f225cadc47c98af68354f505129e76e5885270ed6", func := "loop.example/mailcoaches/laws.FnRosterMake", spec := "fnRosterMake", unfollowed := true, recurses := true, apart := false, narrowed := true }
def FnRosterMakeUptoSaid : Prop := fnRosterMakeUptoRow.holds Try.pinned (OpenSpec.upto fnRosterMakeSpec)

/-- 'laws.FnRosterMinutes', WHERE WHAT IT READS IS OF BULK AT MOST 1048576: true; the input reads as it did. -/
def fnRosterMinutesUptoRow : OpenClaim := { program := "ytgimheekaceifaa", sum := "8e7e0d81ac03219b5061cd9f225cadc47c98af68354f505129e76e5885270ed6", func := "loop.example/mailcoaches/laws.FnRosterMinutes", spec := "fnRosterMinutes", apart := false, narrowed := true }
def FnRosterMinutesUptoSaid : Prop := fnRosterMinutesUptoRow.holds Try.pinned (OpenSpec.upto fnRosterMinutesSpec)

/-- 'laws.FnTeamsLeast', WHERE WHAT IT READS IS OF BULK AT MOST 1048576: true; the input reads as it did. -/
def fnTeamsLeastUptoRow : OpenClaim := { program := "ytgimheekaceifaa", sum := "8e7e0d81ac03219b5061cd9f225cadc47c98af68354f505129e76e5885270ed6", func := "loop.example/mailcoaches/laws.FnTeamsLeast", spec := "fnTeamsLeast", unfollowed := true, recurses := true, apart := false, narrowed := true }
def FnTeamsLeastUptoSaid : Prop := fnTeamsLeastUptoRow.holds Try.pinned (OpenSpec.upto fnTeamsLeastSpec)

/-- 'laws.FnTeamsPeak', WHERE WHAT IT READS IS OF BULK AT MOST 1048576: true; the input reads as it did. -/
def fnTeamsPeakUptoRow : OpenClaim := { program := "ytgimheekaceifaa", sum := "8e7e0d81ac03219b5061cd9f225cadc47c98af68354f505129e76e5885270ed6", func := "loop.example/mailcoaches/laws.FnTeamsPeak", spec := "fnTeamsPeak", unfollowed := true, recurses := true, apart := false, narrowed := true }
def FnTeamsPeakUptoSaid : Prop := fnTeamsPeakUptoRow.holds Try.pinned (OpenSpec.upto fnTeamsPeakSpec)

end Rows
end Go.Proofs.Ytgimheekaceifaa
