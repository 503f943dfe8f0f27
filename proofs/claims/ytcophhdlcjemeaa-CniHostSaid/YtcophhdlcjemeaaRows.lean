/-
  No cell of these rows narrows 'for every input' (looked for: loops, veiled, ifaces, maps, wideKeys, modest, calm, conditions, laid).
  DERIVED. THE GIVEN ROWS OF THIS SEAT. 9 by the template 'for every input the law returns true; each argument reads behind the call as it read before'; 0 by the template 'total and deterministic' (their statements: YtcophhdlcjemeaaTotals.lean).
  GIVEN WITH THE SEED: the statements are not yours to turn. If you find one false, say at which input.
  Laid BY PROGRAM, IN A SANDBOX (cutbox-rows.mjs): the forced cells as the released guide's own fill.sh prints them over the translation bb2377ae951e10ef… (all of the seat's roots in one cut). By AI agents, Wed Nov 11 2026. No macro, syntax, notation, axiom, sorry.
-/
import Derived.Test.YtcophhdlcjemeaaChecked
import GoSem.Claim
import GoSem.ClaimJoined
import GoSem.ClaimMapViews
import Derived.JoinedTies
import Derived.KernelRfl
namespace Go.Proofs.Ytcophhdlcjemeaa
/- THE CELL 'sum', in the pinned program and in every row, IS THE sha256 OF THE DUMP (.gsa) THAT YtcophhdlcjemeaaProg.lean LOADS. Nothing in Lean hashes anything: it is a label: what it is worth is what the hold of that sum in a sandbox is worth. -/
noncomputable def Try.pinned : Pinned := { name := "ytcophhdlcjemeaa", sum := "bb2377ae951e10ef30787dc5d1e59fa0509e1b462a561244d483328874da4c8d", checked := Try.checked }
namespace Rows
def none {H : Type} : Left H := { results := [], args := [] }

/-- 'metronomelaw20.GuardianOpens': WHATEVER THE INPUT: true; the input reads as it did. -/
def guardianOpensSpec : ChangeSpec := { name := "guardianOpens", fn := fun _ => fun
  | [d1, d2, d3, d4, d5] => { results := [.lit (.bool true)], args := [d1, d2, d3, d4, d5] }
  | _ => none }
def guardianOpensRow : OpenClaim := { program := "ytcophhdlcjemeaa", sum := "bb2377ae951e10ef30787dc5d1e59fa0509e1b462a561244d483328874da4c8d", func := "metronome/metronomelaw20.GuardianOpens", spec := "guardianOpens", unfollowed := true, recurses := true, apart := false }
def GuardianOpensSaid : Prop := guardianOpensRow.holds Try.pinned (OpenSpec.ofChange guardianOpensSpec)

/-- ITS FALSE NEIGHBOUR: 'it returns false'. Refute it at one input. -/
def guardianOpensWrong : ChangeSpec := { name := "guardianOpens", fn := fun _ => fun
  | [d1, d2, d3, d4, d5] => { results := [.lit (.bool false)], args := [d1, d2, d3, d4, d5] }
  | _ => none }
def GuardianOpensWrongFalsely : Prop := guardianOpensRow.holds Try.pinned (OpenSpec.ofChange guardianOpensWrong)

/-- 'metronomelaw12.CniSilent': WHATEVER THE INPUT: true; the input reads as it did. -/
def cniSilentSpec : ChangeSpec := { name := "cniSilent", fn := fun _ => fun
  | [d1, d2, d3] => { results := [.lit (.bool true)], args := [d1, d2, d3] }
  | _ => none }
def cniSilentRow : OpenClaim := { program := "ytcophhdlcjemeaa", sum := "bb2377ae951e10ef30787dc5d1e59fa0509e1b462a561244d483328874da4c8d", func := "metronome/metronomelaw12.CniSilent", spec := "cniSilent", unfollowed := true, recurses := true, apart := false }
def CniSilentSaid : Prop := cniSilentRow.holds Try.pinned (OpenSpec.ofChange cniSilentSpec)

/-- ITS FALSE NEIGHBOUR: 'it returns false'. Refute it at one input. -/
def cniSilentWrong : ChangeSpec := { name := "cniSilent", fn := fun _ => fun
  | [d1, d2, d3] => { results := [.lit (.bool false)], args := [d1, d2, d3] }
  | _ => none }
def CniSilentWrongFalsely : Prop := cniSilentRow.holds Try.pinned (OpenSpec.ofChange cniSilentWrong)

/-- 'metronomelaw12.CniStays': WHATEVER THE INPUT: true; the input reads as it did. -/
def cniStaysSpec : ChangeSpec := { name := "cniStays", fn := fun _ => fun
  | [d1, d2, d3, d4, d5] => { results := [.lit (.bool true)], args := [d1, d2, d3, d4, d5] }
  | _ => none }
def cniStaysRow : OpenClaim := { program := "ytcophhdlcjemeaa", sum := "bb2377ae951e10ef30787dc5d1e59fa0509e1b462a561244d483328874da4c8d", func := "metronome/metronomelaw12.CniStays", spec := "cniStays", unfollowed := true, recurses := true, apart := false }
def CniStaysSaid : Prop := cniStaysRow.holds Try.pinned (OpenSpec.ofChange cniStaysSpec)

/-- ITS FALSE NEIGHBOUR: 'it returns false'. Refute it at one input. -/
def cniStaysWrong : ChangeSpec := { name := "cniStays", fn := fun _ => fun
  | [d1, d2, d3, d4, d5] => { results := [.lit (.bool false)], args := [d1, d2, d3, d4, d5] }
  | _ => none }
def CniStaysWrongFalsely : Prop := cniStaysRow.holds Try.pinned (OpenSpec.ofChange cniStaysWrong)

/-- 'metronomelaw12.CniController': WHATEVER THE INPUT: true; the input reads as it did. -/
def cniControllerSpec : ChangeSpec := { name := "cniController", fn := fun _ => fun
  | [d1, d2, d3, d4, d5, d6] => { results := [.lit (.bool true)], args := [d1, d2, d3, d4, d5, d6] }
  | _ => none }
def cniControllerRow : OpenClaim := { program := "ytcophhdlcjemeaa", sum := "bb2377ae951e10ef30787dc5d1e59fa0509e1b462a561244d483328874da4c8d", func := "metronome/metronomelaw12.CniController", spec := "cniController", unfollowed := true, recurses := true, apart := false }
def CniControllerSaid : Prop := cniControllerRow.holds Try.pinned (OpenSpec.ofChange cniControllerSpec)

/-- ITS FALSE NEIGHBOUR: 'it returns false'. Refute it at one input. -/
def cniControllerWrong : ChangeSpec := { name := "cniController", fn := fun _ => fun
  | [d1, d2, d3, d4, d5, d6] => { results := [.lit (.bool false)], args := [d1, d2, d3, d4, d5, d6] }
  | _ => none }
def CniControllerWrongFalsely : Prop := cniControllerRow.holds Try.pinned (OpenSpec.ofChange cniControllerWrong)

/-- 'metronomelaw12.CniHost': WHATEVER THE INPUT: true; the input reads as it did. -/
def cniHostSpec : ChangeSpec := { name := "cniHost", fn := fun _ => fun
  | [d1, d2, d3, d4, d5, d6] => { results := [.lit (.bool true)], args := [d1, d2, d3, d4, d5, d6] }
  | _ => none }
def cniHostRow : OpenClaim := { program := "ytcophhdlcjemeaa", sum := "bb2377ae951e10ef30787dc5d1e59fa0509e1b462a561244d483328874da4c8d", func := "metronome/metronomelaw12.CniHost", spec := "cniHost", unfollowed := true, recurses := true, apart := false }
def CniHostSaid : Prop := cniHostRow.holds Try.pinned (OpenSpec.ofChange cniHostSpec)

/-- ITS FALSE NEIGHBOUR: 'it returns false'. Refute it at one input. -/
def cniHostWrong : ChangeSpec := { name := "cniHost", fn := fun _ => fun
  | [d1, d2, d3, d4, d5, d6] => { results := [.lit (.bool false)], args := [d1, d2, d3, d4, d5, d6] }
  | _ => none }
def CniHostWrongFalsely : Prop := cniHostRow.holds Try.pinned (OpenSpec.ofChange cniHostWrong)

/-- 'metronomelaw20.GuardianOwn': WHATEVER THE INPUT: true; the input reads as it did. -/
def guardianOwnSpec : ChangeSpec := { name := "guardianOwn", fn := fun _ => fun
  | [d1, d2, d3, d4, d5, d6] => { results := [.lit (.bool true)], args := [d1, d2, d3, d4, d5, d6] }
  | _ => none }
def guardianOwnRow : OpenClaim := { program := "ytcophhdlcjemeaa", sum := "bb2377ae951e10ef30787dc5d1e59fa0509e1b462a561244d483328874da4c8d", func := "metronome/metronomelaw20.GuardianOwn", spec := "guardianOwn", unfollowed := true, recurses := true, apart := false }
def GuardianOwnSaid : Prop := guardianOwnRow.holds Try.pinned (OpenSpec.ofChange guardianOwnSpec)

/-- ITS FALSE NEIGHBOUR: 'it returns false'. Refute it at one input. -/
def guardianOwnWrong : ChangeSpec := { name := "guardianOwn", fn := fun _ => fun
  | [d1, d2, d3, d4, d5, d6] => { results := [.lit (.bool false)], args := [d1, d2, d3, d4, d5, d6] }
  | _ => none }
def GuardianOwnWrongFalsely : Prop := guardianOwnRow.holds Try.pinned (OpenSpec.ofChange guardianOwnWrong)

/-- 'metronomelaw20.GuardianPasses': WHATEVER THE INPUT: true; the input reads as it did. -/
def guardianPassesSpec : ChangeSpec := { name := "guardianPasses", fn := fun _ => fun
  | [d1, d2] => { results := [.lit (.bool true)], args := [d1, d2] }
  | _ => none }
def guardianPassesRow : OpenClaim := { program := "ytcophhdlcjemeaa", sum := "bb2377ae951e10ef30787dc5d1e59fa0509e1b462a561244d483328874da4c8d", func := "metronome/metronomelaw20.GuardianPasses", spec := "guardianPasses", unfollowed := true, recurses := true, apart := false }
def GuardianPassesSaid : Prop := guardianPassesRow.holds Try.pinned (OpenSpec.ofChange guardianPassesSpec)

/-- ITS FALSE NEIGHBOUR: 'it returns false'. Refute it at one input. -/
def guardianPassesWrong : ChangeSpec := { name := "guardianPasses", fn := fun _ => fun
  | [d1, d2] => { results := [.lit (.bool false)], args := [d1, d2] }
  | _ => none }
def GuardianPassesWrongFalsely : Prop := guardianPassesRow.holds Try.pinned (OpenSpec.ofChange guardianPassesWrong)

/-- 'metronomelaw20.GuardianShut': WHATEVER THE INPUT: true; the input reads as it did. -/
def guardianShutSpec : ChangeSpec := { name := "guardianShut", fn := fun _ => fun
  | [d1, d2, d3, d4, d5, d6] => { results := [.lit (.bool true)], args := [d1, d2, d3, d4, d5, d6] }
  | _ => none }
def guardianShutRow : OpenClaim := { program := "ytcophhdlcjemeaa", sum := "bb2377ae951e10ef30787dc5d1e59fa0509e1b462a561244d483328874da4c8d", func := "metronome/metronomelaw20.GuardianShut", spec := "guardianShut", unfollowed := true, recurses := true, apart := false }
def GuardianShutSaid : Prop := guardianShutRow.holds Try.pinned (OpenSpec.ofChange guardianShutSpec)

/-- ITS FALSE NEIGHBOUR: 'it returns false'. Refute it at one input. -/
def guardianShutWrong : ChangeSpec := { name := "guardianShut", fn := fun _ => fun
  | [d1, d2, d3, d4, d5, d6] => { results := [.lit (.bool false)], args := [d1, d2, d3, d4, d5, d6] }
  | _ => none }
def GuardianShutWrongFalsely : Prop := guardianShutRow.holds Try.pinned (OpenSpec.ofChange guardianShutWrong)

/-- 'metronomelaw20.GuardianTwice': WHATEVER THE INPUT: true; the input reads as it did. -/
def guardianTwiceSpec : ChangeSpec := { name := "guardianTwice", fn := fun _ => fun
  | [d1, d2] => { results := [.lit (.bool true)], args := [d1, d2] }
  | _ => none }
def guardianTwiceRow : OpenClaim := { program := "ytcophhdlcjemeaa", sum := "bb2377ae951e10ef30787dc5d1e59fa0509e1b462a561244d483328874da4c8d", func := "metronome/metronomelaw20.GuardianTwice", spec := "guardianTwice", unfollowed := true, recurses := true, apart := false }
def GuardianTwiceSaid : Prop := guardianTwiceRow.holds Try.pinned (OpenSpec.ofChange guardianTwiceSpec)

/-- ITS FALSE NEIGHBOUR: 'it returns false'. Refute it at one input. -/
def guardianTwiceWrong : ChangeSpec := { name := "guardianTwice", fn := fun _ => fun
  | [d1, d2] => { results := [.lit (.bool false)], args := [d1, d2] }
  | _ => none }
def GuardianTwiceWrongFalsely : Prop := guardianTwiceRow.holds Try.pinned (OpenSpec.ofChange guardianTwiceWrong)

/- THE SECOND FORM. 'bulk': how many values and letters a reading holds, each counted each time it is reached (what is shared counts as often as it is met; a slice's spare places count too). A statement '..UptoSaid' is the law's where the arguments, and the package variables that the reading takes, are together of bulk at most 1048576: NARROWER than '..Said'. Prove '..Said' where nothing that the law and all that it calls make is longer than what came in: it says more and counts as full. Else prove '..UptoSaid'. A law counts once. -/
mutual
def uptoBulk {H : Type} : DataW H → Nat
  | .lit (.string bytes) => bytes.length + 1
  | .lit _ => 1
  | .nil => 1
  | .ptr d => uptoBulk d + 1
  | .slice elems spare => uptoBulkAll elems + uptoBulkAll spare + 1
  | .agg parts => uptoBulkAll parts + 1
  | .iface _ d => uptoBulk d + 1
  | .map entries => uptoBulkEntries entries + 1
  | .held _ => 1
def uptoBulkAll {H : Type} : List (DataW H) → Nat
  | [] => 0
  | d :: r => uptoBulk d + uptoBulkAll r
def uptoBulkEntries {H : Type} : List (Lit × DataW H) → Nat
  | [] => 0
  | x :: r => uptoBulkEntry x + uptoBulkEntries r
def uptoBulkEntry {H : Type} : Lit × DataW H → Nat
  | (.string bytes, d) => bytes.length + uptoBulk d + 1
  | (_, d) => uptoBulk d + 1
 end
def uptoSmall : (H : Type) → List (DataW H) → Bool := fun _ ds => decide (uptoBulkAll ds ≤ 1048576)
def OpenSpec.upto (s : _root_.Go.ChangeSpec) : _root_.Go.OpenSpec := { _root_.Go.OpenSpec.ofChange s with cond := some uptoSmall }

/-- 'metronomelaw20.GuardianOpens', WHERE WHAT IT READS IS OF BULK AT MOST 1048576: true; the input reads as it did. -/
def guardianOpensUptoRow : OpenClaim := { program := "ytcophhdlcjemeaa", sum := "bb2377ae951e10ef30787dc5d1e59fa0509e1b462a561244d483328874da4c8d", func := "metronome/metronomelaw20.GuardianOpens", spec := "guardianOpens", unfollowed := true, recurses := true, apart := false, narrowed := true }
def GuardianOpensUptoSaid : Prop := guardianOpensUptoRow.holds Try.pinned (OpenSpec.upto guardianOpensSpec)

/-- 'metronomelaw12.CniSilent', WHERE WHAT IT READS IS OF BULK AT MOST 1048576: true; the input reads as it did. -/
def cniSilentUptoRow : OpenClaim := { program := "ytcophhdlcjemeaa", sum := "bb2377ae951e10ef30787dc5d1e59fa0509e1b462a561244d483328874da4c8d", func := "metronome/metronomelaw12.CniSilent", spec := "cniSilent", unfollowed := true, recurses := true, apart := false, narrowed := true }
def CniSilentUptoSaid : Prop := cniSilentUptoRow.holds Try.pinned (OpenSpec.upto cniSilentSpec)

/-- 'metronomelaw12.CniStays', WHERE WHAT IT READS IS OF BULK AT MOST 1048576: true; the input reads as it did. -/
def cniStaysUptoRow : OpenClaim := { program := "ytcophhdlcjemeaa", sum := "bb2377ae951e10ef30787dc5d1e59fa0509e1b462a561244d483328874da4c8d", func := "metronome/metronomelaw12.CniStays", spec := "cniStays", unfollowed := true, recurses := true, apart := false, narrowed := true }
def CniStaysUptoSaid : Prop := cniStaysUptoRow.holds Try.pinned (OpenSpec.upto cniStaysSpec)

/-- 'metronomelaw12.CniController', WHERE WHAT IT READS IS OF BULK AT MOST 1048576: true; the input reads as it did. -/
def cniControllerUptoRow : OpenClaim := { program := "ytcophhdlcjemeaa", sum := "bb2377ae951e10ef30787dc5d1e59fa0509e1b462a561244d483328874da4c8d", func := "metronome/metronomelaw12.CniController", spec := "cniController", unfollowed := true, recurses := true, apart := false, narrowed := true }
def CniControllerUptoSaid : Prop := cniControllerUptoRow.holds Try.pinned (OpenSpec.upto cniControllerSpec)

/-- 'metronomelaw12.CniHost', WHERE WHAT IT READS IS OF BULK AT MOST 1048576: true; the input reads as it did. -/
def cniHostUptoRow : OpenClaim := { program := "ytcophhdlcjemeaa", sum := "bb2377ae951e10ef30787dc5d1e59fa0509e1b462a561244d483328874da4c8d", func := "metronome/metronomelaw12.CniHost", spec := "cniHost", unfollowed := true, recurses := true, apart := false, narrowed := true }
def CniHostUptoSaid : Prop := cniHostUptoRow.holds Try.pinned (OpenSpec.upto cniHostSpec)

/-- 'metronomelaw20.GuardianOwn', WHERE WHAT IT READS IS OF BULK AT MOST 1048576: true; the input reads as it did. -/
def guardianOwnUptoRow : OpenClaim := { program := "ytcophhdlcjemeaa", sum := "bb2377ae951e10ef30787dc5d1e59fa0509e1b462a561244d483328874da4c8d", func := "metronome/metronomelaw20.GuardianOwn", spec := "guardianOwn", unfollowed := true, recurses := true, apart := false, narrowed := true }
def GuardianOwnUptoSaid : Prop := guardianOwnUptoRow.holds Try.pinned (OpenSpec.upto guardianOwnSpec)

/-- 'metronomelaw20.GuardianPasses', WHERE WHAT IT READS IS OF BULK AT MOST 1048576: true; the input reads as it did. -/
def guardianPassesUptoRow : OpenClaim := { program := "ytcophhdlcjemeaa", sum := "bb2377ae951e10ef30787dc5d1e59fa0509e1b462a561244d483328874da4c8d", func := "metronome/metronomelaw20.GuardianPasses", spec := "guardianPasses", unfollowed := true, recurses := true, apart := false, narrowed := true }
def GuardianPassesUptoSaid : Prop := guardianPassesUptoRow.holds Try.pinned (OpenSpec.upto guardianPassesSpec)

/-- 'metronomelaw20.GuardianShut', WHERE WHAT IT READS IS OF BULK AT MOST 1048576: true; the input reads as it did. -/
def guardianShutUptoRow : OpenClaim := { program := "ytcophhdlcjemeaa", sum := "bb2377ae951e10ef30787dc5d1e59fa0509e1b462a561244d483328874da4c8d", func := "metronome/metronomelaw20.GuardianShut", spec := "guardianShut", unfollowed := true, recurses := true, apart := false, narrowed := true }
def GuardianShutUptoSaid : Prop := guardianShutUptoRow.holds Try.pinned (OpenSpec.upto guardianShutSpec)

/-- 'metronomelaw20.GuardianTwice', WHERE WHAT IT READS IS OF BULK AT MOST 1048576: true; the input reads as it did. -/
def guardianTwiceUptoRow : OpenClaim := { program := "ytcophhdlcjemeaa", sum := "bb2377ae951e10ef30787dc5d1e59fa0509e1b462a561244d483328874da4c8d", func := "metronome/metronomelaw20.GuardianTwice", spec := "guardianTwice", unfollowed := true, recurses := true, apart := false, narrowed := true }
def GuardianTwiceUptoSaid : Prop := guardianTwiceUptoRow.holds Try.pinned (OpenSpec.upto guardianTwiceSpec)

end Rows
end Go.Proofs.Ytcophhdlcjemeaa
