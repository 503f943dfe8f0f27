/-
  No cell of these rows narrows 'for every input' (looked for: loops, veiled, ifaces, maps, wideKeys, modest, calm, conditions, laid).
  DERIVED. THE GIVEN ROWS OF THIS SEAT. 11 by the template 'for every input the law returns true; each argument reads behind the call as it read before'; 0 by the template 'total and deterministic' (their statements: YtdjbalaicfienaaTotals.lean).
  GIVEN WITH THE SEED: the statements are not yours to turn. If you find one false, say at which input.
  Laid BY PROGRAM, IN A SANDBOX (cutbox-rows.mjs): the forced cells as the released guide's own fill.sh prints them over the translation a94cc69542c0fd87… (all of the seat's roots in one cut). By AI agents, Wed Nov 11 2026. No macro, syntax, notation, axiom, sorry.
-/
import Derived.Test.YtdjbalaicfienaaChecked
import GoSem.Claim
import GoSem.ClaimJoined
import GoSem.ClaimMapViews
import Derived.JoinedTies
import Derived.KernelRfl
namespace Go.Proofs.Ytdjbalaicfienaa
/- THE CELL 'sum', in the pinned program and in every row, IS THE sha256 OF THE DUMP (.gsa) THAT YtdjbalaicfienaaProg.lean LOADS. Nothing in Lean hashes anything: it is a label: what it is worth is what the hold of that sum in a sandbox is worth. -/
noncomputable def Try.pinned : Pinned := { name := "ytdjbalaicfienaa", sum := "a94cc69542c0fd879fa2e8c91bd075f16e91b1670a3152a21fef2fb81d622022", checked := Try.checked }
namespace Rows
def none {H : Type} : Left H := { results := [], args := [] }

/-- 'metronomelaw04.CstateBits': WHATEVER THE INPUT: true; the input reads as it did. -/
def cstateBitsSpec : ChangeSpec := { name := "cstateBits", fn := fun _ => fun
  | [d1, d2, d3] => { results := [.lit (.bool true)], args := [d1, d2, d3] }
  | _ => none }
def cstateBitsRow : OpenClaim := { program := "ytdjbalaicfienaa", sum := "a94cc69542c0fd879fa2e8c91bd075f16e91b1670a3152a21fef2fb81d622022", func := "metronome/metronomelaw04.CstateBits", spec := "cstateBits", apart := false }
def CstateBitsSaid : Prop := cstateBitsRow.holds Try.pinned (OpenSpec.ofChange cstateBitsSpec)

/-- ITS FALSE NEIGHBOUR: 'it returns false'. Refute it at one input. -/
def cstateBitsWrong : ChangeSpec := { name := "cstateBits", fn := fun _ => fun
  | [d1, d2, d3] => { results := [.lit (.bool false)], args := [d1, d2, d3] }
  | _ => none }
def CstateBitsWrongFalsely : Prop := cstateBitsRow.holds Try.pinned (OpenSpec.ofChange cstateBitsWrong)

/-- 'metronomelaw04.CstateBack': WHATEVER THE INPUT: true; the input reads as it did. -/
def cstateBackSpec : ChangeSpec := { name := "cstateBack", fn := fun _ => fun
  | [d1, d2, d3] => { results := [.lit (.bool true)], args := [d1, d2, d3] }
  | _ => none }
def cstateBackRow : OpenClaim := { program := "ytdjbalaicfienaa", sum := "a94cc69542c0fd879fa2e8c91bd075f16e91b1670a3152a21fef2fb81d622022", func := "metronome/metronomelaw04.CstateBack", spec := "cstateBack", apart := false }
def CstateBackSaid : Prop := cstateBackRow.holds Try.pinned (OpenSpec.ofChange cstateBackSpec)

/-- ITS FALSE NEIGHBOUR: 'it returns false'. Refute it at one input. -/
def cstateBackWrong : ChangeSpec := { name := "cstateBack", fn := fun _ => fun
  | [d1, d2, d3] => { results := [.lit (.bool false)], args := [d1, d2, d3] }
  | _ => none }
def CstateBackWrongFalsely : Prop := cstateBackRow.holds Try.pinned (OpenSpec.ofChange cstateBackWrong)

/-- 'metronomelaw04.CstateRound': WHATEVER THE INPUT: true; the input reads as it did. -/
def cstateRoundSpec : ChangeSpec := { name := "cstateRound", fn := fun _ => fun
  | [d1, d2, d3] => { results := [.lit (.bool true)], args := [d1, d2, d3] }
  | _ => none }
def cstateRoundRow : OpenClaim := { program := "ytdjbalaicfienaa", sum := "a94cc69542c0fd879fa2e8c91bd075f16e91b1670a3152a21fef2fb81d622022", func := "metronome/metronomelaw04.CstateRound", spec := "cstateRound", apart := false }
def CstateRoundSaid : Prop := cstateRoundRow.holds Try.pinned (OpenSpec.ofChange cstateRoundSpec)

/-- ITS FALSE NEIGHBOUR: 'it returns false'. Refute it at one input. -/
def cstateRoundWrong : ChangeSpec := { name := "cstateRound", fn := fun _ => fun
  | [d1, d2, d3] => { results := [.lit (.bool false)], args := [d1, d2, d3] }
  | _ => none }
def CstateRoundWrongFalsely : Prop := cstateRoundRow.holds Try.pinned (OpenSpec.ofChange cstateRoundWrong)

/-- 'metronomelaw04.CstateSteps': WHATEVER THE INPUT: true; the input reads as it did. -/
def cstateStepsSpec : ChangeSpec := { name := "cstateSteps", fn := fun _ => fun
  | [d1, d2, d3, d4, d5] => { results := [.lit (.bool true)], args := [d1, d2, d3, d4, d5] }
  | _ => none }
def cstateStepsRow : OpenClaim := { program := "ytdjbalaicfienaa", sum := "a94cc69542c0fd879fa2e8c91bd075f16e91b1670a3152a21fef2fb81d622022", func := "metronome/metronomelaw04.CstateSteps", spec := "cstateSteps", unfollowed := true, recurses := true, apart := false }
def CstateStepsSaid : Prop := cstateStepsRow.holds Try.pinned (OpenSpec.ofChange cstateStepsSpec)

/-- ITS FALSE NEIGHBOUR: 'it returns false'. Refute it at one input. -/
def cstateStepsWrong : ChangeSpec := { name := "cstateSteps", fn := fun _ => fun
  | [d1, d2, d3, d4, d5] => { results := [.lit (.bool false)], args := [d1, d2, d3, d4, d5] }
  | _ => none }
def CstateStepsWrongFalsely : Prop := cstateStepsRow.holds Try.pinned (OpenSpec.ofChange cstateStepsWrong)

/-- 'metronomelaw03.PhasorSends': WHATEVER THE INPUT: true; the input reads as it did. -/
def phasorSendsSpec : ChangeSpec := { name := "phasorSends", fn := fun _ => fun
  | [d1, d2, d3] => { results := [.lit (.bool true)], args := [d1, d2, d3] }
  | _ => none }
def phasorSendsRow : OpenClaim := { program := "ytdjbalaicfienaa", sum := "a94cc69542c0fd879fa2e8c91bd075f16e91b1670a3152a21fef2fb81d622022", func := "metronome/metronomelaw03.PhasorSends", spec := "phasorSends", apart := false }
def PhasorSendsSaid : Prop := phasorSendsRow.holds Try.pinned (OpenSpec.ofChange phasorSendsSpec)

/-- ITS FALSE NEIGHBOUR: 'it returns false'. Refute it at one input. -/
def phasorSendsWrong : ChangeSpec := { name := "phasorSends", fn := fun _ => fun
  | [d1, d2, d3] => { results := [.lit (.bool false)], args := [d1, d2, d3] }
  | _ => none }
def PhasorSendsWrongFalsely : Prop := phasorSendsRow.holds Try.pinned (OpenSpec.ofChange phasorSendsWrong)

/-- 'metronomelaw03.PhasorTurns': WHATEVER THE INPUT: true; the input reads as it did. -/
def phasorTurnsSpec : ChangeSpec := { name := "phasorTurns", fn := fun _ => fun
  | [d1, d2, d3, d4] => { results := [.lit (.bool true)], args := [d1, d2, d3, d4] }
  | _ => none }
def phasorTurnsRow : OpenClaim := { program := "ytdjbalaicfienaa", sum := "a94cc69542c0fd879fa2e8c91bd075f16e91b1670a3152a21fef2fb81d622022", func := "metronome/metronomelaw03.PhasorTurns", spec := "phasorTurns", apart := false }
def PhasorTurnsSaid : Prop := phasorTurnsRow.holds Try.pinned (OpenSpec.ofChange phasorTurnsSpec)

/-- ITS FALSE NEIGHBOUR: 'it returns false'. Refute it at one input. -/
def phasorTurnsWrong : ChangeSpec := { name := "phasorTurns", fn := fun _ => fun
  | [d1, d2, d3, d4] => { results := [.lit (.bool false)], args := [d1, d2, d3, d4] }
  | _ => none }
def PhasorTurnsWrongFalsely : Prop := phasorTurnsRow.holds Try.pinned (OpenSpec.ofChange phasorTurnsWrong)

/-- 'metronomelaw03.PhasorChanges': WHATEVER THE INPUT: true; the input reads as it did. -/
def phasorChangesSpec : ChangeSpec := { name := "phasorChanges", fn := fun _ => fun
  | [d1, d2, d3] => { results := [.lit (.bool true)], args := [d1, d2, d3] }
  | _ => none }
def phasorChangesRow : OpenClaim := { program := "ytdjbalaicfienaa", sum := "a94cc69542c0fd879fa2e8c91bd075f16e91b1670a3152a21fef2fb81d622022", func := "metronome/metronomelaw03.PhasorChanges", spec := "phasorChanges", apart := false }
def PhasorChangesSaid : Prop := phasorChangesRow.holds Try.pinned (OpenSpec.ofChange phasorChangesSpec)

/-- ITS FALSE NEIGHBOUR: 'it returns false'. Refute it at one input. -/
def phasorChangesWrong : ChangeSpec := { name := "phasorChanges", fn := fun _ => fun
  | [d1, d2, d3] => { results := [.lit (.bool false)], args := [d1, d2, d3] }
  | _ => none }
def PhasorChangesWrongFalsely : Prop := phasorChangesRow.holds Try.pinned (OpenSpec.ofChange phasorChangesWrong)

/-- 'metronomelaw03.PhasorFinds': WHATEVER THE INPUT: true; the input reads as it did. -/
def phasorFindsSpec : ChangeSpec := { name := "phasorFinds", fn := fun _ => fun
  | [d1, d2] => { results := [.lit (.bool true)], args := [d1, d2] }
  | _ => none }
def phasorFindsRow : OpenClaim := { program := "ytdjbalaicfienaa", sum := "a94cc69542c0fd879fa2e8c91bd075f16e91b1670a3152a21fef2fb81d622022", func := "metronome/metronomelaw03.PhasorFinds", spec := "phasorFinds", apart := false }
def PhasorFindsSaid : Prop := phasorFindsRow.holds Try.pinned (OpenSpec.ofChange phasorFindsSpec)

/-- ITS FALSE NEIGHBOUR: 'it returns false'. Refute it at one input. -/
def phasorFindsWrong : ChangeSpec := { name := "phasorFinds", fn := fun _ => fun
  | [d1, d2] => { results := [.lit (.bool false)], args := [d1, d2] }
  | _ => none }
def PhasorFindsWrongFalsely : Prop := phasorFindsRow.holds Try.pinned (OpenSpec.ofChange phasorFindsWrong)

/-- 'metronomelaw03.PhasorReads': WHATEVER THE INPUT: true; the input reads as it did. -/
def phasorReadsSpec : ChangeSpec := { name := "phasorReads", fn := fun _ => fun
  | [d1, d2, d3] => { results := [.lit (.bool true)], args := [d1, d2, d3] }
  | _ => none }
def phasorReadsRow : OpenClaim := { program := "ytdjbalaicfienaa", sum := "a94cc69542c0fd879fa2e8c91bd075f16e91b1670a3152a21fef2fb81d622022", func := "metronome/metronomelaw03.PhasorReads", spec := "phasorReads", apart := false }
def PhasorReadsSaid : Prop := phasorReadsRow.holds Try.pinned (OpenSpec.ofChange phasorReadsSpec)

/-- ITS FALSE NEIGHBOUR: 'it returns false'. Refute it at one input. -/
def phasorReadsWrong : ChangeSpec := { name := "phasorReads", fn := fun _ => fun
  | [d1, d2, d3] => { results := [.lit (.bool false)], args := [d1, d2, d3] }
  | _ => none }
def PhasorReadsWrongFalsely : Prop := phasorReadsRow.holds Try.pinned (OpenSpec.ofChange phasorReadsWrong)

/-- 'metronomelaw03.PhasorNoise': WHATEVER THE INPUT: true; the input reads as it did. -/
def phasorNoiseSpec : ChangeSpec := { name := "phasorNoise", fn := fun _ => fun
  | [d1, d2, d3] => { results := [.lit (.bool true)], args := [d1, d2, d3] }
  | _ => none }
def phasorNoiseRow : OpenClaim := { program := "ytdjbalaicfienaa", sum := "a94cc69542c0fd879fa2e8c91bd075f16e91b1670a3152a21fef2fb81d622022", func := "metronome/metronomelaw03.PhasorNoise", spec := "phasorNoise", apart := false }
def PhasorNoiseSaid : Prop := phasorNoiseRow.holds Try.pinned (OpenSpec.ofChange phasorNoiseSpec)

/-- ITS FALSE NEIGHBOUR: 'it returns false'. Refute it at one input. -/
def phasorNoiseWrong : ChangeSpec := { name := "phasorNoise", fn := fun _ => fun
  | [d1, d2, d3] => { results := [.lit (.bool false)], args := [d1, d2, d3] }
  | _ => none }
def PhasorNoiseWrongFalsely : Prop := phasorNoiseRow.holds Try.pinned (OpenSpec.ofChange phasorNoiseWrong)

/-- 'metronomelaw03.PhasorBack': WHATEVER THE INPUT: true; the input reads as it did. -/
def phasorBackSpec : ChangeSpec := { name := "phasorBack", fn := fun _ => fun
  | [d1, d2, d3, d4] => { results := [.lit (.bool true)], args := [d1, d2, d3, d4] }
  | _ => none }
def phasorBackRow : OpenClaim := { program := "ytdjbalaicfienaa", sum := "a94cc69542c0fd879fa2e8c91bd075f16e91b1670a3152a21fef2fb81d622022", func := "metronome/metronomelaw03.PhasorBack", spec := "phasorBack", apart := false }
def PhasorBackSaid : Prop := phasorBackRow.holds Try.pinned (OpenSpec.ofChange phasorBackSpec)

/-- ITS FALSE NEIGHBOUR: 'it returns false'. Refute it at one input. -/
def phasorBackWrong : ChangeSpec := { name := "phasorBack", fn := fun _ => fun
  | [d1, d2, d3, d4] => { results := [.lit (.bool false)], args := [d1, d2, d3, d4] }
  | _ => none }
def PhasorBackWrongFalsely : Prop := phasorBackRow.holds Try.pinned (OpenSpec.ofChange phasorBackWrong)

/- THE SECOND FORM. 'bulk': how many values and letters a reading holds, each counted each time it is reached (what is shared counts as often as it is met; a slice's spare places count too). A statement '..UptoSaid' is the law's where the arguments, and the package variables that the reading takes, are together of bulk at most 1048576: NARROWER than '..Said'. Prove '..Said' where nothing that the law and all that it calls make is longer than what came in: it says more and counts as full. Else prove '..UptoSaid'. A law counts once. -/
mutual
def uptoBulk {H : Type} : DataW H → Nat
  | .lit (.string bytes) => bytes.length + 1
  | .lit _ => 1
  | .nil => 1
  | .ptr d => uptoBulk d + 1
  | .slice elems spare => uptoBulkAll elems + uptoBulkAll spare + 1
  | .agg parts => uptoBulkAll parts + 1
  | .iface _ d => uptoBulk d + 1
  | .map entries => uptoBulkEntries entries + 1
  | .held _ => 1
def uptoBulkAll {H : Type} : List (DataW H) → Nat
  | [] => 0
  | d :: r => uptoBulk d + uptoBulkAll r
def uptoBulkEntries {H : Type} : List (Lit × DataW H) → Nat
  | [] => 0
  | x :: r => uptoBulkEntry x + uptoBulkEntries r
def uptoBulkEntry {H : Type} : Lit × DataW H → Nat
  | (.string bytes, d) => bytes.length + uptoBulk d + 1
  | (_, d) => uptoBulk d + 1
 end
def uptoSmall : (H : Type) → List (DataW H) → Bool := fun _ ds => decide (uptoBulkAll ds ≤ 1048576)
def OpenSpec.upto (s : _root_.Go.ChangeSpec) : _root_.Go.OpenSpec := { _root_.Go.OpenSpec.ofChange s with cond := some uptoSmall }

/-- 'metronomelaw04.CstateBits', WHERE WHAT IT READS IS OF BULK AT MOST 1048576: true; the input reads as it did. -/
def cstateBitsUptoRow : OpenClaim := { program := "ytdjbalaicfienaa", sum := "a94cc69542c0fd879fa2e8c91bd075f16e91b1670a3152a21fef2fb81d622022", func := "metronome/metronomelaw04.CstateBits", spec := "cstateBits", apart := false, narrowed := true }
def CstateBitsUptoSaid : Prop := cstateBitsUptoRow.holds Try.pinned (OpenSpec.upto cstateBitsSpec)

/-- 'metronomelaw04.CstateBack', WHERE WHAT IT READS IS OF BULK AT MOST 1048576: true; the input reads as it did. -/
def cstateBackUptoRow : OpenClaim := { program := "ytdjbalaicfienaa", sum := "a94cc69542c0fd879fa2e8c91bd075f16e91b1670a3152a21fef2fb81d622022", func := "metronome/metronomelaw04.CstateBack", spec := "cstateBack", apart := false, narrowed := true }
def CstateBackUptoSaid : Prop := cstateBackUptoRow.holds Try.pinned (OpenSpec.upto cstateBackSpec)

/-- 'metronomelaw04.CstateRound', WHERE WHAT IT READS IS OF BULK AT MOST 1048576: true; the input reads as it did. -/
def cstateRoundUptoRow : OpenClaim := { program := "ytdjbalaicfienaa", sum := "a94cc69542c0fd879fa2e8c91bd075f16e91b1670a3152a21fef2fb81d622022", func := "metronome/metronomelaw04.CstateRound", spec := "cstateRound", apart := false, narrowed := true }
def CstateRoundUptoSaid : Prop := cstateRoundUptoRow.holds Try.pinned (OpenSpec.upto cstateRoundSpec)

/-- 'metronomelaw04.CstateSteps', WHERE WHAT IT READS IS OF BULK AT MOST 1048576: true; the input reads as it did. -/
def cstateStepsUptoRow : OpenClaim := { program := "ytdjbalaicfienaa", sum := "a94cc69542c0fd879fa2e8c91bd075f16e91b1670a3152a21fef2fb81d622022", func := "metronome/metronomelaw04.CstateSteps", spec := "cstateSteps", unfollowed := true, recurses := true, apart := false, narrowed := true }
def CstateStepsUptoSaid : Prop := cstateStepsUptoRow.holds Try.pinned (OpenSpec.upto cstateStepsSpec)

/-- 'metronomelaw03.PhasorSends', WHERE WHAT IT READS IS OF BULK AT MOST 1048576: true; the input reads as it did. -/
def phasorSendsUptoRow : OpenClaim := { program := "ytdjbalaicfienaa", sum := "a94cc69542c0fd879fa2e8c91bd075f16e91b1670a3152a21fef2fb81d622022", func := "metronome/metronomelaw03.PhasorSends", spec := "phasorSends", apart := false, narrowed := true }
def PhasorSendsUptoSaid : Prop := phasorSendsUptoRow.holds Try.pinned (OpenSpec.upto phasorSendsSpec)

/-- 'metronomelaw03.PhasorTurns', WHERE WHAT IT READS IS OF BULK AT MOST 1048576: true; the input reads as it did. -/
def phasorTurnsUptoRow : OpenClaim := { program := "ytdjbalaicfienaa", sum := "a94cc69542c0fd879fa2e8c91bd075f16e91b1670a3152a21fef2fb81d622022", func := "metronome/metronomelaw03.PhasorTurns", spec := "phasorTurns", apart := false, narrowed := true }
def PhasorTurnsUptoSaid : Prop := phasorTurnsUptoRow.holds Try.pinned (OpenSpec.upto phasorTurnsSpec)

/-- 'metronomelaw03.PhasorChanges', WHERE WHAT IT READS IS OF BULK AT MOST 1048576: true; the input reads as it did. -/
def phasorChangesUptoRow : OpenClaim := { program := "ytdjbalaicfienaa", sum := "a94cc69542c0fd879fa2e8c91bd075f16e91b1670a3152a21fef2fb81d622022", func := "metronome/metronomelaw03.PhasorChanges", spec := "phasorChanges", apart := false, narrowed := true }
def PhasorChangesUptoSaid : Prop := phasorChangesUptoRow.holds Try.pinned (OpenSpec.upto phasorChangesSpec)

/-- 'metronomelaw03.PhasorFinds', WHERE WHAT IT READS IS OF BULK AT MOST 1048576: true; the input reads as it did. -/
def phasorFindsUptoRow : OpenClaim := { program := "ytdjbalaicfienaa", sum := "a94cc69542c0fd879fa2e8c91bd075f16e91b1670a3152a21fef2fb81d622022", func := "metronome/metronomelaw03.PhasorFinds", spec := "phasorFinds", apart := false, narrowed := true }
def PhasorFindsUptoSaid : Prop := phasorFindsUptoRow.holds Try.pinned (OpenSpec.upto phasorFindsSpec)

/-- 'metronomelaw03.PhasorReads', WHERE WHAT IT READS IS OF BULK AT MOST 1048576: true; the input reads as it did. -/
def phasorReadsUptoRow : OpenClaim := { program := "ytdjbalaicfienaa", sum := "a94cc69542c0fd879fa2e8c91bd075f16e91b1670a3152a21fef2fb81d622022", func := "metronome/metronomelaw03.PhasorReads", spec := "phasorReads", apart := false, narrowed := true }
def PhasorReadsUptoSaid : Prop := phasorReadsUptoRow.holds Try.pinned (OpenSpec.upto phasorReadsSpec)

/-- 'metronomelaw03.PhasorNoise', WHERE WHAT IT READS IS OF BULK AT MOST 1048576: true; the input reads as it did. -/
def phasorNoiseUptoRow : OpenClaim := { program := "ytdjbalaicfienaa", sum := "a94cc69542c0fd879fa2e8c91bd075f16e91b1670a3152a21fef2fb81d622022", func := "metronome/metronomelaw03.PhasorNoise", spec := "phasorNoise", apart := false, narrowed := true }
def PhasorNoiseUptoSaid : Prop := phasorNoiseUptoRow.holds Try.pinned (OpenSpec.upto phasorNoiseSpec)

/-- 'metronomelaw03.PhasorBack', WHERE WHAT IT READS IS OF BULK AT MOST 1048576: true; the input reads as it did. -/
def phasorBackUptoRow : OpenClaim := { program := "ytdjbalaicfienaa", sum := "a94cc69542c0fd879fa2e8c91bd075f16e91b1670a3152a21fef2fb81d622022", func := "metronome/metronomelaw03.PhasorBack", spec := "phasorBack", apart := false, narrowed := true }
def PhasorBackUptoSaid : Prop := phasorBackUptoRow.holds Try.pinned (OpenSpec.upto phasorBackSpec)

end Rows
end Go.Proofs.Ytdjbalaicfienaa
