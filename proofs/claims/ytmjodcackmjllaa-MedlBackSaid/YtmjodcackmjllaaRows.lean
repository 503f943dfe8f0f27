/-
  No cell of these rows narrows 'for every input' (looked for: loops, veiled, ifaces, maps, wideKeys, modest, calm, conditions, laid).
  DERIVED. THE GIVEN ROWS OF THIS SEAT. 11 by the template 'for every input the law returns true; each argument reads behind the call as it read before'; 0 by the template 'total and deterministic' (their statements: YtmjodcackmjllaaTotals.lean).
  GIVEN WITH THE SEED: the statements are not yours to turn. If you find one false, say at which input.
  Laid BY PROGRAM, IN A SANDBOX (cutbox-rows.mjs): the forced cells as the released guide's own fill.sh prints them over the translation 0f635a23efa9fa1c… (all of the seat's roots in one cut). By AI agents, Wed Nov 11 2026. No macro, syntax, notation, axiom, sorry.
-/
import Derived.Test.YtmjodcackmjllaaChecked
import GoSem.Claim
import GoSem.ClaimJoined
import GoSem.ClaimMapViews
import Derived.JoinedTies
import Derived.KernelRfl
namespace Go.Proofs.Ytmjodcackmjllaa
/- THE CELL 'sum', in the pinned program and in every row, IS THE sha256 OF THE DUMP (.gsa) THAT YtmjodcackmjllaaProg.lean LOADS. Nothing in Lean hashes anything: it is a label: what it is worth is what the hold of that sum in a sandbox is worth. -/
noncomputable def Try.pinned : Pinned := { name := "ytmjodcackmjllaa", sum := "0f635a23efa9fa1cced25ab6452c329255ef1a2a8701570d937a72585dc02855", checked := Try.checked }
namespace Rows
def none {H : Type} : Left H := { results := [], args := [] }

/-- 'metronomelaw10.ModesOnce': WHATEVER THE INPUT: true; the input reads as it did. -/
def modesOnceSpec : ChangeSpec := { name := "modesOnce", fn := fun _ => fun
  | [d1, d2, d3] => { results := [.lit (.bool true)], args := [d1, d2, d3] }
  | _ => none }
def modesOnceRow : OpenClaim := { program := "ytmjodcackmjllaa", sum := "0f635a23efa9fa1cced25ab6452c329255ef1a2a8701570d937a72585dc02855", func := "metronome/metronomelaw10.ModesOnce", spec := "modesOnce", unfollowed := true, recurses := true, apart := false }
def ModesOnceSaid : Prop := modesOnceRow.holds Try.pinned (OpenSpec.ofChange modesOnceSpec)

/-- ITS FALSE NEIGHBOUR: 'it returns false'. Refute it at one input. -/
def modesOnceWrong : ChangeSpec := { name := "modesOnce", fn := fun _ => fun
  | [d1, d2, d3] => { results := [.lit (.bool false)], args := [d1, d2, d3] }
  | _ => none }
def ModesOnceWrongFalsely : Prop := modesOnceRow.holds Try.pinned (OpenSpec.ofChange modesOnceWrong)

/-- 'metronomelaw10.ModesNone': WHATEVER THE INPUT: true; the input reads as it did. -/
def modesNoneSpec : ChangeSpec := { name := "modesNone", fn := fun _ => fun
  | [d1, d2, d3] => { results := [.lit (.bool true)], args := [d1, d2, d3] }
  | _ => none }
def modesNoneRow : OpenClaim := { program := "ytmjodcackmjllaa", sum := "0f635a23efa9fa1cced25ab6452c329255ef1a2a8701570d937a72585dc02855", func := "metronome/metronomelaw10.ModesNone", spec := "modesNone", unfollowed := true, recurses := true, apart := false }
def ModesNoneSaid : Prop := modesNoneRow.holds Try.pinned (OpenSpec.ofChange modesNoneSpec)

/-- ITS FALSE NEIGHBOUR: 'it returns false'. Refute it at one input. -/
def modesNoneWrong : ChangeSpec := { name := "modesNone", fn := fun _ => fun
  | [d1, d2, d3] => { results := [.lit (.bool false)], args := [d1, d2, d3] }
  | _ => none }
def ModesNoneWrongFalsely : Prop := modesNoneRow.holds Try.pinned (OpenSpec.ofChange modesNoneWrong)

/-- 'metronomelaw07.MedlMore': WHATEVER THE INPUT: true; the input reads as it did. -/
def medlMoreSpec : ChangeSpec := { name := "medlMore", fn := fun _ => fun
  | [d1, d2, d3] => { results := [.lit (.bool true)], args := [d1, d2, d3] }
  | _ => none }
def medlMoreRow : OpenClaim := { program := "ytmjodcackmjllaa", sum := "0f635a23efa9fa1cced25ab6452c329255ef1a2a8701570d937a72585dc02855", func := "metronome/metronomelaw07.MedlMore", spec := "medlMore", unfollowed := true, recurses := true, apart := false }
def MedlMoreSaid : Prop := medlMoreRow.holds Try.pinned (OpenSpec.ofChange medlMoreSpec)

/-- ITS FALSE NEIGHBOUR: 'it returns false'. Refute it at one input. -/
def medlMoreWrong : ChangeSpec := { name := "medlMore", fn := fun _ => fun
  | [d1, d2, d3] => { results := [.lit (.bool false)], args := [d1, d2, d3] }
  | _ => none }
def MedlMoreWrongFalsely : Prop := medlMoreRow.holds Try.pinned (OpenSpec.ofChange medlMoreWrong)

/-- 'metronomelaw10.ModesReach': WHATEVER THE INPUT: true; the input reads as it did. -/
def modesReachSpec : ChangeSpec := { name := "modesReach", fn := fun _ => fun
  | [d1, d2, d3, d4, d5] => { results := [.lit (.bool true)], args := [d1, d2, d3, d4, d5] }
  | _ => none }
def modesReachRow : OpenClaim := { program := "ytmjodcackmjllaa", sum := "0f635a23efa9fa1cced25ab6452c329255ef1a2a8701570d937a72585dc02855", func := "metronome/metronomelaw10.ModesReach", spec := "modesReach", unfollowed := true, recurses := true, apart := false }
def ModesReachSaid : Prop := modesReachRow.holds Try.pinned (OpenSpec.ofChange modesReachSpec)

/-- ITS FALSE NEIGHBOUR: 'it returns false'. Refute it at one input. -/
def modesReachWrong : ChangeSpec := { name := "modesReach", fn := fun _ => fun
  | [d1, d2, d3, d4, d5] => { results := [.lit (.bool false)], args := [d1, d2, d3, d4, d5] }
  | _ => none }
def ModesReachWrongFalsely : Prop := modesReachRow.holds Try.pinned (OpenSpec.ofChange modesReachWrong)

/-- 'metronomelaw07.MedlApart': WHATEVER THE INPUT: true; the input reads as it did. -/
def medlApartSpec : ChangeSpec := { name := "medlApart", fn := fun _ => fun
  | [d1, d2, d3] => { results := [.lit (.bool true)], args := [d1, d2, d3] }
  | _ => none }
def medlApartRow : OpenClaim := { program := "ytmjodcackmjllaa", sum := "0f635a23efa9fa1cced25ab6452c329255ef1a2a8701570d937a72585dc02855", func := "metronome/metronomelaw07.MedlApart", spec := "medlApart", unfollowed := true, recurses := true, apart := false }
def MedlApartSaid : Prop := medlApartRow.holds Try.pinned (OpenSpec.ofChange medlApartSpec)

/-- ITS FALSE NEIGHBOUR: 'it returns false'. Refute it at one input. -/
def medlApartWrong : ChangeSpec := { name := "medlApart", fn := fun _ => fun
  | [d1, d2, d3] => { results := [.lit (.bool false)], args := [d1, d2, d3] }
  | _ => none }
def MedlApartWrongFalsely : Prop := medlApartRow.holds Try.pinned (OpenSpec.ofChange medlApartWrong)

/-- 'metronomelaw07.MedlChecks': WHATEVER THE INPUT: true; the input reads as it did. -/
def medlChecksSpec : ChangeSpec := { name := "medlChecks", fn := fun _ => fun
  | [d1, d2, d3, d4] => { results := [.lit (.bool true)], args := [d1, d2, d3, d4] }
  | _ => none }
def medlChecksRow : OpenClaim := { program := "ytmjodcackmjllaa", sum := "0f635a23efa9fa1cced25ab6452c329255ef1a2a8701570d937a72585dc02855", func := "metronome/metronomelaw07.MedlChecks", spec := "medlChecks", unfollowed := true, recurses := true, apart := false }
def MedlChecksSaid : Prop := medlChecksRow.holds Try.pinned (OpenSpec.ofChange medlChecksSpec)

/-- ITS FALSE NEIGHBOUR: 'it returns false'. Refute it at one input. -/
def medlChecksWrong : ChangeSpec := { name := "medlChecks", fn := fun _ => fun
  | [d1, d2, d3, d4] => { results := [.lit (.bool false)], args := [d1, d2, d3, d4] }
  | _ => none }
def MedlChecksWrongFalsely : Prop := medlChecksRow.holds Try.pinned (OpenSpec.ofChange medlChecksWrong)

/-- 'metronomelaw07.MedlRoom': WHATEVER THE INPUT: true; the input reads as it did. -/
def medlRoomSpec : ChangeSpec := { name := "medlRoom", fn := fun _ => fun
  | [d1, d2, d3, d4] => { results := [.lit (.bool true)], args := [d1, d2, d3, d4] }
  | _ => none }
def medlRoomRow : OpenClaim := { program := "ytmjodcackmjllaa", sum := "0f635a23efa9fa1cced25ab6452c329255ef1a2a8701570d937a72585dc02855", func := "metronome/metronomelaw07.MedlRoom", spec := "medlRoom", unfollowed := true, recurses := true, apart := false }
def MedlRoomSaid : Prop := medlRoomRow.holds Try.pinned (OpenSpec.ofChange medlRoomSpec)

/-- ITS FALSE NEIGHBOUR: 'it returns false'. Refute it at one input. -/
def medlRoomWrong : ChangeSpec := { name := "medlRoom", fn := fun _ => fun
  | [d1, d2, d3, d4] => { results := [.lit (.bool false)], args := [d1, d2, d3, d4] }
  | _ => none }
def MedlRoomWrongFalsely : Prop := medlRoomRow.holds Try.pinned (OpenSpec.ofChange medlRoomWrong)

/-- 'metronomelaw10.ModesTells': WHATEVER THE INPUT: true; the input reads as it did. -/
def modesTellsSpec : ChangeSpec := { name := "modesTells", fn := fun _ => fun
  | [d1, d2, d3, d4, d5, d6] => { results := [.lit (.bool true)], args := [d1, d2, d3, d4, d5, d6] }
  | _ => none }
def modesTellsRow : OpenClaim := { program := "ytmjodcackmjllaa", sum := "0f635a23efa9fa1cced25ab6452c329255ef1a2a8701570d937a72585dc02855", func := "metronome/metronomelaw10.ModesTells", spec := "modesTells", unfollowed := true, recurses := true, apart := false }
def ModesTellsSaid : Prop := modesTellsRow.holds Try.pinned (OpenSpec.ofChange modesTellsSpec)

/-- ITS FALSE NEIGHBOUR: 'it returns false'. Refute it at one input. -/
def modesTellsWrong : ChangeSpec := { name := "modesTells", fn := fun _ => fun
  | [d1, d2, d3, d4, d5, d6] => { results := [.lit (.bool false)], args := [d1, d2, d3, d4, d5, d6] }
  | _ => none }
def ModesTellsWrongFalsely : Prop := modesTellsRow.holds Try.pinned (OpenSpec.ofChange modesTellsWrong)

/-- 'metronomelaw07.MedlTells': WHATEVER THE INPUT: true; the input reads as it did. -/
def medlTellsSpec : ChangeSpec := { name := "medlTells", fn := fun _ => fun
  | [d1, d2, d3] => { results := [.lit (.bool true)], args := [d1, d2, d3] }
  | _ => none }
def medlTellsRow : OpenClaim := { program := "ytmjodcackmjllaa", sum := "0f635a23efa9fa1cced25ab6452c329255ef1a2a8701570d937a72585dc02855", func := "metronome/metronomelaw07.MedlTells", spec := "medlTells", unfollowed := true, recurses := true, apart := false }
def MedlTellsSaid : Prop := medlTellsRow.holds Try.pinned (OpenSpec.ofChange medlTellsSpec)

/-- ITS FALSE NEIGHBOUR: 'it returns false'. Refute it at one input. -/
def medlTellsWrong : ChangeSpec := { name := "medlTells", fn := fun _ => fun
  | [d1, d2, d3] => { results := [.lit (.bool false)], args := [d1, d2, d3] }
  | _ => none }
def MedlTellsWrongFalsely : Prop := medlTellsRow.holds Try.pinned (OpenSpec.ofChange medlTellsWrong)

/-- 'metronomelaw07.MedlBytes': WHATEVER THE INPUT: true; the input reads as it did. -/
def medlBytesSpec : ChangeSpec := { name := "medlBytes", fn := fun _ => fun
  | [d1, d2] => { results := [.lit (.bool true)], args := [d1, d2] }
  | _ => none }
def medlBytesRow : OpenClaim := { program := "ytmjodcackmjllaa", sum := "0f635a23efa9fa1cced25ab6452c329255ef1a2a8701570d937a72585dc02855", func := "metronome/metronomelaw07.MedlBytes", spec := "medlBytes", unfollowed := true, recurses := true, apart := false }
def MedlBytesSaid : Prop := medlBytesRow.holds Try.pinned (OpenSpec.ofChange medlBytesSpec)

/-- ITS FALSE NEIGHBOUR: 'it returns false'. Refute it at one input. -/
def medlBytesWrong : ChangeSpec := { name := "medlBytes", fn := fun _ => fun
  | [d1, d2] => { results := [.lit (.bool false)], args := [d1, d2] }
  | _ => none }
def MedlBytesWrongFalsely : Prop := medlBytesRow.holds Try.pinned (OpenSpec.ofChange medlBytesWrong)

/-- 'metronomelaw07.MedlBack': WHATEVER THE INPUT: true; the input reads as it did. -/
def medlBackSpec : ChangeSpec := { name := "medlBack", fn := fun _ => fun
  | [d1, d2] => { results := [.lit (.bool true)], args := [d1, d2] }
  | _ => none }
def medlBackRow : OpenClaim := { program := "ytmjodcackmjllaa", sum := "0f635a23efa9fa1cced25ab6452c329255ef1a2a8701570d937a72585dc02855", func := "metronome/metronomelaw07.MedlBack", spec := "medlBack", unfollowed := true, recurses := true, apart := false }
def MedlBackSaid : Prop := medlBackRow.holds Try.pinned (OpenSpec.ofChange medlBackSpec)

/-- ITS FALSE NEIGHBOUR: 'it returns false'. Refute it at one input. -/
def medlBackWrong : ChangeSpec := { name := "medlBack", fn := fun _ => fun
  | [d1, d2] => { results := [.lit (.bool false)], args := [d1, d2] }
  | _ => none }
def MedlBackWrongFalsely : Prop := medlBackRow.holds Try.pinned (OpenSpec.ofChange medlBackWrong)

/- THE SECOND FORM. 'bulk': how many values and letters a reading holds, each counted each time it is reached (what is shared counts as often as it is met; a slice's spare places count too). A statement '..UptoSaid' is the law's where the arguments, and the package variables that the reading takes, are together of bulk at most 1048576: NARROWER than '..Said'. Prove '..Said' where nothing that the law and all that it calls make is longer than what came in: it says more and counts as full. Else prove '..UptoSaid'. A law counts once. -/
mutual
def uptoBulk {H : Type} : DataW H → Nat
  | .lit (.string bytes) => bytes.length + 1
  | .lit _ => 1
  | .nil => 1
  | .ptr d => uptoBulk d + 1
  | .slice elems spare => uptoBulkAll elems + uptoBulkAll spare + 1
  | .agg parts => uptoBulkAll parts + 1
  | .iface _ d => uptoBulk d + 1
  | .map entries => uptoBulkEntries entries + 1
  | .held _ => 1
def uptoBulkAll {H : Type} : List (DataW H) → Nat
  | [] => 0
  | d :: r => uptoBulk d + uptoBulkAll r
def uptoBulkEntries {H : Type} : List (Lit × DataW H) → Nat
  | [] => 0
  | x :: r => uptoBulkEntry x + uptoBulkEntries r
def uptoBulkEntry {H : Type} : Lit × DataW H → Nat
  | (.string bytes, d) => bytes.length + uptoBulk d + 1
  | (_, d) => uptoBulk d + 1
 end
def uptoSmall : (H : Type) → List (DataW H) → Bool := fun _ ds => decide (uptoBulkAll ds ≤ 1048576)
def OpenSpec.upto (s : _root_.Go.ChangeSpec) : _root_.Go.OpenSpec := { _root_.Go.OpenSpec.ofChange s with cond := some uptoSmall }

/-- 'metronomelaw10.ModesOnce', WHERE WHAT IT READS IS OF BULK AT MOST 1048576: true; the input reads as it did. -/
def modesOnceUptoRow : OpenClaim := { program := "ytmjodcackmjllaa", sum := "0f635a23efa9fa1cced25ab6452c329255ef1a2a8701570d937a72585dc02855", func := "metronome/metronomelaw10.ModesOnce", spec := "modesOnce", unfollowed := true, recurses := true, apart := false, narrowed := true }
def ModesOnceUptoSaid : Prop := modesOnceUptoRow.holds Try.pinned (OpenSpec.upto modesOnceSpec)

/-- 'metronomelaw10.ModesNone', WHERE WHAT IT READS IS OF BULK AT MOST 1048576: true; the input reads as it did. -/
def modesNoneUptoRow : OpenClaim := { program := "ytmjodcackmjllaa", sum := "0f635a23efa9fa1cced25ab6452c329255ef1a2a8701570d937a72585dc02855", func := "metronome/metronomelaw10.ModesNone", spec := "modesNone", unfollowed := true, recurses := true, apart := false, narrowed := true }
def ModesNoneUptoSaid : Prop := modesNoneUptoRow.holds Try.pinned (OpenSpec.upto modesNoneSpec)

/-- 'metronomelaw07.MedlMore', WHERE WHAT IT READS IS OF BULK AT MOST 1048576: true; the input reads as it did. -/
def medlMoreUptoRow : OpenClaim := { program := "ytmjodcackmjllaa", sum := "0f635a23efa9fa1cced25ab6452c329255ef1a2a8701570d937a72585dc02855", func := "metronome/metronomelaw07.MedlMore", spec := "medlMore", unfollowed := true, recurses := true, apart := false, narrowed := true }
def MedlMoreUptoSaid : Prop := medlMoreUptoRow.holds Try.pinned (OpenSpec.upto medlMoreSpec)

/-- 'metronomelaw10.ModesReach', WHERE WHAT IT READS IS OF BULK AT MOST 1048576: true; the input reads as it did. -/
def modesReachUptoRow : OpenClaim := { program := "ytmjodcackmjllaa", sum := "0f635a23efa9fa1cced25ab6452c329255ef1a2a8701570d937a72585dc02855", func := "metronome/metronomelaw10.ModesReach", spec := "modesReach", unfollowed := true, recurses := true, apart := false, narrowed := true }
def ModesReachUptoSaid : Prop := modesReachUptoRow.holds Try.pinned (OpenSpec.upto modesReachSpec)

/-- 'metronomelaw07.MedlApart', WHERE WHAT IT READS IS OF BULK AT MOST 1048576: true; the input reads as it did. -/
def medlApartUptoRow : OpenClaim := { program := "ytmjodcackmjllaa", sum := "0f635a23efa9fa1cced25ab6452c329255ef1a2a8701570d937a72585dc02855", func := "metronome/metronomelaw07.MedlApart", spec := "medlApart", unfollowed := true, recurses := true, apart := false, narrowed := true }
def MedlApartUptoSaid : Prop := medlApartUptoRow.holds Try.pinned (OpenSpec.upto medlApartSpec)

/-- 'metronomelaw07.MedlChecks', WHERE WHAT IT READS IS OF BULK AT MOST 1048576: true; the input reads as it did. -/
def medlChecksUptoRow : OpenClaim := { program := "ytmjodcackmjllaa", sum := "0f635a23efa9fa1cced25ab6452c329255ef1a2a8701570d937a72585dc02855", func := "metronome/metronomelaw07.MedlChecks", spec := "medlChecks", unfollowed := true, recurses := true, apart := false, narrowed := true }
def MedlChecksUptoSaid : Prop := medlChecksUptoRow.holds Try.pinned (OpenSpec.upto medlChecksSpec)

/-- 'metronomelaw07.MedlRoom', WHERE WHAT IT READS IS OF BULK AT MOST 1048576: true; the input reads as it did. -/
def medlRoomUptoRow : OpenClaim := { program := "ytmjodcackmjllaa", sum := "0f635a23efa9fa1cced25ab6452c329255ef1a2a8701570d937a72585dc02855", func := "metronome/metronomelaw07.MedlRoom", spec := "medlRoom", unfollowed := true, recurses := true, apart := false, narrowed := true }
def MedlRoomUptoSaid : Prop := medlRoomUptoRow.holds Try.pinned (OpenSpec.upto medlRoomSpec)

/-- 'metronomelaw10.ModesTells', WHERE WHAT IT READS IS OF BULK AT MOST 1048576: true; the input reads as it did. -/
def modesTellsUptoRow : OpenClaim := { program := "ytmjodcackmjllaa", sum := "0f635a23efa9fa1cced25ab6452c329255ef1a2a8701570d937a72585dc02855", func := "metronome/metronomelaw10.ModesTells", spec := "modesTells", unfollowed := true, recurses := true, apart := false, narrowed := true }
def ModesTellsUptoSaid : Prop := modesTellsUptoRow.holds Try.pinned (OpenSpec.upto modesTellsSpec)

/-- 'metronomelaw07.MedlTells', WHERE WHAT IT READS IS OF BULK AT MOST 1048576: true; the input reads as it did. -/
def medlTellsUptoRow : OpenClaim := { program := "ytmjodcackmjllaa", sum := "0f635a23efa9fa1cced25ab6452c329255ef1a2a8701570d937a72585dc02855", func := "metronome/metronomelaw07.MedlTells", spec := "medlTells", unfollowed := true, recurses := true, apart := false, narrowed := true }
def MedlTellsUptoSaid : Prop := medlTellsUptoRow.holds Try.pinned (OpenSpec.upto medlTellsSpec)

/-- 'metronomelaw07.MedlBytes', WHERE WHAT IT READS IS OF BULK AT MOST 1048576: true; the input reads as it did. -/
def medlBytesUptoRow : OpenClaim := { program := "ytmjodcackmjllaa", sum := "0f635a23efa9fa1cced25ab6452c329255ef1a2a8701570d937a72585dc02855", func := "metronome/metronomelaw07.MedlBytes", spec := "medlBytes", unfollowed := true, recurses := true, apart := false, narrowed := true }
def MedlBytesUptoSaid : Prop := medlBytesUptoRow.holds Try.pinned (OpenSpec.upto medlBytesSpec)

/-- 'metronomelaw07.MedlBack', WHERE WHAT IT READS IS OF BULK AT MOST 1048576: true; the input reads as it did. -/
def medlBackUptoRow : OpenClaim := { program := "ytmjodcackmjllaa", sum := "0f635a23efa9fa1cced25ab6452c329255ef1a2a8701570d937a72585dc02855", func := "metronome/metronomelaw07.MedlBack", spec := "medlBack", unfollowed := true, recurses := true, apart := false, narrowed := true }
def MedlBackUptoSaid : Prop := medlBackUptoRow.holds Try.pinned (OpenSpec.upto medlBackSpec)

end Rows
end Go.Proofs.Ytmjodcackmjllaa
