/-
  No cell of these rows narrows 'for every input' (looked for: loops, veiled, ifaces, maps, wideKeys, modest, calm, conditions, laid).
  DERIVED. THE GIVEN ROWS OF THIS SEAT. 6 by the template 'for every input the law returns true; each argument reads behind the call as it read before'; 0 by the template 'total and deterministic' (their statements: YtijepfjfmpmfnaaTotals.lean).
  GIVEN WITH THE SEED: the statements are not yours to turn. If you find one false, say at which input.
  Laid BY PROGRAM, IN A SANDBOX (cutbox-rows.mjs): the forced cells as the released guide's own fill.sh prints them over the translation 00d2c340cb13462f… (all of the seat's roots in one cut). By AI agents, Wed Nov 11 2026. No macro, syntax, notation, axiom, sorry.
-/
import Derived.Test.YtijepfjfmpmfnaaChecked
import GoSem.Claim
import GoSem.ClaimJoined
import GoSem.ClaimMapViews
import Derived.JoinedTies
import Derived.KernelRfl
namespace Go.Proofs.Ytijepfjfmpmfnaa
/- THE CELL 'sum', in the pinned program and in every row, IS THE sha256 OF THE DUMP (.gsa) THAT YtijepfjfmpmfnaaProg.lean LOADS. Nothing in Lean hashes anything: it is a label: what it is worth is what the hold of that sum in a sandbox is worth. -/
noncomputable def Try.pinned : Pinned := { name := "ytijepfjfmpmfnaa", sum := "00d2c340cb13462f0a6312ba9aae41be0d1162b29caede93ecc320897686d426", checked := Try.checked }
namespace Rows
def none {H : Type} : Left H := { results := [], args := [] }

/-- 'tollgatelaw11.NegMeets': WHATEVER THE INPUT: true; the input reads as it did. -/
def negMeetsSpec : ChangeSpec := { name := "negMeets", fn := fun _ => fun
  | [d1, d2, d3] => { results := [.lit (.bool true)], args := [d1, d2, d3] }
  | _ => none }
def negMeetsRow : OpenClaim := { program := "ytijepfjfmpmfnaa", sum := "00d2c340cb13462f0a6312ba9aae41be0d1162b29caede93ecc320897686d426", func := "tollgate/tollgatelaw11.NegMeets", spec := "negMeets", unfollowed := true, recurses := true, plainKeys := false, apart := false }
def NegMeetsSaid : Prop := negMeetsRow.holds Try.pinned (OpenSpec.ofChange negMeetsSpec)

/-- ITS FALSE NEIGHBOUR: 'it returns false'. Refute it at one input. -/
def negMeetsWrong : ChangeSpec := { name := "negMeets", fn := fun _ => fun
  | [d1, d2, d3] => { results := [.lit (.bool false)], args := [d1, d2, d3] }
  | _ => none }
def NegMeetsWrongFalsely : Prop := negMeetsRow.holds Try.pinned (OpenSpec.ofChange negMeetsWrong)

/-- 'tollgatelaw17.IpcpAddress': WHATEVER THE INPUT: true; the input reads as it did. -/
def ipcpAddressSpec : ChangeSpec := { name := "ipcpAddress", fn := fun _ => fun
  | [d1, d2, d3, d4] => { results := [.lit (.bool true)], args := [d1, d2, d3, d4] }
  | _ => none }
def ipcpAddressRow : OpenClaim := { program := "ytijepfjfmpmfnaa", sum := "00d2c340cb13462f0a6312ba9aae41be0d1162b29caede93ecc320897686d426", func := "tollgate/tollgatelaw17.IpcpAddress", spec := "ipcpAddress", unfollowed := true, recurses := true, plainKeys := false, apart := false }
def IpcpAddressSaid : Prop := ipcpAddressRow.holds Try.pinned (OpenSpec.ofChange ipcpAddressSpec)

/-- ITS FALSE NEIGHBOUR: 'it returns false'. Refute it at one input. -/
def ipcpAddressWrong : ChangeSpec := { name := "ipcpAddress", fn := fun _ => fun
  | [d1, d2, d3, d4] => { results := [.lit (.bool false)], args := [d1, d2, d3, d4] }
  | _ => none }
def IpcpAddressWrongFalsely : Prop := ipcpAddressRow.holds Try.pinned (OpenSpec.ofChange ipcpAddressWrong)

/-- 'tollgatelaw17.IpcpForced': WHATEVER THE INPUT: true; the input reads as it did. -/
def ipcpForcedSpec : ChangeSpec := { name := "ipcpForced", fn := fun _ => fun
  | [d1, d2] => { results := [.lit (.bool true)], args := [d1, d2] }
  | _ => none }
def ipcpForcedRow : OpenClaim := { program := "ytijepfjfmpmfnaa", sum := "00d2c340cb13462f0a6312ba9aae41be0d1162b29caede93ecc320897686d426", func := "tollgate/tollgatelaw17.IpcpForced", spec := "ipcpForced", unfollowed := true, recurses := true, plainKeys := false, apart := false }
def IpcpForcedSaid : Prop := ipcpForcedRow.holds Try.pinned (OpenSpec.ofChange ipcpForcedSpec)

/-- ITS FALSE NEIGHBOUR: 'it returns false'. Refute it at one input. -/
def ipcpForcedWrong : ChangeSpec := { name := "ipcpForced", fn := fun _ => fun
  | [d1, d2] => { results := [.lit (.bool false)], args := [d1, d2] }
  | _ => none }
def IpcpForcedWrongFalsely : Prop := ipcpForcedRow.holds Try.pinned (OpenSpec.ofChange ipcpForcedWrong)

/-- 'tollgatelaw17.IpcpAsks': WHATEVER THE INPUT: true; the input reads as it did. -/
def ipcpAsksSpec : ChangeSpec := { name := "ipcpAsks", fn := fun _ => fun
  | [d1, d2, d3] => { results := [.lit (.bool true)], args := [d1, d2, d3] }
  | _ => none }
def ipcpAsksRow : OpenClaim := { program := "ytijepfjfmpmfnaa", sum := "00d2c340cb13462f0a6312ba9aae41be0d1162b29caede93ecc320897686d426", func := "tollgate/tollgatelaw17.IpcpAsks", spec := "ipcpAsks", unfollowed := true, recurses := true, plainKeys := false, apart := false }
def IpcpAsksSaid : Prop := ipcpAsksRow.holds Try.pinned (OpenSpec.ofChange ipcpAsksSpec)

/-- ITS FALSE NEIGHBOUR: 'it returns false'. Refute it at one input. -/
def ipcpAsksWrong : ChangeSpec := { name := "ipcpAsks", fn := fun _ => fun
  | [d1, d2, d3] => { results := [.lit (.bool false)], args := [d1, d2, d3] }
  | _ => none }
def IpcpAsksWrongFalsely : Prop := ipcpAsksRow.holds Try.pinned (OpenSpec.ofChange ipcpAsksWrong)

/-- 'tollgatelaw11.NegAcks': WHATEVER THE INPUT: true; the input reads as it did. -/
def negAcksSpec : ChangeSpec := { name := "negAcks", fn := fun _ => fun
  | [d] => { results := [.lit (.bool true)], args := [d] }
  | _ => none }
def negAcksRow : OpenClaim := { program := "ytijepfjfmpmfnaa", sum := "00d2c340cb13462f0a6312ba9aae41be0d1162b29caede93ecc320897686d426", func := "tollgate/tollgatelaw11.NegAcks", spec := "negAcks", unfollowed := true, recurses := true, plainKeys := false, apart := false }
def NegAcksSaid : Prop := negAcksRow.holds Try.pinned (OpenSpec.ofChange negAcksSpec)

/-- ITS FALSE NEIGHBOUR: 'it returns false'. Refute it at one input. -/
def negAcksWrong : ChangeSpec := { name := "negAcks", fn := fun _ => fun
  | [d] => { results := [.lit (.bool false)], args := [d] }
  | _ => none }
def NegAcksWrongFalsely : Prop := negAcksRow.holds Try.pinned (OpenSpec.ofChange negAcksWrong)

/-- 'tollgatelaw17.IpcpMeets': WHATEVER THE INPUT: true; the input reads as it did. -/
def ipcpMeetsSpec : ChangeSpec := { name := "ipcpMeets", fn := fun _ => fun
  | [d1, d2, d3, d4, d5] => { results := [.lit (.bool true)], args := [d1, d2, d3, d4, d5] }
  | _ => none }
def ipcpMeetsRow : OpenClaim := { program := "ytijepfjfmpmfnaa", sum := "00d2c340cb13462f0a6312ba9aae41be0d1162b29caede93ecc320897686d426", func := "tollgate/tollgatelaw17.IpcpMeets", spec := "ipcpMeets", unfollowed := true, recurses := true, plainKeys := false, apart := false }
def IpcpMeetsSaid : Prop := ipcpMeetsRow.holds Try.pinned (OpenSpec.ofChange ipcpMeetsSpec)

/-- ITS FALSE NEIGHBOUR: 'it returns false'. Refute it at one input. -/
def ipcpMeetsWrong : ChangeSpec := { name := "ipcpMeets", fn := fun _ => fun
  | [d1, d2, d3, d4, d5] => { results := [.lit (.bool false)], args := [d1, d2, d3, d4, d5] }
  | _ => none }
def IpcpMeetsWrongFalsely : Prop := ipcpMeetsRow.holds Try.pinned (OpenSpec.ofChange ipcpMeetsWrong)

/- THE SECOND FORM. 'bulk': how many values and letters a reading holds, each counted each time it is reached (what is shared counts as often as it is met; a slice's spare places count too). A statement '..UptoSaid' is the law's where the arguments, and the package variables that the reading takes, are together of bulk at most 1048576: NARROWER than '..Said'. Prove '..Said' where nothing that the law and all that it calls make is longer than what came in: it says more and counts as full. Else prove '..UptoSaid'. A law counts once. -/
mutual
def uptoBulk {H : Type} : DataW H → Nat
  | .lit (.string bytes) => bytes.length + 1
  | .lit _ => 1
  | .nil => 1
  | .ptr d => uptoBulk d + 1
  | .slice elems spare => uptoBulkAll elems + uptoBulkAll spare + 1
  | .agg parts => uptoBulkAll parts + 1
  | .iface _ d => uptoBulk d + 1
  | .map entries => uptoBulkEntries entries + 1
  | .held _ => 1
def uptoBulkAll {H : Type} : List (DataW H) → Nat
  | [] => 0
  | d :: r => uptoBulk d + uptoBulkAll r
def uptoBulkEntries {H : Type} : List (Lit × DataW H) → Nat
  | [] => 0
  | x :: r => uptoBulkEntry x + uptoBulkEntries r
def uptoBulkEntry {H : Type} : Lit × DataW H → Nat
  | (.string bytes, d) => bytes.length + uptoBulk d + 1
  | (_, d) => uptoBulk d + 1
 end
def uptoSmall : (H : Type) → List (DataW H) → Bool := fun _ ds => decide (uptoBulkAll ds ≤ 1048576)
def OpenSpec.upto (s : _root_.Go.ChangeSpec) : _root_.Go.OpenSpec := { _root_.Go.OpenSpec.ofChange s with cond := some uptoSmall }

/-- 'tollgatelaw11.NegMeets', WHERE WHAT IT READS IS OF BULK AT MOST 1048576: true; the input reads as it did. -/
def negMeetsUptoRow : OpenClaim := { program := "ytijepfjfmpmfnaa", sum := "00d2c340cb13462f0a6312ba9aae41be0d1162b29caede93ecc320897686d426", func := "tollgate/tollgatelaw11.NegMeets", spec := "negMeets", unfollowed := true, recurses := true, plainKeys := false, apart := false, narrowed := true }
def NegMeetsUptoSaid : Prop := negMeetsUptoRow.holds Try.pinned (OpenSpec.upto negMeetsSpec)

/-- 'tollgatelaw17.IpcpAddress', WHERE WHAT IT READS IS OF BULK AT MOST 1048576: true; the input reads as it did. -/
def ipcpAddressUptoRow : OpenClaim := { program := "ytijepfjfmpmfnaa", sum := "00d2c340cb13462f0a6312ba9aae41be0d1162b29caede93ecc320897686d426", func := "tollgate/tollgatelaw17.IpcpAddress", spec := "ipcpAddress", unfollowed := true, recurses := true, plainKeys := false, apart := false, narrowed := true }
def IpcpAddressUptoSaid : Prop := ipcpAddressUptoRow.holds Try.pinned (OpenSpec.upto ipcpAddressSpec)

/-- 'tollgatelaw17.IpcpForced', WHERE WHAT IT READS IS OF BULK AT MOST 1048576: true; the input reads as it did. -/
def ipcpForcedUptoRow : OpenClaim := { program := "ytijepfjfmpmfnaa", sum := "00d2c340cb13462f0a6312ba9aae41be0d1162b29caede93ecc320897686d426", func := "tollgate/tollgatelaw17.IpcpForced", spec := "ipcpForced", unfollowed := true, recurses := true, plainKeys := false, apart := false, narrowed := true }
def IpcpForcedUptoSaid : Prop := ipcpForcedUptoRow.holds Try.pinned (OpenSpec.upto ipcpForcedSpec)

/-- 'tollgatelaw17.IpcpAsks', WHERE WHAT IT READS IS OF BULK AT MOST 1048576: true; the input reads as it did. -/
def ipcpAsksUptoRow : OpenClaim := { program := "ytijepfjfmpmfnaa", sum := "00d2c340cb13462f0a6312ba9aae41be0d1162b29caede93ecc320897686d426", func := "tollgate/tollgatelaw17.IpcpAsks", spec := "ipcpAsks", unfollowed := true, recurses := true, plainKeys := false, apart := false, narrowed := true }
def IpcpAsksUptoSaid : Prop := ipcpAsksUptoRow.holds Try.pinned (OpenSpec.upto ipcpAsksSpec)

/-- 'tollgatelaw11.NegAcks', WHERE WHAT IT READS IS OF BULK AT MOST 1048576: true; the input reads as it did. -/
def negAcksUptoRow : OpenClaim := { program := "ytijepfjfmpmfnaa", sum := "00d2c340cb13462f0a6312ba9aae41be0d1162b29caede93ecc320897686d426", func := "tollgate/tollgatelaw11.NegAcks", spec := "negAcks", unfollowed := true, recurses := true, plainKeys := false, apart := false, narrowed := true }
def NegAcksUptoSaid : Prop := negAcksUptoRow.holds Try.pinned (OpenSpec.upto negAcksSpec)

/-- 'tollgatelaw17.IpcpMeets', WHERE WHAT IT READS IS OF BULK AT MOST 1048576: true; the input reads as it did. -/
def ipcpMeetsUptoRow : OpenClaim := { program := "ytijepfjfmpmfnaa", sum := "00d2c340cb13462f0a6312ba9aae41be0d1162b29caede93ecc320897686d426", func := "tollgate/tollgatelaw17.IpcpMeets", spec := "ipcpMeets", unfollowed := true, recurses := true, plainKeys := false, apart := false, narrowed := true }
def IpcpMeetsUptoSaid : Prop := ipcpMeetsUptoRow.holds Try.pinned (OpenSpec.upto ipcpMeetsSpec)

end Rows
end Go.Proofs.Ytijepfjfmpmfnaa
