/-
  No cell of these rows narrows 'for every input' (looked for: loops, veiled, ifaces, maps, wideKeys, modest, calm, conditions, laid).
  DERIVED. THE GIVEN ROWS OF THIS SEAT. 7 by the template 'for every input the law returns true; each argument reads behind the call as it read before'; 0 by the template 'total and deterministic' (their statements: YtidlldfppoelnaaTotals.lean).
  GIVEN WITH THE SEED: the statements are not yours to turn. If you find one false, say at which input.
  Laid BY PROGRAM, IN A SANDBOX (cutbox-rows.mjs): the forced cells as the released guide's own fill.sh prints them over the translation 3887640b6c31dc56… (all of the seat's roots in one cut). By AI agents, Wed Nov 11 2026. No macro, syntax, notation, axiom, sorry.
-/
import Derived.Test.YtidlldfppoelnaaChecked
import GoSem.Claim
import GoSem.ClaimJoined
import GoSem.ClaimMapViews
import Derived.JoinedTies
import Derived.KernelRfl
namespace Go.Proofs.Ytidlldfppoelnaa
/- THE CELL 'sum', in the pinned program and in every row, IS THE sha256 OF THE DUMP (.gsa) THAT YtidlldfppoelnaaProg.lean LOADS. Nothing in Lean hashes anything: it is a label: what it is worth is what the hold of that sum in a sandbox is worth. -/
noncomputable def Try.pinned : Pinned := { name := "ytidlldfppoelnaa", sum := "3887640b6c31dc56f8f1b6020ef2e5cde58f10974b3c347cfd0bb7e33ca2719f", checked := Try.checked }
namespace Rows
def none {H : Type} : Left H := { results := [], args := [] }

/-- 'tollgatelaw11.NegTells': WHATEVER THE INPUT: true; the input reads as it did. -/
def negTellsSpec : ChangeSpec := { name := "negTells", fn := fun _ => fun
  | [d1, d2, d3] => { results := [.lit (.bool true)], args := [d1, d2, d3] }
  | _ => none }
def negTellsRow : OpenClaim := { program := "ytidlldfppoelnaa", sum := "3887640b6c31dc56f8f1b6020ef2e5cde58f10974b3c347cfd0bb7e33ca2719f", func := "tollgate/tollgatelaw11.NegTells", spec := "negTells", unfollowed := true, recurses := true, plainKeys := false, apart := false }
def NegTellsSaid : Prop := negTellsRow.holds Try.pinned (OpenSpec.ofChange negTellsSpec)

/-- ITS FALSE NEIGHBOUR: 'it returns false'. Refute it at one input. -/
def negTellsWrong : ChangeSpec := { name := "negTells", fn := fun _ => fun
  | [d1, d2, d3] => { results := [.lit (.bool false)], args := [d1, d2, d3] }
  | _ => none }
def NegTellsWrongFalsely : Prop := negTellsRow.holds Try.pinned (OpenSpec.ofChange negTellsWrong)

/-- 'tollgatelaw11.NegOrder': WHATEVER THE INPUT: true; the input reads as it did. -/
def negOrderSpec : ChangeSpec := { name := "negOrder", fn := fun _ => fun
  | [d1, d2] => { results := [.lit (.bool true)], args := [d1, d2] }
  | _ => none }
def negOrderRow : OpenClaim := { program := "ytidlldfppoelnaa", sum := "3887640b6c31dc56f8f1b6020ef2e5cde58f10974b3c347cfd0bb7e33ca2719f", func := "tollgate/tollgatelaw11.NegOrder", spec := "negOrder", unfollowed := true, recurses := true, plainKeys := false, apart := false }
def NegOrderSaid : Prop := negOrderRow.holds Try.pinned (OpenSpec.ofChange negOrderSpec)

/-- ITS FALSE NEIGHBOUR: 'it returns false'. Refute it at one input. -/
def negOrderWrong : ChangeSpec := { name := "negOrder", fn := fun _ => fun
  | [d1, d2] => { results := [.lit (.bool false)], args := [d1, d2] }
  | _ => none }
def NegOrderWrongFalsely : Prop := negOrderRow.holds Try.pinned (OpenSpec.ofChange negOrderWrong)

/-- 'tollgatelaw11.NegMeets': WHATEVER THE INPUT: true; the input reads as it did. -/
def negMeetsSpec : ChangeSpec := { name := "negMeets", fn := fun _ => fun
  | [d1, d2, d3] => { results := [.lit (.bool true)], args := [d1, d2, d3] }
  | _ => none }
def negMeetsRow : OpenClaim := { program := "ytidlldfppoelnaa", sum := "3887640b6c31dc56f8f1b6020ef2e5cde58f10974b3c347cfd0bb7e33ca2719f", func := "tollgate/tollgatelaw11.NegMeets", spec := "negMeets", unfollowed := true, recurses := true, plainKeys := false, apart := false }
def NegMeetsSaid : Prop := negMeetsRow.holds Try.pinned (OpenSpec.ofChange negMeetsSpec)

/-- ITS FALSE NEIGHBOUR: 'it returns false'. Refute it at one input. -/
def negMeetsWrong : ChangeSpec := { name := "negMeets", fn := fun _ => fun
  | [d1, d2, d3] => { results := [.lit (.bool false)], args := [d1, d2, d3] }
  | _ => none }
def NegMeetsWrongFalsely : Prop := negMeetsRow.holds Try.pinned (OpenSpec.ofChange negMeetsWrong)

/-- 'tollgatelaw11.NegQuiet': WHATEVER THE INPUT: true; the input reads as it did. -/
def negQuietSpec : ChangeSpec := { name := "negQuiet", fn := fun _ => fun
  | [d1, d2] => { results := [.lit (.bool true)], args := [d1, d2] }
  | _ => none }
def negQuietRow : OpenClaim := { program := "ytidlldfppoelnaa", sum := "3887640b6c31dc56f8f1b6020ef2e5cde58f10974b3c347cfd0bb7e33ca2719f", func := "tollgate/tollgatelaw11.NegQuiet", spec := "negQuiet", unfollowed := true, recurses := true, plainKeys := false, apart := false }
def NegQuietSaid : Prop := negQuietRow.holds Try.pinned (OpenSpec.ofChange negQuietSpec)

/-- ITS FALSE NEIGHBOUR: 'it returns false'. Refute it at one input. -/
def negQuietWrong : ChangeSpec := { name := "negQuiet", fn := fun _ => fun
  | [d1, d2] => { results := [.lit (.bool false)], args := [d1, d2] }
  | _ => none }
def NegQuietWrongFalsely : Prop := negQuietRow.holds Try.pinned (OpenSpec.ofChange negQuietWrong)

/-- 'tollgatelaw11.NegAcks': WHATEVER THE INPUT: true; the input reads as it did. -/
def negAcksSpec : ChangeSpec := { name := "negAcks", fn := fun _ => fun
  | [d] => { results := [.lit (.bool true)], args := [d] }
  | _ => none }
def negAcksRow : OpenClaim := { program := "ytidlldfppoelnaa", sum := "3887640b6c31dc56f8f1b6020ef2e5cde58f10974b3c347cfd0bb7e33ca2719f", func := "tollgate/tollgatelaw11.NegAcks", spec := "negAcks", unfollowed := true, recurses := true, plainKeys := false, apart := false }
def NegAcksSaid : Prop := negAcksRow.holds Try.pinned (OpenSpec.ofChange negAcksSpec)

/-- ITS FALSE NEIGHBOUR: 'it returns false'. Refute it at one input. -/
def negAcksWrong : ChangeSpec := { name := "negAcks", fn := fun _ => fun
  | [d] => { results := [.lit (.bool false)], args := [d] }
  | _ => none }
def NegAcksWrongFalsely : Prop := negAcksRow.holds Try.pinned (OpenSpec.ofChange negAcksWrong)

/-- 'tollgatelaw11.NegAdopts': WHATEVER THE INPUT: true; the input reads as it did. -/
def negAdoptsSpec : ChangeSpec := { name := "negAdopts", fn := fun _ => fun
  | [d1, d2, d3] => { results := [.lit (.bool true)], args := [d1, d2, d3] }
  | _ => none }
def negAdoptsRow : OpenClaim := { program := "ytidlldfppoelnaa", sum := "3887640b6c31dc56f8f1b6020ef2e5cde58f10974b3c347cfd0bb7e33ca2719f", func := "tollgate/tollgatelaw11.NegAdopts", spec := "negAdopts", unfollowed := true, recurses := true, plainKeys := false, apart := false }
def NegAdoptsSaid : Prop := negAdoptsRow.holds Try.pinned (OpenSpec.ofChange negAdoptsSpec)

/-- ITS FALSE NEIGHBOUR: 'it returns false'. Refute it at one input. -/
def negAdoptsWrong : ChangeSpec := { name := "negAdopts", fn := fun _ => fun
  | [d1, d2, d3] => { results := [.lit (.bool false)], args := [d1, d2, d3] }
  | _ => none }
def NegAdoptsWrongFalsely : Prop := negAdoptsRow.holds Try.pinned (OpenSpec.ofChange negAdoptsWrong)

/-- 'tollgatelaw11.NegNone': WHATEVER THE INPUT: true; the input reads as it did. -/
def negNoneSpec : ChangeSpec := { name := "negNone", fn := fun _ => fun
  | [d1, d2, d3] => { results := [.lit (.bool true)], args := [d1, d2, d3] }
  | _ => none }
def negNoneRow : OpenClaim := { program := "ytidlldfppoelnaa", sum := "3887640b6c31dc56f8f1b6020ef2e5cde58f10974b3c347cfd0bb7e33ca2719f", func := "tollgate/tollgatelaw11.NegNone", spec := "negNone", unfollowed := true, recurses := true, plainKeys := false, apart := false }
def NegNoneSaid : Prop := negNoneRow.holds Try.pinned (OpenSpec.ofChange negNoneSpec)

/-- ITS FALSE NEIGHBOUR: 'it returns false'. Refute it at one input. -/
def negNoneWrong : ChangeSpec := { name := "negNone", fn := fun _ => fun
  | [d1, d2, d3] => { results := [.lit (.bool false)], args := [d1, d2, d3] }
  | _ => none }
def NegNoneWrongFalsely : Prop := negNoneRow.holds Try.pinned (OpenSpec.ofChange negNoneWrong)

/- THE SECOND FORM. 'bulk': how many values and letters a reading holds, each counted each time it is reached (what is shared counts as often as it is met; a slice's spare places count too). A statement '..UptoSaid' is the law's where the arguments, and the package variables that the reading takes, are together of bulk at most 1048576: NARROWER than '..Said'. Prove '..Said' where nothing that the law and all that it calls make is longer than what came in: it says more and counts as full. Else prove '..UptoSaid'. A law counts once. -/
mutual
def uptoBulk {H : Type} : DataW H → Nat
  | .lit (.string bytes) => bytes.length + 1
  | .lit _ => 1
  | .nil => 1
  | .ptr d => uptoBulk d + 1
  | .slice elems spare => uptoBulkAll elems + uptoBulkAll spare + 1
  | .agg parts => uptoBulkAll parts + 1
  | .iface _ d => uptoBulk d + 1
  | .map entries => uptoBulkEntries entries + 1
  | .held _ => 1
def uptoBulkAll {H : Type} : List (DataW H) → Nat
  | [] => 0
  | d :: r => uptoBulk d + uptoBulkAll r
def uptoBulkEntries {H : Type} : List (Lit × DataW H) → Nat
  | [] => 0
  | x :: r => uptoBulkEntry x + uptoBulkEntries r
def uptoBulkEntry {H : Type} : Lit × DataW H → Nat
  | (.string bytes, d) => bytes.length + uptoBulk d + 1
  | (_, d) => uptoBulk d + 1
 end
def uptoSmall : (H : Type) → List (DataW H) → Bool := fun _ ds => decide (uptoBulkAll ds ≤ 1048576)
def OpenSpec.upto (s : _root_.Go.ChangeSpec) : _root_.Go.OpenSpec := { _root_.Go.OpenSpec.ofChange s with cond := some uptoSmall }

/-- 'tollgatelaw11.NegTells', WHERE WHAT IT READS IS OF BULK AT MOST 1048576: true; the input reads as it did. -/
def negTellsUptoRow : OpenClaim := { program := "ytidlldfppoelnaa", sum := "3887640b6c31dc56f8f1b6020ef2e5cde58f10974b3c347cfd0bb7e33ca2719f", func := "tollgate/tollgatelaw11.NegTells", spec := "negTells", unfollowed := true, recurses := true, plainKeys := false, apart := false, narrowed := true }
def NegTellsUptoSaid : Prop := negTellsUptoRow.holds Try.pinned (OpenSpec.upto negTellsSpec)

/-- 'tollgatelaw11.NegOrder', WHERE WHAT IT READS IS OF BULK AT MOST 1048576: true; the input reads as it did. -/
def negOrderUptoRow : OpenClaim := { program := "ytidlldfppoelnaa", sum := "3887640b6c31dc56f8f1b6020ef2e5cde58f10974b3c347cfd0bb7e33ca2719f", func := "tollgate/tollgatelaw11.NegOrder", spec := "negOrder", unfollowed := true, recurses := true, plainKeys := false, apart := false, narrowed := true }
def NegOrderUptoSaid : Prop := negOrderUptoRow.holds Try.pinned (OpenSpec.upto negOrderSpec)

/-- 'tollgatelaw11.NegMeets', WHERE WHAT IT READS IS OF BULK AT MOST 1048576: true; the input reads as it did. -/
def negMeetsUptoRow : OpenClaim := { program := "ytidlldfppoelnaa", sum := "3887640b6c31dc56f8f1b6020ef2e5cde58f10974b3c347cfd0bb7e33ca2719f", func := "tollgate/tollgatelaw11.NegMeets", spec := "negMeets", unfollowed := true, recurses := true, plainKeys := false, apart := false, narrowed := true }
def NegMeetsUptoSaid : Prop := negMeetsUptoRow.holds Try.pinned (OpenSpec.upto negMeetsSpec)

/-- 'tollgatelaw11.NegQuiet', WHERE WHAT IT READS IS OF BULK AT MOST 1048576: true; the input reads as it did. -/
def negQuietUptoRow : OpenClaim := { program := "ytidlldfppoelnaa", sum := "3887640b6c31dc56f8f1b6020ef2e5cde58f10974b3c347cfd0bb7e33ca2719f", func := "tollgate/tollgatelaw11.NegQuiet", spec := "negQuiet", unfollowed := true, recurses := true, plainKeys := false, apart := false, narrowed := true }
def NegQuietUptoSaid : Prop := negQuietUptoRow.holds Try.pinned (OpenSpec.upto negQuietSpec)

/-- 'tollgatelaw11.NegAcks', WHERE WHAT IT READS IS OF BULK AT MOST 1048576: true; the input reads as it did. -/
def negAcksUptoRow : OpenClaim := { program := "ytidlldfppoelnaa", sum := "3887640b6c31dc56f8f1b6020ef2e5cde58f10974b3c347cfd0bb7e33ca2719f", func := "tollgate/tollgatelaw11.NegAcks", spec := "negAcks", unfollowed := true, recurses := true, plainKeys := false, apart := false, narrowed := true }
def NegAcksUptoSaid : Prop := negAcksUptoRow.holds Try.pinned (OpenSpec.upto negAcksSpec)

/-- 'tollgatelaw11.NegAdopts', WHERE WHAT IT READS IS OF BULK AT MOST 1048576: true; the input reads as it did. -/
def negAdoptsUptoRow : OpenClaim := { program := "ytidlldfppoelnaa", sum := "3887640b6c31dc56f8f1b6020ef2e5cde58f10974b3c347cfd0bb7e33ca2719f", func := "tollgate/tollgatelaw11.NegAdopts", spec := "negAdopts", unfollowed := true, recurses := true, plainKeys := false, apart := false, narrowed := true }
def NegAdoptsUptoSaid : Prop := negAdoptsUptoRow.holds Try.pinned (OpenSpec.upto negAdoptsSpec)

/-- 'tollgatelaw11.NegNone', WHERE WHAT IT READS IS OF BULK AT MOST 1048576: true; the input reads as it did. -/
def negNoneUptoRow : OpenClaim := { program := "ytidlldfppoelnaa", sum := "3887640b6c31dc56f8f1b6020ef2e5cde58f10974b3c347cfd0bb7e33ca2719f", func := "tollgate/tollgatelaw11.NegNone", spec := "negNone", unfollowed := true, recurses := true, plainKeys := false, apart := false, narrowed := true }
def NegNoneUptoSaid : Prop := negNoneUptoRow.holds Try.pinned (OpenSpec.upto negNoneSpec)

end Rows
end Go.Proofs.Ytidlldfppoelnaa
