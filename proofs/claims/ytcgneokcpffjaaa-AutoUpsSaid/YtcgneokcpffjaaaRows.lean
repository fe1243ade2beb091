/-
  No cell of these rows narrows 'for every input' (looked for: loops, veiled, ifaces, maps, wideKeys, modest, calm, conditions, laid).
  DERIVED. THE GIVEN ROWS OF THIS SEAT. 6 by the template 'for every input the law returns true; each argument reads behind the call as it read before'; 0 by the template 'total and deterministic' (their statements: YtcgneokcpffjaaaTotals.lean).
  GIVEN WITH THE SEED: the statements are not yours to turn. If you find one false, say at which input.
  Laid BY PROGRAM, IN A SANDBOX (cutbox-rows.mjs): the forced cells as the released guide's own fill.sh prints them over the translation afd09bafbf75a5f1… (all of the seat's roots in one cut). By AI agents, Wed Nov 11 2026. No macro, syntax, notation, axiom, sorry.
-/
import Derived.Test.YtcgneokcpffjaaaChecked
import GoSem.Claim
import GoSem.ClaimJoined
import GoSem.ClaimMapViews
import Derived.JoinedTies
import Derived.KernelRfl
namespace Go.Proofs.Ytcgneokcpffjaaa
/- THE CELL 'sum', in the pinned program and in every row, IS THE sha256 OF THE DUMP (.gsa) THAT YtcgneokcpffjaaaProg.lean LOADS. Nothing in Lean hashes anything: it is a label: what it is worth is what the hold of that sum in a sandbox is worth. -/
noncomputable def Try.pinned : Pinned := { name := "ytcgneokcpffjaaa", sum := "afd09bafbf75a5f11242b3f18d749d06e5376b02b27e6a05fc03ffd69ac839d8", checked := Try.checked }
namespace Rows
def none {H : Type} : Left H := { results := [], args := [] }

/-- 'tollgatelaw9.AutoUps': WHATEVER THE INPUT: true; the input reads as it did. -/
def autoUpsSpec : ChangeSpec := { name := "autoUps", fn := fun _ => fun
  | [d] => { results := [.lit (.bool true)], args := [d] }
  | _ => none }
def autoUpsRow : OpenClaim := { program := "ytcgneokcpffjaaa", sum := "afd09bafbf75a5f11242b3f18d749d06e5376b02b27e6a05fc03ffd69ac839d8", func := "tollgate/tollgatelaw9.AutoUps", spec := "autoUps", unfollowed := true, recurses := true, plainKeys := false, apart := false }
def AutoUpsSaid : Prop := autoUpsRow.holds Try.pinned (OpenSpec.ofChange autoUpsSpec)

/-- ITS FALSE NEIGHBOUR: 'it returns false'. Refute it at one input. -/
def autoUpsWrong : ChangeSpec := { name := "autoUps", fn := fun _ => fun
  | [d] => { results := [.lit (.bool false)], args := [d] }
  | _ => none }
def AutoUpsWrongFalsely : Prop := autoUpsRow.holds Try.pinned (OpenSpec.ofChange autoUpsWrong)

/-- 'tollgatelaw9.AutoWhole': WHATEVER THE INPUT: true; the input reads as it did. -/
def autoWholeSpec : ChangeSpec := { name := "autoWhole", fn := fun _ => fun
  | [d1, d2] => { results := [.lit (.bool true)], args := [d1, d2] }
  | _ => none }
def autoWholeRow : OpenClaim := { program := "ytcgneokcpffjaaa", sum := "afd09bafbf75a5f11242b3f18d749d06e5376b02b27e6a05fc03ffd69ac839d8", func := "tollgate/tollgatelaw9.AutoWhole", spec := "autoWhole", unfollowed := true, recurses := true, plainKeys := false, apart := false }
def AutoWholeSaid : Prop := autoWholeRow.holds Try.pinned (OpenSpec.ofChange autoWholeSpec)

/-- ITS FALSE NEIGHBOUR: 'it returns false'. Refute it at one input. -/
def autoWholeWrong : ChangeSpec := { name := "autoWhole", fn := fun _ => fun
  | [d1, d2] => { results := [.lit (.bool false)], args := [d1, d2] }
  | _ => none }
def AutoWholeWrongFalsely : Prop := autoWholeRow.holds Try.pinned (OpenSpec.ofChange autoWholeWrong)

/-- 'tollgatelaw9.AutoDown': WHATEVER THE INPUT: true; the input reads as it did. -/
def autoDownSpec : ChangeSpec := { name := "autoDown", fn := fun _ => fun
  | [d1, d2] => { results := [.lit (.bool true)], args := [d1, d2] }
  | _ => none }
def autoDownRow : OpenClaim := { program := "ytcgneokcpffjaaa", sum := "afd09bafbf75a5f11242b3f18d749d06e5376b02b27e6a05fc03ffd69ac839d8", func := "tollgate/tollgatelaw9.AutoDown", spec := "autoDown", unfollowed := true, recurses := true, plainKeys := false, apart := false }
def AutoDownSaid : Prop := autoDownRow.holds Try.pinned (OpenSpec.ofChange autoDownSpec)

/-- ITS FALSE NEIGHBOUR: 'it returns false'. Refute it at one input. -/
def autoDownWrong : ChangeSpec := { name := "autoDown", fn := fun _ => fun
  | [d1, d2] => { results := [.lit (.bool false)], args := [d1, d2] }
  | _ => none }
def AutoDownWrongFalsely : Prop := autoDownRow.holds Try.pinned (OpenSpec.ofChange autoDownWrong)

/-- 'tollgatelaw9.AutoEnds': WHATEVER THE INPUT: true; the input reads as it did. -/
def autoEndsSpec : ChangeSpec := { name := "autoEnds", fn := fun _ => fun
  | [d1, d2, d3] => { results := [.lit (.bool true)], args := [d1, d2, d3] }
  | _ => none }
def autoEndsRow : OpenClaim := { program := "ytcgneokcpffjaaa", sum := "afd09bafbf75a5f11242b3f18d749d06e5376b02b27e6a05fc03ffd69ac839d8", func := "tollgate/tollgatelaw9.AutoEnds", spec := "autoEnds", unfollowed := true, recurses := true, plainKeys := false, apart := false }
def AutoEndsSaid : Prop := autoEndsRow.holds Try.pinned (OpenSpec.ofChange autoEndsSpec)

/-- ITS FALSE NEIGHBOUR: 'it returns false'. Refute it at one input. -/
def autoEndsWrong : ChangeSpec := { name := "autoEnds", fn := fun _ => fun
  | [d1, d2, d3] => { results := [.lit (.bool false)], args := [d1, d2, d3] }
  | _ => none }
def AutoEndsWrongFalsely : Prop := autoEndsRow.holds Try.pinned (OpenSpec.ofChange autoEndsWrong)

/-- 'tollgatelaw9.AutoNone': WHATEVER THE INPUT: true; the input reads as it did. -/
def autoNoneSpec : ChangeSpec := { name := "autoNone", fn := fun _ => fun
  | [d] => { results := [.lit (.bool true)], args := [d] }
  | _ => none }
def autoNoneRow : OpenClaim := { program := "ytcgneokcpffjaaa", sum := "afd09bafbf75a5f11242b3f18d749d06e5376b02b27e6a05fc03ffd69ac839d8", func := "tollgate/tollgatelaw9.AutoNone", spec := "autoNone", unfollowed := true, recurses := true, plainKeys := false, apart := false }
def AutoNoneSaid : Prop := autoNoneRow.holds Try.pinned (OpenSpec.ofChange autoNoneSpec)

/-- ITS FALSE NEIGHBOUR: 'it returns false'. Refute it at one input. -/
def autoNoneWrong : ChangeSpec := { name := "autoNone", fn := fun _ => fun
  | [d] => { results := [.lit (.bool false)], args := [d] }
  | _ => none }
def AutoNoneWrongFalsely : Prop := autoNoneRow.holds Try.pinned (OpenSpec.ofChange autoNoneWrong)

/-- 'tollgatelaw9.AutoMeets': WHATEVER THE INPUT: true; the input reads as it did. -/
def autoMeetsSpec : ChangeSpec := { name := "autoMeets", fn := fun _ => fun
  | [d] => { results := [.lit (.bool true)], args := [d] }
  | _ => none }
def autoMeetsRow : OpenClaim := { program := "ytcgneokcpffjaaa", sum := "afd09bafbf75a5f11242b3f18d749d06e5376b02b27e6a05fc03ffd69ac839d8", func := "tollgate/tollgatelaw9.AutoMeets", spec := "autoMeets", unfollowed := true, recurses := true, plainKeys := false, apart := false }
def AutoMeetsSaid : Prop := autoMeetsRow.holds Try.pinned (OpenSpec.ofChange autoMeetsSpec)

/-- ITS FALSE NEIGHBOUR: 'it returns false'. Refute it at one input. -/
def autoMeetsWrong : ChangeSpec := { name := "autoMeets", fn := fun _ => fun
  | [d] => { results := [.lit (.bool false)], args := [d] }
  | _ => none }
def AutoMeetsWrongFalsely : Prop := autoMeetsRow.holds Try.pinned (OpenSpec.ofChange autoMeetsWrong)

/- THE SECOND FORM. 'bulk': how many values and letters a reading holds, each counted each time it is reached (what is shared counts as often as it is met; a slice's spare places count too). A statement '..UptoSaid' is the law's where the arguments, and the package variables that the reading takes, are together of bulk at most 1048576: NARROWER than '..Said'. Prove '..Said' where nothing that the law and all that it calls make is longer than what came in: it says more and counts as full. Else prove '..UptoSaid'. A law counts once. -/
mutual
def uptoBulk {H : Type} : DataW H → Nat
  | .lit (.string bytes) => bytes.length + 1
  | .lit _ => 1
  | .nil => 1
  | .ptr d => uptoBulk d + 1
  | .slice elems spare => uptoBulkAll elems + uptoBulkAll spare + 1
  | .agg parts => uptoBulkAll parts + 1
  | .iface _ d => uptoBulk d + 1
  | .map entries => uptoBulkEntries entries + 1
  | .held _ => 1
def uptoBulkAll {H : Type} : List (DataW H) → Nat
  | [] => 0
  | d :: r => uptoBulk d + uptoBulkAll r
def uptoBulkEntries {H : Type} : List (Lit × DataW H) → Nat
  | [] => 0
  | x :: r => uptoBulkEntry x + uptoBulkEntries r
def uptoBulkEntry {H : Type} : Lit × DataW H → Nat
  | (.string bytes, d) => bytes.length + uptoBulk d + 1
  | (_, d) => uptoBulk d + 1
 end
def uptoSmall : (H : Type) → List (DataW H) → Bool := fun _ ds => decide (uptoBulkAll ds ≤ 1048576)
def OpenSpec.upto (s : _root_.Go.ChangeSpec) : _root_.Go.OpenSpec := { _root_.Go.OpenSpec.ofChange s with cond := some uptoSmall }

/-- 'tollgatelaw9.AutoUps', WHERE WHAT IT READS IS OF BULK AT MOST 1048576: true; the input reads as it did. -/
def autoUpsUptoRow : OpenClaim := { program := "ytcgneokcpffjaaa", sum := "afd09bafbf75a5f11242b3f18d749d06e5376b02b27e6a05fc03ffd69ac839d8", func := "tollgate/tollgatelaw9.AutoUps", spec := "autoUps", unfollowed := true, recurses := true, plainKeys := false, apart := false, narrowed := true }
def AutoUpsUptoSaid : Prop := autoUpsUptoRow.holds Try.pinned (OpenSpec.upto autoUpsSpec)

/-- 'tollgatelaw9.AutoWhole', WHERE WHAT IT READS IS OF BULK AT MOST 1048576: true; the input reads as it did. -/
def autoWholeUptoRow : OpenClaim := { program := "ytcgneokcpffjaaa", sum := "afd09bafbf75a5f11242b3f18d749d06e5376b02b27e6a05fc03ffd69ac839d8", func := "tollgate/tollgatelaw9.AutoWhole", spec := "autoWhole", unfollowed := true, recurses := true, plainKeys := false, apart := false, narrowed := true }
def AutoWholeUptoSaid : Prop := autoWholeUptoRow.holds Try.pinned (OpenSpec.upto autoWholeSpec)

/-- 'tollgatelaw9.AutoDown', WHERE WHAT IT READS IS OF BULK AT MOST 1048576: true; the input reads as it did. -/
def autoDownUptoRow : OpenClaim := { program := "ytcgneokcpffjaaa", sum := "afd09bafbf75a5f11242b3f18d749d06e5376b02b27e6a05fc03ffd69ac839d8", func := "tollgate/tollgatelaw9.AutoDown", spec := "autoDown", unfollowed := true, recurses := true, plainKeys := false, apart := false, narrowed := true }
def AutoDownUptoSaid : Prop := autoDownUptoRow.holds Try.pinned (OpenSpec.upto autoDownSpec)

/-- 'tollgatelaw9.AutoEnds', WHERE WHAT IT READS IS OF BULK AT MOST 1048576: true; the input reads as it did. -/
def autoEndsUptoRow : OpenClaim := { program := "ytcgneokcpffjaaa", sum := "afd09bafbf75a5f11242b3f18d749d06e5376b02b27e6a05fc03ffd69ac839d8", func := "tollgate/tollgatelaw9.AutoEnds", spec := "autoEnds", unfollowed := true, recurses := true, plainKeys := false, apart := false, narrowed := true }
def AutoEndsUptoSaid : Prop := autoEndsUptoRow.holds Try.pinned (OpenSpec.upto autoEndsSpec)

/-- 'tollgatelaw9.AutoNone', WHERE WHAT IT READS IS OF BULK AT MOST 1048576: true; the input reads as it did. -/
def autoNoneUptoRow : OpenClaim := { program := "ytcgneokcpffjaaa", sum := "afd09bafbf75a5f11242b3f18d749d06e5376b02b27e6a05fc03ffd69ac839d8", func := "tollgate/tollgatelaw9.AutoNone", spec := "autoNone", unfollowed := true, recurses := true, plainKeys := false, apart := false, narrowed := true }
def AutoNoneUptoSaid : Prop := autoNoneUptoRow.holds Try.pinned (OpenSpec.upto autoNoneSpec)

/-- 'tollgatelaw9.AutoMeets', WHERE WHAT IT READS IS OF BULK AT MOST 1048576: true; the input reads as it did. -/
def autoMeetsUptoRow : OpenClaim := { program := "ytcgneokcpffjaaa", sum := "afd09bafbf75a5f11242b3f18d749d06e5376b02b27e6a05fc03ffd69ac839d8", func := "tollgate/tollgatelaw9.AutoMeets", spec := "autoMeets", unfollowed := true, recurses := true, plainKeys := false, apart := false, narrowed := true }
def AutoMeetsUptoSaid : Prop := autoMeetsUptoRow.holds Try.pinned (OpenSpec.upto autoMeetsSpec)

end Rows
end Go.Proofs.Ytcgneokcpffjaaa
