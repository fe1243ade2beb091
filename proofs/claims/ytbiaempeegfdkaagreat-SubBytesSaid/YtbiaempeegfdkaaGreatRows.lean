/-
  No cell of these rows narrows 'for every input' (looked for: loops, veiled, ifaces, maps, wideKeys, modest, calm, conditions, laid).
  DERIVED. THE GIVEN ROWS OF THIS SEAT. 3 by the template 'for every input the law returns true; each argument reads behind the call as it read before'; 0 by the template 'total and deterministic' (their statements: YtbiaempeegfdkaaGreatTotals.lean).
  GIVEN WITH THE SEED: the statements are not yours to turn. If you find one false, say at which input.
  Laid BY PROGRAM, IN A SANDBOX (cutbox-rows.mjs): the forced cells as the released guide's own fill.sh prints them over the translation 357031df1965c884… (all of the seat's roots in one cut). By AI agents, Wed Nov 11 2026. No macro, syntax, notation, axiom, sorry.
-/
import Derived.Test.YtbiaempeegfdkaaGreatChecked
import GoSem.Claim
import GoSem.ClaimJoined
import GoSem.ClaimMapViews
import Derived.JoinedTies
import Derived.KernelRfl
namespace Go.Proofs.YtbiaempeegfdkaaGreat
/- THE CELL 'sum', in the pinned program and in every row, IS THE sha256 OF THE DUMP (.gsa) THAT YtbiaempeegfdkaaGreatProg.lean LOADS. Nothing in Lean hashes anything: it is a label: what it is worth is what the hold of that sum in a sandbox is worth. -/
noncomputable def Tryz.pinned : Pinned := { name := "ytbiaempeegfdkaagreat", sum := "357031df1965c884ad4242e528e82c4de37d681c3d65cc32423e68c8359cdd79", checked := Tryz.checked }
namespace Rows
def none {H : Type} : Left H := { results := [], args := [] }

/-- 'tollgatelaw25.SubNone': WHATEVER THE INPUT: true; the input reads as it did. -/
def subNoneSpec : ChangeSpec := { name := "subNone", fn := fun _ => fun
  | [d1, d2] => { results := [.lit (.bool true)], args := [d1, d2] }
  | _ => none }
def subNoneRow : OpenClaim := { program := "ytbiaempeegfdkaagreat", sum := "357031df1965c884ad4242e528e82c4de37d681c3d65cc32423e68c8359cdd79", func := "tollgate/tollgatelaw25.SubNone", spec := "subNone", unfollowed := true, recurses := true, plainKeys := false, apart := false }
def SubNoneSaid : Prop := subNoneRow.holds Tryz.pinned (OpenSpec.ofChange subNoneSpec)

/-- ITS FALSE NEIGHBOUR: 'it returns false'. Refute it at one input. -/
def subNoneWrong : ChangeSpec := { name := "subNone", fn := fun _ => fun
  | [d1, d2] => { results := [.lit (.bool false)], args := [d1, d2] }
  | _ => none }
def SubNoneWrongFalsely : Prop := subNoneRow.holds Tryz.pinned (OpenSpec.ofChange subNoneWrong)

/-- 'tollgatelaw25.SubQuiet': WHATEVER THE INPUT: true; the input reads as it did. -/
def subQuietSpec : ChangeSpec := { name := "subQuiet", fn := fun _ => fun
  | [d1, d2] => { results := [.lit (.bool true)], args := [d1, d2] }
  | _ => none }
def subQuietRow : OpenClaim := { program := "ytbiaempeegfdkaagreat", sum := "357031df1965c884ad4242e528e82c4de37d681c3d65cc32423e68c8359cdd79", func := "tollgate/tollgatelaw25.SubQuiet", spec := "subQuiet", unfollowed := true, recurses := true, plainKeys := false, apart := false }
def SubQuietSaid : Prop := subQuietRow.holds Tryz.pinned (OpenSpec.ofChange subQuietSpec)

/-- ITS FALSE NEIGHBOUR: 'it returns false'. Refute it at one input. -/
def subQuietWrong : ChangeSpec := { name := "subQuiet", fn := fun _ => fun
  | [d1, d2] => { results := [.lit (.bool false)], args := [d1, d2] }
  | _ => none }
def SubQuietWrongFalsely : Prop := subQuietRow.holds Tryz.pinned (OpenSpec.ofChange subQuietWrong)

/-- 'tollgatelaw25.SubBytes': WHATEVER THE INPUT: true; the input reads as it did. -/
def subBytesSpec : ChangeSpec := { name := "subBytes", fn := fun _ => fun
  | [d] => { results := [.lit (.bool true)], args := [d] }
  | _ => none }
def subBytesRow : OpenClaim := { program := "ytbiaempeegfdkaagreat", sum := "357031df1965c884ad4242e528e82c4de37d681c3d65cc32423e68c8359cdd79", func := "tollgate/tollgatelaw25.SubBytes", spec := "subBytes", unfollowed := true, recurses := true, plainKeys := false, apart := false }
def SubBytesSaid : Prop := subBytesRow.holds Tryz.pinned (OpenSpec.ofChange subBytesSpec)

/-- ITS FALSE NEIGHBOUR: 'it returns false'. Refute it at one input. -/
def subBytesWrong : ChangeSpec := { name := "subBytes", fn := fun _ => fun
  | [d] => { results := [.lit (.bool false)], args := [d] }
  | _ => none }
def SubBytesWrongFalsely : Prop := subBytesRow.holds Tryz.pinned (OpenSpec.ofChange subBytesWrong)

/- THE SECOND FORM. 'bulk': how many values and letters a reading holds, each counted each time it is reached (what is shared counts as often as it is met; a slice's spare places count too). A statement '..UptoSaid' is the law's where the arguments, and the package variables that the reading takes, are together of bulk at most 1048576: NARROWER than '..Said'. Prove '..Said' where nothing that the law and all that it calls make is longer than what came in: it says more and counts as full. Else prove '..UptoSaid'. A law counts once. -/
mutual
def uptoBulk {H : Type} : DataW H → Nat
  | .lit (.string bytes) => bytes.length + 1
  | .lit _ => 1
  | .nil => 1
  | .ptr d => uptoBulk d + 1
  | .slice elems spare => uptoBulkAll elems + uptoBulkAll spare + 1
  | .agg parts => uptoBulkAll parts + 1
  | .iface _ d => uptoBulk d + 1
  | .map entries => uptoBulkEntries entries + 1
  | .held _ => 1
def uptoBulkAll {H : Type} : List (DataW H) → Nat
  | [] => 0
  | d :: r => uptoBulk d + uptoBulkAll r
def uptoBulkEntries {H : Type} : List (Lit × DataW H) → Nat
  | [] => 0
  | x :: r => uptoBulkEntry x + uptoBulkEntries r
def uptoBulkEntry {H : Type} : Lit × DataW H → Nat
  | (.string bytes, d) => bytes.length + uptoBulk d + 1
  | (_, d) => uptoBulk d + 1
 end
def uptoSmall : (H : Type) → List (DataW H) → Bool := fun _ ds => decide (uptoBulkAll ds ≤ 1048576)
def OpenSpec.upto (s : _root_.Go.ChangeSpec) : _root_.Go.OpenSpec := { _root_.Go.OpenSpec.ofChange s with cond := some uptoSmall }

/-- 'tollgatelaw25.SubNone', WHERE WHAT IT READS IS OF BULK AT MOST 1048576: true; the input reads as it did. -/
def subNoneUptoRow : OpenClaim := { program := "ytbiaempeegfdkaagreat", sum := "357031df1965c884ad4242e528e82c4de37d681c3d65cc32423e68c8359cdd79", func := "tollgate/tollgatelaw25.SubNone", spec := "subNone", unfollowed := true, recurses := true, plainKeys := false, apart := false, narrowed := true }
def SubNoneUptoSaid : Prop := subNoneUptoRow.holds Tryz.pinned (OpenSpec.upto subNoneSpec)

/-- 'tollgatelaw25.SubQuiet', WHERE WHAT IT READS IS OF BULK AT MOST 1048576: true; the input reads as it did. -/
def subQuietUptoRow : OpenClaim := { program := "ytbiaempeegfdkaagreat", sum := "357031df1965c884ad4242e528e82c4de37d681c3d65cc32423e68c8359cdd79", func := "tollgate/tollgatelaw25.SubQuiet", spec := "subQuiet", unfollowed := true, recurses := true, plainKeys := false, apart := false, narrowed := true }
def SubQuietUptoSaid : Prop := subQuietUptoRow.holds Tryz.pinned (OpenSpec.upto subQuietSpec)

/-- 'tollgatelaw25.SubBytes', WHERE WHAT IT READS IS OF BULK AT MOST 1048576: true; the input reads as it did. -/
def subBytesUptoRow : OpenClaim := { program := "ytbiaempeegfdkaagreat", sum := "357031df1965c884ad4242e528e82c4de37d681c3d65cc32423e68c8359cdd79", func := "tollgate/tollgatelaw25.SubBytes", spec := "subBytes", unfollowed := true, recurses := true, plainKeys := false, apart := false, narrowed := true }
def SubBytesUptoSaid : Prop := subBytesUptoRow.holds Tryz.pinned (OpenSpec.upto subBytesSpec)

end Rows
end Go.Proofs.YtbiaempeegfdkaaGreat
