/-
  No cell of these rows narrows 'for every input' (looked for: loops, veiled, ifaces, maps, wideKeys, modest, calm, conditions, laid).
  DERIVED. THE GIVEN ROWS OF THIS SEAT. 7 by the template 'for every input the law returns true; each argument reads behind the call as it read before'; 0 by the template 'total and deterministic' (their statements: YthhdackaopaojaaGreatTotals.lean).
  GIVEN WITH THE SEED: the statements are not yours to turn. If you find one false, say at which input.
  Laid BY PROGRAM, IN A SANDBOX (cutbox-rows.mjs): the forced cells as the released guide's own fill.sh prints them over the translation a78f583dce640494… (all of the seat's roots in one cut). By AI agents, Wed Nov 11 2026. No macro, syntax, notation, axiom, sorry.
-/
import Derived.Test.YthhdackaopaojaaGreatChecked
import GoSem.Claim
import GoSem.ClaimJoined
import GoSem.ClaimMapViews
import Derived.JoinedTies
import Derived.KernelRfl
namespace Go.Proofs.YthhdackaopaojaaGreat
/- THE CELL 'sum', in the pinned program and in every row, IS THE sha256 OF THE DUMP (.gsa) THAT YthhdackaopaojaaGreatProg.lean LOADS. Nothing in Lean hashes anything: it is a label: what it is worth is what the hold of that sum in a sandbox is worth. -/
noncomputable def Tryz.pinned : Pinned := { name := "ythhdackaopaojaagreat", sum := "a78f583dce6404945ccdfef2bab57e5ebe61494dff157a2dd5fef7aa3eb57027", checked := Tryz.checked }
namespace Rows
def none {H : Type} : Left H := { results := [], args := [] }

/-- 'tollgatelaw12.LcpLoops': WHATEVER THE INPUT: true; the input reads as it did. -/
def lcpLoopsSpec : ChangeSpec := { name := "lcpLoops", fn := fun _ => fun
  | [d1, d2, d3] => { results := [.lit (.bool true)], args := [d1, d2, d3] }
  | _ => none }
def lcpLoopsRow : OpenClaim := { program := "ythhdackaopaojaagreat", sum := "a78f583dce6404945ccdfef2bab57e5ebe61494dff157a2dd5fef7aa3eb57027", func := "tollgate/tollgatelaw12.LcpLoops", spec := "lcpLoops", unfollowed := true, recurses := true, plainKeys := false, apart := false }
def LcpLoopsSaid : Prop := lcpLoopsRow.holds Tryz.pinned (OpenSpec.ofChange lcpLoopsSpec)

/-- ITS FALSE NEIGHBOUR: 'it returns false'. Refute it at one input. -/
def lcpLoopsWrong : ChangeSpec := { name := "lcpLoops", fn := fun _ => fun
  | [d1, d2, d3] => { results := [.lit (.bool false)], args := [d1, d2, d3] }
  | _ => none }
def LcpLoopsWrongFalsely : Prop := lcpLoopsRow.holds Tryz.pinned (OpenSpec.ofChange lcpLoopsWrong)

/-- 'tollgatelaw12.LcpAsks': WHATEVER THE INPUT: true; the input reads as it did. -/
def lcpAsksSpec : ChangeSpec := { name := "lcpAsks", fn := fun _ => fun
  | [d] => { results := [.lit (.bool true)], args := [d] }
  | _ => none }
def lcpAsksRow : OpenClaim := { program := "ythhdackaopaojaagreat", sum := "a78f583dce6404945ccdfef2bab57e5ebe61494dff157a2dd5fef7aa3eb57027", func := "tollgate/tollgatelaw12.LcpAsks", spec := "lcpAsks", unfollowed := true, recurses := true, plainKeys := false, apart := false }
def LcpAsksSaid : Prop := lcpAsksRow.holds Tryz.pinned (OpenSpec.ofChange lcpAsksSpec)

/-- ITS FALSE NEIGHBOUR: 'it returns false'. Refute it at one input. -/
def lcpAsksWrong : ChangeSpec := { name := "lcpAsks", fn := fun _ => fun
  | [d] => { results := [.lit (.bool false)], args := [d] }
  | _ => none }
def LcpAsksWrongFalsely : Prop := lcpAsksRow.holds Tryz.pinned (OpenSpec.ofChange lcpAsksWrong)

/-- 'tollgatelaw12.LcpAnswers': WHATEVER THE INPUT: true; the input reads as it did. -/
def lcpAnswersSpec : ChangeSpec := { name := "lcpAnswers", fn := fun _ => fun
  | [d1, d2] => { results := [.lit (.bool true)], args := [d1, d2] }
  | _ => none }
def lcpAnswersRow : OpenClaim := { program := "ythhdackaopaojaagreat", sum := "a78f583dce6404945ccdfef2bab57e5ebe61494dff157a2dd5fef7aa3eb57027", func := "tollgate/tollgatelaw12.LcpAnswers", spec := "lcpAnswers", unfollowed := true, recurses := true, plainKeys := false, apart := false }
def LcpAnswersSaid : Prop := lcpAnswersRow.holds Tryz.pinned (OpenSpec.ofChange lcpAnswersSpec)

/-- ITS FALSE NEIGHBOUR: 'it returns false'. Refute it at one input. -/
def lcpAnswersWrong : ChangeSpec := { name := "lcpAnswers", fn := fun _ => fun
  | [d1, d2] => { results := [.lit (.bool false)], args := [d1, d2] }
  | _ => none }
def LcpAnswersWrongFalsely : Prop := lcpAnswersRow.holds Tryz.pinned (OpenSpec.ofChange lcpAnswersWrong)

/-- 'tollgatelaw12.LcpRejects': WHATEVER THE INPUT: true; the input reads as it did. -/
def lcpRejectsSpec : ChangeSpec := { name := "lcpRejects", fn := fun _ => fun
  | [d1, d2] => { results := [.lit (.bool true)], args := [d1, d2] }
  | _ => none }
def lcpRejectsRow : OpenClaim := { program := "ythhdackaopaojaagreat", sum := "a78f583dce6404945ccdfef2bab57e5ebe61494dff157a2dd5fef7aa3eb57027", func := "tollgate/tollgatelaw12.LcpRejects", spec := "lcpRejects", unfollowed := true, recurses := true, plainKeys := false, apart := false }
def LcpRejectsSaid : Prop := lcpRejectsRow.holds Tryz.pinned (OpenSpec.ofChange lcpRejectsSpec)

/-- ITS FALSE NEIGHBOUR: 'it returns false'. Refute it at one input. -/
def lcpRejectsWrong : ChangeSpec := { name := "lcpRejects", fn := fun _ => fun
  | [d1, d2] => { results := [.lit (.bool false)], args := [d1, d2] }
  | _ => none }
def LcpRejectsWrongFalsely : Prop := lcpRejectsRow.holds Tryz.pinned (OpenSpec.ofChange lcpRejectsWrong)

/-- 'tollgatelaw12.LcpMeets': WHATEVER THE INPUT: true; the input reads as it did. -/
def lcpMeetsSpec : ChangeSpec := { name := "lcpMeets", fn := fun _ => fun
  | [d1, d2, d3] => { results := [.lit (.bool true)], args := [d1, d2, d3] }
  | _ => none }
def lcpMeetsRow : OpenClaim := { program := "ythhdackaopaojaagreat", sum := "a78f583dce6404945ccdfef2bab57e5ebe61494dff157a2dd5fef7aa3eb57027", func := "tollgate/tollgatelaw12.LcpMeets", spec := "lcpMeets", unfollowed := true, recurses := true, plainKeys := false, apart := false }
def LcpMeetsSaid : Prop := lcpMeetsRow.holds Tryz.pinned (OpenSpec.ofChange lcpMeetsSpec)

/-- ITS FALSE NEIGHBOUR: 'it returns false'. Refute it at one input. -/
def lcpMeetsWrong : ChangeSpec := { name := "lcpMeets", fn := fun _ => fun
  | [d1, d2, d3] => { results := [.lit (.bool false)], args := [d1, d2, d3] }
  | _ => none }
def LcpMeetsWrongFalsely : Prop := lcpMeetsRow.holds Tryz.pinned (OpenSpec.ofChange lcpMeetsWrong)

/-- 'tollgatelaw12.LcpEchoes': WHATEVER THE INPUT: true; the input reads as it did. -/
def lcpEchoesSpec : ChangeSpec := { name := "lcpEchoes", fn := fun _ => fun
  | [d1, d2] => { results := [.lit (.bool true)], args := [d1, d2] }
  | _ => none }
def lcpEchoesRow : OpenClaim := { program := "ythhdackaopaojaagreat", sum := "a78f583dce6404945ccdfef2bab57e5ebe61494dff157a2dd5fef7aa3eb57027", func := "tollgate/tollgatelaw12.LcpEchoes", spec := "lcpEchoes", unfollowed := true, recurses := true, plainKeys := false, apart := false }
def LcpEchoesSaid : Prop := lcpEchoesRow.holds Tryz.pinned (OpenSpec.ofChange lcpEchoesSpec)

/-- ITS FALSE NEIGHBOUR: 'it returns false'. Refute it at one input. -/
def lcpEchoesWrong : ChangeSpec := { name := "lcpEchoes", fn := fun _ => fun
  | [d1, d2] => { results := [.lit (.bool false)], args := [d1, d2] }
  | _ => none }
def LcpEchoesWrongFalsely : Prop := lcpEchoesRow.holds Tryz.pinned (OpenSpec.ofChange lcpEchoesWrong)

/-- 'tollgatelaw12.LcpNone': WHATEVER THE INPUT: true; the input reads as it did. -/
def lcpNoneSpec : ChangeSpec := { name := "lcpNone", fn := fun _ => fun
  | [d1, d2] => { results := [.lit (.bool true)], args := [d1, d2] }
  | _ => none }
def lcpNoneRow : OpenClaim := { program := "ythhdackaopaojaagreat", sum := "a78f583dce6404945ccdfef2bab57e5ebe61494dff157a2dd5fef7aa3eb57027", func := "tollgate/tollgatelaw12.LcpNone", spec := "lcpNone", unfollowed := true, recurses := true, plainKeys := false, apart := false }
def LcpNoneSaid : Prop := lcpNoneRow.holds Tryz.pinned (OpenSpec.ofChange lcpNoneSpec)

/-- ITS FALSE NEIGHBOUR: 'it returns false'. Refute it at one input. -/
def lcpNoneWrong : ChangeSpec := { name := "lcpNone", fn := fun _ => fun
  | [d1, d2] => { results := [.lit (.bool false)], args := [d1, d2] }
  | _ => none }
def LcpNoneWrongFalsely : Prop := lcpNoneRow.holds Tryz.pinned (OpenSpec.ofChange lcpNoneWrong)

/- THE SECOND FORM. 'bulk': how many values and letters a reading holds, each counted each time it is reached (what is shared counts as often as it is met; a slice's spare places count too). A statement '..UptoSaid' is the law's where the arguments, and the package variables that the reading takes, are together of bulk at most 1048576: NARROWER than '..Said'. Prove '..Said' where nothing that the law and all that it calls make is longer than what came in: it says more and counts as full. Else prove '..UptoSaid'. A law counts once. -/
mutual
def uptoBulk {H : Type} : DataW H → Nat
  | .lit (.string bytes) => bytes.length + 1
  | .lit _ => 1
  | .nil => 1
  | .ptr d => uptoBulk d + 1
  | .slice elems spare => uptoBulkAll elems + uptoBulkAll spare + 1
  | .agg parts => uptoBulkAll parts + 1
  | .iface _ d => uptoBulk d + 1
  | .map entries => uptoBulkEntries entries + 1
  | .held _ => 1
def uptoBulkAll {H : Type} : List (DataW H) → Nat
  | [] => 0
  | d :: r => uptoBulk d + uptoBulkAll r
def uptoBulkEntries {H : Type} : List (Lit × DataW H) → Nat
  | [] => 0
  | x :: r => uptoBulkEntry x + uptoBulkEntries r
def uptoBulkEntry {H : Type} : Lit × DataW H → Nat
  | (.string bytes, d) => bytes.length + uptoBulk d + 1
  | (_, d) => uptoBulk d + 1
 end
def uptoSmall : (H : Type) → List (DataW H) → Bool := fun _ ds => decide (uptoBulkAll ds ≤ 1048576)
def OpenSpec.upto (s : _root_.Go.ChangeSpec) : _root_.Go.OpenSpec := { _root_.Go.OpenSpec.ofChange s with cond := some uptoSmall }

/-- 'tollgatelaw12.LcpLoops', WHERE WHAT IT READS IS OF BULK AT MOST 1048576: true; the input reads as it did. -/
def lcpLoopsUptoRow : OpenClaim := { program := "ythhdackaopaojaagreat", sum := "a78f583dce6404945ccdfef2bab57e5ebe61494dff157a2dd5fef7aa3eb57027", func := "tollgate/tollgatelaw12.LcpLoops", spec := "lcpLoops", unfollowed := true, recurses := true, plainKeys := false, apart := false, narrowed := true }
def LcpLoopsUptoSaid : Prop := lcpLoopsUptoRow.holds Tryz.pinned (OpenSpec.upto lcpLoopsSpec)

/-- 'tollgatelaw12.LcpAsks', WHERE WHAT IT READS IS OF BULK AT MOST 1048576: true; the input reads as it did. -/
def lcpAsksUptoRow : OpenClaim := { program := "ythhdackaopaojaagreat", sum := "a78f583dce6404945ccdfef2bab57e5ebe61494dff157a2dd5fef7aa3eb57027", func := "tollgate/tollgatelaw12.LcpAsks", spec := "lcpAsks", unfollowed := true, recurses := true, plainKeys := false, apart := false, narrowed := true }
def LcpAsksUptoSaid : Prop := lcpAsksUptoRow.holds Tryz.pinned (OpenSpec.upto lcpAsksSpec)

/-- 'tollgatelaw12.LcpAnswers', WHERE WHAT IT READS IS OF BULK AT MOST 1048576: true; the input reads as it did. -/
def lcpAnswersUptoRow : OpenClaim := { program := "ythhdackaopaojaagreat", sum := "a78f583dce6404945ccdfef2bab57e5ebe61494dff157a2dd5fef7aa3eb57027", func := "tollgate/tollgatelaw12.LcpAnswers", spec := "lcpAnswers", unfollowed := true, recurses := true, plainKeys := false, apart := false, narrowed := true }
def LcpAnswersUptoSaid : Prop := lcpAnswersUptoRow.holds Tryz.pinned (OpenSpec.upto lcpAnswersSpec)

/-- 'tollgatelaw12.LcpRejects', WHERE WHAT IT READS IS OF BULK AT MOST 1048576: true; the input reads as it did. -/
def lcpRejectsUptoRow : OpenClaim := { program := "ythhdackaopaojaagreat", sum := "a78f583dce6404945ccdfef2bab57e5ebe61494dff157a2dd5fef7aa3eb57027", func := "tollgate/tollgatelaw12.LcpRejects", spec := "lcpRejects", unfollowed := true, recurses := true, plainKeys := false, apart := false, narrowed := true }
def LcpRejectsUptoSaid : Prop := lcpRejectsUptoRow.holds Tryz.pinned (OpenSpec.upto lcpRejectsSpec)

/-- 'tollgatelaw12.LcpMeets', WHERE WHAT IT READS IS OF BULK AT MOST 1048576: true; the input reads as it did. -/
def lcpMeetsUptoRow : OpenClaim := { program := "ythhdackaopaojaagreat", sum := "a78f583dce6404945ccdfef2bab57e5ebe61494dff157a2dd5fef7aa3eb57027", func := "tollgate/tollgatelaw12.LcpMeets", spec := "lcpMeets", unfollowed := true, recurses := true, plainKeys := false, apart := false, narrowed := true }
def LcpMeetsUptoSaid : Prop := lcpMeetsUptoRow.holds Tryz.pinned (OpenSpec.upto lcpMeetsSpec)

/-- 'tollgatelaw12.LcpEchoes', WHERE WHAT IT READS IS OF BULK AT MOST 1048576: true; the input reads as it did. -/
def lcpEchoesUptoRow : OpenClaim := { program := "ythhdackaopaojaagreat", sum := "a78f583dce6404945ccdfef2bab57e5ebe61494dff157a2dd5fef7aa3eb57027", func := "tollgate/tollgatelaw12.LcpEchoes", spec := "lcpEchoes", unfollowed := true, recurses := true, plainKeys := false, apart := false, narrowed := true }
def LcpEchoesUptoSaid : Prop := lcpEchoesUptoRow.holds Tryz.pinned (OpenSpec.upto lcpEchoesSpec)

/-- 'tollgatelaw12.LcpNone', WHERE WHAT IT READS IS OF BULK AT MOST 1048576: true; the input reads as it did. -/
def lcpNoneUptoRow : OpenClaim := { program := "ythhdackaopaojaagreat", sum := "a78f583dce6404945ccdfef2bab57e5ebe61494dff157a2dd5fef7aa3eb57027", func := "tollgate/tollgatelaw12.LcpNone", spec := "lcpNone", unfollowed := true, recurses := true, plainKeys := false, apart := false, narrowed := true }
def LcpNoneUptoSaid : Prop := lcpNoneUptoRow.holds Tryz.pinned (OpenSpec.upto lcpNoneSpec)

end Rows
end Go.Proofs.YthhdackaopaojaaGreat
