/-
  No cell of these rows narrows 'for every input' (looked for: loops, veiled, ifaces, maps, wideKeys, modest, calm, conditions, laid).
  DERIVED. THE GIVEN ROWS OF THIS SEAT. 5 by the template 'for every input the law returns true; each argument reads behind the call as it read before'; 0 by the template 'total and deterministic' (their statements: YtignponfoheaeaaGreatTotals.lean).
  GIVEN WITH THE SEED: the statements are not yours to turn. If you find one false, say at which input.
  Laid BY PROGRAM, IN A SANDBOX (cutbox-rows.mjs): the forced cells as the released guide's own fill.sh prints them over the translation a66166ef9d4dda26… (all of the seat's roots in one cut). By AI agents, Wed Nov 11 2026. No macro, syntax, notation, axiom, sorry.
-/
import Derived.Test.YtignponfoheaeaaGreatChecked
import GoSem.Claim
import GoSem.ClaimJoined
import GoSem.ClaimMapViews
import Derived.JoinedTies
import Derived.KernelRfl
namespace Go.Proofs.YtignponfoheaeaaGreat
/- THE CELL 'sum', in the pinned program and in every row, IS THE sha256 OF THE DUMP (.gsa) THAT YtignponfoheaeaaGreatProg.lean LOADS. Nothing in Lean hashes anything: it is a label: what it is worth is what the hold of that sum in a sandbox is worth. -/
noncomputable def Tryz.pinned : Pinned := { name := "ytignponfoheaeaagreat", sum := "a66166ef9d4dda26e63fe90a02aa579f0df3c425c3820edb59b51641d44cce75", checked := Tryz.checked }
namespace Rows
def none {H : Type} : Left H := { results := [], args := [] }

/-- 'tollgatelaw9.AutoNext': WHATEVER THE INPUT: true; the input reads as it did. -/
def autoNextSpec : ChangeSpec := { name := "autoNext", fn := fun _ => fun
  | [d1, d2] => { results := [.lit (.bool true)], args := [d1, d2] }
  | _ => none }
def autoNextRow : OpenClaim := { program := "ytignponfoheaeaagreat", sum := "a66166ef9d4dda26e63fe90a02aa579f0df3c425c3820edb59b51641d44cce75", func := "tollgate/tollgatelaw9.AutoNext", spec := "autoNext", unfollowed := true, recurses := true, plainKeys := false, apart := false }
def AutoNextSaid : Prop := autoNextRow.holds Tryz.pinned (OpenSpec.ofChange autoNextSpec)

/-- ITS FALSE NEIGHBOUR: 'it returns false'. Refute it at one input. -/
def autoNextWrong : ChangeSpec := { name := "autoNext", fn := fun _ => fun
  | [d1, d2] => { results := [.lit (.bool false)], args := [d1, d2] }
  | _ => none }
def AutoNextWrongFalsely : Prop := autoNextRow.holds Tryz.pinned (OpenSpec.ofChange autoNextWrong)

/-- 'tollgatelaw9.AutoPlays': WHATEVER THE INPUT: true; the input reads as it did. -/
def autoPlaysSpec : ChangeSpec := { name := "autoPlays", fn := fun _ => fun
  | [d1, d2, d3] => { results := [.lit (.bool true)], args := [d1, d2, d3] }
  | _ => none }
def autoPlaysRow : OpenClaim := { program := "ytignponfoheaeaagreat", sum := "a66166ef9d4dda26e63fe90a02aa579f0df3c425c3820edb59b51641d44cce75", func := "tollgate/tollgatelaw9.AutoPlays", spec := "autoPlays", unfollowed := true, recurses := true, plainKeys := false, apart := false }
def AutoPlaysSaid : Prop := autoPlaysRow.holds Tryz.pinned (OpenSpec.ofChange autoPlaysSpec)

/-- ITS FALSE NEIGHBOUR: 'it returns false'. Refute it at one input. -/
def autoPlaysWrong : ChangeSpec := { name := "autoPlays", fn := fun _ => fun
  | [d1, d2, d3] => { results := [.lit (.bool false)], args := [d1, d2, d3] }
  | _ => none }
def AutoPlaysWrongFalsely : Prop := autoPlaysRow.holds Tryz.pinned (OpenSpec.ofChange autoPlaysWrong)

/-- 'tollgatelaw11.NegJudges': WHATEVER THE INPUT: true; the input reads as it did. -/
def negJudgesSpec : ChangeSpec := { name := "negJudges", fn := fun _ => fun
  | [d1, d2, d3, d4] => { results := [.lit (.bool true)], args := [d1, d2, d3, d4] }
  | _ => none }
def negJudgesRow : OpenClaim := { program := "ytignponfoheaeaagreat", sum := "a66166ef9d4dda26e63fe90a02aa579f0df3c425c3820edb59b51641d44cce75", func := "tollgate/tollgatelaw11.NegJudges", spec := "negJudges", unfollowed := true, recurses := true, plainKeys := false, apart := false }
def NegJudgesSaid : Prop := negJudgesRow.holds Tryz.pinned (OpenSpec.ofChange negJudgesSpec)

/-- ITS FALSE NEIGHBOUR: 'it returns false'. Refute it at one input. -/
def negJudgesWrong : ChangeSpec := { name := "negJudges", fn := fun _ => fun
  | [d1, d2, d3, d4] => { results := [.lit (.bool false)], args := [d1, d2, d3, d4] }
  | _ => none }
def NegJudgesWrongFalsely : Prop := negJudgesRow.holds Tryz.pinned (OpenSpec.ofChange negJudgesWrong)

/-- 'tollgatelaw11.NegPlays': WHATEVER THE INPUT: true; the input reads as it did. -/
def negPlaysSpec : ChangeSpec := { name := "negPlays", fn := fun _ => fun
  | [d1, d2] => { results := [.lit (.bool true)], args := [d1, d2] }
  | _ => none }
def negPlaysRow : OpenClaim := { program := "ytignponfoheaeaagreat", sum := "a66166ef9d4dda26e63fe90a02aa579f0df3c425c3820edb59b51641d44cce75", func := "tollgate/tollgatelaw11.NegPlays", spec := "negPlays", unfollowed := true, recurses := true, plainKeys := false, apart := false }
def NegPlaysSaid : Prop := negPlaysRow.holds Tryz.pinned (OpenSpec.ofChange negPlaysSpec)

/-- ITS FALSE NEIGHBOUR: 'it returns false'. Refute it at one input. -/
def negPlaysWrong : ChangeSpec := { name := "negPlays", fn := fun _ => fun
  | [d1, d2] => { results := [.lit (.bool false)], args := [d1, d2] }
  | _ => none }
def NegPlaysWrongFalsely : Prop := negPlaysRow.holds Tryz.pinned (OpenSpec.ofChange negPlaysWrong)

/-- 'tollgatelaw17.IpcpPlays': WHATEVER THE INPUT: true; the input reads as it did. -/
def ipcpPlaysSpec : ChangeSpec := { name := "ipcpPlays", fn := fun _ => fun
  | [d1, d2, d3, d4, d5, d6, d7, d8] => { results := [.lit (.bool true)], args := [d1, d2, d3, d4, d5, d6, d7, d8] }
  | _ => none }
def ipcpPlaysRow : OpenClaim := { program := "ytignponfoheaeaagreat", sum := "a66166ef9d4dda26e63fe90a02aa579f0df3c425c3820edb59b51641d44cce75", func := "tollgate/tollgatelaw17.IpcpPlays", spec := "ipcpPlays", unfollowed := true, recurses := true, plainKeys := false, apart := false }
def IpcpPlaysSaid : Prop := ipcpPlaysRow.holds Tryz.pinned (OpenSpec.ofChange ipcpPlaysSpec)

/-- ITS FALSE NEIGHBOUR: 'it returns false'. Refute it at one input. -/
def ipcpPlaysWrong : ChangeSpec := { name := "ipcpPlays", fn := fun _ => fun
  | [d1, d2, d3, d4, d5, d6, d7, d8] => { results := [.lit (.bool false)], args := [d1, d2, d3, d4, d5, d6, d7, d8] }
  | _ => none }
def IpcpPlaysWrongFalsely : Prop := ipcpPlaysRow.holds Tryz.pinned (OpenSpec.ofChange ipcpPlaysWrong)

/- THE SECOND FORM. 'bulk': how many values and letters a reading holds, each counted each time it is reached (what is shared counts as often as it is met; a slice's spare places count too). A statement '..UptoSaid' is the law's where the arguments, and the package variables that the reading takes, are together of bulk at most 1048576: NARROWER than '..Said'. Prove '..Said' where nothing that the law and all that it calls make is longer than what came in: it says more and counts as full. Else prove '..UptoSaid'. A law counts once. -/
mutual
def uptoBulk {H : Type} : DataW H → Nat
  | .lit (.string bytes) => bytes.length + 1
  | .lit _ => 1
  | .nil => 1
  | .ptr d => uptoBulk d + 1
  | .slice elems spare => uptoBulkAll elems + uptoBulkAll spare + 1
  | .agg parts => uptoBulkAll parts + 1
  | .iface _ d => uptoBulk d + 1
  | .map entries => uptoBulkEntries entries + 1
  | .held _ => 1
def uptoBulkAll {H : Type} : List (DataW H) → Nat
  | [] => 0
  | d :: r => uptoBulk d + uptoBulkAll r
def uptoBulkEntries {H : Type} : List (Lit × DataW H) → Nat
  | [] => 0
  | x :: r => uptoBulkEntry x + uptoBulkEntries r
def uptoBulkEntry {H : Type} : Lit × DataW H → Nat
  | (.string bytes, d) => bytes.length + uptoBulk d + 1
  | (_, d) => uptoBulk d + 1
 end
def uptoSmall : (H : Type) → List (DataW H) → Bool := fun _ ds => decide (uptoBulkAll ds ≤ 1048576)
def OpenSpec.upto (s : _root_.Go.ChangeSpec) : _root_.Go.OpenSpec := { _root_.Go.OpenSpec.ofChange s with cond := some uptoSmall }

/-- 'tollgatelaw9.AutoNext', WHERE WHAT IT READS IS OF BULK AT MOST 1048576: true; the input reads as it did. -/
def autoNextUptoRow : OpenClaim := { program := "ytignponfoheaeaagreat", sum := "a66166ef9d4dda26e63fe90a02aa579f0df3c425c3820edb59b51641d44cce75", func := "tollgate/tollgatelaw9.AutoNext", spec := "autoNext", unfollowed := true, recurses := true, plainKeys := false, apart := false, narrowed := true }
def AutoNextUptoSaid : Prop := autoNextUptoRow.holds Tryz.pinned (OpenSpec.upto autoNextSpec)

/-- 'tollgatelaw9.AutoPlays', WHERE WHAT IT READS IS OF BULK AT MOST 1048576: true; the input reads as it did. -/
def autoPlaysUptoRow : OpenClaim := { program := "ytignponfoheaeaagreat", sum := "a66166ef9d4dda26e63fe90a02aa579f0df3c425c3820edb59b51641d44cce75", func := "tollgate/tollgatelaw9.AutoPlays", spec := "autoPlays", unfollowed := true, recurses := true, plainKeys := false, apart := false, narrowed := true }
def AutoPlaysUptoSaid : Prop := autoPlaysUptoRow.holds Tryz.pinned (OpenSpec.upto autoPlaysSpec)

/-- 'tollgatelaw11.NegJudges', WHERE WHAT IT READS IS OF BULK AT MOST 1048576: true; the input reads as it did. -/
def negJudgesUptoRow : OpenClaim := { program := "ytignponfoheaeaagreat", sum := "a66166ef9d4dda26e63fe90a02aa579f0df3c425c3820edb59b51641d44cce75", func := "tollgate/tollgatelaw11.NegJudges", spec := "negJudges", unfollowed := true, recurses := true, plainKeys := false, apart := false, narrowed := true }
def NegJudgesUptoSaid : Prop := negJudgesUptoRow.holds Tryz.pinned (OpenSpec.upto negJudgesSpec)

/-- 'tollgatelaw11.NegPlays', WHERE WHAT IT READS IS OF BULK AT MOST 1048576: true; the input reads as it did. -/
def negPlaysUptoRow : OpenClaim := { program := "ytignponfoheaeaagreat", sum := "a66166ef9d4dda26e63fe90a02aa579f0df3c425c3820edb59b51641d44cce75", func := "tollgate/tollgatelaw11.NegPlays", spec := "negPlays", unfollowed := true, recurses := true, plainKeys := false, apart := false, narrowed := true }
def NegPlaysUptoSaid : Prop := negPlaysUptoRow.holds Tryz.pinned (OpenSpec.upto negPlaysSpec)

/-- 'tollgatelaw17.IpcpPlays', WHERE WHAT IT READS IS OF BULK AT MOST 1048576: true; the input reads as it did. -/
def ipcpPlaysUptoRow : OpenClaim := { program := "ytignponfoheaeaagreat", sum := "a66166ef9d4dda26e63fe90a02aa579f0df3c425c3820edb59b51641d44cce75", func := "tollgate/tollgatelaw17.IpcpPlays", spec := "ipcpPlays", unfollowed := true, recurses := true, plainKeys := false, apart := false, narrowed := true }
def IpcpPlaysUptoSaid : Prop := ipcpPlaysUptoRow.holds Tryz.pinned (OpenSpec.upto ipcpPlaysSpec)

end Rows
end Go.Proofs.YtignponfoheaeaaGreat
