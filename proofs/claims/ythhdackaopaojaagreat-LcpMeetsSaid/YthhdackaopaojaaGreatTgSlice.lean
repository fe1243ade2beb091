import Derived.Test.YthhdackaopaojaaGreatTgMapW
import Derived.Laws.AppendOwnNone
namespace Go.Tg
open Go Go.RowKit

/-- A slice of ints whose row is the call's own, from block B on. -/
def OwnI (TI : TypeId) (B : Nat) (w : World) (v : Value) (xs : List Int) : Prop := w.ownsRow B TI 1 v xs.length (xs.map (Value.int .i64))

/-- A slice of ints that reads as xs, in a block that N does not name. -/
def Rd (w : World) (N : Nat → Prop) (sa : Option Addr) (xs : List Int) : Prop :=
  ∀ (i : Nat) (h : i < xs.length), ∃ b, sa = some ⟨b, 0, none⟩ ∧ ¬ N b ∧ b < w.heap.size ∧ w.cell? ⟨b, i, none⟩ = some (.int .i64 xs[i])

theorem keep_of_grown {w w' : World} {row : Option Nat} (h : w.grownBy w' row) : Keep (fun k => row = some k) w w' :=
  ⟨h.os, h.tape, h.output, h.size, fun k hk hn => h.block k hk (fun e => hn e.symm)⟩

end Go.Tg
