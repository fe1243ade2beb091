import Derived.Test.YtkfcjcbjefpliaaTgSlice
import Derived.Deep.QuietTactic
import Derived.Sort.Grow
namespace Go.Tg
open Go Go.RowKit Go.Sort

/-- So many draws, these new blocks. -/
structure GB where
  n : Nat
  os : Array Obj
instance : Inhabited GB := ⟨⟨0, #[]⟩⟩

/-- A region that draws its order, whose operations read and whose callees read and lay blocks of their own. -/
theorem wp_region_grown {P : Program} {id : Nat} {Q : Exit → Act → World → Prop} {a : Act} {w : World} {l : List Oper} (hm : P.follows .mixedOrders = true) (hB : Region.lexB .any l.toArray = true)
    (h : wpQuiet P l.toArray (fun w' => ∃ p : GB, w' = grow (w.drewN p.n) p.os) (fun a' => ∀ w', (∃ p : GB, w' = grow (w.drewN p.n) p.os) → Q .normal a' w') l a) : (Code.region id l.toArray true).wp P Q a w :=
  wp_region_quiet (C := fun w' => ∃ p : GB, w' = grow (w.drewN p.n) p.os) hm hB ⟨⟨1, #[]⟩, by simp; rfl⟩ (by simpa using h)

theorem grown_call {P : Program} {f : FuncId} {args : Array Value} {w : World} {n : Nat} {os : Array Obj} {v : Value}
    (h : Calls P f args (grow (w.drewN n) os) fun e w' => e = .returned v ∧ ∃ os', w' = grow (grow (w.drewN n) os) os') : Calls P f args (grow (w.drewN n) os) fun e w'' => e = .returned v ∧ ∃ p : GB, w'' = grow (w.drewN p.n) p.os :=
  h.mono fun _ _ ⟨he, os', hq⟩ => ⟨he, ⟨n, os ++ os'⟩, by rw [hq, grow_grow]⟩

theorem grown_cell {w : World} {a : Addr} {v : Value} (h : w.cell? a = some v) (n : Nat) (os : Array Obj) : (grow (w.drewN n) os).cell? a = some v := by
  have hb : a.block < w.heap.size := by
    unfold World.cell? at h
    by_cases hb : a.block < w.heap.size
    · exact hb
    · have : w.heap[a.block]? = none := by simp; omega
      rw [this] at h; cases h
  rw [cell?_grow _ _ _ (by exact hb)]; exact h
theorem grown_keep (S : Nat → Prop) (w : World) (n : Nat) (os : Array Obj) : Keep S w (grow (w.drewN n) os) :=
  ⟨rfl, rfl, rfl, by simp, fun k hk _ => heap_grow_old (w.drewN n) os hk⟩
end Go.Tg
