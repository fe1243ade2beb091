import Derived.Test.YthhdackaopaojaaGreatK21
/- A link is made with no tape given. -/
namespace Go.Proofs.YthhdackaopaojaaGreat
open Go.RowKit Go.Tg Go.Maps

def NewN (w w' : World) (e : Ending) (c : LCfg) : Prop := ∃ tb okt, NewL w w' e c tb okt ⟨[], 0⟩ ∧ (∀ b, okt b → w.heap.size ≤ b) ∧ w.heap.size ≤ tb

end Go.Proofs.YthhdackaopaojaaGreat
