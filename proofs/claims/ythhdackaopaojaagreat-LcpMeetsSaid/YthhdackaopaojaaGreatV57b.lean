import Derived.Test.YthhdackaopaojaaGreatV33
/- Two negotiations side by side. -/
namespace Go.Proofs.YthhdackaopaojaaGreat
open Go.RowKit Go.Tg Go.Maps

/-- Two negotiations, parted from each other and from what was there. -/
structure Parted (w0 w : World) (S S' : Nat → Prop) (B B' : NegB) : Prop where
  d1 : ∀ b, S b → ¬ B'.t b
  d2 : ∀ b, S' b → ¬ B.t b
  n1 : ∀ b, S b → w0.heap.size ≤ b
  n2 : ∀ b, S' b → w0.heap.size ≤ b
  bl : Below w0.heap.size w0 w
def Two (w0 w : World) (B B' : NegB) (C C' : NegC) (st st' : NSt) (jb jb' : Nat) : Prop :=
  ∃ S S', NegP w S B C st jb ∧ NegP w S' B' C' st' jb' ∧ Parted w0 w S S' B B'
section
variable {w0 w w' : World} {S S' : Nat → Prop} {B B' : NegB} {C C' : NegC} {st st' st1 : NSt} {jb jb' : Nat}
end

end Go.Proofs.YthhdackaopaojaaGreat
