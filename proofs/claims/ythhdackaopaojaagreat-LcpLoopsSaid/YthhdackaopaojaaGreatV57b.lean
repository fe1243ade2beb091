import Derived.Test.YthhdackaopaojaaGreatV33
/- Two negotiations side by side. -/
namespace Go.Proofs.YthhdackaopaojaaGreat
open Go.RowKit Go.Tg Go.Maps

/-- Two negotiations, parted from each other and from what was there. -/
structure Parted (w0 w : World) (S S' : Nat → Prop) (B B' : NegB) : Prop where
  d1 : ∀ b, S b → ¬ B'.t b
  d2 : ∀ b, S' b → ¬ B.t b
  n1 : ∀ b, S b → w0.heap.size ≤ b
  n2 : ∀ b, S' b → w0.heap.size ≤ b
  bl : Below w0.heap.size w0 w
def Two (w0 w : World) (B B' : NegB) (C C' : NegC) (st st' : NSt) (jb jb' : Nat) : Prop :=
  ∃ S S', NegP w S B C st jb ∧ NegP w S' B' C' st' jb' ∧ Parted w0 w S S' B B'
section
variable {w0 w w' : World} {S S' : Nat → Prop} {B B' : NegB} {C C' : NegC} {st st' st1 : NSt} {jb jb' : Nat}
theorem Parted.symm (h : Parted w0 w S S' B B') : Parted w0 w S' S B' B := ⟨h.d2, h.d1, h.n2, h.n1, h.bl⟩
theorem Two.symm (h : Two w0 w B B' C C' st st' jb jb') : Two w0 w B' B C' C st' st jb' jb := by
  obtain ⟨S, S', h1, h2, h3⟩ := h
  exact ⟨S', S, h2, h1, h3.symm⟩
theorem Two.step (h1 : NegP w S B C st jb) (h2 : NegP w S' B' C' st' jb') (hp : Parted w0 w S S' B B') (h : NegP w' (Grow S w) B C st1 jb) (hk : Keep B.t w w') : Two w0 w' B B' C C' st1 st' jb jb' :=
  ⟨_, _, h, h2.keep hk (fun b _ hb => hp.d2 b hb), ⟨fun b hb ht => hb.elim (fun hb => hp.d1 b hb ht) (fun hb => by have := h2.tlt ht; omega), hp.d2, fun b hb => hb.elim (hp.n1 b) (fun hb => Nat.le_trans hp.bl.size hb), hp.n2,
    hp.bl.trans (hk.below hp.bl.size (fun b hb ht => by have := hp.n1 b (h1.ts ht); omega))⟩⟩
theorem Two.below (h : Two w0 w B B' C C' st st' jb jb') (hb : Below w.heap.size w w') : Two w0 w' B B' C C' st st' jb jb' := by
  obtain ⟨S, S', h1, h2, h3⟩ := h
  exact ⟨S, S', h1.below hb, h2.below hb, ⟨h3.d1, h3.d2, h3.n1, h3.n2, h3.bl.trans (hb.mono h3.bl.size)⟩⟩
/-- Two that were made one behind the other. -/
theorem Two.made {w1 w2 : World} (hb : Below w0.heap.size w0 w) (h1 : NegP w1 (fun b => w.heap.size ≤ b) B C st jb) (b1 : Below w.heap.size w w1) (h2 : NegP w2 (fun b => w1.heap.size ≤ b) B' C' st' jb') (b2 : Below w1.heap.size w1 w2) : Two w0 w2 B B' C C' st st' jb jb' := by
  obtain ⟨⟨X, hX⟩, hj1, hj2, hj3, hj4⟩ := h1
  have h1' : NegP w1 (fun b => w.heap.size ≤ b ∧ b < w1.heap.size) B C st jb := ⟨⟨X, hX.old⟩, hj1, hj2, ⟨hj3, hj1.lt⟩, hj4⟩
  have s := hb.size
  have s1 := b1.size
  exact ⟨_, _, h1'.below b2, h2, ⟨fun b hb ht => by have : w1.heap.size ≤ b := h2.ts ht; have := hb.2; omega, fun b hb ht => by have := h1'.tlt ht; have hb : w1.heap.size ≤ b := hb; omega, fun b hb => Nat.le_trans s hb.1, fun b hb => by have hb : w1.heap.size ≤ b := hb; omega, hb.trans ((b1.mono s).trans (b2.mono (by omega)))⟩⟩
end

end Go.Proofs.YthhdackaopaojaaGreat
