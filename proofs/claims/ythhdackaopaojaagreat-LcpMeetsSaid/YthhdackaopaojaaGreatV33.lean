import Derived.Test.YthhdackaopaojaaGreatV30
namespace Go.Proofs.YthhdackaopaojaaGreat
open Go.RowKit Go.Tg Go.Maps

/-- A tick goes by. -/
def tickS (rej : Pk → ByteArray) (C : NegC) (st : NSt) : NSt × List Pk :=
  if waitsB st.s then
    if wrap64 (st.ticks + 1) < C.wt then ({ st with ticks := wrap64 (st.ticks + 1) }, [])
    else toldS rej C { st with ticks := 0, s := tmoS st.s st.c, c := doC C.cf C.tm (tmoL st.s st.c) (tmoL st.s st.c) st.c } (tmoL st.s st.c) noCame
  else (st, [])

section
variable (rej : Pk → ByteArray) {w : World} {S ok : Nat → Prop} {B : NegB} {C : NegC} {st : NSt} {X : NegX}

end
end Go.Proofs.YthhdackaopaojaaGreat

namespace Go.Proofs.YthhdackaopaojaaGreat
open Go.RowKit Go.Tg Go.Maps

/-- The Setup of the laws. -/
def setV (b0 b1 b2 : Nat) (cf tm f wt : Int) : Array Value := #[.slice (some ⟨b0, 0, none⟩) 1 1, .slice (some ⟨b1, 0, none⟩) 1 1, .slice (some ⟨b2, 0, none⟩) 1 1, .slice none 0 0, .int .i64 cf, .int .i64 tm, .int .i64 f, .int .i64 wt]
def SetAt (w : World) (base b0 b1 b2 : Nat) (ask : ByteArray) : Prop :=
  ORow w base (.slice (some ⟨b0, 0, none⟩) 1 1) [⟨1, ask⟩] ∧ RRow w base (.slice (some ⟨b1, 0, none⟩) 1 1) [rule1] ∧ RRow w base (.slice (some ⟨b2, 0, none⟩) 1 1) [rule1]

end Go.Proofs.YthhdackaopaojaaGreat

namespace Go.Proofs.YthhdackaopaojaaGreat
open Go.RowKit Go.Tg Go.Maps

/-- What the laws' negotiation was made with. -/
def CS (jb : Nat) (cf f wt : Int) : NegC := ⟨[rule1], [rule1], [], cf, 2, f, wt, ownJ jb⟩
def sQ (c ticks id asked : Int) (ask : List Opt) : NSt := ⟨6, c, id, asked, 0, ticks, ask, [], [], 0, 0⟩
/-- After k ticks, with so many requests. -/
def QS (c d : Nat) (st : NSt) (k asked : Nat) : Prop :=
  (∃ q r : Nat, ∃ id ak : Int, k = q * d + r ∧ r < d ∧ q < c ∧ asked = q + 1 ∧ st = sQ (c - 1 - q) r id ak asks) ∨ (k = c * d ∧ asked = c ∧ st.s = 3)

/-- A negotiation of a law's own. -/
def NegQ (w w' : World) (B : NegB) (C : NegC) (st : NSt) (jb : Nat) : Prop := (∃ S, NegP w' S B C st jb ∧ ∀ b, S b → w.heap.size ≤ b) ∧ Below w.heap.size w w'
end Go.Proofs.YthhdackaopaojaaGreat
