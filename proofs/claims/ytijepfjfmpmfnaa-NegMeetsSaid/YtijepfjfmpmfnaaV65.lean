import Derived.Test.YtijepfjfmpmfnaaV64
/- Take, for every packet. -/
namespace Go.Proofs.Ytijepfjfmpmfnaa
open Go.RowKit Go.Tg Go.Maps

def takeS (C : NegC) (st : NSt) (p : Pk) : NSt × List Pk :=
  if p.code = 1 then reqS rejS C st p (judgeS C.peer p.o)
  else if p.code = 2 then ackS rejS C st p
  else if p.code = 3 ∨ p.code = 4 then (if p.id = st.asked then (if p.code = 3 then namedS rejS C st p else refusedS rejS C st p) else (st, []))
  else if p.code = 5 then evS rejS C st 10 ⟨true, p, 0, []⟩
  else if p.code = 6 then evS rejS C st 11 ⟨true, p, 0, []⟩
  else if p.code = 7 then code7S rejS C st p
  else evS rejS C st 12 ⟨true, p, 0, []⟩

/-- A packet that can be taken. -/
structure PkOk (p : Pk) : Prop where
  len : p.o.length ≤ 1000000
  wf : ∀ o ∈ p.o, I64 o.t
  vs : ∀ o ∈ p.o, o.v.size ≤ 100000
  ds : p.d.size ≤ 100000000

section
variable {w : World} {S ok : Nat → Prop} {B : NegB} {C : NegC} {st : NSt} {jb : Nat}
theorem TakeP (p : Pk) (po : Value) (hp : PkOk p) (h : NegP w S B C st jb) (ho : Opts w ok po p.o) (hok : ∀ b, ok b → ¬ B.t b) :
    Calls Try.prog 13 #[.pointer (some ⟨B.nb, 0, none⟩), pkV p po] w fun e w' => EvP w w' S ok B C jb (takeS C st p) e := by
  unfold takeS
  by_cases h1 : p.code = 1
  · rw [if_pos h1]
    exact take1P rejS p po h1 h ho hok hp.len hp.wf hp.vs (fun _ pa => sayAll_every _ _ _ _ _ _ _ hp.vs hp.ds)
  · rw [if_neg h1]
    by_cases h2 : p.code = 2
    · rw [if_pos h2]
      exact take2P rejS p po h2 h ho hok hp.len
    · rw [if_neg h2]
      by_cases h3 : p.code = 3 ∨ p.code = 4
      · rw [if_pos h3]
        obtain ⟨X, hX⟩ := h.1
        exact (take34 rejS p po h3 hX ho hok hp.len hp.vs).mono (fun e w' he => he.p h)
      · rw [if_neg h3]
        by_cases h5 : p.code = 5
        · rw [if_pos h5]
          exact take5P rejS p po h5 h ho hok hp.len
        · rw [if_neg h5]
          by_cases h6 : p.code = 6
          · rw [if_pos h6]
            exact take6P rejS p po h6 h ho hok hp.len
          · rw [if_neg h6]
            by_cases h7 : p.code = 7
            · rw [if_pos h7]
              obtain ⟨X, hX⟩ := h.1
              exact (take7 rejS p po h7 hX ho hok hp.len hp.ds).mono (fun e w' he => he.p h)
            · rw [if_neg h7]
              exact takeUP rejS p po (by omega) h ho hok hp.len (fun pa => sayAll_every _ _ _ _ _ _ _ hp.vs hp.ds)
end
end Go.Proofs.Ytijepfjfmpmfnaa
