import Derived.Test.YtoblffnlopmebaaGreatQAS
import Derived.Deep.DeepCutAuto
import Derived.Test.YtoblffnlopmebaaGreatQAR
set_option linter.unusedVariables false
set_option linter.unusedSimpArgs false
set_option maxHeartbeats 16000000
namespace Go.Proofs.YtoblffnlopmebaaGreat
open Go.RowKit Go.Tg Go.Maps
section
variable (rej : Pk -> ByteArray) {w : World} {S ok : Nat -> Prop} {B : NegB} {C : NegC} {st : NSt} {X : NegX}
end
section
variable (rej : Pk -> ByteArray) {w : World} {S ok : Nat -> Prop} {B : NegB} {C : NegC} {st : NSt} {X : NegX}
end
def code7S (rej : Pk -> ByteArray) (C : NegC) (st : NSt) (p : Pk) : NSt × List Pk :=
 if p.d.size = 0 then (st, []) else evS rej C st (if 1 <= (p.d.data.getD 0 0).toNat /\ (p.d.data.getD 0 0).toNat <= 7 then 14 else 13) ⟨true, p, 0, []⟩
section
variable (rej : Pk -> ByteArray) {w : World} {S ok : Nat -> Prop} {B : NegB} {C : NegC} {st : NSt} {X : NegX}
end
def takeS (C : NegC) (st : NSt) (p : Pk) : NSt × List Pk :=
 if p.code = 1 then reqS rejS C st p (judgeS C.peer p.o)
 else if p.code = 2 then ackS rejS C st p
 else if p.code = 3 \/ p.code = 4 then (if p.id = st.asked then (if p.code = 3 then namedS rejS C st p else refusedS rejS C st p) else (st, []))
 else if p.code = 5 then evS rejS C st 10 ⟨true, p, 0, []⟩
 else if p.code = 6 then evS rejS C st 11 ⟨true, p, 0, []⟩
 else if p.code = 7 then code7S rejS C st p
 else evS rejS C st 12 ⟨true, p, 0, []⟩
structure PkOk (p : Pk) : Prop where
 len : p.o.length <= 1000000
 wf : ∀ o ∈ p.o, I64 o.t
 vs : ∀ o ∈ p.o, o.v.size <= 100000
 ds : p.d.size <= 100000000
section
variable {w : World} {S ok : Nat -> Prop} {B : NegB} {C : NegC} {st : NSt} {jb : Nat}
end
def takeAll (C : NegC) (st : NSt) : List Pk -> NSt × List Pk
 | [] => (st, [])
 | p :: l => ((takeAll C (takeS C st p).1 l).1, (takeS C st p).2 ++ (takeAll C (takeS C st p).1 l).2)
end Go.Proofs.YtoblffnlopmebaaGreat
