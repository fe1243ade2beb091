import Derived.Test.YtoblffnlopmebaaGreatQAQ
import Derived.Test.YtoblffnlopmebaaGreatQAA
import Derived.Laws.EntriesVeiled
import Derived.Laws.IdiomStrings
set_option linter.unusedVariables false
set_option linter.unusedSimpArgs false
set_option maxHeartbeats 16000000
namespace Go.Proofs.YtoblffnlopmebaaGreat
open Go.RowKit Go.Tg Go.Maps
def Grow (S : Nat -> Prop) (w : World) : Nat -> Prop := fun k => S k \/ w.heap.size <= k
structure NegC where
 own : List Rl
 peer : List Rl
 must : List Int
 cf : Int
 tm : Int
 fl : Int
 wt : Int
 judge : Value
structure NegC.Ok (C : NegC) : Prop where
 cf : 1 <= C.cf /\ C.cf <= 20
 tm : 1 <= C.tm /\ C.tm <= 20
 fl : 0 <= C.fl /\ C.fl <= 20
 wt : 1 <= C.wt /\ C.wt <= 100
 own : C.own.length <= 1000
 peer : C.peer.length <= 1000
 must : C.must.length <= 1000
 one : C.judge.oneCell' = true
 jn : C.judge ≠ .nilFunc
structure NSt where
 s : Int
 c : Int
 id : Int
 asked : Int
 naks : Int
 ticks : Int
 req : List Opt
 mine : List Opt
 theirs : List Opt
 ups : Int
 downs : Int
structure NegB where
 nb : Nat
 ab : Nat
 rb : Nat
def NegB.t (B : NegB) (b : Nat) : Prop := b = B.nb \/ b = B.ab \/ b = B.rb
def NegB.r (B : NegB) (S : Nat -> Prop) (b : Nat) : Prop := S b /\ ¬ B.t b
structure NegX where
 ask : Value
 own : Value
 peer : Value
 must : Value
 req : Value
 mine : Value
 theirs : Value
def negCells (B : NegB) (C : NegC) (st : NSt) (X : NegX) : Array Value :=
 #[.pointer (some ⟨B.ab, 0, none⟩), X.ask, X.own, X.peer, X.must, .int .i64 C.cf, .int .i64 C.tm, .int .i64 C.fl, .int .i64 C.wt, C.judge, X.req, .int .u8 st.id, .int .u8 st.asked,
  .int .i64 st.naks, .int .i64 st.ticks, X.mine, X.theirs, .int .i64 st.ups, .int .i64 st.downs]
structure NegAt (w : World) (S : Nat -> Prop) (B : NegB) (C : NegC) (st : NSt) (X : NegX) : Prop where
 blk : w.heap[B.nb]? = some (.cells (negCells B C st X) 177 (0, 0))
 aut : AutoAt w B.ab st.s st.c C.cf C.tm
 own : Rls w (B.r S) X.own C.own
 peer : Rls w (B.r S) X.peer C.peer
 must : Nums w (B.r S) X.must C.must
 req : ORow w 0 X.req st.req
 rq : ∀ k, X.req.ownBlock = some k -> k = B.rb
 mine : Opts w (B.r S) X.mine st.mine
 theirs : Opts w (B.r S) X.theirs st.theirs
 ne1 : B.nb ≠ B.ab
 ne2 : B.rb ≠ B.nb
 ne3 : B.rb ≠ B.ab
 rlt : B.rb < w.heap.size
 s1 : S B.nb
 s2 : S B.ab
 s3 : S B.rb
 ok : C.Ok
 id : 0 <= st.id /\ st.id < 256
 ak : 0 <= st.asked /\ st.asked < 256
 ib : InB st.c
 ss : 0 <= st.s /\ st.s <= 9
 lr : st.req.length <= 30
 lm : st.mine.length <= 1000000
 lt : st.theirs.length <= 1000000
def NegV (w : World) (S : Nat -> Prop) (B : NegB) (C : NegC) (st : NSt) : Prop := ∃ X, NegAt w S B C st X
section
variable {w w' : World} {S S' T : Nat -> Prop} {B : NegB} {C : NegC} {st st' : NSt} {X X' : NegX}
theorem NegAt.nlt (h : NegAt w S B C st X) : B.nb < w.heap.size := (Array.getElem?_eq_some_iff.1 h.blk).1
theorem NegAt.alt (h : NegAt w S B C st X) : B.ab < w.heap.size := h.aut.lt
theorem NegAt.keep (h : NegAt w S B C st X) (hk : Keep T w w') (hT : ∀ b, b < w.heap.size -> S b -> ¬ T b) : NegAt w' S B C st X where
 blk := (hk.block _ h.nlt (hT _ h.nlt h.s1)).trans h.blk
 aut := h.aut.keep hk (hT _ h.alt h.s2)
 own := Rec.keep h.own hk (fun b hb h => hT b hb h.1)
 peer := Rec.keep h.peer hk (fun b hb h => hT b hb h.1)
 must := Rec.keep h.must hk (fun b hb h => hT b hb h.1)
 req := h.req.keep hk (fun k hk' => by rw [h.rq k hk']; exact hT _ h.rlt h.s3)
 rq := h.rq
 mine := Rec.keep h.mine hk (fun b hb h => hT b hb h.1)
 theirs := Rec.keep h.theirs hk (fun b hb h => hT b hb h.1)
 ne1 := h.ne1
 ne2 := h.ne2
 ne3 := h.ne3
 rlt := Nat.lt_of_lt_of_le h.rlt hk.size
 s1 := h.s1
 s2 := h.s2
 s3 := h.s3
 ok := h.ok
 id := h.id
 ak := h.ak
 ib := h.ib
 ss := h.ss
 lr := h.lr
 lm := h.lm
 lt := h.lt
theorem NegAt.mono (h : NegAt w S B C st X) (hS : ∀ b, S b -> S' b) : NegAt w S' B C st X :=
 { h with
  own := Rec.mono h.own (fun b hb => ⟨hS b hb.1, hb.2⟩), peer := Rec.mono h.peer (fun b hb => ⟨hS b hb.1, hb.2⟩), must := Rec.mono h.must (fun b hb => ⟨hS b hb.1, hb.2⟩),
  mine := Rec.mono h.mine (fun b hb => ⟨hS b hb.1, hb.2⟩), theirs := Rec.mono h.theirs (fun b hb => ⟨hS b hb.1, hb.2⟩), s1 := hS _ h.s1, s2 := hS _ h.s2, s3 := hS _ h.s3 }
theorem NegV.mono (h : NegV w S B C st) (hS : ∀ b, S b -> S' b) : NegV w S' B C st := ⟨_, h.choose_spec.mono hS⟩
end
structure Pk where
 code : Int
 id : Int
 o : List Opt
 d : ByteArray
def noB : ByteArray := ⟨#[]⟩
def pkCells (p : Pk × Value) : List Value := [.int .i64 p.1.code, .int .i64 p.1.id, p.2, .string p.1.d]
def pkL (L : List (Pk × Value)) : List (List Value) := L.map pkCells
def PRow (w : World) (base : Nat) (v : Value) (L : List (Pk × Value)) : Prop := w.ownsRow base 119 4 v L.length (pkL L).flatten
def POpts (w : World) (ok : Nat -> Prop) (L : List (Pk × Value)) : Prop :=
 (∀ p ∈ L, Opts w ok p.2 p.1.o /\ ORow w 0 p.2 p.1.o /\ ∀ k, p.2.ownBlock = some k -> ok k) /\ L.Pairwise (fun p q => ∀ k, p.2.ownBlock = some k -> q.2.ownBlock ≠ some k)
def PksAt (w : World) (ok : Nat -> Prop) (base : Nat) (v : Value) (l : List Pk) : Prop := ∃ L, L.map Prod.fst = l /\ PRow w base v L /\ POpts w ok L
structure Came where
 is : Bool
 p : Pk
 code : Int
 ans : List Opt
def noCame : Came := ⟨false, ⟨0, 0, [], noB⟩, 0, []⟩
def cameV (c : Came) (po pa : Value) : Value := .agg #[.bool c.is, .int .i64 c.p.code, .int .i64 c.p.id, po, .string c.p.d, .int .i64 c.code, pa]
def pkV (p : Pk) (po : Value) : Value := .agg #[.int .i64 p.code, .int .i64 p.id, po, .string p.d]
def nid (x : Int) : Int := (x + 1) % 256
def refuseS (C : NegC) (st : NSt) (c : Came) : NSt × Pk :=
 if c.code ≠ 3 then (st, ⟨c.code, c.p.id, c.ans, noB⟩)
 else if 0 < C.fl /\ C.fl <= st.naks then (st, ⟨4, c.p.id, c.p.o.filter fun o => (findO c.ans o.t).isSome, noB⟩)
 else ({ st with naks := wrap64 (st.naks + 1) }, ⟨c.code, c.p.id, c.ans, noB⟩)
def sayS (rej : Pk -> ByteArray) (C : NegC) (st : NSt) (a : Int) (c : Came) : NSt × List Pk :=
 if a = 6 then ({ st with ticks := 0, id := nid st.id, asked := nid st.id }, [⟨1, nid st.id, st.req, noB⟩])
 else if a = 7 then ({ st with theirs := c.p.o }, [⟨2, c.p.id, c.p.o, noB⟩])
 else if a = 8 then ((refuseS C st c).1, [(refuseS C st c).2])
 else if a = 9 then ({ st with ticks := 0, id := nid st.id }, [⟨5, nid st.id, [], noB⟩])
 else if a = 10 then (st, [⟨6, if c.is then c.p.id else st.id, [], noB⟩])
 else if a = 11 then ({ st with id := nid st.id }, [⟨7, nid st.id, [], rej c.p⟩])
 else if a = 0 then ({ st with ups := wrap64 (st.ups + 1) }, [])
 else if a = 1 then ({ st with downs := wrap64 (st.downs + 1) }, [])
 else (st, [])
def sayL (rej : Pk -> ByteArray) (C : NegC) (c : Came) : NSt -> List Int -> NSt × List Pk
 | st, [] => (st, [])
 | st, a :: l => ((sayL rej C c (sayS rej C st a c).1 l).1, (sayS rej C st a c).2 ++ (sayL rej C c (sayS rej C st a c).1 l).2)
def toldS (rej : Pk -> ByteArray) (C : NegC) (st : NSt) (l : List Int) (c : Came) : NSt × List Pk :=
 ((if waitsB (sayL rej C c st l).1.s then (sayL rej C c st l).1 else { (sayL rej C c st l).1 with ticks := 0 }), (sayL rej C c st l).2)
def evS (rej : Pk -> ByteArray) (C : NegC) (st : NSt) (e : Int) (c : Came) : NSt × List Pk :=
 toldS rej C { st with s := nextS st.s e, c := doC C.cf C.tm (nextL st.s e) (nextL st.s e) st.c } (nextL st.s e) c
theorem keep4 (w : World) (b : Nat) (v0 v1 v2 v3 : Value) : Keep (fun k => k = b) w ((((w.setCell ⟨b, 0, none⟩ v0).setCell ⟨b, 1, none⟩ v1).setCell ⟨b, 2, none⟩ v2).setCell ⟨b, 3, none⟩ v3) :=
 ((((Keep.refl (fun k => k = b) w).setCell ⟨b, 0, none⟩ (Or.inr rfl) v0).setCell ⟨b, 1, none⟩ (Or.inr rfl) v1).setCell ⟨b, 2, none⟩ (Or.inr rfl) v2).setCell ⟨b, 3, none⟩ (Or.inr rfl) v3
def SetupAt (w : World) (b : Nat) (a o p m : Value) (cf tm fl wt : Int) : Prop := w.heap[b]? = some (.cells #[a, o, p, m, .int .i64 cf, .int .i64 tm, .int .i64 fl, .int .i64 wt] 163 (0, 0))
def ownJ (jb : Nat) : Value := .func (Fn.func 120) #[] #[.pointer (some ⟨jb, 0, none⟩)]
def JAt (w : World) (jb nb : Nat) : Prop := w.heap[jb]? = some (.cells #[.pointer (some ⟨nb, 0, none⟩)] 124 (0, 0))
def st0 (ask : List Opt) : NSt := ⟨0, 0, 0, 0, 0, 0, ask, [], [], 0, 0⟩
def NewAt (w w' : World) (v : Value) (ask : List Opt) (own peer : List Rl) (must : List Int) (cf tm fl wt : Int) : Prop :=
 ∃ B jb, v = .tuple #[.pointer (some ⟨B.nb, 0, none⟩), .int .i64 0] /\ NegV w' (fun b => w.heap.size <= b) B ⟨own, peer, must, cf, tm, fl, wt, ownJ jb⟩ (st0 ask) /\ JAt w' jb B.nb /\ w.heap.size <= jb /\ ¬ B.t jb /\ Below w.heap.size w w'
def cameCells (c : Came) (po pa : Value) : Array Value := #[.bool c.is, .int .i64 c.p.code, .int .i64 c.p.id, po, .string c.p.d, .int .i64 c.code, pa]
def CameAt (w : World) (B : NegB) (ok : Nat -> Prop) (c : Came) (po pa : Value) : Prop :=
 (∃ okp, Opts w okp po c.p.o /\ ∀ b, okp b -> ¬ B.t b) /\ (Opts w ok pa c.ans /\ ORow w 0 pa c.ans /\ ∀ k, pa.ownBlock = some k -> ok k) /\ (∀ b, ok b -> ¬ B.t b) /\ c.p.o.length <= 1000000 /\ c.ans.length <= 1000000
def SayPost (w w' : World) (S ok : Nat -> Prop) (B : NegB) (C : NegC) (r : NSt × List Pk) (e : Ending) : Prop :=
 ∃ v, e = .returned v /\ PksAt w' (Grow ok w) w.heap.size v r.2 /\ NegV w' (Grow S w) B C r.1 /\ Keep (fun b => b = B.nb) w w'
section
variable (rej : Pk -> ByteArray) {w : World} {S ok okr : Nat -> Prop} {B : NegB} {C : NegC} {st : NSt} {X : NegX} (c : Came) (po pa : Value)
end
section
variable (rej : Pk -> ByteArray) {w : World} {S ok okr : Nat -> Prop} {B : NegB} {C : NegC} {st : NSt} {X : NegX} (c : Came) (po pa : Value)
end
section
variable (rej : Pk -> ByteArray) {w : World} {S ok okr : Nat -> Prop} {B : NegB} {C : NegC} {st : NSt} {X : NegX} (c : Came) (po pa : Value)
end
def SaySpec (rej : Pk -> ByteArray) (B : NegB) (C : NegC) (ok : Nat -> Prop) (c : Came) (po pa : Value) (a : Int) : Prop := ∀ w S st X, NegAt w S B C st X -> CameAt w B ok c po pa ->
 Calls Tryz.prog 144 #[.pointer (some ⟨B.nb, 0, none⟩), .int .i64 a, cameV c po pa] w fun e w' => SayPost w w' S (fun b => a = 8 /\ ok b) B C (sayS rej C st a c) e
section
variable (rej : Pk -> ByteArray) {w : World} {S ok : Nat -> Prop} {B : NegB} {C : NegC} {st : NSt} {X : NegX} (c : Came) (po pa : Value)
def ToldAt (has8 : Prop) (w wr : World) (S ok : Nat -> Prop) (B : NegB) (C : NegC) (v : Value) (r : NSt × List Pk) : Prop :=
 ∃ L X', L.map Prod.fst = r.2 /\ PRow wr (w.heap.size + 1) v L /\ POpts wr (fun b => ((has8 /\ ok b /\ b < w.heap.size) \/ w.heap.size <= b) /\ v.ownBlock ≠ some b) L /\ NegAt wr (fun b => Grow S w b /\ v.ownBlock ≠ some b) B C r.1 X' /\ Keep (fun b => b = B.nb) w wr
end
def SayAll (rej : Pk -> ByteArray) (B : NegB) (C : NegC) (c : Came) (po pa : Value) (xs : List Int) : Prop := ∀ a ∈ xs, ∀ ok, SaySpec rej B C ok c po pa a
section
variable (rej : Pk -> ByteArray) {w : World} {S ok : Nat -> Prop} {B : NegB} {C : NegC} {st : NSt} {X : NegX} (c : Came) (po pa : Value)
def EvPost (w w' : World) (S ok : Nat -> Prop) (B : NegB) (C : NegC) (r : NSt × List Pk) (e : Ending) : Prop :=
 ∃ v, e = .returned v /\ PksAt w' (Grow ok w) w.heap.size v r.2 /\ NegV w' (Grow S w) B C r.1 /\ Keep B.t w w'
end
section
variable (rej : Pk -> ByteArray) {w : World} {S ok : Nat -> Prop} {B : NegB} {C : NegC} {st : NSt} {X : NegX} (c : Came) (po pa : Value)
end
def JudgeOk (g : Nat) (bs : Array Value) (w : World) (ok : Nat -> Prop) (l : List Opt) (lv : Value) (J : Int × List Opt) : Prop :=
 (∀ args w, (callFunc g args).run Tryz.prog w = .ok (.enter g args) w) /\
 ∀ W, Below w.heap.size w W -> Opts W ok lv l -> Calls Tryz.prog g (#[lv] ++ bs) W fun e w' => ∃ v, e = .returned (.tuple #[.int .i64 J.1, v]) /\ ORow w' W.heap.size v J.2 /\ Below W.heap.size W w'
section
variable (rej : Pk -> ByteArray) {w : World} {S ok : Nat -> Prop} {B : NegB} {C : NegC} {st : NSt} {X : NegX}
def reqS (rej : Pk -> ByteArray) (C : NegC) (st : NSt) (p : Pk) (J : Int × List Opt) : NSt × List Pk :=
 if J.1 = 2 then evS rej C { st with naks := 0 } 6 ⟨true, p, J.1, J.2⟩ else evS rej C st 7 ⟨true, p, J.1, J.2⟩
end
instance : DecidableEq Opt := fun a b =>
 if h : a.t = b.t /\ a.v = b.v then .isTrue (by obtain ⟨t, v⟩ := a; obtain ⟨t', v'⟩ := b; obtain ⟨h1, h2⟩ := h; simp only at h1 h2; subst h1 h2; rfl) else .isFalse (fun e => h (by subst e; exact ⟨rfl, rfl⟩))
def ackS (rej : Pk -> ByteArray) (C : NegC) (st : NSt) (p : Pk) : NSt × List Pk :=
 if p.id = st.asked then if p.o = st.req then evS rej C { st with mine := st.req } 8 ⟨true, p, 0, []⟩ else (st, []) else (st, [])
section
variable (rej : Pk -> ByteArray) {w : World} {S ok : Nat -> Prop} {B : NegB} {C : NegC} {st : NSt} {X : NegX}
end
section
variable (rej : Pk -> ByteArray) {w : World} {S ok : Nat -> Prop} {B : NegB} {C : NegC} {st : NSt} {X : NegX}
end
def NegP (w : World) (S : Nat -> Prop) (B : NegB) (C : NegC) (st : NSt) (jb : Nat) : Prop := NegV w S B C st /\ JAt w jb B.nb /\ ¬ B.t jb /\ S jb /\ C.judge = ownJ jb
def EvP (w w' : World) (S ok : Nat -> Prop) (B : NegB) (C : NegC) (jb : Nat) (r : NSt × List Pk) (e : Ending) : Prop :=
 ∃ v, e = .returned v /\ PksAt w' (Grow ok w) w.heap.size v r.2 /\ NegP w' (Grow S w) B C r.1 jb /\ Keep B.t w w'
section
variable (rej : Pk -> ByteArray) {w w' : World} {S ok : Nat -> Prop} {B : NegB} {C : NegC} {st : NSt} {jb : Nat}
end
def rule1 : Rl := ⟨1, 2, 64, 1492, ⟨#[5, 212]⟩⟩
def asks : List Opt := [⟨1, ⟨#[5, 0]⟩⟩]
def noR : Pk -> ByteArray := fun _ => noB
def CA (jb : Nat) : NegC := ⟨[], [rule1], [], 3, 2, 0, 3, ownJ jb⟩
def sA (s c id asked : Int) (mine : List Opt) (ups : Int) : NSt := ⟨s, c, id, asked, 0, 0, asks, mine, [], ups, 0⟩
def tickS (rej : Pk -> ByteArray) (C : NegC) (st : NSt) : NSt × List Pk :=
 if waitsB st.s then
  if wrap64 (st.ticks + 1) < C.wt then ({ st with ticks := wrap64 (st.ticks + 1) }, [])
  else toldS rej C { st with ticks := 0, s := tmoS st.s st.c, c := doC C.cf C.tm (tmoL st.s st.c) (tmoL st.s st.c) st.c } (tmoL st.s st.c) noCame
 else (st, [])
section
variable (rej : Pk -> ByteArray) {w : World} {S ok : Nat -> Prop} {B : NegB} {C : NegC} {st : NSt} {X : NegX}
end
def setV (b0 b1 b2 : Nat) (cf tm f wt : Int) : Array Value := #[.slice (some ⟨b0, 0, none⟩) 1 1, .slice (some ⟨b1, 0, none⟩) 1 1, .slice (some ⟨b2, 0, none⟩) 1 1, .slice none 0 0, .int .i64 cf, .int .i64 tm, .int .i64 f, .int .i64 wt]
def SetAt (w : World) (base b0 b1 b2 : Nat) (ask : ByteArray) : Prop :=
 ORow w base (.slice (some ⟨b0, 0, none⟩) 1 1) [⟨1, ask⟩] /\ RRow w base (.slice (some ⟨b1, 0, none⟩) 1 1) [rule1] /\ RRow w base (.slice (some ⟨b2, 0, none⟩) 1 1) [rule1]
def CS (jb : Nat) (cf f wt : Int) : NegC := ⟨[rule1], [rule1], [], cf, 2, f, wt, ownJ jb⟩
def sQ (c ticks id asked : Int) (ask : List Opt) : NSt := ⟨6, c, id, asked, 0, ticks, ask, [], [], 0, 0⟩
def QS (c d : Nat) (st : NSt) (k asked : Nat) : Prop :=
 (∃ q r : Nat, ∃ id ak : Int, k = q * d + r /\ r < d /\ q < c /\ asked = q + 1 /\ st = sQ (c - 1 - q) r id ak asks) \/ (k = c * d /\ asked = c /\ st.s = 3)
def NegQ (w w' : World) (B : NegB) (C : NegC) (st : NSt) (jb : Nat) : Prop := (∃ S, NegP w' S B C st jb /\ ∀ b, S b -> w.heap.size <= b) /\ Below w.heap.size w w'
def numB (p : Pk) : Bool := (decide (0 <= p.code) && decide (p.code <= 255)) && (decide (0 <= p.id) && decide (p.id <= 255))
def hasO (c : Int) : Bool := decide (1 <= c) && decide (c <= 4)
def layB (c i : Nat) (b : ByteArray) : ByteArray := (ByteArray.mk #[UInt8.ofNat c, UInt8.ofNat i] ++ ByteArray.mk #[UInt8.ofNat ((b.size + 4) / 256), UInt8.ofNat (b.size + 4)]) ++ b
def putBad (p : Pk) : Bool := !numB p || ((decide (0 < p.o.length) && !hasO p.code) || (decide (p.d.size ≠ 0) && hasO p.code))
def putPk (p : Pk) : ByteArray × Int :=
 if putBad p then (noB, 1) else if putE p.o ≠ 0 then (noB, putE p.o) else if 1488 < (putS p.o ++ p.d).size then (noB, 2) else (layB p.code.toNat p.id.toNat (putS p.o ++ p.d), 0)
theorem isE (d : ByteArray) : d.toList.isEmpty = !decide (d.size ≠ 0) := by
 rw [ByteArray.toList_eq]; obtain ⟨⟨l⟩⟩ := d
 cases l with
 | nil => rfl
 | cons x l => simp [ByteArray.size]
def rejS (p : Pk) : ByteArray := if (putPk p).2 = 0 then (putPk p).1.extract 0 (min ((putPk p).1.size : Int) 1488).toNat else noB
section
variable {w : World} {S ok : Nat -> Prop} {B : NegB} {C : NegC} {st : NSt} {X : NegX} (c : Came) (po pa : Value)
end
def RefPost (w w' : World) (S ok : Nat -> Prop) (B : NegB) (C : NegC) (r : NSt × Pk) (e : Ending) : Prop :=
 ∃ vo, e = .returned (pkV r.2 vo) /\ (Opts w' (Grow ok w) vo r.2.o /\ ORow w' 0 vo r.2.o /\ ∀ k, vo.ownBlock = some k -> Grow ok w k) /\ NegV w' (Grow S w) B C r.1 /\ Keep (fun b => b = B.nb) w w'
structure RefI (w wr : World) (c0 c1 : Array Value) (pi : Int) (v : Value) (kept : List Opt) : Prop where
 below : Below w.heap.size w wr
 x0 : wr.heap[w.heap.size]? = some (.cells c0 180 (0, 0))
 x1 : wr.heap[w.heap.size + 1]? = some (.cells c1 119 (0, 0))
 x2 : wr.heap[w.heap.size + 1 + 1]? = some (.cells #[.int .i64 4, .int .i64 pi, v, .string ⟨#[]⟩] 119 (0, 0))
 row : ORow wr (w.heap.size + 1 + 1 + 1) v kept
section
variable {w : World} {S ok : Nat -> Prop} {B : NegB} {C : NegC} {st : NSt} {X : NegX} (c : Came) (po pa : Value)
end
section
variable (rej : Pk -> ByteArray) {w : World} {S ok : Nat -> Prop} {B : NegB} {C : NegC} {st : NSt} {X : NegX} (c : Came) (po pa : Value)
end
def JudgeQ (g : Nat) (pf : Value) (w : World) (ok T : Nat -> Prop) (Q : World -> Prop) (l : List Opt) (lv : Value) (J : Int × List Opt) : Prop :=
 (∀ args w, (callFunc g args).run Tryz.prog w = .ok (.enter g args) w) /\
 ∀ W, Below w.heap.size w W -> Opts W ok lv l -> Calls Tryz.prog g #[pf, lv] W fun e w' => ∃ v, e = .returned (.tuple #[.int .i64 J.1, v]) /\ ORow w' W.heap.size v J.2 /\ Q w' /\ Keep T W w'
def EvQ (w w' : World) (S ok : Nat -> Prop) (B : NegB) (C : NegC) (T : Nat -> Prop) (Q : World -> Prop) (r : NSt × List Pk) (e : Ending) : Prop :=
 ∃ v, e = .returned v /\ PksAt w' (Grow ok w) w.heap.size v r.2 /\ NegV w' (Grow S w) B C r.1 /\ Q w' /\ Keep (fun b => B.t b \/ T b) w w'
section
variable (rej : Pk -> ByteArray) {w : World} {S ok T : Nat -> Prop} {Q : World -> Prop} {B : NegB} {C : NegC} {st : NSt} {X : NegX}
end
structure Parted (w0 w : World) (S S' : Nat -> Prop) (B B' : NegB) : Prop where
 d1 : ∀ b, S b -> ¬ B'.t b
 d2 : ∀ b, S' b -> ¬ B.t b
 n1 : ∀ b, S b -> w0.heap.size <= b
 n2 : ∀ b, S' b -> w0.heap.size <= b
 bl : Below w0.heap.size w0 w
def Two (w0 w : World) (B B' : NegB) (C C' : NegC) (st st' : NSt) (jb jb' : Nat) : Prop :=
 ∃ S S', NegP w S B C st jb /\ NegP w S' B' C' st' jb' /\ Parted w0 w S S' B B'
section
variable {w0 w w' : World} {S S' : Nat -> Prop} {B B' : NegB} {C C' : NegC} {st st' st1 : NSt} {jb jb' : Nat}
end
def NewJ (w w' : World) (v : Value) (ask : List Opt) (own peer : List Rl) (must : List Int) (cf tm fl wt : Int) (J : Value) : Prop :=
 ∃ B, v = .tuple #[.pointer (some ⟨B.nb, 0, none⟩), .int .i64 0] /\ NegV w' (fun b => w.heap.size <= b) B ⟨own, peer, must, cf, tm, fl, wt, J⟩ (st0 ask) /\ Below w.heap.size w w'
theorem newBy_endJ {J : Value} (hJ1 : J.oneCell' = true) (hJ2 : J ≠ .nilFunc) {w w6 w' : World} {nb jb : Nat} {ask : List Opt} {own peer : List Rl} {must : List Int} {q0 q1 q2 q3 q4 : Value} {cf tm fl wt : Int} (h6 : w.heap.size + 1 < w6.heap.size) (hB6 : Below w.heap.size w w6) (hb : Below w6.heap.size w6 w')
 (hr1 : RRow w6 (w.heap.size + 2) q1 own) (hr2 : RRow w6 (w.heap.size + 2) q2 peer) (hr3 : NRow w6 (w.heap.size + 2) q3 must) (hA6 : AutoAt w6 (w.heap.size + 1) 0 0 cf tm) (hr4 : ORow w' w6.heap.size q4 ask)
 (hn4 : ∀ k, q4.ownBlock = some k -> k ≠ nb /\ k ≠ jb)
 (hnb : w'.heap[nb]? = some (.cells #[.pointer (some ⟨w.heap.size + 1, 0, none⟩), q0, q1, q2, q3, .int .i64 cf, .int .i64 tm, .int .i64 fl, .int .i64 wt, J, q4, .int .u8 0, .int .u8 0, .int .i64 0, .int .i64 0, .slice none 0 0, .slice none 0 0, .int .i64 0, .int .i64 0] 177 (0, 0)))
 (_ : JAt w' jb nb) (_hne : nb ≠ jb) (h1 : w6.heap.size <= nb) (h2 : w6.heap.size <= jb)
 (hcf : 1 <= cf /\ cf <= 20) (htm : 1 <= tm /\ tm <= 20) (hf : 0 <= fl /\ fl <= 20) (hw : 1 <= wt /\ wt <= 100) (lo : own.length <= 1000) (lp : peer.length <= 1000) (lm : must.length <= 1000) (la : ask.length <= 30) :
 NewJ w w' (.tuple #[.pointer (some ⟨nb, 0, none⟩), .int .i64 0]) ask own peer must cf tm fl wt J := by
 obtain ⟨rb, hrb⟩ : ∃ rb, rb = q4.ownBlock.getD w.heap.size := ⟨_, rfl⟩; have hrq : ∀ k, q4.ownBlock = some k -> k = rb := fun k hk => by rw [hrb, hk]; rfl
 have hsz := hb.size
 have hrl : rb < w'.heap.size /\ w.heap.size <= rb /\ rb ≠ nb /\ rb ≠ jb /\ rb ≠ w.heap.size + 1 /\ (rb = w.heap.size \/ w6.heap.size <= rb) := by
  cases hq : q4.ownBlock with
  | none => rw [hq] at hrb; simp only [Option.getD_none] at hrb; subst hrb; refine ⟨by omega, Nat.le_refl _, by omega, by omega, by omega, .inl rfl⟩
  | some k =>
   have h3 := hr4.lt k hq; have h4 := hn4 k hq; have h5 := hrq k hq; subst h5; exact ⟨h3.1, by omega, h4.1, h4.2, by omega, .inr h3.2⟩
 obtain ⟨e1, e2, e3, e4, e5, e6⟩ := hrl
 have hm : ∀ b, (w.heap.size + 2 <= b /\ b < w6.heap.size) -> (NegB.mk nb (w.heap.size + 1) rb).r (fun b => w.heap.size <= b) b := by
  intro b hb; refine ⟨by omega, ?_⟩; rintro (h | h | h) <;> simp only at h <;> omega
 refine ⟨⟨nb, w.heap.size + 1, rb⟩, rfl, ⟨⟨q0, q1, q2, q3, q4, .slice none 0 0, .slice none 0 0⟩, ?_⟩, hB6.trans (hb.mono (by omega))⟩
 . exact {
    blk := hnb
    aut := hA6.below hb
    own := Rec.mono (Rls.below (Rec.old (hr1.rls (by unfold maxLen; omega))) hb) hm
    peer := Rec.mono (Rls.below (Rec.old (hr2.rls (by unfold maxLen; omega))) hb) hm
    must := Rec.mono (Nums.below (Rec.old (hr3.nums (by unfold maxLen; omega))) hb) hm
    req := hr4.base (Nat.zero_le _)
    rq := hrq
    mine := Rec.nil _ _ _
    theirs := Rec.nil _ _ _
    ne1 := show nb ≠ w.heap.size + 1 by omega
    ne2 := e3
    ne3 := e5
    rlt := e1
    s1 := show w.heap.size <= nb by omega
    s2 := show w.heap.size <= w.heap.size + 1 by omega
    s3 := e2
    ok := ⟨hcf, htm, hf, hw, lo, lp, lm, hJ1, hJ2⟩
    id := ⟨Int.le_refl 0, show (0 : Int) < 256 by decide⟩
    ak := ⟨Int.le_refl 0, show (0 : Int) < 256 by decide⟩
    ib := show InB 0 from ⟨by decide, by decide⟩
    ss := ⟨Int.le_refl 0, show (0 : Int) <= 9 by decide⟩
    lr := la
    lm := Nat.zero_le _
    lt := Nat.zero_le _ }
set_option maxRecDepth 100000 in
theorem newByJ (g : Nat) (pf : Value) (ask : List Opt) (own peer : List Rl) (must : List Int) (av ov pv mv : Value) (ok : Nat -> Prop) (cf tm fl wt : Int) (w : World) (ha : Opts w ok av ask) (ho : Rls w ok ov own) (hp : Rls w ok pv peer) (hm : Nums w ok mv must)
 (no : ∀ n c, ov = .slice none n c -> c = 0) (np : ∀ n c, pv = .slice none n c -> c = 0) (lo : own.length <= 1000) (lp : peer.length <= 1000) (lm : must.length <= 1000)
 (hcf : inB20 cf = true) (htm : inB20 tm = true) (hf0 : 0 <= fl) (hf1 : fl <= 20) (hw0 : 1 <= wt) (hw1 : wt <= 100) (hav : ∀ o ∈ ask, o.v.size <= 100000) (hask : putE ask = 0) (htw : twiceP [] ask = false)
 (hrs : ∀ r ∈ own ++ peer, r.s.size <= 100000) (hwr : (own ++ peer).any wrongR = false) :
 Calls Tryz.prog 70 #[.agg #[av, ov, pv, mv, .int .i64 cf, .int .i64 tm, .int .i64 fl, .int .i64 wt], .func (.func g) #[pf] #[]] w fun e w' => ∃ v, e = .returned v /\ NewJ w w' v ask own peer must cf tm fl wt (.func (.func g) #[pf] #[]) := by
 have hal : ask.length <= 30 := by
  unfold putE at hask
  by_cases h : 30 < ask.length
  . rw [if_pos h] at hask; cases hask
  . omega
 obtain ⟨sa, ca, rfl, hca, hma⟩ := ha.form; obtain ⟨so, co, rfl, hco, hmo⟩ := ho.form; obtain ⟨sp, cp, rfl, hcp, hmp⟩ := hp.form; obtain ⟨sm, cm, rfl, hcm, hmm⟩ := hm.form; have H := H_ (A_ ha (A_ ho (A_ hp hm))); have HN := H_ (A_ no np); have HP := H_ (A_ hav (A_ hask (A_ htw (A_ hrs hwr)))); clear ha ho hp hm no np hav hask htw hrs hwr; have d1 : decide (fl < 0) = false := by simp; omega
 have d2 : decide ((20 : Int) < fl) = false := by simp; omega
 have d3 : decide (wt < 1) = false := by simp; omega
 have d4 : decide ((100 : Int) < wt) = false := by simp; omega
 have HC := H_ (A_ hcf htm); clear hcf htm; go_enter Tryz.func70, Tryz.ntmps70; go_wp2_with fail; refine (new_ok cf tm _ HC.out.1 HC.out.2).mono ?_; rintro e w1 ⟨rfl, hA, hk⟩; have hB1 := hk.below (B := w.heap.size + 1) (by rw [alloc1]; omega) (fun _ _ h => h); have hbx : SetupAt w1 w.heap.size _ _ _ _ cf tm fl wt := (hB1.block w.heap.size (by omega)).trans (at1 w _); have HB1 := H_ (A_ (((Below.refl w.heap.size w).alloc (Nat.le_refl _) _).trans (hB1.mono (by omega))) (A_ hbx hA)); have x0 : w1.cell? ⟨w.heap.size, 0, none⟩ = some _ := cellOf hbx 0 _ rfl; have x6 : w1.cell? ⟨w.heap.size, 6, none⟩ = some _ := cellOf hbx 6 _ rfl; have x7 : w1.cell? ⟨w.heap.size, 7, none⟩ = some _ := cellOf hbx 7 _ rfl; have HPU := H_ (put_any ask _ ok w1 (H.out.1.below HB1.out.1) (by omega) HP.out.1); rw [HP.out.2.1] at HPU; clear hk hB1 hbx hA; go_wp2_with fail; refine HPU.out.mono ?_; rintro e w2 ⟨rfl, hb2⟩; have hlt1 : w.heap.size < w1.heap.size := (Array.getElem?_eq_some_iff.1 HB1.out.2.1).1; have hbx : SetupAt w2 w.heap.size _ _ _ _ cf tm fl wt := (hb2.block w.heap.size hlt1).trans HB1.out.2.1; have hA2 : AutoAt w2 (w.heap.size + 1) 0 0 cf tm := (hb2.block (w.heap.size + 1) (by have := HB1.out.2.2.lt; rw [alloc1] at this; exact this)).trans (by have := HB1.out.2.2; rw [alloc1] at this; exact this); have HB2 := H_ (A_ (HB1.out.1.trans (hb2.mono (by omega))) (A_ hbx hA2)); have y0 : w2.cell? ⟨w.heap.size, 0, none⟩ = some _ := cellOf hbx 0 _ rfl; have HTW := H_ (twice_any ask _ ok w2 (H.out.1.below HB2.out.1) (by omega)); rw [HP.out.2.2.1] at HTW; clear hb2 hbx hA2; go_wp2_with fail; refine HTW.out.mono ?_; rintro e w3 ⟨rfl, hb3⟩; have hlt2 : w.heap.size + 1 < w2.heap.size := HB2.out.2.2.lt; have hbx : SetupAt w3 w.heap.size _ _ _ _ cf tm fl wt := (hb3.block w.heap.size (by omega)).trans HB2.out.2.1; have hA3 : AutoAt w3 (w.heap.size + 1) 0 0 cf tm := (hb3.block (w.heap.size + 1) hlt2).trans HB2.out.2.2; have HB3 := H_ (A_ (HB2.out.1.trans (hb3.mono (by omega))) (A_ hbx hA3)); have t1 : w3.cell? ⟨w.heap.size, 1, none⟩ = some _ := cellOf hbx 1 _ rfl; have t2 : w3.cell? ⟨w.heap.size, 2, none⟩ = some _ := cellOf hbx 2 _ rfl; clear hb3 hbx hA3; go_wp2_with fail; have hB4 : Below w.heap.size w (w3.alloc (.cells #[.slice so own.length co, .slice sp peer.length cp] 161 (0, 0))) := HB3.out.1.alloc HB3.out.1.size _; refine (concat_any own peer _ _ ok w3.heap.size _ (H.out.2.1.below hB4) (H.out.2.2.1.below hB4) HN.out.1 HN.out.2 (at1 w3 _) lo lp).mono ?_; rintro e w4 ⟨v4, rfl, hrow, hb4⟩; have hlt3 : w.heap.size + 1 < w3.heap.size := HB3.out.2.2.lt; have hbx : SetupAt w4 w.heap.size _ _ _ _ cf tm fl wt := (hb4.block w.heap.size (by rw [alloc1]; omega)).trans ((Below.heap_alloc _ _ _ (by omega)).trans HB3.out.2.1); have hA4 : AutoAt w4 (w.heap.size + 1) 0 0 cf tm := (hb4.block (w.heap.size + 1) (by rw [alloc1]; omega)).trans ((Below.heap_alloc _ _ _ hlt3).trans HB3.out.2.2); have hBw4 := hB4.trans (hb4.mono (by rw [alloc1]; omega)); obtain ⟨s4, c4, hv4⟩ := hrow.form; subst hv4
 have HW := H_ (containsR_any (own ++ peer) _ _ 117 #[] wrongR w4 (hrow.rls (by rw [List.length_append]; unfold maxLen; omega)) (by rw [List.length_append]; omega) (enters_of Tryz.func117 (by kernel_rfl) rfl) (fun W r hr hW => by
  refine (wrong_any r W (HP.out.2.2.2.1 r hr)).mono ?_; rintro e w' ⟨rfl, hb⟩
  exact ⟨rfl, hW.trans (hb.mono hW.size)⟩))
 rw [HP.out.2.2.2.2, List.length_append] at HW; have HB4 := H_ (A_ hBw4 (A_ hbx hA4)); clear hB4 hrow hb4 hbx hA4 hBw4; go_wp2_with fail; refine HW.out.mono ?_; rintro e w5 ⟨rfl, hb5⟩; have hlt4 : w.heap.size + 1 < w4.heap.size := HB4.out.2.2.lt; have hbx : SetupAt w5 w.heap.size _ _ _ _ cf tm fl wt := (hb5.block w.heap.size (by omega)).trans HB4.out.2.1; have hA5 : AutoAt w5 (w.heap.size + 1) 0 0 cf tm := (hb5.block (w.heap.size + 1) hlt4).trans HB4.out.2.2; have HB5 := H_ (A_ (HB4.out.1.trans (hb5.mono (by omega))) (A_ hbx hA5)); have r0 : w5.cell? ⟨w.heap.size, 0, none⟩ = some _ := cellOf hbx 0 _ rfl; have r1 : w5.cell? ⟨w.heap.size, 1, none⟩ = some _ := cellOf hbx 1 _ rfl; have r2 : w5.cell? ⟨w.heap.size, 2, none⟩ = some _ := cellOf hbx 2 _ rfl; have r3 : w5.cell? ⟨w.heap.size, 3, none⟩ = some _ := cellOf hbx 3 _ rfl; clear hb5 hbx hA5; go_wp2_with fail; have hlt5 : w.heap.size + 1 < w5.heap.size := HB5.out.2.2.lt; refine wp_region_N 12 (fun W => SetupAt W w.heap.size (.slice sa ask.length ca) (.slice so own.length co) (.slice sp peer.length cp) (.slice sm must.length cm) cf tm fl wt) (by kernel_rfl) ?_; have HSv : SetupAt w5.drew w.heap.size (.slice sa ask.length ca) (.slice so own.length co) (.slice sp peer.length cp) (.slice sm must.length cm) cf tm fl wt := HB5.out.2.1; refine wpAnyN_take (i := 0) (oi := { dst := some 62, op := Op.fieldAddr 163 (Operand.tmp 2) 0, type := 0, pos := "neg.go:130", after := #[], guard := none }) (v := .pointer (some ⟨w.heap.size, 0, none⟩)) rfl (by kernel_rfl) (by kernel_rfl) (by kernel_rfl) (fun _ _ _ h => h) (Or.inl ⟨by rfl, ?_⟩) HSv ?_
 . intro W hW; go_simp
   try with_reducible rfl
 simp only [aZ, aA, aE, aB, aC, aD]; refine wpAnyN_take (i := 1) (oi := { dst := some 63, op := Op.load 76 (Operand.tmp 62), type := 76, pos := "neg.go:130", after := #[{ on := 0, ground := Ground.data }], guard := none }) (v := .slice sa ask.length ca) rfl (by kernel_rfl) (by kernel_rfl) (by kernel_rfl) (fun _ _ _ h => h) (Or.inl ⟨by rfl, ?_⟩) HSv ?_
 . intro W hW; have h1 := cellOf hW 0 _ rfl; go_simp
   try with_reducible rfl
 simp only [aZ, aA, aE, aB, aC, aD]; refine wpAnyN_take (i := 3) (oi := { dst := some 65, op := Op.fieldAddr 163 (Operand.tmp 2) 1, type := 0, pos := "neg.go:130", after := #[], guard := none }) (v := .pointer (some ⟨w.heap.size, 1, none⟩)) rfl (by kernel_rfl) (by kernel_rfl) (by kernel_rfl) (fun _ _ _ h => h) (Or.inl ⟨by rfl, ?_⟩) HSv ?_
 . intro W hW; go_simp
   try with_reducible rfl
 simp only [aZ, aA, aE, aB, aC, aD]; refine wpAnyN_take (i := 4) (oi := { dst := some 66, op := Op.load 161 (Operand.tmp 65), type := 161, pos := "neg.go:130", after := #[{ on := 3, ground := Ground.data }], guard := none }) (v := .slice so own.length co) rfl (by kernel_rfl) (by kernel_rfl) (by kernel_rfl) (fun _ _ _ h => h) (Or.inl ⟨by rfl, ?_⟩) HSv ?_
 . intro W hW; have h1 := cellOf hW 1 _ rfl; go_simp
   try with_reducible rfl
 simp only [aZ, aA, aE, aB, aC, aD]; refine wpAnyN_take (i := 6) (oi := { dst := some 68, op := Op.fieldAddr 163 (Operand.tmp 2) 2, type := 0, pos := "neg.go:130", after := #[], guard := none }) (v := .pointer (some ⟨w.heap.size, 2, none⟩)) rfl (by kernel_rfl) (by kernel_rfl) (by kernel_rfl) (fun _ _ _ h => h) (Or.inl ⟨by rfl, ?_⟩) HSv ?_
 . intro W hW; go_simp
   try with_reducible rfl
 simp only [aZ, aA, aE, aB, aC, aD]; refine wpAnyN_take (i := 7) (oi := { dst := some 69, op := Op.load 161 (Operand.tmp 68), type := 161, pos := "neg.go:130", after := #[{ on := 6, ground := Ground.data }], guard := none }) (v := .slice sp peer.length cp) rfl (by kernel_rfl) (by kernel_rfl) (by kernel_rfl) (fun _ _ _ h => h) (Or.inl ⟨by rfl, ?_⟩) HSv ?_
 . intro W hW; have h1 := cellOf hW 2 _ rfl; go_simp
   try with_reducible rfl
 simp only [aZ, aA, aE, aB, aC, aD]; refine wpAnyN_take (i := 9) (oi := { dst := some 71, op := Op.fieldAddr 163 (Operand.tmp 2) 3, type := 0, pos := "neg.go:130", after := #[], guard := none }) (v := .pointer (some ⟨w.heap.size, 3, none⟩)) rfl (by kernel_rfl) (by kernel_rfl) (by kernel_rfl) (fun _ _ _ h => h) (Or.inl ⟨by rfl, ?_⟩) HSv ?_
 . intro W hW; go_simp
   try with_reducible rfl
 simp only [aZ, aA, aE, aB, aC, aD]; refine wpAnyN_take (i := 10) (oi := { dst := some 72, op := Op.load 38 (Operand.tmp 71), type := 38, pos := "neg.go:130", after := #[{ on := 9, ground := Ground.data }], guard := none }) (v := .slice sm must.length cm) rfl (by kernel_rfl) (by kernel_rfl) (by kernel_rfl) (fun _ _ _ h => h) (Or.inl ⟨by rfl, ?_⟩) HSv ?_
 . intro W hW; have h1 := cellOf hW 3 _ rfl; go_simp
   try with_reducible rfl
 simp only [aZ, aA, aE, aB, aC, aD]; have HBc := H_ (Below.refl w5.drew.heap.size w5.drew); have hw5 : ∀ W, Below w5.drew.heap.size w5.drew W -> Below w.heap.size w W := fun W hW => HB5.out.1.drew.trans (hW.mono (show w.heap.size <= w5.heap.size by omega)); have Hw5 := H_ hw5; clear hw5; refine wpAnyN_one (i := 2) (o := { dst := some 64, op := Op.call { callee := Callee.value (Operand.func 118), args := #[Operand.tmp 63], argTypes := #[76] }, type := 76, pos := "neg.go:130", after := #[{ on := 1, ground := Ground.data }], guard := none }) rfl (by kernel_rfl) ?_
 intro K hK; rw [if_pos (by rfl)]
 try go_simp
 go_at_call 118; refine (clone_any ask _ ok _ (H.out.1.below (Hw5.out _ HBc.out)) (by omega)).mono ?_; rintro e W0 ⟨v0, rfl, hr0, hb⟩; obtain ⟨q0, k0, rfl⟩ := hr0.form; have HBc := H_ (HBc.out.trans (hb.mono HBc.out.size)); have HSv : SetupAt W0 w.heap.size (.slice sa ask.length ca) (.slice so own.length co) (.slice sp peer.length cp) (.slice sm must.length cm) cf tm fl wt := (HBc.out.block w.heap.size (show w.heap.size < w5.heap.size by omega)).trans HB5.out.2.1; have HBW0 := H_ hb; have Hhr0 := H_ hr0; clear hb hr0; refine hK.out _ _ (fun _ => HSv) ?_; clear hK
 try simp only [aZ, aA, aE, aB, aC, aD]
 refine wpAnyN_late (i := 12) (oi := { dst := some 74, op := Op.fieldAddr 163 (Operand.tmp 2) 0, type := 0, pos := "neg.go:130", after := #[{ on := 0, ground := Ground.phase }, { on := 1, ground := Ground.phase }, { on := 2, ground := Ground.phase }, { on := 3, ground := Ground.phase }, { on := 4, ground := Ground.phase }, { on := 5, ground := Ground.textOnly Departure.lateStoresUnsure }, { on := 6, ground := Ground.phase }, { on := 7, ground := Ground.phase }, { on := 8, ground := Ground.textOnly Departure.lateStoresUnsure }, { on := 9, ground := Ground.phase }, { on := 10, ground := Ground.phase }, { on := 11, ground := Ground.textOnly Departure.lateStoresUnsure }], guard := none }) (v := .pointer (some ⟨w.heap.size, 0, none⟩)) rfl (by kernel_rfl) (by kernel_rfl) (by kernel_rfl) (fun _ _ _ h => h) (Or.inl ⟨by rfl, ?_⟩) ?_
 . intro W hW; go_simp
   try with_reducible rfl
 simp only [aZ, aA, aE, aB, aC, aD]; refine wpAnyN_one (i := 5) (o := { dst := some 67, op := Op.call { callee := Callee.value (Operand.func 119), args := #[Operand.tmp 66], argTypes := #[161] }, type := 161, pos := "neg.go:130", after := #[{ on := 4, ground := Ground.data }, { on := 2, ground := Ground.chain }], guard := none }) rfl (by kernel_rfl) ?_
 intro K hK; rw [if_pos (by rfl)]
 try go_simp
 go_at_call 119; refine (cloneR_any own _ ok _ (H.out.2.1.below (Hw5.out _ HBc.out)) (by omega)).mono ?_; rintro e W1 ⟨v1, rfl, hr1, hb⟩; obtain ⟨q1, k1, rfl⟩ := hr1.form; have HBc := H_ (HBc.out.trans (hb.mono HBc.out.size)); have HSv : SetupAt W1 w.heap.size (.slice sa ask.length ca) (.slice so own.length co) (.slice sp peer.length cp) (.slice sm must.length cm) cf tm fl wt := (HBc.out.block w.heap.size (show w.heap.size < w5.heap.size by omega)).trans HB5.out.2.1; have HBW1 := H_ hb; have Hhr1 := H_ hr1; clear hb hr1; refine hK.out _ _ (fun _ => HSv) ?_; clear hK
 try simp only [aZ, aA, aE, aB, aC, aD]
 refine wpAnyN_one (i := 8) (o := { dst := some 70, op := Op.call { callee := Callee.value (Operand.func 119), args := #[Operand.tmp 69], argTypes := #[161] }, type := 161, pos := "neg.go:130", after := #[{ on := 7, ground := Ground.data }, { on := 5, ground := Ground.chain }], guard := none }) rfl (by kernel_rfl) ?_
 intro K hK; rw [if_pos (by rfl)]
 try go_simp
 go_at_call 119; refine (cloneR_any peer _ ok _ (H.out.2.2.1.below (Hw5.out _ HBc.out)) (by omega)).mono ?_; rintro e W2 ⟨v2, rfl, hr2, hb⟩; obtain ⟨q2, k2, rfl⟩ := hr2.form; have HBc := H_ (HBc.out.trans (hb.mono HBc.out.size)); have HSv : SetupAt W2 w.heap.size (.slice sa ask.length ca) (.slice so own.length co) (.slice sp peer.length cp) (.slice sm must.length cm) cf tm fl wt := (HBc.out.block w.heap.size (show w.heap.size < w5.heap.size by omega)).trans HB5.out.2.1; have HBW2 := H_ hb; have Hhr2 := H_ hr2; clear hb hr2; refine hK.out _ _ (fun _ => HSv) ?_; clear hK
 try simp only [aZ, aA, aE, aB, aC, aD]
 refine wpAnyN_one (i := 11) (o := { dst := some 73, op := Op.call { callee := Callee.value (Operand.func 32), args := #[Operand.tmp 72], argTypes := #[38] }, type := 38, pos := "neg.go:130", after := #[{ on := 10, ground := Ground.data }, { on := 8, ground := Ground.chain }], guard := none }) rfl (by kernel_rfl) ?_
 intro K hK; rw [if_pos (by rfl)]
 try go_simp
 go_at_call 32; refine (cloneN_any must _ ok _ (H.out.2.2.2.below (Hw5.out _ HBc.out)) (by omega)).mono ?_; rintro e W3 ⟨v3, rfl, hr3, hb⟩; obtain ⟨q3, k3, rfl⟩ := hr3.form; have HBc := H_ (HBc.out.trans (hb.mono HBc.out.size)); have HSv : SetupAt W3 w.heap.size (.slice sa ask.length ca) (.slice so own.length co) (.slice sp peer.length cp) (.slice sm must.length cm) cf tm fl wt := (HBc.out.block w.heap.size (show w.heap.size < w5.heap.size by omega)).trans HB5.out.2.1; have HBW3 := H_ hb; have Hhr3 := H_ hr3; clear hb hr3; refine hK.out _ _ (fun _ => HSv) ?_; clear hK
 try simp only [aZ, aA, aE, aB, aC, aD]
 refine wpAnyN_end 13 (by decide) rfl (by kernel_rfl) ?_; simp only [List.drop_succ_cons, List.drop_zero]; have z0 : W3.cell? ⟨w.heap.size, 0, none⟩ = some _ := cellOf HSv 0 _ rfl; have z1 : W3.cell? ⟨w.heap.size, 1, none⟩ = some _ := cellOf HSv 1 _ rfl; have z2 : W3.cell? ⟨w.heap.size, 2, none⟩ = some _ := cellOf HSv 2 _ rfl; have z3 : W3.cell? ⟨w.heap.size, 3, none⟩ = some _ := cellOf HSv 3 _ rfl; have fz : ∀ o, W3.frozen? ⟨w.heap.size, o, none⟩ = false := fun o => fzOf HSv o; go_wp2_with fail
 have hS6 : SetupAt ((((W3.setCell ⟨w.heap.size, 0, none⟩ (.slice q0 ask.length k0)).setCell ⟨w.heap.size, 1, none⟩ (.slice q1 own.length k1)).setCell ⟨w.heap.size, 2, none⟩ (.slice q2 peer.length k2)).setCell ⟨w.heap.size, 3, none⟩ (.slice q3 must.length k3))
  w.heap.size (.slice q0 ask.length k0) (.slice q1 own.length k1) (.slice q2 peer.length k2) (.slice q3 must.length k3) cf tm fl wt := set_block (set_block (set_block (set_block HSv 0 _) 1 _) 2 _) 3 _
 have hk6 : Keep (fun k => k = w.heap.size) W3 ((((W3.setCell ⟨w.heap.size, 0, none⟩ (.slice q0 ask.length k0)).setCell ⟨w.heap.size, 1, none⟩ (.slice q1 own.length k1)).setCell ⟨w.heap.size, 2, none⟩ (.slice q2 peer.length k2)).setCell ⟨w.heap.size, 3, none⟩ (.slice q3 must.length k3)) :=
  keep4 W3 w.heap.size _ _ _ _
 generalize ((((W3.setCell ⟨w.heap.size, 0, none⟩ (.slice q0 ask.length k0)).setCell ⟨w.heap.size, 1, none⟩ (.slice q1 own.length k1)).setCell ⟨w.heap.size, 2, none⟩ (.slice q2 peer.length k2)).setCell ⟨w.heap.size, 3, none⟩ (.slice q3 must.length k3)) = w6 at hS6 hk6 ⊢; have hsz : w5.heap.size <= W0.heap.size := HBW0.out.size; have hsz1 := HBW1.out.size; have hsz2 := HBW2.out.size; have hsz3 := HBW3.out.size; have hsz5 : w5.drew.heap.size = w5.heap.size := rfl; have hr0 : ORow w6 (w.heap.size + 2) (.slice q0 ask.length k0) ask := ((((Hhr0.out.below HBW1.out).below HBW2.out).below HBW3.out).keep hk6 (fun k hk he => by have := (Hhr0.out.lt k hk).2; omega)).base (by omega); have hr1 : RRow w6 (w.heap.size + 2) (.slice q1 own.length k1) own := (((Hhr1.out.below HBW2.out).below HBW3.out).keep hk6 (fun k hk he => by have := (Hhr1.out.lt k hk).2; omega)).base (by omega); have hr2 : RRow w6 (w.heap.size + 2) (.slice q2 peer.length k2) peer := ((Hhr2.out.below HBW3.out).keep hk6 (fun k hk he => by have := (Hhr2.out.lt k hk).2; omega)).base (by omega); have hr3 : NRow w6 (w.heap.size + 2) (.slice q3 must.length k3) must := (Hhr3.out.keep hk6 (fun k hk he => by have := (Hhr3.out.lt k hk).2; omega)).base (by omega); have hA6 : AutoAt w6 (w.heap.size + 1) 0 0 cf tm := (hk6.block (w.heap.size + 1) (by omega) (by omega)).trans ((HBc.out.block (w.heap.size + 1) hlt5).trans HB5.out.2.2); have hB6 : Below w.heap.size w w6 := (Hw5.out _ HBc.out).trans (hk6.below (by omega) (by omega)); have hlt6 : w.heap.size + 1 < w6.heap.size := hA6.lt; have HR := H_ (A_ hr0 (A_ hr1 (A_ hr2 (A_ hr3 (A_ hA6 hB6)))))
 have HK : Hid (∀ W, Below w6.heap.size w6 W -> W.cell? ⟨w.heap.size, 0, none⟩ = some (.slice q0 ask.length k0) /\ W.cell? ⟨w.heap.size, 1, none⟩ = some (.slice q1 own.length k1) /\ W.cell? ⟨w.heap.size, 2, none⟩ = some (.slice q2 peer.length k2) /\
  W.cell? ⟨w.heap.size, 3, none⟩ = some (.slice q3 must.length k3) /\ W.cell? ⟨w.heap.size, 4, none⟩ = some (.int .i64 cf) /\ W.cell? ⟨w.heap.size, 5, none⟩ = some (.int .i64 tm) /\ W.cell? ⟨w.heap.size, 6, none⟩ = some (.int .i64 fl) /\ W.cell? ⟨w.heap.size, 7, none⟩ = some (.int .i64 wt)) := H_ fun W hW => by
  have h1 : SetupAt W _ _ _ _ _ cf tm fl wt := (hW.block w.heap.size (by omega)).trans hS6; exact ⟨cellOf h1 0 _ rfl, cellOf h1 1 _ rfl, cellOf h1 2 _ rfl, cellOf h1 3 _ rfl, cellOf h1 4 _ rfl, cellOf h1 5 _ rfl, cellOf h1 6 _ rfl, cellOf h1 7 _ rfl⟩
 have HC6 := H_ (fun W (hW : Below w6.heap.size w6 W) => clone_any ask _ (fun b => w.heap.size + 2 <= b) W ((hr0.opts (by unfold maxLen; omega)).below hW) (by omega)); obtain ⟨c0, c1, c2, c3, c4, c5, c6, c7⟩ := HK.out w6.drew (Below.refl _ _).drew; clear HSv hS6 hk6 hr0 hr1 hr2 hr3 hA6 hB6 hsz hsz1 hsz2 hsz3 hsz5 z0 z1 z2 z3 fz HBc Hw5 HBW0 HBW1 HBW2 HBW3 Hhr0 Hhr1 Hhr2 Hhr3 HB5 HB4 HB3 HB2 HB1 HTW HW HPU x0 x6 x7 y0 t1 t2 r0 r1 r2 r3 d1 d2 d3 d4 hlt1 hlt2 hlt3 hlt4 hlt5
 go_region_held3 (fun W => W.cell? ⟨w.heap.size, 0, none⟩ = some (.slice q0 ask.length k0) /\ W.cell? ⟨w.heap.size, 1, none⟩ = some (.slice q1 own.length k1) /\ W.cell? ⟨w.heap.size, 2, none⟩ = some (.slice q2 peer.length k2) /\
  W.cell? ⟨w.heap.size, 3, none⟩ = some (.slice q3 must.length k3) /\ W.cell? ⟨w.heap.size, 4, none⟩ = some (.int .i64 cf) /\ W.cell? ⟨w.heap.size, 5, none⟩ = some (.int .i64 tm) /\ W.cell? ⟨w.heap.size, 6, none⟩ = some (.int .i64 fl) /\ W.cell? ⟨w.heap.size, 7, none⟩ = some (.int .i64 wt))
  (first
   | exact HK.out _ HB7.out.1
   | exact HK.out _ ((Below.refl _ _).alloc (Nat.le_refl _) _).drew
   | exact HK.out _ ((Below.setCell HB7.out.1 (p := ⟨w6.heap.size, 0, none⟩) (Nat.le_refl _) _).alloc (Below.setCell HB7.out.1 (p := ⟨w6.heap.size, 0, none⟩) (Nat.le_refl _) _).size _)
   | exact HK.out _ ((HB7.out.1.alloc HB7.out.1.size _).alloc (by rw [alloc1]; exact Nat.le_succ_of_le HB7.out.1.size) _)
   | exact HK.out _ (Below.setCell (HB7.out.1.alloc HB7.out.1.size _) (by exact Nat.le_refl _) _)
   | exact HK.out _ (Below.setCell ((HB7.out.1.alloc HB7.out.1.size _).alloc (by rw [alloc1]; exact Nat.le_succ_of_le HB7.out.1.size) _) (by exact HB7.out.1.size) _)
   | exact HK.out _ (Below.setCell ((HB7.out.1.alloc HB7.out.1.size _).alloc (by rw [alloc1]; exact Nat.le_succ_of_le HB7.out.1.size) _) (by exact Nat.le_succ_of_le HB7.out.1.size) _)
   | go_keep)
  (first
   | (
    go_at_call 118; refine (HC6.out _ (by first | exact (Below.refl _ _).drew | exact ((Below.refl _ _).alloc (Nat.le_refl _) _).drew)).mono ?_; rintro e W4 ⟨v4, rfl, hr4, hb4⟩; obtain ⟨q4, k4, rfl⟩ := hr4.form; have HB7 := H_ (A_ (show Below w6.heap.size w6 W4 from Below.trans (by first | exact (Below.refl _ _).drew | exact ((Below.refl _ _).alloc (Nat.le_refl _) _).drew) (hb4.mono (by first | exact Nat.le_refl _ | exact ((Below.refl w6.heap.size w6).alloc (Nat.le_refl _) _).drew.size))) (A_ hr4 hb4))
    try (
     have hz4 : W4.heap[w6.heap.size]? = some (.cells #[.pointer none] 124 (0, 0)) := (hb4.block w6.heap.size (by rw [show ((w6.alloc (.cells #[.pointer none] 124 (0, 0))).drew).heap.size = w6.heap.size + 1 from alloc1 _ _]; exact Nat.lt_succ_self _)).trans (at1 w6 _); have hlt4 : w6.heap.size < W4.heap.size := (Array.getElem?_eq_some_iff.1 hz4).1; have hz5 : ∀ X, (W4.alloc X).cell? ⟨w6.heap.size, 0, none⟩ = some (.pointer none) := fun X => cellOf ((Below.heap_alloc _ _ _ hlt4).trans hz4) 0 _ rfl
     have hz6 : ∀ X, (W4.alloc X).frozen? ⟨w6.heap.size, 0, none⟩ = false := fun X => fzOf ((Below.heap_alloc _ _ _ hlt4).trans hz4) 0)
    clear hr4 hb4))
 all_goals have qf : ∀ w, (binOp .eql 175 (.func (.func g) #[pf] #[]) .nilFunc).run Tryz.prog w = .ok (.bool false) w := fun w => by kernel_rfl
 all_goals try have hz7 : ∀ v X, ((W4.setCell ⟨w6.heap.size, 0, none⟩ v).alloc X).cell? ⟨w6.heap.size, 0, none⟩ = some v := fun v X => cellOf ((Below.heap_alloc _ _ _ (Array.getElem?_eq_some_iff.1 (set_block hz4 0 _)).1).trans (set_block hz4 0 _)) 0 _ rfl
 all_goals go_wp2_with fail
 all_goals go_ret2
 all_goals have hl4 := fun k hk => HB7.out.2.1.lt k hk
 all_goals have hsz4 := HB7.out.2.2.size
 all_goals have h64 := HB7.out.1.size
 all_goals have hcf := inB20_true.1 HC.out.1
 all_goals have htm := inB20_true.1 HC.out.2
 all_goals first
  | exact ⟨_, rfl, newBy_endJ rfl (fun h => by cases h) (by omega) HR.out.2.2.2.2.2 ((HB7.out.1.alloc HB7.out.1.size _).alloc (by rw [alloc1]; omega) _) HR.out.2.1 HR.out.2.2.1 HR.out.2.2.2.1 HR.out.2.2.2.2.1
   (((HB7.out.2.1.base (by first | exact Nat.le_refl _ | (rw [alloc1]; omega))).below ((Below.refl _ _).alloc (Nat.le_refl _) _)).below ((Below.refl _ _).alloc (Nat.le_refl _) _)) (fun k hk => by have := (hl4 k hk).1; omega)
   ((Below.heap_alloc _ _ _ (by rw [alloc1]; omega)).trans (at1 W4 _)) (at21 W4 _ _) (by omega) (by omega) (by omega) hcf htm ⟨hf0, hf1⟩ ⟨hw0, hw1⟩ lo lp lm hal⟩
  | exact ⟨_, rfl, newBy_endJ rfl (fun h => by cases h) (by omega) HR.out.2.2.2.2.2 ((HB7.out.1.alloc HB7.out.1.size _).alloc (by rw [alloc1]; omega) _) HR.out.2.1 HR.out.2.2.1 HR.out.2.2.2.1 HR.out.2.2.2.2.1
   (((HB7.out.2.1.base (by first | exact Nat.le_refl _ | (rw [alloc1]; omega))).below ((Below.refl _ _).alloc (Nat.le_refl _) _)).below ((Below.refl _ _).alloc (Nat.le_refl _) _)) (fun k hk => by have := (hl4 k hk).1; omega)
   (at21 W4 _ _) ((Below.heap_alloc _ _ _ (by rw [alloc1]; omega)).trans (at1 W4 _)) (by omega) (by omega) (by omega) hcf htm ⟨hf0, hf1⟩ ⟨hw0, hw1⟩ lo lp lm hal⟩
  | skip
 . have hszA : (w6.alloc (.cells #[.pointer none] 124 (0, 0))).drew.heap.size = w6.heap.size + 1 := alloc1 _ _; have hszB : ∀ v, (W4.setCell ⟨w6.heap.size, 0, none⟩ v).heap.size = W4.heap.size := fun v => by simp [World.setCell]
   have hat : ∀ v A, ((W4.setCell ⟨w6.heap.size, 0, none⟩ v).alloc A).heap[W4.heap.size]? = some A := fun v A => by rw [<- hszB v]; exact at1 _ A
   refine ⟨_, rfl, newBy_endJ rfl (fun h => by cases h) (by omega) HR.out.2.2.2.2.2 ((Below.setCell HB7.out.1 (p := ⟨w6.heap.size, 0, none⟩) (Nat.le_refl _) _).alloc (by rw [hszB]; omega) _) HR.out.2.1 HR.out.2.2.1 HR.out.2.2.2.1 HR.out.2.2.2.2.1
    (((HB7.out.2.1.keep ((Keep.refl (fun k => k = w6.heap.size) W4).setCell ⟨w6.heap.size, 0, none⟩ (Or.inr rfl) _) (fun k hk he => by have := (hl4 k hk).2; omega)).base (by omega)).below ((Below.refl _ _).alloc (Nat.le_refl _) _)) (fun k hk => by have := hl4 k hk; omega)
    (hat _ _) ((Below.heap_alloc _ _ _ (by rw [hszB]; omega)).trans (set_block hz4 0 _)) (by omega) (by omega) (by omega) hcf htm ⟨hf0, hf1⟩ ⟨hw0, hw1⟩ lo lp lm hal⟩
end Go.Proofs.YtoblffnlopmebaaGreat
