import Derived.Test.YtbiaempeegfdkaaGreatPAN
import Derived.Test.YtbiaempeegfdkaaGreatPAA
import Derived.Laws.EntriesVeiled
import Derived.Laws.IdiomStrings
set_option linter.unusedVariables false
set_option linter.unusedSimpArgs false
set_option maxHeartbeats 16000000
namespace Go.Proofs.YtbiaempeegfdkaaGreat
open Go.RowKit Go.Tg Go.Maps
def Grow (S : Nat -> Prop) (w : World) : Nat -> Prop := fun k => S k \/ w.heap.size <= k
structure NegC where
 own : List Rl
 peer : List Rl
 must : List Int
 cf : Int
 tm : Int
 fl : Int
 wt : Int
 judge : Value
structure NegC.Ok (C : NegC) : Prop where
 cf : 1 <= C.cf /\ C.cf <= 20
 tm : 1 <= C.tm /\ C.tm <= 20
 fl : 0 <= C.fl /\ C.fl <= 20
 wt : 1 <= C.wt /\ C.wt <= 100
 own : C.own.length <= 1000
 peer : C.peer.length <= 1000
 must : C.must.length <= 1000
 one : C.judge.oneCell' = true
 jn : C.judge ≠ .nilFunc
structure NSt where
 s : Int
 c : Int
 id : Int
 asked : Int
 naks : Int
 ticks : Int
 req : List Opt
 mine : List Opt
 theirs : List Opt
 ups : Int
 downs : Int
structure NegB where
 nb : Nat
 ab : Nat
 rb : Nat
def NegB.t (B : NegB) (b : Nat) : Prop := b = B.nb \/ b = B.ab \/ b = B.rb
def NegB.r (B : NegB) (S : Nat -> Prop) (b : Nat) : Prop := S b /\ ¬ B.t b
structure NegX where
 ask : Value
 own : Value
 peer : Value
 must : Value
 req : Value
 mine : Value
 theirs : Value
def negCells (B : NegB) (C : NegC) (st : NSt) (X : NegX) : Array Value :=
 #[.pointer (some ⟨B.ab, 0, none⟩), X.ask, X.own, X.peer, X.must, .int .i64 C.cf, .int .i64 C.tm, .int .i64 C.fl, .int .i64 C.wt, C.judge, X.req, .int .u8 st.id, .int .u8 st.asked,
  .int .i64 st.naks, .int .i64 st.ticks, X.mine, X.theirs, .int .i64 st.ups, .int .i64 st.downs]
structure NegAt (w : World) (S : Nat -> Prop) (B : NegB) (C : NegC) (st : NSt) (X : NegX) : Prop where
 blk : w.heap[B.nb]? = some (.cells (negCells B C st X) 122 (0, 0))
 aut : AutoAt w B.ab st.s st.c C.cf C.tm
 own : Rls w (B.r S) X.own C.own
 peer : Rls w (B.r S) X.peer C.peer
 must : Nums w (B.r S) X.must C.must
 req : ORow w 0 X.req st.req
 rq : ∀ k, X.req.ownBlock = some k -> k = B.rb
 mine : Opts w (B.r S) X.mine st.mine
 theirs : Opts w (B.r S) X.theirs st.theirs
 ne1 : B.nb ≠ B.ab
 ne2 : B.rb ≠ B.nb
 ne3 : B.rb ≠ B.ab
 rlt : B.rb < w.heap.size
 s1 : S B.nb
 s2 : S B.ab
 s3 : S B.rb
 ok : C.Ok
 id : 0 <= st.id /\ st.id < 256
 ak : 0 <= st.asked /\ st.asked < 256
 ib : InB st.c
 ss : 0 <= st.s /\ st.s <= 9
 lr : st.req.length <= 30
 lm : st.mine.length <= 1000000
 lt : st.theirs.length <= 1000000
def NegV (w : World) (S : Nat -> Prop) (B : NegB) (C : NegC) (st : NSt) : Prop := ∃ X, NegAt w S B C st X
section
variable {w w' : World} {S S' T : Nat -> Prop} {B : NegB} {C : NegC} {st st' : NSt} {X X' : NegX}
theorem NegAt.nlt (h : NegAt w S B C st X) : B.nb < w.heap.size := (Array.getElem?_eq_some_iff.1 h.blk).1
theorem NegAt.alt (h : NegAt w S B C st X) : B.ab < w.heap.size := h.aut.lt
theorem NegAt.cell (h : NegAt w S B C st X) (o : Nat) : w.cell? ⟨B.nb, o, none⟩ = (negCells B C st X)[o]? := cell_of_block h.blk o
theorem NegAt.fz (h : NegAt w S B C st X) (o : Nat) : w.frozen? ⟨B.nb, o, none⟩ = false := frozen_of_block h.blk o
theorem NegAt.tlt (h : NegAt w S B C st X) {b : Nat} (hb : B.t b) : b < w.heap.size := by
 rcases hb with rfl | rfl | rfl
 . exact h.nlt
 . exact h.alt
 . exact h.rlt
theorem NegAt.keep (h : NegAt w S B C st X) (hk : Keep T w w') (hT : ∀ b, b < w.heap.size -> S b -> ¬ T b) : NegAt w' S B C st X where
 blk := (hk.block _ h.nlt (hT _ h.nlt h.s1)).trans h.blk
 aut := h.aut.keep hk (hT _ h.alt h.s2)
 own := Rec.keep h.own hk (fun b hb h => hT b hb h.1)
 peer := Rec.keep h.peer hk (fun b hb h => hT b hb h.1)
 must := Rec.keep h.must hk (fun b hb h => hT b hb h.1)
 req := h.req.keep hk (fun k hk' => by rw [h.rq k hk']; exact hT _ h.rlt h.s3)
 rq := h.rq
 mine := Rec.keep h.mine hk (fun b hb h => hT b hb h.1)
 theirs := Rec.keep h.theirs hk (fun b hb h => hT b hb h.1)
 ne1 := h.ne1
 ne2 := h.ne2
 ne3 := h.ne3
 rlt := Nat.lt_of_lt_of_le h.rlt hk.size
 s1 := h.s1
 s2 := h.s2
 s3 := h.s3
 ok := h.ok
 id := h.id
 ak := h.ak
 ib := h.ib
 ss := h.ss
 lr := h.lr
 lm := h.lm
 lt := h.lt
theorem NegAt.below (h : NegAt w S B C st X) (hb : Below w.heap.size w w') : NegAt w' S B C st X := h.keep (Keep.of_below (fun _ => False) hb) (fun _ _ _ h => h)
theorem NegAt.mono (h : NegAt w S B C st X) (hS : ∀ b, S b -> S' b) : NegAt w S' B C st X :=
 { h with
  own := Rec.mono h.own (fun b hb => ⟨hS b hb.1, hb.2⟩), peer := Rec.mono h.peer (fun b hb => ⟨hS b hb.1, hb.2⟩), must := Rec.mono h.must (fun b hb => ⟨hS b hb.1, hb.2⟩),
  mine := Rec.mono h.mine (fun b hb => ⟨hS b hb.1, hb.2⟩), theirs := Rec.mono h.theirs (fun b hb => ⟨hS b hb.1, hb.2⟩), s1 := hS _ h.s1, s2 := hS _ h.s2, s3 := hS _ h.s3 }
theorem NegV.keep (h : NegV w S B C st) (hk : Keep T w w') (hT : ∀ b, b < w.heap.size -> S b -> ¬ T b) : NegV w' S B C st := ⟨_, h.choose_spec.keep hk hT⟩
theorem NegV.below (h : NegV w S B C st) (hb : Below w.heap.size w w') : NegV w' S B C st := ⟨_, h.choose_spec.below hb⟩
theorem NegV.mono (h : NegV w S B C st) (hS : ∀ b, S b -> S' b) : NegV w S' B C st := ⟨_, h.choose_spec.mono hS⟩
theorem NegAt.old (h : NegAt w S B C st X) : NegAt w (fun b => S b /\ b < w.heap.size) B C st X :=
 { h with
  own := Rec.mono (Rec.old h.own) (fun _ hb => ⟨⟨hb.1.1, hb.2⟩, hb.1.2⟩), peer := Rec.mono (Rec.old h.peer) (fun _ hb => ⟨⟨hb.1.1, hb.2⟩, hb.1.2⟩), must := Rec.mono (Rec.old h.must) (fun _ hb => ⟨⟨hb.1.1, hb.2⟩, hb.1.2⟩),
  mine := Rec.mono (Rec.old h.mine) (fun _ hb => ⟨⟨hb.1.1, hb.2⟩, hb.1.2⟩), theirs := Rec.mono (Rec.old h.theirs) (fun _ hb => ⟨⟨hb.1.1, hb.2⟩, hb.1.2⟩), s1 := ⟨h.s1, h.nlt⟩, s2 := ⟨h.s2, h.alt⟩, s3 := ⟨h.s3, h.rlt⟩ }
theorem NegAt.turn (h : NegAt w S B C st X) (hk : Keep (fun b => b = B.nb) w w') (hb : w'.heap[B.nb]? = some (.cells (negCells B C st' X') 122 (0, 0)))
 (hX : X'.own = X.own /\ X'.peer = X.peer /\ X'.must = X.must /\ X'.req = X.req) (hs : st'.s = st.s /\ st'.c = st.c /\ st'.req = st.req) (hid : 0 <= st'.id /\ st'.id < 256)
 (hm : Opts w' (B.r (Grow S w)) X'.mine st'.mine) (ht : Opts w' (B.r (Grow S w)) X'.theirs st'.theirs) (lm : st'.mine.length <= 1000000) (lt : st'.theirs.length <= 1000000) (has : st'.asked = st.asked \/ (0 <= st'.asked /\ st'.asked < 256) := by exact Or.inl rfl) : NegAt w' (Grow S w) B C st' X' := by
 have g : ∀ b, B.r S b -> B.r (Grow S w) b := fun b hb => ⟨.inl hb.1, hb.2⟩; have hn : ∀ b, b < w.heap.size -> B.r S b -> ¬ (b = B.nb) := fun b _ hb he => hb.2 (.inl he); obtain ⟨x1, x2, x3, x4⟩ := hX; obtain ⟨e1, e2, e3⟩ := hs
 exact {
  blk := hb, aut := by rw [e1, e2]; exact h.aut.keep hk (fun he => h.ne1 he.symm), own := by rw [x1]; exact Rec.mono (Rec.keep h.own hk hn) g, peer := by rw [x2]; exact Rec.mono (Rec.keep h.peer hk hn) g,
  must := by rw [x3]; exact Rec.mono (Rec.keep h.must hk hn) g, req := by rw [x4, e3]; exact h.req.keep hk (fun k hk' he => h.ne2 ((h.rq k hk').symm.trans he)), rq := by rw [x4]; exact h.rq, mine := hm, theirs := ht,
  ne1 := h.ne1, ne2 := h.ne2, ne3 := h.ne3, rlt := Nat.lt_of_lt_of_le h.rlt hk.size, s1 := .inl h.s1, s2 := .inl h.s2, s3 := .inl h.s3, ok := h.ok, id := hid, ak := has.elim (fun e => by rw [e]; exact h.ak) (fun h => h), ib := by rw [e2]; exact h.ib, ss := by rw [e1]; exact h.ss, lr := by rw [e3]; exact h.lr, lm := lm, lt := lt }
theorem NegAt.mine' (h : NegAt w S B C st X) (hk : Keep (fun b => b = B.nb) w w') : Opts w' (B.r (Grow S w)) X.mine st.mine :=
 Rec.mono (Rec.keep h.mine hk (fun _ _ hb he => hb.2 (.inl he))) (fun _ hb => ⟨.inl hb.1, hb.2⟩)
theorem NegAt.theirs' (h : NegAt w S B C st X) (hk : Keep (fun b => b = B.nb) w w') : Opts w' (B.r (Grow S w)) X.theirs st.theirs :=
 Rec.mono (Rec.keep h.theirs hk (fun _ _ hb he => hb.2 (.inl he))) (fun _ hb => ⟨.inl hb.1, hb.2⟩)
theorem NegAt.auto (h : NegAt w S B C st X) (hk : Keep (fun b => b = B.ab) w w') (s c : Int) (ha : AutoAt w' B.ab s c C.cf C.tm) (hc : InB c) (hs : 0 <= s /\ s <= 9) : NegAt w' S B C { st with s := s, c := c } X := by
 have hn : ∀ b, b < w.heap.size -> B.r S b -> ¬ (b = B.ab) := fun b _ hb he => hb.2 (.inr (.inl he))
 exact { h with
  blk := (hk.block _ h.nlt h.ne1).trans h.blk, aut := ha, own := Rec.keep h.own hk hn, peer := Rec.keep h.peer hk hn, must := Rec.keep h.must hk hn,
  req := h.req.keep hk (fun k hk' he => h.ne3 ((h.rq k hk').symm.trans he)), mine := Rec.keep h.mine hk hn, theirs := Rec.keep h.theirs hk hn, rlt := Nat.lt_of_lt_of_le h.rlt hk.size, ib := hc, ss := hs }
end
structure Pk where
 code : Int
 id : Int
 o : List Opt
 d : ByteArray
def noB : ByteArray := ⟨#[]⟩
def pkCells (p : Pk × Value) : List Value := [.int .i64 p.1.code, .int .i64 p.1.id, p.2, .string p.1.d]
def pkL (L : List (Pk × Value)) : List (List Value) := L.map pkCells
theorem pkL_k (l : List (Pk × Value)) : ∀ x ∈ pkL l, x.length = 4 := by
 intro x hx; simp only [pkL, List.mem_map] at hx; obtain ⟨o, _, rfl⟩ := hx; rfl
theorem pkL_len (l : List (Pk × Value)) : (pkL l).length = l.length := by simp [pkL]
theorem pkL_app (a b : List (Pk × Value)) : (pkL (a ++ b)).flatten = (pkL a).flatten ++ (pkL b).flatten := by simp [pkL]
def PRow (w : World) (base : Nat) (v : Value) (L : List (Pk × Value)) : Prop := w.ownsRow base 59 4 v L.length (pkL L).flatten
def POpts (w : World) (ok : Nat -> Prop) (L : List (Pk × Value)) : Prop :=
 (∀ p ∈ L, Opts w ok p.2 p.1.o /\ ORow w 0 p.2 p.1.o /\ ∀ k, p.2.ownBlock = some k -> ok k) /\ L.Pairwise (fun p q => ∀ k, p.2.ownBlock = some k -> q.2.ownBlock ≠ some k)
theorem POpts.nil (w : World) (ok : Nat -> Prop) : POpts w ok [] := ⟨fun _ h => (by cases h), .nil⟩
def PksAt (w : World) (ok : Nat -> Prop) (base : Nat) (v : Value) (l : List Pk) : Prop := ∃ L, L.map Prod.fst = l /\ PRow w base v L /\ POpts w ok L
theorem PRow.nil (w : World) (B : Nat) : PRow w B (.slice none 0 0) [] := World.ownsRow_nil _ _ _ _
theorem PRow.keep {w w' : World} {B : Nat} {v : Value} {l : List (Pk × Value)} {T : Nat -> Prop} (h : PRow w B v l) (hk : Keep T w w') (hT : ∀ k, v.ownBlock = some k -> ¬ T k) : PRow w' B v l := by
 obtain ⟨h0, h | ⟨g, cap, cur, hv, h1, h2, h3⟩⟩ := h
 . exact ⟨h0, Or.inl h⟩
 . have hlt := (Array.getElem?_eq_some_iff.1 h2).1; exact ⟨h0, Or.inr ⟨g, cap, cur, hv, h1, (hk.block g hlt (hT g (by rw [hv]; rfl))).trans h2, h3⟩⟩
theorem PRow.below {w w' : World} {B : Nat} {v : Value} {l : List (Pk × Value)} (h : PRow w B v l) (hb : Below w.heap.size w w') : PRow w' B v l := h.keep (Keep.of_below (fun _ => False) hb) (fun _ _ h => h)
theorem PRow.lt {w : World} {B : Nat} {v : Value} {l : List (Pk × Value)} (h : PRow w B v l) : ∀ k, v.ownBlock = some k -> k < w.heap.size /\ B <= k := by
 intro k hk; have := World.ownsRow.lt h k hk; exact ⟨this.2, this.1⟩
theorem PRow.base {w : World} {B B' : Nat} {v : Value} {l : List (Pk × Value)} (h : PRow w B v l) (hB : B' <= B) : PRow w B' v l := by
 obtain ⟨h0, h | ⟨g, cap, cur, hv, h1, h3⟩⟩ := h
 . exact ⟨h0, Or.inl h⟩
 . exact ⟨h0, Or.inr ⟨g, cap, cur, hv, Nat.le_trans hB h1, h3⟩⟩
theorem PRow.form {w : World} {B : Nat} {v : Value} {l : List (Pk × Value)} (h : PRow w B v l) : ∃ sa sc, v = .slice sa l.length sc := by
 obtain ⟨_, ⟨h, hn⟩ | ⟨g, cp, cur, hv, _⟩⟩ := h
 . exact ⟨none, 0, by rw [h, hn]⟩
 . exact ⟨_, _, hv⟩
theorem POpts.keep {w w' : World} {ok T : Nat -> Prop} {L : List (Pk × Value)} (h : POpts w ok L) (hk : Keep T w w') (hT : ∀ b, b < w.heap.size -> ok b -> ¬ T b) : POpts w' ok L :=
 ⟨fun p hp => ⟨Rec.keep (h.1 p hp).1 hk hT, (h.1 p hp).2.1.keep hk (fun k hk => hT k ((h.1 p hp).2.1.lt k hk).1 ((h.1 p hp).2.2 k hk)), (h.1 p hp).2.2⟩, h.2⟩
theorem POpts.mono {w : World} {ok ok' : Nat -> Prop} {L : List (Pk × Value)} (h : POpts w ok L) (hT : ∀ b, ok b -> ok' b) : POpts w ok' L := ⟨fun p hp => ⟨Rec.mono (h.1 p hp).1 hT, (h.1 p hp).2.1, fun k hk => hT k ((h.1 p hp).2.2 k hk)⟩, h.2⟩
theorem PksAt.form {w : World} {ok : Nat -> Prop} {base : Nat} {v : Value} {l : List Pk} (h : PksAt w ok base v l) : ∃ sa sc, v = .slice sa l.length sc := by
 obtain ⟨L, rfl, hr, -⟩ := h; rw [List.length_map]; exact hr.form
theorem PksAt.nil (w : World) (ok : Nat -> Prop) (base : Nat) : PksAt w ok base (.slice none 0 0) [] := ⟨[], rfl, PRow.nil _ _, POpts.nil _ _⟩
structure Came where
 is : Bool
 p : Pk
 code : Int
 ans : List Opt
def noCame : Came := ⟨false, ⟨0, 0, [], noB⟩, 0, []⟩
def cameV (c : Came) (po pa : Value) : Value := .agg #[.bool c.is, .int .i64 c.p.code, .int .i64 c.p.id, po, .string c.p.d, .int .i64 c.code, pa]
def pkV (p : Pk) (po : Value) : Value := .agg #[.int .i64 p.code, .int .i64 p.id, po, .string p.d]
def nid (x : Int) : Int := (x + 1) % 256
theorem nid_bd (x : Int) : 0 <= nid x /\ nid x < 256 := by
 unfold nid; omega
def refuseS (C : NegC) (st : NSt) (c : Came) : NSt × Pk :=
 if c.code ≠ 3 then (st, ⟨c.code, c.p.id, c.ans, noB⟩)
 else if 0 < C.fl /\ C.fl <= st.naks then (st, ⟨4, c.p.id, c.p.o.filter fun o => (findO c.ans o.t).isSome, noB⟩)
 else ({ st with naks := wrap64 (st.naks + 1) }, ⟨c.code, c.p.id, c.ans, noB⟩)
def sayS (rej : Pk -> ByteArray) (C : NegC) (st : NSt) (a : Int) (c : Came) : NSt × List Pk :=
 if a = 6 then ({ st with ticks := 0, id := nid st.id, asked := nid st.id }, [⟨1, nid st.id, st.req, noB⟩])
 else if a = 7 then ({ st with theirs := c.p.o }, [⟨2, c.p.id, c.p.o, noB⟩])
 else if a = 8 then ((refuseS C st c).1, [(refuseS C st c).2])
 else if a = 9 then ({ st with ticks := 0, id := nid st.id }, [⟨5, nid st.id, [], noB⟩])
 else if a = 10 then (st, [⟨6, if c.is then c.p.id else st.id, [], noB⟩])
 else if a = 11 then ({ st with id := nid st.id }, [⟨7, nid st.id, [], rej c.p⟩])
 else if a = 0 then ({ st with ups := wrap64 (st.ups + 1) }, [])
 else if a = 1 then ({ st with downs := wrap64 (st.downs + 1) }, [])
 else (st, [])
def sayL (rej : Pk -> ByteArray) (C : NegC) (c : Came) : NSt -> List Int -> NSt × List Pk
 | st, [] => (st, [])
 | st, a :: l => ((sayL rej C c (sayS rej C st a c).1 l).1, (sayS rej C st a c).2 ++ (sayL rej C c (sayS rej C st a c).1 l).2)
def toldS (rej : Pk -> ByteArray) (C : NegC) (st : NSt) (l : List Int) (c : Came) : NSt × List Pk :=
 ((if waitsB (sayL rej C c st l).1.s then (sayL rej C c st l).1 else { (sayL rej C c st l).1 with ticks := 0 }), (sayL rej C c st l).2)
def evS (rej : Pk -> ByteArray) (C : NegC) (st : NSt) (e : Int) (c : Came) : NSt × List Pk :=
 toldS rej C { st with s := nextS st.s e, c := doC C.cf C.tm (nextL st.s e) (nextL st.s e) st.c } (nextL st.s e) c
theorem keep4 (w : World) (b : Nat) (v0 v1 v2 v3 : Value) : Keep (fun k => k = b) w ((((w.setCell ⟨b, 0, none⟩ v0).setCell ⟨b, 1, none⟩ v1).setCell ⟨b, 2, none⟩ v2).setCell ⟨b, 3, none⟩ v3) :=
 ((((Keep.refl (fun k => k = b) w).setCell ⟨b, 0, none⟩ (Or.inr rfl) v0).setCell ⟨b, 1, none⟩ (Or.inr rfl) v1).setCell ⟨b, 2, none⟩ (Or.inr rfl) v2).setCell ⟨b, 3, none⟩ (Or.inr rfl) v3
def SetupAt (w : World) (b : Nat) (a o p m : Value) (cf tm fl wt : Int) : Prop := w.heap[b]? = some (.cells #[a, o, p, m, .int .i64 cf, .int .i64 tm, .int .i64 fl, .int .i64 wt] 118 (0, 0))
def ownJ (jb : Nat) : Value := .func (Fn.func 128) #[] #[.pointer (some ⟨jb, 0, none⟩)]
def JAt (w : World) (jb nb : Nat) : Prop := w.heap[jb]? = some (.cells #[.pointer (some ⟨nb, 0, none⟩)] 32 (0, 0))
def st0 (ask : List Opt) : NSt := ⟨0, 0, 0, 0, 0, 0, ask, [], [], 0, 0⟩
def NewAt (w w' : World) (v : Value) (ask : List Opt) (own peer : List Rl) (must : List Int) (cf tm fl wt : Int) : Prop :=
 ∃ B jb, v = .tuple #[.pointer (some ⟨B.nb, 0, none⟩), .int .i64 0] /\ NegV w' (fun b => w.heap.size <= b) B ⟨own, peer, must, cf, tm, fl, wt, ownJ jb⟩ (st0 ask) /\ JAt w' jb B.nb /\ w.heap.size <= jb /\ ¬ B.t jb /\ Below w.heap.size w w'
theorem newBy_end {w w6 w' : World} {nb jb : Nat} {ask : List Opt} {own peer : List Rl} {must : List Int} {q0 q1 q2 q3 q4 : Value} {cf tm fl wt : Int} (h6 : w.heap.size + 1 < w6.heap.size) (hB6 : Below w.heap.size w w6) (hb : Below w6.heap.size w6 w')
 (hr1 : RRow w6 (w.heap.size + 2) q1 own) (hr2 : RRow w6 (w.heap.size + 2) q2 peer) (hr3 : NRow w6 (w.heap.size + 2) q3 must) (hA6 : AutoAt w6 (w.heap.size + 1) 0 0 cf tm) (hr4 : ORow w' w6.heap.size q4 ask)
 (hn4 : ∀ k, q4.ownBlock = some k -> k ≠ nb /\ k ≠ jb)
 (hnb : w'.heap[nb]? = some (.cells #[.pointer (some ⟨w.heap.size + 1, 0, none⟩), q0, q1, q2, q3, .int .i64 cf, .int .i64 tm, .int .i64 fl, .int .i64 wt, ownJ jb, q4, .int .u8 0, .int .u8 0, .int .i64 0, .int .i64 0, .slice none 0 0, .slice none 0 0, .int .i64 0, .int .i64 0] 122 (0, 0)))
 (hjb : JAt w' jb nb) (hne : nb ≠ jb) (h1 : w6.heap.size <= nb) (h2 : w6.heap.size <= jb)
 (hcf : 1 <= cf /\ cf <= 20) (htm : 1 <= tm /\ tm <= 20) (hf : 0 <= fl /\ fl <= 20) (hw : 1 <= wt /\ wt <= 100) (lo : own.length <= 1000) (lp : peer.length <= 1000) (lm : must.length <= 1000) (la : ask.length <= 30) :
 NewAt w w' (.tuple #[.pointer (some ⟨nb, 0, none⟩), .int .i64 0]) ask own peer must cf tm fl wt := by
 obtain ⟨rb, hrb⟩ : ∃ rb, rb = q4.ownBlock.getD w.heap.size := ⟨_, rfl⟩; have hrq : ∀ k, q4.ownBlock = some k -> k = rb := fun k hk => by rw [hrb, hk]; rfl
 have hsz := hb.size
 have hrl : rb < w'.heap.size /\ w.heap.size <= rb /\ rb ≠ nb /\ rb ≠ jb /\ rb ≠ w.heap.size + 1 /\ (rb = w.heap.size \/ w6.heap.size <= rb) := by
  cases hq : q4.ownBlock with
  | none => rw [hq] at hrb; simp only [Option.getD_none] at hrb; subst hrb; refine ⟨by omega, Nat.le_refl _, by omega, by omega, by omega, .inl rfl⟩
  | some k =>
   have h3 := hr4.lt k hq; have h4 := hn4 k hq; have h5 := hrq k hq; subst h5; exact ⟨h3.1, by omega, h4.1, h4.2, by omega, .inr h3.2⟩
 obtain ⟨e1, e2, e3, e4, e5, e6⟩ := hrl
 have hm : ∀ b, (w.heap.size + 2 <= b /\ b < w6.heap.size) -> (NegB.mk nb (w.heap.size + 1) rb).r (fun b => w.heap.size <= b) b := by
  intro b hb; refine ⟨by omega, ?_⟩; rintro (h | h | h) <;> simp only at h <;> omega
 refine ⟨⟨nb, w.heap.size + 1, rb⟩, jb, rfl, ⟨⟨q0, q1, q2, q3, q4, .slice none 0 0, .slice none 0 0⟩, ?_⟩, hjb, by omega, ?_, hB6.trans (hb.mono (by omega))⟩
 . exact {
    blk := hnb
    aut := hA6.below hb
    own := Rec.mono (Rls.below (Rec.old (hr1.rls (by unfold maxLen; omega))) hb) hm
    peer := Rec.mono (Rls.below (Rec.old (hr2.rls (by unfold maxLen; omega))) hb) hm
    must := Rec.mono (Nums.below (Rec.old (hr3.nums (by unfold maxLen; omega))) hb) hm
    req := hr4.base (Nat.zero_le _)
    rq := hrq
    mine := Rec.nil _ _ _
    theirs := Rec.nil _ _ _
    ne1 := show nb ≠ w.heap.size + 1 by omega
    ne2 := e3
    ne3 := e5
    rlt := e1
    s1 := show w.heap.size <= nb by omega
    s2 := show w.heap.size <= w.heap.size + 1 by omega
    s3 := e2
    ok := ⟨hcf, htm, hf, hw, lo, lp, lm, rfl, fun h => by cases h⟩
    id := ⟨Int.le_refl 0, show (0 : Int) < 256 by decide⟩
    ak := ⟨Int.le_refl 0, show (0 : Int) < 256 by decide⟩
    ib := show InB 0 from ⟨by decide, by decide⟩
    ss := ⟨Int.le_refl 0, show (0 : Int) <= 9 by decide⟩
    lr := la
    lm := Nat.zero_le _
    lt := Nat.zero_le _ }
 . rintro (h | h | h) <;> simp only at h <;> omega
set_option maxRecDepth 100000 in
theorem newBy_ok (ask : List Opt) (own peer : List Rl) (must : List Int) (av ov pv mv : Value) (ok : Nat -> Prop) (cf tm fl wt : Int) (w : World) (ha : Opts w ok av ask) (ho : Rls w ok ov own) (hp : Rls w ok pv peer) (hm : Nums w ok mv must)
 (no : ∀ n c, ov = .slice none n c -> c = 0) (np : ∀ n c, pv = .slice none n c -> c = 0) (lo : own.length <= 1000) (lp : peer.length <= 1000) (lm : must.length <= 1000)
 (hcf : inB20 cf = true) (htm : inB20 tm = true) (hf0 : 0 <= fl) (hf1 : fl <= 20) (hw0 : 1 <= wt) (hw1 : wt <= 100) (hav : ∀ o ∈ ask, o.v.size <= 100000) (hask : putE ask = 0) (htw : twiceP [] ask = false)
 (hrs : ∀ r ∈ own ++ peer, r.s.size <= 100000) (hwr : (own ++ peer).any wrongR = false) :
 Calls Tryz.prog 88 #[.agg #[av, ov, pv, mv, .int .i64 cf, .int .i64 tm, .int .i64 fl, .int .i64 wt], .nilFunc] w fun e w' => ∃ v, e = .returned v /\ NewAt w w' v ask own peer must cf tm fl wt := by
 have hal : ask.length <= 30 := by
  unfold putE at hask
  by_cases h : 30 < ask.length
  . rw [if_pos h] at hask; cases hask
  . omega
 obtain ⟨sa, ca, rfl, hca, hma⟩ := ha.form; obtain ⟨so, co, rfl, hco, hmo⟩ := ho.form; obtain ⟨sp, cp, rfl, hcp, hmp⟩ := hp.form; obtain ⟨sm, cm, rfl, hcm, hmm⟩ := hm.form; have H := H_ (A_ ha (A_ ho (A_ hp hm))); have HN := H_ (A_ no np); have HP := H_ (A_ hav (A_ hask (A_ htw (A_ hrs hwr)))); clear ha ho hp hm no np hav hask htw hrs hwr; have d1 : decide (fl < 0) = false := by simp; omega
 have d2 : decide ((20 : Int) < fl) = false := by simp; omega
 have d3 : decide (wt < 1) = false := by simp; omega
 have d4 : decide ((100 : Int) < wt) = false := by simp; omega
 have HC := H_ (A_ hcf htm); clear hcf htm; go_enter Tryz.func88, Tryz.ntmps88; go_wp2_with fail; refine (new_ok cf tm _ HC.out.1 HC.out.2).mono ?_; rintro e w1 ⟨rfl, hA, hk⟩; have hB1 := hk.below (B := w.heap.size + 1) (by rw [alloc1]; omega) (fun _ _ h => h); have hbx : SetupAt w1 w.heap.size _ _ _ _ cf tm fl wt := (hB1.block w.heap.size (by omega)).trans (at1 w _); have HB1 := H_ (A_ (((Below.refl w.heap.size w).alloc (Nat.le_refl _) _).trans (hB1.mono (by omega))) (A_ hbx hA)); have x0 : w1.cell? ⟨w.heap.size, 0, none⟩ = some _ := cellOf hbx 0 _ rfl; have x6 : w1.cell? ⟨w.heap.size, 6, none⟩ = some _ := cellOf hbx 6 _ rfl; have x7 : w1.cell? ⟨w.heap.size, 7, none⟩ = some _ := cellOf hbx 7 _ rfl; have HPU := H_ (put_any ask _ ok w1 (H.out.1.below HB1.out.1) (by omega) HP.out.1); rw [HP.out.2.1] at HPU; clear hk hB1 hbx hA; go_wp2_with fail; refine HPU.out.mono ?_; rintro e w2 ⟨rfl, hb2⟩; have hlt1 : w.heap.size < w1.heap.size := (Array.getElem?_eq_some_iff.1 HB1.out.2.1).1; have hbx : SetupAt w2 w.heap.size _ _ _ _ cf tm fl wt := (hb2.block w.heap.size hlt1).trans HB1.out.2.1; have hA2 : AutoAt w2 (w.heap.size + 1) 0 0 cf tm := (hb2.block (w.heap.size + 1) (by have := HB1.out.2.2.lt; rw [alloc1] at this; exact this)).trans (by have := HB1.out.2.2; rw [alloc1] at this; exact this); have HB2 := H_ (A_ (HB1.out.1.trans (hb2.mono (by omega))) (A_ hbx hA2)); have y0 : w2.cell? ⟨w.heap.size, 0, none⟩ = some _ := cellOf hbx 0 _ rfl; have HTW := H_ (twice_any ask _ ok w2 (H.out.1.below HB2.out.1) (by omega)); rw [HP.out.2.2.1] at HTW; clear hb2 hbx hA2; go_wp2_with fail; refine HTW.out.mono ?_; rintro e w3 ⟨rfl, hb3⟩; have hlt2 : w.heap.size + 1 < w2.heap.size := HB2.out.2.2.lt; have hbx : SetupAt w3 w.heap.size _ _ _ _ cf tm fl wt := (hb3.block w.heap.size (by omega)).trans HB2.out.2.1; have hA3 : AutoAt w3 (w.heap.size + 1) 0 0 cf tm := (hb3.block (w.heap.size + 1) hlt2).trans HB2.out.2.2; have HB3 := H_ (A_ (HB2.out.1.trans (hb3.mono (by omega))) (A_ hbx hA3)); have t1 : w3.cell? ⟨w.heap.size, 1, none⟩ = some _ := cellOf hbx 1 _ rfl; have t2 : w3.cell? ⟨w.heap.size, 2, none⟩ = some _ := cellOf hbx 2 _ rfl; clear hb3 hbx hA3; go_wp2_with fail; have hB4 : Below w.heap.size w (w3.alloc (.cells #[.slice so own.length co, .slice sp peer.length cp] 115 (0, 0))) := HB3.out.1.alloc HB3.out.1.size _; refine (concat_any own peer _ _ ok w3.heap.size _ (H.out.2.1.below hB4) (H.out.2.2.1.below hB4) HN.out.1 HN.out.2 (at1 w3 _) lo lp).mono ?_; rintro e w4 ⟨v4, rfl, hrow, hb4⟩; have hlt3 : w.heap.size + 1 < w3.heap.size := HB3.out.2.2.lt; have hbx : SetupAt w4 w.heap.size _ _ _ _ cf tm fl wt := (hb4.block w.heap.size (by rw [alloc1]; omega)).trans ((Below.heap_alloc _ _ _ (by omega)).trans HB3.out.2.1); have hA4 : AutoAt w4 (w.heap.size + 1) 0 0 cf tm := (hb4.block (w.heap.size + 1) (by rw [alloc1]; omega)).trans ((Below.heap_alloc _ _ _ hlt3).trans HB3.out.2.2); have hBw4 := hB4.trans (hb4.mono (by rw [alloc1]; omega)); obtain ⟨s4, c4, hv4⟩ := hrow.form; subst hv4
 have HW := H_ (containsR_any (own ++ peer) _ _ 126 #[] wrongR w4 (hrow.rls (by rw [List.length_append]; unfold maxLen; omega)) (by rw [List.length_append]; omega) (enters_of Tryz.func126 (by kernel_rfl) rfl) (fun W r hr hW => by
  refine (wrong_any r W (HP.out.2.2.2.1 r hr)).mono ?_; rintro e w' ⟨rfl, hb⟩
  exact ⟨rfl, hW.trans (hb.mono hW.size)⟩))
 rw [HP.out.2.2.2.2, List.length_append] at HW; have HB4 := H_ (A_ hBw4 (A_ hbx hA4)); clear hB4 hrow hb4 hbx hA4 hBw4; go_wp2_with fail; refine HW.out.mono ?_; rintro e w5 ⟨rfl, hb5⟩; have hlt4 : w.heap.size + 1 < w4.heap.size := HB4.out.2.2.lt; have hbx : SetupAt w5 w.heap.size _ _ _ _ cf tm fl wt := (hb5.block w.heap.size (by omega)).trans HB4.out.2.1; have hA5 : AutoAt w5 (w.heap.size + 1) 0 0 cf tm := (hb5.block (w.heap.size + 1) hlt4).trans HB4.out.2.2; have HB5 := H_ (A_ (HB4.out.1.trans (hb5.mono (by omega))) (A_ hbx hA5)); have r0 : w5.cell? ⟨w.heap.size, 0, none⟩ = some _ := cellOf hbx 0 _ rfl; have r1 : w5.cell? ⟨w.heap.size, 1, none⟩ = some _ := cellOf hbx 1 _ rfl; have r2 : w5.cell? ⟨w.heap.size, 2, none⟩ = some _ := cellOf hbx 2 _ rfl; have r3 : w5.cell? ⟨w.heap.size, 3, none⟩ = some _ := cellOf hbx 3 _ rfl; clear hb5 hbx hA5; go_wp2_with fail; have hlt5 : w.heap.size + 1 < w5.heap.size := HB5.out.2.2.lt; refine wp_region_N 12 (fun W => SetupAt W w.heap.size (.slice sa ask.length ca) (.slice so own.length co) (.slice sp peer.length cp) (.slice sm must.length cm) cf tm fl wt) (by kernel_rfl) ?_; have HSv : SetupAt w5.drew w.heap.size (.slice sa ask.length ca) (.slice so own.length co) (.slice sp peer.length cp) (.slice sm must.length cm) cf tm fl wt := HB5.out.2.1; refine wpAnyN_take (i := 0) (oi := { dst := some 62, op := Op.fieldAddr 118 (Operand.tmp 2) 0, type := 0, pos := "neg.go:130", after := #[], guard := none }) (v := .pointer (some ⟨w.heap.size, 0, none⟩)) rfl (by kernel_rfl) (by kernel_rfl) (by kernel_rfl) (fun _ _ _ h => h) (Or.inl ⟨by rfl, ?_⟩) HSv ?_
 . intro W hW; go_simp
   try with_reducible rfl
 simp only [aZ, aA, aE, aB, aC, aD]; refine wpAnyN_take (i := 1) (oi := { dst := some 63, op := Op.load 42 (Operand.tmp 62), type := 42, pos := "neg.go:130", after := #[{ on := 0, ground := Ground.data }], guard := none }) (v := .slice sa ask.length ca) rfl (by kernel_rfl) (by kernel_rfl) (by kernel_rfl) (fun _ _ _ h => h) (Or.inl ⟨by rfl, ?_⟩) HSv ?_
 . intro W hW; have h1 := cellOf hW 0 _ rfl; go_simp
   try with_reducible rfl
 simp only [aZ, aA, aE, aB, aC, aD]; refine wpAnyN_take (i := 3) (oi := { dst := some 65, op := Op.fieldAddr 118 (Operand.tmp 2) 1, type := 0, pos := "neg.go:130", after := #[], guard := none }) (v := .pointer (some ⟨w.heap.size, 1, none⟩)) rfl (by kernel_rfl) (by kernel_rfl) (by kernel_rfl) (fun _ _ _ h => h) (Or.inl ⟨by rfl, ?_⟩) HSv ?_
 . intro W hW; go_simp
   try with_reducible rfl
 simp only [aZ, aA, aE, aB, aC, aD]; refine wpAnyN_take (i := 4) (oi := { dst := some 66, op := Op.load 115 (Operand.tmp 65), type := 115, pos := "neg.go:130", after := #[{ on := 3, ground := Ground.data }], guard := none }) (v := .slice so own.length co) rfl (by kernel_rfl) (by kernel_rfl) (by kernel_rfl) (fun _ _ _ h => h) (Or.inl ⟨by rfl, ?_⟩) HSv ?_
 . intro W hW; have h1 := cellOf hW 1 _ rfl; go_simp
   try with_reducible rfl
 simp only [aZ, aA, aE, aB, aC, aD]; refine wpAnyN_take (i := 6) (oi := { dst := some 68, op := Op.fieldAddr 118 (Operand.tmp 2) 2, type := 0, pos := "neg.go:130", after := #[], guard := none }) (v := .pointer (some ⟨w.heap.size, 2, none⟩)) rfl (by kernel_rfl) (by kernel_rfl) (by kernel_rfl) (fun _ _ _ h => h) (Or.inl ⟨by rfl, ?_⟩) HSv ?_
 . intro W hW; go_simp
   try with_reducible rfl
 simp only [aZ, aA, aE, aB, aC, aD]; refine wpAnyN_take (i := 7) (oi := { dst := some 69, op := Op.load 115 (Operand.tmp 68), type := 115, pos := "neg.go:130", after := #[{ on := 6, ground := Ground.data }], guard := none }) (v := .slice sp peer.length cp) rfl (by kernel_rfl) (by kernel_rfl) (by kernel_rfl) (fun _ _ _ h => h) (Or.inl ⟨by rfl, ?_⟩) HSv ?_
 . intro W hW; have h1 := cellOf hW 2 _ rfl; go_simp
   try with_reducible rfl
 simp only [aZ, aA, aE, aB, aC, aD]; refine wpAnyN_take (i := 9) (oi := { dst := some 71, op := Op.fieldAddr 118 (Operand.tmp 2) 3, type := 0, pos := "neg.go:130", after := #[], guard := none }) (v := .pointer (some ⟨w.heap.size, 3, none⟩)) rfl (by kernel_rfl) (by kernel_rfl) (by kernel_rfl) (fun _ _ _ h => h) (Or.inl ⟨by rfl, ?_⟩) HSv ?_
 . intro W hW; go_simp
   try with_reducible rfl
 simp only [aZ, aA, aE, aB, aC, aD]; refine wpAnyN_take (i := 10) (oi := { dst := some 72, op := Op.load 116 (Operand.tmp 71), type := 116, pos := "neg.go:130", after := #[{ on := 9, ground := Ground.data }], guard := none }) (v := .slice sm must.length cm) rfl (by kernel_rfl) (by kernel_rfl) (by kernel_rfl) (fun _ _ _ h => h) (Or.inl ⟨by rfl, ?_⟩) HSv ?_
 . intro W hW; have h1 := cellOf hW 3 _ rfl; go_simp
   try with_reducible rfl
 simp only [aZ, aA, aE, aB, aC, aD]; have HBc := H_ (Below.refl w5.drew.heap.size w5.drew); have hw5 : ∀ W, Below w5.drew.heap.size w5.drew W -> Below w.heap.size w W := fun W hW => HB5.out.1.drew.trans (hW.mono (show w.heap.size <= w5.heap.size by omega)); have Hw5 := H_ hw5; clear hw5; refine wpAnyN_one (i := 2) (o := { dst := some 64, op := Op.call { callee := Callee.value (Operand.func 100), args := #[Operand.tmp 63], argTypes := #[42] }, type := 42, pos := "neg.go:130", after := #[{ on := 1, ground := Ground.data }], guard := none }) rfl (by kernel_rfl) ?_
 intro K hK; rw [if_pos (by rfl)]
 try go_simp
 go_at_call 100; refine (clone_any ask _ ok _ (H.out.1.below (Hw5.out _ HBc.out)) (by omega)).mono ?_; rintro e W0 ⟨v0, rfl, hr0, hb⟩; obtain ⟨q0, k0, rfl⟩ := hr0.form; have HBc := H_ (HBc.out.trans (hb.mono HBc.out.size)); have HSv : SetupAt W0 w.heap.size (.slice sa ask.length ca) (.slice so own.length co) (.slice sp peer.length cp) (.slice sm must.length cm) cf tm fl wt := (HBc.out.block w.heap.size (show w.heap.size < w5.heap.size by omega)).trans HB5.out.2.1; have HBW0 := H_ hb; have Hhr0 := H_ hr0; clear hb hr0; refine hK.out _ _ (fun _ => HSv) ?_; clear hK
 try simp only [aZ, aA, aE, aB, aC, aD]
 refine wpAnyN_late (i := 12) (oi := { dst := some 74, op := Op.fieldAddr 118 (Operand.tmp 2) 0, type := 0, pos := "neg.go:130", after := #[{ on := 0, ground := Ground.phase }, { on := 1, ground := Ground.phase }, { on := 2, ground := Ground.phase }, { on := 3, ground := Ground.phase }, { on := 4, ground := Ground.phase }, { on := 5, ground := Ground.textOnly Departure.lateStoresUnsure }, { on := 6, ground := Ground.phase }, { on := 7, ground := Ground.phase }, { on := 8, ground := Ground.textOnly Departure.lateStoresUnsure }, { on := 9, ground := Ground.phase }, { on := 10, ground := Ground.phase }, { on := 11, ground := Ground.textOnly Departure.lateStoresUnsure }], guard := none }) (v := .pointer (some ⟨w.heap.size, 0, none⟩)) rfl (by kernel_rfl) (by kernel_rfl) (by kernel_rfl) (fun _ _ _ h => h) (Or.inl ⟨by rfl, ?_⟩) ?_
 . intro W hW; go_simp
   try with_reducible rfl
 simp only [aZ, aA, aE, aB, aC, aD]; refine wpAnyN_one (i := 5) (o := { dst := some 67, op := Op.call { callee := Callee.value (Operand.func 127), args := #[Operand.tmp 66], argTypes := #[115] }, type := 115, pos := "neg.go:130", after := #[{ on := 4, ground := Ground.data }, { on := 2, ground := Ground.chain }], guard := none }) rfl (by kernel_rfl) ?_
 intro K hK; rw [if_pos (by rfl)]
 try go_simp
 go_at_call 127; refine (cloneR_any own _ ok _ (H.out.2.1.below (Hw5.out _ HBc.out)) (by omega)).mono ?_; rintro e W1 ⟨v1, rfl, hr1, hb⟩; obtain ⟨q1, k1, rfl⟩ := hr1.form; have HBc := H_ (HBc.out.trans (hb.mono HBc.out.size)); have HSv : SetupAt W1 w.heap.size (.slice sa ask.length ca) (.slice so own.length co) (.slice sp peer.length cp) (.slice sm must.length cm) cf tm fl wt := (HBc.out.block w.heap.size (show w.heap.size < w5.heap.size by omega)).trans HB5.out.2.1; have HBW1 := H_ hb; have Hhr1 := H_ hr1; clear hb hr1; refine hK.out _ _ (fun _ => HSv) ?_; clear hK
 try simp only [aZ, aA, aE, aB, aC, aD]
 refine wpAnyN_one (i := 8) (o := { dst := some 70, op := Op.call { callee := Callee.value (Operand.func 127), args := #[Operand.tmp 69], argTypes := #[115] }, type := 115, pos := "neg.go:130", after := #[{ on := 7, ground := Ground.data }, { on := 5, ground := Ground.chain }], guard := none }) rfl (by kernel_rfl) ?_
 intro K hK; rw [if_pos (by rfl)]
 try go_simp
 go_at_call 127; refine (cloneR_any peer _ ok _ (H.out.2.2.1.below (Hw5.out _ HBc.out)) (by omega)).mono ?_; rintro e W2 ⟨v2, rfl, hr2, hb⟩; obtain ⟨q2, k2, rfl⟩ := hr2.form; have HBc := H_ (HBc.out.trans (hb.mono HBc.out.size)); have HSv : SetupAt W2 w.heap.size (.slice sa ask.length ca) (.slice so own.length co) (.slice sp peer.length cp) (.slice sm must.length cm) cf tm fl wt := (HBc.out.block w.heap.size (show w.heap.size < w5.heap.size by omega)).trans HB5.out.2.1; have HBW2 := H_ hb; have Hhr2 := H_ hr2; clear hb hr2; refine hK.out _ _ (fun _ => HSv) ?_; clear hK
 try simp only [aZ, aA, aE, aB, aC, aD]
 refine wpAnyN_one (i := 11) (o := { dst := some 73, op := Op.call { callee := Callee.value (Operand.func 83), args := #[Operand.tmp 72], argTypes := #[116] }, type := 116, pos := "neg.go:130", after := #[{ on := 10, ground := Ground.data }, { on := 8, ground := Ground.chain }], guard := none }) rfl (by kernel_rfl) ?_
 intro K hK; rw [if_pos (by rfl)]
 try go_simp
 go_at_call 83; refine (cloneN_any must _ ok _ (H.out.2.2.2.below (Hw5.out _ HBc.out)) (by omega)).mono ?_; rintro e W3 ⟨v3, rfl, hr3, hb⟩; obtain ⟨q3, k3, rfl⟩ := hr3.form; have HBc := H_ (HBc.out.trans (hb.mono HBc.out.size)); have HSv : SetupAt W3 w.heap.size (.slice sa ask.length ca) (.slice so own.length co) (.slice sp peer.length cp) (.slice sm must.length cm) cf tm fl wt := (HBc.out.block w.heap.size (show w.heap.size < w5.heap.size by omega)).trans HB5.out.2.1; have HBW3 := H_ hb; have Hhr3 := H_ hr3; clear hb hr3; refine hK.out _ _ (fun _ => HSv) ?_; clear hK
 try simp only [aZ, aA, aE, aB, aC, aD]
 refine wpAnyN_end 13 (by decide) rfl (by kernel_rfl) ?_; simp only [List.drop_succ_cons, List.drop_zero]; have z0 : W3.cell? ⟨w.heap.size, 0, none⟩ = some _ := cellOf HSv 0 _ rfl; have z1 : W3.cell? ⟨w.heap.size, 1, none⟩ = some _ := cellOf HSv 1 _ rfl; have z2 : W3.cell? ⟨w.heap.size, 2, none⟩ = some _ := cellOf HSv 2 _ rfl; have z3 : W3.cell? ⟨w.heap.size, 3, none⟩ = some _ := cellOf HSv 3 _ rfl; have fz : ∀ o, W3.frozen? ⟨w.heap.size, o, none⟩ = false := fun o => fzOf HSv o; go_wp2_with fail
 have hS6 : SetupAt ((((W3.setCell ⟨w.heap.size, 0, none⟩ (.slice q0 ask.length k0)).setCell ⟨w.heap.size, 1, none⟩ (.slice q1 own.length k1)).setCell ⟨w.heap.size, 2, none⟩ (.slice q2 peer.length k2)).setCell ⟨w.heap.size, 3, none⟩ (.slice q3 must.length k3))
  w.heap.size (.slice q0 ask.length k0) (.slice q1 own.length k1) (.slice q2 peer.length k2) (.slice q3 must.length k3) cf tm fl wt := set_block (set_block (set_block (set_block HSv 0 _) 1 _) 2 _) 3 _
 have hk6 : Keep (fun k => k = w.heap.size) W3 ((((W3.setCell ⟨w.heap.size, 0, none⟩ (.slice q0 ask.length k0)).setCell ⟨w.heap.size, 1, none⟩ (.slice q1 own.length k1)).setCell ⟨w.heap.size, 2, none⟩ (.slice q2 peer.length k2)).setCell ⟨w.heap.size, 3, none⟩ (.slice q3 must.length k3)) :=
  keep4 W3 w.heap.size _ _ _ _
 generalize ((((W3.setCell ⟨w.heap.size, 0, none⟩ (.slice q0 ask.length k0)).setCell ⟨w.heap.size, 1, none⟩ (.slice q1 own.length k1)).setCell ⟨w.heap.size, 2, none⟩ (.slice q2 peer.length k2)).setCell ⟨w.heap.size, 3, none⟩ (.slice q3 must.length k3)) = w6 at hS6 hk6 ⊢; have hsz : w5.heap.size <= W0.heap.size := HBW0.out.size; have hsz1 := HBW1.out.size; have hsz2 := HBW2.out.size; have hsz3 := HBW3.out.size; have hsz5 : w5.drew.heap.size = w5.heap.size := rfl; have hr0 : ORow w6 (w.heap.size + 2) (.slice q0 ask.length k0) ask := ((((Hhr0.out.below HBW1.out).below HBW2.out).below HBW3.out).keep hk6 (fun k hk he => by have := (Hhr0.out.lt k hk).2; omega)).base (by omega); have hr1 : RRow w6 (w.heap.size + 2) (.slice q1 own.length k1) own := (((Hhr1.out.below HBW2.out).below HBW3.out).keep hk6 (fun k hk he => by have := (Hhr1.out.lt k hk).2; omega)).base (by omega); have hr2 : RRow w6 (w.heap.size + 2) (.slice q2 peer.length k2) peer := ((Hhr2.out.below HBW3.out).keep hk6 (fun k hk he => by have := (Hhr2.out.lt k hk).2; omega)).base (by omega); have hr3 : NRow w6 (w.heap.size + 2) (.slice q3 must.length k3) must := (Hhr3.out.keep hk6 (fun k hk he => by have := (Hhr3.out.lt k hk).2; omega)).base (by omega); have hA6 : AutoAt w6 (w.heap.size + 1) 0 0 cf tm := (hk6.block (w.heap.size + 1) (by omega) (by omega)).trans ((HBc.out.block (w.heap.size + 1) hlt5).trans HB5.out.2.2); have hB6 : Below w.heap.size w w6 := (Hw5.out _ HBc.out).trans (hk6.below (by omega) (by omega)); have hlt6 : w.heap.size + 1 < w6.heap.size := hA6.lt; have HR := H_ (A_ hr0 (A_ hr1 (A_ hr2 (A_ hr3 (A_ hA6 hB6)))))
 have HK : Hid (∀ W, Below w6.heap.size w6 W -> W.cell? ⟨w.heap.size, 0, none⟩ = some (.slice q0 ask.length k0) /\ W.cell? ⟨w.heap.size, 1, none⟩ = some (.slice q1 own.length k1) /\ W.cell? ⟨w.heap.size, 2, none⟩ = some (.slice q2 peer.length k2) /\
  W.cell? ⟨w.heap.size, 3, none⟩ = some (.slice q3 must.length k3) /\ W.cell? ⟨w.heap.size, 4, none⟩ = some (.int .i64 cf) /\ W.cell? ⟨w.heap.size, 5, none⟩ = some (.int .i64 tm) /\ W.cell? ⟨w.heap.size, 6, none⟩ = some (.int .i64 fl) /\ W.cell? ⟨w.heap.size, 7, none⟩ = some (.int .i64 wt)) := H_ fun W hW => by
  have h1 : SetupAt W _ _ _ _ _ cf tm fl wt := (hW.block w.heap.size (by omega)).trans hS6; exact ⟨cellOf h1 0 _ rfl, cellOf h1 1 _ rfl, cellOf h1 2 _ rfl, cellOf h1 3 _ rfl, cellOf h1 4 _ rfl, cellOf h1 5 _ rfl, cellOf h1 6 _ rfl, cellOf h1 7 _ rfl⟩
 have HC6 := H_ (fun W (hW : Below w6.heap.size w6 W) => clone_any ask _ (fun b => w.heap.size + 2 <= b) W ((hr0.opts (by unfold maxLen; omega)).below hW) (by omega)); obtain ⟨c0, c1, c2, c3, c4, c5, c6, c7⟩ := HK.out w6.drew (Below.refl _ _).drew; clear HSv hS6 hk6 hr0 hr1 hr2 hr3 hA6 hB6 hsz hsz1 hsz2 hsz3 hsz5 z0 z1 z2 z3 fz HBc Hw5 HBW0 HBW1 HBW2 HBW3 Hhr0 Hhr1 Hhr2 Hhr3 HB5 HB4 HB3 HB2 HB1 HTW HW HPU x0 x6 x7 y0 t1 t2 r0 r1 r2 r3 d1 d2 d3 d4 hlt1 hlt2 hlt3 hlt4 hlt5
 go_region_held3 (fun W => W.cell? ⟨w.heap.size, 0, none⟩ = some (.slice q0 ask.length k0) /\ W.cell? ⟨w.heap.size, 1, none⟩ = some (.slice q1 own.length k1) /\ W.cell? ⟨w.heap.size, 2, none⟩ = some (.slice q2 peer.length k2) /\
  W.cell? ⟨w.heap.size, 3, none⟩ = some (.slice q3 must.length k3) /\ W.cell? ⟨w.heap.size, 4, none⟩ = some (.int .i64 cf) /\ W.cell? ⟨w.heap.size, 5, none⟩ = some (.int .i64 tm) /\ W.cell? ⟨w.heap.size, 6, none⟩ = some (.int .i64 fl) /\ W.cell? ⟨w.heap.size, 7, none⟩ = some (.int .i64 wt))
  (first
   | exact HK.out _ HB7.out.1
   | exact HK.out _ ((Below.refl _ _).alloc (Nat.le_refl _) _).drew
   | exact HK.out _ ((Below.setCell HB7.out.1 (p := ⟨w6.heap.size, 0, none⟩) (Nat.le_refl _) _).alloc (Below.setCell HB7.out.1 (p := ⟨w6.heap.size, 0, none⟩) (Nat.le_refl _) _).size _)
   | exact HK.out _ ((HB7.out.1.alloc HB7.out.1.size _).alloc (by rw [alloc1]; exact Nat.le_succ_of_le HB7.out.1.size) _)
   | exact HK.out _ (Below.setCell (HB7.out.1.alloc HB7.out.1.size _) (by exact Nat.le_refl _) _)
   | exact HK.out _ (Below.setCell ((HB7.out.1.alloc HB7.out.1.size _).alloc (by rw [alloc1]; exact Nat.le_succ_of_le HB7.out.1.size) _) (by exact HB7.out.1.size) _)
   | exact HK.out _ (Below.setCell ((HB7.out.1.alloc HB7.out.1.size _).alloc (by rw [alloc1]; exact Nat.le_succ_of_le HB7.out.1.size) _) (by exact Nat.le_succ_of_le HB7.out.1.size) _)
   | go_keep)
  (first
   | (
    go_at_call 100; refine (HC6.out _ (by first | exact (Below.refl _ _).drew | exact ((Below.refl _ _).alloc (Nat.le_refl _) _).drew)).mono ?_; rintro e W4 ⟨v4, rfl, hr4, hb4⟩; obtain ⟨q4, k4, rfl⟩ := hr4.form; have HB7 := H_ (A_ (show Below w6.heap.size w6 W4 from Below.trans (by first | exact (Below.refl _ _).drew | exact ((Below.refl _ _).alloc (Nat.le_refl _) _).drew) (hb4.mono (by first | exact Nat.le_refl _ | exact ((Below.refl w6.heap.size w6).alloc (Nat.le_refl _) _).drew.size))) (A_ hr4 hb4))
    try (
     have hz4 : W4.heap[w6.heap.size]? = some (.cells #[.pointer none] 32 (0, 0)) := (hb4.block w6.heap.size (by rw [show ((w6.alloc (.cells #[.pointer none] 32 (0, 0))).drew).heap.size = w6.heap.size + 1 from alloc1 _ _]; exact Nat.lt_succ_self _)).trans (at1 w6 _); have hlt4 : w6.heap.size < W4.heap.size := (Array.getElem?_eq_some_iff.1 hz4).1; have hz5 : ∀ X, (W4.alloc X).cell? ⟨w6.heap.size, 0, none⟩ = some (.pointer none) := fun X => cellOf ((Below.heap_alloc _ _ _ hlt4).trans hz4) 0 _ rfl
     have hz6 : ∀ X, (W4.alloc X).frozen? ⟨w6.heap.size, 0, none⟩ = false := fun X => fzOf ((Below.heap_alloc _ _ _ hlt4).trans hz4) 0)
    clear hr4 hb4))
 all_goals have qf : ∀ w, (binOp .eql 120 .nilFunc .nilFunc).run Tryz.prog w = .ok (.bool true) w := fun w => by kernel_rfl
 all_goals try have hz7 : ∀ v X, ((W4.setCell ⟨w6.heap.size, 0, none⟩ v).alloc X).cell? ⟨w6.heap.size, 0, none⟩ = some v := fun v X => cellOf ((Below.heap_alloc _ _ _ (Array.getElem?_eq_some_iff.1 (set_block hz4 0 _)).1).trans (set_block hz4 0 _)) 0 _ rfl
 all_goals go_wp2_with fail
 all_goals go_ret2
 all_goals have hl4 := fun k hk => HB7.out.2.1.lt k hk
 all_goals have hsz4 := HB7.out.2.2.size
 all_goals have h64 := HB7.out.1.size
 all_goals have hcf := inB20_true.1 HC.out.1
 all_goals have htm := inB20_true.1 HC.out.2
 all_goals first
  | exact ⟨_, rfl, newBy_end (by omega) HR.out.2.2.2.2.2 ((HB7.out.1.alloc HB7.out.1.size _).alloc (by rw [alloc1]; omega) _) HR.out.2.1 HR.out.2.2.1 HR.out.2.2.2.1 HR.out.2.2.2.2.1
   (((HB7.out.2.1.base (by first | exact Nat.le_refl _ | (rw [alloc1]; omega))).below ((Below.refl _ _).alloc (Nat.le_refl _) _)).below ((Below.refl _ _).alloc (Nat.le_refl _) _)) (fun k hk => by have := (hl4 k hk).1; omega)
   ((Below.heap_alloc _ _ _ (by rw [alloc1]; omega)).trans (at1 W4 _)) (at21 W4 _ _) (by omega) (by omega) (by omega) hcf htm ⟨hf0, hf1⟩ ⟨hw0, hw1⟩ lo lp lm hal⟩
  | exact ⟨_, rfl, newBy_end (by omega) HR.out.2.2.2.2.2 ((HB7.out.1.alloc HB7.out.1.size _).alloc (by rw [alloc1]; omega) _) HR.out.2.1 HR.out.2.2.1 HR.out.2.2.2.1 HR.out.2.2.2.2.1
   (((HB7.out.2.1.base (by first | exact Nat.le_refl _ | (rw [alloc1]; omega))).below ((Below.refl _ _).alloc (Nat.le_refl _) _)).below ((Below.refl _ _).alloc (Nat.le_refl _) _)) (fun k hk => by have := (hl4 k hk).1; omega)
   (at21 W4 _ _) ((Below.heap_alloc _ _ _ (by rw [alloc1]; omega)).trans (at1 W4 _)) (by omega) (by omega) (by omega) hcf htm ⟨hf0, hf1⟩ ⟨hw0, hw1⟩ lo lp lm hal⟩
  | skip
 . have hszA : (w6.alloc (.cells #[.pointer none] 32 (0, 0))).drew.heap.size = w6.heap.size + 1 := alloc1 _ _; have hszB : ∀ v, (W4.setCell ⟨w6.heap.size, 0, none⟩ v).heap.size = W4.heap.size := fun v => by simp [World.setCell]
   have hat : ∀ v A, ((W4.setCell ⟨w6.heap.size, 0, none⟩ v).alloc A).heap[W4.heap.size]? = some A := fun v A => by rw [<- hszB v]; exact at1 _ A
   refine ⟨_, rfl, newBy_end (by omega) HR.out.2.2.2.2.2 ((Below.setCell HB7.out.1 (p := ⟨w6.heap.size, 0, none⟩) (Nat.le_refl _) _).alloc (by rw [hszB]; omega) _) HR.out.2.1 HR.out.2.2.1 HR.out.2.2.2.1 HR.out.2.2.2.2.1
    (((HB7.out.2.1.keep ((Keep.refl (fun k => k = w6.heap.size) W4).setCell ⟨w6.heap.size, 0, none⟩ (Or.inr rfl) _) (fun k hk he => by have := (hl4 k hk).2; omega)).base (by omega)).below ((Below.refl _ _).alloc (Nat.le_refl _) _)) (fun k hk => by have := hl4 k hk; omega)
    (hat _ _) ((Below.heap_alloc _ _ _ (by rw [hszB]; omega)).trans (set_block hz4 0 _)) (by omega) (by omega) (by omega) hcf htm ⟨hf0, hf1⟩ ⟨hw0, hw1⟩ lo lp lm hal⟩
theorem new_at (ask : List Opt) (own peer : List Rl) (must : List Int) (av ov pv mv : Value) (ok : Nat -> Prop) (cf tm fl wt : Int) (w : World) (ha : Opts w ok av ask) (ho : Rls w ok ov own) (hp : Rls w ok pv peer) (hm : Nums w ok mv must)
 (no : ∀ n c, ov = .slice none n c -> c = 0) (np : ∀ n c, pv = .slice none n c -> c = 0) (lo : own.length <= 1000) (lp : peer.length <= 1000) (lm : must.length <= 1000)
 (hcf : inB20 cf = true) (htm : inB20 tm = true) (hf0 : 0 <= fl) (hf1 : fl <= 20) (hw0 : 1 <= wt) (hw1 : wt <= 100) (hav : ∀ o ∈ ask, o.v.size <= 100000) (hask : putE ask = 0) (htw : twiceP [] ask = false)
 (hrs : ∀ r ∈ own ++ peer, r.s.size <= 100000) (hwr : (own ++ peer).any wrongR = false) :
 Calls Tryz.prog 95 #[.agg #[av, ov, pv, mv, .int .i64 cf, .int .i64 tm, .int .i64 fl, .int .i64 wt]] w fun e w' => ∃ v, e = .returned v /\ NewAt w w' v ask own peer must cf tm fl wt := by
 have hsz : w.heap.size <= (w.alloc (.cells #[av, ov, pv, mv, .int .i64 cf, .int .i64 tm, .int .i64 fl, .int .i64 wt] 118 (0, 0))).heap.size := by rw [alloc1]; omega
 have hb : Below w.heap.size w (w.alloc (.cells #[av, ov, pv, mv, .int .i64 cf, .int .i64 tm, .int .i64 fl, .int .i64 wt] 118 (0, 0))) := (Below.refl _ _).alloc (Nat.le_refl _) _; have hat := at1 w (.cells #[av, ov, pv, mv, .int .i64 cf, .int .i64 tm, .int .i64 fl, .int .i64 wt] 118 (0, 0)); have H := H_ (newBy_ok ask own peer must av ov pv mv ok cf tm fl wt _ (ha.below hb) (ho.below hb) (hp.below hb) (hm.below hb) no np lo lp lm hcf htm hf0 hf1 hw0 hw1 hav hask htw hrs hwr); clear ha ho hp hm no np hav hask htw hrs hwr; go_enter Tryz.func95, Tryz.ntmps95; go_wp2_with fail; refine H.out.mono ?_; rintro e w1 ⟨v, rfl, B, jb, rfl, h1, h2, h3, h4, h5⟩; have HB := H_ (A_ h1 (A_ h2 (A_ h3 (A_ h4 (hb.trans (h5.mono hsz)))))); clear h1 h2 h3 h4 h5; go_wp2_with fail; go_ret2; exact ⟨_, rfl, B, jb, rfl, HB.out.1.mono (fun b hb => Nat.le_trans hsz hb), HB.out.2.1, Nat.le_trans hsz HB.out.2.2.1, HB.out.2.2.2.1, HB.out.2.2.2.2⟩
theorem nnone_at {w : World} {S : Nat -> Prop} {B : NegB} {C : NegC} {st : NSt} {X : NegX} (h : NegAt w S B C st X) :
 Calls Tryz.prog 79 #[.pointer (some ⟨B.nb, 0, none⟩)] w fun e w' => e = .returned (.bool false) /\ w = w' := by
 have h0 : w.cell? ⟨B.nb, 0, none⟩ = some (.pointer (some ⟨B.ab, 0, none⟩)) := h.cell 0; clear h; have q1 : ∀ w a, (binOp .eql 32 (.pointer (some a)) (.pointer none)).run Tryz.prog w = .ok (.bool false) w := fun w a => by kernel_rfl
 have q2 : ∀ w a, (binOp .eql 114 (.pointer (some a)) (.pointer none)).run Tryz.prog w = .ok (.bool false) w := fun w a => by kernel_rfl
 go_enter Tryz.func79, Tryz.ntmps79; go_wp2_with fail; go_ret; exact ⟨rfl, rfl⟩
theorem NegAt.setC {w : World} {S : Nat -> Prop} {B : NegB} {C : NegC} {st st' : NSt} {X : NegX} (h : NegAt w S B C st X) (o : Nat) (v : Value) (hv : (negCells B C st X).setIfInBounds o v = negCells B C st' X)
 (hs : st'.s = st.s /\ st'.c = st.c /\ st'.req = st.req /\ st'.mine = st.mine /\ st'.theirs = st.theirs) (hid : 0 <= st'.id /\ st'.id < 256) (has : st'.asked = st.asked \/ (0 <= st'.asked /\ st'.asked < 256) := by first | exact Or.inl rfl | exact Or.inr (nid_bd _)) : NegAt (w.setCell ⟨B.nb, o, none⟩ v) S B C st' X := by
 obtain ⟨e1, e2, e3, e4, e5⟩ := hs; have hk : Keep (fun b => b = B.nb) w (w.setCell ⟨B.nb, o, none⟩ v) := (Keep.refl (fun b => b = B.nb) w).setCell ⟨B.nb, o, none⟩ (Or.inr rfl) v; have hn : ∀ b, b < w.heap.size -> B.r S b -> ¬ (b = B.nb) := fun b _ hb he => hb.2 (.inl he)
 exact {
  blk := by rw [<- hv]; exact set_block h.blk o v, aut := by rw [e1, e2]; exact h.aut.keep hk (fun he => h.ne1 he.symm), own := Rec.keep h.own hk hn, peer := Rec.keep h.peer hk hn,
  must := Rec.keep h.must hk hn, req := by rw [e3]; exact h.req.keep hk (fun k hk' he => h.ne2 ((h.rq k hk').symm.trans he)), rq := h.rq, mine := by rw [e4]; exact Rec.keep h.mine hk hn, theirs := by rw [e5]; exact Rec.keep h.theirs hk hn,
  ne1 := h.ne1, ne2 := h.ne2, ne3 := h.ne3, rlt := Nat.lt_of_lt_of_le h.rlt hk.size, s1 := h.s1, s2 := h.s2, s3 := h.s3, ok := h.ok, id := hid, ak := has.elim (fun e => by rw [e]; exact h.ak) (fun h => h), ib := by rw [e2]; exact h.ib, ss := by rw [e1]; exact h.ss,
  lr := by rw [e3]; exact h.lr, lm := by rw [e4]; exact h.lm, lt := by rw [e5]; exact h.lt }
theorem keepC (B : NegB) (w : World) (o : Nat) (v : Value) : Keep (fun b => b = B.nb) w (w.setCell ⟨B.nb, o, none⟩ v) := (Keep.refl (fun b => b = B.nb) w).setCell ⟨B.nb, o, none⟩ (Or.inr rfl) v
theorem id_at {w : World} {S : Nat -> Prop} {B : NegB} {C : NegC} {st : NSt} {X : NegX} (h : NegAt w S B C st X) :
 Calls Tryz.prog 73 #[.pointer (some ⟨B.nb, 0, none⟩)] w fun e w' => e = .returned (.int .i64 (nid st.id)) /\ NegAt w' S B C { st with id := nid st.id } X /\ Keep (fun b => b = B.nb) w w' := by
 have h0 : w.cell? ⟨B.nb, 11, none⟩ = some (.int .u8 st.id) := h.cell 11; have hf := h.fz 11; have H := H_ h; clear h; go_enter Tryz.func73, Tryz.ntmps73; go_wp2_with fail; refine (nnone_at H.out).mono ?_; rintro e w1 ⟨rfl, rfl⟩; go_wp2_with fail; go_ret; exact ⟨rfl, H.out.setC 11 _ rfl ⟨rfl, rfl, rfl, rfl, rfl⟩ (nid_bd _), keepC B w 11 _⟩
theorem pk_info : ∃ i z, Tryz.prog.info? 59 = some i /\ i.zero = some z /\ i.size = 4 /\ i.bytes = 56 /\ z.cells.size = 4 := by
 have h : (Tryz.prog.info? 59).map (fun i => (i.zero, i.size, i.bytes)) = some (some (.agg #[.int .i64 0, .int .i64 0, .slice none 0 0, .string ⟨#[]⟩]), 4, 56) := by kernel_rfl
 obtain ⟨i, hi, he⟩ := Option.map_eq_some_iff.1 h; simp only [Prod.mk.injEq] at he; exact ⟨i, _, hi, he.1, he.2.1, he.2.2, rfl⟩
theorem PRow.one {w : World} {g base : Nat} (p : Pk) (po : Value) (h : w.heap[g]? = some (.cells #[.int .i64 p.code, .int .i64 p.id, po, .string p.d] 59 (0, 0))) (hb : base <= g) : PRow w base (.slice (some ⟨g, 0, none⟩) 1 1) [(p, po)] :=
 ⟨rfl, Or.inr ⟨g, 1, _, rfl, hb, h, Nat.le_refl _, by unfold maxLen; omega, rfl, rfl⟩⟩
theorem PksAt.one {w : World} {ok : Nat -> Prop} {g base : Nat} (p : Pk) (po : Value) (h : w.heap[g]? = some (.cells #[.int .i64 p.code, .int .i64 p.id, po, .string p.d] 59 (0, 0))) (hb : base <= g) (ho : Opts w ok po p.o)
 (hr : ORow w 0 po p.o /\ ∀ k, po.ownBlock = some k -> ok k := by exact ⟨ORow.nil _ _, fun _ h => nomatch h⟩) : PksAt w ok base (.slice (some ⟨g, 0, none⟩) 1 1) [p] :=
 ⟨[(p, po)], rfl, PRow.one p po h hb, fun q hq => by simp only [List.mem_singleton] at hq; subst hq; exact ⟨ho, hr⟩, List.pairwise_singleton _ _⟩
def cameCells (c : Came) (po pa : Value) : Array Value := #[.bool c.is, .int .i64 c.p.code, .int .i64 c.p.id, po, .string c.p.d, .int .i64 c.code, pa]
def CameAt (w : World) (B : NegB) (ok : Nat -> Prop) (c : Came) (po pa : Value) : Prop :=
 (∃ okp, Opts w okp po c.p.o /\ ∀ b, okp b -> ¬ B.t b) /\ (Opts w ok pa c.ans /\ ORow w 0 pa c.ans /\ ∀ k, pa.ownBlock = some k -> ok k) /\ (∀ b, ok b -> ¬ B.t b) /\ c.p.o.length <= 1000000 /\ c.ans.length <= 1000000
theorem CameAt.keep {w w' : World} {B : NegB} {ok T : Nat -> Prop} {c : Came} {po pa : Value} (h : CameAt w B ok c po pa) (hk : Keep T w w') (hT : ∀ b, T b -> B.t b) : CameAt w' B ok c po pa :=
 ⟨⟨_, Rec.keep h.1.choose_spec.1 hk (fun b _ hb ht => h.1.choose_spec.2 b hb (hT b ht)), h.1.choose_spec.2⟩, ⟨Rec.keep h.2.1.1 hk (fun b _ hb ht => h.2.2.1 b hb (hT b ht)), h.2.1.2.1.keep hk (fun k hk ht => h.2.2.1 k (h.2.1.2.2 k hk) (hT k ht)), h.2.1.2.2⟩, h.2.2⟩
theorem CameAt.po {w : World} {B : NegB} {ok : Nat -> Prop} {c : Came} {po pa : Value} (h : CameAt w B ok c po pa) : Opts w h.1.choose po c.p.o := h.1.choose_spec.1
theorem CameAt.below {w w' : World} {B : NegB} {ok : Nat -> Prop} {c : Came} {po pa : Value} (h : CameAt w B ok c po pa) (hb : Below w.heap.size w w') : CameAt w' B ok c po pa := h.keep (Keep.of_below (fun _ => False) hb) (fun _ h => h.elim)
def SayPost (w w' : World) (S ok : Nat -> Prop) (B : NegB) (C : NegC) (r : NSt × List Pk) (e : Ending) : Prop :=
 ∃ v, e = .returned v /\ PksAt w' (Grow ok w) w.heap.size v r.2 /\ NegV w' (Grow S w) B C r.1 /\ Keep (fun b => b = B.nb) w w'
section
variable (rej : Pk -> ByteArray) {w : World} {S ok okr : Nat -> Prop} {B : NegB} {C : NegC} {st : NSt} {X : NegX} (c : Came) (po pa : Value)
set_option maxRecDepth 100000 in
theorem say6 (h : NegAt w S B C st X) :
 Calls Tryz.prog 119 #[.pointer (some ⟨B.nb, 0, none⟩), .int .i64 6, cameV c po pa] w fun e w' => SayPost w w' S ok B C (sayS rej C st 6 c) e := by
 have hb1 : Below w.heap.size w (w.alloc (.cells #[.bool c.is, .int .i64 c.p.code, .int .i64 c.p.id, po, .string c.p.d, .int .i64 c.code, pa] 126 (0, 0))) := (Below.refl _ _).alloc (Nat.le_refl _) _; have h1 := h.below hb1; have f1 := h1.fz 14; have f0 : (w.alloc (.cells #[.bool c.is, .int .i64 c.p.code, .int .i64 c.p.id, po, .string c.p.d, .int .i64 c.code, pa] 126 (0, 0))).cell? ⟨B.nb, 14, none⟩ = some (.int .i64 st.ticks) := h1.cell 14; have H1 := H_ (NegAt.setC (st' := { st with ticks := 0 }) h1 14 (.int .i64 0) rfl ⟨rfl, rfl, rfl, rfl, rfl⟩ h.id); have HK1 := H_ (keepC B (w.alloc (.cells #[.bool c.is, .int .i64 c.p.code, .int .i64 c.p.id, po, .string c.p.d, .int .i64 c.code, pa] 126 (0, 0))) 14 (.int .i64 0)); have HB := H_ (A_ hb1 h); have hlr := h.lr; have es : sayS rej C st 6 c = ({ st with ticks := 0, id := nid st.id, asked := nid st.id }, [⟨1, nid st.id, st.req, noB⟩]) := rfl; rw [es]; unfold cameV; clear hb1 h h1 es; go_enter Tryz.func119, Tryz.ntmps119; go_wp2_with fail; refine (id_at H1.out).mono ?_; rintro e w2 ⟨rfl, h2, k2⟩; have f2 := h2.fz 12; have f3 : w2.cell? ⟨B.nb, 12, none⟩ = some (.int .u8 st.asked) := h2.cell 12; have ew : IntKind.u8.wrap (nid st.id) = nid st.id := by have := nid_bd st.id; unfold IntKind.wrap; simp [IntKind.bits, IntKind.signed]; omega
 have h3 := NegAt.setC (st' := { st with ticks := 0, id := nid st.id, asked := nid st.id }) h2 12 (.int .u8 (nid st.id)) rfl ⟨rfl, rfl, rfl, rfl, rfl⟩ (nid_bd _); have f4 : (w2.setCell ⟨B.nb, 12, none⟩ (.int .u8 (nid st.id))).cell? ⟨B.nb, 10, none⟩ = some X.req := h3.cell 10; have HC := H_ (clone_any st.req X.req (fun b => 0 <= b) _ (h3.req.opts (show st.req.length <= maxLen by unfold maxLen; omega)) (by omega)); have H3 := H_ (A_ h3 (HK1.out.trans (k2.trans (keepC B w2 12 (.int .u8 (nid st.id)))))); clear h2 k2 h3; go_wp2_with fail; refine HC.out.mono ?_; rintro e w3 ⟨v, rfl, hr, hb⟩; obtain ⟨qa, qc, rfl⟩ := hr.form; have H4 := H_ (A_ hr hb); clear hr hb; go_wp2_with fail; go_ret; have hs3 := H3.out.2.size; have hs1 := HB.out.1.size; have hs4 := H4.out.2.size; refine ⟨_, rfl, PksAt.one ⟨1, nid st.id, st.req, noB⟩ _ (at1 w3 _) (by omega) ?_ ⟨?_, fun k hk => .inr ?_⟩, ⟨X, ?_⟩, ?_⟩
 . exact Rec.mono (Opts.below (H4.out.1.opts (by unfold maxLen; omega)) ((Below.refl _ _).alloc (Nat.le_refl _) _)) (fun b hb => .inr (by omega))
 . exact (ORow.below H4.out.1 ((Below.refl _ _).alloc (Nat.le_refl _) _)).base (Nat.zero_le _)
 . have := (H4.out.1.lt k hk).2; omega
 . exact ((H3.out.1.below H4.out.2).below ((Below.refl _ _).alloc (Nat.le_refl _) _)).mono (fun _ h => .inl h)
 . exact (((Keep.of_below _ HB.out.1).trans H3.out.2).trans (Keep.of_below _ H4.out.2)).alloc _
end
section
variable (rej : Pk -> ByteArray) {w : World} {S ok okr : Nat -> Prop} {B : NegB} {C : NegC} {st : NSt} {X : NegX} (c : Came) (po pa : Value)
set_option maxRecDepth 100000 in
theorem say7 (h : NegAt w S B C st X) (hc : CameAt w B ok c po pa) :
 Calls Tryz.prog 119 #[.pointer (some ⟨B.nb, 0, none⟩), .int .i64 7, cameV c po pa] w fun e w' => SayPost w w' S okr B C (sayS rej C st 7 c) e := by
 obtain ⟨sa, sc, rfl, hc1, hc2⟩ := hc.po.form; have hb1 : Below w.heap.size w (w.alloc (.cells #[.bool c.is, .int .i64 c.p.code, .int .i64 c.p.id, (.slice sa c.p.o.length sc), .string c.p.d, .int .i64 c.code, pa] 126 (0, 0))) := (Below.refl _ _).alloc (Nat.le_refl _) _; have h1 := h.below hb1; have hz := at1 w (.cells #[.bool c.is, .int .i64 c.p.code, .int .i64 c.p.id, (.slice sa c.p.o.length sc), .string c.p.d, .int .i64 c.code, pa] 126 (0, 0)); have hC1 := hc.below hb1; have HC := H_ (clone_any c.p.o _ _ _ hC1.po hc.2.2.2.1); have HB := H_ (A_ hb1 (A_ h1 (A_ hC1 (A_ hz h.nlt)))); have es : sayS rej C st 7 c = ({ st with theirs := c.p.o }, [⟨2, c.p.id, c.p.o, noB⟩]) := rfl; rw [es]; unfold cameV; clear hb1 h h1 es hc hC1 hz; go_enter Tryz.func119, Tryz.ntmps119; go_wp2_with fail; refine HC.out.mono ?_; rintro e w2 ⟨v, rfl, hr, hb⟩; obtain ⟨qa, qc, rfl⟩ := hr.form; have h2 := HB.out.2.1.below hb; have f2 := h2.fz 16; have f3 : w2.cell? ⟨B.nb, 16, none⟩ = some X.theirs := h2.cell 16; have H2 := H_ (A_ hr (A_ hb h2)); clear hr hb h2; go_wp2_with fail; have hk3 := (Keep.of_below (fun b => b = B.nb) H2.out.2.1).trans (keepC B w2 16 (.slice qa c.p.o.length qc)); have hC3 := HB.out.2.2.1.keep hk3 (fun b hb => .inl hb); have hlt : w.heap.size < (w.alloc (.cells #[.bool c.is, .int .i64 c.p.code, .int .i64 c.p.id, (.slice sa c.p.o.length sc), .string c.p.d, .int .i64 c.code, pa] 126 (0, 0))).heap.size := by rw [alloc1]; omega
 have hz3 := (hk3.block w.heap.size hlt (fun he => by have := HB.out.2.2.2.2; omega)).trans HB.out.2.2.2.1; have hr3 : ORow (w2.setCell ⟨B.nb, 16, none⟩ (.slice qa c.p.o.length qc)) (w.heap.size + 1) (.slice qa c.p.o.length qc) c.p.o := (H2.out.1.keep (keepC B w2 16 (.slice qa c.p.o.length qc)) (fun k hk he => by have := (H2.out.1.lt k hk).2; rw [alloc1] at this; have := HB.out.2.2.2.2; omega)).base (by rw [alloc1]; omega); have hb3 := (keepC B w2 16 (.slice qa c.p.o.length qc)); have hz4 : (w2.setCell ⟨B.nb, 16, none⟩ (.slice qa c.p.o.length qc)).heap[B.nb]? = _ := set_block H2.out.2.2.blk 16 (.slice qa c.p.o.length qc); generalize hw3 : w2.setCell ⟨B.nb, 16, none⟩ (.slice qa c.p.o.length qc) = w3 at hk3 hC3 hz3 hr3 hb3 hz4 ⊢; have hlt3 : w.heap.size < w3.heap.size := (Array.getElem?_eq_some_iff.1 hz3).1; have H3 := H_ (A_ hk3 (A_ hr3 (A_ hb3 hz4)))
 have HS : Hid (∀ W, Below w3.heap.size w3 W -> W.cell? ⟨w.heap.size, 2, none⟩ = some (.int .i64 c.p.id) /\ W.cell? ⟨w.heap.size, 3, none⟩ = some (.slice sa c.p.o.length sc)) := H_ fun W hW =>
  ⟨cellOf ((hW.block _ hlt3).trans hz3) 2 _ rfl, cellOf ((hW.block _ hlt3).trans hz3) 3 _ rfl⟩
 have HC3 := H_ (fun W (hW : Below w3.heap.size w3 W) => clone_any c.p.o _ _ W (hC3.below hW).po hC3.2.2.2.1); obtain ⟨y1, y2⟩ := HS.out w3.drew (Below.refl _ _).drew; clear hk3 hC3 hz3 hr3 hb3 hz4 HC f2 f3
 go_region_held3 (fun W => W.cell? ⟨w.heap.size, 2, none⟩ = some (.int .i64 c.p.id) /\ W.cell? ⟨w.heap.size, 3, none⟩ = some (.slice sa c.p.o.length sc))
  (first
   | exact HS.out _ H4.out.2
   | exact HS.out _ (H4.out.2.alloc H4.out.2.size _)
   | go_keep)
  (first
   | (go_at_call 100; refine (HC3.out _ (Below.refl _ _).drew).mono ?_; rintro e w4 ⟨v4, rfl, hr4, hb4⟩; obtain ⟨q4, k4, rfl⟩ := hr4.form; have H4 := H_ (A_ hr4 (show Below w3.heap.size w3 w4 from Below.trans (Below.refl _ _).drew hb4)); clear hr4 hb4))
 go_wp2_with fail; go_ret; have hs1 : (w.alloc (.cells #[.bool c.is, .int .i64 c.p.code, .int .i64 c.p.id, (.slice sa c.p.o.length sc), .string c.p.d, .int .i64 c.code, pa] 126 (0, 0))).heap.size = w.heap.size + 1 := alloc1 _ _; have hs3 := H3.out.1.size; have hs4 := H4.out.2.size; have hlo := HB.out.2.2.1.2.2.2.1; have ht : Opts w3 (B.r (Grow S (w.alloc (.cells #[.bool c.is, .int .i64 c.p.code, .int .i64 c.p.id, (.slice sa c.p.o.length sc), .string c.p.d, .int .i64 c.code, pa] 126 (0, 0))))) (.slice qa c.p.o.length qc) c.p.o := Rec.mono (H3.out.2.1.opts (by unfold maxLen; omega)) (fun b hb => ⟨.inr (by omega), fun ht => by have := HB.out.2.1.tlt ht; omega⟩)
 have h3 : NegAt w3 (Grow S (w.alloc (.cells #[.bool c.is, .int .i64 c.p.code, .int .i64 c.p.id, (.slice sa c.p.o.length sc), .string c.p.d, .int .i64 c.code, pa] 126 (0, 0)))) B C { st with theirs := c.p.o } { X with theirs := .slice qa c.p.o.length qc } :=
  NegAt.turn HB.out.2.1 H3.out.1 H3.out.2.2.2 ⟨rfl, rfl, rfl, rfl⟩ ⟨rfl, rfl, rfl⟩ HB.out.2.1.id (HB.out.2.1.mine' H3.out.1) ht HB.out.2.1.lm hlo
 refine ⟨_, rfl, PksAt.one ⟨2, c.p.id, c.p.o, noB⟩ _ (at1 w4 _) (by omega) ?_ ⟨?_, fun k hk => .inr ?_⟩, ⟨_, ((h3.below H4.out.2).below ((Below.refl _ _).alloc (Nat.le_refl _) _)).mono (fun b hb => hb.elim .inl (fun h => .inr (by omega)))⟩, ?_⟩
 . exact Rec.mono (Opts.below (H4.out.1.opts (by unfold maxLen; omega)) ((Below.refl _ _).alloc (Nat.le_refl _) _)) (fun b hb => .inr (show w.heap.size <= b by have hb : w3.heap.size <= b := hb; omega))
 . exact (ORow.below H4.out.1 ((Below.refl _ _).alloc (Nat.le_refl _) _)).base (Nat.zero_le _)
 . have := (H4.out.1.lt k hk).2; have h0 : w3.drew.heap.size = w3.heap.size := rfl; omega
 . exact ((((Keep.of_below _ HB.out.1).trans H3.out.1)).trans (Keep.of_below _ H4.out.2)).alloc _
end
section
variable (rej : Pk -> ByteArray) {w : World} {S ok okr : Nat -> Prop} {B : NegB} {C : NegC} {st : NSt} {X : NegX} (c : Came) (po pa : Value)
set_option maxRecDepth 100000 in
theorem say9 (h : NegAt w S B C st X) :
 Calls Tryz.prog 119 #[.pointer (some ⟨B.nb, 0, none⟩), .int .i64 9, cameV c po pa] w fun e w' => SayPost w w' S ok B C (sayS rej C st 9 c) e := by
 have hb1 : Below w.heap.size w (w.alloc (.cells #[.bool c.is, .int .i64 c.p.code, .int .i64 c.p.id, po, .string c.p.d, .int .i64 c.code, pa] 126 (0, 0))) := (Below.refl _ _).alloc (Nat.le_refl _) _; have h1 := h.below hb1; have f1 := h1.fz 14; have f0 : (w.alloc (.cells #[.bool c.is, .int .i64 c.p.code, .int .i64 c.p.id, po, .string c.p.d, .int .i64 c.code, pa] 126 (0, 0))).cell? ⟨B.nb, 14, none⟩ = some (.int .i64 st.ticks) := h1.cell 14; have H1 := H_ (NegAt.setC (st' := { st with ticks := 0 }) h1 14 (.int .i64 0) rfl ⟨rfl, rfl, rfl, rfl, rfl⟩ h.id); have HK1 := H_ (keepC B (w.alloc (.cells #[.bool c.is, .int .i64 c.p.code, .int .i64 c.p.id, po, .string c.p.d, .int .i64 c.code, pa] 126 (0, 0))) 14 (.int .i64 0)); have HB := H_ hb1; have es : sayS rej C st 9 c = ({ st with ticks := 0, id := nid st.id }, [⟨5, nid st.id, [], noB⟩]) := rfl; rw [es]; unfold cameV; clear hb1 h h1 es; go_enter Tryz.func119, Tryz.ntmps119; go_wp2_with fail; refine (id_at H1.out).mono ?_; rintro e w2 ⟨rfl, h2, k2⟩; have H2 := H_ (A_ h2 (HK1.out.trans k2)); clear h2 k2; go_wp2_with fail; go_ret; have hs1 := HB.out.size; have hs2 := H2.out.2.size; refine ⟨_, rfl, PksAt.one ⟨5, nid st.id, [], noB⟩ _ (at1 w2 _) (by omega) (Rec.nil _ _ _), ⟨X, ?_⟩, ?_⟩
 . exact (H2.out.1.below ((Below.refl _ _).alloc (Nat.le_refl _) _)).mono (fun _ h => .inl h)
 . exact ((Keep.of_below _ HB.out).trans H2.out.2).alloc _
set_option maxRecDepth 100000 in
theorem say10 (h : NegAt w S B C st X) :
 Calls Tryz.prog 119 #[.pointer (some ⟨B.nb, 0, none⟩), .int .i64 10, cameV c po pa] w fun e w' => SayPost w w' S ok B C (sayS rej C st 10 c) e := by
 have hb1 : Below w.heap.size w (w.alloc (.cells #[.bool c.is, .int .i64 c.p.code, .int .i64 c.p.id, po, .string c.p.d, .int .i64 c.code, pa] 126 (0, 0))) := (Below.refl _ _).alloc (Nat.le_refl _) _; have h1 := h.below hb1; have f0 : (w.alloc (.cells #[.bool c.is, .int .i64 c.p.code, .int .i64 c.p.id, po, .string c.p.d, .int .i64 c.code, pa] 126 (0, 0))).cell? ⟨B.nb, 11, none⟩ = some (.int .u8 st.id) := h1.cell 11; have ew : wrap64 st.id = st.id := by have := h.id; unfold wrap64; omega
 have HB := H_ (A_ hb1 h1); have es : sayS rej C st 10 c = (st, [⟨6, if c.is then c.p.id else st.id, [], noB⟩]) := rfl; rw [es]; obtain ⟨is, p, cc, ca⟩ := c; unfold cameV; clear hb1 h h1 es; cases is
 . go_enter Tryz.func119, Tryz.ntmps119; go_wp2_with fail; go_ret; refine ⟨_, rfl, PksAt.one ⟨6, st.id, [], noB⟩ _ (at21 w _ _) (by omega) (Rec.nil _ _ _), ⟨X, ?_⟩, ?_⟩
   . exact (HB.out.2.below ((Below.refl _ _).alloc (Nat.le_refl _) _)).mono (fun _ h => .inl h)
   . exact (Keep.of_below _ HB.out.1).alloc _
 . go_enter Tryz.func119, Tryz.ntmps119; go_wp2_with fail; go_ret; refine ⟨_, rfl, PksAt.one ⟨6, p.id, [], noB⟩ _ (at21 w _ _) (by omega) (Rec.nil _ _ _), ⟨X, ?_⟩, ?_⟩
   . exact (HB.out.2.below ((Below.refl _ _).alloc (Nat.le_refl _) _)).mono (fun _ h => .inl h)
   . exact (Keep.of_below _ HB.out.1).alloc _
set_option maxRecDepth 100000 in
theorem say0 (h : NegAt w S B C st X) :
 Calls Tryz.prog 119 #[.pointer (some ⟨B.nb, 0, none⟩), .int .i64 0, cameV c po pa] w fun e w' => SayPost w w' S ok B C (sayS rej C st 0 c) e := by
 have hb1 : Below w.heap.size w (w.alloc (.cells #[.bool c.is, .int .i64 c.p.code, .int .i64 c.p.id, po, .string c.p.d, .int .i64 c.code, pa] 126 (0, 0))) := (Below.refl _ _).alloc (Nat.le_refl _) _; have h1 := h.below hb1; have f1 := h1.fz 17; have f0 : (w.alloc (.cells #[.bool c.is, .int .i64 c.p.code, .int .i64 c.p.id, po, .string c.p.d, .int .i64 c.code, pa] 126 (0, 0))).cell? ⟨B.nb, 17, none⟩ = some (.int .i64 st.ups) := h1.cell 17; have H1 := H_ (NegAt.setC (st' := { st with ups := wrap64 (st.ups + 1) }) h1 17 (.int .i64 (wrap64 (st.ups + 1))) rfl ⟨rfl, rfl, rfl, rfl, rfl⟩ h.id); have HK1 := H_ (keepC B (w.alloc (.cells #[.bool c.is, .int .i64 c.p.code, .int .i64 c.p.id, po, .string c.p.d, .int .i64 c.code, pa] 126 (0, 0))) 17 (.int .i64 (wrap64 (st.ups + 1)))); have HB := H_ hb1; have es : sayS rej C st 0 c = ({ st with ups := wrap64 (st.ups + 1) }, []) := rfl; rw [es]; unfold cameV; clear hb1 h h1 es; go_enter Tryz.func119, Tryz.ntmps119; go_wp2_with fail; go_ret; exact ⟨_, rfl, PksAt.nil _ _ _, ⟨X, H1.out.mono (fun _ h => .inl h)⟩, (Keep.of_below _ HB.out).trans HK1.out⟩
set_option maxRecDepth 100000 in
theorem say1 (h : NegAt w S B C st X) :
 Calls Tryz.prog 119 #[.pointer (some ⟨B.nb, 0, none⟩), .int .i64 1, cameV c po pa] w fun e w' => SayPost w w' S ok B C (sayS rej C st 1 c) e := by
 have hb1 : Below w.heap.size w (w.alloc (.cells #[.bool c.is, .int .i64 c.p.code, .int .i64 c.p.id, po, .string c.p.d, .int .i64 c.code, pa] 126 (0, 0))) := (Below.refl _ _).alloc (Nat.le_refl _) _; have h1 := h.below hb1; have f1 := h1.fz 18; have f0 : (w.alloc (.cells #[.bool c.is, .int .i64 c.p.code, .int .i64 c.p.id, po, .string c.p.d, .int .i64 c.code, pa] 126 (0, 0))).cell? ⟨B.nb, 18, none⟩ = some (.int .i64 st.downs) := h1.cell 18; have H1 := H_ (NegAt.setC (st' := { st with downs := wrap64 (st.downs + 1) }) h1 18 (.int .i64 (wrap64 (st.downs + 1))) rfl ⟨rfl, rfl, rfl, rfl, rfl⟩ h.id); have HK1 := H_ (keepC B (w.alloc (.cells #[.bool c.is, .int .i64 c.p.code, .int .i64 c.p.id, po, .string c.p.d, .int .i64 c.code, pa] 126 (0, 0))) 18 (.int .i64 (wrap64 (st.downs + 1)))); have HB := H_ hb1; have es : sayS rej C st 1 c = ({ st with downs := wrap64 (st.downs + 1) }, []) := rfl; rw [es]; unfold cameV; clear hb1 h h1 es; go_enter Tryz.func119, Tryz.ntmps119; go_wp2_with fail; go_ret; exact ⟨_, rfl, PksAt.nil _ _ _, ⟨X, H1.out.mono (fun _ h => .inl h)⟩, (Keep.of_below _ HB.out).trans HK1.out⟩
set_option maxRecDepth 100000 in
theorem sayX (a : Int) (ha : a = 2 \/ a = 3 \/ a = 4 \/ a = 5 \/ a = 12) (h : NegAt w S B C st X) :
 Calls Tryz.prog 119 #[.pointer (some ⟨B.nb, 0, none⟩), .int .i64 a, cameV c po pa] w fun e w' => SayPost w w' S ok B C (sayS rej C st a c) e := by
 have hb1 : Below w.heap.size w (w.alloc (.cells #[.bool c.is, .int .i64 c.p.code, .int .i64 c.p.id, po, .string c.p.d, .int .i64 c.code, pa] 126 (0, 0))) := (Below.refl _ _).alloc (Nat.le_refl _) _; have HB := H_ (A_ hb1 (h.below hb1)); have es : sayS rej C st a c = (st, []) := by rcases ha with rfl | rfl | rfl | rfl | rfl <;> rfl
 rw [es]; unfold cameV; clear hb1 h es
 rcases ha with rfl | rfl | rfl | rfl | rfl
 all_goals go_enter Tryz.func119, Tryz.ntmps119
 all_goals go_wp2_with fail
 all_goals go_ret
 all_goals exact ⟨_, rfl, PksAt.nil _ _ _, ⟨X, HB.out.2.mono (fun _ h => .inl h)⟩, Keep.of_below _ HB.out.1⟩
end
theorem wpl_append_pks {B B' : Nat} {w : World} {ops : Array Oper} {rest : List Oper} {o : Oper} {a : Act} {Q : Exit -> Act -> World -> Prop} (hgd : o.guard = none) (s x : Operand)
 (ho : o.op = .call { callee := .builtin .append, args := #[s, x], argTypes := #[36, 36] }) (v : Value) (l : List (Pk × Value)) (hs : a.eval s = v) (hown : PRow w B v l)
 (xv : Value) (l' : List (Pk × Value)) (hx : a.eval x = xv) (hr : PRow w B' xv l') (hone : ∀ p ∈ l', p.2.oneCell' = true) (hlen : l.length + l'.length <= 1000000) (hW : B <= w.heap.size)
 (h : ∀ v' w', PRow w' B v' (l ++ l') -> Keep (fun k => v.ownBlock = some k) w w' -> (v'.ownBlock = v.ownBlock \/ v'.ownBlock = some w.heap.size) -> wpList Tryz.prog ops Q rest (a.put o.dst v') w') : wpList Tryz.prog ops Q (o :: rest) a w := by
 obtain ⟨i, z, hi, hz, hsz, hby, hzs⟩ := pk_info; have hrec : Rec 4 w (fun b => B' <= b) xv (pkL l') := Rec.of_owns hr (pkL_len l').symm (pkL_k l') (by unfold maxLen; omega)
 have hnil : ∀ n c, xv = .slice none n c -> c = 0 := by
  intro n c e; obtain ⟨_, ⟨h, hn⟩ | ⟨g, cp, cur, hv, _⟩⟩ := hr
  . rw [h] at e; cases e; rfl
  . rw [hv] at e; cases e
 obtain ⟨sa, c, rfl, hc, hm⟩ := hrec.form; rw [pkL_len] at *
 cases sa with
 | none =>
  have h0 := hnil _ _ rfl; subst h0; have e : l' = [] := List.eq_nil_of_length_eq_zero (by omega); subst e; refine wpList_append_own_none hgd s x 36 ho B 59 i 4 Tryz.underlying36 hi v l.length (pkL l).flatten hs hown hx ?_; exact h v w (by rw [List.append_nil]; exact hown) (Keep.refl _ _) (Or.inl rfl)
 | some ad =>
  have hfl := hrec.flat (by decide); have hl2 : (pkL l').flatten.length = l'.length * 4 := by rw [flatten_len _ (pkL_k l'), pkL_len]
  have hb : ∀ u ∈ (pkL l').flatten, u.oneCell' = true := by
   intro u hu; simp only [List.mem_flatten, pkL, List.mem_map] at hu; obtain ⟨_, ⟨p, hp, rfl⟩, hu⟩ := hu; simp only [pkCells, List.mem_cons, List.not_mem_nil, or_false] at hu
   rcases hu with rfl | rfl | rfl | rfl
   . rfl
   . rfl
   . exact hone p hp
   . rfl
  refine wpList_append_own_at (P := Tryz.prog) (w := w) hgd s x 36 ho B 59 i z 4 56 Tryz.underlying36 hi hz hsz hby hzs (by decide) v l.length (pkL l).flatten hs hown ad l'.length c (pkL l').flatten hx hl2 hfl hb (by unfold maxLen; omega) (by omega) hW ?_; intro v' w' h1 h2 _ h3; exact h v' w' (by unfold PRow; rw [pkL_app, List.length_append]; exact h1) (keep_of_grown h2) h3
theorem sayL_snoc (rej : Pk -> ByteArray) (C : NegC) (c : Came) : ∀ (l : List Int) (st : NSt) (a : Int), sayL rej C c st (l ++ [a]) = ((sayS rej C (sayL rej C c st l).1 a c).1, (sayL rej C c st l).2 ++ (sayS rej C (sayL rej C c st l).1 a c).2) := by
 intro l
 induction l with
 | nil => intro st a; simp [sayL]
 | cons x l ih => intro st a; simp only [List.cons_append, sayL, ih, List.append_assoc]
theorem sayS_len (rej : Pk -> ByteArray) (C : NegC) (c : Came) (st : NSt) (a : Int) : (sayS rej C st a c).2.length <= 1 := by
 unfold sayS
 repeat' split
 all_goals simp
theorem sayL_len (rej : Pk -> ByteArray) (C : NegC) (c : Came) : ∀ (l : List Int) (st : NSt), (sayL rej C c st l).2.length <= l.length := by
 intro l
 induction l with
 | nil => intro st; simp [sayL]
 | cons x l ih =>
  intro st; have h1 := sayS_len rej C c st x; have h2 := ih (sayS rej C st x c).1; simp only [sayL, List.length_append, List.length_cons]; omega
def SaySpec (rej : Pk -> ByteArray) (B : NegB) (C : NegC) (ok : Nat -> Prop) (c : Came) (po pa : Value) (a : Int) : Prop := ∀ w S st X, NegAt w S B C st X -> CameAt w B ok c po pa ->
 Calls Tryz.prog 119 #[.pointer (some ⟨B.nb, 0, none⟩), .int .i64 a, cameV c po pa] w fun e w' => SayPost w w' S (fun b => a = 8 /\ ok b) B C (sayS rej C st a c) e
theorem say_most (rej : Pk -> ByteArray) (B : NegB) (C : NegC) (ok : Nat -> Prop) (c : Came) (po pa : Value) (a : Int) (h0 : 0 <= a) (h1 : a <= 12) (h8 : a ≠ 8) (h11 : a ≠ 11) : SaySpec rej B C ok c po pa a := by
 intro w S st X h hc; have : a = 0 \/ a = 1 \/ a = 6 \/ a = 7 \/ a = 9 \/ a = 10 \/ (a = 2 \/ a = 3 \/ a = 4 \/ a = 5 \/ a = 12) := by omega
 rcases this with rfl | rfl | rfl | rfl | rfl | rfl | ha
 . exact say0 rej c po pa h
 . exact say1 rej c po pa h
 . exact say6 rej c po pa h
 . exact say7 rej c po pa h hc
 . exact say9 rej c po pa h
 . exact say10 rej c po pa h
 . exact sayX rej c po pa a ha h
section
variable (rej : Pk -> ByteArray) {w : World} {S ok : Nat -> Prop} {B : NegB} {C : NegC} {st : NSt} {X : NegX} (c : Came) (po pa : Value)
def ToldAt (has8 : Prop) (w wr : World) (S ok : Nat -> Prop) (B : NegB) (C : NegC) (v : Value) (r : NSt × List Pk) : Prop :=
 ∃ L X', L.map Prod.fst = r.2 /\ PRow wr (w.heap.size + 1) v L /\ POpts wr (fun b => ((has8 /\ ok b /\ b < w.heap.size) \/ w.heap.size <= b) /\ v.ownBlock ≠ some b) L /\ NegAt wr (fun b => Grow S w b /\ v.ownBlock ≠ some b) B C r.1 X' /\ Keep (fun b => b = B.nb) w wr
set_option maxRecDepth 100000 in
theorem told_at (xs : List Int) (lv : Value) (base : Nat) (hx : IntsAt 3 base w lv xs) (hbase : B.nb < base) (hlen : xs.length <= 20) (h8 : xs.count 8 <= 1) (h : NegAt w S B C st X) (hc : CameAt w B ok c po pa)
 (hs : ∀ a ∈ xs, ∀ ok, SaySpec rej B C ok c po pa a) :
 Calls Tryz.prog 81 #[.pointer (some ⟨B.nb, 0, none⟩), lv, cameV c po pa] w fun e w' => SayPost w w' S ok B C (toldS rej C st xs c) e := by
 obtain ⟨a1, k1, rfl, hc1, hc2⟩ := hc.po.form; obtain ⟨a2, k2, rfl, hc3, hc4⟩ := hc.2.1.1.form
 obtain ⟨la, lc, rfl, hlc, hlm, hat⟩ : ∃ la lc, lv = .slice la xs.length lc /\ xs.length <= lc /\ lc <= 20 /\ ∀ k (hk : k < xs.length), ∃ b, la = some ⟨b, 0, none⟩ /\ b ≠ B.nb /\ b < w.heap.size /\ w.cell? ⟨b, k, none⟩ = some (.int .i64 xs[k]) := by
  rcases hx with ⟨rfl, rfl⟩ | ⟨b, h1, rfl, h2⟩
  . exact ⟨none, 0, rfl, Nat.le_refl _, by omega, fun k hk => by cases hk⟩
  . exact ⟨_, _, rfl, Nat.le_refl _, hlen, fun k hk => ⟨b, rfl, by omega, (Array.getElem?_eq_some_iff.1 h2).1, cellOf h2 k _ (by simp [hk])⟩⟩
 obtain ⟨len, hln⟩ : ∃ len, len = xs.length := ⟨_, rfl⟩; have HLN := H_ hln; have H8 := H_ h8; clear h8; have hb1 : Below w.heap.size w (w.alloc (.cells #[.bool c.is, .int .i64 c.p.code, .int .i64 c.p.id, (.slice a1 c.p.o.length k1), .string c.p.d, .int .i64 c.code, (.slice a2 c.ans.length k2)] 126 (0, 0))) := (Below.refl _ _).alloc (Nat.le_refl _) _; have hz := at1 w (.cells #[.bool c.is, .int .i64 c.p.code, .int .i64 c.p.id, (.slice a1 c.p.o.length k1), .string c.p.d, .int .i64 c.code, (.slice a2 c.ans.length k2)] 126 (0, 0)); have H := H_ (A_ hat (A_ h (A_ hc (A_ hs (A_ hb1 hz))))); have hnl := h.nlt; unfold cameV; rw [<- hln] at hlc hlen ⊢; clear hln hx hat h hc hs hb1 hz; go_enter Tryz.func81, Tryz.ntmps81; go_wp2_with fail
 go_loopg [7, 12] len (fun x r i wr => ∃ k : Nat, k <= len /\ x = len - k /\ i = .int .i64 k /\ Hid (ToldAt (8 ∈ xs.take k) w wr S ok B C r (sayL rej C c st (xs.take k)) /\ wr.heap[w.heap.size]? = some (.cells #[.bool c.is, .int .i64 c.p.code, .int .i64 c.p.id, (.slice a1 c.p.o.length k1), .string c.p.d, .int .i64 c.code, (.slice a2 c.ans.length k2)] 126 (0, 0))))
 case atStart => exact ⟨0, by omega, by omega, rfl, ⟨[], X, rfl, PRow.nil _ _, POpts.nil _ _, (H.out.2.1.below H.out.2.2.2.2.1).mono (fun _ h => ⟨.inl h, fun h => (by cases h)⟩), Keep.of_below _ H.out.2.2.2.2.1⟩, H.out.2.2.2.2.2⟩
 case round =>
  obtain ⟨k, hk, rfl, rfl, hK⟩ := hrel; obtain ⟨⟨L, X', hL, hrow, hpo, hneg, hkeep⟩, hz⟩ := hK.out; have e0 : wr.cell? ⟨w.heap.size, 0, none⟩ = some _ := cellOf hz 0 _ rfl; have e1 : wr.cell? ⟨w.heap.size, 1, none⟩ = some _ := cellOf hz 1 _ rfl; have e2 : wr.cell? ⟨w.heap.size, 2, none⟩ = some _ := cellOf hz 2 _ rfl; have e3 : wr.cell? ⟨w.heap.size, 3, none⟩ = some _ := cellOf hz 3 _ rfl; have e4 : wr.cell? ⟨w.heap.size, 4, none⟩ = some _ := cellOf hz 4 _ rfl; have e5 : wr.cell? ⟨w.heap.size, 5, none⟩ = some _ := cellOf hz 5 _ rfl; have e6 : wr.cell? ⟨w.heap.size, 6, none⟩ = some _ := cellOf hz 6 _ rfl; have hsw := hkeep.size; have hsz := (Array.getElem?_eq_some_iff.1 hz).1
  have hll : L.length <= k := by
   have h1 := sayL_len rej C c (xs.take k) st; have h2 := congrArg List.length hL; rw [List.length_map] at h2; rw [List.length_take] at h1; omega
  have HR := H_ (A_ hL (A_ hrow (A_ hpo (A_ hneg (A_ hkeep hz))))); clear hK hL hrow hpo hneg hkeep hz; have hln' := HLN.out
  by_cases hkl : k < len
  . have hkl' : k < xs.length := by omega
    clear hln'; obtain ⟨b, rfl, hbn, hbw, c0⟩ := H.out.1 k hkl'
    have d0 : wr.cell? ⟨b, k, none⟩ = some (.int .i64 xs[k]) := by
     rw [<- c0]; exact World.cell?_of_block (w := w) (HR.out.2.2.2.2.1.block b hbw hbn)
    have hca : CameAt wr B (fun b => ok b /\ b < w.heap.size) c (.slice a1 c.p.o.length k1) (.slice a2 c.ans.length k2) := by
     have hc0 := H.out.2.2.1.keep HR.out.2.2.2.2.1 (fun b hb => .inl hb); refine ⟨hc0.1, ⟨?_, hc0.2.1.2.1, fun k hk => ⟨hc0.2.1.2.2 k hk, (H.out.2.2.1.2.1.2.1.lt k hk).1⟩⟩, fun b hb => hc0.2.2.1 b hb.1, hc0.2.2.2⟩; exact Rec.keep (Rec.old H.out.2.2.1.2.1.1) HR.out.2.2.2.2.1 (fun b _ h he => H.out.2.2.1.2.2.1 b h.1 (.inl he))
    have hcall := H.out.2.2.2.1 xs[k] (List.getElem_mem hkl') (fun b => ok b /\ b < w.heap.size) wr _ _ X' HR.out.2.2.2.1 hca; unfold cameV at hcall; have HT := H_ (show sayL rej C c st (xs.take (k + 1)) = _ from by rw [List.take_succ_eq_append_getElem hkl', sayL_snoc])
    have H88 := H_ (A_ (show xs[k] = 8 -> 8 ∉ xs.take k from fun he hm => by
     have h1 := H8.out; rw [<- List.take_append_drop k xs, List.count_append, List.drop_eq_getElem_cons hkl', he, List.count_cons_self] at h1; have h2 := List.count_pos_iff.2 hm
     omega) (show (8 ∈ xs.take k \/ xs[k] = 8) -> 8 ∈ xs.take (k + 1) from fun h => by
     rw [List.take_succ_eq_append_getElem hkl', List.mem_append]
     exact h.imp id (fun h => by rw [h]; exact List.mem_singleton_self _)))
    generalize hm8 : (8 ∈ xs.take k) = m8 at HR H88 ⊢; clear hm8; generalize sayL rej C c st (xs.take k) = rk at *; generalize xs[k] = ak at *; clear c0 hca
    go_wp2_with (first
     | (
      go_at_call 119; refine hcall.mono ?_; rintro e w5 ⟨v5, rfl, ⟨L5, hl5, hr5, ho5⟩, ⟨X5, hn5⟩, hk5⟩; have hrow5 : PRow w5 (w.heap.size + 1) u7 L := HR.out.2.1.keep hk5 (fun q hq he => by have := (HR.out.2.1.lt q hq).2; omega); have hone5 : ∀ p ∈ L5, p.2.oneCell' = true := fun p hp => by obtain ⟨sa, sc, e, _, _⟩ := Opts.form (ho5.1 p hp).1; rw [e]; rfl
      have hll5 : L.length + L5.length <= 1000000 := by
       have h1 := congrArg List.length hl5; rw [List.length_map] at h1; have h2 := sayS_len rej C c rk.1 ak; omega
      have hsz5 := hk5.size; have hW5 : w.heap.size + 1 <= w5.heap.size := by omega
      have H5 := H_ (A_ hl5 (A_ hr5 (A_ ho5 (A_ hn5 (A_ hk5 hrow5)))))
      clear hl5 hr5 ho5 hn5 hk5 hrow5)
     | (
      at_builtin; refine wpl_append_pks rfl _ _ rfl _ L rfl H5.out.2.2.2.2.2 _ L5 rfl H5.out.2.1 hone5 hll5 hW5 ?_
      intro v6 w6 h6 k6 o6; have H6 := H_ (A_ h6 (A_ k6 o6))
      clear h6 k6 o6))
    go_roundg (len - (k + 1))
    case measure => omega
    case rel =>
     refine ⟨k + 1, by omega, rfl, by go_num, ?_, ?_⟩
     . rw [HT.out]; have hq7 : ∀ q, u7.ownBlock = some q -> w.heap.size + 1 <= q /\ q < wr.heap.size := fun q hq => ⟨(HR.out.2.1.lt q hq).2, (HR.out.2.1.lt q hq).1⟩
       have ho6 : ∀ b, b < w5.heap.size -> u7.ownBlock ≠ some b -> v6.ownBlock ≠ some b := fun b hb hn he => by
        rcases H6.out.2.2 with h | h
        . rw [h] at he; exact hn he
        . rw [h] at he; cases he; omega
       refine ⟨L ++ L5, X5, ?_, H6.out.1, ?_, ?_, ?_⟩
       . rw [List.map_append, HR.out.1, H5.out.1]
       . have hA : POpts wr (fun b => (((m8 /\ ok b /\ b < w.heap.size) \/ w.heap.size <= b) /\ u7.ownBlock ≠ some b) /\ b < wr.heap.size) L :=
          ⟨fun p hp => ⟨Rec.old (HR.out.2.2.1.1 p hp).1, (HR.out.2.2.1.1 p hp).2.1, fun q hq => ⟨(HR.out.2.2.1.1 p hp).2.2 q hq, ((HR.out.2.2.1.1 p hp).2.1.lt q hq).1⟩⟩, HR.out.2.2.1.2⟩
         have hA5 := hA.keep H5.out.2.2.2.2.1 (fun b _ hb he => by
          rcases hb.1.1 with h | h
          . exact H.out.2.2.1.2.2.1 b h.2.1 (.inl he)
          . omega)
         have hA6 := hA5.keep H6.out.2.1 (fun b _ hb he => hb.1.2 he)
         have hB : POpts w5 (fun b => Grow (fun b => ak = 8 /\ ok b /\ b < w.heap.size) wr b /\ b < w5.heap.size) L5 :=
          ⟨fun p hp => ⟨Rec.old (H5.out.2.2.1.1 p hp).1, (H5.out.2.2.1.1 p hp).2.1, fun q hq => ⟨(H5.out.2.2.1.1 p hp).2.2 q hq, ((H5.out.2.2.1.1 p hp).2.1.lt q hq).1⟩⟩, H5.out.2.2.1.2⟩
         have hn : ∀ b, Grow (fun b => ak = 8 /\ ok b /\ b < w.heap.size) wr b -> u7.ownBlock ≠ some b := fun b hb he => by
          have := hq7 b he
          rcases hb with h | h <;> omega
         have hB6 := hB.keep H6.out.2.1 (fun b _ hb he => hn b hb.1 he); refine ⟨fun p hp => ?_, List.pairwise_append.2 ⟨hA6.2, hB6.2, fun p hp q hq g hg he => ?_⟩⟩
         . rcases List.mem_append.1 hp with hp | hp
           . obtain ⟨x1, x2, x3⟩ := hA6.1 p hp; exact ⟨Rec.mono x1 (fun b hb => ⟨hb.1.1.imp (fun h => ⟨H88.out.2 (.inl h.1), h.2⟩) id, ho6 b (by omega) hb.1.2⟩), x2, fun g hg => ⟨(x3 g hg).1.1.imp (fun h => ⟨H88.out.2 (.inl h.1), h.2⟩) id, ho6 g (by have := (x3 g hg).2; omega) (x3 g hg).1.2⟩⟩
           . obtain ⟨x1, x2, x3⟩ := hB6.1 p hp; exact ⟨Rec.mono x1 (fun b hb => ⟨hb.1.imp (fun h => ⟨H88.out.2 (.inr h.1), h.2⟩) (fun h => by omega), ho6 b hb.2 (hn b hb.1)⟩), x2, fun g hg => ⟨(x3 g hg).1.imp (fun h => ⟨H88.out.2 (.inr h.1), h.2⟩) (fun h => by omega), ho6 g (x3 g hg).2 (hn g (x3 g hg).1)⟩⟩
         . have y1 := (hA6.1 p hp).2.2 g hg; have y2 := (hB6.1 q hq).2.2 g he
           rcases y1.1.1 with h | h
           . rcases y2.1 with h' | h'
             . exact H88.out.1 h'.1 h.1
             . have : wr.heap.size <= g := h'; have := y1.2; omega
           . rcases y2.1 with h' | h'
             . have := h'.2.2; omega
             . have : wr.heap.size <= g := h'; have := y1.2; omega
       . have h1 := H5.out.2.2.2.1.old
         have hn : ∀ b, Grow (fun b => Grow S w b /\ u7.ownBlock ≠ some b) wr b -> u7.ownBlock ≠ some b := fun b hb he => by
          have := hq7 b he
          rcases hb with h | h
          . exact h.2 he
          . omega
         exact (h1.keep H6.out.2.1 (fun b _ hb he => hn b hb.1 he)).mono (fun b hb => ⟨hb.1.elim (fun h => h.1) (fun h => .inr (by omega)), ho6 b hb.2 (hn b hb.1)⟩)
       . have h1 := HR.out.2.2.2.2.1.trans H5.out.2.2.2.2.1; exact h1.transM H6.out.2.1 (fun _ _ h => h) (fun b hb he => by have := hq7 b he; omega)
     . have hsz6 : w.heap.size < w5.heap.size := by omega
       exact (H6.out.2.1.block _ hsz6 (fun he => by
        have h1 := HR.out.2.1.lt _ he
        omega)).trans ((H5.out.2.2.2.2.1.block _ hsz (fun he => by omega)).trans HR.out.2.2.2.2.2)
  . clear hln'; obtain rfl : len = k := by omega
    have htk : xs.take len = xs := by rw [HLN.out, List.take_length]
    rw [htk] at HR; obtain ⟨ra, rc, hr⟩ := HR.out.2.1.form; subst hr; have hneg := HR.out.2.2.2.1; have g0 : wr.cell? ⟨B.nb, 0, none⟩ = some (.pointer (some ⟨B.ab, 0, none⟩)) := hneg.cell 0; have f14 := hneg.fz 14; have g14 : wr.cell? ⟨B.nb, 14, none⟩ = some (.int .i64 _) := hneg.cell 14; have HW := H_ (waits_some B.ab _ _ _ _ wr hneg.aut hneg.ok.cf.1); have HN := H_ (NegAt.setC (st' := { (sayL rej C c st xs).1 with ticks := 0 }) hneg 14 (.int .i64 0) rfl ⟨rfl, rfl, rfl, rfl, rfl⟩ hneg.id); have HT : Hid (toldS rej C st xs c = ((if waitsB (sayL rej C c st xs).1.s then (sayL rej C c st xs).1 else { (sayL rej C c st xs).1 with ticks := 0 }), (sayL rej C c st xs).2)) := H_ rfl; clear hneg; generalize sayL rej C c st xs = rk at *; generalize waitsB rk.1.s = wb at *
    cases wb with
    | true =>
     go_wp2_with (go_at_call 80; refine HW.out.mono ?_; rintro e w7 ⟨rfl, rfl⟩)
     go_ret; rw [HT.out]; exact ⟨_, rfl, ⟨L, HR.out.1, HR.out.2.1.base (by omega), HR.out.2.2.1.mono (fun b hb => hb.1.imp (fun h => h.2.1) id)⟩, ⟨X', HR.out.2.2.2.1.mono (fun b hb => hb.1)⟩, HR.out.2.2.2.2.1⟩
    | false =>
     go_wp2_with (go_at_call 80; refine HW.out.mono ?_; rintro e w7 ⟨rfl, rfl⟩)
     go_ret; rw [HT.out]; refine ⟨_, rfl, ⟨L, HR.out.1, (HR.out.2.1.keep (keepC B wr 14 (.int .i64 0)) (fun q hq he => by have := (HR.out.2.1.lt q hq).2; omega)).base (by omega), ?_⟩, ⟨X', HN.out.mono (fun b hb => hb.1)⟩, HR.out.2.2.2.2.1.trans (keepC B wr 14 (.int .i64 0))⟩
     exact POpts.mono (HR.out.2.2.1.keep (keepC B wr 14 (.int .i64 0)) (fun b _ hb he => by
      rcases hb.1 with h | h
      . exact H.out.2.2.1.2.2.1 b h.2.1 (.inl he)
      . omega)) (fun b hb => hb.1.imp (fun h => h.2.1) id)
end
theorem lookup_all (P : Int × List Int -> Prop) (l : List Row) (hl : ∀ r ∈ l, P r.2.2) (s e : Int) : ∀ y, lookupL l s e = some y -> P y := by
 induction l with
 | nil => intro y h; cases h
 | cons r l ih =>
  intro y hy; simp only [lookupL, List.foldr_cons, Tab.put] at hy
  split at hy
  . cases hy; exact hl r (by simp)
  . exact ih (fun r' h' => hl r' (by simp [h'])) y hy
theorem next_all (P : Int × List Int -> Prop) (h1 : ∀ r ∈ answeredL, P r.2.2) (h2 : ∀ r ∈ calledL, P r.2.2) (s e : Int) : ∀ y, nextF s e = some y -> P y := by
 intro y hf; unfold nextF at hf
 cases ha : lookupL answeredL s e with
 | some y2 => rw [ha] at hf; simp at hf; subst hf; exact lookup_all P _ h1 s e _ ha
 | none => rw [ha] at hf; simp at hf; exact lookup_all P _ h2 s e _ hf
theorem nextS_bd (s e : Int) (hs : 0 <= s /\ s <= 9) : 0 <= nextS s e /\ nextS s e <= 9 := by
 unfold nextS
 cases hf : nextF s e with
 | none => exact hs
 | some y => exact next_all (fun y => 0 <= y.1 /\ y.1 <= 9) (by decide) (by decide) s e y hf
theorem nextL_bd (s e : Int) : ∀ a ∈ nextL s e, 0 <= a /\ a <= 12 := by
 unfold nextL
 cases hf : nextF s e with
 | none => intro a ha; cases ha
 | some y => exact next_all (fun y => ∀ a ∈ y.2, 0 <= a /\ a <= 12) (by decide) (by decide) s e y hf
theorem nextL_8 (s e : Int) : (nextL s e).count 8 <= 1 := by
 unfold nextL
 cases hf : nextF s e with
 | none => exact Nat.zero_le _
 | some y => exact next_all (fun y => y.2.count 8 <= 1) (by decide) (by decide) s e y hf
theorem nextL_no : ∀ e ∈ [0, 1, 2, 3, 4, 5, 6, 8, 9, 10, 11, 13, 14], ∀ s ∈ [0, 1, 2, 3, 4, 5, 6, 7, 8, 9], ∀ a ∈ nextL s e, a ≠ 8 /\ a ≠ 11 := by decide
def SayAll (rej : Pk -> ByteArray) (B : NegB) (C : NegC) (c : Came) (po pa : Value) (xs : List Int) : Prop := ∀ a ∈ xs, ∀ ok, SaySpec rej B C ok c po pa a
theorem sayAll_next (rej : Pk -> ByteArray) (B : NegB) (C : NegC) (c : Came) (po pa : Value) (s e : Int) (hs : 0 <= s /\ s <= 9) (he : e ∈ [0, 1, 2, 3, 4, 5, 6, 8, 9, 10, 11, 13, 14]) : SayAll rej B C c po pa (nextL s e) := by
 intro a ha ok; have h1 := nextL_bd s e a ha; have h2 : s ∈ [0, 1, 2, 3, 4, 5, 6, 7, 8, 9] := by simp only [List.mem_cons, List.not_mem_nil, or_false]; omega
 have h3 := nextL_no e he s h2 a ha; exact say_most rej B C ok c po pa a h1.1 h1.2 h3.1 h3.2
section
variable (rej : Pk -> ByteArray) {w : World} {S ok : Nat -> Prop} {B : NegB} {C : NegC} {st : NSt} {X : NegX} (c : Came) (po pa : Value)
def EvPost (w w' : World) (S ok : Nat -> Prop) (B : NegB) (C : NegC) (r : NSt × List Pk) (e : Ending) : Prop :=
 ∃ v, e = .returned v /\ PksAt w' (Grow ok w) w.heap.size v r.2 /\ NegV w' (Grow S w) B C r.1 /\ Keep B.t w w'
set_option maxRecDepth 100000 in
theorem ndo_at (ev : Int) (hev : (Lit.int .i64 ev).wf = true) (h : NegAt w S B C st X) (hc : CameAt w B ok c po pa) (hs : SayAll rej B C c po pa (nextL st.s ev)) :
 Calls Tryz.prog 103 #[.pointer (some ⟨B.nb, 0, none⟩), .int .i64 ev, cameV c po pa] w fun e w' => EvPost w w' S ok B C (evS rej C st ev c) e := by
 obtain ⟨a1, k1, rfl, hc1, hc2⟩ := hc.po.form; obtain ⟨a2, k2, rfl, hc3, hc4⟩ := hc.2.1.1.form; have hb1 : Below w.heap.size w (w.alloc (.cells #[.bool c.is, .int .i64 c.p.code, .int .i64 c.p.id, (.slice a1 c.p.o.length k1), .string c.p.d, .int .i64 c.code, (.slice a2 c.ans.length k2)] 126 (0, 0))) := (Below.refl _ _).alloc (Nat.le_refl _) _; have hz := at1 w (.cells #[.bool c.is, .int .i64 c.p.code, .int .i64 c.p.id, (.slice a1 c.p.o.length k1), .string c.p.d, .int .i64 c.code, (.slice a2 c.ans.length k2)] 126 (0, 0))
 have hss : (Lit.int .i64 st.s).wf = true := by
  have := h.ss; simp only [Lit.wf, IntKind.min, IntKind.max, IntKind.signed, IntKind.bits, Bool.and_eq_true, decide_eq_true_eq, if_true]; omega
 have H := H_ (A_ (h.below hb1) (A_ (hc.below hb1) (A_ hs (A_ hb1 hz)))); have hne1 := h.ne1; have hnl := h.nlt; have hal := h.alt; have HD := H_ (do_any B.ab st.s st.c C.cf C.tm ev _ ((h.below hb1).below (Below.refl _ _).drew).aut h.ok.cf.1 h.ok.cf.2 h.ok.tm.1 h.ok.tm.2 h.ib hss hev); have hid := h.ss; have HI := H_ (doC_bd (nextL st.s ev) (show InB C.cf from ⟨by have := h.ok.cf; omega, h.ok.cf.2⟩) (show InB C.tm from ⟨by have := h.ok.tm; omega, h.ok.tm.2⟩) (nextL st.s ev) st.c h.ib); have g0 : (w.alloc (.cells #[.bool c.is, .int .i64 c.p.code, .int .i64 c.p.id, (.slice a1 c.p.o.length k1), .string c.p.d, .int .i64 c.code, (.slice a2 c.ans.length k2)] 126 (0, 0))).cell? ⟨B.nb, 0, none⟩ = some (.pointer (some ⟨B.ab, 0, none⟩)) := (h.below hb1).cell 0
 have HS : Hid (∀ W : World, W.heap[w.heap.size]? = some (.cells #[.bool c.is, .int .i64 c.p.code, .int .i64 c.p.id, (.slice a1 c.p.o.length k1), .string c.p.d, .int .i64 c.code, (.slice a2 c.ans.length k2)] 126 (0, 0)) -> W.cell? ⟨B.nb, 0, none⟩ = some (.pointer (some ⟨B.ab, 0, none⟩)) -> W.cell? ⟨B.nb, 0, none⟩ = some (.pointer (some ⟨B.ab, 0, none⟩)) /\ W.cell? ⟨w.heap.size, 0, none⟩ = some (.bool c.is) /\ W.cell? ⟨w.heap.size, 1, none⟩ = some (.int .i64 c.p.code) /\ W.cell? ⟨w.heap.size, 2, none⟩ = some (.int .i64 c.p.id) /\
  W.cell? ⟨w.heap.size, 3, none⟩ = some (.slice a1 c.p.o.length k1) /\ W.cell? ⟨w.heap.size, 4, none⟩ = some (.string c.p.d) /\ W.cell? ⟨w.heap.size, 5, none⟩ = some (.int .i64 c.code) /\ W.cell? ⟨w.heap.size, 6, none⟩ = some (.slice a2 c.ans.length k2)) := H_ fun W hz hg =>
  ⟨hg, cellOf hz 0 _ rfl, cellOf hz 1 _ rfl, cellOf hz 2 _ rfl, cellOf hz 3 _ rfl, cellOf hz 4 _ rfl, cellOf hz 5 _ rfl, cellOf hz 6 _ rfl⟩
 have HG := H_ g0; obtain ⟨-, e0, e1, e2, e3, e4, e5, e6⟩ := HS.out _ hz g0; unfold cameV; clear h hc hs hb1 hz; go_enter Tryz.func103, Tryz.ntmps103; go_wp2_with fail
 go_region_held3 (fun W => W.cell? ⟨B.nb, 0, none⟩ = some (.pointer (some ⟨B.ab, 0, none⟩)) /\ W.cell? ⟨w.heap.size, 0, none⟩ = some (.bool c.is) /\ W.cell? ⟨w.heap.size, 1, none⟩ = some (.int .i64 c.p.code) /\ W.cell? ⟨w.heap.size, 2, none⟩ = some (.int .i64 c.p.id) /\
  W.cell? ⟨w.heap.size, 3, none⟩ = some (.slice a1 c.p.o.length k1) /\ W.cell? ⟨w.heap.size, 4, none⟩ = some (.string c.p.d) /\ W.cell? ⟨w.heap.size, 5, none⟩ = some (.int .i64 c.code) /\ W.cell? ⟨w.heap.size, 6, none⟩ = some (.slice a2 c.ans.length k2))
  (first
   | exact HS.out _ H3.out.2.1 H3.out.2.2
   | exact HS.out _ H2.out.2.2.1 H2.out.2.2.2.1
   | go_keep)
  (first
   | (
    go_at_call 120; refine HD.out.mono ?_; rintro e w2 ⟨v2, rfl, hi2, ha2, hk2⟩; have hz2 := (hk2.block w.heap.size (show w.heap.size < (w.alloc (.cells #[.bool c.is, .int .i64 c.p.code, .int .i64 c.p.id, (.slice a1 c.p.o.length k1), .string c.p.d, .int .i64 c.code, (.slice a2 c.ans.length k2)] 126 (0, 0))).heap.size by rw [alloc1]; omega) (by omega)).trans H.out.2.2.2.2; have hn2 := NegAt.auto (H.out.1.below (Below.refl _ _).drew) hk2 _ _ ha2 HI.out (nextS_bd _ _ hid); have hg2 : w2.cell? ⟨B.nb, 0, none⟩ = some (.pointer (some ⟨B.ab, 0, none⟩)) := hn2.cell 0; have hc2 := (H.out.2.1.below (Below.refl _ _).drew).keep hk2 (fun b hb => Or.inr (Or.inl hb)); have hto := told_at rej c (.slice a1 c.p.o.length k1) (.slice a2 c.ans.length k2) (nextL st.s ev) v2 _ hi2 (show B.nb < (w.alloc (.cells #[.bool c.is, .int .i64 c.p.code, .int .i64 c.p.id, (.slice a1 c.p.o.length k1), .string c.p.d, .int .i64 c.code, (.slice a2 c.ans.length k2)] 126 (0, 0))).heap.size by rw [alloc1]; omega) (Nat.le_trans (nextL_le _ _) (by omega)) (nextL_8 _ _) hn2 hc2 H.out.2.2.1; unfold cameV at hto; have H2 := H_ (A_ hn2 (A_ hk2 (A_ hz2 (A_ hg2 hto)))); have hsz2 : w.heap.size < w2.heap.size := (Array.getElem?_eq_some_iff.1 hz2).1
    clear hi2 ha2 hk2 hz2 hn2 hg2 hc2 hto)
   | (
    go_at_call 81; refine H2.out.2.2.2.2.mono ?_; rintro e w3 ⟨v3, rfl, hp3, ⟨X3, hn3⟩, hk3⟩; have hz3 := (hk3.block w.heap.size hsz2 (by omega)).trans H2.out.2.2.1; have hg3 : w3.cell? ⟨B.nb, 0, none⟩ = some (.pointer (some ⟨B.ab, 0, none⟩)) := hn3.cell 0; have H3 := H_ (A_ (A_ hp3 (A_ hn3 hk3)) (A_ hz3 hg3))
    clear hp3 hn3 hk3 hz3 hg3))
 go_wp2_with fail; go_ret; have hsz : (w.alloc (.cells #[.bool c.is, .int .i64 c.p.code, .int .i64 c.p.id, (.slice a1 c.p.o.length k1), .string c.p.d, .int .i64 c.code, (.slice a2 c.ans.length k2)] 126 (0, 0))).heap.size = w.heap.size + 1 := alloc1 _ _; have hs2 := H2.out.2.1.size; have hs1 : (w.alloc (.cells #[.bool c.is, .int .i64 c.p.code, .int .i64 c.p.id, (.slice a1 c.p.o.length k1), .string c.p.d, .int .i64 c.code, (.slice a2 c.ans.length k2)] 126 (0, 0))).drew.heap.size = w.heap.size + 1 := alloc1 _ _; obtain ⟨L, h1, h2, h3⟩ := H3.out.1.1; refine ⟨_, rfl, ⟨L, h1, h2.base (by omega), h3.mono (fun b hb => hb.imp id (fun h => by omega))⟩, ⟨_, H3.out.1.2.1.mono (fun b hb => hb.imp id (fun h => by omega))⟩, ?_⟩; exact ((Keep.of_below B.t H.out.2.2.2.1).drew.trans (H2.out.2.1.mono (fun b _ hb => Or.inr (Or.inl hb)))).trans (H3.out.1.2.2.mono (fun b _ hb => Or.inl hb))
end
section
variable (rej : Pk -> ByteArray) {w : World} {S ok : Nat -> Prop} {B : NegB} {C : NegC} {st : NSt} {X : NegX} (c : Came) (po pa : Value)
theorem EvPost.none' {w w' : World} {S ok : Nat -> Prop} {B : NegB} {C : NegC} {st : NSt} (h : NegV w' (Grow S w) B C st) (hk : Keep B.t w w') : EvPost w w' S ok B C (st, []) (.returned (.slice none 0 0)) := ⟨_, rfl, PksAt.nil _ _ _, h, hk⟩
theorem noCame_at (w : World) (B : NegB) : CameAt w B (fun _ => False) noCame (.slice none 0 0) (.slice none 0 0) := ⟨⟨fun _ => False, Rec.nil _ _ _, fun _ h => h.elim⟩, ⟨Rec.nil _ _ _, ORow.nil _ _, fun _ h => nomatch h⟩, fun _ h => h.elim, Nat.zero_le _, Nat.zero_le _⟩
theorem Do_at (ev : Int) (hev : 0 <= ev /\ ev <= 3) (h : NegAt w S B C st X) :
 Calls Tryz.prog 62 #[.pointer (some ⟨B.nb, 0, none⟩), .int .i64 ev] w fun e w' => EvPost w w' S (fun _ => False) B C (evS rej C st ev noCame) e := by
 have hev' : ev = 0 \/ ev = 1 \/ ev = 2 \/ ev = 3 := by omega
 have hw : (Lit.int .i64 ev).wf = true := by rcases hev' with rfl | rfl | rfl | rfl <;> decide
 have hm : ev ∈ [(0 : Int), 1, 2, 3, 4, 5, 6, 8, 9, 10, 11, 13, 14] := by rcases hev' with rfl | rfl | rfl | rfl <;> decide
 have H := H_ (A_ h (ndo_at rej noCame _ _ ev hw h (noCame_at w B) (sayAll_next rej B C noCame _ _ st.s ev h.ss hm))); unfold cameV noCame noB at H; have d1 : decide (ev < 0) = false := by simp; omega
 have d2 : decide (3 < ev) = false := by simp; omega
 clear h hev hev' hw hm; go_enter Tryz.func62, Tryz.ntmps62
 go_wp2_with (first
  | (go_at_call 79; refine (nnone_at H.out.1).mono ?_; rintro e w1 ⟨rfl, rfl⟩)
  | (go_at_call 103; refine H.out.2.mono ?_; rintro e w1 ⟨v, rfl, h1⟩))
 go_ret; exact ⟨_, rfl, h1⟩
theorem Event_at (p : Pk) (po : Value) (ev : Int) (hw : (Lit.int .i64 ev).wf = true) (h : NegAt w S B C st X) (ho : Opts w ok po p.o) (hok : ∀ b, ok b -> ¬ B.t b) (hlen : p.o.length <= 1000000) (hs : ∀ pa, SayAll rej B C ⟨true, p, 0, []⟩ po pa (nextL st.s ev)) (okr : Nat -> Prop := ok) :
 Calls Tryz.prog 109 #[.pointer (some ⟨B.nb, 0, none⟩), .int .i64 ev, pkV p po] w fun e w' => EvPost w w' S okr B C (evS rej C st ev ⟨true, p, 0, []⟩) e := by
 obtain ⟨a1, k1, rfl, hc1, hc2⟩ := ho.form; have hb1 : Below w.heap.size w (w.alloc (.cells #[.int .i64 p.code, .int .i64 p.id, (.slice a1 p.o.length k1), .string p.d] 59 (0, 0))) := (Below.refl _ _).alloc (Nat.le_refl _) _; have H := H_ (A_ (h.below hb1) (A_ hb1 (ndo_at (ok := fun _ => False) rej ⟨true, p, 0, []⟩ (.slice a1 p.o.length k1) (.slice none 0 0) ev hw (h.below hb1) ⟨⟨ok, ho.below hb1, hok⟩, ⟨Rec.nil _ _ _, ORow.nil _ _, fun _ h => nomatch h⟩, fun _ h => h.elim, hlen, Nat.zero_le _⟩ (hs _)))); unfold cameV at H; unfold pkV; clear h ho hok hb1 hs; go_enter Tryz.func109, Tryz.ntmps109
 go_wp2_with (first
  | (go_at_call 79; refine (nnone_at H.out.1).mono ?_; rintro e w1 ⟨rfl, rfl⟩)
  | (go_at_call 103; refine H.out.2.2.mono ?_; rintro e w1 ⟨v, rfl, h1⟩))
 go_ret; obtain ⟨⟨L, h2, h3, h4⟩, ⟨X', h5⟩, h6⟩ := h1; have hsz : (w.alloc (.cells #[.int .i64 p.code, .int .i64 p.id, (.slice a1 p.o.length k1), .string p.d] 59 (0, 0))).heap.size = w.heap.size + 1 := alloc1 _ _; exact ⟨_, rfl, ⟨L, h2, h3.base (by omega), h4.mono (fun b hb => hb.imp (fun h => h.elim) (fun h => by omega))⟩, ⟨X', h5.mono (fun b hb => hb.imp id (fun h => by omega))⟩, (Keep.of_below _ H.out.2.1).trans h6⟩
theorem State_at (h : NegAt w S B C st X) :
 Calls Tryz.prog 99 #[.pointer (some ⟨B.nb, 0, none⟩)] w fun e w' => e = .returned (.int .i64 st.s) /\ w = w' := by
 have g0 : w.cell? ⟨B.nb, 0, none⟩ = some (.pointer (some ⟨B.ab, 0, none⟩)) := h.cell 0; have H := H_ (A_ h (state_some B.ab st.s st.c C.cf C.tm w h.aut h.ok.cf.1)); clear h; go_enter Tryz.func99, Tryz.ntmps99
 go_wp2_with (first
  | (go_at_call 79; refine (nnone_at H.out.1).mono ?_; rintro e w1 ⟨rfl, rfl⟩)
  | (go_at_call 135; refine H.out.2.mono ?_; rintro e w1 ⟨rfl, rfl⟩))
 go_ret; exact ⟨rfl, rfl⟩
end
theorem neqO (a b : Int) (s t : ByteArray) (w : World) : (binOp .neq 132 (.agg #[.int .i64 a, .string s]) (.agg #[.int .i64 b, .string t])).run Tryz.prog w = .ok (.bool (!(decide (a = b) && decide (s = t)))) w := by
 have u3 := Tryz.underlying3; have a3 := Tryz.isAgg3; have z3 := Tryz.sizeOf3; have u9 := Tryz.underlying9; have a9 := Tryz.isAgg9; have z9 := Tryz.sizeOf9; have hS : Tryz.prog.underlying 132 = some (.struct (Tryz.prog.fieldsOf 132)) := by kernel_rfl
 have hp : Tryz.prog.stoodInHeld 132 = false := by kernel_rfl
 rw [run_neq_struct, show (10000 : Nat) = 9999 + 1 from rfl, run_equalIn_agg w 9999 132 _ _ hS hp]; simp only [Program.fieldsOf, Tryz.underlying132]; go_simp
 by_cases h1 : a = b <;> by_cases h2 : s = t <;> simp [h1, h2]
 intro h; rw [ByteArray.toList_eq, ByteArray.toList_eq] at h; exact h2 (ByteArray.ext (Array.ext' h))
set_option maxRecDepth 100000 in
theorem equal_any (l l' : List Opt) (lv lv' : Value) (ok ok' : Nat -> Prop) (w : World) (hl : Opts w ok lv l) (hl' : Opts w ok' lv' l') (hm : l.length <= 1000000) :
 Calls Tryz.prog 174 #[lv, lv'] w fun e w' => ∃ b, e = .returned (.bool b) /\ (b = true ↔ l = l') /\ Below w.heap.size w w' := by
 obtain ⟨sa, c, rfl, hc, hcm⟩ := hl.form; obtain ⟨sb, d, rfl, hd, hdm⟩ := hl'.form
 by_cases hlen : l.length = l'.length
 . obtain ⟨len, hln⟩ : ∃ len, len = l.length := ⟨_, rfl⟩; have HLN := H_ (A_ hln hlen); have H := H_ (A_ hl hl'); rw [<- hlen] at hd ⊢; rw [<- hln] at hc hm hd ⊢; unfold maxLen at hcm hdm; clear hln hlen hl hl'; go_enter Tryz.func174, Tryz.ntmps174; go_wp2_with fail
   go_loopg [13] len (fun x i wr => ∃ k : Nat, k <= len /\ x = len - k /\ i = .int .i64 k /\ Hid (l.take k = l'.take k /\ Below w.heap.size w wr))
   case atStart => exact ⟨0, by omega, by omega, rfl, rfl, Below.refl _ _⟩
   case round =>
    obtain ⟨k, hk, rfl, rfl, hK⟩ := hrel; have HK := H_ hK.out; clear hK
    by_cases hkl : k < len
    . have h1 : k < l.length := by have := HLN.out; omega
      have h2 : k < l'.length := by have := HLN.out; omega
      obtain ⟨b, off, rfl, hb, -, -, -, -, c0, c1⟩ := H.out.1.at k h1; obtain ⟨b', off', rfl, hb', -, -, -, -, c0', c1'⟩ := H.out.2.at k h2; have d0 : wr.cell? ⟨b, off + k * 2, none⟩ = _ := (HK.out.2.cell (p := ⟨b, off + k * 2, none⟩) hb).trans c0; have d1 : wr.cell? ⟨b, off + k * 2 + 1, none⟩ = _ := (HK.out.2.cell (p := ⟨b, off + k * 2 + 1, none⟩) hb).trans c1; have d2 : wr.cell? ⟨b', off' + k * 2, none⟩ = _ := (HK.out.2.cell (p := ⟨b', off' + k * 2, none⟩) hb').trans c0'; have d3 : wr.cell? ⟨b', off' + k * 2 + 1, none⟩ = _ := (HK.out.2.cell (p := ⟨b', off' + k * 2 + 1, none⟩) hb').trans c1'; have HT := H_ (show l.take (k + 1) = l.take k ++ [l[k]] /\ l'.take (k + 1) = l'.take k ++ [l'[k]] from ⟨List.take_succ_eq_append_getElem h1, List.take_succ_eq_append_getElem h2⟩); have HNE := H_ (show l[k] ≠ l'[k] -> l ≠ l' from fun hn he => hn (by subst he; rfl)); clear c0 c1 c0' c1'; generalize l[k] = o at *; generalize l'[k] = o' at *; obtain ⟨t, v⟩ := o; obtain ⟨t', v'⟩ := o'; simp only at d0 d1 d2 d3
      by_cases he : t = t' /\ v = v'
      . obtain ⟨rfl, rfl⟩ := he; have hn : ∀ w, (binOp .neq 132 (.agg #[.int .i64 t, .string v]) (.agg #[.int .i64 t, .string v])).run Tryz.prog w = .ok (.bool false) w := fun w => by rw [neqO]; simp
        go_wp2_with fail
        go_quiet (fail)
        go_wp2_with fail
        go_roundg (len - (k + 1))
        case measure => omega
        case rel => exact ⟨k + 1, by omega, rfl, by go_num, by rw [HT.out.1, HT.out.2, HK.out.1], ⟨HK.out.2.os, HK.out.2.tape, HK.out.2.output, HK.out.2.size, HK.out.2.block⟩⟩
      . have hn : ∀ w, (binOp .neq 132 (.agg #[.int .i64 t, .string v]) (.agg #[.int .i64 t', .string v'])).run Tryz.prog w = .ok (.bool true) w := fun w => by
         rw [neqO]
         by_cases h1 : t = t'
         . have h2 : ¬ v = v' := fun h => he ⟨h1, h⟩; simp [h1, h2]
         . simp [h1]
        have HE := H_ (HNE.out (fun h => he (by cases h; exact ⟨rfl, rfl⟩))); clear he; go_wp2_with fail
        go_quiet (fail)
        go_wp2_with fail; go_ret; exact ⟨false, rfl, by simp [HE.out], ⟨HK.out.2.os, HK.out.2.tape, HK.out.2.output, HK.out.2.size, HK.out.2.block⟩⟩
    . obtain rfl : len = k := by omega
      go_wp2_with fail; go_ret; have h1 := HK.out.1; rw [HLN.out.1, List.take_length, HLN.out.2, List.take_length] at h1; exact ⟨true, rfl, by simp [h1], HK.out.2⟩
 . have HE := H_ (show l ≠ l' from fun h => hlen (by rw [h])); obtain ⟨n1, h1⟩ : ∃ n, n = l.length := ⟨_, rfl⟩; obtain ⟨n2, h2⟩ : ∃ n, n = l'.length := ⟨_, rfl⟩; rw [<- h1] at hc hm ⊢; rw [<- h2] at hd ⊢; rw [<- h1, <- h2] at hlen; have hz : ¬ ((n1 : Int) = (n2 : Int)) := by omega
   clear h1 h2 hlen hl hl'; go_enter Tryz.func174, Tryz.ntmps174; go_wp2_with fail; go_ret; exact ⟨false, rfl, by simp [HE.out], Below.refl _ _⟩
theorem same_any (l l' : List Opt) (lv lv' : Value) (ok ok' : Nat -> Prop) (w : World) (hl : Opts w ok lv l) (hl' : Opts w ok' lv' l') (hm : l.length <= 1000000) :
 Calls Tryz.prog 148 #[lv, lv'] w fun e w' => ∃ b, e = .returned (.bool b) /\ (b = true ↔ l = l') /\ Below w.heap.size w w' := by
 have H := H_ (equal_any l l' lv lv' ok ok' w hl hl' hm); clear hl hl' hm; go_enter Tryz.func148, Tryz.ntmps148; go_wp2_with fail; refine H.out.mono ?_; rintro e w1 ⟨b, rfl, h1, h2⟩; have H2 := H_ (A_ h1 h2); clear h1 h2; go_wp2_with fail; go_ret; exact ⟨b, rfl, H2.out⟩
def JudgeOk (g : Nat) (bs : Array Value) (w : World) (ok : Nat -> Prop) (l : List Opt) (lv : Value) (J : Int × List Opt) : Prop :=
 (∀ args w, (callFunc g args).run Tryz.prog w = .ok (.enter g args) w) /\
 ∀ W, Below w.heap.size w W -> Opts W ok lv l -> Calls Tryz.prog g (#[lv] ++ bs) W fun e w' => ∃ v, e = .returned (.tuple #[.int .i64 J.1, v]) /\ ORow w' W.heap.size v J.2 /\ Below W.heap.size W w'
section
variable (rej : Pk -> ByteArray) {w : World} {S ok : Nat -> Prop} {B : NegB} {C : NegC} {st : NSt} {X : NegX}
def reqS (rej : Pk -> ByteArray) (C : NegC) (st : NSt) (p : Pk) (J : Int × List Opt) : NSt × List Pk :=
 if J.1 = 2 then evS rej C { st with naks := 0 } 6 ⟨true, p, J.1, J.2⟩ else evS rej C st 7 ⟨true, p, J.1, J.2⟩
end
instance : DecidableEq Opt := fun a b =>
 if h : a.t = b.t /\ a.v = b.v then .isTrue (by obtain ⟨t, v⟩ := a; obtain ⟨t', v'⟩ := b; obtain ⟨h1, h2⟩ := h; simp only at h1 h2; subst h1 h2; rfl) else .isFalse (fun e => h (by subst e; exact ⟨rfl, rfl⟩))
def ackS (rej : Pk -> ByteArray) (C : NegC) (st : NSt) (p : Pk) : NSt × List Pk :=
 if p.id = st.asked then if p.o = st.req then evS rej C { st with mine := st.req } 8 ⟨true, p, 0, []⟩ else (st, []) else (st, [])
section
variable (rej : Pk -> ByteArray) {w : World} {S ok : Nat -> Prop} {B : NegB} {C : NegC} {st : NSt} {X : NegX}
set_option maxRecDepth 100000 in
theorem acked_at (p : Pk) (po : Value) (hcode : p.code = 2) (h : NegAt w S B C st X) (ho : Opts w ok po p.o) (hok : ∀ b, ok b -> ¬ B.t b) (hlen : p.o.length <= 1000000) (okr : Nat -> Prop := ok) :
 Calls Tryz.prog 116 #[.pointer (some ⟨B.nb, 0, none⟩), pkV p po] w fun e w' => EvPost w w' S okr B C (ackS rej C st p) e := by
 obtain ⟨pc, pi, pl, pd⟩ := p; simp only at hcode ho hlen
 subst hcode; obtain ⟨a1, k1, rfl, hc1, hc2⟩ := ho.form; have hb1 : Below w.heap.size w (w.alloc (.cells #[.int .i64 2, .int .i64 pi, (.slice a1 pl.length k1), .string pd] 59 (0, 0))) := (Below.refl _ _).alloc (Nat.le_refl _) _; have hz := at1 w (.cells #[.int .i64 2, .int .i64 pi, (.slice a1 pl.length k1), .string pd] 59 (0, 0)); have h1 := h.below hb1; have g0 : (w.alloc (.cells #[.int .i64 2, .int .i64 pi, (.slice a1 pl.length k1), .string pd] 59 (0, 0))).cell? ⟨B.nb, 12, none⟩ = some (.int .u8 st.asked) := h1.cell 12; have g1 : (w.alloc (.cells #[.int .i64 2, .int .i64 pi, (.slice a1 pl.length k1), .string pd] 59 (0, 0))).cell? ⟨w.heap.size, 1, none⟩ = some (.int .i64 pi) := cellOf hz 1 _ rfl; have ew : wrap64 st.asked = st.asked := by have := h.ak; unfold wrap64; omega
 have H := H_ (A_ h (A_ h1 (A_ ho (A_ hb1 (A_ hok hz))))); unfold pkV; clear h ho hok hb1 hz h1
 by_cases hid : pi = st.asked
 . subst hid; have hq : ∀ n, Below (w.alloc (.cells #[.int .i64 2, .int .i64 st.asked, (.slice a1 pl.length k1), .string pd] 59 (0, 0))).heap.size (w.alloc (.cells #[.int .i64 2, .int .i64 st.asked, (.slice a1 pl.length k1), .string pd] 59 (0, 0))) ((w.alloc (.cells #[.int .i64 2, .int .i64 st.asked, (.slice a1 pl.length k1), .string pd] 59 (0, 0))).drewN n) := fun n => ⟨rfl, rfl, rfl, Nat.le_refl _, fun _ _ => rfl⟩; have hlt : w.heap.size < (w.alloc (.cells #[.int .i64 2, .int .i64 st.asked, (.slice a1 pl.length k1), .string pd] 59 (0, 0))).heap.size := by rw [alloc1]; omega
   have hsz1 : (w.alloc (.cells #[.int .i64 2, .int .i64 st.asked, (.slice a1 pl.length k1), .string pd] 59 (0, 0))).heap.size = w.heap.size + 1 := alloc1 _ _; have hbl := H.out.1.nlt; obtain ⟨qa, qc, hrq⟩ := H.out.1.req.form
   have HS : Hid (∀ W, Below (w.alloc (.cells #[.int .i64 2, .int .i64 st.asked, (.slice a1 pl.length k1), .string pd] 59 (0, 0))).heap.size (w.alloc (.cells #[.int .i64 2, .int .i64 st.asked, (.slice a1 pl.length k1), .string pd] 59 (0, 0))) W -> W.cell? ⟨B.nb, 10, none⟩ = some (.slice qa st.req.length qc) /\ W.cell? ⟨w.heap.size, 0, none⟩ = some (.int .i64 2) /\ W.cell? ⟨w.heap.size, 1, none⟩ = some (.int .i64 st.asked) /\ W.cell? ⟨w.heap.size, 2, none⟩ = some (.slice a1 pl.length k1) /\ W.cell? ⟨w.heap.size, 3, none⟩ = some (.string pd)) := H_ fun W hW =>
    ⟨by rw [hW.cell H.out.2.1.nlt, <- hrq]; exact H.out.2.1.cell 10, cellOf ((hW.block _ hlt).trans H.out.2.2.2.2.2) 0 _ rfl, cellOf ((hW.block _ hlt).trans H.out.2.2.2.2.2) 1 _ rfl, cellOf ((hW.block _ hlt).trans H.out.2.2.2.2.2) 2 _ rfl, cellOf ((hW.block _ hlt).trans H.out.2.2.2.2.2) 3 _ rfl⟩
   have HSA := H_ (fun W (hW : Below (w.alloc (.cells #[.int .i64 2, .int .i64 st.asked, (.slice a1 pl.length k1), .string pd] 59 (0, 0))).heap.size (w.alloc (.cells #[.int .i64 2, .int .i64 st.asked, (.slice a1 pl.length k1), .string pd] 59 (0, 0))) W) => same_any pl st.req (.slice a1 pl.length k1) X.req ok (fun b => 0 <= b) W (H.out.2.2.1.below (H.out.2.2.2.1.trans (hW.mono (by omega)))) ((H.out.2.1.req.below hW).opts (by have := H.out.1.lr; unfold maxLen; omega)) hlen); rw [hrq] at HSA; obtain ⟨y0, y1, y2, y3, y4⟩ := HS.out _ (Below.refl _ _); go_enter Tryz.func116, Tryz.ntmps116; go_wp2_with fail
   go_quiet (fail)
   go_wp2_with fail; have hqq := hq nq
   go_region_held3 (fun W => W.cell? ⟨B.nb, 10, none⟩ = some (.slice qa st.req.length qc) /\ W.cell? ⟨w.heap.size, 0, none⟩ = some (.int .i64 2) /\ W.cell? ⟨w.heap.size, 1, none⟩ = some (.int .i64 st.asked) /\ W.cell? ⟨w.heap.size, 2, none⟩ = some (.slice a1 pl.length k1) /\ W.cell? ⟨w.heap.size, 3, none⟩ = some (.string pd))
    (first
     | exact HS.out _ H2.out.2
     | exact HS.out _ hqq.drew
     | go_keep)
    (first
     | (go_at_call 148; refine (HSA.out _ hqq.drew).mono ?_; rintro e w2 ⟨b, rfl, hb1, hb2⟩; have H2 := H_ (A_ hb1 (show Below (w.alloc (.cells #[.int .i64 2, .int .i64 st.asked, (.slice a1 pl.length k1), .string pd] 59 (0, 0))).heap.size (w.alloc (.cells #[.int .i64 2, .int .i64 st.asked, (.slice a1 pl.length k1), .string pd] 59 (0, 0))) w2 from Below.trans hqq.drew hb2)); clear hb1 hb2))
   have hs2 := H2.out.2.size; have hbw := H.out.2.2.2.1.trans (H2.out.2.mono (show w.heap.size <= (w.alloc (.cells #[.int .i64 2, .int .i64 st.asked, (.slice a1 pl.length k1), .string pd] 59 (0, 0))).heap.size by omega)); obtain ⟨x0, x1, x2, x3, x4⟩ := HS.out _ H2.out.2
   cases b with
   | false =>
    go_wp2_with fail; go_ret; have hne : ¬ pl = st.req := fun he => by have := H2.out.1.2 he; cases this
    have es : ackS rej C st ⟨2, st.asked, pl, pd⟩ = (st, []) := by unfold ackS; rw [if_pos rfl]; exact if_neg hne
    rw [es]; exact EvPost.none' ⟨X, (H.out.1.below hbw).mono (fun b h => .inl h)⟩ (Keep.of_below _ hbw)
   | true =>
    have heq : pl = st.req := H2.out.1.1 rfl; have HES := H_ (show ackS rej C st ⟨2, st.asked, pl, pd⟩ = evS rej C { st with mine := st.req } 8 ⟨true, ⟨2, st.asked, pl, pd⟩, 0, []⟩ from by unfold ackS; rw [if_pos rfl]; exact if_pos heq); have HCL := H_ (clone_any st.req X.req (fun b => 0 <= b) w2 ((H.out.2.1.req.below H2.out.2).opts (by have := H.out.1.lr; unfold maxLen; omega)) (by have := H.out.1.lr; omega)); rw [hrq] at HCL; clear heq; go_wp2_with fail; refine HCL.out.mono ?_; rintro e w3 ⟨v3, rfl, hr3, hb3⟩; obtain ⟨q3, k3, rfl⟩ := hr3.form; have hn3 := (H.out.2.1.below H2.out.2).below hb3; have f15 := hn3.fz 15; have g15 : w3.cell? ⟨B.nb, 15, none⟩ = some X.mine := hn3.cell 15; have hk4 := (Keep.of_below (fun b => b = B.nb) (hbw.trans (hb3.mono (by omega)))).trans (keepC B w3 15 (.slice q3 st.req.length k3)); have hz4 := ((keepC B w3 15 (.slice q3 st.req.length k3)).block w.heap.size (by have := hb3.size; omega) (by omega)).trans ((hb3.block _ (by omega)).trans ((H2.out.2.block _ hlt).trans H.out.2.2.2.2.2)); have u0 : (w3.setCell ⟨B.nb, 15, none⟩ (.slice q3 st.req.length k3)).cell? ⟨w.heap.size, 0, none⟩ = some _ := cellOf hz4 0 _ rfl; have u1 : (w3.setCell ⟨B.nb, 15, none⟩ (.slice q3 st.req.length k3)).cell? ⟨w.heap.size, 1, none⟩ = some _ := cellOf hz4 1 _ rfl; have u2 : (w3.setCell ⟨B.nb, 15, none⟩ (.slice q3 st.req.length k3)).cell? ⟨w.heap.size, 2, none⟩ = some _ := cellOf hz4 2 _ rfl; have u3 : (w3.setCell ⟨B.nb, 15, none⟩ (.slice q3 st.req.length k3)).cell? ⟨w.heap.size, 3, none⟩ = some _ := cellOf hz4 3 _ rfl; have hr4 : ORow (w3.setCell ⟨B.nb, 15, none⟩ (.slice q3 st.req.length k3)) w2.heap.size (.slice q3 st.req.length k3) st.req := hr3.keep (keepC B w3 15 _) (fun k hk he => by have := (hr3.lt k hk).2; omega); have ht : Opts (w3.setCell ⟨B.nb, 15, none⟩ (.slice q3 st.req.length k3)) (B.r (Grow S w)) (.slice q3 st.req.length k3) st.req := Rec.mono (hr4.opts (by have := H.out.1.lr; unfold maxLen; omega)) (fun b hb => ⟨.inr (by omega), fun ht => by have := H.out.1.tlt ht; omega⟩); have hblk : (w3.setCell ⟨B.nb, 15, none⟩ (.slice q3 st.req.length k3)).heap[B.nb]? = some (.cells (negCells B C { st with mine := st.req } { X with mine := .slice q3 st.req.length k3 }) 122 (0, 0)) := set_block hn3.blk 15 _
    have hn4 : NegAt _ (Grow S w) B C { st with mine := st.req } { X with mine := .slice q3 st.req.length k3 } :=
     NegAt.turn H.out.1 hk4 hblk ⟨rfl, rfl, rfl, rfl⟩ ⟨rfl, rfl, rfl⟩ H.out.1.id ht (H.out.1.theirs' hk4) (by have := H.out.1.lr; show st.req.length <= 1000000; omega) H.out.1.lt
    have HE := H_ (A_ (Event_at (ok := ok) rej ⟨2, st.asked, pl, pd⟩ (.slice a1 pl.length k1) 8 (by decide) hn4 (Rec.keep H.out.2.2.1 hk4 (fun b _ hb he => H.out.2.2.2.2.1 b hb (.inl he))) H.out.2.2.2.2.1 hlen (fun pa => sayAll_next rej B C _ _ _ _ 8 hn4.ss (by decide)) okr) hk4); unfold pkV at HE; clear hn3 hk4 hz4 hr4 ht hblk hn4 hr3 hb3; go_wp2_with fail; refine HE.out.1.mono ?_; rintro e w5 ⟨v5, rfl, ⟨L, l1, l2, l3⟩, ⟨X5, n5⟩, k5⟩; have H5 := H_ (A_ l1 (A_ l2 (A_ l3 (A_ n5 k5)))); clear l1 l2 l3 n5 k5; go_wp2_with fail; go_ret; have hs4 := HE.out.2.size; rw [HES.out]; refine ⟨_, rfl, ⟨L, H5.out.1, H5.out.2.1.base (by omega), H5.out.2.2.1.mono (fun b hb => hb.imp id (fun h => by omega))⟩, ⟨X5, H5.out.2.2.2.1.mono (fun b hb => hb.elim id (fun h => .inr (by omega)))⟩, ?_⟩; exact (HE.out.2.mono (fun b _ hb => Or.inl hb)).trans H5.out.2.2.2.2
 . have HID := H_ hid; go_enter Tryz.func116, Tryz.ntmps116; go_wp2_with fail
   go_quiet (fail)
   go_wp2_with fail; go_ret; have es : ackS rej C st ⟨2, pi, pl, pd⟩ = (st, []) := by unfold ackS; exact if_neg HID.out
   rw [es]; have hbq : Below w.heap.size w ((w.alloc (.cells #[.int .i64 2, .int .i64 pi, (.slice a1 pl.length k1), .string pd] 59 (0, 0))).drewN nq) := ⟨H.out.2.2.2.1.os, H.out.2.2.2.1.tape, H.out.2.2.2.1.output, H.out.2.2.2.1.size, H.out.2.2.2.1.block⟩; exact EvPost.none' ⟨X, (H.out.1.below hbq).mono (fun b h => .inl h)⟩ (Keep.of_below _ hbq)
end
section
variable (rej : Pk -> ByteArray) {w : World} {S ok : Nat -> Prop} {B : NegB} {C : NegC} {st : NSt} {X : NegX}
theorem EvPost.of_box {w w1 w' : World} {S ok : Nat -> Prop} {B : NegB} {C : NegC} {r : NSt × List Pk} {e : Ending} (h : EvPost w1 w' S ok B C r e) (hb : Below w.heap.size w w1) : EvPost w w' S ok B C r e := by
 obtain ⟨v, he, ⟨L, h2, h3, h4⟩, ⟨X', h5⟩, h6⟩ := h; have hsz := hb.size; exact ⟨v, he, ⟨L, h2, h3.base hsz, h4.mono (fun b hb => hb.imp id (fun h => Nat.le_trans hsz h))⟩, ⟨X', h5.mono (fun b hb => hb.imp id (fun h => Nat.le_trans hsz h))⟩, (Keep.of_below _ hb).trans h6⟩
set_option maxRecDepth 100000 in
theorem take2 (p : Pk) (po : Value) (hcode : p.code = 2) (h : NegAt w S B C st X) (ho : Opts w ok po p.o) (hok : ∀ b, ok b -> ¬ B.t b) (hlen : p.o.length <= 1000000) (okr : Nat -> Prop := ok) :
 Calls Tryz.prog 69 #[.pointer (some ⟨B.nb, 0, none⟩), pkV p po] w fun e w' => EvPost w w' S okr B C (ackS rej C st p) e := by
 obtain ⟨a1, k1, rfl, hc1, hc2⟩ := ho.form; have hb1 : Below w.heap.size w (w.alloc (.cells #[.int .i64 p.code, .int .i64 p.id, (.slice a1 p.o.length k1), .string p.d] 59 (0, 0))) := (Below.refl _ _).alloc (Nat.le_refl _) _; have HX := H_ (A_ (h.below hb1) hb1); have HC := H_ (acked_at rej p _ hcode (h.below hb1) (ho.below hb1) hok hlen okr); unfold pkV at HC ⊢; clear h ho hok hb1; obtain ⟨pc, pi, pl, pd⟩ := p; simp only at hcode
 subst hcode; go_enter Tryz.func69, Tryz.ntmps69
 go_wp2_with (first
  | (go_at_call 79; refine (nnone_at HX.out.1).mono ?_; rintro e w1 ⟨rfl, rfl⟩)
  | (go_at_call 116; refine HC.out.mono ?_; rintro e w5 ⟨v5, rfl, h5⟩))
 go_ret; exact EvPost.of_box ⟨_, rfl, h5⟩ HX.out.2
set_option maxRecDepth 100000 in
theorem take5 (p : Pk) (po : Value) (hcode : p.code = 5) (h : NegAt w S B C st X) (ho : Opts w ok po p.o) (hok : ∀ b, ok b -> ¬ B.t b) (hlen : p.o.length <= 1000000) (okr : Nat -> Prop := ok) :
 Calls Tryz.prog 69 #[.pointer (some ⟨B.nb, 0, none⟩), pkV p po] w fun e w' => EvPost w w' S okr B C (evS rej C st 10 ⟨true, p, 0, []⟩) e := by
 obtain ⟨a1, k1, rfl, hc1, hc2⟩ := ho.form; have hb1 : Below w.heap.size w (w.alloc (.cells #[.int .i64 p.code, .int .i64 p.id, (.slice a1 p.o.length k1), .string p.d] 59 (0, 0))) := (Below.refl _ _).alloc (Nat.le_refl _) _; have HX := H_ (A_ (h.below hb1) hb1); have HC := H_ (Event_at rej p _ 10 (by decide) (h.below hb1) (ho.below hb1) hok hlen (fun pa => sayAll_next rej B C _ _ _ _ 10 h.ss (by decide)) okr); unfold pkV at HC ⊢; clear h ho hok hb1; obtain ⟨pc, pi, pl, pd⟩ := p; simp only at hcode
 subst hcode; go_enter Tryz.func69, Tryz.ntmps69
 go_wp2_with (first
  | (go_at_call 79; refine (nnone_at HX.out.1).mono ?_; rintro e w1 ⟨rfl, rfl⟩)
  | (go_at_call 109; refine HC.out.mono ?_; rintro e w5 ⟨v5, rfl, h5⟩))
 go_ret; exact EvPost.of_box ⟨_, rfl, h5⟩ HX.out.2
set_option maxRecDepth 100000 in
theorem take6 (p : Pk) (po : Value) (hcode : p.code = 6) (h : NegAt w S B C st X) (ho : Opts w ok po p.o) (hok : ∀ b, ok b -> ¬ B.t b) (hlen : p.o.length <= 1000000) (okr : Nat -> Prop := ok) :
 Calls Tryz.prog 69 #[.pointer (some ⟨B.nb, 0, none⟩), pkV p po] w fun e w' => EvPost w w' S okr B C (evS rej C st 11 ⟨true, p, 0, []⟩) e := by
 obtain ⟨a1, k1, rfl, hc1, hc2⟩ := ho.form; have hb1 : Below w.heap.size w (w.alloc (.cells #[.int .i64 p.code, .int .i64 p.id, (.slice a1 p.o.length k1), .string p.d] 59 (0, 0))) := (Below.refl _ _).alloc (Nat.le_refl _) _; have HX := H_ (A_ (h.below hb1) hb1); have HC := H_ (Event_at rej p _ 11 (by decide) (h.below hb1) (ho.below hb1) hok hlen (fun pa => sayAll_next rej B C _ _ _ _ 11 h.ss (by decide)) okr); unfold pkV at HC ⊢; clear h ho hok hb1; obtain ⟨pc, pi, pl, pd⟩ := p; simp only at hcode
 subst hcode; go_enter Tryz.func69, Tryz.ntmps69
 go_wp2_with (first
  | (go_at_call 79; refine (nnone_at HX.out.1).mono ?_; rintro e w1 ⟨rfl, rfl⟩)
  | (go_at_call 109; refine HC.out.mono ?_; rintro e w5 ⟨v5, rfl, h5⟩))
 go_ret; exact EvPost.of_box ⟨_, rfl, h5⟩ HX.out.2
set_option maxRecDepth 100000 in
theorem takeU (p : Pk) (po : Value) (hcode : p.code < 1 \/ 7 < p.code) (h : NegAt w S B C st X) (ho : Opts w ok po p.o) (hok : ∀ b, ok b -> ¬ B.t b) (hlen : p.o.length <= 1000000) (hs : ∀ pa, SayAll rej B C ⟨true, p, 0, []⟩ po pa (nextL st.s 12)) (okr : Nat -> Prop := ok) :
 Calls Tryz.prog 69 #[.pointer (some ⟨B.nb, 0, none⟩), pkV p po] w fun e w' => EvPost w w' S okr B C (evS rej C st 12 ⟨true, p, 0, []⟩) e := by
 obtain ⟨a1, k1, rfl, hc1, hc2⟩ := ho.form; have hb1 : Below w.heap.size w (w.alloc (.cells #[.int .i64 p.code, .int .i64 p.id, (.slice a1 p.o.length k1), .string p.d] 59 (0, 0))) := (Below.refl _ _).alloc (Nat.le_refl _) _; have HX := H_ (A_ (h.below hb1) hb1); have HC := H_ (Event_at rej p _ 12 (by decide) (h.below hb1) (ho.below hb1) hok hlen hs okr); unfold pkV at HC ⊢; clear h ho hok hb1; have d1 : ¬ (p.code = 1) := by omega
 have d2 : ¬ (p.code = 2) := by omega
 have d3 : ¬ (p.code = 3) := by omega
 have d4 : ¬ (p.code = 4) := by omega
 have d5 : ¬ (p.code = 5) := by omega
 have d6 : ¬ (p.code = 6) := by omega
 have d7 : ¬ (p.code = 7) := by omega
 clear hcode; go_enter Tryz.func69, Tryz.ntmps69
 go_wp2_with (first
  | (go_at_call 79; refine (nnone_at HX.out.1).mono ?_; rintro e w1 ⟨rfl, rfl⟩)
  | (go_at_call 109; refine HC.out.mono ?_; rintro e w5 ⟨v5, rfl, h5⟩))
 go_ret; exact EvPost.of_box ⟨_, rfl, h5⟩ HX.out.2
end
def NegP (w : World) (S : Nat -> Prop) (B : NegB) (C : NegC) (st : NSt) (jb : Nat) : Prop := NegV w S B C st /\ JAt w jb B.nb /\ ¬ B.t jb /\ S jb /\ C.judge = ownJ jb
def EvP (w w' : World) (S ok : Nat -> Prop) (B : NegB) (C : NegC) (jb : Nat) (r : NSt × List Pk) (e : Ending) : Prop :=
 ∃ v, e = .returned v /\ PksAt w' (Grow ok w) w.heap.size v r.2 /\ NegP w' (Grow S w) B C r.1 jb /\ Keep B.t w w'
section
variable (rej : Pk -> ByteArray) {w w' : World} {S ok : Nat -> Prop} {B : NegB} {C : NegC} {st : NSt} {jb : Nat}
end
def rule1 : Rl := ⟨1, 2, 64, 1492, ⟨#[5, 212]⟩⟩
theorem ORow.one {w : World} {g base : Nat} (o : Opt) (h : w.heap[g]? = some (.cells #[.int .i64 o.t, .string o.v] 132 (0, 0))) (hb : base <= g) : ORow w base (.slice (some ⟨g, 0, none⟩) 1 1) [o] :=
 ⟨rfl, Or.inr ⟨g, 1, _, rfl, hb, h, Nat.le_refl _, by unfold maxLen; omega, rfl, rfl⟩⟩
theorem RRow.one {w : World} {g base : Nat} (r : Rl) (h : w.heap[g]? = some (.cells #[.int .i64 r.t, .int .i64 r.len, .int .i64 r.min, .int .i64 r.max, .string r.s] 136 (0, 0))) (hb : base <= g) : RRow w base (.slice (some ⟨g, 0, none⟩) 1 1) [r] :=
 ⟨rfl, Or.inr ⟨g, 1, _, rfl, hb, h, Nat.le_refl _, by unfold maxLen; omega, rfl, rfl⟩⟩
def JudgeQ (g : Nat) (pf : Value) (w : World) (ok T : Nat -> Prop) (Q : World -> Prop) (l : List Opt) (lv : Value) (J : Int × List Opt) : Prop :=
 (∀ args w, (callFunc g args).run Tryz.prog w = .ok (.enter g args) w) /\
 ∀ W, Below w.heap.size w W -> Opts W ok lv l -> Calls Tryz.prog g #[pf, lv] W fun e w' => ∃ v, e = .returned (.tuple #[.int .i64 J.1, v]) /\ ORow w' W.heap.size v J.2 /\ Q w' /\ Keep T W w'
def EvQ (w w' : World) (S ok : Nat -> Prop) (B : NegB) (C : NegC) (T : Nat -> Prop) (Q : World -> Prop) (r : NSt × List Pk) (e : Ending) : Prop :=
 ∃ v, e = .returned v /\ PksAt w' (Grow ok w) w.heap.size v r.2 /\ NegV w' (Grow S w) B C r.1 /\ Q w' /\ Keep (fun b => B.t b \/ T b) w w'
theorem EvQ.of_box {w w1 w' : World} {S ok T : Nat -> Prop} {Q : World -> Prop} {B : NegB} {C : NegC} {r : NSt × List Pk} {e : Ending} (h : EvQ w1 w' S ok B C T Q r e) (hb : Below w.heap.size w w1) : EvQ w w' S ok B C T Q r e := by
 obtain ⟨v, he, ⟨L, h2, h3, h4⟩, ⟨X', h5⟩, hq, h6⟩ := h; have hsz := hb.size; exact ⟨v, he, ⟨L, h2, h3.base hsz, h4.mono (fun b hb => hb.imp id (fun h => Nat.le_trans hsz h))⟩, ⟨X', h5.mono (fun b hb => hb.imp id (fun h => Nat.le_trans hsz h))⟩, hq, (Keep.of_below _ hb).trans h6⟩
section
variable (rej : Pk -> ByteArray) {w : World} {S ok T : Nat -> Prop} {Q : World -> Prop} {B : NegB} {C : NegC} {st : NSt} {X : NegX}
set_option maxRecDepth 100000 in
theorem requested_q (p : Pk) (po : Value) (J : Int × List Opt) (g : Nat) (pf : Value) (hj : C.judge = .func (.func g) #[pf] #[]) (hJ : JudgeQ g pf w ok T Q p.o po J) (hT : ∀ b, T b -> b < w.heap.size /\ ¬ S b /\ ¬ ok b) (hQ : ∀ W W', Q W -> Keep B.t W W' -> Q W') (hJl : J.2.length <= 1000000) (h : NegAt w S B C st X) (ho : Opts w ok po p.o)
 (hok : ∀ b, ok b -> ¬ B.t b) (hlen : p.o.length <= 1000000) (hs : J.1 ≠ 2 -> ∀ pa, SayAll rej B C ⟨true, p, J.1, J.2⟩ po pa (nextL st.s 7)) :
 Calls Tryz.prog 115 #[.pointer (some ⟨B.nb, 0, none⟩), pkV p po] w fun e w' => EvQ w w' S ok B C T Q (reqS rej C st p J) e := by
 obtain ⟨j1, j2⟩ := J; simp only at hJl hs
 obtain ⟨a1, k1, rfl, hc1, hc2⟩ := ho.form; have hb1 : Below w.heap.size w (w.alloc (.cells #[.int .i64 p.code, .int .i64 p.id, (.slice a1 p.o.length k1), .string p.d] 59 (0, 0))) := (Below.refl _ _).alloc (Nat.le_refl _) _; have hz := at1 w (.cells #[.int .i64 p.code, .int .i64 p.id, (.slice a1 p.o.length k1), .string p.d] 59 (0, 0)); have hlt : w.heap.size < (w.alloc (.cells #[.int .i64 p.code, .int .i64 p.id, (.slice a1 p.o.length k1), .string p.d] 59 (0, 0))).heap.size := by rw [alloc1]; omega
 have h1 := h.below hb1; have j0 : (w.alloc (.cells #[.int .i64 p.code, .int .i64 p.id, (.slice a1 p.o.length k1), .string p.d] 59 (0, 0))).cell? ⟨B.nb, 9, none⟩ = some (.func (.func g) #[pf] #[]) := by rw [<- hj]; exact h1.cell 9
 have eg := hJ.1; have HTN := H_ hT; have hTn : ¬ T w.heap.size := fun h => Nat.lt_irrefl _ (hT _ h).1; have hTb : ¬ T B.nb := fun ht => (hT _ ht).2.1 h.s1
 have HS : Hid (∀ W, Keep T (w.alloc (.cells #[.int .i64 p.code, .int .i64 p.id, (.slice a1 p.o.length k1), .string p.d] 59 (0, 0))) W -> W.cell? ⟨B.nb, 9, none⟩ = some (.func (.func g) #[pf] #[]) /\ W.cell? ⟨w.heap.size, 0, none⟩ = some (.int .i64 p.code) /\ W.cell? ⟨w.heap.size, 1, none⟩ = some (.int .i64 p.id) /\ W.cell? ⟨w.heap.size, 2, none⟩ = some (.slice a1 p.o.length k1) /\ W.cell? ⟨w.heap.size, 3, none⟩ = some (.string p.d)) := H_ fun W hW =>
  ⟨by rw [hW.cell (p := ⟨B.nb, 9, none⟩) h1.nlt hTb]; exact j0, cellOf ((hW.block _ hlt hTn).trans hz) 0 _ rfl, cellOf ((hW.block _ hlt hTn).trans hz) 1 _ rfl, cellOf ((hW.block _ hlt hTn).trans hz) 2 _ rfl, cellOf ((hW.block _ hlt hTn).trans hz) 3 _ rfl⟩
 have H := H_ (A_ h (A_ h1 (A_ ho (A_ hb1 (A_ hok (A_ hs hQ)))))); have HJ := H_ (hJ.2 (w.alloc (.cells #[.int .i64 p.code, .int .i64 p.id, (.slice a1 p.o.length k1), .string p.d] 59 (0, 0))).drew hb1.drew (ho.below hb1.drew)); obtain ⟨g0, g1, g2, g3, g4⟩ := HS.out _ (Keep.refl _ _); unfold pkV; clear hj hJ h ho hok hs hb1 hz h1 j0 hT hQ hTn hTb; go_enter Tryz.func115, Tryz.ntmps115; go_wp2_with fail
 go_region_held3 (fun W => W.cell? ⟨B.nb, 9, none⟩ = some (.func (.func g) #[pf] #[]) /\ W.cell? ⟨w.heap.size, 0, none⟩ = some (.int .i64 p.code) /\ W.cell? ⟨w.heap.size, 1, none⟩ = some (.int .i64 p.id) /\ W.cell? ⟨w.heap.size, 2, none⟩ = some (.slice a1 p.o.length k1) /\ W.cell? ⟨w.heap.size, 3, none⟩ = some (.string p.d))
  (first
   | exact HS.out _ H2.out.2
   | go_keep)
  (first
   | (go_simp; go_at_fn g; refine HJ.out.mono ?_; rintro e w2 ⟨v2, rfl, hr2, hq2, hb2⟩; obtain ⟨a2, k2, rfl⟩ := hr2.form; have H2 := H_ (A_ (A_ hr2 hq2) (show Keep T (w.alloc (.cells #[.int .i64 p.code, .int .i64 p.id, (.slice a1 p.o.length k1), .string p.d] 59 (0, 0))) w2 from Keep.trans (Keep.of_below T (Below.refl _ _).drew) hb2)); clear hr2 hb2 hq2)
   | (go_at_fn g; refine HJ.out.mono ?_; rintro e w2 ⟨v2, rfl, hr2, hq2, hb2⟩; obtain ⟨a2, k2, rfl⟩ := hr2.form; have H2 := H_ (A_ (A_ hr2 hq2) (show Keep T (w.alloc (.cells #[.int .i64 p.code, .int .i64 p.id, (.slice a1 p.o.length k1), .string p.d] 59 (0, 0))) w2 from Keep.trans (Keep.of_below T (Below.refl _ _).drew) hb2)); clear hr2 hb2 hq2))
 obtain ⟨y0, y1, y2, y3, y4⟩ := HS.out _ H2.out.2; have hs1 : (w.alloc (.cells #[.int .i64 p.code, .int .i64 p.id, (.slice a1 p.o.length k1), .string p.d] 59 (0, 0))).heap.size = w.heap.size + 1 := alloc1 _ _; have hs2 := H2.out.2.size; have hb3 : Below w2.heap.size w2 (w2.alloc (.cells #[.bool true, .int .i64 p.code, .int .i64 p.id, (.slice a1 p.o.length k1), .string p.d, .int .i64 j1, (.slice a2 j2.length k2)] 126 (0, 0))) := (Below.refl _ _).alloc (Nat.le_refl _) _; have hTS : ∀ b, b < (w.alloc (.cells #[.int .i64 p.code, .int .i64 p.id, (.slice a1 p.o.length k1), .string p.d] 59 (0, 0))).heap.size -> S b -> ¬ T b := fun b _ hb ht => (HTN.out b ht).2.1 hb; have hn3 := (H.out.2.1.keep H2.out.2 hTS).below hb3; have hz3 := at1 w2 (.cells #[.bool true, .int .i64 p.code, .int .i64 p.id, (.slice a1 p.o.length k1), .string p.d, .int .i64 j1, (.slice a2 j2.length k2)] 126 (0, 0)); have hs3 : (w2.alloc (.cells #[.bool true, .int .i64 p.code, .int .i64 p.id, (.slice a1 p.o.length k1), .string p.d, .int .i64 j1, (.slice a2 j2.length k2)] 126 (0, 0))).heap.size = w2.heap.size + 1 := alloc1 _ _; have hnl := H.out.1.nlt; have hw3 : Keep T w (w2.alloc (.cells #[.bool true, .int .i64 p.code, .int .i64 p.id, (.slice a1 p.o.length k1), .string p.d, .int .i64 j1, (.slice a2 j2.length k2)] 126 (0, 0))) := (Keep.of_below T H.out.2.2.2.1).trans (H2.out.2.trans (Keep.of_below T hb3))
 have hc3 : CameAt (w2.alloc (.cells #[.bool true, .int .i64 p.code, .int .i64 p.id, (.slice a1 p.o.length k1), .string p.d, .int .i64 j1, (.slice a2 j2.length k2)] 126 (0, 0))) B (Grow ok w) ⟨true, p, j1, j2⟩ (.slice a1 p.o.length k1) (.slice a2 j2.length k2) :=
  ⟨⟨ok, Rec.keep H.out.2.2.1 hw3 (fun b _ hb ht => (HTN.out b ht).2.2 hb), H.out.2.2.2.2.1⟩, ⟨Rec.mono (Opts.below (H2.out.1.1.opts (by unfold maxLen; omega)) hb3) (fun b hb => .inr (by have h1 : (w.alloc (.cells #[.int .i64 p.code, .int .i64 p.id, (.slice a1 p.o.length k1), .string p.d] 59 (0, 0))).drew.heap.size <= b := hb; have h2 : (w.alloc (.cells #[.int .i64 p.code, .int .i64 p.id, (.slice a1 p.o.length k1), .string p.d] 59 (0, 0))).drew.heap.size = w.heap.size + 1 := hs1; omega)),
   (H2.out.1.1.below hb3).base (Nat.zero_le _), fun k hk => .inr (by have h1 := (H2.out.1.1.lt k hk).2; have h2 : (w.alloc (.cells #[.int .i64 p.code, .int .i64 p.id, (.slice a1 p.o.length k1), .string p.d] 59 (0, 0))).drew.heap.size = w.heap.size + 1 := hs1; omega)⟩,
   fun b hb ht => hb.elim (fun h => H.out.2.2.2.2.1 b h ht) (fun h => by have := H.out.1.tlt ht; omega), hlen, hJl⟩
 have H3 := H_ (A_ hn3 (A_ hw3 (A_ hc3 hz3))); clear hb3 hn3 hz3 hw3 hc3
 by_cases hq : j1 = 2
 . have HQ := H_ (show reqS rej C st p (j1, j2) = evS rej C { st with naks := 0 } 6 ⟨true, p, j1, j2⟩ from by unfold reqS; exact if_pos hq); have f13 := H3.out.1.fz 13; have g13 : (w2.alloc (.cells #[.bool true, .int .i64 p.code, .int .i64 p.id, (.slice a1 p.o.length k1), .string p.d, .int .i64 j1, (.slice a2 j2.length k2)] 126 (0, 0))).cell? ⟨B.nb, 13, none⟩ = some (.int .i64 st.naks) := H3.out.1.cell 13; have hn4 := NegAt.setC (st' := { st with naks := 0 }) H3.out.1 13 (.int .i64 0) rfl ⟨rfl, rfl, rfl, rfl, rfl⟩ H3.out.1.id; have hk4 := keepC B (w2.alloc (.cells #[.bool true, .int .i64 p.code, .int .i64 p.id, (.slice a1 p.o.length k1), .string p.d, .int .i64 j1, (.slice a2 j2.length k2)] 126 (0, 0))) 13 (.int .i64 0); have hz4 := (hk4.block w2.heap.size (by omega) (by omega)).trans H3.out.2.2.2; have z0 : ((w2.alloc (.cells #[.bool true, .int .i64 p.code, .int .i64 p.id, (.slice a1 p.o.length k1), .string p.d, .int .i64 j1, (.slice a2 j2.length k2)] 126 (0, 0))).setCell ⟨B.nb, 13, none⟩ (.int .i64 0)).cell? ⟨w2.heap.size, 0, none⟩ = some _ := cellOf hz4 0 _ rfl; have z1 : ((w2.alloc (.cells #[.bool true, .int .i64 p.code, .int .i64 p.id, (.slice a1 p.o.length k1), .string p.d, .int .i64 j1, (.slice a2 j2.length k2)] 126 (0, 0))).setCell ⟨B.nb, 13, none⟩ (.int .i64 0)).cell? ⟨w2.heap.size, 1, none⟩ = some _ := cellOf hz4 1 _ rfl; have z2 : ((w2.alloc (.cells #[.bool true, .int .i64 p.code, .int .i64 p.id, (.slice a1 p.o.length k1), .string p.d, .int .i64 j1, (.slice a2 j2.length k2)] 126 (0, 0))).setCell ⟨B.nb, 13, none⟩ (.int .i64 0)).cell? ⟨w2.heap.size, 2, none⟩ = some _ := cellOf hz4 2 _ rfl; have z3 : ((w2.alloc (.cells #[.bool true, .int .i64 p.code, .int .i64 p.id, (.slice a1 p.o.length k1), .string p.d, .int .i64 j1, (.slice a2 j2.length k2)] 126 (0, 0))).setCell ⟨B.nb, 13, none⟩ (.int .i64 0)).cell? ⟨w2.heap.size, 3, none⟩ = some _ := cellOf hz4 3 _ rfl; have z4 : ((w2.alloc (.cells #[.bool true, .int .i64 p.code, .int .i64 p.id, (.slice a1 p.o.length k1), .string p.d, .int .i64 j1, (.slice a2 j2.length k2)] 126 (0, 0))).setCell ⟨B.nb, 13, none⟩ (.int .i64 0)).cell? ⟨w2.heap.size, 4, none⟩ = some _ := cellOf hz4 4 _ rfl; have z5 : ((w2.alloc (.cells #[.bool true, .int .i64 p.code, .int .i64 p.id, (.slice a1 p.o.length k1), .string p.d, .int .i64 j1, (.slice a2 j2.length k2)] 126 (0, 0))).setCell ⟨B.nb, 13, none⟩ (.int .i64 0)).cell? ⟨w2.heap.size, 5, none⟩ = some _ := cellOf hz4 5 _ rfl; have z6 : ((w2.alloc (.cells #[.bool true, .int .i64 p.code, .int .i64 p.id, (.slice a1 p.o.length k1), .string p.d, .int .i64 j1, (.slice a2 j2.length k2)] 126 (0, 0))).setCell ⟨B.nb, 13, none⟩ (.int .i64 0)).cell? ⟨w2.heap.size, 6, none⟩ = some _ := cellOf hz4 6 _ rfl; have HE := H_ (A_ (ndo_at rej ⟨true, p, j1, j2⟩ _ _ 6 (by decide) hn4 (H3.out.2.2.1.keep hk4 (fun b hb => .inl hb)) (sayAll_next rej B C _ _ _ _ 6 hn4.ss (by decide))) hk4); unfold cameV at HE; clear hn4 hk4 hz4; subst hq; go_wp2_with fail; refine HE.out.1.mono ?_; rintro e w5 ⟨v5, rfl, ⟨L, l1, l2, l3⟩, ⟨X5, n5⟩, k5⟩; have H5 := H_ (A_ l1 (A_ l2 (A_ l3 (A_ n5 k5)))); clear l1 l2 l3 n5 k5; go_wp2_with fail; go_ret; have hs4 := HE.out.2.size; rw [HQ.out]; refine ⟨_, rfl, ⟨L, H5.out.1, H5.out.2.1.base (by omega), H5.out.2.2.1.mono (fun b hb => hb.elim id (fun h => .inr (by omega)))⟩, ⟨X5, H5.out.2.2.2.1.mono (fun b hb => hb.imp id (fun h => by omega))⟩, ?_⟩; exact ⟨H.out.2.2.2.2.2.2 _ _ (H.out.2.2.2.2.2.2 _ _ (H.out.2.2.2.2.2.2 _ _ H2.out.1.2 (Keep.of_below B.t ((Below.refl _ _).alloc (Nat.le_refl _) _))) (HE.out.2.mono (fun b _ hb => Or.inl hb))) H5.out.2.2.2.2, ((H3.out.2.1.mono (fun b _ hb => Or.inr hb)).trans (HE.out.2.mono (fun b _ hb => Or.inl (Or.inl hb)))).trans (H5.out.2.2.2.2.mono (fun b _ hb => Or.inl hb))⟩
 . have HQ := H_ (show reqS rej C st p (j1, j2) = evS rej C st 7 ⟨true, p, j1, j2⟩ from by unfold reqS; exact if_neg hq); have z0 : (w2.alloc (.cells #[.bool true, .int .i64 p.code, .int .i64 p.id, (.slice a1 p.o.length k1), .string p.d, .int .i64 j1, (.slice a2 j2.length k2)] 126 (0, 0))).cell? ⟨w2.heap.size, 0, none⟩ = some _ := cellOf H3.out.2.2.2 0 _ rfl; have z1 : (w2.alloc (.cells #[.bool true, .int .i64 p.code, .int .i64 p.id, (.slice a1 p.o.length k1), .string p.d, .int .i64 j1, (.slice a2 j2.length k2)] 126 (0, 0))).cell? ⟨w2.heap.size, 1, none⟩ = some _ := cellOf H3.out.2.2.2 1 _ rfl; have z2 : (w2.alloc (.cells #[.bool true, .int .i64 p.code, .int .i64 p.id, (.slice a1 p.o.length k1), .string p.d, .int .i64 j1, (.slice a2 j2.length k2)] 126 (0, 0))).cell? ⟨w2.heap.size, 2, none⟩ = some _ := cellOf H3.out.2.2.2 2 _ rfl; have z3 : (w2.alloc (.cells #[.bool true, .int .i64 p.code, .int .i64 p.id, (.slice a1 p.o.length k1), .string p.d, .int .i64 j1, (.slice a2 j2.length k2)] 126 (0, 0))).cell? ⟨w2.heap.size, 3, none⟩ = some _ := cellOf H3.out.2.2.2 3 _ rfl; have z4 : (w2.alloc (.cells #[.bool true, .int .i64 p.code, .int .i64 p.id, (.slice a1 p.o.length k1), .string p.d, .int .i64 j1, (.slice a2 j2.length k2)] 126 (0, 0))).cell? ⟨w2.heap.size, 4, none⟩ = some _ := cellOf H3.out.2.2.2 4 _ rfl; have z5 : (w2.alloc (.cells #[.bool true, .int .i64 p.code, .int .i64 p.id, (.slice a1 p.o.length k1), .string p.d, .int .i64 j1, (.slice a2 j2.length k2)] 126 (0, 0))).cell? ⟨w2.heap.size, 5, none⟩ = some _ := cellOf H3.out.2.2.2 5 _ rfl; have z6 : (w2.alloc (.cells #[.bool true, .int .i64 p.code, .int .i64 p.id, (.slice a1 p.o.length k1), .string p.d, .int .i64 j1, (.slice a2 j2.length k2)] 126 (0, 0))).cell? ⟨w2.heap.size, 6, none⟩ = some _ := cellOf H3.out.2.2.2 6 _ rfl; have HE := H_ (ndo_at rej ⟨true, p, j1, j2⟩ _ _ 7 (by decide) H3.out.1 H3.out.2.2.1 (H.out.2.2.2.2.2.1 hq _)); unfold cameV at HE; go_wp2_with fail; refine HE.out.mono ?_; rintro e w5 ⟨v5, rfl, ⟨L, l1, l2, l3⟩, ⟨X5, n5⟩, k5⟩; have H5 := H_ (A_ l1 (A_ l2 (A_ l3 (A_ n5 k5)))); clear l1 l2 l3 n5 k5; go_wp2_with fail; go_ret; rw [HQ.out]; refine ⟨_, rfl, ⟨L, H5.out.1, H5.out.2.1.base (by omega), H5.out.2.2.1.mono (fun b hb => hb.elim id (fun h => .inr (by omega)))⟩, ⟨X5, H5.out.2.2.2.1.mono (fun b hb => hb.imp id (fun h => by omega))⟩, ?_⟩; exact ⟨H.out.2.2.2.2.2.2 _ _ (H.out.2.2.2.2.2.2 _ _ H2.out.1.2 (Keep.of_below B.t ((Below.refl _ _).alloc (Nat.le_refl _) _))) H5.out.2.2.2.2, (H3.out.2.1.mono (fun b _ hb => Or.inr hb)).trans (H5.out.2.2.2.2.mono (fun b _ hb => Or.inl hb))⟩
set_option maxRecDepth 100000 in
theorem take1_q (p : Pk) (po : Value) (hcode : p.code = 1) (J : Int × List Opt) (g : Nat) (pf : Value) (hj : C.judge = .func (.func g) #[pf] #[]) (hJ : ∀ W, Below w.heap.size w W -> JudgeQ g pf W ok T Q p.o po J) (hT : ∀ b, T b -> b < w.heap.size /\ ¬ S b /\ ¬ ok b) (hQ : ∀ W W', Q W -> Keep B.t W W' -> Q W') (hJl : J.2.length <= 1000000) (h : NegAt w S B C st X) (ho : Opts w ok po p.o) (hok : ∀ b, ok b -> ¬ B.t b) (hlen : p.o.length <= 1000000) (hs : J.1 ≠ 2 -> ∀ pa, SayAll rej B C ⟨true, p, J.1, J.2⟩ po pa (nextL st.s 7)) :
 Calls Tryz.prog 69 #[.pointer (some ⟨B.nb, 0, none⟩), pkV p po] w fun e w' => EvQ w w' S ok B C T Q (reqS rej C st p J) e := by
 obtain ⟨a1, k1, rfl, hc1, hc2⟩ := ho.form; have hb1 : Below w.heap.size w (w.alloc (.cells #[.int .i64 p.code, .int .i64 p.id, (.slice a1 p.o.length k1), .string p.d] 59 (0, 0))) := (Below.refl _ _).alloc (Nat.le_refl _) _; have HX := H_ (A_ (h.below hb1) hb1); have HC := H_ (requested_q rej p _ J g pf hj (hJ _ hb1) (fun b hb => ⟨Nat.lt_of_lt_of_le (hT b hb).1 hb1.size, (hT b hb).2⟩) hQ hJl (h.below hb1) (ho.below hb1) hok hlen hs); unfold pkV at HC ⊢; clear h ho hok hb1; obtain ⟨pc, pi, pl, pd⟩ := p; simp only at hcode
 subst hcode; go_enter Tryz.func69, Tryz.ntmps69
 go_wp2_with (first
  | (go_at_call 79; refine (nnone_at HX.out.1).mono ?_; rintro e w1 ⟨rfl, rfl⟩)
  | (go_at_call 115; refine HC.out.mono ?_; rintro e w5 ⟨v5, rfl, h5⟩))
 go_ret; exact EvQ.of_box ⟨_, rfl, h5⟩ HX.out.2
end
def asks : List Opt := [⟨1, ⟨#[5, 0]⟩⟩]
def noR : Pk -> ByteArray := fun _ => noB
def CA (jb : Nat) : NegC := ⟨[], [rule1], [], 3, 2, 0, 3, ownJ jb⟩
def sA (s c id asked : Int) (mine : List Opt) (ups : Int) : NSt := ⟨s, c, id, asked, 0, 0, asks, mine, [], ups, 0⟩
def tickS (rej : Pk -> ByteArray) (C : NegC) (st : NSt) : NSt × List Pk :=
 if waitsB st.s then
  if wrap64 (st.ticks + 1) < C.wt then ({ st with ticks := wrap64 (st.ticks + 1) }, [])
  else toldS rej C { st with ticks := 0, s := tmoS st.s st.c, c := doC C.cf C.tm (tmoL st.s st.c) (tmoL st.s st.c) st.c } (tmoL st.s st.c) noCame
 else (st, [])
section
variable (rej : Pk -> ByteArray) {w : World} {S ok : Nat -> Prop} {B : NegB} {C : NegC} {st : NSt} {X : NegX}
end
def setV (b0 b1 b2 : Nat) (cf tm f wt : Int) : Array Value := #[.slice (some ⟨b0, 0, none⟩) 1 1, .slice (some ⟨b1, 0, none⟩) 1 1, .slice (some ⟨b2, 0, none⟩) 1 1, .slice none 0 0, .int .i64 cf, .int .i64 tm, .int .i64 f, .int .i64 wt]
def SetAt (w : World) (base b0 b1 b2 : Nat) (ask : ByteArray) : Prop :=
 ORow w base (.slice (some ⟨b0, 0, none⟩) 1 1) [⟨1, ask⟩] /\ RRow w base (.slice (some ⟨b1, 0, none⟩) 1 1) [rule1] /\ RRow w base (.slice (some ⟨b2, 0, none⟩) 1 1) [rule1]
def CS (jb : Nat) (cf f wt : Int) : NegC := ⟨[rule1], [rule1], [], cf, 2, f, wt, ownJ jb⟩
def sQ (c ticks id asked : Int) (ask : List Opt) : NSt := ⟨6, c, id, asked, 0, ticks, ask, [], [], 0, 0⟩
def QS (c d : Nat) (st : NSt) (k asked : Nat) : Prop :=
 (∃ q r : Nat, ∃ id ak : Int, k = q * d + r /\ r < d /\ q < c /\ asked = q + 1 /\ st = sQ (c - 1 - q) r id ak asks) \/ (k = c * d /\ asked = c /\ st.s = 3)
def NegQ (w w' : World) (B : NegB) (C : NegC) (st : NSt) (jb : Nat) : Prop := (∃ S, NegP w' S B C st jb /\ ∀ b, S b -> w.heap.size <= b) /\ Below w.heap.size w w'
set_option maxRecDepth 100000 in
theorem wput_any (v : Nat) (w : World) (hv : v < 65536) :
 Calls Tryz.prog 98 #[.int .i64 (v : Int), .int .i64 2] w fun e w' => e = .returned (.tuple #[.string ⟨#[UInt8.ofNat (v / 256), UInt8.ofNat v]⟩, .int .i64 0]) /\ Below w.heap.size w w' := by
 have d1 : decide ((v : Int) < 0) = false := by simp
 have hin : ∀ w, Calls Tryz.prog 84 #[.int .i64 2, .int .i64 1, .int .i64 4] w fun e w' => e = .returned (.bool true) /\ w = w' := by
  intro w; go_enter Tryz.func84, Tryz.ntmps84
  go_wp2
  go_ret; exact ⟨rfl, rfl⟩
 have HIN := H_ hin; clear hin; have d2 : (((v : Int) / 65536) != 0) = false := by simp; omega
 have hmk : ∀ w, (Instr.makeSlice 66 (.int .i64 2) (.int .i64 2)).run Tryz.prog w = .ok (.slice (some ⟨w.heap.size, 0, none⟩) 2 2) (w.alloc (.cells #[.int .u8 0, .int .u8 0] 5 (0, 0))) := fun w => by kernel_rfl
 have hcv : (convert 66 9 (.slice (some ⟨w.heap.size, 0, none⟩) 2 2)).run Tryz.prog (w.alloc (.cells #[.int .u8 ((v : Int) / 256), .int .u8 ((v : Int) % 256)] 5 (0, 0))) = .ok (.string ⟨#[UInt8.ofNat (v / 256), UInt8.ofNat v]⟩) (w.alloc (.cells #[.int .u8 ((v : Int) / 256), .int .u8 ((v : Int) % 256)] 5 (0, 0))) := by
  have hx := at1 w (.cells #[.int .u8 ((v : Int) / 256), .int .u8 ((v : Int) % 256)] 5 (0, 0)); refine run_convert_bytes_back (P := Tryz.prog) _ 66 9 5 ⟨w.heap.size, 0, none⟩ 2 [UInt8.ofNat (v / 256), UInt8.ofNat v] Tryz.underlying66 Tryz.underlying5 Tryz.underlying9 (fun j hj => ?_); rw [Addr.add_lit, Nat.zero_add]; have e1 : (UInt8.ofNat (v / 256)).toNat = v / 256 := by rw [UInt8.toNat_ofNat']; omega
  have e2 : (UInt8.ofNat v).toNat = v % 256 := by rw [UInt8.toNat_ofNat']
  match j, hj with
  | 0, _ => simp only [List.getElem_cons_zero]; rw [e1]; exact cellOf hx 0 _ (by simp)
  | 1, _ => simp only [List.getElem_cons_zero, List.getElem_cons_succ]; rw [e2]; exact cellOf hx 1 _ (by simp)
 go_enter Tryz.func98, Tryz.ntmps98
 go_wp2_with (go_at_call 84; refine (HIN.out _).mono ?_; rintro e w1 ⟨rfl, rfl⟩)
 refine wp_loop_rounds 3 ?_; rw [rounds_succ]; go_wp2_with fail; rw [rounds_succ]; go_wp2_with fail; rw [rounds_succ]; go_wp2_with fail; go_ret2; exact ⟨rfl, (Below.refl _ _).alloc (Nat.le_refl _) _⟩
def numB (p : Pk) : Bool := (decide (0 <= p.code) && decide (p.code <= 255)) && (decide (0 <= p.id) && decide (p.id <= 255))
def hasO (c : Int) : Bool := decide (1 <= c) && decide (c <= 4)
set_option maxRecDepth 100000 in
theorem numbered_any (p : Pk) (po : Value) (ok : Nat -> Prop) (w : World) (ho : Opts w ok po p.o) : Calls Tryz.prog 136 #[pkV p po] w fun e w' => e = .returned (.bool (numB p)) /\ Below w.heap.size w w' := by
 obtain ⟨a1, k1, rfl, -, -⟩ := ho.form; have hi := fun w => in_any p.code 0 255 w; have hj := fun w => in_any p.id 0 255 w; have hz := at1 w (.cells #[.int .i64 p.code, .int .i64 p.id, (.slice a1 p.o.length k1), .string p.d] 59 (0, 0)); unfold numB pkV; have HI := H_ hi; have HJ := H_ hj; clear ho hi hj; generalize (decide (0 <= p.code) && decide (p.code <= 255)) = x at *; generalize (decide (0 <= p.id) && decide (p.id <= 255)) = y at *; cases x
 . go_enter Tryz.func136, Tryz.ntmps136
   go_wp2_with (first | (go_at_call 86; refine (HI.out _).mono ?_; rintro e w1 ⟨rfl, rfl⟩))
   go_ret; exact ⟨rfl, (Below.refl _ _).alloc (Nat.le_refl _) _⟩
 . go_enter Tryz.func136, Tryz.ntmps136; go_wp2_with fail; refine (HI.out _).mono ?_; rintro e w1 ⟨rfl, rfl⟩; go_wp2_with fail; refine (HJ.out _).mono ?_; rintro e w1 ⟨rfl, rfl⟩; go_wp2_with fail; go_ret; exact ⟨by simp, (Below.refl _ _).alloc (Nat.le_refl _) _⟩
theorem hasO_any (c : Int) (w : World) : Calls Tryz.prog 46 #[.int .i64 c] w fun e w' => e = .returned (.bool (hasO c)) /\ w = w' := by
 have hi := H_ (fun w => in_any c 1 4 w); unfold hasO; generalize (decide (1 <= c) && decide (c <= 4)) = x at *; go_enter Tryz.func46, Tryz.ntmps46; go_wp2_with fail; refine (hi.out _).mono ?_; rintro e w1 ⟨rfl, rfl⟩; go_wp2_with fail; go_ret; exact ⟨rfl, rfl⟩
def layB (c i : Nat) (b : ByteArray) : ByteArray := (ByteArray.mk #[UInt8.ofNat c, UInt8.ofNat i] ++ ByteArray.mk #[UInt8.ofNat ((b.size + 4) / 256), UInt8.ofNat (b.size + 4)]) ++ b
set_option maxRecDepth 100000 in
theorem lay_ok (p : Pk) (po : Value) (ok : Nat -> Prop) (b : ByteArray) (c i : Nat) (w : World) (ho : Opts w ok po p.o) (hc : p.code = c) (hi : p.id = i) (hc1 : c <= 255) (hi1 : i <= 255) (hb : b.size <= 1488) :
 Calls Tryz.prog 137 #[pkV p po, .string b] w fun e w' => e = .returned (.tuple #[.string (layB c i b), .int .i64 0]) /\ Below w.heap.size w w' := by
 obtain ⟨a1, k1, rfl, -, -⟩ := ho.form; obtain ⟨pc, pi, pl, pd⟩ := p; simp only at hc hi
 subst hc hi; unfold pkV; have d1 : decide ((1488 : Int) < (b.size : Int)) = false := by simp; omega
 have ha : wrap64 ((b.size : Int) + 4) = ((b.size + 4 : Nat) : Int) := by unfold wrap64; omega
 have HW := H_ (fun w => wput_any (b.size + 4) w (by omega)); have hb1 : Below w.heap.size w (w.alloc (.cells #[.int .i64 (c : Int), .int .i64 (i : Int), (.slice a1 pl.length k1), .string pd] 59 (0, 0))) := (Below.refl _ _).alloc (Nat.le_refl _) _; have hz := at1 w (.cells #[.int .i64 (c : Int), .int .i64 (i : Int), (.slice a1 pl.length k1), .string pd] 59 (0, 0)); have HB := H_ (A_ hb1 hz); clear ho hb1 hz; go_enter Tryz.func137, Tryz.ntmps137; go_wp2_with fail; refine (HW.out _).mono ?_; rintro e w2 ⟨rfl, b2⟩; have hs2 := b2.size; have hs1 : (w.alloc (.cells #[.int .i64 (c : Int), .int .i64 (i : Int), (.slice a1 pl.length k1), .string pd] 59 (0, 0))).heap.size = w.heap.size + 1 := alloc1 _ _; have hz2 := (b2.block w.heap.size (by omega)).trans HB.out.2; have e0 := cellOf hz2 0 _ rfl; have e1 := cellOf hz2 1 _ rfl; have HB2 := H_ (HB.out.1.trans (b2.mono (by omega)))
 have hcv : (convert 66 9 (.slice (some ⟨w2.heap.size, 0, none⟩) 2 2)).run Tryz.prog (w2.alloc (.cells #[.int .u8 (c : Int), .int .u8 (i : Int)] 5 (0, 0))) = .ok (.string ⟨#[UInt8.ofNat c, UInt8.ofNat i]⟩) (w2.alloc (.cells #[.int .u8 (c : Int), .int .u8 (i : Int)] 5 (0, 0))) := by
  have hx := at1 w2 (.cells #[.int .u8 (c : Int), .int .u8 (i : Int)] 5 (0, 0)); refine run_convert_bytes_back (P := Tryz.prog) _ 66 9 5 ⟨w2.heap.size, 0, none⟩ 2 [UInt8.ofNat c, UInt8.ofNat i] Tryz.underlying66 Tryz.underlying5 Tryz.underlying9 (fun j hj => ?_); rw [Addr.add_lit, Nat.zero_add]; have e1 : (UInt8.ofNat c).toNat = c := by rw [UInt8.toNat_ofNat']; omega
  have e2 : (UInt8.ofNat i).toNat = i := by rw [UInt8.toNat_ofNat']; omega
  match j, hj with
  | 0, _ => simp only [List.getElem_cons_zero]; rw [e1]; exact cellOf hx 0 _ rfl
  | 1, _ => simp only [List.getElem_cons_zero, List.getElem_cons_succ]; rw [e2]; exact cellOf hx 1 _ rfl
 clear b2 hz2; have HL := H_ (show layB c i b = (ByteArray.mk #[UInt8.ofNat c, UInt8.ofNat i] ++ ByteArray.mk #[UInt8.ofNat ((b.size + 4) / 256), UInt8.ofNat (b.size + 4)]) ++ b from rfl); have sz1 : (ByteArray.mk #[UInt8.ofNat ((b.size + 4) / 256), UInt8.ofNat (b.size + 4)]).size = 2 := rfl; have sz2 : (ByteArray.mk #[UInt8.ofNat c, UInt8.ofNat i]).size = 2 := rfl; generalize ByteArray.mk #[UInt8.ofNat ((b.size + 4) / 256), UInt8.ofNat (b.size + 4)] = x1 at *; generalize ByteArray.mk #[UInt8.ofNat c, UInt8.ofNat i] = x2 at *; have sz3 : (x2 ++ x1).size = 4 := by rw [ByteArray.size_append, sz1, sz2]
 go_wp2_with fail; go_ret2; rw [HL.out]; exact ⟨rfl, HB2.out.alloc HB2.out.size _⟩
theorem lay_long (p : Pk) (po : Value) (ok : Nat -> Prop) (b : ByteArray) (w : World) (ho : Opts w ok po p.o) (hb : 1488 < b.size) (hb1 : b.size <= 1000000000) :
 Calls Tryz.prog 137 #[pkV p po, .string b] w fun e w' => e = .returned (.tuple #[.string noB, .int .i64 2]) /\ Below w.heap.size w w' := by
 obtain ⟨a1, k1, rfl, -, -⟩ := ho.form; unfold pkV; have d1 : decide ((1488 : Int) < (b.size : Int)) = true := by simp; omega
 clear ho; go_enter Tryz.func137, Tryz.ntmps137; go_wp2_with fail; go_ret2; exact ⟨rfl, (Below.refl _ _).alloc (Nat.le_refl _) _⟩
theorem putS_le (l : List Opt) : (putS l).size <= 10000 := by
 unfold putS
 by_cases h : putE l = 0
 . rw [if_pos h]
   have hl : l.length <= 30 := by
    unfold putE at h
    by_cases h1 : 30 < l.length
    . rw [if_pos h1] at h; cases h
    . omega
   have hb : ∀ o ∈ l, o.v.size <= 253 := by
    unfold putE at h; rw [if_neg (by omega)] at h; intro o ho
    by_cases h2 : l.any badO = true
    . rw [if_pos h2] at h; cases h
    . have h3 : badO o = false := by
       cases hb : badO o with
       | false => rfl
       | true => exact absurd (List.any_eq_true.2 ⟨o, ho, hb⟩) h2
      unfold badO at h3; simp at h3
      omega
   have := putB_size_aux l ⟨#[]⟩ hb; have h0 : (ByteArray.mk #[]).size = 0 := rfl; unfold putB; omega
 . rw [if_neg h]; exact Nat.zero_le _
def putBad (p : Pk) : Bool := !numB p || ((decide (0 < p.o.length) && !hasO p.code) || (decide (p.d.size ≠ 0) && hasO p.code))
def putPk (p : Pk) : ByteArray × Int :=
 if putBad p then (noB, 1) else if putE p.o ≠ 0 then (noB, putE p.o) else if 1488 < (putS p.o ++ p.d).size then (noB, 2) else (layB p.code.toNat p.id.toNat (putS p.o ++ p.d), 0)
theorem isE (d : ByteArray) : d.toList.isEmpty = !decide (d.size ≠ 0) := by
 rw [ByteArray.toList_eq]; obtain ⟨⟨l⟩⟩ := d
 cases l with
 | nil => rfl
 | cons x l => simp [ByteArray.size]
set_option maxRecDepth 100000 in
theorem oput_any (p : Pk) (po : Value) (ok : Nat -> Prop) (w : World) (ho : Opts w ok po p.o) (hl : p.o.length <= 1000000) (hv : ∀ o ∈ p.o, o.v.size <= 100000) (hd : p.d.size <= 100000000) :
 Calls Tryz.prog 102 #[pkV p po] w fun e w' => e = .returned (.tuple #[.string (putPk p).1, .int .i64 (putPk p).2]) /\ Below w.heap.size w w' := by
 obtain ⟨n, a1, k1, hn, rfl, hk1, hk2⟩ : ∃ n a1 k1, n = p.o.length /\ po = .slice a1 n k1 /\ n <= k1 /\ k1 <= maxLen := by
  obtain ⟨a1, k1, e, h1, h2⟩ := ho.form; exact ⟨_, a1, k1, rfl, e, h1, h2⟩
 have hb1 : Below w.heap.size w (w.alloc (.cells #[.int .i64 p.code, .int .i64 p.id, (.slice a1 n k1), .string p.d] 59 (0, 0))) := (Below.refl _ _).alloc (Nat.le_refl _) _; have hsz : w.heap.size < (w.alloc (.cells #[.int .i64 p.code, .int .i64 p.id, (.slice a1 n k1), .string p.d] 59 (0, 0))).heap.size := by rw [alloc1]; omega
 have hsz1 : w.heap.size <= (w.alloc (.cells #[.int .i64 p.code, .int .i64 p.id, (.slice a1 n k1), .string p.d] 59 (0, 0))).heap.size := Nat.le_of_lt hsz; have HN := H_ (numbered_any p _ ok (w.alloc (.cells #[.int .i64 p.code, .int .i64 p.id, (.slice a1 n k1), .string p.d] 59 (0, 0))) (ho.below hb1)); have HH := H_ (fun w => hasO_any p.code w); have HB := H_ (A_ hb1 (at1 w (.cells #[.int .i64 p.code, .int .i64 p.id, (.slice a1 n k1), .string p.d] 59 (0, 0)))); have HO := H_ (fun W (hW : Below w.heap.size w W) => put_any p.o _ ok W (ho.below hW) hl hv); have hde := isE p.d; have HD := H_ (show putPk p = _ from rfl); have HLN := H_ hn; have HNB : Hid (numB p = true -> 0 <= p.code /\ p.code <= 255 /\ 0 <= p.id /\ p.id <= 255) := H_ (by unfold numB; simp; omega); have hbd : putBad p = (!numB p || ((decide (0 < p.o.length) && !hasO p.code) || (decide (p.d.size ≠ 0) && hasO p.code))) := rfl; have HOL := H_ ho; unfold pkV at HN ⊢; clear hb1 ho; rw [<- hn] at hl; generalize hnb : numB p = nb at *; rw [<- hn] at hbd; clear hn; generalize hasO p.code = hh at *; generalize decide (p.d.size ≠ 0) = dd at *
 cases nb with
 | false =>
  have HP := H_ (show putPk p = (noB, 1) from by unfold putPk; rw [hbd]; rfl); clear hbd; go_enter Tryz.func102, Tryz.ntmps102
  go_wp2_with (first
   | (
    go_at_call 136; refine HN.out.mono ?_; rintro e w2 ⟨rfl, b2⟩; have hz2 := (b2.block w.heap.size hsz).trans HB.out.2; have HB2 := H_ (A_ (HB.out.1.trans (b2.mono hsz1)) hz2); have e0 := cellOf hz2 0 _ rfl; have e1 := cellOf hz2 1 _ rfl; have e2 := cellOf hz2 2 _ rfl; have e3 := cellOf hz2 3 _ rfl
    clear b2 hz2)
   | (go_at_call 46; refine (HH.out _).mono ?_; rintro e w3 ⟨rfl, rfl⟩))
  go_ret2; rw [HP.out]; exact ⟨rfl, HB2.out.1⟩
 | true =>
  obtain ⟨hn1, hn2, hn3, hn4⟩ := HNB.out rfl; clear HNB
  rcases Nat.eq_zero_or_pos n with h0 | h0 <;> cases hh <;> cases dd
  . subst h0; have HP := H_ (show putPk p = (if putE p.o ≠ 0 then (noB, putE p.o) else if 1488 < (putS p.o ++ p.d).size then (noB, 2) else (layB p.code.toNat p.id.toNat (putS p.o ++ p.d), 0)) from by unfold putPk; rw [hbd]; rfl); clear hbd; go_enter Tryz.func102, Tryz.ntmps102
    go_wp2_with (first
     | (
      go_at_call 136; refine HN.out.mono ?_; rintro e w2 ⟨rfl, b2⟩; have hz2 := (b2.block w.heap.size hsz).trans HB.out.2; have HB2 := H_ (A_ (HB.out.1.trans (b2.mono hsz1)) hz2); have e0 := cellOf hz2 0 _ rfl; have e1 := cellOf hz2 1 _ rfl; have e2 := cellOf hz2 2 _ rfl; have e3 := cellOf hz2 3 _ rfl
      clear b2 hz2)
     | (go_at_call 46; refine (HH.out _).mono ?_; rintro e w3 ⟨rfl, rfl⟩))
    refine (HO.out _ HB2.out.1).mono ?_; rintro e w4 ⟨rfl, b4⟩; have hs2 := HB2.out.1.size; have hlt2 : w.heap.size < w2.heap.size := (Array.getElem?_eq_some_iff.1 HB2.out.2).1; have hz4 := (b4.block w.heap.size hlt2).trans HB2.out.2; have HB4 := H_ (A_ (HB2.out.1.trans (b4.mono hs2)) hz4); have c0 := cellOf hz4 0 _ rfl; have c1 := cellOf hz4 1 _ rfl; have c2 := cellOf hz4 2 _ rfl; have c3 := cellOf hz4 3 _ rfl; clear b4 hz4
    by_cases he : putE p.o = 0
    . have hsz5 : (putS p.o ++ p.d).size <= 100010000 := by
       have : (putS p.o).size <= 10000 := putS_le p.o; rw [ByteArray.size_append]; omega
      have HL5 : Hid (Calls Tryz.prog 137 #[pkV p (.slice a1 _ k1), .string (putS p.o ++ p.d)] w4 fun e w' => e = .returned (.tuple #[.string (putPk p).1, .int .i64 (putPk p).2]) /\ Below w4.heap.size w4 w') := H_ (by
       rw [HP.out, if_neg (by simp [he])]
       by_cases hq : 1488 < (putS p.o ++ p.d).size
       . rw [if_pos hq]; exact lay_long p _ ok _ w4 (HOL.out.below HB4.out.1) hq (by omega)
       . rw [if_neg hq]; exact lay_ok p _ ok _ p.code.toNat p.id.toNat w4 (HOL.out.below HB4.out.1) (by omega) (by omega) (by omega) (by omega) (by omega))
      have hcat : ((putS p.o).size : Int) + (p.d.size : Int) <= 100010000 := by rw [ByteArray.size_append] at hsz5; omega
      unfold pkV at HL5; rw [he]
      go_wp2_with (go_at_call 137; refine HL5.out.mono ?_; rintro e w5 ⟨rfl, b5⟩)
      go_ret2; exact ⟨rfl, HB4.out.1.trans (b5.mono HB4.out.1.size)⟩
    . have dq : decide (putE p.o ≠ 0) = true := by simp [he]
      go_wp2_with fail; go_ret2; rw [HP.out, if_pos he]; exact ⟨rfl, HB4.out.1⟩
  . subst h0; have HP := H_ (show putPk p = (if putE p.o ≠ 0 then (noB, putE p.o) else if 1488 < (putS p.o ++ p.d).size then (noB, 2) else (layB p.code.toNat p.id.toNat (putS p.o ++ p.d), 0)) from by unfold putPk; rw [hbd]; rfl); clear hbd; go_enter Tryz.func102, Tryz.ntmps102
    go_wp2_with (first
     | (
      go_at_call 136; refine HN.out.mono ?_; rintro e w2 ⟨rfl, b2⟩; have hz2 := (b2.block w.heap.size hsz).trans HB.out.2; have HB2 := H_ (A_ (HB.out.1.trans (b2.mono hsz1)) hz2); have e0 := cellOf hz2 0 _ rfl; have e1 := cellOf hz2 1 _ rfl; have e2 := cellOf hz2 2 _ rfl; have e3 := cellOf hz2 3 _ rfl
      clear b2 hz2)
     | (go_at_call 46; refine (HH.out _).mono ?_; rintro e w3 ⟨rfl, rfl⟩))
    refine (HO.out _ HB2.out.1).mono ?_; rintro e w4 ⟨rfl, b4⟩; have hs2 := HB2.out.1.size; have hlt2 : w.heap.size < w2.heap.size := (Array.getElem?_eq_some_iff.1 HB2.out.2).1; have hz4 := (b4.block w.heap.size hlt2).trans HB2.out.2; have HB4 := H_ (A_ (HB2.out.1.trans (b4.mono hs2)) hz4); have c0 := cellOf hz4 0 _ rfl; have c1 := cellOf hz4 1 _ rfl; have c2 := cellOf hz4 2 _ rfl; have c3 := cellOf hz4 3 _ rfl; clear b4 hz4
    by_cases he : putE p.o = 0
    . have hsz5 : (putS p.o ++ p.d).size <= 100010000 := by
       have : (putS p.o).size <= 10000 := putS_le p.o; rw [ByteArray.size_append]; omega
      have HL5 : Hid (Calls Tryz.prog 137 #[pkV p (.slice a1 _ k1), .string (putS p.o ++ p.d)] w4 fun e w' => e = .returned (.tuple #[.string (putPk p).1, .int .i64 (putPk p).2]) /\ Below w4.heap.size w4 w') := H_ (by
       rw [HP.out, if_neg (by simp [he])]
       by_cases hq : 1488 < (putS p.o ++ p.d).size
       . rw [if_pos hq]; exact lay_long p _ ok _ w4 (HOL.out.below HB4.out.1) hq (by omega)
       . rw [if_neg hq]; exact lay_ok p _ ok _ p.code.toNat p.id.toNat w4 (HOL.out.below HB4.out.1) (by omega) (by omega) (by omega) (by omega) (by omega))
      have hcat : ((putS p.o).size : Int) + (p.d.size : Int) <= 100010000 := by rw [ByteArray.size_append] at hsz5; omega
      unfold pkV at HL5; rw [he]
      go_wp2_with (go_at_call 137; refine HL5.out.mono ?_; rintro e w5 ⟨rfl, b5⟩)
      go_ret2; exact ⟨rfl, HB4.out.1.trans (b5.mono HB4.out.1.size)⟩
    . have dq : decide (putE p.o ≠ 0) = true := by simp [he]
      go_wp2_with fail; go_ret2; rw [HP.out, if_pos he]; exact ⟨rfl, HB4.out.1⟩
  . subst h0; have HP := H_ (show putPk p = (if putE p.o ≠ 0 then (noB, putE p.o) else if 1488 < (putS p.o ++ p.d).size then (noB, 2) else (layB p.code.toNat p.id.toNat (putS p.o ++ p.d), 0)) from by unfold putPk; rw [hbd]; rfl); clear hbd; go_enter Tryz.func102, Tryz.ntmps102
    go_wp2_with (first
     | (
      go_at_call 136; refine HN.out.mono ?_; rintro e w2 ⟨rfl, b2⟩; have hz2 := (b2.block w.heap.size hsz).trans HB.out.2; have HB2 := H_ (A_ (HB.out.1.trans (b2.mono hsz1)) hz2); have e0 := cellOf hz2 0 _ rfl; have e1 := cellOf hz2 1 _ rfl; have e2 := cellOf hz2 2 _ rfl; have e3 := cellOf hz2 3 _ rfl
      clear b2 hz2)
     | (go_at_call 46; refine (HH.out _).mono ?_; rintro e w3 ⟨rfl, rfl⟩))
    refine (HO.out _ HB2.out.1).mono ?_; rintro e w4 ⟨rfl, b4⟩; have hs2 := HB2.out.1.size; have hlt2 : w.heap.size < w2.heap.size := (Array.getElem?_eq_some_iff.1 HB2.out.2).1; have hz4 := (b4.block w.heap.size hlt2).trans HB2.out.2; have HB4 := H_ (A_ (HB2.out.1.trans (b4.mono hs2)) hz4); have c0 := cellOf hz4 0 _ rfl; have c1 := cellOf hz4 1 _ rfl; have c2 := cellOf hz4 2 _ rfl; have c3 := cellOf hz4 3 _ rfl; clear b4 hz4
    by_cases he : putE p.o = 0
    . have hsz5 : (putS p.o ++ p.d).size <= 100010000 := by
       have : (putS p.o).size <= 10000 := putS_le p.o; rw [ByteArray.size_append]; omega
      have HL5 : Hid (Calls Tryz.prog 137 #[pkV p (.slice a1 _ k1), .string (putS p.o ++ p.d)] w4 fun e w' => e = .returned (.tuple #[.string (putPk p).1, .int .i64 (putPk p).2]) /\ Below w4.heap.size w4 w') := H_ (by
       rw [HP.out, if_neg (by simp [he])]
       by_cases hq : 1488 < (putS p.o ++ p.d).size
       . rw [if_pos hq]; exact lay_long p _ ok _ w4 (HOL.out.below HB4.out.1) hq (by omega)
       . rw [if_neg hq]; exact lay_ok p _ ok _ p.code.toNat p.id.toNat w4 (HOL.out.below HB4.out.1) (by omega) (by omega) (by omega) (by omega) (by omega))
      have hcat : ((putS p.o).size : Int) + (p.d.size : Int) <= 100010000 := by rw [ByteArray.size_append] at hsz5; omega
      unfold pkV at HL5; rw [he]
      go_wp2_with (go_at_call 137; refine HL5.out.mono ?_; rintro e w5 ⟨rfl, b5⟩)
      go_ret2; exact ⟨rfl, HB4.out.1.trans (b5.mono HB4.out.1.size)⟩
    . have dq : decide (putE p.o ≠ 0) = true := by simp [he]
      go_wp2_with fail; go_ret2; rw [HP.out, if_pos he]; exact ⟨rfl, HB4.out.1⟩
  . subst h0; have HP := H_ (show putPk p = (noB, 1) from by unfold putPk; rw [hbd]; rfl); clear hbd; go_enter Tryz.func102, Tryz.ntmps102
    go_wp2_with (first
     | (
      go_at_call 136; refine HN.out.mono ?_; rintro e w2 ⟨rfl, b2⟩; have hz2 := (b2.block w.heap.size hsz).trans HB.out.2; have HB2 := H_ (A_ (HB.out.1.trans (b2.mono hsz1)) hz2); have e0 := cellOf hz2 0 _ rfl; have e1 := cellOf hz2 1 _ rfl; have e2 := cellOf hz2 2 _ rfl; have e3 := cellOf hz2 3 _ rfl
      clear b2 hz2)
     | (go_at_call 46; refine (HH.out _).mono ?_; rintro e w3 ⟨rfl, rfl⟩))
    go_ret2; rw [HP.out]; exact ⟨rfl, HB2.out.1⟩
  . have dl2 : decide (0 < n) = true := by simpa using h0
    rw [dl2] at hbd; clear dl2; have HP := H_ (show putPk p = (noB, 1) from by unfold putPk; rw [hbd]; rfl); clear hbd; go_enter Tryz.func102, Tryz.ntmps102
    go_wp2_with (first
     | (
      go_at_call 136; refine HN.out.mono ?_; rintro e w2 ⟨rfl, b2⟩; have hz2 := (b2.block w.heap.size hsz).trans HB.out.2; have HB2 := H_ (A_ (HB.out.1.trans (b2.mono hsz1)) hz2); have e0 := cellOf hz2 0 _ rfl; have e1 := cellOf hz2 1 _ rfl; have e2 := cellOf hz2 2 _ rfl; have e3 := cellOf hz2 3 _ rfl
      clear b2 hz2)
     | (go_at_call 46; refine (HH.out _).mono ?_; rintro e w3 ⟨rfl, rfl⟩))
    go_ret2; rw [HP.out]; exact ⟨rfl, HB2.out.1⟩
  . have dl2 : decide (0 < n) = true := by simpa using h0
    rw [dl2] at hbd; clear dl2; have HP := H_ (show putPk p = (noB, 1) from by unfold putPk; rw [hbd]; rfl); clear hbd; go_enter Tryz.func102, Tryz.ntmps102
    go_wp2_with (first
     | (
      go_at_call 136; refine HN.out.mono ?_; rintro e w2 ⟨rfl, b2⟩; have hz2 := (b2.block w.heap.size hsz).trans HB.out.2; have HB2 := H_ (A_ (HB.out.1.trans (b2.mono hsz1)) hz2); have e0 := cellOf hz2 0 _ rfl; have e1 := cellOf hz2 1 _ rfl; have e2 := cellOf hz2 2 _ rfl; have e3 := cellOf hz2 3 _ rfl
      clear b2 hz2)
     | (go_at_call 46; refine (HH.out _).mono ?_; rintro e w3 ⟨rfl, rfl⟩))
    go_ret2; rw [HP.out]; exact ⟨rfl, HB2.out.1⟩
  . have dl2 : decide (0 < n) = true := by simpa using h0
    rw [dl2] at hbd; clear dl2; have HP := H_ (show putPk p = (if putE p.o ≠ 0 then (noB, putE p.o) else if 1488 < (putS p.o ++ p.d).size then (noB, 2) else (layB p.code.toNat p.id.toNat (putS p.o ++ p.d), 0)) from by unfold putPk; rw [hbd]; rfl); clear hbd; go_enter Tryz.func102, Tryz.ntmps102
    go_wp2_with (first
     | (
      go_at_call 136; refine HN.out.mono ?_; rintro e w2 ⟨rfl, b2⟩; have hz2 := (b2.block w.heap.size hsz).trans HB.out.2; have HB2 := H_ (A_ (HB.out.1.trans (b2.mono hsz1)) hz2); have e0 := cellOf hz2 0 _ rfl; have e1 := cellOf hz2 1 _ rfl; have e2 := cellOf hz2 2 _ rfl; have e3 := cellOf hz2 3 _ rfl
      clear b2 hz2)
     | (go_at_call 46; refine (HH.out _).mono ?_; rintro e w3 ⟨rfl, rfl⟩))
    refine (HO.out _ HB2.out.1).mono ?_; rintro e w4 ⟨rfl, b4⟩; have hs2 := HB2.out.1.size; have hlt2 : w.heap.size < w2.heap.size := (Array.getElem?_eq_some_iff.1 HB2.out.2).1; have hz4 := (b4.block w.heap.size hlt2).trans HB2.out.2; have HB4 := H_ (A_ (HB2.out.1.trans (b4.mono hs2)) hz4); have c0 := cellOf hz4 0 _ rfl; have c1 := cellOf hz4 1 _ rfl; have c2 := cellOf hz4 2 _ rfl; have c3 := cellOf hz4 3 _ rfl; clear b4 hz4
    by_cases he : putE p.o = 0
    . have hsz5 : (putS p.o ++ p.d).size <= 100010000 := by
       have : (putS p.o).size <= 10000 := putS_le p.o; rw [ByteArray.size_append]; omega
      have HL5 : Hid (Calls Tryz.prog 137 #[pkV p (.slice a1 _ k1), .string (putS p.o ++ p.d)] w4 fun e w' => e = .returned (.tuple #[.string (putPk p).1, .int .i64 (putPk p).2]) /\ Below w4.heap.size w4 w') := H_ (by
       rw [HP.out, if_neg (by simp [he])]
       by_cases hq : 1488 < (putS p.o ++ p.d).size
       . rw [if_pos hq]; exact lay_long p _ ok _ w4 (HOL.out.below HB4.out.1) hq (by omega)
       . rw [if_neg hq]; exact lay_ok p _ ok _ p.code.toNat p.id.toNat w4 (HOL.out.below HB4.out.1) (by omega) (by omega) (by omega) (by omega) (by omega))
      have hcat : ((putS p.o).size : Int) + (p.d.size : Int) <= 100010000 := by rw [ByteArray.size_append] at hsz5; omega
      unfold pkV at HL5; rw [he]
      go_wp2_with (go_at_call 137; refine HL5.out.mono ?_; rintro e w5 ⟨rfl, b5⟩)
      go_ret2; exact ⟨rfl, HB4.out.1.trans (b5.mono HB4.out.1.size)⟩
    . have dq : decide (putE p.o ≠ 0) = true := by simp [he]
      go_wp2_with fail; go_ret2; rw [HP.out, if_pos he]; exact ⟨rfl, HB4.out.1⟩
  . have dl2 : decide (0 < n) = true := by simpa using h0
    rw [dl2] at hbd; clear dl2; have HP := H_ (show putPk p = (noB, 1) from by unfold putPk; rw [hbd]; rfl); clear hbd; go_enter Tryz.func102, Tryz.ntmps102
    go_wp2_with (first
     | (
      go_at_call 136; refine HN.out.mono ?_; rintro e w2 ⟨rfl, b2⟩; have hz2 := (b2.block w.heap.size hsz).trans HB.out.2; have HB2 := H_ (A_ (HB.out.1.trans (b2.mono hsz1)) hz2); have e0 := cellOf hz2 0 _ rfl; have e1 := cellOf hz2 1 _ rfl; have e2 := cellOf hz2 2 _ rfl; have e3 := cellOf hz2 3 _ rfl
      clear b2 hz2)
     | (go_at_call 46; refine (HH.out _).mono ?_; rintro e w3 ⟨rfl, rfl⟩))
    go_ret2; rw [HP.out]; exact ⟨rfl, HB2.out.1⟩
theorem layB_size (c i : Nat) (b : ByteArray) : (layB c i b).size = 4 + b.size := by
 unfold layB; rw [ByteArray.size_append, ByteArray.size_append]; have h1 : ∀ x y, (ByteArray.mk #[x, y]).size = 2 := fun _ _ => rfl; rw [h1, h1]
theorem putPk_size (p : Pk) : (putPk p).1.size <= 1492 := by
 have h0 : noB.size = 0 := rfl; unfold putPk
 repeat' split
 . rw [h0]; omega
 . rw [h0]; omega
 . rw [h0]; omega
 . rename_i h; show (layB _ _ _).size <= 1492; rw [layB_size]; omega
def rejS (p : Pk) : ByteArray := if (putPk p).2 = 0 then (putPk p).1.extract 0 (min ((putPk p).1.size : Int) 1488).toNat else noB
set_option maxRecDepth 100000 in
theorem rejected_any (p : Pk) (po : Value) (ok : Nat -> Prop) (w : World) (ho : Opts w ok po p.o) (hl : p.o.length <= 1000000) (hv : ∀ o ∈ p.o, o.v.size <= 100000) (hd : p.d.size <= 100000000) :
 Calls Tryz.prog 150 #[pkV p po] w fun e w' => e = .returned (.string (rejS p)) /\ Below w.heap.size w w' := by
 obtain ⟨a1, k1, rfl, hk1, hk2⟩ := ho.form; have hb1 : Below w.heap.size w (w.alloc (.cells #[.int .i64 p.code, .int .i64 p.id, (.slice a1 p.o.length k1), .string p.d] 59 (0, 0))) := (Below.refl _ _).alloc (Nat.le_refl _) _; have HP := H_ (A_ (oput_any p _ ok _ (ho.below hb1) hl hv hd) hb1); have HR := H_ (show rejS p = (if (putPk p).2 = 0 then (putPk p).1.extract 0 (min ((putPk p).1.size : Int) 1488).toNat else noB) from rfl); have hsz := putPk_size p; unfold pkV at HP ⊢; clear ho hb1 hv; generalize putPk p = r at *; obtain ⟨b, e⟩ := r; simp only at HP HR hsz
 by_cases he : e = 0
 . have HR2 := H_ (HR.out.trans (if_pos he)); subst he; go_enter Tryz.func150, Tryz.ntmps150; go_wp2_with fail; refine HP.out.1.mono ?_; rintro e w2 ⟨rfl, b2⟩; have HB := H_ (HP.out.2.trans (b2.mono HP.out.2.size)); clear b2; go_wp2_with fail; go_ret; refine ⟨?_, HB.out⟩; rw [HR2.out]; rfl
 . go_enter Tryz.func150, Tryz.ntmps150; go_wp2_with fail; refine HP.out.1.mono ?_; rintro e w2 ⟨rfl, b2⟩; have HB := H_ (HP.out.2.trans (b2.mono HP.out.2.size)); clear b2; go_wp2_with fail; go_ret; refine ⟨?_, HB.out⟩; rw [HR.out, if_neg he]; rfl
section
variable {w : World} {S ok : Nat -> Prop} {B : NegB} {C : NegC} {st : NSt} {X : NegX} (c : Came) (po pa : Value)
set_option maxRecDepth 100000 in
theorem say11 {okr : Nat -> Prop} (h : NegAt w S B C st X) (hc : CameAt w B ok c po pa) (hv : ∀ o ∈ c.p.o, o.v.size <= 100000) (hd : c.p.d.size <= 100000000) :
 Calls Tryz.prog 119 #[.pointer (some ⟨B.nb, 0, none⟩), .int .i64 11, cameV c po pa] w fun e w' => SayPost w w' S okr B C (sayS rejS C st 11 c) e := by
 obtain ⟨a1, k1, rfl, hk1, hk2⟩ := hc.po.form; obtain ⟨a2, k2, rfl, hk3, hk4⟩ := hc.2.1.1.form; have hb1 : Below w.heap.size w (w.alloc (.cells #[.bool c.is, .int .i64 c.p.code, .int .i64 c.p.id, (.slice a1 c.p.o.length k1), .string c.p.d, .int .i64 c.code, (.slice a2 c.ans.length k2)] 126 (0, 0))) := (Below.refl _ _).alloc (Nat.le_refl _) _; have hz := at1 w (.cells #[.bool c.is, .int .i64 c.p.code, .int .i64 c.p.id, (.slice a1 c.p.o.length k1), .string c.p.d, .int .i64 c.code, (.slice a2 c.ans.length k2)] 126 (0, 0)); have hlt : w.heap.size < (w.alloc (.cells #[.bool c.is, .int .i64 c.p.code, .int .i64 c.p.id, (.slice a1 c.p.o.length k1), .string c.p.d, .int .i64 c.code, (.slice a2 c.ans.length k2)] 126 (0, 0))).heap.size := by rw [alloc1]; omega
 have h1 := h.below (hb1.drew); have HI := H_ (id_at h1)
 have HS : Hid (∀ W : World, W.heap[w.heap.size]? = some (.cells #[.bool c.is, .int .i64 c.p.code, .int .i64 c.p.id, (.slice a1 c.p.o.length k1), .string c.p.d, .int .i64 c.code, (.slice a2 c.ans.length k2)] 126 (0, 0)) -> W.cell? ⟨w.heap.size, 1, none⟩ = some (.int .i64 c.p.code) /\ W.cell? ⟨w.heap.size, 2, none⟩ = some (.int .i64 c.p.id) /\ W.cell? ⟨w.heap.size, 3, none⟩ = some (.slice a1 c.p.o.length k1) /\ W.cell? ⟨w.heap.size, 4, none⟩ = some (.string c.p.d)) := H_ fun W hz =>
  ⟨cellOf hz 1 _ rfl, cellOf hz 2 _ rfl, cellOf hz 3 _ rfl, cellOf hz 4 _ rfl⟩
 have hnl := h.nlt; have H := H_ (A_ h (A_ hb1 (A_ hz (A_ hc (A_ hv hd))))); have es : sayS rejS C st 11 c = ({ st with id := nid st.id }, [⟨7, nid st.id, [], rejS c.p⟩]) := rfl; rw [es]; obtain ⟨e1, e2, e3, e4⟩ := HS.out _ hz; unfold cameV; clear hb1 hz h1 h hc es hv hd; go_enter Tryz.func119, Tryz.ntmps119; go_wp2_with fail
 go_region_held3 (fun W => W.cell? ⟨w.heap.size, 1, none⟩ = some (.int .i64 c.p.code) /\ W.cell? ⟨w.heap.size, 2, none⟩ = some (.int .i64 c.p.id) /\ W.cell? ⟨w.heap.size, 3, none⟩ = some (.slice a1 c.p.o.length k1) /\ W.cell? ⟨w.heap.size, 4, none⟩ = some (.string c.p.d))
  (first
   | exact HS.out _ H3.out.2
   | exact HS.out _ H2.out.2.2.1
   | go_keep)
  (first
   | (
    go_at_call 73; refine HI.out.mono ?_; rintro e w2 ⟨rfl, hn2, hk2⟩; have hz2 := (hk2.block w.heap.size hlt (by omega)).trans H.out.2.2.1; have hc2 := (H.out.2.2.2.1.below (H.out.2.1.drew)).keep hk2 (fun b hb => .inl hb); have hre := rejected_any c.p _ _ w2 hc2.po hc2.2.2.2.1 H.out.2.2.2.2.1 H.out.2.2.2.2.2; unfold pkV at hre; have H2 := H_ (A_ hn2 (A_ hk2 (A_ hz2 hre))); have hlt2 : w.heap.size < w2.heap.size := (Array.getElem?_eq_some_iff.1 hz2).1
    clear hn2 hk2 hz2 hc2 hre)
   | (
    go_at_call 150; refine H2.out.2.2.2.mono ?_; rintro e w3 ⟨rfl, hb3⟩; have H3 := H_ (A_ hb3 ((hb3.block _ hlt2).trans H2.out.2.2.1))
    clear hb3))
 go_wp2_with fail; go_ret; have hs0 := H.out.2.1.size; have hs2 := H2.out.2.1.size; have hs3 := H3.out.1.size; have hsd : (w.alloc (.cells #[.bool c.is, .int .i64 c.p.code, .int .i64 c.p.id, (.slice a1 c.p.o.length k1), .string c.p.d, .int .i64 c.code, (.slice a2 c.ans.length k2)] 126 (0, 0))).drew.heap.size = (w.alloc (.cells #[.bool c.is, .int .i64 c.p.code, .int .i64 c.p.id, (.slice a1 c.p.o.length k1), .string c.p.d, .int .i64 c.code, (.slice a2 c.ans.length k2)] 126 (0, 0))).heap.size := rfl; refine ⟨_, rfl, PksAt.one ⟨7, nid st.id, [], rejS c.p⟩ _ (at1 w3 _) (by omega) (Rec.nil _ _ _), ⟨X, ?_⟩, ?_⟩
 . exact ((H2.out.1.below H3.out.1).below ((Below.refl _ _).alloc (Nat.le_refl _) _)).mono (fun _ h => .inl h)
 . exact (((Keep.of_below _ H.out.2.1.drew).trans H2.out.2.1).trans (Keep.of_below _ H3.out.1)).alloc _
end
theorem alloc3 (w : World) (A B C : Obj) : ∃ W, W = ((w.alloc A).alloc B).alloc C /\ W.heap.size = w.heap.size + 3 /\ W.heap[w.heap.size]? = some A /\ W.heap[w.heap.size + 1]? = some B /\ W.heap[w.heap.size + 1 + 1]? = some C /\ Below w.heap.size w W := by
 have e1 := alloc1 w A; have e2 := alloc1 (w.alloc A) B; have e3 := alloc1 ((w.alloc A).alloc B) C; refine ⟨_, rfl, by omega, ?_, ?_, ?_, (((Below.refl _ _).alloc (Nat.le_refl _) _).alloc (by omega) _).alloc (by omega) _⟩
 . rw [Below.heap_alloc _ _ _ (by omega), Below.heap_alloc _ _ _ (by omega)]; exact at1 _ _
 . rw [Below.heap_alloc _ _ _ (by omega), <- e1]; exact at1 _ _
 . rw [show w.heap.size + 1 + 1 = ((w.alloc A).alloc B).heap.size by omega]; exact at1 _ _
theorem set4 {w : World} {b : Nat} {T : TypeId} {a0 a1 a2 a3 : Value} (h : w.heap[b]? = some (.cells #[a0, a1, a2, a3] T (0, 0))) (v0 v1 v2 v3 : Value) :
 ((((w.setCell ⟨b, 0, none⟩ v0).setCell ⟨b, 1, none⟩ v1).setCell ⟨b, 2, none⟩ v2).setCell ⟨b, 3, none⟩ v3).heap[b]? = some (.cells #[v0, v1, v2, v3] T (0, 0)) := by
 have := set_block (set_block (set_block (set_block h 0 v0) 1 v1) 2 v2) 3 v3
 simpa using this
theorem pk_cells : (Tryz.prog.info? 59).map (·.size) = some 4 := by kernel_rfl
def RefPost (w w' : World) (S ok : Nat -> Prop) (B : NegB) (C : NegC) (r : NSt × Pk) (e : Ending) : Prop :=
 ∃ vo, e = .returned (pkV r.2 vo) /\ (Opts w' (Grow ok w) vo r.2.o /\ ORow w' 0 vo r.2.o /\ ∀ k, vo.ownBlock = some k -> Grow ok w k) /\ NegV w' (Grow S w) B C r.1 /\ Keep (fun b => b = B.nb) w w'
theorem RefPost.fin {w W W' : World} {S ok : Nat -> Prop} {B : NegB} {C : NegC} {st' : NSt} {p : Pk} {vo : Value} (h : NegV W (fun b => S b /\ b < w.heap.size) B C st') (hk : Keep (fun b => b = B.nb) w W) (hk' : Keep (fun b => b = w.heap.size + 1) W W')
 (ho : Opts W' (Grow ok w) vo p.o /\ ORow W' 0 vo p.o /\ ∀ k, vo.ownBlock = some k -> Grow ok w k) (_hd : p.d = noB) (e : Ending) (he : e = .returned (pkV p vo)) : RefPost w W' S ok B C (st', p) e := by
 refine ⟨vo, he, ho, (h.keep hk' (fun b _ hb he => by have := hb.2; omega)).mono (fun b hb => .inl hb.1), ?_⟩; exact ⟨hk'.os.trans hk.os, hk'.tape.trans hk.tape, hk'.output.trans hk.output, Nat.le_trans hk.size hk'.size, fun b hb hn => (hk'.block b (Nat.lt_of_lt_of_le hb hk.size) (by omega)).trans (hk.block b hb hn)⟩
structure RefI (w wr : World) (c0 c1 : Array Value) (pi : Int) (v : Value) (kept : List Opt) : Prop where
 below : Below w.heap.size w wr
 x0 : wr.heap[w.heap.size]? = some (.cells c0 126 (0, 0))
 x1 : wr.heap[w.heap.size + 1]? = some (.cells c1 59 (0, 0))
 x2 : wr.heap[w.heap.size + 1 + 1]? = some (.cells #[.int .i64 4, .int .i64 pi, v, .string ⟨#[]⟩] 59 (0, 0))
 row : ORow wr (w.heap.size + 1 + 1 + 1) v kept
theorem RefI.sz {w wr : World} {c0 c1 : Array Value} {pi : Int} {v : Value} {kept : List Opt} (h : RefI w wr c0 c1 pi v kept) : w.heap.size + 1 + 1 + 1 <= wr.heap.size := (Array.getElem?_eq_some_iff.1 h.x2).1
theorem RefI.go {w wr w' : World} {c0 c1 : Array Value} {pi : Int} {v : Value} {kept : List Opt} (h : RefI w wr c0 c1 pi v kept) (hb : Below wr.heap.size wr w') : RefI w w' c0 c1 pi v kept := by
 have := h.sz; exact ⟨h.below.trans (hb.mono h.below.size), (hb.block _ (by omega)).trans h.x0, (hb.block _ (by omega)).trans h.x1, (hb.block _ (by omega)).trans h.x2, h.row.below hb⟩
theorem RefI.app {w wr w' : World} {c0 c1 : Array Value} {pi : Int} {v v' : Value} {kept kept' : List Opt} (h : RefI w wr c0 c1 pi v kept) (hk : Keep (fun k => v.ownBlock = some k) wr w') (hr : ORow w' (w.heap.size + 1 + 1 + 1) v' kept') :
 RefI w (w'.setCell ⟨w.heap.size + 1 + 1, 2, none⟩ v') c0 c1 pi v' kept' := by
 have hs := h.sz; have hn : ∀ k, k < w.heap.size + 1 + 1 + 1 -> ¬ v.ownBlock = some k := fun k hk he => by have := (h.row.lt k he).2; omega
 have y0 := (hk.block _ (by omega) (hn _ (by omega))).trans h.x0; have y1 := (hk.block _ (by omega) (hn _ (by omega))).trans h.x1; have y2 := (hk.block _ (by omega) (hn _ (by omega))).trans h.x2; have hk2 : Keep (fun b => b = w.heap.size + 1 + 1) w' (w'.setCell ⟨w.heap.size + 1 + 1, 2, none⟩ v') := (Keep.refl (fun b => b = w.heap.size + 1 + 1) w').setCell ⟨w.heap.size + 1 + 1, 2, none⟩ (Or.inr rfl) v'; have hs' := hk.size; have hbs := h.below.size; refine ⟨h.below.trans ((hk.below hbs (fun k hk => hn k (by omega))).trans (hk2.below (by omega) (fun k hk he => by omega))), (hk2.block _ (by omega) (by omega)).trans y0, (hk2.block _ (by omega) (by omega)).trans y1, ?_, hr.keep hk2 (fun k hk he => by have := (hr.lt k hk).2; omega)⟩; have := set_block y2 2 v'
 simpa using this
section
variable {w : World} {S ok : Nat -> Prop} {B : NegB} {C : NegC} {st : NSt} {X : NegX} (c : Came) (po pa : Value)
set_option maxRecDepth 100000 in
theorem refuse_at (h : NegAt w S B C st X) (hc : CameAt w B ok c po pa) :
 Calls Tryz.prog 149 #[.pointer (some ⟨B.nb, 0, none⟩), cameV c po pa] w fun e w' => RefPost w w' S ok B C (refuseS C st c) e := by
 obtain ⟨a1, k1, rfl, hc1, hc2⟩ := hc.po.form; obtain ⟨a2, k2, rfl, hc3, hc4⟩ := hc.2.1.1.form; have H := H_ (A_ h hc); obtain ⟨is, ⟨pc, pi, pl, pd⟩, cc, ca⟩ := c; unfold cameV; clear h hc
 by_cases h3 : cc = 3
 . subst h3; obtain ⟨W, hW, hs, x0, x1, x2, hb⟩ := alloc3 w (.cells #[.bool is, .int .i64 pc, .int .i64 pi, .slice a1 pl.length k1, .string pd, .int .i64 3, .slice a2 ca.length k2] 126 (0, 0)) (.cells #[.int .i64 0, .int .i64 0, .slice none 0 0, .string ⟨#[]⟩] 59 (0, 0)) (.cells #[.int .i64 3, .int .i64 pi, .slice a2 ca.length k2, .string ⟨#[]⟩] 59 (0, 0)); have h1 := H.out.1.old.below hb; have g7 : W.cell? ⟨B.nb, 7, none⟩ = some (.int .i64 C.fl) := h1.cell 7; have g13 : W.cell? ⟨B.nb, 13, none⟩ = some (.int .i64 st.naks) := h1.cell 13; have HSv : (fun W : World => W.cell? ⟨B.nb, 7, none⟩ = some (.int .i64 C.fl) /\ W.cell? ⟨B.nb, 13, none⟩ = some (.int .i64 st.naks)) W.drew := ⟨g7, g13⟩; have HB := H_ (A_ hb (A_ h1 (A_ x0 (A_ x1 (A_ x2 hs))))); have c20 : W.cell? ⟨w.heap.size + 1 + 1, 0, none⟩ = some (.int .i64 3) := cellOf x2 0 _ rfl; have c21 : W.cell? ⟨w.heap.size + 1 + 1, 1, none⟩ = some (.int .i64 pi) := cellOf x2 1 _ rfl; have c22 : W.cell? ⟨w.heap.size + 1 + 1, 2, none⟩ = some (.slice a2 ca.length k2) := cellOf x2 2 _ rfl; have c23 : W.cell? ⟨w.heap.size + 1 + 1, 3, none⟩ = some (.string ⟨#[]⟩) := cellOf x2 3 _ rfl; have c10 : W.cell? ⟨w.heap.size + 1, 0, none⟩ = some (.int .i64 0) := cellOf x1 0 _ rfl; have c11 : W.cell? ⟨w.heap.size + 1, 1, none⟩ = some (.int .i64 0) := cellOf x1 1 _ rfl; have c12 : W.cell? ⟨w.heap.size + 1, 2, none⟩ = some (.slice none 0 0) := cellOf x1 2 _ rfl; have c13 : W.cell? ⟨w.heap.size + 1, 3, none⟩ = some (.string ⟨#[]⟩) := cellOf x1 3 _ rfl; have c06 : W.cell? ⟨w.heap.size, 6, none⟩ = some (.slice a2 ca.length k2) := cellOf x0 6 _ rfl; have c03 : W.cell? ⟨w.heap.size, 3, none⟩ = some (.slice a1 pl.length k1) := cellOf x0 3 _ rfl; have z1 := fun o => fzOf x1 o; have z2 := fun o => fzOf x2 o; have zn := fun o => h1.fz o; have hne : B.nb < w.heap.size := H.out.1.nlt; clear hb h1 x0 x1 x2 hs; go_enter Tryz.func149, Tryz.ntmps149; go_wp2_with fail; rw [<- hW]; clear hW; refine wp_region_N 18 (fun W : World => W.cell? ⟨B.nb, 7, none⟩ = some (.int .i64 C.fl) /\ W.cell? ⟨B.nb, 13, none⟩ = some (.int .i64 st.naks)) (by kernel_rfl) ?_
   by_cases hf : 0 < C.fl
   . have df : decide (0 < C.fl) = true := by simpa using hf
     by_cases hn : C.fl <= st.naks
     . have dn : decide (C.fl <= st.naks) = true := by simpa using hn
       have HQ := H_ (show 0 < C.fl /\ C.fl <= st.naks from ⟨hf, hn⟩); obtain ⟨len, hln⟩ : ∃ len, len = pl.length := ⟨_, rfl⟩; have HLN := H_ hln; rw [<- hln]; rw [<- hln] at c03 hc1; have hlen : len <= 1000000 := by have := H.out.2.2.2.2.1; simp only at this; omega
       obtain ⟨okp, hpo, -⟩ := H.out.2.1; have hpa := H.out.2.2.1.1; have hla := H.out.2.2.2.2.2; simp only at hpo hpa hla
       rw [<- hln] at hpo; have HP := H_ (A_ hpo (A_ hpa hla))
       have HI0 : RefI w ((W.setCell ⟨w.heap.size + 1 + 1, 0, none⟩ (.int .i64 4)).setCell ⟨w.heap.size + 1 + 1, 2, none⟩ (.slice none 0 0)).drew (cameCells ⟨is, ⟨pc, pi, pl, pd⟩, 3, ca⟩ (.slice a1 len k1) (.slice a2 ca.length k2)) #[.int .i64 0, .int .i64 0, .slice none 0 0, .string ⟨#[]⟩] pi (.slice none 0 0) [] := by
        have hs := HB.out.2.2.2.2.2; have kk := (((Keep.refl (fun b => b = w.heap.size + 1 + 1) W).setCell ⟨w.heap.size + 1 + 1, 0, none⟩ (Or.inr rfl) (.int .i64 4)).setCell ⟨w.heap.size + 1 + 1, 2, none⟩ (Or.inr rfl) (.slice none 0 0)).drew
        have yy : ((W.setCell ⟨w.heap.size + 1 + 1, 0, none⟩ (.int .i64 4)).setCell ⟨w.heap.size + 1 + 1, 2, none⟩ (.slice none 0 0)).heap[w.heap.size + 1 + 1]? = some (.cells #[.int .i64 4, .int .i64 pi, .slice none 0 0, .string ⟨#[]⟩] 59 (0, 0)) := by
         have := set_block (set_block HB.out.2.2.2.2.1 0 (.int .i64 4)) 2 (.slice none 0 0)
         simpa using this
        have xx := HB.out.2.2.1; rw [<- hln] at xx; refine ⟨HB.out.1.trans (kk.below (by omega) (fun k hk he => by omega)), (kk.block _ (by omega) (by omega)).trans xx, (kk.block _ (by omega) (by omega)).trans HB.out.2.2.2.1, yy, ORow.nil _ _⟩
       have HI0 := H_ HI0; clear hf hn hln hpo hpa hla; refine hatN 0 rfl (by rintro W ⟨h1, h2⟩; go_simp; try rfl) HSv ?_; simp only [aZ, aC, aD]; refine hatN 1 rfl (by rintro W ⟨h1, h2⟩; go_simp; try rfl) HSv ?_; simp only [aZ, aC, aD]; refine hatN 2 rfl (by rintro W ⟨h1, h2⟩; go_simp; try rfl) HSv ?_; simp only [aZ, aC, aD]; refine hatN 3 rfl (by rintro W ⟨h1, h2⟩; go_simp; try rfl) HSv ?_; simp only [aZ, aC, aD]; refine hatN 4 rfl (by rintro W ⟨h1, h2⟩; go_simp; try rfl) HSv ?_; simp only [aZ, aC, aD]; refine hatN 5 rfl (by rintro W ⟨h1, h2⟩; go_simp; try rfl) HSv ?_; simp only [aZ, aC, aD]; refine hatN 6 rfl (by rintro W ⟨h1, h2⟩; go_simp; try rfl) HSv ?_; simp only [aZ, aC, aD]; refine hatN 7 rfl (by rintro W ⟨h1, h2⟩; go_simp; try rfl) HSv ?_; simp only [aZ, aC, aD]; refine hatN 8 rfl (by rintro W ⟨h1, h2⟩; go_simp; try rfl) HSv ?_; simp only [aZ, aC, aD]; refine hatN 9 rfl (by rintro W ⟨h1, h2⟩; go_simp; try rfl) HSv ?_; simp only [aZ, aC, aD]; refine hatN 10 rfl (by rintro W ⟨h1, h2⟩; go_simp; try rfl) HSv ?_; simp only [aZ, aC, aD]; refine hatN 11 rfl (by rintro W ⟨h1, h2⟩; go_simp; try rfl) HSv ?_; simp only [aZ, aC, aD]; refine hatN 12 rfl (by rintro W ⟨h1, h2⟩; go_simp; try rfl) HSv ?_; simp only [aZ, aC, aD]; refine hatN 13 rfl (by rintro W ⟨h1, h2⟩; go_simp; try rfl) HSv ?_; simp only [aZ, aC, aD]; refine hatN 14 rfl (by rintro W ⟨h1, h2⟩; go_simp; try rfl) HSv ?_; simp only [aZ, aC, aD]; refine hatN 15 rfl (by rintro W ⟨h1, h2⟩; go_simp; try rfl) HSv ?_; simp only [aZ, aC, aD]; refine hatN 16 rfl (by rintro W ⟨h1, h2⟩; go_simp; try rfl) HSv ?_; simp only [aZ, aC, aD]; refine hatN 17 rfl (by rintro W ⟨h1, h2⟩; go_simp; try rfl) HSv ?_; simp only [aZ, aC, aD]; refine wpAnyN_end 18 (by decide) rfl (by kernel_rfl) ?_; simp only [List.drop_succ_cons, List.drop_zero]; go_wp2_with fail; clear c20 c21 c22 c23 c10 c11 c12 c13 c06 c03 z1 z2 zn g7 g13 HSv df dn hne
       go_loopg [46] len (fun x i wr => ∃ k : Nat, k <= len /\ x = len - k /\ i = .int .i64 k /\ Hid (∃ v, RefI w wr (cameCells ⟨is, ⟨pc, pi, pl, pd⟩, 3, ca⟩ (.slice a1 len k1) (.slice a2 ca.length k2)) #[.int .i64 0, .int .i64 0, .slice none 0 0, .string ⟨#[]⟩] pi v ((pl.take k).filter fun o => (findO ca o.t).isSome)))
       case atStart => exact ⟨0, by omega, by omega, rfl, _, HI0.out⟩
       case round =>
        obtain ⟨k, hk, rfl, rfl, hK⟩ := hrel; obtain ⟨va, hva⟩ := hK.out; have HK := H_ hva; obtain ⟨ra, rc, rfl⟩ := hva.row.form; clear hK hva
        by_cases hkl : k < len
        . have hkl' : k < pl.length := by have := HLN.out; omega
          obtain ⟨b, off, rfl, hb, -, -, -, -, c0, c1⟩ := HP.out.1.at k hkl'; have d0 : wr.cell? ⟨b, off + k * 2, none⟩ = _ := (HK.out.below.cell (p := ⟨b, off + k * 2, none⟩) hb).trans c0; have d1 : wr.cell? ⟨b, off + k * 2 + 1, none⟩ = _ := (HK.out.below.cell (p := ⟨b, off + k * 2 + 1, none⟩) hb).trans c1
          have HS := H_ (show (pl.take (k + 1)).filter (fun o => (findO ca o.t).isSome) = (pl.take k).filter (fun o => (findO ca o.t).isSome) ++ (if (findO ca pl[k].t).isSome then [pl[k]] else []) from by
           rw [List.take_succ_eq_append_getElem hkl', List.filter_append]
           congr 1
           cases h : (findO ca pl[k].t).isSome <;> simp [h])
          have hkept : ((pl.take k).filter fun o => (findO ca o.t).isSome).length <= 1000000 := Nat.le_trans (List.length_filter_le _ _) (by rw [List.length_take]; omega); generalize (pl.take k).filter (fun o => (findO ca o.t).isSome) = kept at HK HS hkept ⊢; generalize pl[k] = o at c0 c1 d0 d1 HS; obtain ⟨t, v⟩ := o; simp only at d0 d1 HS
          have hb1 := (Below.refl wr.heap.size wr).alloc (Nat.le_refl _) (.cells #[.int .i64 t, .string v] 132 (0, 0)); have HX := H_ (at1 wr (.cells #[.int .i64 t, .string v] 132 (0, 0))); have HKA := H_ (HK.out.go hb1); have HF := H_ (findO_any ca _ _ t _ (Opts.below HP.out.2.1 (HK.out.below.trans (hb1.mono HK.out.below.size))) HP.out.2.2); have c6 : (wr.alloc (.cells #[.int .i64 t, .string v] 132 (0, 0))).cell? ⟨w.heap.size, 6, none⟩ = some (.slice a2 ca.length k2) := cellOf HKA.out.x0 6 _ rfl; generalize ((findO ca t).getD default).v = sv at HF; generalize (findO ca t).isSome = y at HF HS; clear c0 c1 hb1
          cases y with
          | false =>
           go_wp2_with (go_at_call 53; refine HF.out.mono ?_; rintro e w2 ⟨rfl, hb2⟩)
           go_roundg (len - (k + 1))
           case measure => omega
           case rel => exact ⟨k + 1, by omega, rfl, by go_num, _, by rw [show _ = kept from HS.out.trans (List.append_nil kept)]; exact HKA.out.go hb2⟩
          | true =>
           go_wp2_with (first
            | (
             go_at_call 53; refine HF.out.mono ?_; rintro e w2 ⟨rfl, hb2⟩; have H2 := H_ (HKA.out.go hb2); have xb := (hb2.block wr.heap.size (by rw [alloc1]; omega)).trans HX.out; have e0 : w2.cell? ⟨wr.heap.size, 0, none⟩ = some (.int .i64 t) := cellOf xb 0 _ rfl; have e1 : w2.cell? ⟨wr.heap.size, 1, none⟩ = some (.string v) := cellOf xb 1 _ rfl; have e2 : w2.cell? ⟨w.heap.size + 1 + 1, 2, none⟩ = some (.slice ra kept.length rc) := cellOf H2.out.x2 2 _ rfl; have H3 := H_ (H2.out.go ((Below.refl _ _).alloc (Nat.le_refl _) (.cells #[.int .i64 t, .string v] 132 (0, 0)))); have HX3 := H_ (at1 w2 (.cells #[.int .i64 t, .string v] 132 (0, 0)))
             clear xb hb2)
            | (
             at_builtin; refine wpl_append_opt rfl _ _ rfl _ _ rfl H3.out.row _ 1 t v rfl HX3.out hkept H3.out.sz ?_
             intro g4 cap4 w4 r4 k4 o4; have y2 := (k4.block (w.heap.size + 1 + 1) (by have := H3.out.sz; omega) (fun he => by have := (H3.out.row.lt _ he).2; omega)).trans H3.out.x2; have e5 : w4.cell? ⟨w.heap.size + 1 + 1, 2, none⟩ = some (.slice ra kept.length rc) := cellOf y2 2 _ rfl; have f5 := fun o => fzOf y2 o; have hl4 : (kept ++ [(⟨t, v⟩ : Opt)]).length = kept.length + 1 := by simp
             rw [hl4] at r4; have H4 := H_ (H3.out.app k4 r4)
             clear r4 k4 o4 y2 hl4))
           go_roundg (len - (k + 1))
           case measure => omega
           case rel => exact ⟨k + 1, by omega, rfl, by go_num, _, by rw [show _ = kept ++ [⟨t, v⟩] from HS.out]; exact H4.out⟩
        . obtain rfl : len = k := by omega
          rw [show pl.take len = pl from by rw [HLN.out, List.take_length]] at HK; have y1 := HK.out.x1; have y2 := HK.out.x2; have e20 : wr.cell? ⟨w.heap.size + 1 + 1, 0, none⟩ = some (.int .i64 4) := cellOf y2 0 _ rfl; have e21 : wr.cell? ⟨w.heap.size + 1 + 1, 1, none⟩ = some (.int .i64 pi) := cellOf y2 1 _ rfl; have e22 := cellOf y2 2 _ rfl; have e23 : wr.cell? ⟨w.heap.size + 1 + 1, 3, none⟩ = some (.string ⟨#[]⟩) := cellOf y2 3 _ rfl; have e10 : wr.cell? ⟨w.heap.size + 1, 0, none⟩ = some (.int .i64 0) := cellOf y1 0 _ rfl; have e11 : wr.cell? ⟨w.heap.size + 1, 1, none⟩ = some (.int .i64 0) := cellOf y1 1 _ rfl; have e12 : wr.cell? ⟨w.heap.size + 1, 2, none⟩ = some (.slice none 0 0) := cellOf y1 2 _ rfl; have e13 : wr.cell? ⟨w.heap.size + 1, 3, none⟩ = some (.string ⟨#[]⟩) := cellOf y1 3 _ rfl; have f1 := fun o => fzOf y1 o; have HY := H_ y1
          have e : refuseS C st ⟨is, ⟨pc, pi, pl, pd⟩, 3, ca⟩ = (st, ⟨4, pi, pl.filter fun o => (findO ca o.t).isSome, noB⟩) := by
           unfold refuseS; rw [if_neg (by simp), if_pos HQ.out]
          have HE := H_ e; have hkept : (pl.filter fun o => (findO ca o.t).isSome).length <= 1000000 := Nat.le_trans (List.length_filter_le _ _) (by have := HLN.out; omega); generalize pl.filter (fun o => (findO ca o.t).isSome) = kept at HK hkept e22 HE; clear y1 y2 e; go_wp2_with fail; rw [HE.out]; refine bodyPost_ret (results_cell_row rfl _ _ (w.heap.size + 1) 59 _ (0, 0) _ rfl (set4 HY.out _ _ _ _) Tryz.underlying59 rfl pk_cells) rfl ?_; have hk4 := keep4 wr (w.heap.size + 1) (.int .i64 4) (.int .i64 pi) (.slice ra kept.length rc) (.string ⟨#[]⟩); refine RefPost.fin ⟨X, H.out.1.old.below HK.out.below⟩ (Keep.of_below _ HK.out.below) hk4 (vo := .slice ra kept.length rc) ?_ rfl _ rfl; exact ⟨Rec.mono (Rec.keep (HK.out.row.opts (by unfold maxLen; omega)) hk4 (fun b _ hb he => by omega)) (fun b hb => .inr (by have hb : w.heap.size + 1 + 1 + 1 <= b := hb; omega)), (HK.out.row.keep hk4 (fun k hk he => by have := (HK.out.row.lt k hk).2; omega)).base (Nat.zero_le _), fun k hk => .inr (by have := (HK.out.row.lt k hk).2; omega)⟩
     . have dn : decide (C.fl <= st.naks) = false := by simpa using hn
       have HQ := H_ (show ¬ (0 < C.fl /\ C.fl <= st.naks) from fun h => hn h.2); clear hf hn; refine hatN 0 rfl (by rintro W ⟨h1, h2⟩; go_simp; try rfl) HSv ?_; simp only [aZ, aC, aD]; refine hatN 1 rfl (by rintro W ⟨h1, h2⟩; go_simp; try rfl) HSv ?_; simp only [aZ, aC, aD]; refine hatN 2 rfl (by rintro W ⟨h1, h2⟩; go_simp; try rfl) HSv ?_; simp only [aZ, aC, aD]; refine hatN 3 rfl (by rintro W ⟨h1, h2⟩; go_simp; try rfl) HSv ?_; simp only [aZ, aC, aD]; refine hatN 4 rfl (by rintro W ⟨h1, h2⟩; go_simp; try rfl) HSv ?_; simp only [aZ, aC, aD]; refine hatN 5 rfl (by rintro W ⟨h1, h2⟩; go_simp; try rfl) HSv ?_; simp only [aZ, aC, aD]; refine hatN 6 rfl (by rintro W ⟨h1, h2⟩; go_simp; try rfl) HSv ?_; simp only [aZ, aC, aD]; refine hatN 7 rfl (by rintro W ⟨h1, h2⟩; go_simp; try rfl) HSv ?_; simp only [aZ, aC, aD]; refine hatN 8 rfl (by rintro W ⟨h1, h2⟩; go_simp; try rfl) HSv ?_; simp only [aZ, aC, aD]; refine hatN 9 rfl (by rintro W ⟨h1, h2⟩; go_simp; try rfl) HSv ?_; simp only [aZ, aC, aD]; refine hatN 10 rfl (by rintro W ⟨h1, h2⟩; go_simp; try rfl) HSv ?_; simp only [aZ, aC, aD]; refine hatN 11 rfl (by rintro W ⟨h1, h2⟩; go_simp; try rfl) HSv ?_; simp only [aZ, aC, aD]; refine hatN 12 rfl (by rintro W ⟨h1, h2⟩; go_simp; try rfl) HSv ?_; simp only [aZ, aC, aD]; refine hatN 13 rfl (by rintro W ⟨h1, h2⟩; go_simp; try rfl) HSv ?_; simp only [aZ, aC, aD]; refine hatN 14 rfl (by rintro W ⟨h1, h2⟩; go_simp; try rfl) HSv ?_; simp only [aZ, aC, aD]; refine hatN 15 rfl (by rintro W ⟨h1, h2⟩; go_simp; try rfl) HSv ?_; simp only [aZ, aC, aD]; refine hatN 16 rfl (by rintro W ⟨h1, h2⟩; go_simp; try rfl) HSv ?_; simp only [aZ, aC, aD]; refine hatN 17 rfl (by rintro W ⟨h1, h2⟩; go_simp; try rfl) HSv ?_; simp only [aZ, aC, aD]; refine wpAnyN_end 18 (by decide) rfl (by kernel_rfl) ?_; simp only [List.drop_succ_cons, List.drop_zero]; go_wp2_with fail; have k1 := keepC B W 13 (.int .i64 (wrap64 (st.naks + 1))); have h13 : NegAt (W.setCell ⟨B.nb, 13, none⟩ (.int .i64 (wrap64 (st.naks + 1)))) _ B C { st with naks := wrap64 (st.naks + 1) } X := HB.out.2.1.setC 13 _ rfl ⟨rfl, rfl, rfl, rfl, rfl⟩ HB.out.2.1.id; have y1 := (k1.block (w.heap.size + 1) (by have := HB.out.2.2.2.2.2; omega) (by omega)).trans HB.out.2.2.2.1; refine bodyPost_ret (results_cell_row rfl _ _ (w.heap.size + 1) 59 _ (0, 0) _ rfl (set4 y1 _ _ _ _) Tryz.underlying59 rfl pk_cells) rfl ?_; have hk4 := (keep4 (W.setCell ⟨B.nb, 13, none⟩ (.int .i64 (wrap64 (st.naks + 1)))) (w.heap.size + 1) (.int .i64 3) (.int .i64 pi) (.slice a2 ca.length k2) (.string ⟨#[]⟩)).drew
       have e : refuseS C st ⟨is, ⟨pc, pi, pl, pd⟩, 3, ca⟩ = ({ st with naks := wrap64 (st.naks + 1) }, ⟨3, pi, ca, noB⟩) := by
        unfold refuseS; rw [if_neg (by simp), if_neg HQ.out]
       rw [e]; have hkw := (Keep.of_below (fun b => b = B.nb) HB.out.1).trans k1; refine RefPost.fin ⟨X, h13⟩ hkw hk4 (vo := .slice a2 ca.length k2) ?_ rfl _ rfl; have hop : Opts w (fun b => ok b /\ b < w.heap.size) (.slice a2 ca.length k2) ca := Rec.old H.out.2.2.1.1; have hop2 := Rec.keep (Rec.keep hop hkw (fun b _ hb he => H.out.2.2.2.1 b hb.1 (.inl he))) hk4 (fun b _ hb he => by have := hb.2; omega); have hor := H.out.2.2.1.2.1; exact ⟨Rec.mono hop2 (fun b hb => .inl hb.1), (hor.keep hkw (fun k hk he => H.out.2.2.2.1 k (H.out.2.2.1.2.2 k hk) (.inl he))).keep hk4 (fun k hk he => by have := (hor.lt k hk).1; omega), fun k hk => .inl (H.out.2.2.1.2.2 k hk)⟩
   . have df : decide (0 < C.fl) = false := by simpa using hf
     have HQ := H_ (show ¬ (0 < C.fl /\ C.fl <= st.naks) from fun h => hf h.1); clear hf; refine hatN 0 rfl (by rintro W ⟨h1, h2⟩; go_simp; try rfl) HSv ?_; simp only [aZ, aC, aD]; refine hatN 1 rfl (by rintro W ⟨h1, h2⟩; go_simp; try rfl) HSv ?_; simp only [aZ, aC, aD]; refine hatN 2 rfl (by rintro W ⟨h1, h2⟩; go_simp; try rfl) HSv ?_; simp only [aZ, aC, aD]; refine hatN 3 rfl (by rintro W ⟨h1, h2⟩; go_simp; try rfl) HSv ?_; simp only [aZ, aC, aD]; refine hatN 4 rfl (by rintro W ⟨h1, h2⟩; go_simp; try rfl) HSv ?_; simp only [aZ, aC, aD]; refine hatN 5 rfl (by rintro W ⟨h1, h2⟩; go_simp; try rfl) HSv ?_; simp only [aZ, aC, aD]; refine hatN 6 rfl (by rintro W ⟨h1, h2⟩; go_simp; try rfl) HSv ?_; simp only [aZ, aC, aD]; refine wpAnyN_at 7 (v := undef) rfl (by kernel_rfl) (by kernel_rfl) (by kernel_rfl) (fun _ _ _ h => h) (Or.inr ⟨by rfl, rfl⟩) HSv ?_; simp only [aZ, aA, aE, aB, aC, aD]; refine wpAnyN_at 8 (v := undef) rfl (by kernel_rfl) (by kernel_rfl) (by kernel_rfl) (fun _ _ _ h => h) (Or.inr ⟨by rfl, rfl⟩) HSv ?_; simp only [aZ, aA, aE, aB, aC, aD]; refine wpAnyN_at 9 (v := undef) rfl (by kernel_rfl) (by kernel_rfl) (by kernel_rfl) (fun _ _ _ h => h) (Or.inr ⟨by rfl, rfl⟩) HSv ?_; simp only [aZ, aA, aE, aB, aC, aD]; refine wpAnyN_at 10 (v := undef) rfl (by kernel_rfl) (by kernel_rfl) (by kernel_rfl) (fun _ _ _ h => h) (Or.inr ⟨by rfl, rfl⟩) HSv ?_; simp only [aZ, aA, aE, aB, aC, aD]; refine wpAnyN_at 11 (v := undef) rfl (by kernel_rfl) (by kernel_rfl) (by kernel_rfl) (fun _ _ _ h => h) (Or.inr ⟨by rfl, rfl⟩) HSv ?_; simp only [aZ, aA, aE, aB, aC, aD]; refine wpAnyN_at 12 (v := undef) rfl (by kernel_rfl) (by kernel_rfl) (by kernel_rfl) (fun _ _ _ h => h) (Or.inr ⟨by rfl, rfl⟩) HSv ?_; simp only [aZ, aA, aE, aB, aC, aD]; refine wpAnyN_at 13 (v := undef) rfl (by kernel_rfl) (by kernel_rfl) (by kernel_rfl) (fun _ _ _ h => h) (Or.inr ⟨by rfl, rfl⟩) HSv ?_; simp only [aZ, aA, aE, aB, aC, aD]; refine wpAnyN_at 14 (v := undef) rfl (by kernel_rfl) (by kernel_rfl) (by kernel_rfl) (fun _ _ _ h => h) (Or.inr ⟨by rfl, rfl⟩) HSv ?_; simp only [aZ, aA, aE, aB, aC, aD]; refine wpAnyN_at 15 (v := undef) rfl (by kernel_rfl) (by kernel_rfl) (by kernel_rfl) (fun _ _ _ h => h) (Or.inr ⟨by rfl, rfl⟩) HSv ?_; simp only [aZ, aA, aE, aB, aC, aD]; refine wpAnyN_at 16 (v := undef) rfl (by kernel_rfl) (by kernel_rfl) (by kernel_rfl) (fun _ _ _ h => h) (Or.inr ⟨by rfl, rfl⟩) HSv ?_; simp only [aZ, aA, aE, aB, aC, aD]; refine hatN 17 rfl (by rintro W ⟨h1, h2⟩; go_simp; try rfl) HSv ?_; simp only [aZ, aC, aD]; refine wpAnyN_end 18 (by decide) rfl (by kernel_rfl) ?_; simp only [List.drop_succ_cons, List.drop_zero]; go_wp2_with fail; have k1 := keepC B W 13 (.int .i64 (wrap64 (st.naks + 1))); have h13 : NegAt (W.setCell ⟨B.nb, 13, none⟩ (.int .i64 (wrap64 (st.naks + 1)))) _ B C { st with naks := wrap64 (st.naks + 1) } X := HB.out.2.1.setC 13 _ rfl ⟨rfl, rfl, rfl, rfl, rfl⟩ HB.out.2.1.id; have y1 := (k1.block (w.heap.size + 1) (by have := HB.out.2.2.2.2.2; omega) (by omega)).trans HB.out.2.2.2.1; refine bodyPost_ret (results_cell_row rfl _ _ (w.heap.size + 1) 59 _ (0, 0) _ rfl (set4 y1 _ _ _ _) Tryz.underlying59 rfl pk_cells) rfl ?_; have hk4 := (keep4 (W.setCell ⟨B.nb, 13, none⟩ (.int .i64 (wrap64 (st.naks + 1)))) (w.heap.size + 1) (.int .i64 3) (.int .i64 pi) (.slice a2 ca.length k2) (.string ⟨#[]⟩)).drew
     have e : refuseS C st ⟨is, ⟨pc, pi, pl, pd⟩, 3, ca⟩ = ({ st with naks := wrap64 (st.naks + 1) }, ⟨3, pi, ca, noB⟩) := by
      unfold refuseS; rw [if_neg (by simp), if_neg HQ.out]
     rw [e]; have hkw := (Keep.of_below (fun b => b = B.nb) HB.out.1).trans k1; refine RefPost.fin ⟨X, h13⟩ hkw hk4 (vo := .slice a2 ca.length k2) ?_ rfl _ rfl; have hop : Opts w (fun b => ok b /\ b < w.heap.size) (.slice a2 ca.length k2) ca := Rec.old H.out.2.2.1.1; have hop2 := Rec.keep (Rec.keep hop hkw (fun b _ hb he => H.out.2.2.2.1 b hb.1 (.inl he))) hk4 (fun b _ hb he => by have := hb.2; omega); have hor := H.out.2.2.1.2.1; exact ⟨Rec.mono hop2 (fun b hb => .inl hb.1), (hor.keep hkw (fun k hk he => H.out.2.2.2.1 k (H.out.2.2.1.2.2 k hk) (.inl he))).keep hk4 (fun k hk he => by have := (hor.lt k hk).1; omega), fun k hk => .inl (H.out.2.2.1.2.2 k hk)⟩
 . have d1 : (cc != 3) = true := by simp [h3]
   obtain ⟨W, hW, hs, x0, x1, x2, hb⟩ := alloc3 w (.cells #[.bool is, .int .i64 pc, .int .i64 pi, .slice a1 pl.length k1, .string pd, .int .i64 cc, .slice a2 ca.length k2] 126 (0, 0)) (.cells #[.int .i64 cc, .int .i64 pi, .slice a2 ca.length k2, .string ⟨#[]⟩] 59 (0, 0)) (.cells #[.int .i64 cc, .int .i64 pi, .slice a2 ca.length k2, .string ⟨#[]⟩] 59 (0, 0)); have HB := H_ (A_ hb (A_ (H.out.1.old.below hb) (A_ x1 (A_ x2 hs)))); have HQ := H_ (show refuseS C st ⟨is, ⟨pc, pi, pl, pd⟩, cc, ca⟩ = (st, ⟨cc, pi, ca, noB⟩) from if_pos h3); clear h3 hs x0 x1 x2 hb; go_enter Tryz.func149, Tryz.ntmps149; go_wp2_with fail; rw [<- hW]; clear hW; refine bodyPost_ret (results_cell_row rfl _ _ (w.heap.size + 1) 59 _ (0, 0) _ rfl HB.out.2.2.1 Tryz.underlying59 rfl pk_cells) rfl ?_; have hk4 := Keep.refl (fun b => b = w.heap.size + 1) W; rw [HQ.out]; have hkw := (Keep.of_below (fun b => b = B.nb) HB.out.1); refine RefPost.fin ⟨X, HB.out.2.1⟩ hkw hk4 (vo := .slice a2 ca.length k2) ?_ rfl _ rfl; have hop : Opts w (fun b => ok b /\ b < w.heap.size) (.slice a2 ca.length k2) ca := Rec.old H.out.2.2.1.1; have hop2 := Rec.keep (Rec.keep hop hkw (fun b _ hb he => H.out.2.2.2.1 b hb.1 (.inl he))) hk4 (fun b _ hb he => by have := hb.2; omega); have hor := H.out.2.2.1.2.1; exact ⟨Rec.mono hop2 (fun b hb => .inl hb.1), (hor.keep hkw (fun k hk he => H.out.2.2.2.1 k (H.out.2.2.1.2.2 k hk) (.inl he))).keep hk4 (fun k hk he => by have := (hor.lt k hk).1; omega), fun k hk => .inl (H.out.2.2.1.2.2 k hk)⟩
end
end Go.Proofs.YtbiaempeegfdkaaGreat
