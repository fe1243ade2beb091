import Derived.Test.YthhdackaopaojaaGreatV15
import Derived.Test.YthhdackaopaojaaGreatTgHeld
import Derived.Laws.EntriesVeiled
/- A negotiation in memory. -/
namespace Go.Proofs.YthhdackaopaojaaGreat
open Go.RowKit Go.Tg Go.Maps

/-- S and what is new. -/
def Grow (S : Nat → Prop) (w : World) : Nat → Prop := fun k => S k ∨ w.heap.size ≤ k

/-- What a negotiation was made with. -/
structure NegC where
  own : List Rl
  peer : List Rl
  must : List Int
  cf : Int
  tm : Int
  fl : Int
  wt : Int
  judge : Value

structure NegC.Ok (C : NegC) : Prop where
  cf : 1 ≤ C.cf ∧ C.cf ≤ 20
  tm : 1 ≤ C.tm ∧ C.tm ≤ 20
  fl : 0 ≤ C.fl ∧ C.fl ≤ 20
  wt : 1 ≤ C.wt ∧ C.wt ≤ 100
  own : C.own.length ≤ 1000
  peer : C.peer.length ≤ 1000
  must : C.must.length ≤ 1000
  one : C.judge.oneCell' = true
  jn : C.judge ≠ .nilFunc

/-- How a negotiation stands. -/
structure NSt where
  s : Int
  c : Int
  id : Int
  asked : Int
  naks : Int
  ticks : Int
  req : List Opt
  mine : List Opt
  theirs : List Opt
  ups : Int
  downs : Int

/-- Its blocks: its own struct, its automaton, its request's row. -/
structure NegB where
  nb : Nat
  ab : Nat
  rb : Nat
def NegB.t (B : NegB) (b : Nat) : Prop := b = B.nb ∨ b = B.ab ∨ b = B.rb
def NegB.r (B : NegB) (S : Nat → Prop) (b : Nat) : Prop := S b ∧ ¬ B.t b

structure NegX where
  ask : Value
  own : Value
  peer : Value
  must : Value
  req : Value
  mine : Value
  theirs : Value

def negCells (B : NegB) (C : NegC) (st : NSt) (X : NegX) : Array Value :=
  #[.pointer (some ⟨B.ab, 0, none⟩), X.ask, X.own, X.peer, X.must, .int .i64 C.cf, .int .i64 C.tm, .int .i64 C.fl, .int .i64 C.wt, C.judge, X.req, .int .u8 st.id, .int .u8 st.asked,
    .int .i64 st.naks, .int .i64 st.ticks, X.mine, X.theirs, .int .i64 st.ups, .int .i64 st.downs]

structure NegAt (w : World) (S : Nat → Prop) (B : NegB) (C : NegC) (st : NSt) (X : NegX) : Prop where
  blk : w.heap[B.nb]? = some (.cells (negCells B C st X) 106 (0, 0))
  aut : AutoAt w B.ab st.s st.c C.cf C.tm
  own : Rls w (B.r S) X.own C.own
  peer : Rls w (B.r S) X.peer C.peer
  must : Nums w (B.r S) X.must C.must
  req : ORow w 0 X.req st.req
  rq : ∀ k, X.req.ownBlock = some k → k = B.rb
  mine : Opts w (B.r S) X.mine st.mine
  theirs : Opts w (B.r S) X.theirs st.theirs
  ne1 : B.nb ≠ B.ab
  ne2 : B.rb ≠ B.nb
  ne3 : B.rb ≠ B.ab
  rlt : B.rb < w.heap.size
  s1 : S B.nb
  s2 : S B.ab
  s3 : S B.rb
  ok : C.Ok
  id : 0 ≤ st.id ∧ st.id < 256
  ak : 0 ≤ st.asked ∧ st.asked < 256
  ib : InB st.c
  ss : 0 ≤ st.s ∧ st.s ≤ 9
  lr : st.req.length ≤ 30
  lm : st.mine.length ≤ 1000000
  lt : st.theirs.length ≤ 1000000

def NegV (w : World) (S : Nat → Prop) (B : NegB) (C : NegC) (st : NSt) : Prop := ∃ X, NegAt w S B C st X

section
variable {w w' : World} {S S' T : Nat → Prop} {B : NegB} {C : NegC} {st st' : NSt} {X X' : NegX}

theorem NegAt.nlt (h : NegAt w S B C st X) : B.nb < w.heap.size := (Array.getElem?_eq_some_iff.1 h.blk).1
theorem NegAt.alt (h : NegAt w S B C st X) : B.ab < w.heap.size := h.aut.lt
theorem NegAt.cell (h : NegAt w S B C st X) (o : Nat) : w.cell? ⟨B.nb, o, none⟩ = (negCells B C st X)[o]? := cell_of_block h.blk o
theorem NegAt.fz (h : NegAt w S B C st X) (o : Nat) : w.frozen? ⟨B.nb, o, none⟩ = false := frozen_of_block h.blk o
theorem NegAt.tlt (h : NegAt w S B C st X) {b : Nat} (hb : B.t b) : b < w.heap.size := by
  rcases hb with rfl | rfl | rfl
  · exact h.nlt
  · exact h.alt
  · exact h.rlt

/-- Nothing of it turns. -/
theorem NegAt.keep (h : NegAt w S B C st X) (hk : Keep T w w') (hT : ∀ b, b < w.heap.size → S b → ¬ T b) : NegAt w' S B C st X where
  blk := (hk.block _ h.nlt (hT _ h.nlt h.s1)).trans h.blk
  aut := h.aut.keep hk (hT _ h.alt h.s2)
  own := Rec.keep h.own hk (fun b hb h => hT b hb h.1)
  peer := Rec.keep h.peer hk (fun b hb h => hT b hb h.1)
  must := Rec.keep h.must hk (fun b hb h => hT b hb h.1)
  req := h.req.keep hk (fun k hk' => by rw [h.rq k hk']; exact hT _ h.rlt h.s3)
  rq := h.rq
  mine := Rec.keep h.mine hk (fun b hb h => hT b hb h.1)
  theirs := Rec.keep h.theirs hk (fun b hb h => hT b hb h.1)
  ne1 := h.ne1
  ne2 := h.ne2
  ne3 := h.ne3
  rlt := Nat.lt_of_lt_of_le h.rlt hk.size
  s1 := h.s1
  s2 := h.s2
  s3 := h.s3
  ok := h.ok
  id := h.id
  ak := h.ak
  ib := h.ib
  ss := h.ss
  lr := h.lr
  lm := h.lm
  lt := h.lt
theorem NegAt.below (h : NegAt w S B C st X) (hb : Below w.heap.size w w') : NegAt w' S B C st X := h.keep (Keep.of_below (fun _ => False) hb) (fun _ _ _ h => h)
theorem NegAt.mono (h : NegAt w S B C st X) (hS : ∀ b, S b → S' b) : NegAt w S' B C st X :=
  { h with own := Rec.mono h.own (fun b hb => ⟨hS b hb.1, hb.2⟩), peer := Rec.mono h.peer (fun b hb => ⟨hS b hb.1, hb.2⟩), must := Rec.mono h.must (fun b hb => ⟨hS b hb.1, hb.2⟩),
           mine := Rec.mono h.mine (fun b hb => ⟨hS b hb.1, hb.2⟩), theirs := Rec.mono h.theirs (fun b hb => ⟨hS b hb.1, hb.2⟩), s1 := hS _ h.s1, s2 := hS _ h.s2, s3 := hS _ h.s3 }
theorem NegV.keep (h : NegV w S B C st) (hk : Keep T w w') (hT : ∀ b, b < w.heap.size → S b → ¬ T b) : NegV w' S B C st := ⟨_, h.choose_spec.keep hk hT⟩
theorem NegV.below (h : NegV w S B C st) (hb : Below w.heap.size w w') : NegV w' S B C st := ⟨_, h.choose_spec.below hb⟩
theorem NegV.mono (h : NegV w S B C st) (hS : ∀ b, S b → S' b) : NegV w S' B C st := ⟨_, h.choose_spec.mono hS⟩
theorem NegAt.old (h : NegAt w S B C st X) : NegAt w (fun b => S b ∧ b < w.heap.size) B C st X :=
  { h with own := Rec.mono (Rec.old h.own) (fun _ hb => ⟨⟨hb.1.1, hb.2⟩, hb.1.2⟩), peer := Rec.mono (Rec.old h.peer) (fun _ hb => ⟨⟨hb.1.1, hb.2⟩, hb.1.2⟩), must := Rec.mono (Rec.old h.must) (fun _ hb => ⟨⟨hb.1.1, hb.2⟩, hb.1.2⟩),
           mine := Rec.mono (Rec.old h.mine) (fun _ hb => ⟨⟨hb.1.1, hb.2⟩, hb.1.2⟩), theirs := Rec.mono (Rec.old h.theirs) (fun _ hb => ⟨⟨hb.1.1, hb.2⟩, hb.1.2⟩), s1 := ⟨h.s1, h.nlt⟩, s2 := ⟨h.s2, h.alt⟩, s3 := ⟨h.s3, h.rlt⟩ }

/-- Its struct turns, and no more. -/
theorem NegAt.turn (h : NegAt w S B C st X) (hk : Keep (fun b => b = B.nb) w w') (hb : w'.heap[B.nb]? = some (.cells (negCells B C st' X') 106 (0, 0)))
    (hX : X'.own = X.own ∧ X'.peer = X.peer ∧ X'.must = X.must ∧ X'.req = X.req) (hs : st'.s = st.s ∧ st'.c = st.c ∧ st'.req = st.req) (hid : 0 ≤ st'.id ∧ st'.id < 256)
    (hm : Opts w' (B.r (Grow S w)) X'.mine st'.mine) (ht : Opts w' (B.r (Grow S w)) X'.theirs st'.theirs) (lm : st'.mine.length ≤ 1000000) (lt : st'.theirs.length ≤ 1000000) (has : st'.asked = st.asked ∨ (0 ≤ st'.asked ∧ st'.asked < 256) := by exact Or.inl rfl) : NegAt w' (Grow S w) B C st' X' := by
  have g : ∀ b, B.r S b → B.r (Grow S w) b := fun b hb => ⟨.inl hb.1, hb.2⟩
  have hn : ∀ b, b < w.heap.size → B.r S b → ¬ (b = B.nb) := fun b _ hb he => hb.2 (.inl he)
  obtain ⟨x1, x2, x3, x4⟩ := hX
  obtain ⟨e1, e2, e3⟩ := hs
  exact { blk := hb, aut := by rw [e1, e2]; exact h.aut.keep hk (fun he => h.ne1 he.symm), own := by rw [x1]; exact Rec.mono (Rec.keep h.own hk hn) g, peer := by rw [x2]; exact Rec.mono (Rec.keep h.peer hk hn) g,
          must := by rw [x3]; exact Rec.mono (Rec.keep h.must hk hn) g, req := by rw [x4, e3]; exact h.req.keep hk (fun k hk' he => h.ne2 ((h.rq k hk').symm.trans he)), rq := by rw [x4]; exact h.rq, mine := hm, theirs := ht,
          ne1 := h.ne1, ne2 := h.ne2, ne3 := h.ne3, rlt := Nat.lt_of_lt_of_le h.rlt hk.size, s1 := .inl h.s1, s2 := .inl h.s2, s3 := .inl h.s3, ok := h.ok, id := hid, ak := has.elim (fun e => by rw [e]; exact h.ak) (fun h => h), ib := by rw [e2]; exact h.ib, ss := by rw [e1]; exact h.ss, lr := by rw [e3]; exact h.lr, lm := lm, lt := lt }
theorem NegAt.mine' (h : NegAt w S B C st X) (hk : Keep (fun b => b = B.nb) w w') : Opts w' (B.r (Grow S w)) X.mine st.mine :=
  Rec.mono (Rec.keep h.mine hk (fun _ _ hb he => hb.2 (.inl he))) (fun _ hb => ⟨.inl hb.1, hb.2⟩)
theorem NegAt.theirs' (h : NegAt w S B C st X) (hk : Keep (fun b => b = B.nb) w w') : Opts w' (B.r (Grow S w)) X.theirs st.theirs :=
  Rec.mono (Rec.keep h.theirs hk (fun _ _ hb he => hb.2 (.inl he))) (fun _ hb => ⟨.inl hb.1, hb.2⟩)

/-- Its automaton turns, and no more. -/
theorem NegAt.auto (h : NegAt w S B C st X) (hk : Keep (fun b => b = B.ab) w w') (s c : Int) (ha : AutoAt w' B.ab s c C.cf C.tm) (hc : InB c) (hs : 0 ≤ s ∧ s ≤ 9) : NegAt w' S B C { st with s := s, c := c } X := by
  have hn : ∀ b, b < w.heap.size → B.r S b → ¬ (b = B.ab) := fun b _ hb he => hb.2 (.inr (.inl he))
  exact { h with blk := (hk.block _ h.nlt h.ne1).trans h.blk, aut := ha, own := Rec.keep h.own hk hn, peer := Rec.keep h.peer hk hn, must := Rec.keep h.must hk hn,
                 req := h.req.keep hk (fun k hk' he => h.ne3 ((h.rq k hk').symm.trans he)), mine := Rec.keep h.mine hk hn, theirs := Rec.keep h.theirs hk hn, rlt := Nat.lt_of_lt_of_le h.rlt hk.size, ib := hc, ss := hs }
end

/-! ### Packets -/
structure Pk where
  code : Int
  id : Int
  o : List Opt
  d : ByteArray
def noB : ByteArray := ⟨#[]⟩
def pkCells (p : Pk × Value) : List Value := [.int .i64 p.1.code, .int .i64 p.1.id, p.2, .string p.1.d]
def pkL (L : List (Pk × Value)) : List (List Value) := L.map pkCells
theorem pkL_k (l : List (Pk × Value)) : ∀ x ∈ pkL l, x.length = 4 := by
  intro x hx; simp only [pkL, List.mem_map] at hx; obtain ⟨o, _, rfl⟩ := hx; rfl
theorem pkL_len (l : List (Pk × Value)) : (pkL l).length = l.length := by simp [pkL]
theorem pkL_app (a b : List (Pk × Value)) : (pkL (a ++ b)).flatten = (pkL a).flatten ++ (pkL b).flatten := by simp [pkL]

/-- A row of packets of one's own, and the rows of their options. -/
def PRow (w : World) (base : Nat) (v : Value) (L : List (Pk × Value)) : Prop := w.ownsRow base 38 4 v L.length (pkL L).flatten
def POpts (w : World) (ok : Nat → Prop) (L : List (Pk × Value)) : Prop := ∀ p ∈ L, Opts w ok p.2 p.1.o
def PksAt (w : World) (ok : Nat → Prop) (base : Nat) (v : Value) (l : List Pk) : Prop := ∃ L, L.map Prod.fst = l ∧ PRow w base v L ∧ POpts w ok L

theorem PRow.nil (w : World) (B : Nat) : PRow w B (.slice none 0 0) [] := World.ownsRow_nil _ _ _ _
theorem PRow.keep {w w' : World} {B : Nat} {v : Value} {l : List (Pk × Value)} {T : Nat → Prop} (h : PRow w B v l) (hk : Keep T w w') (hT : ∀ k, v.ownBlock = some k → ¬ T k) : PRow w' B v l := by
  obtain ⟨h0, h | ⟨g, cap, cur, hv, h1, h2, h3⟩⟩ := h
  · exact ⟨h0, Or.inl h⟩
  · have hlt := (Array.getElem?_eq_some_iff.1 h2).1
    exact ⟨h0, Or.inr ⟨g, cap, cur, hv, h1, (hk.block g hlt (hT g (by rw [hv]; rfl))).trans h2, h3⟩⟩
theorem PRow.lt {w : World} {B : Nat} {v : Value} {l : List (Pk × Value)} (h : PRow w B v l) : ∀ k, v.ownBlock = some k → k < w.heap.size ∧ B ≤ k := by
  intro k hk
  have := World.ownsRow.lt h k hk
  exact ⟨this.2, this.1⟩
theorem PRow.base {w : World} {B B' : Nat} {v : Value} {l : List (Pk × Value)} (h : PRow w B v l) (hB : B' ≤ B) : PRow w B' v l := by
  obtain ⟨h0, h | ⟨g, cap, cur, hv, h1, h3⟩⟩ := h
  · exact ⟨h0, Or.inl h⟩
  · exact ⟨h0, Or.inr ⟨g, cap, cur, hv, Nat.le_trans hB h1, h3⟩⟩
theorem PRow.form {w : World} {B : Nat} {v : Value} {l : List (Pk × Value)} (h : PRow w B v l) : ∃ sa sc, v = .slice sa l.length sc := by
  obtain ⟨_, ⟨h, hn⟩ | ⟨g, cp, cur, hv, _⟩⟩ := h
  · exact ⟨none, 0, by rw [h, hn]⟩
  · exact ⟨_, _, hv⟩
theorem POpts.keep {w w' : World} {ok T : Nat → Prop} {L : List (Pk × Value)} (h : POpts w ok L) (hk : Keep T w w') (hT : ∀ b, b < w.heap.size → ok b → ¬ T b) : POpts w' ok L := fun p hp => Rec.keep (h p hp) hk hT
theorem POpts.mono {w : World} {ok ok' : Nat → Prop} {L : List (Pk × Value)} (h : POpts w ok L) (hT : ∀ b, ok b → ok' b) : POpts w ok' L := fun p hp => Rec.mono (h p hp) hT
theorem PksAt.form {w : World} {ok : Nat → Prop} {base : Nat} {v : Value} {l : List Pk} (h : PksAt w ok base v l) : ∃ sa sc, v = .slice sa l.length sc := by
  obtain ⟨L, rfl, hr, -⟩ := h
  rw [List.length_map]; exact hr.form
theorem PksAt.nil (w : World) (ok : Nat → Prop) (base : Nat) : PksAt w ok base (.slice none 0 0) [] := ⟨[], rfl, PRow.nil _ _, fun _ h => by cases h⟩
theorem PksAt.keep {w w' : World} {ok T : Nat → Prop} {base : Nat} {v : Value} {l : List Pk} (h : PksAt w ok base v l) (hk : Keep T w w') (hT : ∀ b, b < w.heap.size → (ok b ∨ base ≤ b) → ¬ T b) : PksAt w' ok base v l := by
  obtain ⟨L, e, hr, ho⟩ := h
  exact ⟨L, e, hr.keep hk (fun k hk => hT k (hr.lt k hk).1 (.inr (hr.lt k hk).2)), ho.keep hk (fun b hb h => hT b hb (.inl h))⟩

/-! ### What is said -/
structure Came where
  is : Bool
  p : Pk
  code : Int
  ans : List Opt
def noCame : Came := ⟨false, ⟨0, 0, [], noB⟩, 0, []⟩
def cameV (c : Came) (po pa : Value) : Value := .agg #[.bool c.is, .int .i64 c.p.code, .int .i64 c.p.id, po, .string c.p.d, .int .i64 c.code, pa]
def pkV (p : Pk) (po : Value) : Value := .agg #[.int .i64 p.code, .int .i64 p.id, po, .string p.d]
def nid (x : Int) : Int := (x + 1) % 256
theorem nid_bd (x : Int) : 0 ≤ nid x ∧ nid x < 256 := by
  unfold nid; omega
/-- What refuses a request. -/
def refuseS (C : NegC) (st : NSt) (c : Came) : NSt × Pk :=
  if c.code ≠ 3 then (st, ⟨c.code, c.p.id, c.ans, noB⟩)
  else if 0 < C.fl ∧ C.fl ≤ st.naks then (st, ⟨4, c.p.id, c.p.o.filter fun o => (findO c.ans o.t).isSome, noB⟩)
  else ({ st with naks := wrap64 (st.naks + 1) }, ⟨c.code, c.p.id, c.ans, noB⟩)
def sayS (rej : Pk → ByteArray) (C : NegC) (st : NSt) (a : Int) (c : Came) : NSt × List Pk :=
  if a = 6 then ({ st with ticks := 0, id := nid st.id, asked := nid st.id }, [⟨1, nid st.id, st.req, noB⟩])
  else if a = 7 then ({ st with theirs := c.p.o }, [⟨2, c.p.id, c.p.o, noB⟩])
  else if a = 8 then ((refuseS C st c).1, [(refuseS C st c).2])
  else if a = 9 then ({ st with ticks := 0, id := nid st.id }, [⟨5, nid st.id, [], noB⟩])
  else if a = 10 then (st, [⟨6, if c.is then c.p.id else st.id, [], noB⟩])
  else if a = 11 then ({ st with id := nid st.id }, [⟨7, nid st.id, [], rej c.p⟩])
  else if a = 0 then ({ st with ups := wrap64 (st.ups + 1) }, [])
  else if a = 1 then ({ st with downs := wrap64 (st.downs + 1) }, [])
  else (st, [])
def sayL (rej : Pk → ByteArray) (C : NegC) (c : Came) : NSt → List Int → NSt × List Pk
  | st, [] => (st, [])
  | st, a :: l => ((sayL rej C c (sayS rej C st a c).1 l).1, (sayS rej C st a c).2 ++ (sayL rej C c (sayS rej C st a c).1 l).2)
/-- What a list of actions says. -/
def toldS (rej : Pk → ByteArray) (C : NegC) (st : NSt) (l : List Int) (c : Came) : NSt × List Pk :=
  ((if waitsB (sayL rej C c st l).1.s then (sayL rej C c st l).1 else { (sayL rej C c st l).1 with ticks := 0 }), (sayL rej C c st l).2)
/-- What an event does. -/
def evS (rej : Pk → ByteArray) (C : NegC) (st : NSt) (e : Int) (c : Came) : NSt × List Pk :=
  toldS rej C { st with s := nextS st.s e, c := doC C.cf C.tm (nextL st.s e) (nextL st.s e) st.c } (nextL st.s e) c
end Go.Proofs.YthhdackaopaojaaGreat

namespace Go.Proofs.YthhdackaopaojaaGreat
open Go.RowKit Go.Tg Go.Maps

theorem keep4 (w : World) (b : Nat) (v0 v1 v2 v3 : Value) : Keep (fun k => k = b) w ((((w.setCell ⟨b, 0, none⟩ v0).setCell ⟨b, 1, none⟩ v1).setCell ⟨b, 2, none⟩ v2).setCell ⟨b, 3, none⟩ v3) :=
  ((((Keep.refl (fun k => k = b) w).setCell ⟨b, 0, none⟩ (Or.inr rfl) v0).setCell ⟨b, 1, none⟩ (Or.inr rfl) v1).setCell ⟨b, 2, none⟩ (Or.inr rfl) v2).setCell ⟨b, 3, none⟩ (Or.inr rfl) v3

/-- The box of a Setup. -/
def SetupAt (w : World) (b : Nat) (a o p m : Value) (cf tm fl wt : Int) : Prop := w.heap[b]? = some (.cells #[a, o, p, m, .int .i64 cf, .int .i64 tm, .int .i64 fl, .int .i64 wt] 78 (0, 0))

/-- What a judge of NewBy's own is. -/
def ownJ (jb : Nat) : Value := .func (Fn.func 71) #[] #[.pointer (some ⟨jb, 0, none⟩)]
def JAt (w : World) (jb nb : Nat) : Prop := w.heap[jb]? = some (.cells #[.pointer (some ⟨nb, 0, none⟩)] 62 (0, 0))
/-- A negotiation at its beginning. -/
def st0 (ask : List Opt) : NSt := ⟨0, 0, 0, 0, 0, 0, ask, [], [], 0, 0⟩
def NewAt (w w' : World) (v : Value) (ask : List Opt) (own peer : List Rl) (must : List Int) (cf tm fl wt : Int) : Prop :=
  ∃ B jb, v = .tuple #[.pointer (some ⟨B.nb, 0, none⟩), .int .i64 0] ∧ NegV w' (fun b => w.heap.size ≤ b) B ⟨own, peer, must, cf, tm, fl, wt, ownJ jb⟩ (st0 ask) ∧ JAt w' jb B.nb ∧ w.heap.size ≤ jb ∧ ¬ B.t jb ∧ Below w.heap.size w w'

end Go.Proofs.YthhdackaopaojaaGreat

namespace Go.Proofs.YthhdackaopaojaaGreat
open Go.RowKit Go.Tg Go.Maps

set_option maxHeartbeats 400000 in
theorem nnone_at {w : World} {S : Nat → Prop} {B : NegB} {C : NegC} {st : NSt} {X : NegX} (h : NegAt w S B C st X) :
    Calls Tryz.prog 77 #[.pointer (some ⟨B.nb, 0, none⟩)] w fun e w' => e = .returned (.bool false) ∧ w = w' := by
  have h0 : w.cell? ⟨B.nb, 0, none⟩ = some (.pointer (some ⟨B.ab, 0, none⟩)) := h.cell 0
  clear h
  have q1 : ∀ w a, (binOp .eql 62 (.pointer (some a)) (.pointer none)).run Tryz.prog w = .ok (.bool false) w := fun w a => by kernel_rfl
  have q2 : ∀ w a, (binOp .eql 96 (.pointer (some a)) (.pointer none)).run Tryz.prog w = .ok (.bool false) w := fun w a => by kernel_rfl
  go_enter Tryz.func77, Tryz.ntmps77
  go_wp2_with fail
  go_ret
  exact ⟨rfl, rfl⟩

/-- A cell of its struct is written. -/
theorem NegAt.setC {w : World} {S : Nat → Prop} {B : NegB} {C : NegC} {st st' : NSt} {X : NegX} (h : NegAt w S B C st X) (o : Nat) (v : Value) (hv : (negCells B C st X).setIfInBounds o v = negCells B C st' X)
    (hs : st'.s = st.s ∧ st'.c = st.c ∧ st'.req = st.req ∧ st'.mine = st.mine ∧ st'.theirs = st.theirs) (hid : 0 ≤ st'.id ∧ st'.id < 256) (has : st'.asked = st.asked ∨ (0 ≤ st'.asked ∧ st'.asked < 256) := by first | exact Or.inl rfl | exact Or.inr (nid_bd _)) : NegAt (w.setCell ⟨B.nb, o, none⟩ v) S B C st' X := by
  obtain ⟨e1, e2, e3, e4, e5⟩ := hs
  have hk : Keep (fun b => b = B.nb) w (w.setCell ⟨B.nb, o, none⟩ v) := (Keep.refl (fun b => b = B.nb) w).setCell ⟨B.nb, o, none⟩ (Or.inr rfl) v
  have hn : ∀ b, b < w.heap.size → B.r S b → ¬ (b = B.nb) := fun b _ hb he => hb.2 (.inl he)
  exact { blk := by rw [← hv]; exact set_block h.blk o v, aut := by rw [e1, e2]; exact h.aut.keep hk (fun he => h.ne1 he.symm), own := Rec.keep h.own hk hn, peer := Rec.keep h.peer hk hn,
          must := Rec.keep h.must hk hn, req := by rw [e3]; exact h.req.keep hk (fun k hk' he => h.ne2 ((h.rq k hk').symm.trans he)), rq := h.rq, mine := by rw [e4]; exact Rec.keep h.mine hk hn, theirs := by rw [e5]; exact Rec.keep h.theirs hk hn,
          ne1 := h.ne1, ne2 := h.ne2, ne3 := h.ne3, rlt := Nat.lt_of_lt_of_le h.rlt hk.size, s1 := h.s1, s2 := h.s2, s3 := h.s3, ok := h.ok, id := hid, ak := has.elim (fun e => by rw [e]; exact h.ak) (fun h => h), ib := by rw [e2]; exact h.ib, ss := by rw [e1]; exact h.ss,
          lr := by rw [e3]; exact h.lr, lm := by rw [e4]; exact h.lm, lt := by rw [e5]; exact h.lt }
theorem keepC (B : NegB) (w : World) (o : Nat) (v : Value) : Keep (fun b => b = B.nb) w (w.setCell ⟨B.nb, o, none⟩ v) := (Keep.refl (fun b => b = B.nb) w).setCell ⟨B.nb, o, none⟩ (Or.inr rfl) v

set_option maxHeartbeats 400000 in
theorem id_at {w : World} {S : Nat → Prop} {B : NegB} {C : NegC} {st : NSt} {X : NegX} (h : NegAt w S B C st X) :
    Calls Tryz.prog 57 #[.pointer (some ⟨B.nb, 0, none⟩)] w fun e w' => e = .returned (.int .i64 (nid st.id)) ∧ NegAt w' S B C { st with id := nid st.id } X ∧ Keep (fun b => b = B.nb) w w' := by
  have h0 : w.cell? ⟨B.nb, 11, none⟩ = some (.int .u8 st.id) := h.cell 11
  have hf := h.fz 11
  have H := Lib.hid h
  clear h
  go_enter Tryz.func57, Tryz.ntmps57
  go_wp2_with fail
  refine (nnone_at H.out).mono ?_
  rintro e w1 ⟨rfl, rfl⟩
  go_wp2_with fail
  go_ret
  exact ⟨rfl, H.out.setC 11 _ rfl ⟨rfl, rfl, rfl, rfl, rfl⟩ (nid_bd _), keepC B w 11 _⟩
end Go.Proofs.YthhdackaopaojaaGreat

namespace Go.Proofs.YthhdackaopaojaaGreat
open Go.RowKit Go.Tg Go.Maps

theorem pk_info : ∃ i z, Tryz.prog.info? 38 = some i ∧ i.zero = some z ∧ i.size = 4 ∧ i.bytes = 56 ∧ z.cells.size = 4 := by
  have h : (Tryz.prog.info? 38).map (fun i => (i.zero, i.size, i.bytes)) = some (some (.agg #[.int .i64 0, .int .i64 0, .slice none 0 0, .string ⟨#[]⟩]), 4, 56) := by kernel_rfl
  obtain ⟨i, hi, he⟩ := Option.map_eq_some_iff.1 h
  simp only [Prod.mk.injEq] at he
  exact ⟨i, _, hi, he.1, he.2.1, he.2.2, rfl⟩

/-- One packet in a row of its own. -/
theorem PRow.one {w : World} {g base : Nat} (p : Pk) (po : Value) (h : w.heap[g]? = some (.cells #[.int .i64 p.code, .int .i64 p.id, po, .string p.d] 38 (0, 0))) (hb : base ≤ g) : PRow w base (.slice (some ⟨g, 0, none⟩) 1 1) [(p, po)] :=
  ⟨rfl, Or.inr ⟨g, 1, _, rfl, hb, h, Nat.le_refl _, by unfold maxLen; omega, rfl, rfl⟩⟩
theorem PksAt.one {w : World} {ok : Nat → Prop} {g base : Nat} (p : Pk) (po : Value) (h : w.heap[g]? = some (.cells #[.int .i64 p.code, .int .i64 p.id, po, .string p.d] 38 (0, 0))) (hb : base ≤ g) (ho : Opts w ok po p.o) : PksAt w ok base (.slice (some ⟨g, 0, none⟩) 1 1) [p] :=
  ⟨[(p, po)], rfl, PRow.one p po h hb, fun q hq => by simp only [List.mem_singleton] at hq; subst hq; exact ho⟩

/-- What came, in a box. -/
def cameCells (c : Came) (po pa : Value) : Array Value := #[.bool c.is, .int .i64 c.p.code, .int .i64 c.p.id, po, .string c.p.d, .int .i64 c.code, pa]
/-- What came reads: its options, its answer. -/
def CameAt (w : World) (B : NegB) (ok : Nat → Prop) (c : Came) (po pa : Value) : Prop :=
  Opts w ok po c.p.o ∧ Opts w ok pa c.ans ∧ (∀ b, ok b → ¬ B.t b) ∧ c.p.o.length ≤ 1000000 ∧ c.ans.length ≤ 1000000
theorem CameAt.keep {w w' : World} {B : NegB} {ok T : Nat → Prop} {c : Came} {po pa : Value} (h : CameAt w B ok c po pa) (hk : Keep T w w') (hT : ∀ b, T b → B.t b) : CameAt w' B ok c po pa :=
  ⟨Rec.keep h.1 hk (fun b _ hb ht => h.2.2.1 b hb (hT b ht)), Rec.keep h.2.1 hk (fun b _ hb ht => h.2.2.1 b hb (hT b ht)), h.2.2⟩
theorem CameAt.below {w w' : World} {B : NegB} {ok : Nat → Prop} {c : Came} {po pa : Value} (h : CameAt w B ok c po pa) (hb : Below w.heap.size w w') : CameAt w' B ok c po pa := h.keep (Keep.of_below (fun _ => False) hb) (fun _ h => h.elim)

def SayPost (w w' : World) (S ok : Nat → Prop) (B : NegB) (C : NegC) (r : NSt × List Pk) (e : Ending) : Prop :=
  ∃ v, e = .returned v ∧ PksAt w' (Grow ok w) w.heap.size v r.2 ∧ NegV w' (Grow S w) B C r.1 ∧ Keep (fun b => b = B.nb) w w'

section
variable (rej : Pk → ByteArray) {w : World} {S ok : Nat → Prop} {B : NegB} {C : NegC} {st : NSt} {X : NegX} (c : Came) (po pa : Value)

set_option maxHeartbeats 4000000 in
set_option maxRecDepth 100000 in
theorem say6 (h : NegAt w S B C st X) :
    Calls Tryz.prog 104 #[.pointer (some ⟨B.nb, 0, none⟩), .int .i64 6, cameV c po pa] w fun e w' => SayPost w w' S ok B C (sayS rej C st 6 c) e := by
  have hb1 : Below w.heap.size w (w.alloc (.cells #[.bool c.is, .int .i64 c.p.code, .int .i64 c.p.id, po, .string c.p.d, .int .i64 c.code, pa] 113 (0, 0))) := (Below.refl _ _).alloc (Nat.le_refl _) _
  have h1 := h.below hb1
  have f1 := h1.fz 14
  have f0 : (w.alloc (.cells #[.bool c.is, .int .i64 c.p.code, .int .i64 c.p.id, po, .string c.p.d, .int .i64 c.code, pa] 113 (0, 0))).cell? ⟨B.nb, 14, none⟩ = some (.int .i64 st.ticks) := h1.cell 14
  have H1 := Lib.hid (NegAt.setC (st' := { st with ticks := 0 }) h1 14 (.int .i64 0) rfl ⟨rfl, rfl, rfl, rfl, rfl⟩ h.id)
  have HK1 := Lib.hid (keepC B (w.alloc (.cells #[.bool c.is, .int .i64 c.p.code, .int .i64 c.p.id, po, .string c.p.d, .int .i64 c.code, pa] 113 (0, 0))) 14 (.int .i64 0))
  have HB := Lib.hid (And.intro hb1 h)
  have hlr := h.lr
  have es : sayS rej C st 6 c = ({ st with ticks := 0, id := nid st.id, asked := nid st.id }, [⟨1, nid st.id, st.req, noB⟩]) := rfl
  rw [es]
  unfold cameV
  clear hb1 h h1 es
  go_enter Tryz.func104, Tryz.ntmps104
  go_wp2_with fail
  refine (id_at H1.out).mono ?_
  rintro e w2 ⟨rfl, h2, k2⟩
  have f2 := h2.fz 12
  have f3 : w2.cell? ⟨B.nb, 12, none⟩ = some (.int .u8 st.asked) := h2.cell 12
  have ew : IntKind.u8.wrap (nid st.id) = nid st.id := by have := nid_bd st.id; unfold IntKind.wrap; simp [IntKind.bits, IntKind.signed]; omega
  have h3 := NegAt.setC (st' := { st with ticks := 0, id := nid st.id, asked := nid st.id }) h2 12 (.int .u8 (nid st.id)) rfl ⟨rfl, rfl, rfl, rfl, rfl⟩ (nid_bd _)
  have f4 : (w2.setCell ⟨B.nb, 12, none⟩ (.int .u8 (nid st.id))).cell? ⟨B.nb, 10, none⟩ = some X.req := h3.cell 10
  have HC := Lib.hid (clone_any st.req X.req (fun b => 0 ≤ b) _ (h3.req.opts (show st.req.length ≤ maxLen by unfold maxLen; omega)) (by omega))
  have H3 := Lib.hid (And.intro h3 (HK1.out.trans (k2.trans (keepC B w2 12 (.int .u8 (nid st.id))))))
  clear h2 k2 h3
  go_wp2_with fail
  refine HC.out.mono ?_
  rintro e w3 ⟨v, rfl, hr, hb⟩
  obtain ⟨qa, qc, rfl⟩ := hr.form
  have H4 := Lib.hid (And.intro hr hb)
  clear hr hb
  go_wp2_with fail
  go_ret
  have hs3 := H3.out.2.size
  have hs1 := HB.out.1.size
  have hs4 := H4.out.2.size
  refine ⟨_, rfl, PksAt.one ⟨1, nid st.id, st.req, noB⟩ _ (at1 w3 _) (by omega) ?_, ⟨X, ?_⟩, ?_⟩
  · exact Rec.mono (Opts.below (H4.out.1.opts (by unfold maxLen; omega)) ((Below.refl _ _).alloc (Nat.le_refl _) _)) (fun b hb => .inr (by omega))
  · exact ((H3.out.1.below H4.out.2).below ((Below.refl _ _).alloc (Nat.le_refl _) _)).mono (fun _ h => .inl h)
  · exact (((Keep.of_below _ HB.out.1).trans H3.out.2).trans (Keep.of_below _ H4.out.2)).alloc _
end
end Go.Proofs.YthhdackaopaojaaGreat

namespace Go.Proofs.YthhdackaopaojaaGreat
open Go.RowKit Go.Tg Go.Maps

section
variable (rej : Pk → ByteArray) {w : World} {S ok : Nat → Prop} {B : NegB} {C : NegC} {st : NSt} {X : NegX} (c : Came) (po pa : Value)

set_option maxHeartbeats 4000000 in
set_option maxRecDepth 100000 in
theorem say7 (h : NegAt w S B C st X) (hc : CameAt w B ok c po pa) :
    Calls Tryz.prog 104 #[.pointer (some ⟨B.nb, 0, none⟩), .int .i64 7, cameV c po pa] w fun e w' => SayPost w w' S ok B C (sayS rej C st 7 c) e := by
  obtain ⟨sa, sc, rfl, hc1, hc2⟩ := hc.1.form
  have hb1 : Below w.heap.size w (w.alloc (.cells #[.bool c.is, .int .i64 c.p.code, .int .i64 c.p.id, (.slice sa c.p.o.length sc), .string c.p.d, .int .i64 c.code, pa] 113 (0, 0))) := (Below.refl _ _).alloc (Nat.le_refl _) _
  have h1 := h.below hb1
  have hz := at1 w (.cells #[.bool c.is, .int .i64 c.p.code, .int .i64 c.p.id, (.slice sa c.p.o.length sc), .string c.p.d, .int .i64 c.code, pa] 113 (0, 0))
  have hC1 := hc.below hb1
  have HC := Lib.hid (clone_any c.p.o _ ok _ hC1.1 hc.2.2.2.1)
  have HB := Lib.hid (And.intro hb1 (And.intro h1 (And.intro hC1 (And.intro hz h.nlt))))
  have es : sayS rej C st 7 c = ({ st with theirs := c.p.o }, [⟨2, c.p.id, c.p.o, noB⟩]) := rfl
  rw [es]
  unfold cameV
  clear hb1 h h1 es hc hC1 hz
  go_enter Tryz.func104, Tryz.ntmps104
  go_wp2_with fail
  refine HC.out.mono ?_
  rintro e w2 ⟨v, rfl, hr, hb⟩
  obtain ⟨qa, qc, rfl⟩ := hr.form
  have h2 := HB.out.2.1.below hb
  have f2 := h2.fz 16
  have f3 : w2.cell? ⟨B.nb, 16, none⟩ = some X.theirs := h2.cell 16
  have H2 := Lib.hid (And.intro hr (And.intro hb h2))
  clear hr hb h2
  go_wp2_with fail
  have hk3 := (Keep.of_below (fun b => b = B.nb) H2.out.2.1).trans (keepC B w2 16 (.slice qa c.p.o.length qc))
  have hC3 := HB.out.2.2.1.keep hk3 (fun b hb => .inl hb)
  have hlt : w.heap.size < (w.alloc (.cells #[.bool c.is, .int .i64 c.p.code, .int .i64 c.p.id, (.slice sa c.p.o.length sc), .string c.p.d, .int .i64 c.code, pa] 113 (0, 0))).heap.size := by rw [alloc1]; omega
  have hz3 := (hk3.block w.heap.size hlt (fun he => by have := HB.out.2.2.2.2; omega)).trans HB.out.2.2.2.1
  have hr3 : ORow (w2.setCell ⟨B.nb, 16, none⟩ (.slice qa c.p.o.length qc)) (w.heap.size + 1) (.slice qa c.p.o.length qc) c.p.o := (H2.out.1.keep (keepC B w2 16 (.slice qa c.p.o.length qc)) (fun k hk he => by have := (H2.out.1.lt k hk).2; rw [alloc1] at this; have := HB.out.2.2.2.2; omega)).base (by rw [alloc1]; omega)
  have hb3 := (keepC B w2 16 (.slice qa c.p.o.length qc))
  have hz4 : (w2.setCell ⟨B.nb, 16, none⟩ (.slice qa c.p.o.length qc)).heap[B.nb]? = _ := set_block H2.out.2.2.blk 16 (.slice qa c.p.o.length qc)
  generalize hw3 : w2.setCell ⟨B.nb, 16, none⟩ (.slice qa c.p.o.length qc) = w3 at hk3 hC3 hz3 hr3 hb3 hz4 ⊢
  have hlt3 : w.heap.size < w3.heap.size := (Array.getElem?_eq_some_iff.1 hz3).1
  have H3 := Lib.hid (And.intro hk3 (And.intro hr3 (And.intro hb3 hz4)))
  have HS : Hid (∀ W, Below w3.heap.size w3 W → W.cell? ⟨w.heap.size, 2, none⟩ = some (.int .i64 c.p.id) ∧ W.cell? ⟨w.heap.size, 3, none⟩ = some (.slice sa c.p.o.length sc)) := Lib.hid fun W hW =>
    ⟨cellOf ((hW.block _ hlt3).trans hz3) 2 _ rfl, cellOf ((hW.block _ hlt3).trans hz3) 3 _ rfl⟩
  have HC3 := Lib.hid (fun W (hW : Below w3.heap.size w3 W) => clone_any c.p.o _ ok W (hC3.below hW).1 hC3.2.2.2.1)
  obtain ⟨y1, y2⟩ := HS.out w3.drew (Below.refl _ _).drew
  clear hk3 hC3 hz3 hr3 hb3 hz4 HC f2 f3
  go_region_held3 (fun W => W.cell? ⟨w.heap.size, 2, none⟩ = some (.int .i64 c.p.id) ∧ W.cell? ⟨w.heap.size, 3, none⟩ = some (.slice sa c.p.o.length sc))
    (first
      | exact HS.out _ H4.out.2
      | exact HS.out _ (H4.out.2.alloc H4.out.2.size _)
      | go_keep)
    (first
      | (go_at_call 69; refine (HC3.out _ (Below.refl _ _).drew).mono ?_; rintro e w4 ⟨v4, rfl, hr4, hb4⟩; obtain ⟨q4, k4, rfl⟩ := hr4.form; have H4 := Lib.hid (And.intro hr4 (show Below w3.heap.size w3 w4 from Below.trans (Below.refl _ _).drew hb4)); clear hr4 hb4))
  go_wp2_with fail
  go_ret
  have hs1 : (w.alloc (.cells #[.bool c.is, .int .i64 c.p.code, .int .i64 c.p.id, (.slice sa c.p.o.length sc), .string c.p.d, .int .i64 c.code, pa] 113 (0, 0))).heap.size = w.heap.size + 1 := alloc1 _ _
  have hs3 := H3.out.1.size
  have hs4 := H4.out.2.size
  have hlo := HB.out.2.2.1.2.2.2.1
  have ht : Opts w3 (B.r (Grow S (w.alloc (.cells #[.bool c.is, .int .i64 c.p.code, .int .i64 c.p.id, (.slice sa c.p.o.length sc), .string c.p.d, .int .i64 c.code, pa] 113 (0, 0))))) (.slice qa c.p.o.length qc) c.p.o := Rec.mono (H3.out.2.1.opts (by unfold maxLen; omega)) (fun b hb => ⟨.inr (by omega), fun ht => by have := HB.out.2.1.tlt ht; omega⟩)
  have h3 : NegAt w3 (Grow S (w.alloc (.cells #[.bool c.is, .int .i64 c.p.code, .int .i64 c.p.id, (.slice sa c.p.o.length sc), .string c.p.d, .int .i64 c.code, pa] 113 (0, 0)))) B C { st with theirs := c.p.o } { X with theirs := .slice qa c.p.o.length qc } :=
    NegAt.turn HB.out.2.1 H3.out.1 H3.out.2.2.2 ⟨rfl, rfl, rfl, rfl⟩ ⟨rfl, rfl, rfl⟩ HB.out.2.1.id (HB.out.2.1.mine' H3.out.1) ht HB.out.2.1.lm hlo
  refine ⟨_, rfl, PksAt.one ⟨2, c.p.id, c.p.o, noB⟩ _ (at1 w4 _) (by omega) ?_, ⟨_, ((h3.below H4.out.2).below ((Below.refl _ _).alloc (Nat.le_refl _) _)).mono (fun b hb => hb.elim .inl (fun h => .inr (by omega)))⟩, ?_⟩
  · exact Rec.mono (Opts.below (H4.out.1.opts (by unfold maxLen; omega)) ((Below.refl _ _).alloc (Nat.le_refl _) _)) (fun b hb => .inr (show w.heap.size ≤ b by have hb : w3.heap.size ≤ b := hb; omega))
  · exact ((((Keep.of_below _ HB.out.1).trans H3.out.1)).trans (Keep.of_below _ H4.out.2)).alloc _
end
end Go.Proofs.YthhdackaopaojaaGreat

namespace Go.Proofs.YthhdackaopaojaaGreat
open Go.RowKit Go.Tg Go.Maps

section
variable (rej : Pk → ByteArray) {w : World} {S ok : Nat → Prop} {B : NegB} {C : NegC} {st : NSt} {X : NegX} (c : Came) (po pa : Value)

set_option maxHeartbeats 4000000 in
set_option maxRecDepth 100000 in
theorem say9 (h : NegAt w S B C st X) :
    Calls Tryz.prog 104 #[.pointer (some ⟨B.nb, 0, none⟩), .int .i64 9, cameV c po pa] w fun e w' => SayPost w w' S ok B C (sayS rej C st 9 c) e := by
  have hb1 : Below w.heap.size w (w.alloc (.cells #[.bool c.is, .int .i64 c.p.code, .int .i64 c.p.id, po, .string c.p.d, .int .i64 c.code, pa] 113 (0, 0))) := (Below.refl _ _).alloc (Nat.le_refl _) _
  have h1 := h.below hb1
  have f1 := h1.fz 14
  have f0 : (w.alloc (.cells #[.bool c.is, .int .i64 c.p.code, .int .i64 c.p.id, po, .string c.p.d, .int .i64 c.code, pa] 113 (0, 0))).cell? ⟨B.nb, 14, none⟩ = some (.int .i64 st.ticks) := h1.cell 14
  have H1 := Lib.hid (NegAt.setC (st' := { st with ticks := 0 }) h1 14 (.int .i64 0) rfl ⟨rfl, rfl, rfl, rfl, rfl⟩ h.id)
  have HK1 := Lib.hid (keepC B (w.alloc (.cells #[.bool c.is, .int .i64 c.p.code, .int .i64 c.p.id, po, .string c.p.d, .int .i64 c.code, pa] 113 (0, 0))) 14 (.int .i64 0))
  have HB := Lib.hid hb1
  have es : sayS rej C st 9 c = ({ st with ticks := 0, id := nid st.id }, [⟨5, nid st.id, [], noB⟩]) := rfl
  rw [es]
  unfold cameV
  clear hb1 h h1 es
  go_enter Tryz.func104, Tryz.ntmps104
  go_wp2_with fail
  refine (id_at H1.out).mono ?_
  rintro e w2 ⟨rfl, h2, k2⟩
  have H2 := Lib.hid (And.intro h2 (HK1.out.trans k2))
  clear h2 k2
  go_wp2_with fail
  go_ret
  have hs1 := HB.out.size
  have hs2 := H2.out.2.size
  refine ⟨_, rfl, PksAt.one ⟨5, nid st.id, [], noB⟩ _ (at1 w2 _) (by omega) (Rec.nil _ _ _), ⟨X, ?_⟩, ?_⟩
  · exact (H2.out.1.below ((Below.refl _ _).alloc (Nat.le_refl _) _)).mono (fun _ h => .inl h)
  · exact ((Keep.of_below _ HB.out).trans H2.out.2).alloc _

set_option maxHeartbeats 4000000 in
set_option maxRecDepth 100000 in
theorem say10 (h : NegAt w S B C st X) :
    Calls Tryz.prog 104 #[.pointer (some ⟨B.nb, 0, none⟩), .int .i64 10, cameV c po pa] w fun e w' => SayPost w w' S ok B C (sayS rej C st 10 c) e := by
  have hb1 : Below w.heap.size w (w.alloc (.cells #[.bool c.is, .int .i64 c.p.code, .int .i64 c.p.id, po, .string c.p.d, .int .i64 c.code, pa] 113 (0, 0))) := (Below.refl _ _).alloc (Nat.le_refl _) _
  have h1 := h.below hb1
  have f0 : (w.alloc (.cells #[.bool c.is, .int .i64 c.p.code, .int .i64 c.p.id, po, .string c.p.d, .int .i64 c.code, pa] 113 (0, 0))).cell? ⟨B.nb, 11, none⟩ = some (.int .u8 st.id) := h1.cell 11
  have ew : wrap64 st.id = st.id := by have := h.id; unfold wrap64; omega
  have HB := Lib.hid (And.intro hb1 h1)
  have es : sayS rej C st 10 c = (st, [⟨6, if c.is then c.p.id else st.id, [], noB⟩]) := rfl
  rw [es]
  obtain ⟨is, p, cc, ca⟩ := c
  unfold cameV
  clear hb1 h h1 es
  cases is
  · go_enter Tryz.func104, Tryz.ntmps104
    go_wp2_with fail
    go_ret
    refine ⟨_, rfl, PksAt.one ⟨6, st.id, [], noB⟩ _ (at21 w _ _) (by omega) (Rec.nil _ _ _), ⟨X, ?_⟩, ?_⟩
    · exact (HB.out.2.below ((Below.refl _ _).alloc (Nat.le_refl _) _)).mono (fun _ h => .inl h)
    · exact (Keep.of_below _ HB.out.1).alloc _
  · go_enter Tryz.func104, Tryz.ntmps104
    go_wp2_with fail
    go_ret
    refine ⟨_, rfl, PksAt.one ⟨6, p.id, [], noB⟩ _ (at21 w _ _) (by omega) (Rec.nil _ _ _), ⟨X, ?_⟩, ?_⟩
    · exact (HB.out.2.below ((Below.refl _ _).alloc (Nat.le_refl _) _)).mono (fun _ h => .inl h)
    · exact (Keep.of_below _ HB.out.1).alloc _

set_option maxHeartbeats 4000000 in
set_option maxRecDepth 100000 in
theorem say0 (h : NegAt w S B C st X) :
    Calls Tryz.prog 104 #[.pointer (some ⟨B.nb, 0, none⟩), .int .i64 0, cameV c po pa] w fun e w' => SayPost w w' S ok B C (sayS rej C st 0 c) e := by
  have hb1 : Below w.heap.size w (w.alloc (.cells #[.bool c.is, .int .i64 c.p.code, .int .i64 c.p.id, po, .string c.p.d, .int .i64 c.code, pa] 113 (0, 0))) := (Below.refl _ _).alloc (Nat.le_refl _) _
  have h1 := h.below hb1
  have f1 := h1.fz 17
  have f0 : (w.alloc (.cells #[.bool c.is, .int .i64 c.p.code, .int .i64 c.p.id, po, .string c.p.d, .int .i64 c.code, pa] 113 (0, 0))).cell? ⟨B.nb, 17, none⟩ = some (.int .i64 st.ups) := h1.cell 17
  have H1 := Lib.hid (NegAt.setC (st' := { st with ups := wrap64 (st.ups + 1) }) h1 17 (.int .i64 (wrap64 (st.ups + 1))) rfl ⟨rfl, rfl, rfl, rfl, rfl⟩ h.id)
  have HK1 := Lib.hid (keepC B (w.alloc (.cells #[.bool c.is, .int .i64 c.p.code, .int .i64 c.p.id, po, .string c.p.d, .int .i64 c.code, pa] 113 (0, 0))) 17 (.int .i64 (wrap64 (st.ups + 1))))
  have HB := Lib.hid hb1
  have es : sayS rej C st 0 c = ({ st with ups := wrap64 (st.ups + 1) }, []) := rfl
  rw [es]
  unfold cameV
  clear hb1 h h1 es
  go_enter Tryz.func104, Tryz.ntmps104
  go_wp2_with fail
  go_ret
  exact ⟨_, rfl, PksAt.nil _ _ _, ⟨X, H1.out.mono (fun _ h => .inl h)⟩, (Keep.of_below _ HB.out).trans HK1.out⟩

set_option maxHeartbeats 4000000 in
set_option maxRecDepth 100000 in
theorem say1 (h : NegAt w S B C st X) :
    Calls Tryz.prog 104 #[.pointer (some ⟨B.nb, 0, none⟩), .int .i64 1, cameV c po pa] w fun e w' => SayPost w w' S ok B C (sayS rej C st 1 c) e := by
  have hb1 : Below w.heap.size w (w.alloc (.cells #[.bool c.is, .int .i64 c.p.code, .int .i64 c.p.id, po, .string c.p.d, .int .i64 c.code, pa] 113 (0, 0))) := (Below.refl _ _).alloc (Nat.le_refl _) _
  have h1 := h.below hb1
  have f1 := h1.fz 18
  have f0 : (w.alloc (.cells #[.bool c.is, .int .i64 c.p.code, .int .i64 c.p.id, po, .string c.p.d, .int .i64 c.code, pa] 113 (0, 0))).cell? ⟨B.nb, 18, none⟩ = some (.int .i64 st.downs) := h1.cell 18
  have H1 := Lib.hid (NegAt.setC (st' := { st with downs := wrap64 (st.downs + 1) }) h1 18 (.int .i64 (wrap64 (st.downs + 1))) rfl ⟨rfl, rfl, rfl, rfl, rfl⟩ h.id)
  have HK1 := Lib.hid (keepC B (w.alloc (.cells #[.bool c.is, .int .i64 c.p.code, .int .i64 c.p.id, po, .string c.p.d, .int .i64 c.code, pa] 113 (0, 0))) 18 (.int .i64 (wrap64 (st.downs + 1))))
  have HB := Lib.hid hb1
  have es : sayS rej C st 1 c = ({ st with downs := wrap64 (st.downs + 1) }, []) := rfl
  rw [es]
  unfold cameV
  clear hb1 h h1 es
  go_enter Tryz.func104, Tryz.ntmps104
  go_wp2_with fail
  go_ret
  exact ⟨_, rfl, PksAt.nil _ _ _, ⟨X, H1.out.mono (fun _ h => .inl h)⟩, (Keep.of_below _ HB.out).trans HK1.out⟩

set_option maxHeartbeats 4000000 in
set_option maxRecDepth 100000 in
theorem sayX (a : Int) (ha : a = 2 ∨ a = 3 ∨ a = 4 ∨ a = 5 ∨ a = 12) (h : NegAt w S B C st X) :
    Calls Tryz.prog 104 #[.pointer (some ⟨B.nb, 0, none⟩), .int .i64 a, cameV c po pa] w fun e w' => SayPost w w' S ok B C (sayS rej C st a c) e := by
  have hb1 : Below w.heap.size w (w.alloc (.cells #[.bool c.is, .int .i64 c.p.code, .int .i64 c.p.id, po, .string c.p.d, .int .i64 c.code, pa] 113 (0, 0))) := (Below.refl _ _).alloc (Nat.le_refl _) _
  have HB := Lib.hid (And.intro hb1 (h.below hb1))
  have es : sayS rej C st a c = (st, []) := by rcases ha with rfl | rfl | rfl | rfl | rfl <;> rfl
  rw [es]
  unfold cameV
  clear hb1 h es
  rcases ha with rfl | rfl | rfl | rfl | rfl
  all_goals go_enter Tryz.func104, Tryz.ntmps104
  all_goals go_wp2_with fail
  all_goals go_ret
  all_goals exact ⟨_, rfl, PksAt.nil _ _ _, ⟨X, HB.out.2.mono (fun _ h => .inl h)⟩, Keep.of_below _ HB.out.1⟩
end
end Go.Proofs.YthhdackaopaojaaGreat
