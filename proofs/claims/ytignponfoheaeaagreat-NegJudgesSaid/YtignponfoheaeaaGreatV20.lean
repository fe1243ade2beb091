import Derived.Test.YtignponfoheaeaaGreatV15
import Derived.Test.YtignponfoheaeaaGreatTgHeld
import Derived.Laws.EntriesVeiled
/- A negotiation in memory. -/
namespace Go.Proofs.YtignponfoheaeaaGreat
open Go.RowKit Go.Tg Go.Maps

/-- S and what is new. -/
def Grow (S : Nat → Prop) (w : World) : Nat → Prop := fun k => S k ∨ w.heap.size ≤ k

/-- What a negotiation was made with. -/
structure NegC where
  own : List Rl
  peer : List Rl
  must : List Int
  cf : Int
  tm : Int
  fl : Int
  wt : Int
  judge : Value

structure NegC.Ok (C : NegC) : Prop where
  cf : 1 ≤ C.cf ∧ C.cf ≤ 20
  tm : 1 ≤ C.tm ∧ C.tm ≤ 20
  fl : 0 ≤ C.fl ∧ C.fl ≤ 20
  wt : 1 ≤ C.wt ∧ C.wt ≤ 100
  own : C.own.length ≤ 1000
  peer : C.peer.length ≤ 1000
  must : C.must.length ≤ 1000
  one : C.judge.oneCell' = true
  jn : C.judge ≠ .nilFunc

/-- How a negotiation stands. -/
structure NSt where
  s : Int
  c : Int
  id : Int
  asked : Int
  naks : Int
  ticks : Int
  req : List Opt
  mine : List Opt
  theirs : List Opt
  ups : Int
  downs : Int

/-- Its blocks: its own struct, its automaton, its request's row. -/
structure NegB where
  nb : Nat
  ab : Nat
  rb : Nat
def NegB.t (B : NegB) (b : Nat) : Prop := b = B.nb ∨ b = B.ab ∨ b = B.rb
def NegB.r (B : NegB) (S : Nat → Prop) (b : Nat) : Prop := S b ∧ ¬ B.t b

structure NegX where
  ask : Value
  own : Value
  peer : Value
  must : Value
  req : Value
  mine : Value
  theirs : Value

def negCells (B : NegB) (C : NegC) (st : NSt) (X : NegX) : Array Value :=
  #[.pointer (some ⟨B.ab, 0, none⟩), X.ask, X.own, X.peer, X.must, .int .i64 C.cf, .int .i64 C.tm, .int .i64 C.fl, .int .i64 C.wt, C.judge, X.req, .int .u8 st.id, .int .u8 st.asked,
    .int .i64 st.naks, .int .i64 st.ticks, X.mine, X.theirs, .int .i64 st.ups, .int .i64 st.downs]

structure NegAt (w : World) (S : Nat → Prop) (B : NegB) (C : NegC) (st : NSt) (X : NegX) : Prop where
  blk : w.heap[B.nb]? = some (.cells (negCells B C st X) 190 (0, 0))
  aut : AutoAt w B.ab st.s st.c C.cf C.tm
  own : Rls w (B.r S) X.own C.own
  peer : Rls w (B.r S) X.peer C.peer
  must : Nums w (B.r S) X.must C.must
  req : ORow w 0 X.req st.req
  rq : ∀ k, X.req.ownBlock = some k → k = B.rb
  mine : Opts w (B.r S) X.mine st.mine
  theirs : Opts w (B.r S) X.theirs st.theirs
  ne1 : B.nb ≠ B.ab
  ne2 : B.rb ≠ B.nb
  ne3 : B.rb ≠ B.ab
  rlt : B.rb < w.heap.size
  s1 : S B.nb
  s2 : S B.ab
  s3 : S B.rb
  ok : C.Ok
  id : 0 ≤ st.id ∧ st.id < 256
  ak : 0 ≤ st.asked ∧ st.asked < 256
  ib : InB st.c
  ss : 0 ≤ st.s ∧ st.s ≤ 9
  lr : st.req.length ≤ 30
  lm : st.mine.length ≤ 1000000
  lt : st.theirs.length ≤ 1000000

def NegV (w : World) (S : Nat → Prop) (B : NegB) (C : NegC) (st : NSt) : Prop := ∃ X, NegAt w S B C st X

theorem Rls.form' {w : World} {ok : Nat → Prop} {v : Value} {l : List Rl} (h : Rls w ok v l) : ∃ sa c, v = .slice sa l.length c ∧ l.length ≤ c ∧ c ≤ maxLen := by
  have := Rec.form h
  rwa [rlL_len] at this

section
variable {w w' : World} {S S' T : Nat → Prop} {B : NegB} {C : NegC} {st st' : NSt} {X X' : NegX}

theorem NegAt.nlt (h : NegAt w S B C st X) : B.nb < w.heap.size := (Array.getElem?_eq_some_iff.1 h.blk).1
theorem NegAt.alt (h : NegAt w S B C st X) : B.ab < w.heap.size := h.aut.lt
theorem NegAt.cell (h : NegAt w S B C st X) (o : Nat) : w.cell? ⟨B.nb, o, none⟩ = (negCells B C st X)[o]? := cell_of_block h.blk o
theorem NegAt.fz (h : NegAt w S B C st X) (o : Nat) : w.frozen? ⟨B.nb, o, none⟩ = false := frozen_of_block h.blk o
theorem NegAt.tlt (h : NegAt w S B C st X) {b : Nat} (hb : B.t b) : b < w.heap.size := by
  rcases hb with rfl | rfl | rfl
  · exact h.nlt
  · exact h.alt
  · exact h.rlt

/-- Nothing of it turns. -/
theorem NegAt.keep (h : NegAt w S B C st X) (hk : Keep T w w') (hT : ∀ b, b < w.heap.size → S b → ¬ T b) : NegAt w' S B C st X where
  blk := (hk.block _ h.nlt (hT _ h.nlt h.s1)).trans h.blk
  aut := h.aut.keep hk (hT _ h.alt h.s2)
  own := Rec.keep h.own hk (fun b hb h => hT b hb h.1)
  peer := Rec.keep h.peer hk (fun b hb h => hT b hb h.1)
  must := Rec.keep h.must hk (fun b hb h => hT b hb h.1)
  req := h.req.keep hk (fun k hk' => by rw [h.rq k hk']; exact hT _ h.rlt h.s3)
  rq := h.rq
  mine := Rec.keep h.mine hk (fun b hb h => hT b hb h.1)
  theirs := Rec.keep h.theirs hk (fun b hb h => hT b hb h.1)
  ne1 := h.ne1
  ne2 := h.ne2
  ne3 := h.ne3
  rlt := Nat.lt_of_lt_of_le h.rlt hk.size
  s1 := h.s1
  s2 := h.s2
  s3 := h.s3
  ok := h.ok
  id := h.id
  ak := h.ak
  ib := h.ib
  ss := h.ss
  lr := h.lr
  lm := h.lm
  lt := h.lt
theorem NegAt.below (h : NegAt w S B C st X) (hb : Below w.heap.size w w') : NegAt w' S B C st X := h.keep (Keep.of_below (fun _ => False) hb) (fun _ _ _ h => h)
theorem NegAt.mono (h : NegAt w S B C st X) (hS : ∀ b, S b → S' b) : NegAt w S' B C st X :=
  { h with own := Rec.mono h.own (fun b hb => ⟨hS b hb.1, hb.2⟩), peer := Rec.mono h.peer (fun b hb => ⟨hS b hb.1, hb.2⟩), must := Rec.mono h.must (fun b hb => ⟨hS b hb.1, hb.2⟩),
           mine := Rec.mono h.mine (fun b hb => ⟨hS b hb.1, hb.2⟩), theirs := Rec.mono h.theirs (fun b hb => ⟨hS b hb.1, hb.2⟩), s1 := hS _ h.s1, s2 := hS _ h.s2, s3 := hS _ h.s3 }
theorem NegV.keep (h : NegV w S B C st) (hk : Keep T w w') (hT : ∀ b, b < w.heap.size → S b → ¬ T b) : NegV w' S B C st := ⟨_, h.choose_spec.keep hk hT⟩
theorem NegV.below (h : NegV w S B C st) (hb : Below w.heap.size w w') : NegV w' S B C st := ⟨_, h.choose_spec.below hb⟩
theorem NegV.mono (h : NegV w S B C st) (hS : ∀ b, S b → S' b) : NegV w S' B C st := ⟨_, h.choose_spec.mono hS⟩
theorem NegV.grow (h : NegV w S B C st) (w' : World) : NegV w (Grow S w') B C st := h.mono (fun _ h => .inl h)

theorem NegAt.old (h : NegAt w S B C st X) : NegAt w (fun b => S b ∧ b < w.heap.size) B C st X :=
  { h with own := Rec.mono (Rec.old h.own) (fun _ hb => ⟨⟨hb.1.1, hb.2⟩, hb.1.2⟩), peer := Rec.mono (Rec.old h.peer) (fun _ hb => ⟨⟨hb.1.1, hb.2⟩, hb.1.2⟩), must := Rec.mono (Rec.old h.must) (fun _ hb => ⟨⟨hb.1.1, hb.2⟩, hb.1.2⟩),
           mine := Rec.mono (Rec.old h.mine) (fun _ hb => ⟨⟨hb.1.1, hb.2⟩, hb.1.2⟩), theirs := Rec.mono (Rec.old h.theirs) (fun _ hb => ⟨⟨hb.1.1, hb.2⟩, hb.1.2⟩), s1 := ⟨h.s1, h.nlt⟩, s2 := ⟨h.s2, h.alt⟩, s3 := ⟨h.s3, h.rlt⟩ }

/-- Its struct turns, and no more. -/
theorem NegAt.turn (h : NegAt w S B C st X) (hk : Keep (fun b => b = B.nb) w w') (hb : w'.heap[B.nb]? = some (.cells (negCells B C st' X') 190 (0, 0)))
    (hX : X'.own = X.own ∧ X'.peer = X.peer ∧ X'.must = X.must ∧ X'.req = X.req) (hs : st'.s = st.s ∧ st'.c = st.c ∧ st'.req = st.req) (hid : 0 ≤ st'.id ∧ st'.id < 256)
    (hm : Opts w' (B.r (Grow S w)) X'.mine st'.mine) (ht : Opts w' (B.r (Grow S w)) X'.theirs st'.theirs) (lm : st'.mine.length ≤ 1000000) (lt : st'.theirs.length ≤ 1000000) (has : st'.asked = st.asked ∨ (0 ≤ st'.asked ∧ st'.asked < 256) := by exact Or.inl rfl) : NegAt w' (Grow S w) B C st' X' := by
  have g : ∀ b, B.r S b → B.r (Grow S w) b := fun b hb => ⟨.inl hb.1, hb.2⟩
  have hn : ∀ b, b < w.heap.size → B.r S b → ¬ (b = B.nb) := fun b _ hb he => hb.2 (.inl he)
  obtain ⟨x1, x2, x3, x4⟩ := hX
  obtain ⟨e1, e2, e3⟩ := hs
  exact { blk := hb, aut := by rw [e1, e2]; exact h.aut.keep hk (fun he => h.ne1 he.symm), own := by rw [x1]; exact Rec.mono (Rec.keep h.own hk hn) g, peer := by rw [x2]; exact Rec.mono (Rec.keep h.peer hk hn) g,
          must := by rw [x3]; exact Rec.mono (Rec.keep h.must hk hn) g, req := by rw [x4, e3]; exact h.req.keep hk (fun k hk' he => h.ne2 ((h.rq k hk').symm.trans he)), rq := by rw [x4]; exact h.rq, mine := hm, theirs := ht,
          ne1 := h.ne1, ne2 := h.ne2, ne3 := h.ne3, rlt := Nat.lt_of_lt_of_le h.rlt hk.size, s1 := .inl h.s1, s2 := .inl h.s2, s3 := .inl h.s3, ok := h.ok, id := hid, ak := has.elim (fun e => by rw [e]; exact h.ak) (fun h => h), ib := by rw [e2]; exact h.ib, ss := by rw [e1]; exact h.ss, lr := by rw [e3]; exact h.lr, lm := lm, lt := lt }
theorem NegAt.mine' (h : NegAt w S B C st X) (hk : Keep (fun b => b = B.nb) w w') : Opts w' (B.r (Grow S w)) X.mine st.mine :=
  Rec.mono (Rec.keep h.mine hk (fun _ _ hb he => hb.2 (.inl he))) (fun _ hb => ⟨.inl hb.1, hb.2⟩)
theorem NegAt.theirs' (h : NegAt w S B C st X) (hk : Keep (fun b => b = B.nb) w w') : Opts w' (B.r (Grow S w)) X.theirs st.theirs :=
  Rec.mono (Rec.keep h.theirs hk (fun _ _ hb he => hb.2 (.inl he))) (fun _ hb => ⟨.inl hb.1, hb.2⟩)

/-- Its automaton turns, and no more. -/
theorem NegAt.auto (h : NegAt w S B C st X) (hk : Keep (fun b => b = B.ab) w w') (s c : Int) (ha : AutoAt w' B.ab s c C.cf C.tm) (hc : InB c) (hs : 0 ≤ s ∧ s ≤ 9) : NegAt w' S B C { st with s := s, c := c } X := by
  have hn : ∀ b, b < w.heap.size → B.r S b → ¬ (b = B.ab) := fun b _ hb he => hb.2 (.inr (.inl he))
  exact { h with blk := (hk.block _ h.nlt h.ne1).trans h.blk, aut := ha, own := Rec.keep h.own hk hn, peer := Rec.keep h.peer hk hn, must := Rec.keep h.must hk hn,
                 req := h.req.keep hk (fun k hk' he => h.ne3 ((h.rq k hk').symm.trans he)), mine := Rec.keep h.mine hk hn, theirs := Rec.keep h.theirs hk hn, rlt := Nat.lt_of_lt_of_le h.rlt hk.size, ib := hc, ss := hs }
end

/-! ### Packets -/
structure Pk where
  code : Int
  id : Int
  o : List Opt
  d : ByteArray
def noB : ByteArray := ⟨#[]⟩
def pkCells (p : Pk × Value) : List Value := [.int .i64 p.1.code, .int .i64 p.1.id, p.2, .string p.1.d]
def pkL (L : List (Pk × Value)) : List (List Value) := L.map pkCells
theorem pkL_k (l : List (Pk × Value)) : ∀ x ∈ pkL l, x.length = 4 := by
  intro x hx; simp only [pkL, List.mem_map] at hx; obtain ⟨o, _, rfl⟩ := hx; rfl
theorem pkL_len (l : List (Pk × Value)) : (pkL l).length = l.length := by simp [pkL]
theorem pkL_app (a b : List (Pk × Value)) : (pkL (a ++ b)).flatten = (pkL a).flatten ++ (pkL b).flatten := by simp [pkL]

/-- A row of packets of one's own, and the rows of their options. -/
def PRow (w : World) (base : Nat) (v : Value) (L : List (Pk × Value)) : Prop := w.ownsRow base 93 4 v L.length (pkL L).flatten
def POpts (w : World) (ok : Nat → Prop) (L : List (Pk × Value)) : Prop := ∀ p ∈ L, Opts w ok p.2 p.1.o
def PksAt (w : World) (ok : Nat → Prop) (base : Nat) (v : Value) (l : List Pk) : Prop := ∃ L, L.map Prod.fst = l ∧ PRow w base v L ∧ POpts w ok L

theorem PRow.nil (w : World) (B : Nat) : PRow w B (.slice none 0 0) [] := World.ownsRow_nil _ _ _ _
theorem PRow.keep {w w' : World} {B : Nat} {v : Value} {l : List (Pk × Value)} {T : Nat → Prop} (h : PRow w B v l) (hk : Keep T w w') (hT : ∀ k, v.ownBlock = some k → ¬ T k) : PRow w' B v l := by
  obtain ⟨h0, h | ⟨g, cap, cur, hv, h1, h2, h3⟩⟩ := h
  · exact ⟨h0, Or.inl h⟩
  · have hlt := (Array.getElem?_eq_some_iff.1 h2).1
    exact ⟨h0, Or.inr ⟨g, cap, cur, hv, h1, (hk.block g hlt (hT g (by rw [hv]; rfl))).trans h2, h3⟩⟩
theorem PRow.below {w w' : World} {B : Nat} {v : Value} {l : List (Pk × Value)} (h : PRow w B v l) (hb : Below w.heap.size w w') : PRow w' B v l := h.keep (Keep.of_below (fun _ => False) hb) (fun _ _ h => h)
theorem PRow.lt {w : World} {B : Nat} {v : Value} {l : List (Pk × Value)} (h : PRow w B v l) : ∀ k, v.ownBlock = some k → k < w.heap.size ∧ B ≤ k := by
  intro k hk
  have := World.ownsRow.lt h k hk
  exact ⟨this.2, this.1⟩
theorem PRow.base {w : World} {B B' : Nat} {v : Value} {l : List (Pk × Value)} (h : PRow w B v l) (hB : B' ≤ B) : PRow w B' v l := by
  obtain ⟨h0, h | ⟨g, cap, cur, hv, h1, h3⟩⟩ := h
  · exact ⟨h0, Or.inl h⟩
  · exact ⟨h0, Or.inr ⟨g, cap, cur, hv, Nat.le_trans hB h1, h3⟩⟩
theorem PRow.form {w : World} {B : Nat} {v : Value} {l : List (Pk × Value)} (h : PRow w B v l) : ∃ sa sc, v = .slice sa l.length sc := by
  obtain ⟨_, ⟨h, hn⟩ | ⟨g, cp, cur, hv, _⟩⟩ := h
  · exact ⟨none, 0, by rw [h, hn]⟩
  · exact ⟨_, _, hv⟩
theorem POpts.keep {w w' : World} {ok T : Nat → Prop} {L : List (Pk × Value)} (h : POpts w ok L) (hk : Keep T w w') (hT : ∀ b, b < w.heap.size → ok b → ¬ T b) : POpts w' ok L := fun p hp => Rec.keep (h p hp) hk hT
theorem POpts.mono {w : World} {ok ok' : Nat → Prop} {L : List (Pk × Value)} (h : POpts w ok L) (hT : ∀ b, ok b → ok' b) : POpts w ok' L := fun p hp => Rec.mono (h p hp) hT
theorem PksAt.form {w : World} {ok : Nat → Prop} {base : Nat} {v : Value} {l : List Pk} (h : PksAt w ok base v l) : ∃ sa sc, v = .slice sa l.length sc := by
  obtain ⟨L, rfl, hr, -⟩ := h
  rw [List.length_map]; exact hr.form
theorem PksAt.nil (w : World) (ok : Nat → Prop) (base : Nat) : PksAt w ok base (.slice none 0 0) [] := ⟨[], rfl, PRow.nil _ _, fun _ h => by cases h⟩
theorem PksAt.keep {w w' : World} {ok T : Nat → Prop} {base : Nat} {v : Value} {l : List Pk} (h : PksAt w ok base v l) (hk : Keep T w w') (hT : ∀ b, b < w.heap.size → (ok b ∨ base ≤ b) → ¬ T b) : PksAt w' ok base v l := by
  obtain ⟨L, e, hr, ho⟩ := h
  exact ⟨L, e, hr.keep hk (fun k hk => hT k (hr.lt k hk).1 (.inr (hr.lt k hk).2)), ho.keep hk (fun b hb h => hT b hb (.inl h))⟩

/-! ### What is said -/
structure Came where
  is : Bool
  p : Pk
  code : Int
  ans : List Opt
def noCame : Came := ⟨false, ⟨0, 0, [], noB⟩, 0, []⟩
def cameV (c : Came) (po pa : Value) : Value := .agg #[.bool c.is, .int .i64 c.p.code, .int .i64 c.p.id, po, .string c.p.d, .int .i64 c.code, pa]
def pkV (p : Pk) (po : Value) : Value := .agg #[.int .i64 p.code, .int .i64 p.id, po, .string p.d]
def nid (x : Int) : Int := (x + 1) % 256
theorem nid_bd (x : Int) : 0 ≤ nid x ∧ nid x < 256 := by
  unfold nid; omega
/-- What refuses a request. -/
def refuseS (C : NegC) (st : NSt) (c : Came) : NSt × Pk :=
  if c.code ≠ 3 then (st, ⟨c.code, c.p.id, c.ans, noB⟩)
  else if 0 < C.fl ∧ C.fl ≤ st.naks then (st, ⟨4, c.p.id, c.p.o.filter fun o => (findO c.ans o.t).isSome, noB⟩)
  else ({ st with naks := wrap64 (st.naks + 1) }, ⟨c.code, c.p.id, c.ans, noB⟩)
def sayS (rej : Pk → ByteArray) (C : NegC) (st : NSt) (a : Int) (c : Came) : NSt × List Pk :=
  if a = 6 then ({ st with ticks := 0, id := nid st.id, asked := nid st.id }, [⟨1, nid st.id, st.req, noB⟩])
  else if a = 7 then ({ st with theirs := c.p.o }, [⟨2, c.p.id, c.p.o, noB⟩])
  else if a = 8 then ((refuseS C st c).1, [(refuseS C st c).2])
  else if a = 9 then ({ st with ticks := 0, id := nid st.id }, [⟨5, nid st.id, [], noB⟩])
  else if a = 10 then (st, [⟨6, if c.is then c.p.id else st.id, [], noB⟩])
  else if a = 11 then ({ st with id := nid st.id }, [⟨7, nid st.id, [], rej c.p⟩])
  else if a = 0 then ({ st with ups := wrap64 (st.ups + 1) }, [])
  else if a = 1 then ({ st with downs := wrap64 (st.downs + 1) }, [])
  else (st, [])
def sayL (rej : Pk → ByteArray) (C : NegC) (c : Came) : NSt → List Int → NSt × List Pk
  | st, [] => (st, [])
  | st, a :: l => ((sayL rej C c (sayS rej C st a c).1 l).1, (sayS rej C st a c).2 ++ (sayL rej C c (sayS rej C st a c).1 l).2)
/-- What a list of actions says. -/
def toldS (rej : Pk → ByteArray) (C : NegC) (st : NSt) (l : List Int) (c : Came) : NSt × List Pk :=
  ((if waitsB (sayL rej C c st l).1.s then (sayL rej C c st l).1 else { (sayL rej C c st l).1 with ticks := 0 }), (sayL rej C c st l).2)
/-- What an event does. -/
def evS (rej : Pk → ByteArray) (C : NegC) (st : NSt) (e : Int) (c : Came) : NSt × List Pk :=
  toldS rej C { st with s := nextS st.s e, c := doC C.cf C.tm (nextL st.s e) (nextL st.s e) st.c } (nextL st.s e) c
end Go.Proofs.YtignponfoheaeaaGreat

namespace Go.Proofs.YtignponfoheaeaaGreat
open Go.RowKit Go.Tg Go.Maps

theorem keep4 (w : World) (b : Nat) (v0 v1 v2 v3 : Value) : Keep (fun k => k = b) w ((((w.setCell ⟨b, 0, none⟩ v0).setCell ⟨b, 1, none⟩ v1).setCell ⟨b, 2, none⟩ v2).setCell ⟨b, 3, none⟩ v3) :=
  ((((Keep.refl (fun k => k = b) w).setCell ⟨b, 0, none⟩ (Or.inr rfl) v0).setCell ⟨b, 1, none⟩ (Or.inr rfl) v1).setCell ⟨b, 2, none⟩ (Or.inr rfl) v2).setCell ⟨b, 3, none⟩ (Or.inr rfl) v3

/-- The box of a Setup. -/
def SetupAt (w : World) (b : Nat) (a o p m : Value) (cf tm fl wt : Int) : Prop := w.heap[b]? = some (.cells #[a, o, p, m, .int .i64 cf, .int .i64 tm, .int .i64 fl, .int .i64 wt] 77 (0, 0))

/-- What a judge of NewBy's own is. -/
def ownJ (jb : Nat) : Value := .func (Fn.func 226) #[] #[.pointer (some ⟨jb, 0, none⟩)]
def JAt (w : World) (jb nb : Nat) : Prop := w.heap[jb]? = some (.cells #[.pointer (some ⟨nb, 0, none⟩)] 82 (0, 0))
/-- A negotiation at its beginning. -/
def st0 (ask : List Opt) : NSt := ⟨0, 0, 0, 0, 0, 0, ask, [], [], 0, 0⟩
def NewAt (w w' : World) (v : Value) (ask : List Opt) (own peer : List Rl) (must : List Int) (cf tm fl wt : Int) : Prop :=
  ∃ B jb, v = .tuple #[.pointer (some ⟨B.nb, 0, none⟩), .int .i64 0] ∧ NegV w' (fun b => w.heap.size ≤ b) B ⟨own, peer, must, cf, tm, fl, wt, ownJ jb⟩ (st0 ask) ∧ JAt w' jb B.nb ∧ w.heap.size ≤ jb ∧ ¬ B.t jb ∧ Below w.heap.size w w'

theorem newBy_end {w w6 w' : World} {nb jb : Nat} {ask : List Opt} {own peer : List Rl} {must : List Int} {q0 q1 q2 q3 q4 : Value} {cf tm fl wt : Int} (h6 : w.heap.size + 1 < w6.heap.size) (hB6 : Below w.heap.size w w6) (hb : Below w6.heap.size w6 w')
    (hr1 : RRow w6 (w.heap.size + 2) q1 own) (hr2 : RRow w6 (w.heap.size + 2) q2 peer) (hr3 : NRow w6 (w.heap.size + 2) q3 must) (hA6 : AutoAt w6 (w.heap.size + 1) 0 0 cf tm) (hr4 : ORow w' w6.heap.size q4 ask)
    (hn4 : ∀ k, q4.ownBlock = some k → k ≠ nb ∧ k ≠ jb)
    (hnb : w'.heap[nb]? = some (.cells #[.pointer (some ⟨w.heap.size + 1, 0, none⟩), q0, q1, q2, q3, .int .i64 cf, .int .i64 tm, .int .i64 fl, .int .i64 wt, ownJ jb, q4, .int .u8 0, .int .u8 0, .int .i64 0, .int .i64 0, .slice none 0 0, .slice none 0 0, .int .i64 0, .int .i64 0] 190 (0, 0)))
    (hjb : JAt w' jb nb) (hne : nb ≠ jb) (h1 : w6.heap.size ≤ nb) (h2 : w6.heap.size ≤ jb)
    (hcf : 1 ≤ cf ∧ cf ≤ 20) (htm : 1 ≤ tm ∧ tm ≤ 20) (hf : 0 ≤ fl ∧ fl ≤ 20) (hw : 1 ≤ wt ∧ wt ≤ 100) (lo : own.length ≤ 1000) (lp : peer.length ≤ 1000) (lm : must.length ≤ 1000) (la : ask.length ≤ 30) :
    NewAt w w' (.tuple #[.pointer (some ⟨nb, 0, none⟩), .int .i64 0]) ask own peer must cf tm fl wt := by
  obtain ⟨rb, hrb⟩ : ∃ rb, rb = q4.ownBlock.getD w.heap.size := ⟨_, rfl⟩
  have hrq : ∀ k, q4.ownBlock = some k → k = rb := fun k hk => by rw [hrb, hk]; rfl
  have hsz := hb.size
  have hrl : rb < w'.heap.size ∧ w.heap.size ≤ rb ∧ rb ≠ nb ∧ rb ≠ jb ∧ rb ≠ w.heap.size + 1 ∧ (rb = w.heap.size ∨ w6.heap.size ≤ rb) := by
    cases hq : q4.ownBlock with
    | none => rw [hq] at hrb; simp only [Option.getD_none] at hrb; subst hrb; refine ⟨by omega, Nat.le_refl _, by omega, by omega, by omega, .inl rfl⟩
    | some k =>
      have h3 := hr4.lt k hq
      have h4 := hn4 k hq
      have h5 := hrq k hq
      subst h5
      exact ⟨h3.1, by omega, h4.1, h4.2, by omega, .inr h3.2⟩
  obtain ⟨e1, e2, e3, e4, e5, e6⟩ := hrl
  have hm : ∀ b, (w.heap.size + 2 ≤ b ∧ b < w6.heap.size) → (NegB.mk nb (w.heap.size + 1) rb).r (fun b => w.heap.size ≤ b) b := by
    intro b hb
    refine ⟨by omega, ?_⟩
    rintro (h | h | h) <;> simp only at h <;> omega
  refine ⟨⟨nb, w.heap.size + 1, rb⟩, jb, rfl, ⟨⟨q0, q1, q2, q3, q4, .slice none 0 0, .slice none 0 0⟩, ?_⟩, hjb, by omega, ?_, hB6.trans (hb.mono (by omega))⟩
  · exact {
      blk := hnb
      aut := hA6.below hb
      own := Rec.mono (Rls.below (Rec.old (hr1.rls (by unfold maxLen; omega))) hb) hm
      peer := Rec.mono (Rls.below (Rec.old (hr2.rls (by unfold maxLen; omega))) hb) hm
      must := Rec.mono (Nums.below (Rec.old (hr3.nums (by unfold maxLen; omega))) hb) hm
      req := hr4.base (Nat.zero_le _)
      rq := hrq
      mine := Rec.nil _ _ _
      theirs := Rec.nil _ _ _
      ne1 := show nb ≠ w.heap.size + 1 by omega
      ne2 := e3
      ne3 := e5
      rlt := e1
      s1 := show w.heap.size ≤ nb by omega
      s2 := show w.heap.size ≤ w.heap.size + 1 by omega
      s3 := e2
      ok := ⟨hcf, htm, hf, hw, lo, lp, lm, rfl, fun h => by cases h⟩
      id := ⟨Int.le_refl 0, show (0 : Int) < 256 by decide⟩
      ak := ⟨Int.le_refl 0, show (0 : Int) < 256 by decide⟩
      ib := show InB 0 from ⟨by decide, by decide⟩
      ss := ⟨Int.le_refl 0, show (0 : Int) ≤ 9 by decide⟩
      lr := la
      lm := Nat.zero_le _
      lt := Nat.zero_le _ }
  · rintro (h | h | h) <;> simp only at h <;> omega

set_option maxHeartbeats 8000000 in
set_option maxRecDepth 100000 in
theorem newBy_ok (ask : List Opt) (own peer : List Rl) (must : List Int) (av ov pv mv : Value) (ok : Nat → Prop) (cf tm fl wt : Int) (w : World) (ha : Opts w ok av ask) (ho : Rls w ok ov own) (hp : Rls w ok pv peer) (hm : Nums w ok mv must)
    (no : ∀ n c, ov = .slice none n c → c = 0) (np : ∀ n c, pv = .slice none n c → c = 0) (lo : own.length ≤ 1000) (lp : peer.length ≤ 1000) (lm : must.length ≤ 1000)
    (hcf : inB20 cf = true) (htm : inB20 tm = true) (hf0 : 0 ≤ fl) (hf1 : fl ≤ 20) (hw0 : 1 ≤ wt) (hw1 : wt ≤ 100) (hav : ∀ o ∈ ask, o.v.size ≤ 100000) (hask : putE ask = 0) (htw : twiceP [] ask = false)
    (hrs : ∀ r ∈ own ++ peer, r.s.size ≤ 100000) (hwr : (own ++ peer).any wrongR = false) :
    Calls Tryz.prog 156 #[.agg #[av, ov, pv, mv, .int .i64 cf, .int .i64 tm, .int .i64 fl, .int .i64 wt], .nilFunc] w fun e w' => ∃ v, e = .returned v ∧ NewAt w w' v ask own peer must cf tm fl wt := by
  have hal : ask.length ≤ 30 := by
    unfold putE at hask
    by_cases h : 30 < ask.length
    · rw [if_pos h] at hask; cases hask
    · omega
  obtain ⟨sa, ca, rfl, hca, hma⟩ := ha.form
  obtain ⟨so, co, rfl, hco, hmo⟩ := ho.form
  obtain ⟨sp, cp, rfl, hcp, hmp⟩ := hp.form
  obtain ⟨sm, cm, rfl, hcm, hmm⟩ := hm.form
  have H := Lib.hid (And.intro ha (And.intro ho (And.intro hp hm)))
  have HN := Lib.hid (And.intro no np)
  have HP := Lib.hid (And.intro hav (And.intro hask (And.intro htw (And.intro hrs hwr))))
  clear ha ho hp hm no np hav hask htw hrs hwr
  have d1 : decide (fl < 0) = false := by simp; omega
  have d2 : decide ((20 : Int) < fl) = false := by simp; omega
  have d3 : decide (wt < 1) = false := by simp; omega
  have d4 : decide ((100 : Int) < wt) = false := by simp; omega
  have HC := Lib.hid (And.intro hcf htm)
  clear hcf htm
  go_enter Tryz.func156, Tryz.ntmps156
  go_wp2_with fail
  refine (new_ok cf tm _ HC.out.1 HC.out.2).mono ?_
  rintro e w1 ⟨rfl, hA, hk⟩
  have hB1 := hk.below (B := w.heap.size + 1) (by rw [alloc1]; omega) (fun _ _ h => h)
  have hbx : SetupAt w1 w.heap.size _ _ _ _ cf tm fl wt := (hB1.block w.heap.size (by omega)).trans (at1 w _)
  have HB1 := Lib.hid (And.intro (((Below.refl w.heap.size w).alloc (Nat.le_refl _) _).trans (hB1.mono (by omega))) (And.intro hbx hA))
  have x0 : w1.cell? ⟨w.heap.size, 0, none⟩ = some _ := cellOf hbx 0 _ rfl
  have x6 : w1.cell? ⟨w.heap.size, 6, none⟩ = some _ := cellOf hbx 6 _ rfl
  have x7 : w1.cell? ⟨w.heap.size, 7, none⟩ = some _ := cellOf hbx 7 _ rfl
  have HPU := Lib.hid (put_any ask _ ok w1 (H.out.1.below HB1.out.1) (by omega) HP.out.1)
  rw [HP.out.2.1] at HPU
  clear hk hB1 hbx hA
  go_wp2_with fail
  refine HPU.out.mono ?_
  rintro e w2 ⟨rfl, hb2⟩
  have hlt1 : w.heap.size < w1.heap.size := (Array.getElem?_eq_some_iff.1 HB1.out.2.1).1
  have hbx : SetupAt w2 w.heap.size _ _ _ _ cf tm fl wt := (hb2.block w.heap.size hlt1).trans HB1.out.2.1
  have hA2 : AutoAt w2 (w.heap.size + 1) 0 0 cf tm := (hb2.block (w.heap.size + 1) (by have := HB1.out.2.2.lt; rw [alloc1] at this; exact this)).trans (by have := HB1.out.2.2; rw [alloc1] at this; exact this)
  have HB2 := Lib.hid (And.intro (HB1.out.1.trans (hb2.mono (by omega))) (And.intro hbx hA2))
  have y0 : w2.cell? ⟨w.heap.size, 0, none⟩ = some _ := cellOf hbx 0 _ rfl
  have HTW := Lib.hid (twice_any ask _ ok w2 (H.out.1.below HB2.out.1) (by omega))
  rw [HP.out.2.2.1] at HTW
  clear hb2 hbx hA2
  go_wp2_with fail
  refine HTW.out.mono ?_
  rintro e w3 ⟨rfl, hb3⟩
  have hlt2 : w.heap.size + 1 < w2.heap.size := HB2.out.2.2.lt
  have hbx : SetupAt w3 w.heap.size _ _ _ _ cf tm fl wt := (hb3.block w.heap.size (by omega)).trans HB2.out.2.1
  have hA3 : AutoAt w3 (w.heap.size + 1) 0 0 cf tm := (hb3.block (w.heap.size + 1) hlt2).trans HB2.out.2.2
  have HB3 := Lib.hid (And.intro (HB2.out.1.trans (hb3.mono (by omega))) (And.intro hbx hA3))
  have t1 : w3.cell? ⟨w.heap.size, 1, none⟩ = some _ := cellOf hbx 1 _ rfl
  have t2 : w3.cell? ⟨w.heap.size, 2, none⟩ = some _ := cellOf hbx 2 _ rfl
  clear hb3 hbx hA3
  go_wp2_with fail
  have hB4 : Below w.heap.size w (w3.alloc (.cells #[.slice so own.length co, .slice sp peer.length cp] 61 (0, 0))) := HB3.out.1.alloc HB3.out.1.size _
  refine (concat_any own peer _ _ ok w3.heap.size _ (H.out.2.1.below hB4) (H.out.2.2.1.below hB4) HN.out.1 HN.out.2 (at1 w3 _) lo lp).mono ?_
  rintro e w4 ⟨v4, rfl, hrow, hb4⟩
  have hlt3 : w.heap.size + 1 < w3.heap.size := HB3.out.2.2.lt
  have hbx : SetupAt w4 w.heap.size _ _ _ _ cf tm fl wt := (hb4.block w.heap.size (by rw [alloc1]; omega)).trans ((Below.heap_alloc _ _ _ (by omega)).trans HB3.out.2.1)
  have hA4 : AutoAt w4 (w.heap.size + 1) 0 0 cf tm := (hb4.block (w.heap.size + 1) (by rw [alloc1]; omega)).trans ((Below.heap_alloc _ _ _ hlt3).trans HB3.out.2.2)
  have hBw4 := hB4.trans (hb4.mono (by rw [alloc1]; omega))
  obtain ⟨s4, c4, hv4⟩ := hrow.form
  subst hv4
  have HW := Lib.hid (containsR_any (own ++ peer) _ _ 223 #[] wrongR w4 (hrow.rls (by rw [List.length_append]; unfold maxLen; omega)) (by rw [List.length_append]; omega) (enters_of Tryz.func223 (by kernel_rfl) rfl) (fun W r hr hW => by
    refine (wrong_any r W (HP.out.2.2.2.1 r hr)).mono ?_
    rintro e w' ⟨rfl, hb⟩
    exact ⟨rfl, hW.trans (hb.mono hW.size)⟩))
  rw [HP.out.2.2.2.2, List.length_append] at HW
  have HB4 := Lib.hid (And.intro hBw4 (And.intro hbx hA4))
  clear hB4 hrow hb4 hbx hA4 hBw4
  go_wp2_with fail
  refine HW.out.mono ?_
  rintro e w5 ⟨rfl, hb5⟩
  have hlt4 : w.heap.size + 1 < w4.heap.size := HB4.out.2.2.lt
  have hbx : SetupAt w5 w.heap.size _ _ _ _ cf tm fl wt := (hb5.block w.heap.size (by omega)).trans HB4.out.2.1
  have hA5 : AutoAt w5 (w.heap.size + 1) 0 0 cf tm := (hb5.block (w.heap.size + 1) hlt4).trans HB4.out.2.2
  have HB5 := Lib.hid (And.intro (HB4.out.1.trans (hb5.mono (by omega))) (And.intro hbx hA5))
  have r0 : w5.cell? ⟨w.heap.size, 0, none⟩ = some _ := cellOf hbx 0 _ rfl
  have r1 : w5.cell? ⟨w.heap.size, 1, none⟩ = some _ := cellOf hbx 1 _ rfl
  have r2 : w5.cell? ⟨w.heap.size, 2, none⟩ = some _ := cellOf hbx 2 _ rfl
  have r3 : w5.cell? ⟨w.heap.size, 3, none⟩ = some _ := cellOf hbx 3 _ rfl
  clear hb5 hbx hA5
  go_wp2_with fail
  have hlt5 : w.heap.size + 1 < w5.heap.size := HB5.out.2.2.lt
  refine wp_region_N 12 (fun W => SetupAt W w.heap.size (.slice sa ask.length ca) (.slice so own.length co) (.slice sp peer.length cp) (.slice sm must.length cm) cf tm fl wt) (by kernel_rfl) ?_
  have HSv : SetupAt w5.drew w.heap.size (.slice sa ask.length ca) (.slice so own.length co) (.slice sp peer.length cp) (.slice sm must.length cm) cf tm fl wt := HB5.out.2.1
  refine wpAnyN_take (i := 0) (oi := { dst := some 62, op := Op.fieldAddr 77 (Operand.tmp 2) 0, type := 0, pos := "neg.go:130", after := #[], guard := none }) (v := .pointer (some ⟨w.heap.size, 0, none⟩)) rfl (by kernel_rfl) (by kernel_rfl) (by kernel_rfl) (fun _ _ _ h => h) (Or.inl ⟨by rfl, ?_⟩) HSv ?_
  · intro W hW
    go_simp
    try with_reducible rfl
  simp only [Act.put, List.setIfInBounds_toArray, List.set_cons_zero, List.set_cons_succ]
  refine wpAnyN_take (i := 1) (oi := { dst := some 63, op := Op.load 62 (Operand.tmp 62), type := 62, pos := "neg.go:130", after := #[{ on := 0, ground := Ground.data }], guard := none }) (v := .slice sa ask.length ca) rfl (by kernel_rfl) (by kernel_rfl) (by kernel_rfl) (fun _ _ _ h => h) (Or.inl ⟨by rfl, ?_⟩) HSv ?_
  · intro W hW
    have h1 := cellOf hW 0 _ rfl
    go_simp
    try with_reducible rfl
  simp only [Act.put, List.setIfInBounds_toArray, List.set_cons_zero, List.set_cons_succ]
  refine wpAnyN_take (i := 3) (oi := { dst := some 65, op := Op.fieldAddr 77 (Operand.tmp 2) 1, type := 0, pos := "neg.go:130", after := #[], guard := none }) (v := .pointer (some ⟨w.heap.size, 1, none⟩)) rfl (by kernel_rfl) (by kernel_rfl) (by kernel_rfl) (fun _ _ _ h => h) (Or.inl ⟨by rfl, ?_⟩) HSv ?_
  · intro W hW
    go_simp
    try with_reducible rfl
  simp only [Act.put, List.setIfInBounds_toArray, List.set_cons_zero, List.set_cons_succ]
  refine wpAnyN_take (i := 4) (oi := { dst := some 66, op := Op.load 61 (Operand.tmp 65), type := 61, pos := "neg.go:130", after := #[{ on := 3, ground := Ground.data }], guard := none }) (v := .slice so own.length co) rfl (by kernel_rfl) (by kernel_rfl) (by kernel_rfl) (fun _ _ _ h => h) (Or.inl ⟨by rfl, ?_⟩) HSv ?_
  · intro W hW
    have h1 := cellOf hW 1 _ rfl
    go_simp
    try with_reducible rfl
  simp only [Act.put, List.setIfInBounds_toArray, List.set_cons_zero, List.set_cons_succ]
  refine wpAnyN_take (i := 6) (oi := { dst := some 68, op := Op.fieldAddr 77 (Operand.tmp 2) 2, type := 0, pos := "neg.go:130", after := #[], guard := none }) (v := .pointer (some ⟨w.heap.size, 2, none⟩)) rfl (by kernel_rfl) (by kernel_rfl) (by kernel_rfl) (fun _ _ _ h => h) (Or.inl ⟨by rfl, ?_⟩) HSv ?_
  · intro W hW
    go_simp
    try with_reducible rfl
  simp only [Act.put, List.setIfInBounds_toArray, List.set_cons_zero, List.set_cons_succ]
  refine wpAnyN_take (i := 7) (oi := { dst := some 69, op := Op.load 61 (Operand.tmp 68), type := 61, pos := "neg.go:130", after := #[{ on := 6, ground := Ground.data }], guard := none }) (v := .slice sp peer.length cp) rfl (by kernel_rfl) (by kernel_rfl) (by kernel_rfl) (fun _ _ _ h => h) (Or.inl ⟨by rfl, ?_⟩) HSv ?_
  · intro W hW
    have h1 := cellOf hW 2 _ rfl
    go_simp
    try with_reducible rfl
  simp only [Act.put, List.setIfInBounds_toArray, List.set_cons_zero, List.set_cons_succ]
  refine wpAnyN_take (i := 9) (oi := { dst := some 71, op := Op.fieldAddr 77 (Operand.tmp 2) 3, type := 0, pos := "neg.go:130", after := #[], guard := none }) (v := .pointer (some ⟨w.heap.size, 3, none⟩)) rfl (by kernel_rfl) (by kernel_rfl) (by kernel_rfl) (fun _ _ _ h => h) (Or.inl ⟨by rfl, ?_⟩) HSv ?_
  · intro W hW
    go_simp
    try with_reducible rfl
  simp only [Act.put, List.setIfInBounds_toArray, List.set_cons_zero, List.set_cons_succ]
  refine wpAnyN_take (i := 10) (oi := { dst := some 72, op := Op.load 43 (Operand.tmp 71), type := 43, pos := "neg.go:130", after := #[{ on := 9, ground := Ground.data }], guard := none }) (v := .slice sm must.length cm) rfl (by kernel_rfl) (by kernel_rfl) (by kernel_rfl) (fun _ _ _ h => h) (Or.inl ⟨by rfl, ?_⟩) HSv ?_
  · intro W hW
    have h1 := cellOf hW 3 _ rfl
    go_simp
    try with_reducible rfl
  simp only [Act.put, List.setIfInBounds_toArray, List.set_cons_zero, List.set_cons_succ]
  have HBc := Lib.hid (Below.refl w5.drew.heap.size w5.drew)
  have hw5 : ∀ W, Below w5.drew.heap.size w5.drew W → Below w.heap.size w W := fun W hW => HB5.out.1.drew.trans (hW.mono (show w.heap.size ≤ w5.heap.size by omega))
  have Hw5 := Lib.hid hw5
  clear hw5
  refine wpAnyN_one (i := 2) (o := { dst := some 64, op := Op.call { callee := Callee.value (Operand.func 165), args := #[Operand.tmp 63], argTypes := #[62] }, type := 62, pos := "neg.go:130", after := #[{ on := 1, ground := Ground.data }], guard := none }) rfl (by kernel_rfl) ?_
  intro K hK
  rw [if_pos (by rfl)]
  try go_simp
  go_at_call 165
  refine (clone_any ask _ ok _ (H.out.1.below (Hw5.out _ HBc.out)) (by omega)).mono ?_
  rintro e W0 ⟨v0, rfl, hr0, hb⟩
  obtain ⟨q0, k0, rfl⟩ := hr0.form
  have HBc := Lib.hid (HBc.out.trans (hb.mono HBc.out.size))
  have HSv : SetupAt W0 w.heap.size (.slice sa ask.length ca) (.slice so own.length co) (.slice sp peer.length cp) (.slice sm must.length cm) cf tm fl wt := (HBc.out.block w.heap.size (show w.heap.size < w5.heap.size by omega)).trans HB5.out.2.1
  have HBW0 := Lib.hid hb
  have Hhr0 := Lib.hid hr0
  clear hb hr0
  refine hK.out _ _ (fun _ => HSv) ?_
  clear hK
  try simp only [Act.put, List.setIfInBounds_toArray, List.set_cons_zero, List.set_cons_succ]
  refine wpAnyN_late (i := 12) (oi := { dst := some 74, op := Op.fieldAddr 77 (Operand.tmp 2) 0, type := 0, pos := "neg.go:130", after := #[{ on := 0, ground := Ground.phase }, { on := 1, ground := Ground.phase }, { on := 2, ground := Ground.phase }, { on := 3, ground := Ground.phase }, { on := 4, ground := Ground.phase }, { on := 5, ground := Ground.textOnly Departure.lateStoresUnsure }, { on := 6, ground := Ground.phase }, { on := 7, ground := Ground.phase }, { on := 8, ground := Ground.textOnly Departure.lateStoresUnsure }, { on := 9, ground := Ground.phase }, { on := 10, ground := Ground.phase }, { on := 11, ground := Ground.textOnly Departure.lateStoresUnsure }], guard := none }) (v := .pointer (some ⟨w.heap.size, 0, none⟩)) rfl (by kernel_rfl) (by kernel_rfl) (by kernel_rfl) (fun _ _ _ h => h) (Or.inl ⟨by rfl, ?_⟩) ?_
  · intro W hW
    go_simp
    try with_reducible rfl
  simp only [Act.put, List.setIfInBounds_toArray, List.set_cons_zero, List.set_cons_succ]
  refine wpAnyN_one (i := 5) (o := { dst := some 67, op := Op.call { callee := Callee.value (Operand.func 224), args := #[Operand.tmp 66], argTypes := #[61] }, type := 61, pos := "neg.go:130", after := #[{ on := 4, ground := Ground.data }, { on := 2, ground := Ground.chain }], guard := none }) rfl (by kernel_rfl) ?_
  intro K hK
  rw [if_pos (by rfl)]
  try go_simp
  go_at_call 224
  refine (cloneR_any own _ ok _ (H.out.2.1.below (Hw5.out _ HBc.out)) (by omega)).mono ?_
  rintro e W1 ⟨v1, rfl, hr1, hb⟩
  obtain ⟨q1, k1, rfl⟩ := hr1.form
  have HBc := Lib.hid (HBc.out.trans (hb.mono HBc.out.size))
  have HSv : SetupAt W1 w.heap.size (.slice sa ask.length ca) (.slice so own.length co) (.slice sp peer.length cp) (.slice sm must.length cm) cf tm fl wt := (HBc.out.block w.heap.size (show w.heap.size < w5.heap.size by omega)).trans HB5.out.2.1
  have HBW1 := Lib.hid hb
  have Hhr1 := Lib.hid hr1
  clear hb hr1
  refine hK.out _ _ (fun _ => HSv) ?_
  clear hK
  try simp only [Act.put, List.setIfInBounds_toArray, List.set_cons_zero, List.set_cons_succ]
  refine wpAnyN_one (i := 8) (o := { dst := some 70, op := Op.call { callee := Callee.value (Operand.func 224), args := #[Operand.tmp 69], argTypes := #[61] }, type := 61, pos := "neg.go:130", after := #[{ on := 7, ground := Ground.data }, { on := 5, ground := Ground.chain }], guard := none }) rfl (by kernel_rfl) ?_
  intro K hK
  rw [if_pos (by rfl)]
  try go_simp
  go_at_call 224
  refine (cloneR_any peer _ ok _ (H.out.2.2.1.below (Hw5.out _ HBc.out)) (by omega)).mono ?_
  rintro e W2 ⟨v2, rfl, hr2, hb⟩
  obtain ⟨q2, k2, rfl⟩ := hr2.form
  have HBc := Lib.hid (HBc.out.trans (hb.mono HBc.out.size))
  have HSv : SetupAt W2 w.heap.size (.slice sa ask.length ca) (.slice so own.length co) (.slice sp peer.length cp) (.slice sm must.length cm) cf tm fl wt := (HBc.out.block w.heap.size (show w.heap.size < w5.heap.size by omega)).trans HB5.out.2.1
  have HBW2 := Lib.hid hb
  have Hhr2 := Lib.hid hr2
  clear hb hr2
  refine hK.out _ _ (fun _ => HSv) ?_
  clear hK
  try simp only [Act.put, List.setIfInBounds_toArray, List.set_cons_zero, List.set_cons_succ]
  refine wpAnyN_one (i := 11) (o := { dst := some 73, op := Op.call { callee := Callee.value (Operand.func 225), args := #[Operand.tmp 72], argTypes := #[43] }, type := 43, pos := "neg.go:130", after := #[{ on := 10, ground := Ground.data }, { on := 8, ground := Ground.chain }], guard := none }) rfl (by kernel_rfl) ?_
  intro K hK
  rw [if_pos (by rfl)]
  try go_simp
  go_at_call 225
  refine (cloneN_any must _ ok _ (H.out.2.2.2.below (Hw5.out _ HBc.out)) (by omega)).mono ?_
  rintro e W3 ⟨v3, rfl, hr3, hb⟩
  obtain ⟨q3, k3, rfl⟩ := hr3.form
  have HBc := Lib.hid (HBc.out.trans (hb.mono HBc.out.size))
  have HSv : SetupAt W3 w.heap.size (.slice sa ask.length ca) (.slice so own.length co) (.slice sp peer.length cp) (.slice sm must.length cm) cf tm fl wt := (HBc.out.block w.heap.size (show w.heap.size < w5.heap.size by omega)).trans HB5.out.2.1
  have HBW3 := Lib.hid hb
  have Hhr3 := Lib.hid hr3
  clear hb hr3
  refine hK.out _ _ (fun _ => HSv) ?_
  clear hK
  try simp only [Act.put, List.setIfInBounds_toArray, List.set_cons_zero, List.set_cons_succ]
  refine wpAnyN_end 13 (by decide) rfl (by kernel_rfl) ?_
  simp only [List.drop_succ_cons, List.drop_zero]
  have z0 : W3.cell? ⟨w.heap.size, 0, none⟩ = some _ := cellOf HSv 0 _ rfl
  have z1 : W3.cell? ⟨w.heap.size, 1, none⟩ = some _ := cellOf HSv 1 _ rfl
  have z2 : W3.cell? ⟨w.heap.size, 2, none⟩ = some _ := cellOf HSv 2 _ rfl
  have z3 : W3.cell? ⟨w.heap.size, 3, none⟩ = some _ := cellOf HSv 3 _ rfl
  have fz : ∀ o, W3.frozen? ⟨w.heap.size, o, none⟩ = false := fun o => fzOf HSv o
  go_wp2_with fail
  have hS6 : SetupAt ((((W3.setCell ⟨w.heap.size, 0, none⟩ (.slice q0 ask.length k0)).setCell ⟨w.heap.size, 1, none⟩ (.slice q1 own.length k1)).setCell ⟨w.heap.size, 2, none⟩ (.slice q2 peer.length k2)).setCell ⟨w.heap.size, 3, none⟩ (.slice q3 must.length k3))
      w.heap.size (.slice q0 ask.length k0) (.slice q1 own.length k1) (.slice q2 peer.length k2) (.slice q3 must.length k3) cf tm fl wt := set_block (set_block (set_block (set_block HSv 0 _) 1 _) 2 _) 3 _
  have hk6 : Keep (fun k => k = w.heap.size) W3 ((((W3.setCell ⟨w.heap.size, 0, none⟩ (.slice q0 ask.length k0)).setCell ⟨w.heap.size, 1, none⟩ (.slice q1 own.length k1)).setCell ⟨w.heap.size, 2, none⟩ (.slice q2 peer.length k2)).setCell ⟨w.heap.size, 3, none⟩ (.slice q3 must.length k3)) :=
    keep4 W3 w.heap.size _ _ _ _
  generalize ((((W3.setCell ⟨w.heap.size, 0, none⟩ (.slice q0 ask.length k0)).setCell ⟨w.heap.size, 1, none⟩ (.slice q1 own.length k1)).setCell ⟨w.heap.size, 2, none⟩ (.slice q2 peer.length k2)).setCell ⟨w.heap.size, 3, none⟩ (.slice q3 must.length k3)) = w6 at hS6 hk6 ⊢
  have hsz : w5.heap.size ≤ W0.heap.size := HBW0.out.size
  have hsz1 := HBW1.out.size
  have hsz2 := HBW2.out.size
  have hsz3 := HBW3.out.size
  have hsz5 : w5.drew.heap.size = w5.heap.size := rfl
  have hr0 : ORow w6 (w.heap.size + 2) (.slice q0 ask.length k0) ask := ((((Hhr0.out.below HBW1.out).below HBW2.out).below HBW3.out).keep hk6 (fun k hk he => by have := (Hhr0.out.lt k hk).2; omega)).base (by omega)
  have hr1 : RRow w6 (w.heap.size + 2) (.slice q1 own.length k1) own := (((Hhr1.out.below HBW2.out).below HBW3.out).keep hk6 (fun k hk he => by have := (Hhr1.out.lt k hk).2; omega)).base (by omega)
  have hr2 : RRow w6 (w.heap.size + 2) (.slice q2 peer.length k2) peer := ((Hhr2.out.below HBW3.out).keep hk6 (fun k hk he => by have := (Hhr2.out.lt k hk).2; omega)).base (by omega)
  have hr3 : NRow w6 (w.heap.size + 2) (.slice q3 must.length k3) must := (Hhr3.out.keep hk6 (fun k hk he => by have := (Hhr3.out.lt k hk).2; omega)).base (by omega)
  have hA6 : AutoAt w6 (w.heap.size + 1) 0 0 cf tm := (hk6.block (w.heap.size + 1) (by omega) (by omega)).trans ((HBc.out.block (w.heap.size + 1) hlt5).trans HB5.out.2.2)
  have hB6 : Below w.heap.size w w6 := (Hw5.out _ HBc.out).trans (hk6.below (by omega) (by omega))
  have hlt6 : w.heap.size + 1 < w6.heap.size := hA6.lt
  have HR := Lib.hid (And.intro hr0 (And.intro hr1 (And.intro hr2 (And.intro hr3 (And.intro hA6 hB6)))))
  have HK : Hid (∀ W, Below w6.heap.size w6 W → W.cell? ⟨w.heap.size, 0, none⟩ = some (.slice q0 ask.length k0) ∧ W.cell? ⟨w.heap.size, 1, none⟩ = some (.slice q1 own.length k1) ∧ W.cell? ⟨w.heap.size, 2, none⟩ = some (.slice q2 peer.length k2) ∧
      W.cell? ⟨w.heap.size, 3, none⟩ = some (.slice q3 must.length k3) ∧ W.cell? ⟨w.heap.size, 4, none⟩ = some (.int .i64 cf) ∧ W.cell? ⟨w.heap.size, 5, none⟩ = some (.int .i64 tm) ∧ W.cell? ⟨w.heap.size, 6, none⟩ = some (.int .i64 fl) ∧ W.cell? ⟨w.heap.size, 7, none⟩ = some (.int .i64 wt)) := Lib.hid fun W hW => by
    have h1 : SetupAt W _ _ _ _ _ cf tm fl wt := (hW.block w.heap.size (by omega)).trans hS6
    exact ⟨cellOf h1 0 _ rfl, cellOf h1 1 _ rfl, cellOf h1 2 _ rfl, cellOf h1 3 _ rfl, cellOf h1 4 _ rfl, cellOf h1 5 _ rfl, cellOf h1 6 _ rfl, cellOf h1 7 _ rfl⟩
  have HC6 := Lib.hid (fun W (hW : Below w6.heap.size w6 W) => clone_any ask _ (fun b => w.heap.size + 2 ≤ b) W ((hr0.opts (by unfold maxLen; omega)).below hW) (by omega))
  obtain ⟨c0, c1, c2, c3, c4, c5, c6, c7⟩ := HK.out w6.drew (Below.refl _ _).drew
  clear HSv hS6 hk6 hr0 hr1 hr2 hr3 hA6 hB6 hsz hsz1 hsz2 hsz3 hsz5 z0 z1 z2 z3 fz HBc Hw5 HBW0 HBW1 HBW2 HBW3 Hhr0 Hhr1 Hhr2 Hhr3 HB5 HB4 HB3 HB2 HB1 HTW HW HPU x0 x6 x7 y0 t1 t2 r0 r1 r2 r3 d1 d2 d3 d4 hlt1 hlt2 hlt3 hlt4 hlt5
  go_region_held3 (fun W => W.cell? ⟨w.heap.size, 0, none⟩ = some (.slice q0 ask.length k0) ∧ W.cell? ⟨w.heap.size, 1, none⟩ = some (.slice q1 own.length k1) ∧ W.cell? ⟨w.heap.size, 2, none⟩ = some (.slice q2 peer.length k2) ∧
      W.cell? ⟨w.heap.size, 3, none⟩ = some (.slice q3 must.length k3) ∧ W.cell? ⟨w.heap.size, 4, none⟩ = some (.int .i64 cf) ∧ W.cell? ⟨w.heap.size, 5, none⟩ = some (.int .i64 tm) ∧ W.cell? ⟨w.heap.size, 6, none⟩ = some (.int .i64 fl) ∧ W.cell? ⟨w.heap.size, 7, none⟩ = some (.int .i64 wt))
    (first
      | exact HK.out _ HB7.out.1
      | exact HK.out _ ((Below.refl _ _).alloc (Nat.le_refl _) _).drew
      | exact HK.out _ ((Below.setCell HB7.out.1 (p := ⟨w6.heap.size, 0, none⟩) (Nat.le_refl _) _).alloc (Below.setCell HB7.out.1 (p := ⟨w6.heap.size, 0, none⟩) (Nat.le_refl _) _).size _)
      | exact HK.out _ ((HB7.out.1.alloc HB7.out.1.size _).alloc (by rw [alloc1]; exact Nat.le_succ_of_le HB7.out.1.size) _)
      | exact HK.out _ (Below.setCell (HB7.out.1.alloc HB7.out.1.size _) (by exact Nat.le_refl _) _)
      | exact HK.out _ (Below.setCell ((HB7.out.1.alloc HB7.out.1.size _).alloc (by rw [alloc1]; exact Nat.le_succ_of_le HB7.out.1.size) _) (by exact HB7.out.1.size) _)
      | exact HK.out _ (Below.setCell ((HB7.out.1.alloc HB7.out.1.size _).alloc (by rw [alloc1]; exact Nat.le_succ_of_le HB7.out.1.size) _) (by exact Nat.le_succ_of_le HB7.out.1.size) _)
      | go_keep)
    (first
      | (go_at_call 165; refine (HC6.out _ (by first | exact (Below.refl _ _).drew | exact ((Below.refl _ _).alloc (Nat.le_refl _) _).drew)).mono ?_; rintro e W4 ⟨v4, rfl, hr4, hb4⟩; obtain ⟨q4, k4, rfl⟩ := hr4.form
         have HB7 := Lib.hid (And.intro (show Below w6.heap.size w6 W4 from Below.trans (by first | exact (Below.refl _ _).drew | exact ((Below.refl _ _).alloc (Nat.le_refl _) _).drew) (hb4.mono (by first | exact Nat.le_refl _ | exact ((Below.refl w6.heap.size w6).alloc (Nat.le_refl _) _).drew.size))) (And.intro hr4 hb4))
         try (have hz4 : W4.heap[w6.heap.size]? = some (.cells #[.pointer none] 82 (0, 0)) := (hb4.block w6.heap.size (by rw [show ((w6.alloc (.cells #[.pointer none] 82 (0, 0))).drew).heap.size = w6.heap.size + 1 from alloc1 _ _]; exact Nat.lt_succ_self _)).trans (at1 w6 _)
              have hlt4 : w6.heap.size < W4.heap.size := (Array.getElem?_eq_some_iff.1 hz4).1
              have hz5 : ∀ X, (W4.alloc X).cell? ⟨w6.heap.size, 0, none⟩ = some (.pointer none) := fun X => cellOf ((Below.heap_alloc _ _ _ hlt4).trans hz4) 0 _ rfl
              have hz6 : ∀ X, (W4.alloc X).frozen? ⟨w6.heap.size, 0, none⟩ = false := fun X => fzOf ((Below.heap_alloc _ _ _ hlt4).trans hz4) 0)
         clear hr4 hb4))
  all_goals have qf : ∀ w, (binOp .eql 188 .nilFunc .nilFunc).run Tryz.prog w = .ok (.bool true) w := fun w => by kernel_rfl
  all_goals try have hz7 : ∀ v X, ((W4.setCell ⟨w6.heap.size, 0, none⟩ v).alloc X).cell? ⟨w6.heap.size, 0, none⟩ = some v := fun v X => cellOf ((Below.heap_alloc _ _ _ (Array.getElem?_eq_some_iff.1 (set_block hz4 0 _)).1).trans (set_block hz4 0 _)) 0 _ rfl
  all_goals go_wp2_with fail
  all_goals go_ret2
  all_goals have hl4 := fun k hk => HB7.out.2.1.lt k hk
  all_goals have hsz4 := HB7.out.2.2.size
  all_goals have h64 := HB7.out.1.size
  all_goals have hcf := inB20_true.1 HC.out.1
  all_goals have htm := inB20_true.1 HC.out.2
  all_goals first
    | exact ⟨_, rfl, newBy_end (by omega) HR.out.2.2.2.2.2 ((HB7.out.1.alloc HB7.out.1.size _).alloc (by rw [alloc1]; omega) _) HR.out.2.1 HR.out.2.2.1 HR.out.2.2.2.1 HR.out.2.2.2.2.1
        (((HB7.out.2.1.base (by first | exact Nat.le_refl _ | (rw [alloc1]; omega))).below ((Below.refl _ _).alloc (Nat.le_refl _) _)).below ((Below.refl _ _).alloc (Nat.le_refl _) _)) (fun k hk => by have := (hl4 k hk).1; omega)
        ((Below.heap_alloc _ _ _ (by rw [alloc1]; omega)).trans (at1 W4 _)) (at21 W4 _ _) (by omega) (by omega) (by omega) hcf htm ⟨hf0, hf1⟩ ⟨hw0, hw1⟩ lo lp lm hal⟩
    | exact ⟨_, rfl, newBy_end (by omega) HR.out.2.2.2.2.2 ((HB7.out.1.alloc HB7.out.1.size _).alloc (by rw [alloc1]; omega) _) HR.out.2.1 HR.out.2.2.1 HR.out.2.2.2.1 HR.out.2.2.2.2.1
        (((HB7.out.2.1.base (by first | exact Nat.le_refl _ | (rw [alloc1]; omega))).below ((Below.refl _ _).alloc (Nat.le_refl _) _)).below ((Below.refl _ _).alloc (Nat.le_refl _) _)) (fun k hk => by have := (hl4 k hk).1; omega)
        (at21 W4 _ _) ((Below.heap_alloc _ _ _ (by rw [alloc1]; omega)).trans (at1 W4 _)) (by omega) (by omega) (by omega) hcf htm ⟨hf0, hf1⟩ ⟨hw0, hw1⟩ lo lp lm hal⟩
    | skip
  · have hszA : (w6.alloc (.cells #[.pointer none] 82 (0, 0))).drew.heap.size = w6.heap.size + 1 := alloc1 _ _
    have hszB : ∀ v, (W4.setCell ⟨w6.heap.size, 0, none⟩ v).heap.size = W4.heap.size := fun v => by simp [World.setCell]
    have hat : ∀ v A, ((W4.setCell ⟨w6.heap.size, 0, none⟩ v).alloc A).heap[W4.heap.size]? = some A := fun v A => by rw [← hszB v]; exact at1 _ A
    refine ⟨_, rfl, newBy_end (by omega) HR.out.2.2.2.2.2 ((Below.setCell HB7.out.1 (p := ⟨w6.heap.size, 0, none⟩) (Nat.le_refl _) _).alloc (by rw [hszB]; omega) _) HR.out.2.1 HR.out.2.2.1 HR.out.2.2.2.1 HR.out.2.2.2.2.1
        (((HB7.out.2.1.keep ((Keep.refl (fun k => k = w6.heap.size) W4).setCell ⟨w6.heap.size, 0, none⟩ (Or.inr rfl) _) (fun k hk he => by have := (hl4 k hk).2; omega)).base (by omega)).below ((Below.refl _ _).alloc (Nat.le_refl _) _)) (fun k hk => by have := hl4 k hk; omega)
        (hat _ _) ((Below.heap_alloc _ _ _ (by rw [hszB]; omega)).trans (set_block hz4 0 _)) (by omega) (by omega) (by omega) hcf htm ⟨hf0, hf1⟩ ⟨hw0, hw1⟩ lo lp lm hal⟩
end Go.Proofs.YtignponfoheaeaaGreat

namespace Go.Proofs.YtignponfoheaeaaGreat
open Go.RowKit Go.Tg Go.Maps

set_option maxHeartbeats 4000000 in
theorem new_at (ask : List Opt) (own peer : List Rl) (must : List Int) (av ov pv mv : Value) (ok : Nat → Prop) (cf tm fl wt : Int) (w : World) (ha : Opts w ok av ask) (ho : Rls w ok ov own) (hp : Rls w ok pv peer) (hm : Nums w ok mv must)
    (no : ∀ n c, ov = .slice none n c → c = 0) (np : ∀ n c, pv = .slice none n c → c = 0) (lo : own.length ≤ 1000) (lp : peer.length ≤ 1000) (lm : must.length ≤ 1000)
    (hcf : inB20 cf = true) (htm : inB20 tm = true) (hf0 : 0 ≤ fl) (hf1 : fl ≤ 20) (hw0 : 1 ≤ wt) (hw1 : wt ≤ 100) (hav : ∀ o ∈ ask, o.v.size ≤ 100000) (hask : putE ask = 0) (htw : twiceP [] ask = false)
    (hrs : ∀ r ∈ own ++ peer, r.s.size ≤ 100000) (hwr : (own ++ peer).any wrongR = false) :
    Calls Tryz.prog 39 #[.agg #[av, ov, pv, mv, .int .i64 cf, .int .i64 tm, .int .i64 fl, .int .i64 wt]] w fun e w' => ∃ v, e = .returned v ∧ NewAt w w' v ask own peer must cf tm fl wt := by
  have hsz : w.heap.size ≤ (w.alloc (.cells #[av, ov, pv, mv, .int .i64 cf, .int .i64 tm, .int .i64 fl, .int .i64 wt] 77 (0, 0))).heap.size := by rw [alloc1]; omega
  have hb : Below w.heap.size w (w.alloc (.cells #[av, ov, pv, mv, .int .i64 cf, .int .i64 tm, .int .i64 fl, .int .i64 wt] 77 (0, 0))) := (Below.refl _ _).alloc (Nat.le_refl _) _
  have hat := at1 w (.cells #[av, ov, pv, mv, .int .i64 cf, .int .i64 tm, .int .i64 fl, .int .i64 wt] 77 (0, 0))
  have H := Lib.hid (newBy_ok ask own peer must av ov pv mv ok cf tm fl wt _ (ha.below hb) (ho.below hb) (hp.below hb) (hm.below hb) no np lo lp lm hcf htm hf0 hf1 hw0 hw1 hav hask htw hrs hwr)
  clear ha ho hp hm no np hav hask htw hrs hwr
  go_enter Tryz.func39, Tryz.ntmps39
  go_wp2_with fail
  refine H.out.mono ?_
  rintro e w1 ⟨v, rfl, B, jb, rfl, h1, h2, h3, h4, h5⟩
  have HB := Lib.hid (And.intro h1 (And.intro h2 (And.intro h3 (And.intro h4 (hb.trans (h5.mono hsz))))))
  clear h1 h2 h3 h4 h5
  go_wp2_with fail
  go_ret2
  exact ⟨_, rfl, B, jb, rfl, HB.out.1.mono (fun b hb => Nat.le_trans hsz hb), HB.out.2.1, Nat.le_trans hsz HB.out.2.2.1, HB.out.2.2.2.1, HB.out.2.2.2.2⟩

set_option maxHeartbeats 400000 in
theorem nnone_at {w : World} {S : Nat → Prop} {B : NegB} {C : NegC} {st : NSt} {X : NegX} (h : NegAt w S B C st X) :
    Calls Tryz.prog 158 #[.pointer (some ⟨B.nb, 0, none⟩)] w fun e w' => e = .returned (.bool false) ∧ w = w' := by
  have h0 : w.cell? ⟨B.nb, 0, none⟩ = some (.pointer (some ⟨B.ab, 0, none⟩)) := h.cell 0
  clear h
  have q1 : ∀ w a, (binOp .eql 82 (.pointer (some a)) (.pointer none)).run Tryz.prog w = .ok (.bool false) w := fun w a => by kernel_rfl
  have q2 : ∀ w a, (binOp .eql 50 (.pointer (some a)) (.pointer none)).run Tryz.prog w = .ok (.bool false) w := fun w a => by kernel_rfl
  go_enter Tryz.func158, Tryz.ntmps158
  go_wp2_with fail
  go_ret
  exact ⟨rfl, rfl⟩

theorem nnone_nil (w : World) : Calls Tryz.prog 158 #[.pointer none] w fun e w' => e = .returned (.bool true) ∧ w = w' := by
  have q1 : ∀ w, (binOp .eql 82 (.pointer none) (.pointer none)).run Tryz.prog w = .ok (.bool true) w := fun w => by kernel_rfl
  go_enter Tryz.func158, Tryz.ntmps158
  go_wp2_with fail
  go_ret
  exact ⟨rfl, rfl⟩

/-- A cell of its struct is written. -/
theorem NegAt.setC {w : World} {S : Nat → Prop} {B : NegB} {C : NegC} {st st' : NSt} {X : NegX} (h : NegAt w S B C st X) (o : Nat) (v : Value) (hv : (negCells B C st X).setIfInBounds o v = negCells B C st' X)
    (hs : st'.s = st.s ∧ st'.c = st.c ∧ st'.req = st.req ∧ st'.mine = st.mine ∧ st'.theirs = st.theirs) (hid : 0 ≤ st'.id ∧ st'.id < 256) (has : st'.asked = st.asked ∨ (0 ≤ st'.asked ∧ st'.asked < 256) := by first | exact Or.inl rfl | exact Or.inr (nid_bd _)) : NegAt (w.setCell ⟨B.nb, o, none⟩ v) S B C st' X := by
  obtain ⟨e1, e2, e3, e4, e5⟩ := hs
  have hk : Keep (fun b => b = B.nb) w (w.setCell ⟨B.nb, o, none⟩ v) := (Keep.refl (fun b => b = B.nb) w).setCell ⟨B.nb, o, none⟩ (Or.inr rfl) v
  have hn : ∀ b, b < w.heap.size → B.r S b → ¬ (b = B.nb) := fun b _ hb he => hb.2 (.inl he)
  exact { blk := by rw [← hv]; exact set_block h.blk o v, aut := by rw [e1, e2]; exact h.aut.keep hk (fun he => h.ne1 he.symm), own := Rec.keep h.own hk hn, peer := Rec.keep h.peer hk hn,
          must := Rec.keep h.must hk hn, req := by rw [e3]; exact h.req.keep hk (fun k hk' he => h.ne2 ((h.rq k hk').symm.trans he)), rq := h.rq, mine := by rw [e4]; exact Rec.keep h.mine hk hn, theirs := by rw [e5]; exact Rec.keep h.theirs hk hn,
          ne1 := h.ne1, ne2 := h.ne2, ne3 := h.ne3, rlt := Nat.lt_of_lt_of_le h.rlt hk.size, s1 := h.s1, s2 := h.s2, s3 := h.s3, ok := h.ok, id := hid, ak := has.elim (fun e => by rw [e]; exact h.ak) (fun h => h), ib := by rw [e2]; exact h.ib, ss := by rw [e1]; exact h.ss,
          lr := by rw [e3]; exact h.lr, lm := by rw [e4]; exact h.lm, lt := by rw [e5]; exact h.lt }
theorem keepC (B : NegB) (w : World) (o : Nat) (v : Value) : Keep (fun b => b = B.nb) w (w.setCell ⟨B.nb, o, none⟩ v) := (Keep.refl (fun b => b = B.nb) w).setCell ⟨B.nb, o, none⟩ (Or.inr rfl) v

set_option maxHeartbeats 400000 in
theorem id_at {w : World} {S : Nat → Prop} {B : NegB} {C : NegC} {st : NSt} {X : NegX} (h : NegAt w S B C st X) :
    Calls Tryz.prog 245 #[.pointer (some ⟨B.nb, 0, none⟩)] w fun e w' => e = .returned (.int .i64 (nid st.id)) ∧ NegAt w' S B C { st with id := nid st.id } X ∧ Keep (fun b => b = B.nb) w w' := by
  have h0 : w.cell? ⟨B.nb, 11, none⟩ = some (.int .u8 st.id) := h.cell 11
  have hf := h.fz 11
  have H := Lib.hid h
  clear h
  go_enter Tryz.func245, Tryz.ntmps245
  go_wp2_with fail
  refine (nnone_at H.out).mono ?_
  rintro e w1 ⟨rfl, rfl⟩
  go_wp2_with fail
  go_ret
  exact ⟨rfl, H.out.setC 11 _ rfl ⟨rfl, rfl, rfl, rfl, rfl⟩ (nid_bd _), keepC B w 11 _⟩
end Go.Proofs.YtignponfoheaeaaGreat

namespace Go.Proofs.YtignponfoheaeaaGreat
open Go.RowKit Go.Tg Go.Maps

theorem pk_info : ∃ i z, Tryz.prog.info? 93 = some i ∧ i.zero = some z ∧ i.size = 4 ∧ i.bytes = 56 ∧ z.cells.size = 4 := by
  have h : (Tryz.prog.info? 93).map (fun i => (i.zero, i.size, i.bytes)) = some (some (.agg #[.int .i64 0, .int .i64 0, .slice none 0 0, .string ⟨#[]⟩]), 4, 56) := by kernel_rfl
  obtain ⟨i, hi, he⟩ := Option.map_eq_some_iff.1 h
  simp only [Prod.mk.injEq] at he
  exact ⟨i, _, hi, he.1, he.2.1, he.2.2, rfl⟩

/-- One packet in a row of its own. -/
theorem PRow.one {w : World} {g base : Nat} (p : Pk) (po : Value) (h : w.heap[g]? = some (.cells #[.int .i64 p.code, .int .i64 p.id, po, .string p.d] 93 (0, 0))) (hb : base ≤ g) : PRow w base (.slice (some ⟨g, 0, none⟩) 1 1) [(p, po)] :=
  ⟨rfl, Or.inr ⟨g, 1, _, rfl, hb, h, Nat.le_refl _, by unfold maxLen; omega, rfl, rfl⟩⟩
theorem PksAt.one {w : World} {ok : Nat → Prop} {g base : Nat} (p : Pk) (po : Value) (h : w.heap[g]? = some (.cells #[.int .i64 p.code, .int .i64 p.id, po, .string p.d] 93 (0, 0))) (hb : base ≤ g) (ho : Opts w ok po p.o) : PksAt w ok base (.slice (some ⟨g, 0, none⟩) 1 1) [p] :=
  ⟨[(p, po)], rfl, PRow.one p po h hb, fun q hq => by simp only [List.mem_singleton] at hq; subst hq; exact ho⟩

/-- What came, in a box. -/
def cameCells (c : Came) (po pa : Value) : Array Value := #[.bool c.is, .int .i64 c.p.code, .int .i64 c.p.id, po, .string c.p.d, .int .i64 c.code, pa]
/-- What came reads: its options, its answer. -/
def CameAt (w : World) (B : NegB) (ok : Nat → Prop) (c : Came) (po pa : Value) : Prop :=
  Opts w ok po c.p.o ∧ Opts w ok pa c.ans ∧ (∀ b, ok b → ¬ B.t b) ∧ c.p.o.length ≤ 1000000 ∧ c.ans.length ≤ 1000000
theorem CameAt.keep {w w' : World} {B : NegB} {ok T : Nat → Prop} {c : Came} {po pa : Value} (h : CameAt w B ok c po pa) (hk : Keep T w w') (hT : ∀ b, T b → B.t b) : CameAt w' B ok c po pa :=
  ⟨Rec.keep h.1 hk (fun b _ hb ht => h.2.2.1 b hb (hT b ht)), Rec.keep h.2.1 hk (fun b _ hb ht => h.2.2.1 b hb (hT b ht)), h.2.2⟩
theorem CameAt.below {w w' : World} {B : NegB} {ok : Nat → Prop} {c : Came} {po pa : Value} (h : CameAt w B ok c po pa) (hb : Below w.heap.size w w') : CameAt w' B ok c po pa := h.keep (Keep.of_below (fun _ => False) hb) (fun _ h => h.elim)

def SayPost (w w' : World) (S ok : Nat → Prop) (B : NegB) (C : NegC) (r : NSt × List Pk) (e : Ending) : Prop :=
  ∃ v, e = .returned v ∧ PksAt w' (Grow ok w) w.heap.size v r.2 ∧ NegV w' (Grow S w) B C r.1 ∧ Keep (fun b => b = B.nb) w w'

section
variable (rej : Pk → ByteArray) {w : World} {S ok : Nat → Prop} {B : NegB} {C : NegC} {st : NSt} {X : NegX} (c : Came) (po pa : Value)

set_option maxHeartbeats 4000000 in
set_option maxRecDepth 100000 in
theorem say6 (h : NegAt w S B C st X) :
    Calls Tryz.prog 227 #[.pointer (some ⟨B.nb, 0, none⟩), .int .i64 6, cameV c po pa] w fun e w' => SayPost w w' S ok B C (sayS rej C st 6 c) e := by
  have hb1 : Below w.heap.size w (w.alloc (.cells #[.bool c.is, .int .i64 c.p.code, .int .i64 c.p.id, po, .string c.p.d, .int .i64 c.code, pa] 183 (0, 0))) := (Below.refl _ _).alloc (Nat.le_refl _) _
  have h1 := h.below hb1
  have f1 := h1.fz 14
  have f0 : (w.alloc (.cells #[.bool c.is, .int .i64 c.p.code, .int .i64 c.p.id, po, .string c.p.d, .int .i64 c.code, pa] 183 (0, 0))).cell? ⟨B.nb, 14, none⟩ = some (.int .i64 st.ticks) := h1.cell 14
  have H1 := Lib.hid (NegAt.setC (st' := { st with ticks := 0 }) h1 14 (.int .i64 0) rfl ⟨rfl, rfl, rfl, rfl, rfl⟩ h.id)
  have HK1 := Lib.hid (keepC B (w.alloc (.cells #[.bool c.is, .int .i64 c.p.code, .int .i64 c.p.id, po, .string c.p.d, .int .i64 c.code, pa] 183 (0, 0))) 14 (.int .i64 0))
  have HB := Lib.hid (And.intro hb1 h)
  have hlr := h.lr
  have es : sayS rej C st 6 c = ({ st with ticks := 0, id := nid st.id, asked := nid st.id }, [⟨1, nid st.id, st.req, noB⟩]) := rfl
  rw [es]
  unfold cameV
  clear hb1 h h1 es
  go_enter Tryz.func227, Tryz.ntmps227
  go_wp2_with fail
  refine (id_at H1.out).mono ?_
  rintro e w2 ⟨rfl, h2, k2⟩
  have f2 := h2.fz 12
  have f3 : w2.cell? ⟨B.nb, 12, none⟩ = some (.int .u8 st.asked) := h2.cell 12
  have ew : IntKind.u8.wrap (nid st.id) = nid st.id := by have := nid_bd st.id; unfold IntKind.wrap; simp [IntKind.bits, IntKind.signed]; omega
  have h3 := NegAt.setC (st' := { st with ticks := 0, id := nid st.id, asked := nid st.id }) h2 12 (.int .u8 (nid st.id)) rfl ⟨rfl, rfl, rfl, rfl, rfl⟩ (nid_bd _)
  have f4 : (w2.setCell ⟨B.nb, 12, none⟩ (.int .u8 (nid st.id))).cell? ⟨B.nb, 10, none⟩ = some X.req := h3.cell 10
  have HC := Lib.hid (clone_any st.req X.req (fun b => 0 ≤ b) _ (h3.req.opts (show st.req.length ≤ maxLen by unfold maxLen; omega)) (by omega))
  have H3 := Lib.hid (And.intro h3 (HK1.out.trans (k2.trans (keepC B w2 12 (.int .u8 (nid st.id))))))
  clear h2 k2 h3
  go_wp2_with fail
  refine HC.out.mono ?_
  rintro e w3 ⟨v, rfl, hr, hb⟩
  obtain ⟨qa, qc, rfl⟩ := hr.form
  have H4 := Lib.hid (And.intro hr hb)
  clear hr hb
  go_wp2_with fail
  go_ret
  have hs3 := H3.out.2.size
  have hs1 := HB.out.1.size
  have hs4 := H4.out.2.size
  refine ⟨_, rfl, PksAt.one ⟨1, nid st.id, st.req, noB⟩ _ (at1 w3 _) (by omega) ?_, ⟨X, ?_⟩, ?_⟩
  · exact Rec.mono (Opts.below (H4.out.1.opts (by unfold maxLen; omega)) ((Below.refl _ _).alloc (Nat.le_refl _) _)) (fun b hb => .inr (by omega))
  · exact ((H3.out.1.below H4.out.2).below ((Below.refl _ _).alloc (Nat.le_refl _) _)).mono (fun _ h => .inl h)
  · exact (((Keep.of_below _ HB.out.1).trans H3.out.2).trans (Keep.of_below _ H4.out.2)).alloc _
end
end Go.Proofs.YtignponfoheaeaaGreat

namespace Go.Proofs.YtignponfoheaeaaGreat
open Go.RowKit Go.Tg Go.Maps

section
variable (rej : Pk → ByteArray) {w : World} {S ok : Nat → Prop} {B : NegB} {C : NegC} {st : NSt} {X : NegX} (c : Came) (po pa : Value)

set_option maxHeartbeats 4000000 in
set_option maxRecDepth 100000 in
theorem say7 (h : NegAt w S B C st X) (hc : CameAt w B ok c po pa) :
    Calls Tryz.prog 227 #[.pointer (some ⟨B.nb, 0, none⟩), .int .i64 7, cameV c po pa] w fun e w' => SayPost w w' S ok B C (sayS rej C st 7 c) e := by
  obtain ⟨sa, sc, rfl, hc1, hc2⟩ := hc.1.form
  have hb1 : Below w.heap.size w (w.alloc (.cells #[.bool c.is, .int .i64 c.p.code, .int .i64 c.p.id, (.slice sa c.p.o.length sc), .string c.p.d, .int .i64 c.code, pa] 183 (0, 0))) := (Below.refl _ _).alloc (Nat.le_refl _) _
  have h1 := h.below hb1
  have hz := at1 w (.cells #[.bool c.is, .int .i64 c.p.code, .int .i64 c.p.id, (.slice sa c.p.o.length sc), .string c.p.d, .int .i64 c.code, pa] 183 (0, 0))
  have hC1 := hc.below hb1
  have HC := Lib.hid (clone_any c.p.o _ ok _ hC1.1 hc.2.2.2.1)
  have HB := Lib.hid (And.intro hb1 (And.intro h1 (And.intro hC1 (And.intro hz h.nlt))))
  have es : sayS rej C st 7 c = ({ st with theirs := c.p.o }, [⟨2, c.p.id, c.p.o, noB⟩]) := rfl
  rw [es]
  unfold cameV
  clear hb1 h h1 es hc hC1 hz
  go_enter Tryz.func227, Tryz.ntmps227
  go_wp2_with fail
  refine HC.out.mono ?_
  rintro e w2 ⟨v, rfl, hr, hb⟩
  obtain ⟨qa, qc, rfl⟩ := hr.form
  have h2 := HB.out.2.1.below hb
  have f2 := h2.fz 16
  have f3 : w2.cell? ⟨B.nb, 16, none⟩ = some X.theirs := h2.cell 16
  have H2 := Lib.hid (And.intro hr (And.intro hb h2))
  clear hr hb h2
  go_wp2_with fail
  have hk3 := (Keep.of_below (fun b => b = B.nb) H2.out.2.1).trans (keepC B w2 16 (.slice qa c.p.o.length qc))
  have hC3 := HB.out.2.2.1.keep hk3 (fun b hb => .inl hb)
  have hlt : w.heap.size < (w.alloc (.cells #[.bool c.is, .int .i64 c.p.code, .int .i64 c.p.id, (.slice sa c.p.o.length sc), .string c.p.d, .int .i64 c.code, pa] 183 (0, 0))).heap.size := by rw [alloc1]; omega
  have hz3 := (hk3.block w.heap.size hlt (fun he => by have := HB.out.2.2.2.2; omega)).trans HB.out.2.2.2.1
  have hr3 : ORow (w2.setCell ⟨B.nb, 16, none⟩ (.slice qa c.p.o.length qc)) (w.heap.size + 1) (.slice qa c.p.o.length qc) c.p.o := (H2.out.1.keep (keepC B w2 16 (.slice qa c.p.o.length qc)) (fun k hk he => by have := (H2.out.1.lt k hk).2; rw [alloc1] at this; have := HB.out.2.2.2.2; omega)).base (by rw [alloc1]; omega)
  have hb3 := (keepC B w2 16 (.slice qa c.p.o.length qc))
  have hz4 : (w2.setCell ⟨B.nb, 16, none⟩ (.slice qa c.p.o.length qc)).heap[B.nb]? = _ := set_block H2.out.2.2.blk 16 (.slice qa c.p.o.length qc)
  generalize hw3 : w2.setCell ⟨B.nb, 16, none⟩ (.slice qa c.p.o.length qc) = w3 at hk3 hC3 hz3 hr3 hb3 hz4 ⊢
  have hlt3 : w.heap.size < w3.heap.size := (Array.getElem?_eq_some_iff.1 hz3).1
  have H3 := Lib.hid (And.intro hk3 (And.intro hr3 (And.intro hb3 hz4)))
  have HS : Hid (∀ W, Below w3.heap.size w3 W → W.cell? ⟨w.heap.size, 2, none⟩ = some (.int .i64 c.p.id) ∧ W.cell? ⟨w.heap.size, 3, none⟩ = some (.slice sa c.p.o.length sc)) := Lib.hid fun W hW =>
    ⟨cellOf ((hW.block _ hlt3).trans hz3) 2 _ rfl, cellOf ((hW.block _ hlt3).trans hz3) 3 _ rfl⟩
  have HC3 := Lib.hid (fun W (hW : Below w3.heap.size w3 W) => clone_any c.p.o _ ok W (hC3.below hW).1 hC3.2.2.2.1)
  obtain ⟨y1, y2⟩ := HS.out w3.drew (Below.refl _ _).drew
  clear hk3 hC3 hz3 hr3 hb3 hz4 HC f2 f3
  go_region_held3 (fun W => W.cell? ⟨w.heap.size, 2, none⟩ = some (.int .i64 c.p.id) ∧ W.cell? ⟨w.heap.size, 3, none⟩ = some (.slice sa c.p.o.length sc))
    (first
      | exact HS.out _ H4.out.2
      | exact HS.out _ (H4.out.2.alloc H4.out.2.size _)
      | go_keep)
    (first
      | (go_at_call 165; refine (HC3.out _ (Below.refl _ _).drew).mono ?_; rintro e w4 ⟨v4, rfl, hr4, hb4⟩; obtain ⟨q4, k4, rfl⟩ := hr4.form; have H4 := Lib.hid (And.intro hr4 (show Below w3.heap.size w3 w4 from Below.trans (Below.refl _ _).drew hb4)); clear hr4 hb4))
  go_wp2_with fail
  go_ret
  have hs1 : (w.alloc (.cells #[.bool c.is, .int .i64 c.p.code, .int .i64 c.p.id, (.slice sa c.p.o.length sc), .string c.p.d, .int .i64 c.code, pa] 183 (0, 0))).heap.size = w.heap.size + 1 := alloc1 _ _
  have hs3 := H3.out.1.size
  have hs4 := H4.out.2.size
  have hlo := HB.out.2.2.1.2.2.2.1
  have ht : Opts w3 (B.r (Grow S (w.alloc (.cells #[.bool c.is, .int .i64 c.p.code, .int .i64 c.p.id, (.slice sa c.p.o.length sc), .string c.p.d, .int .i64 c.code, pa] 183 (0, 0))))) (.slice qa c.p.o.length qc) c.p.o := Rec.mono (H3.out.2.1.opts (by unfold maxLen; omega)) (fun b hb => ⟨.inr (by omega), fun ht => by have := HB.out.2.1.tlt ht; omega⟩)
  have h3 : NegAt w3 (Grow S (w.alloc (.cells #[.bool c.is, .int .i64 c.p.code, .int .i64 c.p.id, (.slice sa c.p.o.length sc), .string c.p.d, .int .i64 c.code, pa] 183 (0, 0)))) B C { st with theirs := c.p.o } { X with theirs := .slice qa c.p.o.length qc } :=
    NegAt.turn HB.out.2.1 H3.out.1 H3.out.2.2.2 ⟨rfl, rfl, rfl, rfl⟩ ⟨rfl, rfl, rfl⟩ HB.out.2.1.id (HB.out.2.1.mine' H3.out.1) ht HB.out.2.1.lm hlo
  refine ⟨_, rfl, PksAt.one ⟨2, c.p.id, c.p.o, noB⟩ _ (at1 w4 _) (by omega) ?_, ⟨_, ((h3.below H4.out.2).below ((Below.refl _ _).alloc (Nat.le_refl _) _)).mono (fun b hb => hb.elim .inl (fun h => .inr (by omega)))⟩, ?_⟩
  · exact Rec.mono (Opts.below (H4.out.1.opts (by unfold maxLen; omega)) ((Below.refl _ _).alloc (Nat.le_refl _) _)) (fun b hb => .inr (show w.heap.size ≤ b by have hb : w3.heap.size ≤ b := hb; omega))
  · exact ((((Keep.of_below _ HB.out.1).trans H3.out.1)).trans (Keep.of_below _ H4.out.2)).alloc _
end
end Go.Proofs.YtignponfoheaeaaGreat

namespace Go.Proofs.YtignponfoheaeaaGreat
open Go.RowKit Go.Tg Go.Maps

section
variable (rej : Pk → ByteArray) {w : World} {S ok : Nat → Prop} {B : NegB} {C : NegC} {st : NSt} {X : NegX} (c : Came) (po pa : Value)

set_option maxHeartbeats 4000000 in
set_option maxRecDepth 100000 in
theorem say9 (h : NegAt w S B C st X) :
    Calls Tryz.prog 227 #[.pointer (some ⟨B.nb, 0, none⟩), .int .i64 9, cameV c po pa] w fun e w' => SayPost w w' S ok B C (sayS rej C st 9 c) e := by
  have hb1 : Below w.heap.size w (w.alloc (.cells #[.bool c.is, .int .i64 c.p.code, .int .i64 c.p.id, po, .string c.p.d, .int .i64 c.code, pa] 183 (0, 0))) := (Below.refl _ _).alloc (Nat.le_refl _) _
  have h1 := h.below hb1
  have f1 := h1.fz 14
  have f0 : (w.alloc (.cells #[.bool c.is, .int .i64 c.p.code, .int .i64 c.p.id, po, .string c.p.d, .int .i64 c.code, pa] 183 (0, 0))).cell? ⟨B.nb, 14, none⟩ = some (.int .i64 st.ticks) := h1.cell 14
  have H1 := Lib.hid (NegAt.setC (st' := { st with ticks := 0 }) h1 14 (.int .i64 0) rfl ⟨rfl, rfl, rfl, rfl, rfl⟩ h.id)
  have HK1 := Lib.hid (keepC B (w.alloc (.cells #[.bool c.is, .int .i64 c.p.code, .int .i64 c.p.id, po, .string c.p.d, .int .i64 c.code, pa] 183 (0, 0))) 14 (.int .i64 0))
  have HB := Lib.hid hb1
  have es : sayS rej C st 9 c = ({ st with ticks := 0, id := nid st.id }, [⟨5, nid st.id, [], noB⟩]) := rfl
  rw [es]
  unfold cameV
  clear hb1 h h1 es
  go_enter Tryz.func227, Tryz.ntmps227
  go_wp2_with fail
  refine (id_at H1.out).mono ?_
  rintro e w2 ⟨rfl, h2, k2⟩
  have H2 := Lib.hid (And.intro h2 (HK1.out.trans k2))
  clear h2 k2
  go_wp2_with fail
  go_ret
  have hs1 := HB.out.size
  have hs2 := H2.out.2.size
  refine ⟨_, rfl, PksAt.one ⟨5, nid st.id, [], noB⟩ _ (at1 w2 _) (by omega) (Rec.nil _ _ _), ⟨X, ?_⟩, ?_⟩
  · exact (H2.out.1.below ((Below.refl _ _).alloc (Nat.le_refl _) _)).mono (fun _ h => .inl h)
  · exact ((Keep.of_below _ HB.out).trans H2.out.2).alloc _

set_option maxHeartbeats 4000000 in
set_option maxRecDepth 100000 in
theorem say10 (h : NegAt w S B C st X) :
    Calls Tryz.prog 227 #[.pointer (some ⟨B.nb, 0, none⟩), .int .i64 10, cameV c po pa] w fun e w' => SayPost w w' S ok B C (sayS rej C st 10 c) e := by
  have hb1 : Below w.heap.size w (w.alloc (.cells #[.bool c.is, .int .i64 c.p.code, .int .i64 c.p.id, po, .string c.p.d, .int .i64 c.code, pa] 183 (0, 0))) := (Below.refl _ _).alloc (Nat.le_refl _) _
  have h1 := h.below hb1
  have f0 : (w.alloc (.cells #[.bool c.is, .int .i64 c.p.code, .int .i64 c.p.id, po, .string c.p.d, .int .i64 c.code, pa] 183 (0, 0))).cell? ⟨B.nb, 11, none⟩ = some (.int .u8 st.id) := h1.cell 11
  have ew : wrap64 st.id = st.id := by have := h.id; unfold wrap64; omega
  have HB := Lib.hid (And.intro hb1 h1)
  have es : sayS rej C st 10 c = (st, [⟨6, if c.is then c.p.id else st.id, [], noB⟩]) := rfl
  rw [es]
  obtain ⟨is, p, cc, ca⟩ := c
  unfold cameV
  clear hb1 h h1 es
  cases is
  · go_enter Tryz.func227, Tryz.ntmps227
    go_wp2_with fail
    go_ret
    refine ⟨_, rfl, PksAt.one ⟨6, st.id, [], noB⟩ _ (at21 w _ _) (by omega) (Rec.nil _ _ _), ⟨X, ?_⟩, ?_⟩
    · exact (HB.out.2.below ((Below.refl _ _).alloc (Nat.le_refl _) _)).mono (fun _ h => .inl h)
    · exact (Keep.of_below _ HB.out.1).alloc _
  · go_enter Tryz.func227, Tryz.ntmps227
    go_wp2_with fail
    go_ret
    refine ⟨_, rfl, PksAt.one ⟨6, p.id, [], noB⟩ _ (at21 w _ _) (by omega) (Rec.nil _ _ _), ⟨X, ?_⟩, ?_⟩
    · exact (HB.out.2.below ((Below.refl _ _).alloc (Nat.le_refl _) _)).mono (fun _ h => .inl h)
    · exact (Keep.of_below _ HB.out.1).alloc _

set_option maxHeartbeats 4000000 in
set_option maxRecDepth 100000 in
theorem say0 (h : NegAt w S B C st X) :
    Calls Tryz.prog 227 #[.pointer (some ⟨B.nb, 0, none⟩), .int .i64 0, cameV c po pa] w fun e w' => SayPost w w' S ok B C (sayS rej C st 0 c) e := by
  have hb1 : Below w.heap.size w (w.alloc (.cells #[.bool c.is, .int .i64 c.p.code, .int .i64 c.p.id, po, .string c.p.d, .int .i64 c.code, pa] 183 (0, 0))) := (Below.refl _ _).alloc (Nat.le_refl _) _
  have h1 := h.below hb1
  have f1 := h1.fz 17
  have f0 : (w.alloc (.cells #[.bool c.is, .int .i64 c.p.code, .int .i64 c.p.id, po, .string c.p.d, .int .i64 c.code, pa] 183 (0, 0))).cell? ⟨B.nb, 17, none⟩ = some (.int .i64 st.ups) := h1.cell 17
  have H1 := Lib.hid (NegAt.setC (st' := { st with ups := wrap64 (st.ups + 1) }) h1 17 (.int .i64 (wrap64 (st.ups + 1))) rfl ⟨rfl, rfl, rfl, rfl, rfl⟩ h.id)
  have HK1 := Lib.hid (keepC B (w.alloc (.cells #[.bool c.is, .int .i64 c.p.code, .int .i64 c.p.id, po, .string c.p.d, .int .i64 c.code, pa] 183 (0, 0))) 17 (.int .i64 (wrap64 (st.ups + 1))))
  have HB := Lib.hid hb1
  have es : sayS rej C st 0 c = ({ st with ups := wrap64 (st.ups + 1) }, []) := rfl
  rw [es]
  unfold cameV
  clear hb1 h h1 es
  go_enter Tryz.func227, Tryz.ntmps227
  go_wp2_with fail
  go_ret
  exact ⟨_, rfl, PksAt.nil _ _ _, ⟨X, H1.out.mono (fun _ h => .inl h)⟩, (Keep.of_below _ HB.out).trans HK1.out⟩

set_option maxHeartbeats 4000000 in
set_option maxRecDepth 100000 in
theorem say1 (h : NegAt w S B C st X) :
    Calls Tryz.prog 227 #[.pointer (some ⟨B.nb, 0, none⟩), .int .i64 1, cameV c po pa] w fun e w' => SayPost w w' S ok B C (sayS rej C st 1 c) e := by
  have hb1 : Below w.heap.size w (w.alloc (.cells #[.bool c.is, .int .i64 c.p.code, .int .i64 c.p.id, po, .string c.p.d, .int .i64 c.code, pa] 183 (0, 0))) := (Below.refl _ _).alloc (Nat.le_refl _) _
  have h1 := h.below hb1
  have f1 := h1.fz 18
  have f0 : (w.alloc (.cells #[.bool c.is, .int .i64 c.p.code, .int .i64 c.p.id, po, .string c.p.d, .int .i64 c.code, pa] 183 (0, 0))).cell? ⟨B.nb, 18, none⟩ = some (.int .i64 st.downs) := h1.cell 18
  have H1 := Lib.hid (NegAt.setC (st' := { st with downs := wrap64 (st.downs + 1) }) h1 18 (.int .i64 (wrap64 (st.downs + 1))) rfl ⟨rfl, rfl, rfl, rfl, rfl⟩ h.id)
  have HK1 := Lib.hid (keepC B (w.alloc (.cells #[.bool c.is, .int .i64 c.p.code, .int .i64 c.p.id, po, .string c.p.d, .int .i64 c.code, pa] 183 (0, 0))) 18 (.int .i64 (wrap64 (st.downs + 1))))
  have HB := Lib.hid hb1
  have es : sayS rej C st 1 c = ({ st with downs := wrap64 (st.downs + 1) }, []) := rfl
  rw [es]
  unfold cameV
  clear hb1 h h1 es
  go_enter Tryz.func227, Tryz.ntmps227
  go_wp2_with fail
  go_ret
  exact ⟨_, rfl, PksAt.nil _ _ _, ⟨X, H1.out.mono (fun _ h => .inl h)⟩, (Keep.of_below _ HB.out).trans HK1.out⟩

set_option maxHeartbeats 4000000 in
set_option maxRecDepth 100000 in
theorem sayX (a : Int) (ha : a = 2 ∨ a = 3 ∨ a = 4 ∨ a = 5 ∨ a = 12) (h : NegAt w S B C st X) :
    Calls Tryz.prog 227 #[.pointer (some ⟨B.nb, 0, none⟩), .int .i64 a, cameV c po pa] w fun e w' => SayPost w w' S ok B C (sayS rej C st a c) e := by
  have hb1 : Below w.heap.size w (w.alloc (.cells #[.bool c.is, .int .i64 c.p.code, .int .i64 c.p.id, po, .string c.p.d, .int .i64 c.code, pa] 183 (0, 0))) := (Below.refl _ _).alloc (Nat.le_refl _) _
  have HB := Lib.hid (And.intro hb1 (h.below hb1))
  have es : sayS rej C st a c = (st, []) := by rcases ha with rfl | rfl | rfl | rfl | rfl <;> rfl
  rw [es]
  unfold cameV
  clear hb1 h es
  rcases ha with rfl | rfl | rfl | rfl | rfl
  all_goals go_enter Tryz.func227, Tryz.ntmps227
  all_goals go_wp2_with fail
  all_goals go_ret
  all_goals exact ⟨_, rfl, PksAt.nil _ _ _, ⟨X, HB.out.2.mono (fun _ h => .inl h)⟩, Keep.of_below _ HB.out.1⟩
end
end Go.Proofs.YtignponfoheaeaaGreat
