import Derived.Test.YtidlldfppoelnaaV15
import Derived.Test.YtidlldfppoelnaaTgHeld
/- A negotiation in memory. -/
namespace Go.Proofs.Ytidlldfppoelnaa
open Go.RowKit Go.Tg Go.Maps

/-- S and what is new. -/
def Grow (S : Nat → Prop) (w : World) : Nat → Prop := fun k => S k ∨ w.heap.size ≤ k

/-- What a negotiation was made with. -/
structure NegC where
  own : List Rl
  peer : List Rl
  must : List Int
  cf : Int
  tm : Int
  fl : Int
  wt : Int
  judge : Value

structure NegC.Ok (C : NegC) : Prop where
  cf : 1 ≤ C.cf ∧ C.cf ≤ 20
  tm : 1 ≤ C.tm ∧ C.tm ≤ 20
  fl : 0 ≤ C.fl ∧ C.fl ≤ 20
  wt : 1 ≤ C.wt ∧ C.wt ≤ 100
  own : C.own.length ≤ 1000
  peer : C.peer.length ≤ 1000
  must : C.must.length ≤ 1000
  one : C.judge.oneCell' = true
  jn : C.judge ≠ .nilFunc

/-- How a negotiation stands. -/
structure NSt where
  s : Int
  c : Int
  id : Int
  asked : Int
  naks : Int
  ticks : Int
  req : List Opt
  mine : List Opt
  theirs : List Opt
  ups : Int
  downs : Int

/-- Its blocks: its own struct, its automaton, its request's row. -/
structure NegB where
  nb : Nat
  ab : Nat
  rb : Nat
def NegB.t (B : NegB) (b : Nat) : Prop := b = B.nb ∨ b = B.ab ∨ b = B.rb
def NegB.r (B : NegB) (S : Nat → Prop) (b : Nat) : Prop := S b ∧ ¬ B.t b

structure NegX where
  ask : Value
  own : Value
  peer : Value
  must : Value
  req : Value
  mine : Value
  theirs : Value

def negCells (B : NegB) (C : NegC) (st : NSt) (X : NegX) : Array Value :=
  #[.pointer (some ⟨B.ab, 0, none⟩), X.ask, X.own, X.peer, X.must, .int .i64 C.cf, .int .i64 C.tm, .int .i64 C.fl, .int .i64 C.wt, C.judge, X.req, .int .u8 st.id, .int .u8 st.asked,
    .int .i64 st.naks, .int .i64 st.ticks, X.mine, X.theirs, .int .i64 st.ups, .int .i64 st.downs]

structure NegAt (w : World) (S : Nat → Prop) (B : NegB) (C : NegC) (st : NSt) (X : NegX) : Prop where
  blk : w.heap[B.nb]? = some (.cells (negCells B C st X) 71 (0, 0))
  aut : AutoAt w B.ab st.s st.c C.cf C.tm
  own : Rls w (B.r S) X.own C.own
  peer : Rls w (B.r S) X.peer C.peer
  must : Nums w (B.r S) X.must C.must
  req : ORow w 0 X.req st.req
  rq : ∀ k, X.req.ownBlock = some k → k = B.rb
  mine : Opts w (B.r S) X.mine st.mine
  theirs : Opts w (B.r S) X.theirs st.theirs
  ne1 : B.nb ≠ B.ab
  ne2 : B.rb ≠ B.nb
  ne3 : B.rb ≠ B.ab
  rlt : B.rb < w.heap.size
  s1 : S B.nb
  s2 : S B.ab
  s3 : S B.rb
  ok : C.Ok
  id : 0 ≤ st.id ∧ st.id < 256
  ak : 0 ≤ st.asked ∧ st.asked < 256
  ib : InB st.c
  ss : 0 ≤ st.s ∧ st.s ≤ 9
  lr : st.req.length ≤ 30
  lm : st.mine.length ≤ 1000000
  lt : st.theirs.length ≤ 1000000

def NegV (w : World) (S : Nat → Prop) (B : NegB) (C : NegC) (st : NSt) : Prop := ∃ X, NegAt w S B C st X

theorem Rls.form' {w : World} {ok : Nat → Prop} {v : Value} {l : List Rl} (h : Rls w ok v l) : ∃ sa c, v = .slice sa l.length c ∧ l.length ≤ c ∧ c ≤ maxLen := by
  have := Rec.form h
  rwa [rlL_len] at this

section
variable {w w' : World} {S S' T : Nat → Prop} {B : NegB} {C : NegC} {st st' : NSt} {X X' : NegX}

theorem NegAt.nlt (h : NegAt w S B C st X) : B.nb < w.heap.size := (Array.getElem?_eq_some_iff.1 h.blk).1
theorem NegAt.alt (h : NegAt w S B C st X) : B.ab < w.heap.size := h.aut.lt
theorem NegAt.cell (h : NegAt w S B C st X) (o : Nat) : w.cell? ⟨B.nb, o, none⟩ = (negCells B C st X)[o]? := cell_of_block h.blk o
theorem NegAt.fz (h : NegAt w S B C st X) (o : Nat) : w.frozen? ⟨B.nb, o, none⟩ = false := frozen_of_block h.blk o
theorem NegAt.tlt (h : NegAt w S B C st X) {b : Nat} (hb : B.t b) : b < w.heap.size := by
  rcases hb with rfl | rfl | rfl
  · exact h.nlt
  · exact h.alt
  · exact h.rlt

/-- Nothing of it turns. -/
theorem NegAt.keep (h : NegAt w S B C st X) (hk : Keep T w w') (hT : ∀ b, b < w.heap.size → S b → ¬ T b) : NegAt w' S B C st X where
  blk := (hk.block _ h.nlt (hT _ h.nlt h.s1)).trans h.blk
  aut := h.aut.keep hk (hT _ h.alt h.s2)
  own := Rec.keep h.own hk (fun b hb h => hT b hb h.1)
  peer := Rec.keep h.peer hk (fun b hb h => hT b hb h.1)
  must := Rec.keep h.must hk (fun b hb h => hT b hb h.1)
  req := h.req.keep hk (fun k hk' => by rw [h.rq k hk']; exact hT _ h.rlt h.s3)
  rq := h.rq
  mine := Rec.keep h.mine hk (fun b hb h => hT b hb h.1)
  theirs := Rec.keep h.theirs hk (fun b hb h => hT b hb h.1)
  ne1 := h.ne1
  ne2 := h.ne2
  ne3 := h.ne3
  rlt := Nat.lt_of_lt_of_le h.rlt hk.size
  s1 := h.s1
  s2 := h.s2
  s3 := h.s3
  ok := h.ok
  id := h.id
  ak := h.ak
  ib := h.ib
  ss := h.ss
  lr := h.lr
  lm := h.lm
  lt := h.lt
theorem NegAt.below (h : NegAt w S B C st X) (hb : Below w.heap.size w w') : NegAt w' S B C st X := h.keep (Keep.of_below (fun _ => False) hb) (fun _ _ _ h => h)
theorem NegAt.mono (h : NegAt w S B C st X) (hS : ∀ b, S b → S' b) : NegAt w S' B C st X :=
  { h with own := Rec.mono h.own (fun b hb => ⟨hS b hb.1, hb.2⟩), peer := Rec.mono h.peer (fun b hb => ⟨hS b hb.1, hb.2⟩), must := Rec.mono h.must (fun b hb => ⟨hS b hb.1, hb.2⟩),
           mine := Rec.mono h.mine (fun b hb => ⟨hS b hb.1, hb.2⟩), theirs := Rec.mono h.theirs (fun b hb => ⟨hS b hb.1, hb.2⟩), s1 := hS _ h.s1, s2 := hS _ h.s2, s3 := hS _ h.s3 }
theorem NegV.keep (h : NegV w S B C st) (hk : Keep T w w') (hT : ∀ b, b < w.heap.size → S b → ¬ T b) : NegV w' S B C st := ⟨_, h.choose_spec.keep hk hT⟩
theorem NegV.below (h : NegV w S B C st) (hb : Below w.heap.size w w') : NegV w' S B C st := ⟨_, h.choose_spec.below hb⟩
theorem NegV.mono (h : NegV w S B C st) (hS : ∀ b, S b → S' b) : NegV w S' B C st := ⟨_, h.choose_spec.mono hS⟩
theorem NegV.grow (h : NegV w S B C st) (w' : World) : NegV w (Grow S w') B C st := h.mono (fun _ h => .inl h)

theorem NegAt.old (h : NegAt w S B C st X) : NegAt w (fun b => S b ∧ b < w.heap.size) B C st X :=
  { h with own := Rec.mono (Rec.old h.own) (fun b hb => ⟨⟨hb.1.1, hb.2⟩, hb.1.2⟩), peer := Rec.mono (Rec.old h.peer) (fun b hb => ⟨⟨hb.1.1, hb.2⟩, hb.1.2⟩), must := Rec.mono (Rec.old h.must) (fun b hb => ⟨⟨hb.1.1, hb.2⟩, hb.1.2⟩),
           mine := Rec.mono (Rec.old h.mine) (fun b hb => ⟨⟨hb.1.1, hb.2⟩, hb.1.2⟩), theirs := Rec.mono (Rec.old h.theirs) (fun b hb => ⟨⟨hb.1.1, hb.2⟩, hb.1.2⟩), s1 := ⟨h.s1, h.nlt⟩, s2 := ⟨h.s2, h.alt⟩, s3 := ⟨h.s3, h.rlt⟩ }

/-- Its struct turns, and no more. -/
theorem NegAt.turn (h : NegAt w S B C st X) (hk : Keep (fun b => b = B.nb) w w') (hb : w'.heap[B.nb]? = some (.cells (negCells B C st' X') 71 (0, 0)))
    (hX : X'.own = X.own ∧ X'.peer = X.peer ∧ X'.must = X.must ∧ X'.req = X.req) (hs : st'.s = st.s ∧ st'.c = st.c ∧ st'.req = st.req) (hid : 0 ≤ st'.id ∧ st'.id < 256)
    (hm : Opts w' (B.r (Grow S w)) X'.mine st'.mine) (ht : Opts w' (B.r (Grow S w)) X'.theirs st'.theirs) (lm : st'.mine.length ≤ 1000000) (lt : st'.theirs.length ≤ 1000000) (has : st'.asked = st.asked ∨ (0 ≤ st'.asked ∧ st'.asked < 256) := by exact Or.inl rfl) : NegAt w' (Grow S w) B C st' X' := by
  have g : ∀ b, B.r S b → B.r (Grow S w) b := fun b hb => ⟨.inl hb.1, hb.2⟩
  have hn : ∀ b, b < w.heap.size → B.r S b → ¬ (b = B.nb) := fun b _ hb he => hb.2 (.inl he)
  obtain ⟨x1, x2, x3, x4⟩ := hX
  obtain ⟨e1, e2, e3⟩ := hs
  exact { blk := hb, aut := by rw [e1, e2]; exact h.aut.keep hk (fun he => h.ne1 he.symm), own := by rw [x1]; exact Rec.mono (Rec.keep h.own hk hn) g, peer := by rw [x2]; exact Rec.mono (Rec.keep h.peer hk hn) g,
          must := by rw [x3]; exact Rec.mono (Rec.keep h.must hk hn) g, req := by rw [x4, e3]; exact h.req.keep hk (fun k hk' he => h.ne2 ((h.rq k hk').symm.trans he)), rq := by rw [x4]; exact h.rq, mine := hm, theirs := ht,
          ne1 := h.ne1, ne2 := h.ne2, ne3 := h.ne3, rlt := Nat.lt_of_lt_of_le h.rlt hk.size, s1 := .inl h.s1, s2 := .inl h.s2, s3 := .inl h.s3, ok := h.ok, id := hid, ak := has.elim (fun e => by rw [e]; exact h.ak) (fun h => h), ib := by rw [e2]; exact h.ib, ss := by rw [e1]; exact h.ss, lr := by rw [e3]; exact h.lr, lm := lm, lt := lt }
theorem NegAt.mine' (h : NegAt w S B C st X) (hk : Keep (fun b => b = B.nb) w w') : Opts w' (B.r (Grow S w)) X.mine st.mine :=
  Rec.mono (Rec.keep h.mine hk (fun _ _ hb he => hb.2 (.inl he))) (fun _ hb => ⟨.inl hb.1, hb.2⟩)
theorem NegAt.theirs' (h : NegAt w S B C st X) (hk : Keep (fun b => b = B.nb) w w') : Opts w' (B.r (Grow S w)) X.theirs st.theirs :=
  Rec.mono (Rec.keep h.theirs hk (fun _ _ hb he => hb.2 (.inl he))) (fun _ hb => ⟨.inl hb.1, hb.2⟩)

/-- Its automaton turns, and no more. -/
theorem NegAt.auto (h : NegAt w S B C st X) (hk : Keep (fun b => b = B.ab) w w') (s c : Int) (ha : AutoAt w' B.ab s c C.cf C.tm) (hc : InB c) (hs : 0 ≤ s ∧ s ≤ 9) : NegAt w' S B C { st with s := s, c := c } X := by
  have hn : ∀ b, b < w.heap.size → B.r S b → ¬ (b = B.ab) := fun b _ hb he => hb.2 (.inr (.inl he))
  exact { h with blk := (hk.block _ h.nlt h.ne1).trans h.blk, aut := ha, own := Rec.keep h.own hk hn, peer := Rec.keep h.peer hk hn, must := Rec.keep h.must hk hn,
                 req := h.req.keep hk (fun k hk' he => h.ne3 ((h.rq k hk').symm.trans he)), mine := Rec.keep h.mine hk hn, theirs := Rec.keep h.theirs hk hn, rlt := Nat.lt_of_lt_of_le h.rlt hk.size, ib := hc, ss := hs }
end

/-! ### Packets -/
structure Pk where
  code : Int
  id : Int
  o : List Opt
  d : ByteArray
def noB : ByteArray := ⟨#[]⟩
def pkCells (p : Pk × Value) : List Value := [.int .i64 p.1.code, .int .i64 p.1.id, p.2, .string p.1.d]
def pkL (L : List (Pk × Value)) : List (List Value) := L.map pkCells
theorem pkL_k (l : List (Pk × Value)) : ∀ x ∈ pkL l, x.length = 4 := by
  intro x hx; simp only [pkL, List.mem_map] at hx; obtain ⟨o, _, rfl⟩ := hx; rfl
theorem pkL_len (l : List (Pk × Value)) : (pkL l).length = l.length := by simp [pkL]
theorem pkL_app (a b : List (Pk × Value)) : (pkL (a ++ b)).flatten = (pkL a).flatten ++ (pkL b).flatten := by simp [pkL]

/-- A row of packets of one's own, and the rows of their options. -/
def PRow (w : World) (base : Nat) (v : Value) (L : List (Pk × Value)) : Prop := w.ownsRow base 36 4 v L.length (pkL L).flatten
def POpts (w : World) (ok : Nat → Prop) (L : List (Pk × Value)) : Prop := ∀ p ∈ L, Opts w ok p.2 p.1.o
def PksAt (w : World) (ok : Nat → Prop) (base : Nat) (v : Value) (l : List Pk) : Prop := ∃ L, L.map Prod.fst = l ∧ PRow w base v L ∧ POpts w ok L

theorem PRow.nil (w : World) (B : Nat) : PRow w B (.slice none 0 0) [] := World.ownsRow_nil _ _ _ _
theorem PRow.keep {w w' : World} {B : Nat} {v : Value} {l : List (Pk × Value)} {T : Nat → Prop} (h : PRow w B v l) (hk : Keep T w w') (hT : ∀ k, v.ownBlock = some k → ¬ T k) : PRow w' B v l := by
  obtain ⟨h0, h | ⟨g, cap, cur, hv, h1, h2, h3⟩⟩ := h
  · exact ⟨h0, Or.inl h⟩
  · have hlt := (Array.getElem?_eq_some_iff.1 h2).1
    exact ⟨h0, Or.inr ⟨g, cap, cur, hv, h1, (hk.block g hlt (hT g (by rw [hv]; rfl))).trans h2, h3⟩⟩
theorem PRow.below {w w' : World} {B : Nat} {v : Value} {l : List (Pk × Value)} (h : PRow w B v l) (hb : Below w.heap.size w w') : PRow w' B v l := h.keep (Keep.of_below (fun _ => False) hb) (fun _ _ h => h)
theorem PRow.lt {w : World} {B : Nat} {v : Value} {l : List (Pk × Value)} (h : PRow w B v l) : ∀ k, v.ownBlock = some k → k < w.heap.size ∧ B ≤ k := by
  intro k hk
  have := World.ownsRow.lt h k hk
  exact ⟨this.2, this.1⟩
theorem PRow.base {w : World} {B B' : Nat} {v : Value} {l : List (Pk × Value)} (h : PRow w B v l) (hB : B' ≤ B) : PRow w B' v l := by
  obtain ⟨h0, h | ⟨g, cap, cur, hv, h1, h3⟩⟩ := h
  · exact ⟨h0, Or.inl h⟩
  · exact ⟨h0, Or.inr ⟨g, cap, cur, hv, Nat.le_trans hB h1, h3⟩⟩
theorem PRow.form {w : World} {B : Nat} {v : Value} {l : List (Pk × Value)} (h : PRow w B v l) : ∃ sa sc, v = .slice sa l.length sc := by
  obtain ⟨_, ⟨h, hn⟩ | ⟨g, cp, cur, hv, _⟩⟩ := h
  · exact ⟨none, 0, by rw [h, hn]⟩
  · exact ⟨_, _, hv⟩
theorem POpts.keep {w w' : World} {ok T : Nat → Prop} {L : List (Pk × Value)} (h : POpts w ok L) (hk : Keep T w w') (hT : ∀ b, b < w.heap.size → ok b → ¬ T b) : POpts w' ok L := fun p hp => Rec.keep (h p hp) hk hT
theorem POpts.mono {w : World} {ok ok' : Nat → Prop} {L : List (Pk × Value)} (h : POpts w ok L) (hT : ∀ b, ok b → ok' b) : POpts w ok' L := fun p hp => Rec.mono (h p hp) hT
theorem PksAt.form {w : World} {ok : Nat → Prop} {base : Nat} {v : Value} {l : List Pk} (h : PksAt w ok base v l) : ∃ sa sc, v = .slice sa l.length sc := by
  obtain ⟨L, rfl, hr, -⟩ := h
  rw [List.length_map]; exact hr.form
theorem PksAt.nil (w : World) (ok : Nat → Prop) (base : Nat) : PksAt w ok base (.slice none 0 0) [] := ⟨[], rfl, PRow.nil _ _, fun _ h => by cases h⟩
theorem PksAt.keep {w w' : World} {ok T : Nat → Prop} {base : Nat} {v : Value} {l : List Pk} (h : PksAt w ok base v l) (hk : Keep T w w') (hT : ∀ b, b < w.heap.size → (ok b ∨ base ≤ b) → ¬ T b) : PksAt w' ok base v l := by
  obtain ⟨L, e, hr, ho⟩ := h
  exact ⟨L, e, hr.keep hk (fun k hk => hT k (hr.lt k hk).1 (.inr (hr.lt k hk).2)), ho.keep hk (fun b hb h => hT b hb (.inl h))⟩

/-! ### What is said -/
structure Came where
  is : Bool
  p : Pk
  code : Int
  ans : List Opt
def noCame : Came := ⟨false, ⟨0, 0, [], noB⟩, 0, []⟩
def cameV (c : Came) (po pa : Value) : Value := .agg #[.bool c.is, .int .i64 c.p.code, .int .i64 c.p.id, po, .string c.p.d, .int .i64 c.code, pa]
def pkV (p : Pk) (po : Value) : Value := .agg #[.int .i64 p.code, .int .i64 p.id, po, .string p.d]
def nid (x : Int) : Int := (x + 1) % 256
theorem nid_bd (x : Int) : 0 ≤ nid x ∧ nid x < 256 := by
  unfold nid; omega
/-- What refuses a request. -/
def refuseS (C : NegC) (st : NSt) (c : Came) : NSt × Pk :=
  if c.code ≠ 3 then (st, ⟨c.code, c.p.id, c.ans, noB⟩)
  else if 0 < C.fl ∧ C.fl ≤ st.naks then (st, ⟨4, c.p.id, c.p.o.filter fun o => (findO c.ans o.t).isSome, noB⟩)
  else ({ st with naks := wrap64 (st.naks + 1) }, ⟨c.code, c.p.id, c.ans, noB⟩)
def sayS (rej : Pk → ByteArray) (C : NegC) (st : NSt) (a : Int) (c : Came) : NSt × List Pk :=
  if a = 6 then ({ st with ticks := 0, id := nid st.id, asked := nid st.id }, [⟨1, nid st.id, st.req, noB⟩])
  else if a = 7 then ({ st with theirs := c.p.o }, [⟨2, c.p.id, c.p.o, noB⟩])
  else if a = 8 then ((refuseS C st c).1, [(refuseS C st c).2])
  else if a = 9 then ({ st with ticks := 0, id := nid st.id }, [⟨5, nid st.id, [], noB⟩])
  else if a = 10 then (st, [⟨6, if c.is then c.p.id else st.id, [], noB⟩])
  else if a = 11 then ({ st with id := nid st.id }, [⟨7, nid st.id, [], rej c.p⟩])
  else if a = 0 then ({ st with ups := wrap64 (st.ups + 1) }, [])
  else if a = 1 then ({ st with downs := wrap64 (st.downs + 1) }, [])
  else (st, [])
def sayL (rej : Pk → ByteArray) (C : NegC) (c : Came) : NSt → List Int → NSt × List Pk
  | st, [] => (st, [])
  | st, a :: l => ((sayL rej C c (sayS rej C st a c).1 l).1, (sayS rej C st a c).2 ++ (sayL rej C c (sayS rej C st a c).1 l).2)
/-- What a list of actions says. -/
def toldS (rej : Pk → ByteArray) (C : NegC) (st : NSt) (l : List Int) (c : Came) : NSt × List Pk :=
  ((if waitsB (sayL rej C c st l).1.s then (sayL rej C c st l).1 else { (sayL rej C c st l).1 with ticks := 0 }), (sayL rej C c st l).2)
/-- What an event does. -/
def evS (rej : Pk → ByteArray) (C : NegC) (st : NSt) (e : Int) (c : Came) : NSt × List Pk :=
  toldS rej C { st with s := nextS st.s e, c := doC C.cf C.tm (nextL st.s e) (nextL st.s e) st.c } (nextL st.s e) c
end Go.Proofs.Ytidlldfppoelnaa
