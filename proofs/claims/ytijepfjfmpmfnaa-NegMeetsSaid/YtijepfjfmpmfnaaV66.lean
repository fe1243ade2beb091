import Derived.Test.YtijepfjfmpmfnaaV65
import Derived.Test.YtijepfjfmpmfnaaV57b
/- Two negotiations that hear each other: packets in rows. -/
namespace Go.Proofs.Ytijepfjfmpmfnaa
open Go.RowKit Go.Tg Go.Maps

theorem nextL_len (s e : Int) : (nextL s e).length ≤ 20 := by
  unfold nextL
  cases hf : nextF s e with
  | none => exact Nat.zero_le _
  | some y => exact next_all (fun y => y.2.length ≤ 20) (by decide) (by decide) s e y hf
theorem evS_len (rej : Pk → ByteArray) (C : NegC) (st : NSt) (e : Int) (c : Came) : (evS rej C st e c).2.length ≤ 20 := by
  unfold evS toldS
  exact Nat.le_trans (sayL_len _ _ _ _ _) (nextL_len _ _)
theorem takeS_len (C : NegC) (st : NSt) (p : Pk) : (takeS C st p).2.length ≤ 20 := by
  unfold takeS
  split
  · unfold reqS; split <;> exact evS_len _ _ _ _ _
  · split
    · unfold ackS
      split
      · split
        · exact evS_len _ _ _ _ _
        · exact Nat.zero_le _
      · exact Nat.zero_le _
    · split
      · split
        · split
          · exact evS_len _ _ _ _ _
          · unfold refusedS
            split
            · split <;> exact evS_len _ _ _ _ _
            · exact Nat.zero_le _
        · exact Nat.zero_le _
      · split
        · exact evS_len _ _ _ _ _
        · split
          · exact evS_len _ _ _ _ _
          · split
            · unfold code7S
              split
              · exact Nat.zero_le _
              · exact evS_len _ _ _ _ _
            · exact evS_len _ _ _ _ _

/-- Packets are taken one behind the other. -/
def takeAll (C : NegC) (st : NSt) : List Pk → NSt × List Pk
  | [] => (st, [])
  | p :: l => ((takeAll C (takeS C st p).1 l).1, (takeS C st p).2 ++ (takeAll C (takeS C st p).1 l).2)
theorem takeAll_snoc (C : NegC) : ∀ (l : List Pk) (st : NSt) (p : Pk), takeAll C st (l ++ [p]) = ((takeS C (takeAll C st l).1 p).1, (takeAll C st l).2 ++ (takeS C (takeAll C st l).1 p).2)
  | [], st, p => by simp [takeAll]
  | q :: l, st, p => by simp [takeAll, takeAll_snoc C l]
theorem takeAll_len (C : NegC) : ∀ (l : List Pk) (st : NSt), (takeAll C st l).2.length ≤ 20 * l.length
  | [], _ => Nat.zero_le _
  | p :: l, st => by
    have h1 := takeS_len C st p
    have h2 := takeAll_len C l (takeS C st p).1
    simp only [takeAll, List.length_append, List.length_cons]
    omega

/-- Packets in a row of their own, between lo and hi. -/
structure Bag (w : World) (lo hi : Nat) (v : Value) (l : List Pk) : Prop where
  pk : PksAt w (fun b => lo ≤ b ∧ b < hi) lo v l
  own : ∀ k, v.ownBlock = some k → k < hi
theorem Bag.of {w : World} {lo : Nat} {v : Value} {l : List Pk} (h : PksAt w (fun b => lo ≤ b) lo v l) : Bag w lo w.heap.size v l := by
  obtain ⟨L, h1, h2, h3⟩ := h
  exact ⟨⟨L, h1, h2, fun p hp => Rec.old (h3 p hp)⟩, fun k hk => (h2.lt k hk).1⟩
theorem Bag.keep {w w' : World} {lo hi : Nat} {v : Value} {l : List Pk} {T : Nat → Prop} (h : Bag w lo hi v l) (hk : Keep T w w') (hT : ∀ b, lo ≤ b → b < hi → ¬ T b) : Bag w' lo hi v l := by
  obtain ⟨L, h1, h2, h3⟩ := h.pk
  exact ⟨⟨L, h1, h2.keep hk (fun k hk' => hT k (h2.lt k hk').2 (h.own k hk')), h3.keep hk (fun b _ hb => hT b hb.1 hb.2)⟩, h.own⟩
theorem Bag.at {w : World} {lo hi : Nat} {sa : Option Addr} {n c : Nat} {l : List Pk} (h : Bag w lo hi (.slice sa n c) l) (k : Nat) (hk : k < l.length) (hl : l.length ≤ 1000000) :
    n = l.length ∧ n ≤ c ∧ c ≤ maxLen ∧ ∃ b off po, sa = some ⟨b, off, none⟩ ∧ w.cell? ⟨b, off + k * 4, none⟩ = some (.int .i64 l[k].code) ∧ w.cell? ⟨b, off + k * 4 + 1, none⟩ = some (.int .i64 l[k].id) ∧ w.cell? ⟨b, off + k * 4 + 2, none⟩ = some po ∧ w.cell? ⟨b, off + k * 4 + 3, none⟩ = some (.string l[k].d) ∧
      Opts w (fun b => lo ≤ b ∧ b < hi) po l[k].o := by
  obtain ⟨L, h1, h2, h3⟩ := h.pk
  have hL : L.length = l.length := by rw [← h1, List.length_map]
  have hr : Rec 4 w (fun b => lo ≤ b) (.slice sa n c) (pkL L) := Rec.of_owns h2 (pkL_len L).symm (pkL_k L) (by unfold maxLen; omega)
  obtain ⟨b, off, e, hb, -, hn, hnc, hcm, hc⟩ := hr.at k (by rw [pkL_len]; omega)
  have ek : (pkL L)[k]'(by rw [pkL_len]; omega) = pkCells (L[k]'(by omega)) := by simp [pkL]
  have e1 : l[k] = (L[k]'(by omega)).1 := by subst h1; simp
  have g := fun j u (h : (pkCells (L[k]'(by omega)))[j]? = some u) => hc j u (by rw [ek]; exact h)
  rw [pkL_len, hL] at hn
  rw [e1]
  exact ⟨hn, hnc, hcm, b, off, (L[k]'(by omega)).2, e, g 0 _ rfl, g 1 _ rfl, g 2 _ rfl, g 3 _ rfl, h3 _ (List.getElem_mem _)⟩

theorem NegP.old {w : World} {S : Nat → Prop} {B : NegB} {C : NegC} {st : NSt} {jb : Nat} (h : NegP w S B C st jb) : NegP w (fun b => S b ∧ b < w.heap.size) B C st jb := by
  obtain ⟨⟨X, hX⟩, h1, h2, h3, h4⟩ := h
  exact ⟨⟨X, hX.old⟩, h1, h2, ⟨h3, h1.lt⟩, h4⟩
theorem PksAt.loosen {w : World} {ok ok' : Nat → Prop} {base base' : Nat} {v : Value} {l : List Pk} (h : PksAt w ok base v l) (hb : base' ≤ base) (ho : ∀ b, b < w.heap.size → ok b → ok' b) : PksAt w ok' base' v l := by
  obtain ⟨L, e, h2, h3⟩ := h
  exact ⟨L, e, h2.base hb, fun p hp => Rec.mono (Rec.old (h3 p hp)) (fun b h => ho b h.2 h.1)⟩
theorem Bag.mk' {w : World} {m lu : Nat} {v : Value} {l : List Pk} {ok : Nat → Prop} (h : PksAt w ok lu v l) (hm : m ≤ lu) (ho : ∀ b, b < w.heap.size → ok b → m ≤ b) : Bag w m w.heap.size v l := by
  obtain ⟨L, e, h2, h3⟩ := h
  exact ⟨⟨L, e, h2.base hm, fun p hp => Rec.mono (Rec.old (h3 p hp)) (fun b h => ⟨ho b h.2 h.1, h.2⟩)⟩, fun k hk => (h2.lt k hk).1⟩

/-- One negotiation (the second one) takes what stands in a bag; the answers come into a row of their own. -/
structure ExI (w0 w : World) (S S' : Nat → Prop) (B B' : NegB) (C C' : NegC) (st st' : NSt) (jb jb' : Nat) (m hp : Nat) (pv : Value) (ps : List Pk) (ho : Nat) (ov : Value) (os : List Pk) (lu : Nat) (uv : Value) (us : List Pk) : Prop where
  n1 : NegP w S B C st jb
  n2 : NegP w S' B' C' st' jb'
  pt : Parted w0 w S S' B B'
  bp : Bag w m hp pv ps
  bo : Bag w m ho ov os
  bu : PksAt w (fun b => m ≤ b ∧ uv.ownBlock ≠ some b) lu uv us
  tt : ∀ b, B.t b ∨ B'.t b → b < m
  hh : m ≤ lu ∧ hp ≤ lu ∧ ho ≤ lu ∧ lu ≤ w.heap.size
  nu : ∀ k, uv.ownBlock = some k → ¬ S k ∧ ¬ S' k
section
variable {w0 w w' : World} {S S' : Nat → Prop} {B B' : NegB} {C C' : NegC} {st st' r : NSt} {jb jb' : Nat} {m hp : Nat} {pv : Value} {ps : List Pk} {ho : Nat} {ov : Value} {os : List Pk} {lu : Nat} {uv uv' : Value} {us us' : List Pk}
theorem ExI.start (n1 : NegP w S B C st jb) (n2 : NegP w S' B' C' st' jb') (pt : Parted w0 w S S' B B') (bp : Bag w m hp pv ps) (bo : Bag w m ho ov os) (tt : ∀ b, B.t b ∨ B'.t b → b < m) (hh : m ≤ w.heap.size ∧ hp ≤ w.heap.size ∧ ho ≤ w.heap.size) :
    ExI w0 w S S' B B' C C' st st' jb jb' m hp pv ps ho ov os w.heap.size (.slice none 0 0) [] :=
  ⟨n1, n2, pt, bp, bo, PksAt.nil _ _ _, tt, ⟨hh.1, hh.2.1, hh.2.2, Nat.le_refl _⟩, fun k hk => by cases hk⟩
theorem ExI.own (h : ExI w0 w S S' B B' C C' st st' jb jb' m hp pv ps ho ov os lu uv us) {k : Nat} (hk : uv.ownBlock = some k) : lu ≤ k ∧ k < w.heap.size := by
  obtain ⟨L, _, h2, _⟩ := h.bu
  exact ⟨(h2.lt k hk).2, (h2.lt k hk).1⟩
theorem ExI.taken (h : ExI w0 w S S' B B' C C' st st' jb jb' m hp pv ps ho ov os lu uv us) (h' : NegP w' (Grow S' w) B' C' r jb') (hk : Keep B'.t w w') :
    ExI w0 w' S (fun b => Grow S' w b) B B' C C' st r jb jb' m hp pv ps ho ov os lu uv us where
  n1 := h.n1.keep hk (fun b _ hb => h.pt.d1 b hb)
  n2 := h'
  pt := ⟨h.pt.d1, fun b hb ht => hb.elim (fun hb => h.pt.d2 b hb ht) (fun hb => by have := h.n1.tlt ht; omega), h.pt.n1, fun b hb => hb.elim (h.pt.n2 b) (fun hb => Nat.le_trans h.pt.bl.size hb), h.pt.bl.trans (hk.below h.pt.bl.size (fun b hb ht => by have := h.pt.n2 b (h.n2.ts ht); omega))⟩
  bp := h.bp.keep hk (fun b h1 _ ht => by have := h.tt b (.inr ht); omega)
  bo := h.bo.keep hk (fun b h1 _ ht => by have := h.tt b (.inr ht); omega)
  bu := h.bu.keep hk (fun b _ h1 ht => by have := h.tt b (.inr ht); have := h.hh.1; rcases h1 with h1 | h1 <;> omega)
  tt := h.tt
  hh := ⟨h.hh.1, h.hh.2.1, h.hh.2.2.1, Nat.le_trans h.hh.2.2.2 hk.size⟩
  nu := fun k hk' => ⟨(h.nu k hk').1, fun hg => hg.elim (h.nu k hk').2 (fun hg => by have := h.own hk'; omega)⟩
theorem ExI.app (h : ExI w0 w S S' B B' C C' st st' jb jb' m hp pv ps ho ov os lu uv us) (hk : Keep (fun k => uv.ownBlock = some k) w w') (hr : PksAt w' (fun b => m ≤ b ∧ uv'.ownBlock ≠ some b) lu uv' us') (ho' : uv'.ownBlock = uv.ownBlock ∨ uv'.ownBlock = some w.heap.size) :
    ExI w0 w' (fun b => S b ∧ b < w.heap.size) (fun b => S' b ∧ b < w.heap.size) B B' C C' st st' jb jb' m hp pv ps ho ov os lu uv' us' := by
  have hu : ∀ k, uv.ownBlock = some k → lu ≤ k := fun k hk' => (h.own hk').1
  exact {
    n1 := h.n1.old.keep hk (fun b _ hb he => (h.nu b he).1 hb.1)
    n2 := h.n2.old.keep hk (fun b _ hb he => (h.nu b he).2 hb.1)
    pt := ⟨fun b hb => h.pt.d1 b hb.1, fun b hb => h.pt.d2 b hb.1, fun b hb => h.pt.n1 b hb.1, fun b hb => h.pt.n2 b hb.1, h.pt.bl.trans (hk.below h.pt.bl.size (fun b hb he => by
      have h1 := hu b he
      have h2 := h.tt B.nb (.inl (.inl rfl))
      have h3 := h.pt.n1 B.nb (h.n1.ts (.inl rfl))
      have h4 := h.hh.1
      omega))⟩
    bp := h.bp.keep hk (fun b _ h2 he => by have := hu b he; have := h.hh.2.1; omega)
    bo := h.bo.keep hk (fun b _ h2 he => by have := hu b he; have := h.hh.2.2.1; omega)
    bu := hr
    tt := h.tt
    hh := ⟨h.hh.1, h.hh.2.1, h.hh.2.2.1, Nat.le_trans h.hh.2.2.2 hk.size⟩
    nu := fun k hk' => by
      rcases ho' with ho' | ho'
      · have := h.nu k (by rw [← ho']; exact hk')
        exact ⟨fun hs => this.1 hs.1, fun hs => this.2 hs.1⟩
      · rw [ho'] at hk'; cases hk'
        exact ⟨fun hs => Nat.lt_irrefl _ hs.2, fun hs => Nat.lt_irrefl _ hs.2⟩ }
/-- One packet is taken. -/
theorem ExI.take (h : ExI w0 w S S' B B' C C' st st' jb jb' m hp pv ps ho ov os lu uv us) (p : Pk) (po : Value) (hok : PkOk p) (hpo : Opts w (fun b => m ≤ b ∧ b < hp) po p.o) :
    Calls Try.prog 13 #[.pointer (some ⟨B'.nb, 0, none⟩), pkV p po] w fun e w' => ∃ v, e = .returned v ∧ (∃ L', L'.map Prod.fst = (takeS C' st' p).2 ∧ PRow w' w.heap.size v L' ∧ (∀ q ∈ L', q.2.oneCell' = true) ∧ POpts w' (fun b => m ≤ b ∧ uv.ownBlock ≠ some b) L') ∧ lu ≤ w'.heap.size ∧ ∃ S'', ExI w0 w' S S'' B B' C C' st (takeS C' st' p).1 jb jb' m hp pv ps ho ov os lu uv us := by
  refine (TakeP p po hok h.n2 hpo (fun b hb ht => by have := h.tt b (.inr ht); omega)).mono ?_
  rintro e w' ⟨v, rfl, ⟨L', hL, hr, hopt⟩, hn, hk⟩
  refine ⟨v, rfl, ⟨L', hL, hr, fun q hq => ?_, fun q hq => Rec.mono (hopt q hq) (fun b hb => ?_)⟩, Nat.le_trans h.hh.2.2.2 hk.size, _, h.taken hn hk⟩
  · obtain ⟨sa, sc, e, _, _⟩ := Opts.form (hopt q hq); rw [e]; rfl
  · rcases hb with hb | hb
    · exact ⟨hb.1, fun he => by have := (h.own he).1; have := h.hh.2.1; omega⟩
    · exact ⟨by have := h.hh.1; have := h.hh.2.2.2; omega, fun he => by have := (h.own he).2; omega⟩
/-- The answers are put behind the others. -/
theorem ExI.next (h : ExI w0 w S S' B B' C C' st st' jb jb' m hp pv ps ho ov os lu uv us) {L L' : List (Pk × Value)} (hL : L.map Prod.fst = us) (hL' : L'.map Prod.fst = us') (h1 : POpts w (fun b => m ≤ b ∧ uv.ownBlock ≠ some b) L) (h2 : POpts w (fun b => m ≤ b ∧ uv.ownBlock ≠ some b) L')
    (hr : PRow w' lu uv' (L ++ L')) (hk : Keep (fun k => uv.ownBlock = some k) w w') (ho' : uv'.ownBlock = uv.ownBlock ∨ uv'.ownBlock = some w.heap.size) :
    ∃ S S', ExI w0 w' S S' B B' C C' st st' jb jb' m hp pv ps ho ov os lu uv' (us ++ us') := by
  refine ⟨_, _, h.app hk ⟨L ++ L', by rw [List.map_append, hL, hL'], hr, fun q hq => ?_⟩ ho'⟩
  have hx : Opts w (fun b => m ≤ b ∧ uv.ownBlock ≠ some b) q.2 q.1.o := by
    rcases List.mem_append.1 hq with hq | hq
    · exact h1 q hq
    · exact h2 q hq
  refine Rec.mono (Rec.keep (Rec.old hx) hk (fun b hb hb2 he => hb2.1.2 he)) (fun b hb => ⟨hb.1.1, fun he => ?_⟩)
  rcases ho' with h3 | h3
  · exact hb.1.2 (by rw [← h3]; exact he)
  · rw [h3] at he; cases he; exact Nat.lt_irrefl _ hb.2
theorem ExI.below (h : ExI w0 w S S' B B' C C' st st' jb jb' m hp pv ps ho ov os lu uv us) (hb : Below w.heap.size w w') : ExI w0 w' S S' B B' C C' st st' jb jb' m hp pv ps ho ov os lu uv us :=
  have hk := Keep.of_below (fun _ => False) hb
  ⟨h.n1.below hb, h.n2.below hb, ⟨h.pt.d1, h.pt.d2, h.pt.n1, h.pt.n2, h.pt.bl.trans (hb.mono h.pt.bl.size)⟩, h.bp.keep hk (fun _ _ _ h => h), h.bo.keep hk (fun _ _ _ h => h), h.bu.keep hk (fun _ _ _ h => h), h.tt, ⟨h.hh.1, h.hh.2.1, h.hh.2.2.1, Nat.le_trans h.hh.2.2.2 hb.size⟩, h.nu⟩
end

/-- Two that hear each other: what the first one sent goes to the second one, and the other way. -/
structure Sim where
  x : NSt
  y : NSt
  p : List Pk
  q : List Pk
def xch (C C' : NegC) (s : Sim) : Sim := ⟨(takeAll C s.x s.q).1, (takeAll C' s.y s.p).1, (takeAll C s.x s.q).2, (takeAll C' s.y s.p).2⟩
def sims (C C' : NegC) (s : Sim) : Nat → Sim
  | 0 => s
  | n + 1 => xch C C' (sims C C' s n)
/-- What can be taken. -/
def Sim.Ok (s : Sim) : Prop := s.p.length ≤ 100 ∧ s.q.length ≤ 100 ∧ (∀ p ∈ s.p, PkOk p) ∧ ∀ p ∈ s.q, PkOk p
/-- Between two rounds. -/
def MtI (w0 w : World) (B B' : NegB) (C C' : NegC) (jb jb' m : Nat) (s : Sim) (pv qv : Value) : Prop :=
  ∃ S S' hp hq, NegP w S B C s.x jb ∧ NegP w S' B' C' s.y jb' ∧ Parted w0 w S S' B B' ∧ Bag w m hp pv s.p ∧ Bag w m hq qv s.q ∧ (∀ b, B.t b ∨ B'.t b → b < m) ∧ m ≤ w.heap.size ∧ hp ≤ w.heap.size ∧ hq ≤ w.heap.size
/-- While the second one takes (k packets are taken). -/
def Ex1 (w0 w : World) (B B' : NegB) (C C' : NegC) (st st' : NSt) (jb jb' m hp : Nat) (pv : Value) (ps : List Pk) (ho : Nat) (ov : Value) (os : List Pk) (lu : Nat) (uv : Value) (k : Nat) : Prop :=
  ∃ S S', ExI w0 w S S' B B' C C' st (takeAll C' st' (ps.take k)).1 jb jb' m hp pv ps ho ov os lu uv (takeAll C' st' (ps.take k)).2
section
variable {w0 w w' : World} {B B' : NegB} {C C' : NegC} {st st' r : NSt} {jb jb' : Nat} {m hp : Nat} {pv : Value} {ps : List Pk} {ho : Nat} {ov : Value} {os : List Pk} {lu : Nat} {uv uv' : Value}
theorem MtI.start1 {s : Sim} {qv : Value} (h : MtI w0 w B B' C C' jb jb' m s pv qv) : ∃ hp hq, Ex1 w0 w B B' C C' s.x s.y jb jb' m hp pv s.p hq qv s.q w.heap.size (.slice none 0 0) 0 := by
  obtain ⟨S, S', hp, hq, h1, h2, h3, h4, h5, h6, h7⟩ := h
  exact ⟨hp, hq, S, S', ExI.start h1 h2 h3 h4 h5 h6 h7⟩
theorem Ex1.start2 (h : Ex1 w0 w B B' C C' st st' jb jb' m hp pv ps ho ov os lu uv ps.length) : Ex1 w0 w B' B C' C (takeAll C' st' ps).1 st jb' jb m ho ov os w.heap.size uv (takeAll C' st' ps).2 w.heap.size (.slice none 0 0) 0 := by
  obtain ⟨S, S', h⟩ := h
  rw [List.take_length] at h
  refine ⟨S', S, ExI.start h.n2 h.n1 h.pt.symm h.bo (Bag.mk' h.bu h.hh.1 (fun b _ hb => hb.1)) (fun b hb => h.tt b hb.symm) ⟨Nat.le_trans h.hh.1 h.hh.2.2.2, Nat.le_trans h.hh.2.2.1 h.hh.2.2.2, Nat.le_refl _⟩⟩
theorem Ex1.done (h : Ex1 w0 w B' B C' C st' st jb' jb m hp pv ps ho ov os lu uv ps.length) : MtI w0 w B B' C C' jb jb' m ⟨(takeAll C st ps).1, st', (takeAll C st ps).2, os⟩ uv ov := by
  obtain ⟨S, S', h⟩ := h
  rw [List.take_length] at h
  exact ⟨S', S, _, _, h.n2, h.n1, h.pt.symm, Bag.mk' h.bu h.hh.1 (fun b _ hb => hb.1), h.bo, fun b hb => h.tt b hb.symm, Nat.le_trans h.hh.1 h.hh.2.2.2, Nat.le_refl _, Nat.le_trans h.hh.2.2.1 h.hh.2.2.2⟩
end
end Go.Proofs.Ytijepfjfmpmfnaa
