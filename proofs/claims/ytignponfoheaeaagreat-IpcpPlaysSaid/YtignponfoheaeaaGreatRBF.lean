import Derived.Test.YtignponfoheaeaaGreatRAZ
import Derived.Test.YtignponfoheaeaaGreatRBB
import Derived.Test.YtignponfoheaeaaGreatRBE
import Derived.Test.YtignponfoheaeaaGreatRAV
set_option linter.unusedVariables false
set_option linter.unusedSimpArgs false
set_option maxHeartbeats 16000000
namespace Go.Proofs.YtignponfoheaeaaGreat
open Go.RowKit Go.Tg Go.Maps
def LightS (ask : List Opt) (own peer : List Rl) (must : List Int) : Prop := (ask.length <= 50 /\ ∀ o ∈ ask, o.v.size <= 400) /\ (own.length <= 40 /\ ∀ o ∈ own, o.s.size <= 400) /\ (peer.length <= 40 /\ ∀ o ∈ peer, o.s.size <= 400) /\ must.length <= 40
def BV (D E : KD) (bb g : Nat) : Prop := g = bb \/ D.v1.ownBlock = some g \/ D.v2.ownBlock = some g \/ E.v1.ownBlock = some g \/ E.v2.ownBlock = some g
theorem BV.blk {h0 : Nat} {w : World} {bb g : Nat} {D E : KD} (h : BookP h0 w bb D E) (hg : BV D E bb g) : ∃ cur T, (T = 42 \/ T = 62 \/ T = 96) /\ w.heap[g]? = some (.cells cur T (0, 0)) := by
 rcases hg with rfl | hg | hg | hg | hg
 . exact ⟨_, _, .inl rfl, h.blk⟩
 . obtain ⟨_, cur, e⟩ := h.i.x.r.blk hg; exact ⟨cur, _, .inr (.inl rfl), e⟩
 . obtain ⟨_, cur, e⟩ := h.i.y.r.blk hg; exact ⟨cur, _, .inr (.inl rfl), e⟩
 . obtain ⟨_, cur, e⟩ := h.p.x.r.blk hg; exact ⟨cur, _, .inr (.inr rfl), e⟩
 . obtain ⟨_, cur, e⟩ := h.p.y.r.blk hg; exact ⟨cur, _, .inr (.inr rfl), e⟩
theorem BV.lt {h0 : Nat} {w : World} {bb g : Nat} {D E : KD} (h : BookP h0 w bb D E) (hg : BV D E bb g) : g < w.heap.size := by
 obtain ⟨_, _, _, e⟩ := hg.blk h; exact (Array.getElem?_eq_some_iff.1 e).1
theorem not_BV {h0 : Nat} {w : World} {bb : Nat} {D E : KD} (h : BookP h0 w bb D E) {T : TypeId} {k : Nat} {v : Value} {n : Nat} {us : List Value} (hv : BRow T k w v n us) (h1 : T ≠ 62) (h2 : T ≠ 96) (h3 : T ≠ 42) : ∀ g, v.ownBlock = some g -> ¬ BV D E bb g := by
 intro g hg hz; obtain ⟨cur, T', hT, e⟩ := hz.blk h; obtain ⟨_, cur', e'⟩ := hv.blk hg; rw [e] at e'; cases e'
 rcases hT with hT | hT | hT
 . exact h3 hT
 . exact h1 hT
 . exact h2 hT
theorem BookAddP.bv {h0 : Nat} {w w' : World} {bb : Nat} {D E D' E' : KD} {x : Value} (ha : BookAddP h0 w w' bb D E D' E' x) (h : BookP h0 w bb D E) (hx : ∀ g, x.ownBlock = some g -> ∃ cur T, T ≠ 62 /\ T ≠ 96 /\ w.heap[g]? = some (.cells cur T (0, 0))) :
 ∀ g, BV D' E' bb g -> BV D E bb g \/ w.heap.size <= g := by
 intro g hg
 by_cases hlt : w.heap.size <= g
 . exact .inr hlt
 by_cases hbv : BV D E bb g
 . exact .inl hbv
 exfalso
 have hw := ha.kp.block g (by omega) hbv
 have hD : ∀ cur T, (T = 62 \/ T = 96) -> w.heap[g]? = some (.cells cur T (0, 0)) -> ¬ (D.Has g \/ x.ownBlock = some g \/ (w.heap.size <= g /\ g < w'.heap.size)) := fun cur T hT e hh => by
  rcases hh with hh | hh | hh
  . rcases hh with (hh | ⟨i, hi, hh⟩) | (hh | ⟨i, hi, hh⟩)
    . exact hbv (.inr (.inl hh))
    . obtain ⟨_, cur', e'⟩ := (h.i.x.e i hi).blk hh; rw [e] at e'; cases e'; rcases hT with hT | hT <;> revert hT <;> decide
    . exact hbv (.inr (.inr (.inl hh)))
    . obtain ⟨_, cur', e'⟩ := (h.i.y.e i hi).blk hh; rw [e] at e'; cases e'; rcases hT with hT | hT <;> revert hT <;> decide
  . obtain ⟨cur', T', h1, h2, e'⟩ := hx g hh; rw [e] at e'; cases e'; exact hT.elim h1 h2
  . exact hlt hh.1
 have hE : ∀ cur T, (T = 62 \/ T = 96) -> w.heap[g]? = some (.cells cur T (0, 0)) -> ¬ (E.Has g \/ x.ownBlock = some g \/ (w.heap.size <= g /\ g < w'.heap.size)) := fun cur T hT e hh => by
  rcases hh with hh | hh | hh
  . rcases hh with (hh | ⟨i, hi, hh⟩) | (hh | ⟨i, hi, hh⟩)
    . exact hbv (.inr (.inr (.inr (.inl hh))))
    . obtain ⟨_, cur', e'⟩ := (h.p.x.e i hi).blk hh; rw [e] at e'; cases e'; rcases hT with hT | hT <;> revert hT <;> decide
    . exact hbv (.inr (.inr (.inr (.inr hh))))
    . obtain ⟨_, cur', e'⟩ := (h.p.y.e i hi).blk hh; rw [e] at e'; cases e'; rcases hT with hT | hT <;> revert hT <;> decide
  . obtain ⟨cur', T', h1, h2, e'⟩ := hx g hh; rw [e] at e'; cases e'; exact hT.elim h1 h2
  . exact hlt hh.1
 rcases hg with rfl | hg | hg | hg | hg
 . exact hbv (.inl rfl)
 . obtain ⟨_, cur, e⟩ := ha.b.i.x.r.blk hg; rw [hw] at e; exact hD _ _ (.inl rfl) e (ha.has g (.inl (.inl hg)))
 . obtain ⟨_, cur, e⟩ := ha.b.i.y.r.blk hg; rw [hw] at e; exact hD _ _ (.inl rfl) e (ha.has g (.inr (.inl hg)))
 . obtain ⟨_, cur, e⟩ := ha.b.p.x.r.blk hg; rw [hw] at e; exact hE _ _ (.inr rfl) e (ha.hasE g (.inl (.inl hg)))
 . obtain ⟨_, cur, e⟩ := ha.b.p.y.r.blk hg; rw [hw] at e; exact hE _ _ (.inr rfl) e (ha.hasE g (.inr (.inl hg)))
structure BKeep (w w' : World) (bb : Nat) (D E D' E' : KD) : Prop where
 kp : Keep (BV D E bb) w w'
 bv : ∀ g, BV D' E' bb g -> BV D E bb g \/ w.heap.size <= g
theorem BKeep.refl (w : World) (bb : Nat) (D E : KD) : BKeep w w bb D E D E := ⟨Keep.refl _ _, fun _ h => .inl h⟩
theorem BKeep.trans {w w1 w2 : World} {bb : Nat} {D E D1 E1 D2 E2 : KD} (h1 : BKeep w w1 bb D E D1 E1) (h2 : BKeep w1 w2 bb D1 E1 D2 E2) : BKeep w w2 bb D E D2 E2 where
 kp := h1.kp.transM h2.kp (fun _ _ h => h) (fun g hlt hz => (h1.bv g hz).elim id (fun h => by omega))
 bv := fun g hg => (h2.bv g hg).elim (h1.bv g) (fun h => .inr (Nat.le_trans h1.kp.size h))
theorem BookAddP.bk {h0 : Nat} {w w' : World} {bb : Nat} {D E D' E' : KD} {x : Value} (ha : BookAddP h0 w w' bb D E D' E' x) (h : BookP h0 w bb D E) (hx : ∀ g, x.ownBlock = some g -> ∃ cur T, T ≠ 62 /\ T ≠ 96 /\ w.heap[g]? = some (.cells cur T (0, 0))) : BKeep w w' bb D E D' E' := ⟨ha.kp, ha.bv h hx⟩
theorem typ_of {w : World} {T : TypeId} {k : Nat} {v : Value} {n : Nat} {us : List Value} (hv : BRow T k w v n us) (h1 : T ≠ 62) (h2 : T ≠ 96) : ∀ g, v.ownBlock = some g -> ∃ cur T, T ≠ 62 /\ T ≠ 96 /\ w.heap[g]? = some (.cells cur T (0, 0)) := fun g hg => by
 obtain ⟨_, cur, e⟩ := hv.blk hg; exact ⟨cur, T, h1, h2, e⟩
theorem OwnP.bv {h0 : Nat} {w w' : World} {bb : Nat} {D E : KD} {a : Value} {L : List (Pk × Value)} (h : OwnP w a L) (hb : BookP h0 w bb D E) (hk : Keep (BV D E bb) w w') : OwnP w' a L :=
 h.keep hk (not_BV hb h.r (by decide) (by decide) (by decide)) (fun p hp => not_BV hb (h.o p hp) (by decide) (by decide) (by decide))
structure SentV (h0 : Nat) (w wr : World) (bb : Nat) (D E D' E' : KD) (L : List (Pk × Value)) (k : Nat) : Prop where
 b : BookP h0 wr bb D' E'
 kp : BKeep w wr bb D E D' E'
 has : ∀ g, D'.Has g -> D.Has g \/ (∃ j, ∃ hj : j < L.length, j < k /\ L[j].2.ownBlock = some g) \/ w.heap.size <= g
set_option maxRecDepth 100000 in
theorem sentV_any {h0 : Nat} {w : World} {bb : Nat} {D E : KD} {x : Value} {L : List (Pk × Value)} (h : BookP h0 w bb D E) (hb0 : bb < h0) (hs0 : h0 <= w.heap.size) (hx : FreshP h0 w bb D E x L) :
 Calls Tryz.prog 51 #[.pointer (some ⟨bb, 0, none⟩), x] w fun e w' => (∃ r, e = .returned r) /\ ∃ D' E', BookP h0 w' bb D' E' /\ BKeep w w' bb D E D' E' /\ (∀ g, D'.Has g -> D.Has g \/ (∃ p ∈ L, p.2.ownBlock = some g) \/ w.heap.size <= g) /\ (∀ g, E'.Has g -> E.Has g \/ x.ownBlock = some g \/ w.heap.size <= g) := by
 obtain ⟨sx, cx, e1, hcx, hcm⟩ := hx.own.r.form; subst e1; have H := H_ (A_ h hx); have hll := hx.own.l; obtain ⟨len, hln⟩ : ∃ len, len = L.length := ⟨_, rfl⟩; have HLN := H_ hln; rw [<- hln] at H hcx hll ⊢; clear h hx hln; go_enter Tryz.func51, Tryz.ntmps51; go_wp2_with fail
 go_loopg [4] len (fun y i wr => ∃ k : Nat, k <= len /\ y = len - k /\ i = .int .i64 k /\ Hid (∃ D', SentV h0 w wr bb D E D' E L k))
 case atStart => exact ⟨0, by omega, by omega, rfl, D, H.out.1, BKeep.refl _ _ _ _, fun g hg => .inl hg⟩
 case round =>
  obtain ⟨k, hk, rfl, rfl, hK⟩ := hrel; obtain ⟨D1, hK1⟩ := hK.out; have HK := H_ hK1; clear hK hK1; have HO := H_ (H.out.2.own.bv H.out.1 HK.out.kp.kp)
  by_cases hkl : k < len
  . have h1 : k < L.length := by have := HLN.out; omega
    obtain ⟨g, off, rfl, hg, -, -, -, c2, -⟩ := PkR.at (c := cx) (n := len) HO.out.pk k h1; obtain ⟨s1, q1, e2, -, -⟩ := (HO.out.o _ (List.getElem_mem h1)).form
    have hadd := bookP_addO HK.out.b (Nat.le_trans hs0 HK.out.kp.kp.size) (HO.out.o _ (List.getElem_mem h1)) (HO.out.m _ (List.getElem_mem h1)) (fun g hg hh => by
     rcases HK.out.has g hh with h2 | ⟨j, hj, hjk, h2⟩ | h2
     . exact H.out.2.oD _ (List.getElem_mem h1) g hg h2
     . exact H.out.2.pw j k hj h1 (by omega) g h2 hg
     . have := ((H.out.2.own.o _ (List.getElem_mem h1)).blk hg).1; omega) (fun he => by have := H.out.2.o0 _ (List.getElem_mem h1) bb he; omega) (H.out.2.o0 _ (List.getElem_mem h1))
    rw [e2] at c2 hadd
    have HS : Hid (∀ w' D2, BookAddP h0 wr w' bb D1 E D2 E (.slice s1 L[k].1.o.length q1) -> SentV h0 w w' bb D E D2 E L (k + 1)) := H_ fun w' D2 ha => ⟨ha.b, HK.out.kp.trans (ha.bk HK.out.b (by have h9 := typ_of (HO.out.o _ (List.getElem_mem h1)) (by decide : (91 : TypeId) ≠ 62) (by decide); rw [e2] at h9; exact h9)), fun g hg => by
     rcases ha.has g hg with h2 | h2 | h2
     . rcases HK.out.has g h2 with h3 | ⟨j, hj, hjk, h3⟩ | h3
       . exact .inl h3
       . exact .inr (.inl ⟨j, hj, by omega, h3⟩)
       . exact .inr (.inr h3)
     . exact .inr (.inl ⟨k, h1, by omega, by rw [e2]; exact h2⟩)
     . have := HK.out.kp.kp.size; exact .inr (.inr (by omega))⟩
    have HADD := H_ hadd; clear hadd e2; generalize L[k].1.o.length = ol at *; go_wp2_with fail; refine HADD.out.mono ?_; rintro e w2 ⟨⟨r, rfl⟩, D2, ha⟩; have H2 := H_ (HS.out w2 D2 ha); clear ha; go_wp2_with fail
    go_roundg (len - (k + 1))
    case measure => omega
    case rel => exact ⟨k + 1, by omega, rfl, by go_num, D2, H2.out⟩
  . have hadd := bookP_addP HK.out.b (Nat.le_trans hs0 HK.out.kp.kp.size) HO.out H.out.2.xE (fun he => by have := H.out.2.x0 bb he; omega) H.out.2.x0 H.out.2.o0; have HADD := H_ hadd; clear hadd; go_wp2_with fail; refine HADD.out.mono ?_; rintro e w2 ⟨⟨r, rfl⟩, E2, ha⟩; have HA := H_ ha; clear ha; go_wp2_with fail
    go_end0
    refine ⟨⟨_, rfl⟩, D1, E2, HA.out.b, HK.out.kp.trans (HA.out.bk HK.out.b (typ_of HO.out.r (by decide) (by decide))), fun g hg => ?_, fun g hg => ?_⟩
    . rcases HK.out.has g hg with h3 | ⟨j, hj, -, h3⟩ | h3
      . exact .inl h3
      . exact .inr (.inl ⟨_, List.getElem_mem hj, h3⟩)
      . exact .inr (.inr h3)
    . rcases HA.out.hasE g hg with h3 | h3 | h3
      . exact .inl h3
      . exact .inr (.inl h3)
      . have := HK.out.kp.kp.size; exact .inr (.inr (by omega))
def takeR (C : NegC) (st : NSt) (p : Pk) : NSt × List Pk :=
 if p.code = 1 then (if (ansS C st.naks (judgeS C.peer p.o) p.o).1 = 2 then evR C { st with naks := 0 } 6 (cameR C st.naks p) else evR C st 7 (cameR C st.naks p))
 else if p.code = 2 then (if p.id = st.asked /\ p.o = st.req then evR C { st with mine := p.o } 8 ⟨true, p, 0, []⟩ else (st, []))
 else if p.code = 3 then (if p.id = st.asked then evR C { st with req := p.o.foldl (nakR C) st.req } 9 ⟨true, p, 0, []⟩ else (st, []))
 else if p.code = 4 then (if p.id = st.asked /\ wB st.req p.o = true then (if (st.req.any fun x => goneB p.o x.t && hasB C.must x.t) = true then evR C st 14 ⟨true, p, 0, []⟩ else evR C { st with req := st.req.filter fun x => !goneB p.o x.t } 9 ⟨true, p, 0, []⟩) else (st, []))
 else if p.code = 5 then evR C st 10 ⟨true, p, 0, []⟩
 else if p.code = 6 then evR C st 11 ⟨true, p, 0, []⟩
 else if p.code = 7 then (if p.d.size = 0 then (st, []) else evR C st (if 1 <= (p.d.data.getD 0 0).toNat /\ (p.d.data.getD 0 0).toNat <= 7 then 14 else 13) ⟨true, p, 0, []⟩)
 else evR C st 12 ⟨true, p, 0, []⟩
theorem Take9_at {w : World} {S ok : Nat -> Prop} {b : Nat} {C : NegC} {st : NSt} {X : RX} (p : Pk) (po : Value) (h : RNAt w S b C st X) (hp : PkIn w b ok p po) :
 Calls Tryz.prog 50 #[.pointer (some ⟨b, 0, none⟩), pkV p po] w fun e w' => RNPost w w' S (fun _ => False) b C (takeR C st p) e := by
 unfold takeR
 by_cases h1 : p.code = 1
 . rw [if_pos h1]; exact take9_1 p po h1 h hp
 rw [if_neg h1]
 by_cases h2 : p.code = 2
 . rw [if_pos h2]; exact take9_2 p po h2 h hp
 rw [if_neg h2]
 by_cases h3 : p.code = 3
 . rw [if_pos h3]; exact take9_3 p po h3 h hp
 rw [if_neg h3]
 by_cases h4 : p.code = 4
 . rw [if_pos h4]; exact take9_4 p po h4 h hp
 rw [if_neg h4]
 by_cases h5 : p.code = 5
 . rw [if_pos h5]; exact take9_5 p po h5 h hp
 rw [if_neg h5]
 by_cases h6 : p.code = 6
 . rw [if_pos h6]; exact take9_6 p po h6 h hp
 rw [if_neg h6]
 by_cases h7 : p.code = 7
 . rw [if_pos h7]; exact take9_7 p po h7 h hp
 rw [if_neg h7]; exact take9_U p po (by omega) h hp
def Rel (st sr : NSt) : Prop := (∃ t, sr = { st with ticks := t }) /\ (waitsB st.s = true -> sr.ticks = st.ticks) /\ (waitsB st.s = false -> st.ticks = 0)
def tk (l : List Int) (t : Int) : Int := if l.any (fun a => a == 6 || a == 9) = true then 0 else t
theorem sayS_ticks (rej : Pk -> ByteArray) (C : NegC) (c : Came) (st : NSt) (a t : Int) : sayS rej C { st with ticks := t } a c = ({ (sayS rej C st a c).1 with ticks := tk [a] t }, (sayS rej C st a c).2) := by
 unfold sayS refuseS tk
 by_cases h6 : a = 6
 . subst h6; simp
 by_cases h7 : a = 7
 . subst h7; simp
 by_cases h8 : a = 8
 . subst h8; simp only [if_neg h6, if_neg h7, if_true]
   split
   . simp
   . split <;> simp
 by_cases h9 : a = 9
 . subst h9; simp
 have e : ([a].any fun a => a == 6 || a == 9) = false := by simp [h6, h9]
 simp only [if_neg h6, if_neg h7, if_neg h8, if_neg h9, e]
 split
 . simp
 . split
   . simp
   . split
     . simp
     . split <;> simp
theorem tk_cons (a : Int) (l : List Int) (t : Int) : tk (a :: l) t = tk l (tk [a] t) := by
 unfold tk
 by_cases h : (a == 6 || a == 9) = true
 . simp [h]
 . have h' : (a == 6 || a == 9) = false := by simpa using h
   simp [h']
theorem sayL_ticks (rej : Pk -> ByteArray) (C : NegC) (c : Came) : ∀ (l : List Int) (st : NSt) (t : Int), sayL rej C c { st with ticks := t } l = ({ (sayL rej C c st l).1 with ticks := tk l t }, (sayL rej C c st l).2) := by
 intro l
 induction l with
 | nil => intro st t; rfl
 | cons a l ih =>
  intro st t; simp only [sayL]; rw [sayS_ticks, tk_cons a l t]; generalize sayS rej C st a c = R; have e := ih R.1 (tk [a] t)
  show ((sayL rej C c { R.1 with ticks := tk [a] t } l).1, R.2 ++ (sayL rej C c { R.1 with ticks := tk [a] t } l).2) = _
  rw [e]
theorem sayS_s (rej : Pk -> ByteArray) (C : NegC) (c : Came) (st : NSt) (a : Int) : (sayS rej C st a c).1.s = st.s := by
 unfold sayS refuseS
 repeat' split
 all_goals rfl
theorem sayL_s (rej : Pk -> ByteArray) (C : NegC) (c : Came) : ∀ (l : List Int) (st : NSt), (sayL rej C c st l).1.s = st.s := by
 intro l
 induction l with
 | nil => intro st; rfl
 | cons a l ih => intro st; simp only [sayL]; rw [ih, sayS_s]
theorem ev_rel (C : NegC) (st sr : NSt) (ev : Int) (c cR : Came) (h : Rel st sr) (hs : ∀ st' : NSt, st'.naks = st.naks -> sayL rejS C c st' (nextL st.s ev) = sayL rejS (C0 C) cR st' (nextL st.s ev)) :
 (evR C sr ev cR).2 = (evS rejS C st ev c).2 /\ Rel (evS rejS C st ev c).1 (evR C sr ev cR).1 := by
 obtain ⟨⟨t, rfl⟩, h1, h2⟩ := h; unfold evR evS toldS; simp only at h1 h2 ⊢
 have e1 := sayL_ticks rejS C c (nextL st.s ev) { st with s := nextS st.s ev, c := doC C.cf C.tm (nextL st.s ev) (nextL st.s ev) st.c } (if (!waitsB st.s && waitsB (nextS st.s ev)) = true then 0 else t); have e2 := hs { st with s := nextS st.s ev, c := doC C.cf C.tm (nextL st.s ev) (nextL st.s ev) st.c, ticks := (if (!waitsB st.s && waitsB (nextS st.s ev)) = true then 0 else t) } rfl; rw [<- e2]; have e3 := sayL_ticks rejS C c (nextL st.s ev) { st with s := nextS st.s ev, c := doC C.cf C.tm (nextL st.s ev) (nextL st.s ev) st.c } st.ticks; have e4 := sayL_s rejS C c (nextL st.s ev) { st with s := nextS st.s ev, c := doC C.cf C.tm (nextL st.s ev) (nextL st.s ev) st.c }; simp only at e1 e3 e4
 rw [e1]; generalize sayL rejS C c { st with s := nextS st.s ev, c := doC C.cf C.tm (nextL st.s ev) (nextL st.s ev) st.c } (nextL st.s ev) = R at *
 have e5 : R.1.ticks = tk (nextL st.s ev) st.ticks := by
  have := congrArg (fun r => r.1.ticks) e3; exact this
 generalize nextL st.s ev = l at *; generalize nextS st.s ev = ns at *
 cases hw : waitsB ns with
 | true =>
  have hw' : waitsB R.1.s = true := by rw [e4]; exact hw
  rw [hw']; refine ⟨rfl, ⟨_, rfl⟩, fun _ => ?_, fun hn => ?_⟩
  . simp only [if_true]; rw [e5]
    cases hw2 : waitsB st.s with
    | true => simp only [Bool.not_true, Bool.false_and, Bool.false_eq_true, if_false]; rw [h1 hw2]
    | false => simp only [Bool.not_false, Bool.true_and, if_true]; rw [h2 hw2]
  . simp only [if_true] at hn; rw [hw'] at hn; cases hn
 | false =>
  have hw' : waitsB R.1.s = false := by rw [e4]; exact hw
  rw [hw']; refine ⟨rfl, ⟨_, rfl⟩, fun hn => ?_, fun _ => rfl⟩; simp only [Bool.false_eq_true, if_false] at hn; rw [hw'] at hn; cases hn
theorem lookup_ev (P : Int -> Int × List Int -> Prop) (l : List Row) (hl : ∀ r ∈ l, P r.2.1 r.2.2) (s e : Int) : ∀ y, lookupL l s e = some y -> P e y := by
 induction l with
 | nil => intro y h; cases h
 | cons r l ih =>
  intro y hy; simp only [lookupL, List.foldr_cons, Tab.put] at hy
  split at hy
  . rename_i hc
    cases hy
    have := hl r (by simp); have he : e = r.2.1 := by simp_all
    rw [he]; exact this
  . exact ih (fun r' h' => hl r' (by simp [h'])) y hy
theorem next_no8 (s e : Int) (h7 : e ≠ 7) : 8 ∉ nextL s e := by
 unfold nextL
 cases hf : nextF s e with
 | none => intro h; cases h
 | some y =>
  have hp : ∀ y, nextF s e = some y -> (e ≠ 7 -> (8 : Int) ∉ y.2) := by
   intro y hf; unfold nextF at hf
   cases ha : lookupL answeredL s e with
   | some y2 => rw [ha] at hf; simp at hf; subst hf; exact lookup_ev (fun e y => e ≠ 7 -> (8 : Int) ∉ y.2) _ (by decide) s e _ ha
   | none => rw [ha] at hf; simp at hf; exact lookup_ev (fun e y => e ≠ 7 -> (8 : Int) ∉ y.2) _ (by decide) s e _ hf
  exact hp y hf h7
theorem told_rel (R : NSt) : Rel (if waitsB R.s then R else { R with ticks := 0 }) R := by
 cases h : waitsB R.s with
 | true =>
  rw [if_pos rfl]; refine ⟨⟨R.ticks, rfl⟩, fun _ => rfl, ?_⟩; intro h'; rw [h] at h'; cases h'
 | false =>
  rw [if_neg (by decide)]; refine ⟨⟨R.ticks, rfl⟩, ?_, fun _ => rfl⟩; intro h'; have h'' : waitsB R.s = true := h'; rw [h] at h''; cases h''
theorem tmo_no8 (s c : Int) : 8 ∉ tmoL s c := by
 unfold tmoL tmoE
 by_cases hw : waitsB s = true
 . rw [if_pos hw]
   by_cases hc : 0 < c
   . rw [if_pos hc]; exact next_no8 s 4 (by decide)
   . rw [if_neg hc]; exact next_no8 s 5 (by decide)
 . rw [if_neg hw]; intro h; cases h
theorem tick_rel (C : NegC) (st sr : NSt) (h : Rel st sr) : (tickR C sr).2 = (tickS rejS C st).2 /\ Rel (tickS rejS C st).1 (tickR C sr).1 := by
 obtain ⟨⟨t, rfl⟩, h1, h2⟩ := h; unfold tickR tickS; simp only at h1 h2 ⊢
 cases hw : waitsB st.s with
 | false =>
  rw [if_neg (by decide), if_neg (by decide)]; refine ⟨rfl, ⟨t, rfl⟩, ?_, fun _ => h2 hw⟩; intro h'; have h'' : waitsB st.s = true := h'; rw [hw] at h''; cases h''
 | true =>
  have ht := h1 hw; subst ht; simp only [if_true]
  split
  . refine ⟨rfl, ⟨_, rfl⟩, fun _ => rfl, ?_⟩; intro h'; have h'' : waitsB st.s = false := h'; rw [hw] at h''; cases h''
  . unfold toldS; rw [<- sayL_no8 rejS C (C0 C) noCame noCame rfl rfl _ _ (tmo_no8 st.s st.c)]; exact ⟨rfl, told_rel _⟩
theorem ev_rel8 (C : NegC) (st sr : NSt) (ev : Int) (c cR : Came) (h : Rel st sr) (h7 : ev ≠ 7) (h1 : c.is = cR.is) (h2 : c.p = cR.p) :
 (evR C sr ev cR).2 = (evS rejS C st ev c).2 /\ Rel (evS rejS C st ev c).1 (evR C sr ev cR).1 :=
 ev_rel C st sr ev c cR h (fun st' _ => sayL_no8 rejS C (C0 C) c cR h1 h2 _ st' (next_no8 _ _ h7))
theorem same_rel {st sr : NSt} (h : Rel st sr) : ((sr, ([] : List Pk))).2 = ((st, ([] : List Pk))).2 /\ Rel ((st, ([] : List Pk))).1 ((sr, ([] : List Pk))).1 := ⟨rfl, h⟩
theorem take_rel (C : NegC) (st sr : NSt) (p : Pk) (h : Rel st sr) (ha : Apart st.req) : (takeR C sr p).2 = (takeS C st p).2 /\ Rel (takeS C st p).1 (takeR C sr p).1 := by
 obtain ⟨⟨t, rfl⟩, g1, g2⟩ := h; have h : Rel st { st with ticks := t } := ⟨⟨t, rfl⟩, g1, g2⟩; unfold takeR takeS
 dsimp only
 by_cases h1 : p.code = 1
 . rw [if_pos h1, if_pos h1]; unfold reqS
   by_cases h2 : (judgeS C.peer p.o).1 = 2
   . have a2 : (ansS C st.naks (judgeS C.peer p.o) p.o).1 = 2 := by
      unfold ansS; rw [if_neg (fun hc => by omega)]; exact h2
     rw [if_pos h2, if_pos a2]; exact ev_rel8 C { st with naks := 0 } { st with ticks := t, naks := 0 } 6 _ _ ⟨⟨t, rfl⟩, g1, g2⟩ (by decide) rfl rfl
   . have a2 : ¬ (ansS C st.naks (judgeS C.peer p.o) p.o).1 = 2 := by
      unfold ansS
      split
      . exact (by decide : ¬ (4 : Int) = 2)
      . exact h2
     rw [if_neg h2, if_neg a2]; exact ev_rel C st { st with ticks := t } 7 _ _ h (fun st' hn => sayL_ref rejS C p st.naks _ st' (nextL_8 _ _) hn)
 rw [if_neg h1, if_neg h1]
 by_cases h2 : p.code = 2
 . rw [if_pos h2, if_pos h2]; unfold ackS
   by_cases hi : p.id = st.asked
   . rw [if_pos hi]
     by_cases ho : p.o = st.req
     . rw [if_pos ⟨hi, ho⟩, if_pos ho, ho]; exact ev_rel8 C { st with mine := st.req } { st with ticks := t, mine := st.req } 8 _ _ ⟨⟨t, rfl⟩, g1, g2⟩ (by decide) rfl rfl
     . rw [if_neg (fun hc => ho hc.2), if_neg ho]; exact same_rel h
   . rw [if_neg (fun hc => hi hc.1), if_neg hi]; exact same_rel h
 rw [if_neg h2, if_neg h2]
 by_cases h3 : p.code = 3
 . rw [if_pos h3, if_pos (Or.inl h3)]
   by_cases hi : p.id = st.asked
   . rw [if_pos hi, if_pos hi, if_pos h3]; unfold namedS; rw [(nakAll C p.o st.req ha).1]; exact ev_rel8 C { st with req := p.o.foldl (nakR C) st.req } { st with ticks := t, req := p.o.foldl (nakR C) st.req } 9 _ _ ⟨⟨t, rfl⟩, g1, g2⟩ (by decide) rfl rfl
   . rw [if_neg hi, if_neg hi]; exact same_rel h
 rw [if_neg h3]
 by_cases h4 : p.code = 4
 . rw [if_pos h4, if_pos (Or.inr h4)]
   by_cases hi : p.id = st.asked
   . rw [if_pos hi, if_neg h3]; unfold refusedS
     by_cases hw : wB st.req p.o = true
     . rw [if_pos ⟨hi, hw⟩, if_pos hw, gone_must C.must hw, gone_filter hw ha]
       split
       . exact ev_rel8 C st { st with ticks := t } 14 _ _ h (by decide) rfl rfl
       . exact ev_rel8 C { st with req := st.req.filter fun o => !(p.o.any (eqB o)) } { st with ticks := t, req := st.req.filter fun o => !(p.o.any (eqB o)) } 9 _ _ ⟨⟨t, rfl⟩, g1, g2⟩ (by decide) rfl rfl
     . rw [if_neg (fun hc => hw hc.2), if_neg hw]; exact same_rel h
   . rw [if_neg (fun hc => hi hc.1), if_neg hi]; exact same_rel h
 rw [if_neg h4, if_neg (fun hc : p.code = 3 \/ p.code = 4 => hc.elim h3 h4)]
 by_cases h5 : p.code = 5
 . rw [if_pos h5, if_pos h5]; exact ev_rel8 C st { st with ticks := t } 10 _ _ h (by decide) rfl rfl
 rw [if_neg h5, if_neg h5]
 by_cases h6 : p.code = 6
 . rw [if_pos h6, if_pos h6]; exact ev_rel8 C st { st with ticks := t } 11 _ _ h (by decide) rfl rfl
 rw [if_neg h6, if_neg h6]
 by_cases h7 : p.code = 7
 . rw [if_pos h7, if_pos h7]; unfold code7S
   split
   . exact same_rel h
   . exact ev_rel8 C st { st with ticks := t } _ _ _ h (by split <;> decide) rfl rfl
 rw [if_neg h7, if_neg h7]; exact ev_rel8 C st { st with ticks := t } 12 _ _ h (by decide) rfl rfl
theorem rel_0 (st : NSt) (h : st.ticks = 0) : Rel st st := ⟨⟨st.ticks, rfl⟩, fun _ => rfl, fun _ => h⟩
def doS (C : NegC) (st : NSt) (ev : Int) : NSt × List Pk := if 0 <= ev /\ ev <= 3 then evS rejS C st ev noCame else (st, [])
def doR (C : NegC) (st : NSt) (ev : Int) : NSt × List Pk := if 0 <= ev /\ ev <= 3 then evR C st ev noCame else (st, [])
theorem do_rel (C : NegC) (st sr : NSt) (ev : Int) (h : Rel st sr) : (doR C sr ev).2 = (doS C st ev).2 /\ Rel (doS C st ev).1 (doR C sr ev).1 := by
 unfold doS doR
 by_cases he : 0 <= ev /\ ev <= 3
 . rw [if_pos he, if_pos he]; exact ev_rel8 C st sr ev noCame noCame h (by omega) rfl rfl
 . rw [if_neg he, if_neg he]; exact same_rel h
def adoptE (s : Int) (a b : List Opt) : Int := if s ≠ 0 /\ s ≠ 1 then 20 else if putE a ≠ 0 then putE a else putE b
def adoptS (st : NSt) (a b : List Opt) : NSt := if adoptE st.s a b = 0 then { st with s := 9, mine := a, theirs := b, ups := wrap64 (st.ups + 1) } else st
theorem Rel.s {st sr : NSt} (h : Rel st sr) : sr.s = st.s /\ sr.req = st.req /\ sr.mine = st.mine /\ sr.theirs = st.theirs /\ sr.ups = st.ups /\ sr.downs = st.downs := by
 obtain ⟨⟨t, rfl⟩, -, -⟩ := h; exact ⟨rfl, rfl, rfl, rfl, rfl, rfl⟩
section
variable {w w' : World} {S ok : Nat -> Prop} {B : NegB} {C : NegC} {st : NSt} {X : NegX} {jb : Nat}
theorem Do_out (ev : Int) (hev : ev < 0 \/ 3 < ev) (h : NegAt w S B C st X) :
 Calls Tryz.prog 43 #[.pointer (some ⟨B.nb, 0, none⟩), .int .i64 ev] w fun e w' => EvPost w w' S (fun _ => False) B C (st, []) e := by
 have HN := H_ (nnone_at h); have H : Hid (EvPost w w S (fun _ => False) B C (st, []) (.returned (.slice none 0 0))) := H_ (EvPost.none' ⟨X, h.mono (fun _ hb => .inl hb)⟩ (Keep.refl _ _)); clear h
 by_cases h1 : ev < 0
 . have d1 : decide (ev < 0) = true := decide_eq_true h1; clear hev h1; go_enter Tryz.func43, Tryz.ntmps43
   go_wp2_with (go_at_call 158; refine HN.out.mono ?_; rintro e w1 ⟨rfl, rfl⟩)
   go_ret; exact H.out
 . have d1 : decide (ev < 0) = false := decide_eq_false h1; have d2 : decide (3 < ev) = true := decide_eq_true (by omega); clear hev h1; go_enter Tryz.func43, Tryz.ntmps43
   go_wp2_with (go_at_call 158; refine HN.out.mono ?_; rintro e w1 ⟨rfl, rfl⟩)
   go_ret; exact H.out
theorem DoQ (ev : Int) (h : NegP w S B C st jb) :
 Calls Tryz.prog 43 #[.pointer (some ⟨B.nb, 0, none⟩), .int .i64 ev] w fun e w' => EvP w w' S (fun _ => False) B C jb (doS C st ev) e := by
 unfold doS
 by_cases he : 0 <= ev /\ ev <= 3
 . rw [if_pos he]; exact DoP rejS ev he h
 . rw [if_neg he]; obtain ⟨X, hX⟩ := h.1; exact (Do_out ev (by omega) hX).mono (fun e w' he => he.p h)
theorem DoQ9 (ev : Int) {b : Nat} {X : RX} (h : RNAt w S b C st X) :
 Calls Tryz.prog 44 #[.pointer (some ⟨b, 0, none⟩), .int .i64 ev] w fun e w' => RNPost w w' S (fun _ => False) b C (doR C st ev) e := by
 unfold doR
 by_cases he : 0 <= ev /\ ev <= 3
 . rw [if_pos he]; exact Do9_in ev he h
 . rw [if_neg he]; exact Do9_out ev (by omega) h
theorem Mine9 {rb : Nat} {X : RX} (h : RNAt w S rb C st X) :
 Calls Tryz.prog 57 #[.pointer (some ⟨rb, 0, none⟩)] w fun e w' => ∃ v, e = .returned v /\ Opts w (fun _ => True) v (if st.s = 9 then st.mine else []) /\ w = w' := by
 obtain ⟨a, n, hv, -, -⟩ := h.mine.form; have ho := Rec.mono (brow_opts h.mine (by have := h.lm; omega)) (fun _ _ => trivial); refine (mine8_any rb _ _ _ _ _ w h.blk a st.mine.length n hv).mono ?_; rintro e w' ⟨rfl, rfl⟩; refine ⟨_, rfl, ?_, rfl⟩
 split
 . rw [<- hv]; exact ho
 . exact Rec.nil _ _ _
theorem Theirs9 {rb : Nat} {X : RX} (h : RNAt w S rb C st X) :
 Calls Tryz.prog 58 #[.pointer (some ⟨rb, 0, none⟩)] w fun e w' => ∃ v, e = .returned v /\ Opts w (fun _ => True) v (if st.s = 9 then st.theirs else []) /\ w = w' := by
 obtain ⟨a, n, hv, -, -⟩ := h.theirs.form; have ho := Rec.mono (brow_opts h.theirs (by have := h.lt; omega)) (fun _ _ => trivial); refine (theirs8_any rb _ _ _ _ _ w h.blk a st.theirs.length n hv).mono ?_; rintro e w' ⟨rfl, rfl⟩; refine ⟨_, rfl, ?_, rfl⟩
 split
 . rw [<- hv]; exact ho
 . exact Rec.nil _ _ _
end
theorem BookP.hasD {h0 : Nat} {w : World} {bb : Nat} {D E : KD} (h : BookP h0 w bb D E) {g : Nat} (hg : D.Has g) : g < w.heap.size := by
 obtain ⟨cur, e | e⟩ := h.i.type hg <;> exact (Array.getElem?_eq_some_iff.1 e).1
theorem BookP.hasE {h0 : Nat} {w : World} {bb : Nat} {D E : KD} (h : BookP h0 w bb D E) {g : Nat} (hg : E.Has g) : g < w.heap.size := by
 obtain ⟨cur, e | e⟩ := h.p.type hg <;> exact (Array.getElem?_eq_some_iff.1 e).1
structure PlB where
 h0 : Nat
 bb : Nat
 rb : Nat
 jb : Nat
 B : NegB
 C : NegC
structure PI (w wr : World) (G : PlB) (st sr : NSt) (D E : KD) (S1 S2 : Nat -> Prop) : Prop where
 neg : NegP wr S1 G.B G.C st G.jb
 ref : RNV wr S2 G.rb G.C sr
 rel : Rel st sr
 bk : BookP G.h0 wr G.bb D E
 bl : Below w.heap.size w wr
 t2 : ∀ g, G.B.t g -> ¬ S2 g
 r1 : ¬ S1 G.rb
 b1 : ∀ g, S1 g -> ¬ BV D E G.bb g
 b2 : ∀ g, S2 g -> ¬ BV D E G.bb g
 o1 : ∀ g, S1 g -> w.heap.size <= g /\ g < wr.heap.size
 o2 : ∀ g, S2 g -> w.heap.size <= g /\ g < wr.heap.size
 lt : G.rb < G.h0 /\ G.bb < G.h0 /\ (∀ g, G.B.t g -> g < G.h0) /\ w.heap.size <= G.bb /\ w.heap.size <= G.rb /\ G.bb ≠ G.rb /\ ¬ G.B.t G.bb
 hs : G.h0 <= wr.heap.size
section
variable {w wr w' : World} {G : PlB} {st sr st' sr' : NSt} {D E D' E' : KD} {S1 S2 : Nat -> Prop}
theorem PI.bvw (h : PI w wr G st sr D E S1 S2) {g : Nat} (hg : BV D E G.bb g) : w.heap.size <= g := by
 obtain ⟨l1, l2, l3, l4, l5, l6, l7⟩ := h.lt; have hh : ∀ g, D.Has g \/ E.Has g -> w.heap.size <= g := fun g hg => by have := h.bk.lo g hg; omega
 rcases hg with rfl | hg | hg | hg | hg
 . exact l4
 . exact hh g (.inl (.inl (.inl hg)))
 . exact hh g (.inl (.inr (.inl hg)))
 . exact hh g (.inr (.inl (.inl hg)))
 . exact hh g (.inr (.inr (.inl hg)))
theorem PI.book (h : PI w wr G st sr D E S1 S2) (hb : BookP G.h0 w' G.bb D' E') (hk : BKeep wr w' G.bb D E D' E') : PI w w' G st sr D' E' S1 S2 where
 neg := h.neg.keep hk.kp (fun g _ hg => h.b1 g hg)
 ref := by
  obtain ⟨X, hX⟩ := h.ref; exact ⟨X, hX.keep hk.kp (fun g _ hg => h.b2 g hg)⟩
 rel := h.rel
 bk := hb
 bl := h.bl.trans (hk.kp.below h.bl.size (fun g hg hz => by have := h.bvw hz; omega))
 t2 := h.t2
 r1 := h.r1
 b1 := fun g hg hz => (hk.bv g hz).elim (h.b1 g hg) (fun hl => by have := (h.o1 g hg).2; omega)
 b2 := fun g hg hz => (hk.bv g hz).elim (h.b2 g hg) (fun hl => by have := (h.o2 g hg).2; omega)
 o1 := fun g hg => ⟨(h.o1 g hg).1, Nat.lt_of_lt_of_le (h.o1 g hg).2 hk.kp.size⟩
 o2 := fun g hg => ⟨(h.o2 g hg).1, Nat.lt_of_lt_of_le (h.o2 g hg).2 hk.kp.size⟩
 lt := h.lt
 hs := Nat.le_trans h.hs hk.kp.size
theorem PI.below (h : PI w wr G st sr D E S1 S2) (hb : Below wr.heap.size wr w') : PI w w' G st sr D E S1 S2 :=
 h.book (h.bk.below hb) ⟨Keep.of_below _ hb, fun _ h => .inl h⟩
structure PTold (w' : World) (G : PlB) (D E : KD) (a b : Value) (L L2 : List (Pk × Value)) (ok2 : Nat -> Prop) : Prop where
 a : FreshP G.h0 w' G.bb D E a L
 b : PkR w' ok2 b L2
 k : ∀ g, ok2 g -> ¬ BV D E G.bb g
 e : L.map Prod.fst = L2.map Prod.fst
structure PStep (wr w1 w2 w2' w3 w4 : World) (G : PlB) (st' sr' : NSt) (l : List Pk) (a b : Value) (S1 S2 : Nat -> Prop) (L2 : List (Pk × Value)) : Prop where
 b1 : Below wr.heap.size wr w1
 pk : PksAt w2 (Grow (fun _ => False) w1) w1.heap.size a l
 neg : NegP w2 (Grow S1 w1) G.B G.C st' G.jb
 k1 : Keep G.B.t w1 w2
 b2 : Below w2.heap.size w2 w2'
 rk : PkR w3 (Grow (fun _ => False) w2') b L2
 ref : RNV w3 (Grow S2 w2') G.rb G.C sr'
 k2 : Keep (· = G.rb) w2' w3
 k3 : Keep (fun g => wr.heap.size <= g /\ g < w1.heap.size) w3 w4
 rel : Rel st' sr'
 e : L2.map Prod.fst = l
 ln : l.length <= 1000
theorem PI.ref2 {w1 w2 : World} (h : PI w wr G st sr D E S1 S2) (h1 : Below wr.heap.size wr w1) (h2 : Keep G.B.t w1 w2) : RNV w2 S2 G.rb G.C sr := by
 obtain ⟨X, hX⟩ := h.ref; exact ⟨X, (hX.below h1).keep h2 (fun g _ hg ht => h.t2 g ht hg)⟩
theorem PI.step {w1 w2 w2' w3 w4 : World} {l : List Pk} {a b : Value} {L2 : List (Pk × Value)} (h : PI w wr G st sr D E S1 S2) (s : PStep wr w1 w2 w2' w3 w4 G st' sr' l a b S1 S2 L2) :
 ∃ L ok2, PI w w4 G st' sr' D E (fun g => Grow S1 w1 g /\ g < w4.heap.size) (fun g => Grow S2 w2' g /\ g < w4.heap.size) /\ PTold w4 G D E a b L L2 ok2 := by
 obtain ⟨l1, l2, l3, l4, l5, l6, l7⟩ := h.lt; have z1 := s.b1.size; have z2 := s.k1.size; have z3 := s.b2.size; have z4 := s.k2.size; have z5 := s.k3.size; have zh := h.hs; have zw := h.bl.size; have htlt : ∀ g, G.B.t g -> g < wr.heap.size := fun g hg => h.neg.tlt hg; have hrlt : G.rb < wr.heap.size := by omega
 -- the whole step
 have kA : Keep (fun g => G.B.t g \/ g = G.rb) wr w4 := by
  have k1 : Keep (fun g => G.B.t g \/ g = G.rb) wr w2 := (Keep.of_below _ s.b1).transM s.k1 (fun _ _ h => h) (fun g _ hg => .inl hg); have k2 : Keep (fun g => G.B.t g \/ g = G.rb) wr w3 := (k1.trans (Keep.of_below _ s.b2)).transM s.k2 (fun _ _ h => h) (fun g _ hg => .inr hg); exact k2.transM s.k3 (fun _ _ h => h) (fun g hlt hg => by omega)
 -- behind the first call
 have kB : Keep (fun g => g = G.rb \/ (wr.heap.size <= g /\ g < w1.heap.size)) w2 w4 := by
  have k2 : Keep (fun g => g = G.rb \/ (wr.heap.size <= g /\ g < w1.heap.size)) w2 w3 := (Keep.of_below _ s.b2).transM s.k2 (fun _ _ h => h) (fun g _ hg => .inl hg); exact k2.transM s.k3 (fun _ _ h => h) (fun g _ hg => .inr hg)
 have hbv : ∀ g, w1.heap.size <= g -> ¬ BV D E G.bb g := fun g hg hz => by have := hz.lt h.bk; omega
 obtain ⟨L, e1, hr, ho⟩ := s.pk; have hfr : ∀ p ∈ L, ∀ g, p.2.ownBlock = some g -> w1.heap.size <= g := fun p hp g hg => ((ho.1 p hp).2.2 g hg).elim False.elim id; have har : ∀ g, a.ownBlock = some g -> w1.heap.size <= g := fun g hg => (hr.lt g hg).2; have hLL : L.map Prod.fst = L2.map Prod.fst := e1.trans s.e.symm; have hll : L.length = l.length := by rw [<- e1, List.length_map]
 have hmm : ∀ p ∈ L, p.1.o.length <= 100000 := by
  intro p hp; have hp1 : p.1 ∈ L.map Prod.fst := List.mem_map_of_mem hp; rw [hLL] at hp1; obtain ⟨q, hq, e⟩ := List.mem_map.1 hp1; rw [<- e]; exact s.rk.m q hq
 have own2 : OwnP w2 a L := ⟨BRow.base hr, fun p hp => BRow.base (ho.1 p hp).2.1, hmm, by have := s.ln; omega⟩; have own4 : OwnP w4 a L := own2.keep kB (fun g hg hz => by have := har g hg; omega) (fun p hp g hg hz => by have := hfr p hp g hg; omega); refine ⟨L, Grow (fun _ => False) w2', ?_, ?_⟩
 . refine { rel := s.rel, lt := h.lt, hs := by omega, bk := ?_, neg := ?_, ref := ?_, bl := ?_, t2 := ?_, r1 := ?_, b1 := ?_, b2 := ?_, o1 := ?_, o2 := ?_ }
   . exact (s.neg.keep kB (fun g _ hg hz => by
      rcases hz with rfl | hz
      . rcases hg with hg | hg
        . exact h.r1 hg
        . omega
      . rcases hg with hg | hg
        . have := (h.o1 g hg).2; omega
        . omega)).old
   . obtain ⟨X, hX⟩ := s.ref
     exact ⟨X, (hX.keep s.k3 (fun g _ hg hz => by
      rcases hg with hg | hg
      . have := (h.o2 g hg).2; omega
      . omega)).old⟩
   . exact h.bk.keep kA (fun hz => hz.elim l7 l6) (fun g hg hz => hz.elim (fun hz => by have := l3 g hz; omega) (fun hz => by omega))
   . exact h.bl.trans (kA.below zw (fun g hg hz => by
      rcases hz with hz | rfl
      . have := (h.o1 g (h.neg.ts hz)).1; omega
      . omega))
   . rintro g hg ⟨hz | hz, -⟩
     . exact h.t2 g hg hz
     . have := htlt g hg; omega
   . rintro ⟨hz | hz, -⟩
     . exact h.r1 hz
     . omega
   . rintro g ⟨hz | hz, -⟩ hb
     . exact h.b1 g hz hb
     . exact hbv g hz hb
   . rintro g ⟨hz | hz, -⟩ hb
     . exact h.b2 g hz hb
     . exact hbv g (by omega) hb
   . rintro g ⟨hz | hz, hg⟩
     . exact ⟨(h.o1 g hz).1, hg⟩
     . exact ⟨by omega, hg⟩
   . rintro g ⟨hz | hz, hg⟩
     . exact ⟨(h.o2 g hz).1, hg⟩
     . exact ⟨by omega, hg⟩
 . refine ⟨⟨own4, fun g hg => by have := har g hg; omega, fun g hg hz => by have := har g hg; have := h.bk.hasE hz; omega, fun p hp g hg => by have := hfr p hp g hg; omega, fun p hp g hg hz => by have := hfr p hp g hg; have := h.bk.hasD hz; omega, ?_⟩, ?_, ?_, hLL⟩
   . intro i j hi hj hij g h1 h2; have hp := List.pairwise_iff_getElem.1 ho.2
     rcases Nat.lt_or_ge i j with hlt | hge
     . exact hp i j hi hj hlt g h1 h2
     . exact hp j i hj hi (by omega) g h2 h1
   . exact s.rk.keep s.k3 (fun g _ hg hz => by rcases hg with hg | hg; exact hg; omega)
   . rintro g (hg | hg)
     . exact hg.elim
     . exact hbv g (by omega)
structure PSent (w wr : World) (G : PlB) (st sr : NSt) (D E : KD) (S1 S2 : Nat -> Prop) (a b : Value) (L L2 : List (Pk × Value)) : Prop where
 i : PI w wr G st sr D E S1 S2
 a : OwnP wr a L
 b : ∃ ok2, PkR wr ok2 b L2 /\ ∀ g, ok2 g -> g < wr.heap.size /\ ¬ BV D E G.bb g
 e : L.map Prod.fst = L2.map Prod.fst
theorem PkR.old {ok : Nat -> Prop} {a : Value} {L : List (Pk × Value)} (h : PkR w ok a L) : PkR w (fun g => ok g /\ g < w.heap.size) a L :=
 ⟨Rec.old h.r, fun p hp => Rec.old (h.o p hp), h.m⟩
theorem PI.told {a b : Value} {L L2 : List (Pk × Value)} {ok2 : Nat -> Prop} (h : PI w wr G st sr D E S1 S2) (t : PTold wr G D E a b L L2 ok2) : PSent w wr G st sr D E S1 S2 a b L L2 :=
 ⟨h, t.a.own, ⟨_, t.b.old, fun g hg => ⟨hg.2, t.k g hg.1⟩⟩, t.e⟩
theorem PSent.book {a b : Value} {L L2 : List (Pk × Value)} (h : PSent w wr G st sr D E S1 S2 a b L L2) (hb : BookP G.h0 w' G.bb D' E') (hk : BKeep wr w' G.bb D E D' E') : PSent w w' G st sr D' E' S1 S2 a b L L2 where
 i := h.i.book hb hk
 a := h.a.bv h.i.bk hk.kp
 b := by
  obtain ⟨ok2, h1, h2⟩ := h.b; exact ⟨ok2, h1.keep hk.kp (fun g _ hg => (h2 g hg).2), fun g hg => ⟨Nat.lt_of_lt_of_le (h2 g hg).1 hk.kp.size, fun hz => (hk.bv g hz).elim (h2 g hg).2 (fun hl => by have := (h2 g hg).1; omega)⟩⟩
 e := h.e
theorem PSent.below {a b : Value} {L L2 : List (Pk × Value)} (h : PSent w wr G st sr D E S1 S2 a b L L2) (hb : Below wr.heap.size wr w') : PSent w w' G st sr D E S1 S2 a b L L2 :=
 h.book (h.i.bk.below hb) ⟨Keep.of_below _ hb, fun _ h => .inl h⟩
end
structure TurnL (T : TypeId) (k : Nat) (wA wr : World) (g n m c : Nat) : Prop where
 r : ∃ us : List Value, us.length = m /\ BRow T k wr (.slice (some ⟨g, 0, none⟩) n c) n us
 k : Keep (· = g) wA wr
theorem BookP.new {h0 : Nat} {w : World} {bb : Nat} (h : w.heap[bb]? = some (.cells (bookC nilS nilS nilS nilS nilS nilS) 42 (0, 0))) : BookP h0 w bb KD.nil KD.nil where
 blk := h
 i := ShelfV.nil _ _ _ _
 p := ShelfV.nil _ _ _ _
 eqs := fun _ hi => absurd hi (Nat.not_lt_zero _)
 eqp := fun _ hi => absurd hi (Nat.not_lt_zero _)
 lo := fun g hg => by
  rcases hg with ((h | ⟨i, hi, _⟩) | (h | ⟨i, hi, _⟩)) | ((h | ⟨i, hi, _⟩) | (h | ⟨i, hi, _⟩)) <;> first | cases h | exact absurd hi (Nat.not_lt_zero _)
theorem bv_nil {bb g : Nat} (h : BV KD.nil KD.nil bb g) : g = bb := by
 rcases h with h | h | h | h | h <;> first | exact h | cases h
theorem PI.start {w wN wM wL wr : World} {G : PlB} {st : NSt} (hw : w.heap.size <= wN.heap.size) (hneg : NegP wM (fun g => wN.heap.size <= g) G.B G.C st G.jb) (h2 : RNV wL (fun g => wM.heap.size <= g) G.rb G.C st) (hM : Below wM.heap.size wM wL) (h0 : st.ticks = 0)
 (hbk : wr.heap[G.bb]? = some (.cells (bookC nilS nilS nilS nilS nilS nilS) 42 (0, 0))) (hb : wL.heap.size <= G.bb) (hh : G.h0 = G.bb + 1) (hs : G.h0 <= wr.heap.size) (hk : Keep (fun g => g < wN.heap.size) wL wr) (hbl : Below w.heap.size w wr) :
 PI w wr G st st KD.nil KD.nil (fun g => wN.heap.size <= g /\ g < wM.heap.size) (fun g => wM.heap.size <= g /\ g < wL.heap.size) := by
 have hlt : ∀ g, G.B.t g -> g < wM.heap.size /\ wN.heap.size <= g := fun g hg => ⟨hneg.tlt hg, hneg.ts hg⟩; obtain ⟨X, hX⟩ := h2; have hr1 := hX.blt; have hr2 : wM.heap.size <= G.rb := hX.sb; have hNM : wN.heap.size <= wM.heap.size := Nat.le_of_lt (Nat.lt_of_le_of_lt (hlt _ (.inl rfl)).2 (hlt _ (.inl rfl)).1); have hs2 := hM.size
 exact {
  neg := (hneg.old.below hM).keep hk (fun g _ hg hz => by have := hg.1; omega)
  ref := ⟨X, hX.old.keep hk (fun g _ hg hz => by have := hg.1; omega)⟩
  rel := rel_0 st h0
  bk := BookP.new hbk
  bl := hbl
  t2 := fun g hg hz => by have := (hlt g hg).1; omega
  r1 := fun hz => by omega
  b1 := fun g hg hz => by have := bv_nil hz; omega
  b2 := fun g hg hz => by have := bv_nil hz; omega
  o1 := fun g hg => by omega
  o2 := fun g hg => by omega
  lt := ⟨by omega, by omega, fun g hg => by have := (hlt g hg).1; omega, by omega, by omega, by omega, fun hz => by have := (hlt _ hz).1; omega⟩
  hs := hs }
theorem tickS_len (rej : Pk -> ByteArray) (C : NegC) (st : NSt) : (tickS rej C st).2.length <= 20 := by
 unfold tickS
 split
 . split
   . exact Nat.zero_le _
   . unfold toldS; refine Nat.le_trans (sayL_len _ _ _ _ _) ?_; unfold tmoL
     split
     . exact nextL_len _ _
     . exact Nat.zero_le _
 . exact Nat.zero_le _
theorem doS_len (C : NegC) (st : NSt) (ev : Int) : (doS C st ev).2.length <= 20 := by
 unfold doS
 split
 . exact evS_len _ _ _ _ _
 . exact Nat.zero_le _
section
variable {w wr w' : World} {G : PlB} {st sr st' sr' : NSt} {D E D' E' : KD} {S1 S2 : Nat -> Prop} {a b : Value} {L L2 : List (Pk × Value)} {ok2 : Nat -> Prop}
def PlayV (w wr : World) (G : PlB) : Prop := ∃ st sr D E S1 S2, PI w wr G st sr D E S1 S2
def MidV (w wc : World) (G : PlB) (a b : Value) : Prop := ∃ st sr D E S1 S2 L L2 ok2, PI w wc G st sr D E S1 S2 /\ PTold wc G D E a b L L2 ok2
theorem MidV.of {w1 w2 w2' w3 w4 : World} {r1 r2 : NSt × List Pk} (h : PI w wr G st sr D E S1 S2) (h1 : Below wr.heap.size wr w1) (e1 : EvP w1 w2 S1 (fun _ => False) G.B G.C G.jb r1 (.returned a)) (h2 : Below w2.heap.size w2 w2')
 (e2 : RNPost w2' w3 S2 (fun _ => False) G.rb G.C r2 (.returned b)) (hk : Keep (fun g => wr.heap.size <= g /\ g < w1.heap.size) w3 w4) (hr : r2.2 = r1.2 /\ Rel r1.1 r2.1) (hl : r1.2.length <= 20) : MidV w w4 G a b := by
 obtain ⟨v, ev, p1, p2, p3⟩ := e1; cases ev
 obtain ⟨v', L2, ev', q1, q2, q3, q4⟩ := e2; cases ev'
 obtain ⟨L, ok2, g1, g2⟩ := h.step (st' := r1.1) (sr' := r2.1) (l := r1.2) (L2 := L2) ⟨h1, p1, p2, p3, h2, q2, q3, q4, hk, hr.2, q1.trans hr.1, by omega⟩; exact ⟨_, _, _, _, _, _, _, _, _, g1, g2⟩
theorem PI.sent (h : PI w wr G st sr D E S1 S2) (t : PTold wr G D E a b L L2 ok2) :
 Calls Tryz.prog 51 #[.pointer (some ⟨G.bb, 0, none⟩), a] wr fun e w' => (∃ r, e = .returned r) /\ ∃ D' E', PSent w w' G st sr D' E' S1 S2 a b L L2 := by
 have hlt := h.lt; refine (sentV_any h.bk hlt.2.1 h.hs t.a).mono ?_; rintro e w' ⟨hr, D', E', hb, hk, -, -⟩; exact ⟨hr, D', E', (h.told t).book hb hk⟩
def Fr (G : PlB) (D : KD) (x : Value) : Prop := ∀ g, x.ownBlock = some g -> ¬ D.Has g /\ G.h0 <= g /\ g ≠ G.bb
def mineL (st : NSt) : List Opt := if st.s = 9 then st.mine else []
def theirsL (st : NSt) : List Opt := if st.s = 9 then st.theirs else []
theorem PI.lens (h : PI w wr G st sr D E S1 S2) : (mineL st).length <= 1000 /\ (theirsL st).length <= 1000 := by
 obtain ⟨X, hX⟩ := h.ref; have h1 := hX.lm; have h2 := hX.lt; obtain ⟨e1, e2, e3, e4, e5, e6⟩ := h.rel.s; rw [e3] at h1; rw [e4] at h2; unfold mineL theirsL
 constructor
 . split
   . exact h1
   . exact Nat.zero_le _
 . split
   . exact h2
   . exact Nat.zero_le _
theorem PI.mine (h : PI w wr G st sr D E S1 S2) : Calls Tryz.prog 52 #[.pointer (some ⟨G.B.nb, 0, none⟩)] wr fun e w' => ∃ v, e = .returned v /\ BRow 91 2 w' v (mineL st).length (oV (mineL st)) /\ (∀ g, v.ownBlock = some g -> wr.heap.size <= g) /\ Below wr.heap.size wr w' := by
 refine (MineP h.neg).mono ?_; rintro e w' ⟨v, rfl, hv, hb⟩; exact ⟨v, rfl, BRow.base hv, fun g hg => (ORow.lt hv g hg).2, hb⟩
theorem PI.theirs (h : PI w wr G st sr D E S1 S2) : Calls Tryz.prog 53 #[.pointer (some ⟨G.B.nb, 0, none⟩)] wr fun e w' => ∃ v, e = .returned v /\ BRow 91 2 w' v (theirsL st).length (oV (theirsL st)) /\ (∀ g, v.ownBlock = some g -> wr.heap.size <= g) /\ Below wr.heap.size wr w' := by
 refine (TheirsP h.neg).mono ?_; rintro e w' ⟨v, rfl, hv, hb⟩; exact ⟨v, rfl, BRow.base hv, fun g hg => (ORow.lt hv g hg).2, hb⟩
theorem PI.mine9 (h : PI w wr G st sr D E S1 S2) : Calls Tryz.prog 57 #[.pointer (some ⟨G.rb, 0, none⟩)] wr fun e w' => ∃ v, e = .returned v /\ Opts wr (fun _ => True) v (mineL st) /\ wr = w' := by
 obtain ⟨X, hX⟩ := h.ref; obtain ⟨e1, e2, e3, e4, e5, e6⟩ := h.rel.s; have := Mine9 hX; rw [e1, e3] at this; exact this
theorem PI.theirs9 (h : PI w wr G st sr D E S1 S2) : Calls Tryz.prog 58 #[.pointer (some ⟨G.rb, 0, none⟩)] wr fun e w' => ∃ v, e = .returned v /\ Opts wr (fun _ => True) v (theirsL st) /\ wr = w' := by
 obtain ⟨X, hX⟩ := h.ref; obtain ⟨e1, e2, e3, e4, e5, e6⟩ := h.rel.s; have := Theirs9 hX; rw [e1, e4] at this; exact this
theorem PI.sameM {x v : Value} {xs : List Opt} (hx : BRow 91 2 wr x xs.length (oV xs)) (hl : xs.length <= 1000) (hv : Opts wr (fun _ => True) v xs) :
 Calls Tryz.prog 30 #[x, v] wr fun e w' => e = .returned (.bool true) /\ Below wr.heap.size wr w' := by
 refine (sameP_any xs xs x v _ _ wr (brow_opts hx (by omega)) hv (by omega) (by omega)).mono ?_; rintro e w' ⟨⟨y, rfl, hy⟩, hb⟩; rw [hy.2 rfl]; exact ⟨rfl, hb⟩
theorem PI.cells (h : PI w wr G st sr D E S1 S2) : wr.cell? ⟨G.rb, 10, none⟩ = some (.int .i64 st.s) /\ wr.cell? ⟨G.rb, 19, none⟩ = some (.int .i64 st.ups) /\ wr.cell? ⟨G.rb, 20, none⟩ = some (.int .i64 st.downs) := by
 obtain ⟨X, hX⟩ := h.ref; obtain ⟨e1, e2, e3, e4, e5, e6⟩ := h.rel.s; have h1 : wr.cell? ⟨G.rb, 10, none⟩ = some (.int .i64 sr.s) := hX.cell 10; have h2 : wr.cell? ⟨G.rb, 19, none⟩ = some (.int .i64 sr.ups) := hX.cell 19; have h3 : wr.cell? ⟨G.rb, 20, none⟩ = some (.int .i64 sr.downs) := hX.cell 20; rw [e1] at h1; rw [e5] at h2; rw [e6] at h3; exact ⟨h1, h2, h3⟩
theorem PSent.same (s : PSent w wr G st sr D E S1 S2 a b L L2) : Calls Tryz.prog 55 #[a, b] wr fun e w' => e = .returned (.bool true) /\ Below wr.heap.size wr w' := by
 obtain ⟨ok2, hb, -⟩ := s.b; exact sameK_true L L2 a b _ _ wr s.a.pk hb s.e (by have := s.a.l; omega)
end
end Go.Proofs.YtignponfoheaeaaGreat
