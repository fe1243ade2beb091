import Derived.Test.YtbiaempeegfdkaaGreatPAQ
import Derived.Test.YtbiaempeegfdkaaGreatPAV
import Derived.Deep.DeepCutAuto
import Derived.Deep.CutBlock
import Derived.Test.YtbiaempeegfdkaaGreatPAA
import Derived.Test.YtbiaempeegfdkaaGreatPAS
import Derived.Test.YtbiaempeegfdkaaGreatPAO
set_option linter.unusedVariables false
set_option linter.unusedSimpArgs false
set_option maxHeartbeats 16000000
namespace Go.Proofs.YtbiaempeegfdkaaGreat
open Go.RowKit Go.Tg Go.Maps
structure SCfg where
 name : ByteArray
 secret : ByteArray
 mru : Int
 magic : Int
 echo : Int
 cf : Int
 tm : Int
 fl : Int
 wt : Int
 retry : Int
 dns : Bool
def SCfg.l (c : SCfg) : LCfg := ⟨c.mru, 0, c.magic, c.echo, c.cf, c.tm, c.fl, c.wt⟩
def SCfg.v (c : SCfg) : Value := .agg #[.string c.name, .string c.secret, .int .i64 c.mru, .int .i64 c.magic, .int .i64 c.echo, .int .i64 c.cf, .int .i64 c.tm, .int .i64 c.fl, .int .i64 c.wt, .int .i64 c.retry, .bool c.dns]
structure SB where
 b : Nat
 L : LB
 pa : Nat
 ch : Nat
 ip : Nat
def subCells (c : SCfg) (K : SB) (st : Int) (ov : Value) : Array Value :=
 #[.string c.name, .string c.secret, .int .i64 c.mru, .int .i64 c.magic, .int .i64 c.echo, .int .i64 c.cf, .int .i64 c.tm, .int .i64 c.fl, .int .i64 c.wt, .int .i64 c.retry, .bool c.dns,
  .pointer (some ⟨K.L.tb, 0, none⟩), .pointer (some ⟨K.L.lb, 0, none⟩), .pointer (some ⟨K.pa, 0, none⟩), .pointer (some ⟨K.ch, 0, none⟩), .pointer (some ⟨K.ip, 0, none⟩), .int .i64 st, .slice none 0 0, ov, .slice none 0 0, .int .i64 0, .int .i64 0]
theorem LcpV.old {w : World} {U : Nat -> Prop} {L : LB} {C : NegC} {echo : Int} {s : LSt} (h : LcpV w U L C echo s) : LcpV w (fun g => U g /\ g < w.heap.size) L C echo s := by
 obtain ⟨S, ok, X, h, hu⟩ := h; refine ⟨_, ok, X, h.old, fun b hb => ?_⟩
 rcases hb with hb | hb | rfl | rfl
 . exact ⟨hu b (.inl hb.1), hb.2⟩
 . exact ⟨hu b (.inr (.inl hb)), (h.n3 b hb).2.2⟩
 . exact ⟨hu _ (.inr (.inr (.inl rfl))), h.llt⟩
 . exact ⟨hu _ (.inr (.inr (.inr rfl))), h.tlt⟩
def SU (w0 : World) (K : SB) (ov : Value) (g : Nat) : Prop := w0.heap.size <= g /\ g ≠ K.b /\ ov.ownBlock ≠ some g
structure SubAt (w0 w : World) (c : SCfg) (K : SB) (s : LSt) (st : Int) (ov : Value) (fr : List ByteArray) : Prop where
 blk : w.heap[K.b]? = some (.cells (subCells c K st ov) 38 (0, 0))
 lk : LcpV w (SU w0 K ov) K.L (lC c.l K.L.lb) c.echo s
 out : SRow w w0.heap.size ov fr
 nb : ov.ownBlock ≠ some K.b
 lo : w0.heap.size <= K.b
 bl : Below w0.heap.size w0 w
section
variable {w0 w w' : World} {c : SCfg} {K : SB} {s s' : LSt} {st : Int} {ov x : Value} {fr fr' : List ByteArray}
theorem SubAt.lt (h : SubAt w0 w c K s st ov fr) : K.b < w.heap.size := (Array.getElem?_eq_some_iff.1 h.blk).1
theorem SubAt.fz (h : SubAt w0 w c K s st ov fr) (o : Nat) : w.frozen? ⟨K.b, o, none⟩ = false := frozen_of_block h.blk o
theorem SubAt.go (h : SubAt w0 w c K s st ov fr) (hb : Below w.heap.size w w') : SubAt w0 w' c K s st ov fr :=
 { h with blk := (hb.block _ h.lt).trans h.blk, lk := h.lk.below hb, out := h.out.below hb, bl := h.bl.trans (hb.mono h.bl.size) }
theorem SubAt.link (h : SubAt w0 w c K s st ov fr) (hv : LcpV w' (Grow (SU w0 K ov) w) K.L (lC c.l K.L.lb) c.echo s') (hk : Keep K.L.t w w') : SubAt w0 w' c K s' st ov fr where
 blk := (hk.block _ h.lt (fun he => (h.lk.us he).2.1 rfl)).trans h.blk
 lk := hv.mono fun g hg => hg.elim id fun hg => ⟨Nat.le_trans h.bl.size hg, fun e => by have := h.lt; omega, fun e => by have := (h.out.lt g e).1; omega⟩
 out := h.out.keep hk (fun k hk' he => (h.lk.us he).2.2 hk')
 nb := h.nb
 lo := h.lo
 bl := h.bl.trans (hk.below h.bl.size (fun g hg he => by have := (h.lk.us he).1; omega))
theorem SubAt.app (h : SubAt w0 w c K s st ov fr) (hk : Keep (fun k => ov.ownBlock = some k) w w') (hr : SRow w' w0.heap.size x fr') (ho : x.ownBlock = ov.ownBlock \/ x.ownBlock = some w.heap.size) : SubAt w0 (w'.setCell ⟨K.b, 18, none⟩ x) c K s st x fr' := by
 have hk2 : Keep (fun b => b = K.b) w' (w'.setCell ⟨K.b, 18, none⟩ x) := (Keep.refl (fun b => b = K.b) w').setCell ⟨K.b, 18, none⟩ (Or.inr rfl) x; have hlt := h.lt; have hy := (hk.block K.b hlt (fun he => h.nb he)).trans h.blk
 have hxb : x.ownBlock ≠ some K.b := fun e => by
  rcases ho with ho | ho
  . exact h.nb (by rw [<- ho]; exact e)
  . rw [ho] at e; have := Option.some.inj e; omega
 have hl := h.lk.old.keep hk (fun b hb hu he => hu.1.2.2 he); have hl2 := hl.keep hk2 (fun b hb hu he => hu.1.2.1 he)
 exact {
  blk := by have := set_block hy 18 x; simpa [subCells] using this
  lk := hl2.mono fun g hg => ⟨hg.1.1, hg.1.2.1, fun e => by
   rcases ho with ho | ho
   . exact hg.1.2.2 (by rw [<- ho]; exact e)
   . rw [ho] at e; cases e; exact Nat.lt_irrefl _ hg.2⟩
  out := hr.keep hk2 (fun k hk' he => hxb (by rw [<- he]; exact hk'))
  nb := hxb
  lo := h.lo
  bl := h.bl.trans ((hk.below h.bl.size (fun g hg he => by have := (h.out.lt g he).2; omega)).trans (hk2.below (Nat.le_trans h.bl.size hk.size) (fun g hg he => by have he : g = K.b := he; have := h.lo; omega))) }
theorem SubAt.clr (h : SubAt w0 w c K s st ov fr) : SubAt w0 (w.setCell ⟨K.b, 18, none⟩ (.slice none 0 0)) c K s st (.slice none 0 0) [] := by
 have hk2 : Keep (fun b => b = K.b) w (w.setCell ⟨K.b, 18, none⟩ (.slice none 0 0)) := (Keep.refl (fun b => b = K.b) w).setCell ⟨K.b, 18, none⟩ (Or.inr rfl) _
 exact {
  blk := by have := set_block h.blk 18 (.slice none 0 0); simpa [subCells] using this
  lk := (h.lk.keep hk2 (fun b hb hu he => hu.2.1 he)).mono fun g hg => ⟨hg.1, hg.2.1, fun e => by cases e⟩
  out := World.ownsRow_nil _ _ _ _
  nb := fun e => by cases e
  lo := h.lo
  bl := h.bl.trans (hk2.below h.bl.size (fun g hg he => by have he : g = K.b := he; have := h.lo; omega)) }
theorem SubAt.sSt (h : SubAt w0 w c K s st ov fr) (n : Int) : SubAt w0 (w.setCell ⟨K.b, 16, none⟩ (.int .i64 n)) c K s n ov fr := by
 have hk2 : Keep (fun b => b = K.b) w (w.setCell ⟨K.b, 16, none⟩ (.int .i64 n)) := (Keep.refl (fun b => b = K.b) w).setCell ⟨K.b, 16, none⟩ (Or.inr rfl) _
 exact {
  blk := by have := set_block h.blk 16 (.int .i64 n); simpa [subCells] using this
  lk := h.lk.keep hk2 (fun b hb hu he => hu.2.1 he)
  out := h.out.keep hk2 (fun k hk' he => h.nb (by have he : k = K.b := he; rw [<- he]; exact hk'))
  nb := h.nb
  lo := h.lo
  bl := h.bl.trans (hk2.below h.bl.size (fun g hg he => by have he : g = K.b := he; have := h.lo; omega)) }
end
theorem PRow.at {w : World} {base : Nat} {sa : Option Addr} {n cp : Nat} {L : List (Pk × Value)} (h : PRow w base (.slice sa n cp) L) (hm : L.length <= maxLen) (i : Nat) (hi : i < L.length) : ∃ b off, sa = some ⟨b, off, none⟩ /\ b < w.heap.size /\ base <= b /\ n = L.length /\ n <= cp /\ cp <= maxLen /\
 w.cell? ⟨b, off + i * 4, none⟩ = some (.int .i64 L[i].1.code) /\ w.cell? ⟨b, off + i * 4 + 1, none⟩ = some (.int .i64 L[i].1.id) /\ w.cell? ⟨b, off + i * 4 + 2, none⟩ = some L[i].2 /\ w.cell? ⟨b, off + i * 4 + 3, none⟩ = some (.string L[i].1.d) := by
 have hr : Rec 4 w (fun b => base <= b) (.slice sa n cp) (pkL L) := Rec.of_owns h (pkL_len L).symm (pkL_k L) hm
 have hp : n = L.length := by
  obtain ⟨sa', c', e⟩ := h.form; cases e; rfl
 obtain ⟨b, off, h1, h2, h3, -, h5, h6, h7⟩ := Rec.at hr i (by rw [pkL_len]; exact hi); have e : (pkL L)[i]'(by rw [pkL_len]; exact hi) = pkCells L[i] := by simp [pkL]
 have g := fun j u (hu : (pkCells L[i])[j]? = some u) => h7 j u (by rw [e]; exact hu); exact ⟨b, off, h1, h2, h3, hp, h5, h6, g 0 _ rfl, g 1 _ rfl, g 2 _ rfl, g 3 _ rfl⟩
structure SayI (w0 w wr : World) (c : SCfg) (K : SB) (s : LSt) (st : Int) (v : Value) (L : List (Pk × Value)) (N : Nat) (ov0 ov : Value) (fr : List ByteArray) : Prop where
 at' : SubAt w0 wr c K s st ov fr
 row : PRow wr 0 v L
 op : POpts wr (fun g => g < N /\ g ≠ K.b /\ ov0.ownBlock ≠ some g) L
 vb : ∀ k, v.ownBlock = some k -> k < N /\ k ≠ K.b /\ ov0.ownBlock ≠ some k
 ob : ∀ k, ov.ownBlock = some k -> ov0.ownBlock = some k \/ N <= k
 bl : N <= wr.heap.size
section
variable {w0 w wr w' : World} {c : SCfg} {K : SB} {s : LSt} {st : Int} {v ov0 ov x : Value} {L : List (Pk × Value)} {N : Nat} {fr fr' : List ByteArray}
theorem SayI.go (h : SayI w0 w wr c K s st v L N ov0 ov fr) (hb : Below wr.heap.size wr w') : SayI w0 w w' c K s st v L N ov0 ov fr :=
 { h with at' := h.at'.go hb, row := h.row.below hb, op := h.op.keep (Keep.of_below (fun _ => False) hb) (fun _ _ _ h => h), bl := Nat.le_trans h.bl hb.size }
theorem SayI.app (h : SayI w0 w wr c K s st v L N ov0 ov fr) (hk : Keep (fun k => ov.ownBlock = some k) wr w') (hr : SRow w' w0.heap.size x fr') (ho : x.ownBlock = ov.ownBlock \/ x.ownBlock = some wr.heap.size) : SayI w0 w (w'.setCell ⟨K.b, 18, none⟩ x) c K s st v L N ov0 x fr' := by
 have hk2 : Keep (fun b => b = K.b) w' (w'.setCell ⟨K.b, 18, none⟩ x) := (Keep.refl (fun b => b = K.b) w').setCell ⟨K.b, 18, none⟩ (Or.inr rfl) x
 have no : ∀ k, k < N -> ov0.ownBlock ≠ some k -> ¬ ov.ownBlock = some k := fun k hk h0 e => by
  rcases h.ob k e with e' | e'
  . exact h0 e'
  . omega
 exact {
  at' := h.at'.app hk hr ho
  row := (h.row.keep hk (fun k hk' => no k (h.vb k hk').1 (h.vb k hk').2.2)).keep hk2 (fun k hk' e => (h.vb k hk').2.1 e)
  op := (h.op.keep hk (fun b _ hb => no b hb.1 hb.2.2)).keep hk2 (fun b _ hb e => hb.2.1 e)
  vb := h.vb
  ob := fun k e => by
   rcases ho with ho | ho
   . exact h.ob k (by rw [<- ho]; exact e)
   . rw [ho] at e; have := Option.some.inj e; have := h.bl; exact .inr (by omega)
  bl := by have := h.bl; have := hk.size; have := hk2.size; omega }
end
theorem frS_snoc (proto : Nat) (l : List Pk) (p : Pk) : frS proto (l ++ [p]) = frS proto l ++ (if (putPk p).2 = 0 then [pppB proto (putPk p).1] else []) := by
 unfold frS; rw [List.filterMap_append]
 congr 1
 simp only [List.filterMap_cons, List.filterMap_nil]
 split <;> simp_all
set_option maxRecDepth 100000 in
theorem say_at {w0 w : World} {c : SCfg} {K : SB} {s : LSt} {st : Int} {ov : Value} {fr : List ByteArray} (h : SubAt w0 w c K s st ov fr) (proto : Nat) (hp : proto < 65536) (hpr : isPr (proto : Int) = true) (h1 : (proto : Int) ≠ 49187) (h2 : (proto : Int) ≠ 49699)
 (l : List Pk) (v : Value) (ok : Nat -> Prop) (base : Nat) (hv : PksAt w ok base v l) (hok : ∀ g, ok g \/ base <= g -> g ≠ K.b /\ ov.ownBlock ≠ some g) (hl : l.length <= 100) (hfr : fr.length <= 100000) (hpk : ∀ p ∈ l, PkOk p) :
 Calls Tryz.prog 29 #[.pointer (some ⟨K.b, 0, none⟩), .int .i64 (proto : Int), v] w fun e w' => ∃ ov', e = .returned (.tuple #[]) /\ SubAt w0 w' c K s st ov' (fr ++ frS proto l) := by
 obtain ⟨L, rfl, hrow, hop⟩ := hv; rw [List.length_map] at hl; obtain ⟨sa, sc, rfl⟩ := hrow.form
 have hS : SayI w0 w w c K s st (.slice sa L.length sc) L w.heap.size ov ov fr := {
  at' := h
  row := hrow.base (Nat.zero_le _)
  op := ⟨fun p hp => ⟨Rec.mono (Rec.old (hop.1 p hp).1) (fun g hg => ⟨hg.2, hok g (.inl hg.1)⟩), (hop.1 p hp).2.1, fun k hk => ⟨((hop.1 p hp).2.1.lt k hk).1, hok k (.inl ((hop.1 p hp).2.2 k hk))⟩⟩, hop.2⟩
  vb := fun k hk => ⟨(hrow.lt k hk).1, hok k (.inr (hrow.lt k hk).2)⟩
  ob := fun k e => .inl e
  bl := Nat.le_refl _ }
 have HS := H_ hS; have HPK := H_ hpk; clear h hop hrow hok hS hpk; go_enter Tryz.func29, Tryz.ntmps29; go_wp2_with fail; obtain ⟨n, hn⟩ : ∃ n, n = L.length := ⟨_, rfl⟩; rw [<- hn] at HS hl ⊢; have HN := H_ hn; clear hn
 go_loopg [14] n (fun x i wr => ∃ k : Nat, k <= n /\ x = n - k /\ i = .int .i64 k /\ Hid (∃ ovr, SayI w0 w wr c K s st (.slice sa n sc) L w.heap.size ov ovr (fr ++ frS proto ((L.take k).map Prod.fst))))
 case atStart => exact ⟨0, by omega, by omega, rfl, ov, by simpa [frS] using HS.out⟩
 case round =>
  obtain ⟨k, hk, rfl, rfl, hK⟩ := hrel; obtain ⟨ovr, hI⟩ := hK.out; have HI := H_ hI; clear hI hK HS
  by_cases hkn : k < n
  . have hkL : k < L.length := by have := HN.out; omega
    obtain ⟨b, off, rfl, hbl, -, -, hcl, hcm, k0, k1, k2, k3⟩ := HI.out.row.at (by unfold maxLen; have := HN.out; omega) k hkL; have hqo := HI.out.op.1 _ (List.getElem_mem hkL); have hqk := HPK.out L[k].1 (List.mem_map.2 ⟨L[k], List.getElem_mem hkL, rfl⟩)
    have htk : (L.take (k + 1)).map Prod.fst = (L.take k).map Prod.fst ++ [L[k].1] := by
     rw [List.take_succ_eq_append_getElem hkL, List.map_append]; rfl
    have hft := frS_snoc proto ((L.take k).map Prod.fst) L[k].1; rw [<- htk] at hft; have hft : fr ++ frS proto ((L.take (k + 1)).map Prod.fst) = (fr ++ frS proto ((L.take k).map Prod.fst)) ++ (if (putPk L[k].1).2 = 0 then [pppB proto (putPk L[k].1).1] else []) := by rw [hft, List.append_assoc]
    have hfl : (fr ++ frS proto ((L.take k).map Prod.fst)).length <= 200000 := by
     have h1 : (frS proto ((L.take k).map Prod.fst)).length <= ((L.take k).map Prod.fst).length := List.length_filterMap_le _ _; rw [List.length_append]; rw [List.length_map, List.length_take] at h1; omega
    have HQ := H_ (A_ hqo (A_ hqk (A_ hft hfl))); clear hqo hqk htk hft hfl; generalize L[k] = q at *; obtain ⟨⟨pc, pid, po, pd⟩, pv⟩ := q; obtain ⟨pa, pq, epv, -, -⟩ := HQ.out.1.1.form; simp only at k0 k1 k2 k3 epv
    subst epv; unfold maxLen at hcm
    go_upto_region 3 with (fail)
    have hb0 : Below wr.heap.size wr (wr.alloc (.cells #[.int .i64 pc, .int .i64 pid, .slice pa po.length pq, .string pd] 59 (0, 0))) := (Below.refl _ _).alloc (Nat.le_refl _) _; have hz0 := at1 wr (.cells #[.int .i64 pc, .int .i64 pid, .slice pa po.length pq, .string pd] 59 (0, 0)); have HI0 := H_ (HI.out.go hb0); have hop : Opts (wr.alloc (.cells #[.int .i64 pc, .int .i64 pid, .slice pa po.length pq, .string pd] 59 (0, 0))) (fun g => g < w.heap.size /\ g ≠ K.b /\ ov.ownBlock ≠ some g) (.slice pa po.length pq) po := HQ.out.1.1.below hb0; have hpk : PkOk ⟨pc, pid, po, pd⟩ := HQ.out.2.1; have HP := H_ (putOf_any (proto : Int) ⟨pc, pid, po, pd⟩ (.slice pa po.length pq) _ _ h1 h2 hop (by have := hpk.len; dsimp only at this; omega) (fun o ho => by have := hpk.vs o ho; omega) (by have := hpk.ds; dsimp only at this; omega)); have HF := H_ (A_ HQ.out.2.2.1 HQ.out.2.2.2); have HSZ := H_ (putPk_size ⟨pc, pid, po, pd⟩)
    dsimp only at HF
    generalize fr ++ frS proto ((L.take k).map Prod.fst) = fk at *; unfold pkV at HP; clear hop hpk HQ HI hb0 k0 k1 k2 k3; generalize (putPk ⟨pc, pid, po, pd⟩).1 = d at *; generalize (putPk ⟨pc, pid, po, pd⟩).2 = z at *; generalize wr.alloc (.cells #[.int .i64 pc, .int .i64 pid, .slice pa po.length pq, .string pd] 59 (0, 0)) = wx at *; have c0 := cellOf hz0 0 _ rfl; have c1 := cellOf hz0 1 _ rfl; have c2 := cellOf hz0 2 _ rfl; have c3 := cellOf hz0 3 _ rfl; clear hz0; go_wp2_with fail; clear c0 c1 c2 c3; refine HP.out.mono ?_; rintro e w1 ⟨rfl, hb1⟩; have HI1 := H_ (HI0.out.go hb1); clear hb1 HI0 HP
    by_cases hz : z = 0
    . subst hz; have HPP := H_ (putPpp_any proto d w1 hp hpr HSZ.out); go_wp2_with fail; refine HPP.out.mono ?_; rintro e w2 ⟨rfl, hb2⟩; have HI2 := H_ (HI1.out.go hb2); obtain ⟨oa, oc, eo⟩ := HI2.out.at'.out.form; subst eo; have s18 : w2.cell? ⟨K.b, 18, none⟩ = some (.slice oa _ oc) := cellOf HI2.out.at'.blk 18 _ rfl; have K1 := H_ (HI2.out.go ((Below.refl _ _).alloc (Nat.le_refl _) (.cells #[.string (pppB proto d)] 9 (0, 0)))); have HN1 := H_ (at1 w2 (.cells #[.string (pppB proto d)] 9 (0, 0))); clear hb2 HI1 HPP; have HSB := H_ HI2.out.at'.nb
      go_wp2_with (first
       | (
        at_builtin; refine wpl_append_str rfl _ _ rfl _ _ rfl K1.out.at'.out _ 1 (pppB proto d) rfl HN1.out (by have := HF.out.2; omega) K1.out.at'.bl.size ?_
        intro g cap T r5 k5 o5; have I1 := H_ (K1.out.app k5 r5 (o5.elim (fun h => Or.inl h.symm) (fun h => Or.inr (congrArg some h)))); have y4 := (k5.block _ K1.out.at'.lt (fun he => HSB.out he)).trans K1.out.at'.blk; have u2 : T.cell? ⟨K.b, 18, none⟩ = some (.slice oa _ oc) := cellOf y4 18 _ rfl; have f2 := fun o => fzOf y4 o
        clear r5 k5 o5 y4))
      go_roundg (n - (k + 1))
      case measure => omega
      case rel => exact ⟨k + 1, by omega, rfl, by go_num, _, by rw [HF.out.1, if_pos trivial]; exact I1.out⟩
    . have e1 : (z != 0) = true := by simpa using hz
      have e2 : (z == 0) = false := by simpa using hz
      have HZ := H_ hz; clear hz; go_wp2_with fail
      go_roundg (n - (k + 1))
      case measure => omega
      case rel => exact ⟨k + 1, by omega, rfl, by go_num, _, by rw [HF.out.1, if_neg HZ.out, List.append_nil]; exact HI1.out⟩
  . obtain rfl : k = n := by omega
    have HT := H_ (show (L.take k).map Prod.fst = L.map Prod.fst by rw [HN.out, List.take_length]); go_wp2_with fail
    go_end0
    exact ⟨_, rfl, by rw [<- HT.out]; exact HI.out.at'⟩
section
variable {w0 w w' : World} {c : SCfg} {K : SB} {s : LSt} {st : Int} {ov : Value} {fr : List ByteArray}
theorem snone_at (h : SubAt w0 w c K s st ov fr) : Calls Tryz.prog 22 #[.pointer (some ⟨K.b, 0, none⟩)] w fun e w' => e = .returned (.bool false) /\ w = w' := by
 have q1 : ∀ w a, (binOp .eql 25 (.pointer (some a)) (.pointer none)).run Tryz.prog w = .ok (.bool false) w := fun w a => by kernel_rfl
 have q2 : ∀ w a, (binOp .eql 29 (.pointer (some a)) (.pointer none)).run Tryz.prog w = .ok (.bool false) w := fun w a => by kernel_rfl
 have c12 : w.cell? ⟨K.b, 12, none⟩ = some (.pointer (some ⟨K.L.lb, 0, none⟩)) := cellOf h.blk 12 _ rfl; clear h; go_enter Tryz.func22, Tryz.ntmps22; go_wp2_with fail; go_ret; exact ⟨rfl, rfl⟩
theorem sState_at (h : SubAt w0 w c K s st ov fr) : Calls Tryz.prog 15 #[.pointer (some ⟨K.b, 0, none⟩)] w fun e w' => e = .returned (.int .i64 st) /\ w = w' := by
 have HN := H_ (snone_at h); have c16 : w.cell? ⟨K.b, 16, none⟩ = some (.int .i64 st) := cellOf h.blk 16 _ rfl; clear h; go_enter Tryz.func15, Tryz.ntmps15; go_wp2_with fail; refine HN.out.mono ?_; rintro e w1 ⟨rfl, rfl⟩; go_wp2_with fail; go_ret; exact ⟨rfl, rfl⟩
theorem lk_state {U : Nat -> Prop} {L : LB} {C : NegC} {E : Int} (h : LcpV w U L C E s) : Calls Tryz.prog 104 #[.pointer (some ⟨L.lb, 0, none⟩)] w fun e w' => e = .returned (.int .i64 s.st.s) /\ w = w' := by
 obtain ⟨S, ok, X, hv, hu⟩ := h; exact LState_at hv
def shutB (s : LSt) : Bool := s.st.s == 2 || s.st.s == 3
set_option maxRecDepth 100000 in
theorem linked_at (h : SubAt w0 w c K s st ov fr) (b : Bool) (hb : shutB s = b) : Calls Tryz.prog 105 #[.pointer (some ⟨K.b, 0, none⟩), .bool false] w fun e w' => e = .returned (.bool b) /\ SubAt w0 w' c K s (if b then 0 else st) ov fr := by
 have HL := H_ (lk_state h.lk); have c12 : w.cell? ⟨K.b, 12, none⟩ = some (.pointer (some ⟨K.L.lb, 0, none⟩)) := cellOf h.blk 12 _ rfl; have c16 : w.cell? ⟨K.b, 16, none⟩ = some (.int .i64 st) := cellOf h.blk 16 _ rfl; have fz := h.fz; have H := H_ h; clear h; unfold shutB at hb; generalize s.st.s = z at *
 by_cases h2 : z = 2
 . subst h2; obtain rfl : b = true := by rw [<- hb]; rfl
   clear hb; go_enter Tryz.func105, Tryz.ntmps105; go_wp2_with fail; refine HL.out.mono ?_; rintro e w1 ⟨rfl, rfl⟩; go_wp2_with fail; go_ret; exact ⟨rfl, H.out.sSt 0⟩
 . have e2 : (z == 2) = false := by simpa using h2
   by_cases h3 : z = 3
   . subst h3; obtain rfl : b = true := by rw [<- hb]; rfl
     clear hb; go_enter Tryz.func105, Tryz.ntmps105; go_wp2_with fail; refine HL.out.mono ?_; rintro e w1 ⟨rfl, rfl⟩; go_wp2_with fail; go_ret; exact ⟨rfl, H.out.sSt 0⟩
   . have e3 : (z == 3) = false := by simpa using h3
     obtain rfl : b = false := by rw [<- hb, e2, e3]; rfl
     clear hb h2 h3; go_enter Tryz.func105, Tryz.ntmps105; go_wp2_with fail; refine HL.out.mono ?_; rintro e w1 ⟨rfl, rfl⟩; go_wp2_with fail; go_ret; exact ⟨rfl, H.out⟩
def lookB (s : LSt) (st : Int) : Bool := st == 1 && shutB s
def lookS (s : LSt) (st : Int) : Int := if lookB s st then 0 else st
set_option maxRecDepth 100000 in
theorem look_at (h : SubAt w0 w c K s st ov fr) (hs : s.st.s ≠ 9) (hst : st = 0 \/ st = 1) (b : Bool) (hb : lookB s st = b) : Calls Tryz.prog 63 #[.pointer (some ⟨K.b, 0, none⟩)] w fun e w' => e = .returned (.bool b) /\ SubAt w0 w' c K s (if b then 0 else st) ov fr := by
 have HL := H_ (lk_state h.lk); have c12 : w.cell? ⟨K.b, 12, none⟩ = some (.pointer (some ⟨K.L.lb, 0, none⟩)) := cellOf h.blk 12 _ rfl; have c16 : w.cell? ⟨K.b, 16, none⟩ = some (.int .i64 st) := cellOf h.blk 16 _ rfl; have e9 : (s.st.s == 9) = false := by simpa using hs
 have H := H_ h; clear h hs
 rcases hst with rfl | rfl
 . obtain rfl : b = false := by rw [<- hb]; rfl
   clear hb; generalize hz : s.st.s = z at *; have HZ := H_ hz; clear hz; go_enter Tryz.func63, Tryz.ntmps63; go_wp2_with fail; refine HL.out.mono ?_; rintro e w1 ⟨rfl, rfl⟩; go_wp2_with fail; go_ret; exact ⟨rfl, H.out⟩
 . have HK := H_ (linked_at H.out b (by rw [<- hb]; rfl)); clear hb; generalize hz : s.st.s = z at *; have HZ := H_ hz; clear hz; cases b
   all_goals
    go_enter Tryz.func63, Tryz.ntmps63; go_wp2_with fail; refine HL.out.mono ?_; rintro e w1 ⟨rfl, rfl⟩; go_wp2_with fail; refine HK.out.mono ?_; rintro e w2 ⟨rfl, h2⟩; have H2 := H_ h2; clear h2; go_wp2_with fail; go_ret; exact ⟨rfl, H2.out⟩
theorem lookS_no (s : LSt) (st : Int) : lookB s (lookS s st) = false := by
 unfold lookS; cases h : lookB s st
 . simpa using h
 . rfl
set_option maxRecDepth 100000 in
theorem told_at' (h : SubAt w0 w c K s st ov fr) (hs : s.st.s ≠ 9) (hst : st = 0 \/ st = 1) : Calls Tryz.prog 31 #[.pointer (some ⟨K.b, 0, none⟩)] w fun e w' => e = .returned ov /\ SRow w' w0.heap.size ov fr /\ SubAt w0 w' c K s (lookS s st) (.slice none 0 0) [] := by
 have HS := H_ hs; obtain ⟨b, hb⟩ : ∃ b, lookB s st = b := ⟨_, rfl⟩; have HK := H_ (look_at h hs hst b hb); have HL := H_ (show lookS s st = if b then 0 else st by unfold lookS; rw [hb]); have HLB := H_ (lookS_no s st); clear hb; cases b
 . go_enter Tryz.func31, Tryz.ntmps31; go_wp2_with fail; refine wp_loop_rounds 3 ?_; rw [rounds_succ]; go_wp2_with fail; refine HK.out.mono ?_; rintro e w1 ⟨rfl, h1⟩; have H1 := H_ h1; obtain ⟨oa, oc, eo⟩ := h1.out.form; subst eo; have c18 : w1.cell? ⟨K.b, 18, none⟩ = some (.slice oa fr.length oc) := cellOf h1.blk 18 _ rfl; have fz := h1.fz; clear h1; go_wp2_with fail; go_ret; rw [HL.out]; exact ⟨rfl, H1.out.out.keep ((Keep.refl (· = K.b) w1).setCell ⟨K.b, 18, none⟩ (Or.inr rfl) _) (fun k hk he => H1.out.nb (by have he : k = K.b := he; rw [<- he]; exact hk)), H1.out.clr⟩
 . go_enter Tryz.func31, Tryz.ntmps31; go_wp2_with fail; refine wp_loop_rounds 3 ?_; rw [rounds_succ]; go_wp2_with fail; refine HK.out.mono ?_; rintro e w1 ⟨rfl, h1⟩; have HK2 := H_ (look_at (show SubAt w0 w1 c K s 0 ov fr from h1) HS.out (.inl rfl) false rfl); clear h1; go_wp2_with fail; rw [rounds_succ]; go_wp2_with fail; refine HK2.out.mono ?_; rintro e w2 ⟨rfl, h1⟩; have H1 := H_ (show SubAt w0 w2 c K s 0 ov fr from h1); obtain ⟨oa, oc, eo⟩ := H1.out.out.form; subst eo; have c18 : w2.cell? ⟨K.b, 18, none⟩ = some (.slice oa fr.length oc) := cellOf H1.out.blk 18 _ rfl; have fz := H1.out.fz; clear h1; go_wp2_with fail; go_ret; rw [HL.out]; exact ⟨rfl, H1.out.out.keep ((Keep.refl (· = K.b) w2).setCell ⟨K.b, 18, none⟩ (Or.inr rfl) _) (fun k hk he => H1.out.nb (by have he : k = K.b := he; rw [<- he]; exact hk)), H1.out.clr⟩
end
def lenB (a : ByteArray) : ByteArray := ByteArray.mk #[UInt8.ofNat a.size] ++ a
theorem conv1 (n : Nat) (hn : n <= 255) (w : World) : (convert 66 9 (.slice (some ⟨w.heap.size, 0, none⟩) 1 1)).run Tryz.prog (w.alloc (.cells #[.int .u8 (n : Int)] 5 (0, 0))) = .ok (.string ⟨#[UInt8.ofNat n]⟩) (w.alloc (.cells #[.int .u8 (n : Int)] 5 (0, 0))) := by
 have hx := at1 w (.cells #[.int .u8 (n : Int)] 5 (0, 0)); refine run_convert_bytes_back (P := Tryz.prog) _ 66 9 5 ⟨w.heap.size, 0, none⟩ 1 [UInt8.ofNat n] Tryz.underlying66 Tryz.underlying5 Tryz.underlying9 (fun j hj => ?_); rw [Addr.add_lit, Nat.zero_add]; have e1 : (UInt8.ofNat n).toNat = n := by rw [UInt8.toNat_ofNat']; omega
 match j, hj with
 | 0, _ => simp only [List.getElem_cons_zero]; rw [e1]; exact cellOf hx 0 _ rfl
set_option maxRecDepth 100000 in
theorem papPut_any (a b : ByteArray) (g : Nat) (w : World) (h : w.heap[g]? = some (.cells #[.string a, .string b] 9 (0, 0))) (ha : a.size <= 60) (hb : b.size <= 60) :
 Calls Tryz.prog 134 #[.slice (some ⟨g, 0, none⟩) 2 2] w fun e w' => e = .returned (.tuple #[.string ((ByteArray.mk #[] ++ lenB a) ++ lenB b), .int .i64 0]) /\ Below w.heap.size w w' := by
 have c0 := cellOf h 0 _ rfl; have c1 := cellOf h 1 _ rfl; have hg := (Array.getElem?_eq_some_iff.1 h).1; have q1 : decide ((60 : Int) < (a.size : Int)) = false := by simp; omega
 have q2 : decide ((60 : Int) < (b.size : Int)) = false := by simp; omega
 have v1 := conv1 a.size (by omega) w; have v2 := conv1 b.size (by omega) (w.alloc (.cells #[.int .u8 (a.size : Int)] 5 (0, 0))); rw [alloc1] at v2; have HD := H_ (show (ByteArray.mk #[] ++ lenB a) ++ lenB b = (ByteArray.mk #[] ++ (ByteArray.mk #[UInt8.ofNat a.size] ++ a)) ++ (ByteArray.mk #[UInt8.ofNat b.size] ++ b) from rfl); have s1 : (ByteArray.mk #[UInt8.ofNat a.size]).size = 1 := rfl; have s2 : (ByteArray.mk #[UInt8.ofNat b.size]).size = 1 := rfl; clear h; generalize ByteArray.mk #[UInt8.ofNat a.size] = x1 at *; generalize ByteArray.mk #[UInt8.ofNat b.size] = x2 at *; go_enter Tryz.func134, Tryz.ntmps134; go_wp2_with fail; refine wp_loop_rounds 3 ?_; rw [rounds_succ]; go_wp2_with fail; rw [rounds_succ]; go_wp2_with fail; rw [rounds_succ]; go_wp2_with fail; go_ret2; rw [HD.out]; exact ⟨rfl, ((Below.refl _ _).alloc (Nat.le_refl _) _).alloc (by rw [alloc1]; omega) _⟩
def reqB (a b : ByteArray) : ByteArray := (ByteArray.mk #[] ++ lenB a) ++ lenB b
theorem papReq_any (a b : ByteArray) (w : World) (ha : a.size <= 60) (hb : b.size <= 60) :
 Calls Tryz.prog 93 #[.string a, .string b] w fun e w' => e = .returned (.tuple #[.string (reqB a b), .int .i64 0]) /\ Below w.heap.size w w' := by
 have HP := H_ (papPut_any a b w.heap.size (w.alloc (.cells #[.string a, .string b] 9 (0, 0))) (at1 _ _) ha hb); have HB := H_ ((Below.refl w.heap.size w).alloc (Nat.le_refl _) (.cells #[.string a, .string b] 9 (0, 0)))
 change Hid (Calls _ _ _ _ fun e w' => e = .returned (.tuple #[.string (reqB a b), .int .i64 0]) /\ _) at HP
 generalize reqB a b = d at *; clear ha hb; go_enter Tryz.func93, Tryz.ntmps93; go_wp2_with fail; refine HP.out.mono ?_; rintro e w1 ⟨rfl, hb⟩; go_wp2_with fail; go_ret2; exact ⟨rfl, HB.out.trans (hb.mono HB.out.size)⟩
theorem papNew_any (a b : ByteArray) (r t : Int) (w : World) (ha : a.size <= 60) (hb : b.size <= 60) (hr : 0 <= r /\ r <= 10) (ht : 1 <= t /\ t <= 100) :
 Calls Tryz.prog 49 #[.string a, .string b, .int .i64 r, .int .i64 t] w fun e w' => ∃ g, e = .returned (.tuple #[.pointer (some ⟨g, 0, none⟩), .int .i64 0]) /\ w.heap.size <= g /\ Below w.heap.size w w' := by
 have HP := H_ (papReq_any a b w ha hb); have d1 : decide (r < 0) = false := by simp; omega
 have d2 : decide (10 < r) = false := by simp; omega
 have d3 : decide (t < 1) = false := by simp; omega
 have d4 : decide (100 < t) = false := by simp; omega
 generalize reqB a b = d at *; clear ha hb hr ht; go_enter Tryz.func49, Tryz.ntmps49; go_wp2_with fail; refine HP.out.mono ?_; rintro e w1 ⟨rfl, hb⟩; go_wp2_with fail; go_ret2; exact ⟨_, rfl, hb.size, hb.alloc hb.size _⟩
theorem chapNew_any (a b : ByteArray) (w : World) (ha : a.size <= 60) (hb : b.size <= 60) :
 Calls Tryz.prog 50 #[.string a, .string b] w fun e w' => ∃ g, e = .returned (.tuple #[.pointer (some ⟨g, 0, none⟩), .int .i64 0]) /\ w.heap.size <= g /\ Below w.heap.size w w' := by
 have HA := H_ (fun w => sclone_any a w (by omega)); have HB := H_ (fun w => sclone_any b w (by omega)); have q1 : decide ((60 : Int) < (a.size : Int)) = false := by simp; omega
 have q2 : decide ((60 : Int) < (b.size : Int)) = false := by simp; omega
 clear ha hb; go_enter Tryz.func50, Tryz.ntmps50; go_wp2_with fail; refine (HA.out _).mono ?_; rintro e w1 ⟨rfl, hb1⟩; have H1 := H_ hb1; clear hb1; go_wp2_with fail; refine (HB.out _).mono ?_; rintro e w2 ⟨rfl, hb2⟩; have H2 := H_ (H1.out.trans (hb2.mono H1.out.size)); clear hb2; go_wp2_with fail; go_ret2; exact ⟨_, rfl, H2.out.size, H2.out.alloc H2.out.size _⟩
def cfgC (c : SCfg) : Array Value := #[.string c.name, .string c.secret, .int .i64 c.mru, .int .i64 c.magic, .int .i64 c.echo, .int .i64 c.cf, .int .i64 c.tm, .int .i64 c.fl, .int .i64 c.wt, .int .i64 c.retry, .bool c.dns]
def sCells (c : SCfg) (tb : Nat) (p0 p1 p2 p3 : Value) (st : Int) (hv ov sv : Value) (ti ag : Int) : Array Value :=
 #[.string c.name, .string c.secret, .int .i64 c.mru, .int .i64 c.magic, .int .i64 c.echo, .int .i64 c.cf, .int .i64 c.tm, .int .i64 c.fl, .int .i64 c.wt, .int .i64 c.retry, .bool c.dns, .pointer (some ⟨tb, 0, none⟩), p0, p1, p2, p3, .int .i64 st, hv, ov, sv, .int .i64 ti, .int .i64 ag]
theorem sCells_set (c : SCfg) (tb : Nat) (p0 p1 p2 p3 q0 q1 q2 q3 : Value) (st : Int) (hv ov sv : Value) (ti ag : Int) :
 ((((sCells c tb p0 p1 p2 p3 st hv ov sv ti ag).setIfInBounds 12 q0).setIfInBounds 13 q1).setIfInBounds 14 q2).setIfInBounds 15 q3 = sCells c tb q0 q1 q2 q3 st hv ov sv ti ag := by
 simp [sCells]
structure SCfg.Ok (c : SCfg) : Prop where
 l : c.l.Ok
 name : c.name.size <= 60
 secret : c.secret.size <= 60
 retry : 0 <= c.retry /\ c.retry <= 10
structure AnI (w W : World) (b cb pb : Nat) (S : Obj) (c : SCfg) (p0 p1 p2 p3 : Value) : Prop where
 bl : Below w.heap.size w W
 xs : W.heap[b]? = some S
 xc : W.heap[cb]? = some (.cells (cfgC c) 27 (0, 0))
 xp : W.heap[pb]? = some (.cells #[p0, p1, p2, p3] 34 (0, 0))
 n1 : cb ≠ pb
 n2 : b ≠ pb
 lo : w.heap.size <= pb
theorem AnI.go {w W W' : World} {b cb pb : Nat} {S : Obj} {c : SCfg} {p0 p1 p2 p3 : Value} (h : AnI w W b cb pb S c p0 p1 p2 p3) (hb : Below W.heap.size W W') : AnI w W' b cb pb S c p0 p1 p2 p3 :=
 have k := fun {g : Nat} {o : Obj} (e : W.heap[g]? = some o) => (hb.block _ (Array.getElem?_eq_some_iff.1 e).1).trans e
 { h with bl := h.bl.trans (hb.mono h.bl.size), xs := k h.xs, xc := k h.xc, xp := k h.xp }
theorem AnI.set {w W : World} {b cb pb : Nat} {S : Obj} {c : SCfg} {p0 p1 p2 p3 q0 q1 q2 q3 v : Value} (h : AnI w W b cb pb S c p0 p1 p2 p3) (i : Nat) (e : (#[p0, p1, p2, p3] : Array Value).setIfInBounds i v = #[q0, q1, q2, q3]) : AnI w (W.setCell ⟨pb, i, none⟩ v) b cb pb S c q0 q1 q2 q3 := by
 have hk : Keep (fun g => g = pb) W (W.setCell ⟨pb, i, none⟩ v) := (Keep.refl (fun g => g = pb) W).setCell ⟨pb, i, none⟩ (Or.inr rfl) v; have l := fun {g : Nat} {o : Obj} (e : W.heap[g]? = some o) => (Array.getElem?_eq_some_iff.1 e).1
 exact { h with
  bl := h.bl.trans (hk.below h.bl.size (fun g hg he => by have he : g = pb := he; have := h.lo; omega))
  xs := (hk.block _ (l h.xs) h.n2).trans h.xs
  xc := (hk.block _ (l h.xc) h.n1).trans h.xc
  xp := by rw [<- e]; exact set_block h.xp i v }
structure AnL (w W : World) (S okt : Nat -> Prop) (L : LB) (C : NegC) (echo : Int) (s : LSt) (X : NegX) (tb pb : Nat) : Prop where
 t : L.tb = tb
 l : LcpAt W S okt L C echo s X
 lo : ∀ g, S g -> w.heap.size <= g
 ll : w.heap.size <= L.lb
 ns : ¬ S pb
 no : ¬ okt pb
 nl : pb ≠ L.lb
 nt : pb ≠ tb
theorem AnL.go {w W W' : World} {S okt : Nat -> Prop} {L : LB} {C : NegC} {echo : Int} {s : LSt} {X : NegX} {tb pb : Nat} (h : AnL w W S okt L C echo s X tb pb) (hb : Below W.heap.size W W') : AnL w W' S okt L C echo s X tb pb := { h with l := h.l.below hb }
theorem AnL.set {w W : World} {S okt : Nat -> Prop} {L : LB} {C : NegC} {echo : Int} {s : LSt} {X : NegX} {tb pb : Nat} (h : AnL w W S okt L C echo s X tb pb) (i : Nat) (v : Value) : AnL w (W.setCell ⟨pb, i, none⟩ v) S okt L C echo s X tb pb :=
 { h with l := h.l.keep ((Keep.refl (fun g => g = pb) W).setCell ⟨pb, i, none⟩ (Or.inr rfl) v) (fun g _ hx he => by
  have he : g = pb := he; subst he
  rcases hx with hx | hx | hx | hx
  . exact h.ns hx
  . exact h.no hx
  . exact h.nl hx
  . exact h.nt (hx.trans h.t)) }
set_option maxRecDepth 100000 in
theorem anew_any (c : SCfg) (b tb : Nat) (okt : Nat -> Prop) (t : TpS) (p0 p1 p2 p3 : Value) (st ti ag : Int) (hv ov sv : Value) (w : World) (hc : c.Ok) (h : w.heap[b]? = some (.cells (sCells c tb p0 p1 p2 p3 st hv ov sv ti ag) 38 (0, 0)))
 (hp0 : ∃ a, p0 = .pointer a) (ht : TapeAt w tb okt t) (ho : ∀ g, okt g -> g < w.heap.size) (hbt : b ≠ tb) (hbo : ¬ okt b) :
 Calls Tryz.prog 23 #[.pointer (some ⟨b, 0, none⟩), .bool true] w fun e w' => ∃ L S X pa ch ip, e = .returned (.int .i64 0) /\ L.tb = tb /\ w'.heap[b]? = some (.cells (sCells c tb (.pointer (some ⟨L.lb, 0, none⟩)) (.pointer (some ⟨pa, 0, none⟩)) (.pointer (some ⟨ch, 0, none⟩)) (.pointer (some ⟨ip, 0, none⟩)) st hv ov sv ti ag) 38 (0, 0)) /\
  LcpAt w' S okt L (lC c.l L.lb) c.echo (lst0 c.l t) X /\ (∀ g, S g -> w.heap.size <= g) /\ w.heap.size <= L.lb /\ Keep (fun g => g = b) w w' := by
 obtain ⟨a0, rfl⟩ := hp0; have hlt := (Array.getElem?_eq_some_iff.1 h).1; have cells : ∀ W, Below w.heap.size w W -> W.heap[b]? = some (.cells (sCells c tb (.pointer a0) p1 p2 p3 st hv ov sv ti ag) 38 (0, 0)) := fun W hW => (hW.block b hlt).trans h; have HC := H_ hc; have HT := H_ (A_ ht (A_ ho (A_ hbt hbo))); have f0 := cellOf h 0 (.string c.name) rfl; have f1 := cellOf h 1 (.string c.secret) rfl; have f2 := cellOf h 2 (.int .i64 c.mru) rfl; have f3 := cellOf h 3 (.int .i64 c.magic) rfl; have f4 := cellOf h 4 (.int .i64 c.echo) rfl; have f5 := cellOf h 5 (.int .i64 c.cf) rfl; have f6 := cellOf h 6 (.int .i64 c.tm) rfl; have f7 := cellOf h 7 (.int .i64 c.fl) rfl; have f8 := cellOf h 8 (.int .i64 c.wt) rfl; have f9 := cellOf h 9 (.int .i64 c.retry) rfl; have f10 := cellOf h 10 (.bool c.dns) rfl; have f12 := cellOf h 12 (.pointer a0) rfl; have H := H_ h; have HCL := H_ cells; clear h cells hc ht ho hbt hbo; go_enter Tryz.func23, Tryz.ntmps23
 go_upto_region 5 with (fail)
 have hA : AnI w ((w.alloc (.cells (cfgC c) 27 (0, 0))).alloc (.cells #[.pointer a0, .pointer none, .pointer none, .pointer none] 34 (0, 0))) b w.heap.size (w.heap.size + 1) (.cells (sCells c tb (.pointer a0) p1 p2 p3 st hv ov sv ti ag) 38 (0, 0)) c (.pointer a0) (.pointer none) (.pointer none) (.pointer none) := by
  have e1 := alloc1 w (.cells (cfgC c) 27 (0, 0)); have hb : Below w.heap.size w ((w.alloc (.cells (cfgC c) 27 (0, 0))).alloc (.cells #[.pointer a0, .pointer none, .pointer none, .pointer none] 34 (0, 0))) := ((Below.refl _ _).alloc (Nat.le_refl _) _).alloc (by omega) _; exact ⟨hb, HCL.out _ hb, by rw [Below.heap_alloc _ _ _ (by omega)]; exact at1 _ _, by rw [<- e1]; exact at1 _ _, by omega, by omega, by omega⟩
 have hlt1 : w.heap.size < ((w.alloc (.cells (cfgC c) 27 (0, 0))).alloc (.cells #[.pointer a0, .pointer none, .pointer none, .pointer none] 34 (0, 0))).heap.size := by rw [alloc1, alloc1]; omega
 have HA := H_ hA; have hA0 := hA.bl.size; unfold cfgC at HA hlt1 hA0; clear hA f0 f1 f2 f3 f4 f5 f6 f7 f8 f9 f10 f12 HCL; generalize (w.alloc (.cells #[.string c.name, .string c.secret, .int .i64 c.mru, .int .i64 c.magic, .int .i64 c.echo, .int .i64 c.cf, .int .i64 c.tm, .int .i64 c.fl, .int .i64 c.wt, .int .i64 c.retry, .bool c.dns] 27 (0, 0))).alloc (.cells #[.pointer a0, .pointer none, .pointer none, .pointer none] 34 (0, 0)) = W at *; have hcb : w.heap.size + 1 <= w.heap.size + 1 := Nat.le_refl _; generalize hpb : w.heap.size + 1 = pb at *; have HPB := H_ hpb; have HWZ := H_ (show w.heap.size <= W.heap.size from hA0); clear hpb hcb hA0
 have HSA : Hid (∀ (Y : World) (q0 q1 q2 q3 : Value), AnI w Y b w.heap.size pb (.cells (sCells c tb (.pointer a0) p1 p2 p3 st hv ov sv ti ag) 38 (0, 0)) c q0 q1 q2 q3 -> (Y.cell? ⟨w.heap.size, 2, none⟩ = some (.int .i64 c.mru) /\ Y.cell? ⟨w.heap.size, 3, none⟩ = some (.int .i64 c.magic) /\ Y.cell? ⟨w.heap.size, 4, none⟩ = some (.int .i64 c.echo) /\ Y.cell? ⟨w.heap.size, 5, none⟩ = some (.int .i64 c.cf) /\ Y.cell? ⟨w.heap.size, 6, none⟩ = some (.int .i64 c.tm) /\ Y.cell? ⟨w.heap.size, 7, none⟩ = some (.int .i64 c.fl) /\ Y.cell? ⟨w.heap.size, 8, none⟩ = some (.int .i64 c.wt)) /\ Y.cell? ⟨b, 11, none⟩ = some (.pointer (some ⟨tb, 0, none⟩))) := H_ fun Y q0 q1 q2 q3 hY =>
  have hc := hY.xc; have hs := hY.xs
  ⟨⟨cellOf hc 2 _ rfl, cellOf hc 3 _ rfl, cellOf hc 4 _ rfl, cellOf hc 5 _ rfl, cellOf hc 6 _ rfl, cellOf hc 7 _ rfl, cellOf hc 8 _ rfl⟩, cellOf hs 11 _ rfl⟩
 refine wp_region_H (rgH 0 26) (fun Y : World => (Y.cell? ⟨w.heap.size, 2, none⟩ = some (.int .i64 c.mru) /\ Y.cell? ⟨w.heap.size, 3, none⟩ = some (.int .i64 c.magic) /\ Y.cell? ⟨w.heap.size, 4, none⟩ = some (.int .i64 c.echo) /\ Y.cell? ⟨w.heap.size, 5, none⟩ = some (.int .i64 c.cf) /\ Y.cell? ⟨w.heap.size, 6, none⟩ = some (.int .i64 c.tm) /\ Y.cell? ⟨w.heap.size, 7, none⟩ = some (.int .i64 c.fl) /\ Y.cell? ⟨w.heap.size, 8, none⟩ = some (.int .i64 c.wt)) /\ Y.cell? ⟨b, 11, none⟩ = some (.pointer (some ⟨tb, 0, none⟩))) (by kernel_rfl) ?_; have HSv := HSA.out _ _ _ _ _ (HA.out.go (Below.refl _ _).drew); refine hatH 0 rfl (by rintro W ⟨⟨g2, g3, g4, g5, g6, g7, g8⟩, g11⟩; go_simp; try rfl) HSv ?_; simp only [aZ, aC, aD]; refine hatH 1 rfl (by rintro W ⟨⟨g2, g3, g4, g5, g6, g7, g8⟩, g11⟩; go_simp; try rfl) HSv ?_; simp only [aZ, aC, aD]; refine hatH 2 rfl (by rintro W ⟨⟨g2, g3, g4, g5, g6, g7, g8⟩, g11⟩; go_simp; try rfl) HSv ?_; simp only [aZ, aC, aD]; refine hatH 3 rfl (by rintro W ⟨⟨g2, g3, g4, g5, g6, g7, g8⟩, g11⟩; go_simp; try rfl) HSv ?_; simp only [aZ, aC, aD]; refine hatH 4 rfl (by rintro W ⟨⟨g2, g3, g4, g5, g6, g7, g8⟩, g11⟩; go_simp; try rfl) HSv ?_; simp only [aZ, aC, aD]; refine hatH 5 rfl (by rintro W ⟨⟨g2, g3, g4, g5, g6, g7, g8⟩, g11⟩; go_simp; try rfl) HSv ?_; simp only [aZ, aC, aD]; refine hatH 6 rfl (by rintro W ⟨⟨g2, g3, g4, g5, g6, g7, g8⟩, g11⟩; go_simp; try rfl) HSv ?_; simp only [aZ, aC, aD]; refine hatH 7 rfl (by rintro W ⟨⟨g2, g3, g4, g5, g6, g7, g8⟩, g11⟩; go_simp; try rfl) HSv ?_; simp only [aZ, aC, aD]; refine hatH 8 rfl (by rintro W ⟨⟨g2, g3, g4, g5, g6, g7, g8⟩, g11⟩; go_simp; try rfl) HSv ?_; simp only [aZ, aC, aD]; refine hatH 9 rfl (by rintro W ⟨⟨g2, g3, g4, g5, g6, g7, g8⟩, g11⟩; go_simp; try rfl) HSv ?_; simp only [aZ, aC, aD]; refine hatH 10 rfl (by rintro W ⟨⟨g2, g3, g4, g5, g6, g7, g8⟩, g11⟩; go_simp; try rfl) HSv ?_; simp only [aZ, aC, aD]; refine hatH 11 rfl (by rintro W ⟨⟨g2, g3, g4, g5, g6, g7, g8⟩, g11⟩; go_simp; try rfl) HSv ?_; simp only [aZ, aC, aD]; refine hatH 12 rfl (by rintro W ⟨⟨g2, g3, g4, g5, g6, g7, g8⟩, g11⟩; go_simp; try rfl) HSv ?_; simp only [aZ, aC, aD]; refine hatH 13 rfl (by rintro W ⟨⟨g2, g3, g4, g5, g6, g7, g8⟩, g11⟩; go_simp; try rfl) HSv ?_; simp only [aZ, aC, aD]; refine hatH 14 rfl (by rintro W ⟨⟨g2, g3, g4, g5, g6, g7, g8⟩, g11⟩; go_simp; try rfl) HSv ?_; simp only [aZ, aC, aD]; refine hatH 15 rfl (by rintro W ⟨⟨g2, g3, g4, g5, g6, g7, g8⟩, g11⟩; go_simp; try rfl) HSv ?_; simp only [aZ, aC, aD]; refine hatH 16 rfl (by rintro W ⟨⟨g2, g3, g4, g5, g6, g7, g8⟩, g11⟩; go_simp; try rfl) HSv ?_; simp only [aZ, aC, aD]; refine hatH 17 rfl (by rintro W ⟨⟨g2, g3, g4, g5, g6, g7, g8⟩, g11⟩; go_simp; try rfl) HSv ?_; simp only [aZ, aC, aD]; refine hatH 18 rfl (by rintro W ⟨⟨g2, g3, g4, g5, g6, g7, g8⟩, g11⟩; go_simp; try rfl) HSv ?_; simp only [aZ, aC, aD]; refine hone 19 rfl fun K hK => ?_
 try go_simp
 go_at_call 48; have hbW : Below w.heap.size w W.drew := HA.out.bl.drew; refine (lnew_tape c.l HC.out.l tb okt t W.drew (HT.out.1.below hbW) (fun g hg => Nat.lt_of_lt_of_le (HT.out.2.1 g hg) hbW.size)).mono ?_; rintro e w1 ⟨L, S, X, rfl, hLt, hL, hS, hLl, hb1⟩; have hbW1 : Below W.heap.size W w1 := Below.trans (Below.refl _ _).drew hb1; have HA1 := H_ (HA.out.go hbW1); have HSv := HSA.out _ _ _ _ _ HA1.out; have HPW := H_ (Array.getElem?_eq_some_iff.1 HA.out.xp).1; have HL1 := H_ (A_ hLt (A_ hL (A_ (show ∀ g, S g -> W.heap.size <= g from hS) (show W.heap.size <= L.lb from hLl)))); clear hLt hL hS hLl hb1 hbW hbW1; refine hK _ _ (fun _ => HSv) ?_
 try simp only [aZ, aA, aE, aB, aC, aD]
 clear HA; refine hatH 20 rfl (by rintro W ⟨⟨g2, g3, g4, g5, g6, g7, g8⟩, g11⟩; go_simp; try rfl) HSv ?_; simp only [aZ, aC, aD]; refine hatH 21 rfl (by rintro W ⟨⟨g2, g3, g4, g5, g6, g7, g8⟩, g11⟩; go_simp; try rfl) HSv ?_; simp only [aZ, aC, aD]; refine hatH 22 rfl (by rintro W ⟨⟨g2, g3, g4, g5, g6, g7, g8⟩, g11⟩; go_simp; try rfl) HSv ?_; simp only [aZ, aC, aD]; refine hatH 23 rfl (by rintro W ⟨⟨g2, g3, g4, g5, g6, g7, g8⟩, g11⟩; go_simp; try rfl) HSv ?_; simp only [aZ, aC, aD]; clear HSv; have xp0 := cellOf HA1.out.xp 0 _ rfl; have fzp := fun o => fzOf HA1.out.xp o; have HA2 := H_ (HA1.out.set 0 (v := .pointer (some ⟨L.lb, 0, none⟩)) rfl); have HSv := H_ (HSA.out _ _ _ _ _ HA2.out); clear HSA; refine hone 24 rfl fun K hK => ?_
 try go_simp
 refine hK _ _ (fun _ => HSv.out) ?_
 try simp only [aZ, aA, aE, aB, aC, aD]
 clear xp0 fzp; refine hone 25 rfl fun K hK => ?_
 try go_simp
 refine hK _ _ (fun _ => HSv.out) ?_
 try simp only [aZ, aA, aE, aB, aC, aD]
 clear HSv; refine hend 26 ?_; simp only [aF, aG]
 go_upto_region 8 with (fail)
 have hL2 : AnL w (w1.setCell ⟨pb, 0, none⟩ (.pointer (some ⟨L.lb, 0, none⟩))) S okt L (lC c.l L.lb) c.echo (lst0 c.l t) X tb pb := by
  have h1 := HPB.out; have h2 := HT.out.1.lt; have h3 := HPW.out; have h4 := HL1.out.2.2.2; have h5 := HWZ.out; refine AnL.set ⟨HL1.out.1, HL1.out.2.1, fun g hg => by have := HL1.out.2.2.1 g hg; omega, by omega, fun hx => by have := HL1.out.2.2.1 _ hx; omega, fun hx => by have := HT.out.2.1 _ hx; omega, by omega, by omega⟩ 0 _
 have HL2 := H_ hL2; have hsz : w.heap.size <= (w1.setCell ⟨pb, 0, none⟩ (.pointer (some ⟨L.lb, 0, none⟩))).heap.size := HA2.out.bl.size; have HN := H_ (fun Y => papNew_any c.name c.secret c.retry c.wt Y HC.out.name HC.out.secret HC.out.retry HC.out.l.wt); clear HA1 HL1 HPW hL2 HWZ hsz; generalize w1.setCell ⟨pb, 0, none⟩ (.pointer (some ⟨L.lb, 0, none⟩)) = W2 at *; have fc := HA2.out.xc; have g0 := cellOf fc 0 _ rfl; have g1 := cellOf fc 1 _ rfl; have g9 := cellOf fc 9 _ rfl; have g8 := cellOf fc 8 _ rfl; clear fc; go_wp2_with fail; refine (HN.out W2).mono ?_; rintro e w2 ⟨pa, rfl, -, hb2⟩; have HA3 := H_ (HA2.out.go hb2); have HL3 := H_ (HL2.out.go hb2); clear hb2 HN HA2 HL2 g0 g1 g9 g8; have xp1 := cellOf HA3.out.xp 1 _ rfl; have fzp := fun o => fzOf HA3.out.xp o
 go_upto_region 11 with (fail)
 have HA2 := H_ (HA3.out.set 1 (v := .pointer (some ⟨pa, 0, none⟩)) rfl); have HL2 := H_ (HL3.out.set 1 (.pointer (some ⟨pa, 0, none⟩))); have HN := H_ (fun Y => chapNew_any c.name c.secret Y HC.out.name HC.out.secret); clear HA3 HL3 xp1 fzp; generalize w2.setCell ⟨pb, 1, none⟩ (.pointer (some ⟨pa, 0, none⟩)) = W3 at *; have fc := HA2.out.xc; have g0 := cellOf fc 0 _ rfl; have g1 := cellOf fc 1 _ rfl; clear fc; go_wp2_with fail; refine (HN.out W3).mono ?_; rintro e w3 ⟨ch, rfl, -, hb3⟩; have HA3 := H_ (HA2.out.go hb3); have HL3 := H_ (HL2.out.go hb3); clear hb3 HN HA2 HL2 g0 g1; have xp1 := cellOf HA3.out.xp 2 _ rfl; have fzp := fun o => fzOf HA3.out.xp o
 go_upto_region 14 with (fail)
 have HA2 := H_ (HA3.out.set 2 (v := .pointer (some ⟨ch, 0, none⟩)) rfl); have HL2 := H_ (HL3.out.set 2 (.pointer (some ⟨ch, 0, none⟩))); have HN := H_ (fun Y => client_any c.cf c.tm c.fl c.wt c.dns Y (inB20_true.1 HC.out.l.cf) (inB20_true.1 HC.out.l.tm) HC.out.l.fl HC.out.l.wt); clear HA3 HL3 xp1 fzp; generalize w3.setCell ⟨pb, 2, none⟩ (.pointer (some ⟨ch, 0, none⟩)) = W4 at *; have fc := HA2.out.xc; have g5 := cellOf fc 5 _ rfl; have g6 := cellOf fc 6 _ rfl; have g7 := cellOf fc 7 _ rfl; have g8 := cellOf fc 8 _ rfl; have g10 := cellOf fc 10 _ rfl; clear fc; go_wp2_with fail; refine (HN.out W4).mono ?_; rintro e w4 ⟨v, rfl, B, jb, rfl, -, -, -, -, hb4⟩; have HA3 := H_ (HA2.out.go hb4); have HL3 := H_ (HL2.out.go hb4); clear hb4 HN HA2 HL2 g5 g6 g7 g8 g10; have xp1 := cellOf HA3.out.xp 3 _ rfl; have fzp := fun o => fzOf HA3.out.xp o
 go_upto_region 17 with (fail)
 have HA2 := H_ (HA3.out.set 3 (v := .pointer (some ⟨B.nb, 0, none⟩)) rfl); have HL2 := H_ (HL3.out.set 3 (.pointer (some ⟨B.nb, 0, none⟩))); clear HA3 HL3 xp1 fzp; generalize w4.setCell ⟨pb, 3, none⟩ (.pointer (some ⟨B.nb, 0, none⟩)) = W5 at *; have fc := HA2.out.xp; have x0 := cellOf fc 0 _ rfl; have x1 := cellOf fc 1 _ rfl; have x2 := cellOf fc 2 _ rfl; have x3 := cellOf fc 3 _ rfl; have gc := HA2.out.xs; have y12 := cellOf gc 12 _ rfl; have y13 := cellOf gc 13 _ rfl; have y14 := cellOf gc 14 _ rfl; have y15 := cellOf gc 15 _ rfl; have fzb := fun o => fzOf gc o; clear fc gc; go_wp2_with fail; go_ret
 have k1 : Keep (fun g => g = b) W5 ((((W5.setCell ⟨b, 12, none⟩ (.pointer (some ⟨L.lb, 0, none⟩))).setCell ⟨b, 13, none⟩ (.pointer (some ⟨pa, 0, none⟩))).setCell ⟨b, 14, none⟩ (.pointer (some ⟨ch, 0, none⟩))).setCell ⟨b, 15, none⟩ (.pointer (some ⟨B.nb, 0, none⟩))) :=
  ((((Keep.refl (fun g => g = b) W5).setCell ⟨b, 12, none⟩ (Or.inr rfl) (.pointer (some ⟨L.lb, 0, none⟩))).setCell ⟨b, 13, none⟩ (Or.inr rfl) (.pointer (some ⟨pa, 0, none⟩))).setCell ⟨b, 14, none⟩ (Or.inr rfl) (.pointer (some ⟨ch, 0, none⟩))).setCell ⟨b, 15, none⟩ (Or.inr rfl) (.pointer (some ⟨B.nb, 0, none⟩))
 refine ⟨L, S, X, pa, ch, B.nb, rfl, HL2.out.t, ?_, HL2.out.l.keep k1 (fun g _ hx he => ?_), HL2.out.lo, HL2.out.ll, (Keep.of_below (fun g => g = b) HA2.out.bl).trans k1⟩
 . have e1 := set_block (set_block (set_block (set_block HA2.out.xs 12 (.pointer (some ⟨L.lb, 0, none⟩))) 13 (.pointer (some ⟨pa, 0, none⟩))) 14 (.pointer (some ⟨ch, 0, none⟩))) 15 (.pointer (some ⟨B.nb, 0, none⟩)); rw [sCells_set] at e1; exact e1
 . have he : g = b := he; subst he
   rcases hx with hx | hx | hx | hx
   . have := HL2.out.lo _ hx; omega
   . exact HT.out.2.2.2 hx
   . have := HL2.out.ll; omega
   . exact HT.out.2.2.1 (hx.trans HL2.out.t)
set_option maxRecDepth 100000 in
theorem snew_any (c : SCfg) (w : World) (hc : c.Ok) :
 Calls Tryz.prog 19 #[c.v, .pointer none] w fun e w' => ∃ K, e = .returned (.tuple #[.pointer (some ⟨K.b, 0, none⟩), .int .i64 0]) /\ SubAt w w' c K (lst0 c.l ⟨[], 0⟩) 0 (.slice none 0 0) [] := by
 have q1 : ∀ w, (binOp .eql 28 (.pointer none) (.pointer none)).run Tryz.prog w = .ok (.bool true) w := fun w => by kernel_rfl
 have HC := H_ hc; have x0 := at1 w (.cells (cfgC c) 27 (0, 0)); have b0 := (Below.refl w.heap.size w).alloc (Nat.le_refl _) (.cells (cfgC c) 27 (0, 0)); have z0 := alloc1 w (.cells (cfgC c) 27 (0, 0)); unfold cfgC at x0 b0 z0; have HX := H_ (A_ x0 (A_ b0 z0)); clear hc x0 b0 z0; unfold SCfg.v; go_enter Tryz.func19, Tryz.ntmps19; go_wp2_with fail; refine (tapeNew_any [] _ (fun _ => False) _ (Rec.nil _ _ _) (fun _ h => by cases h) (by decide)).mono ?_; rintro e w1 ⟨tb, rfl, ht, hlo, hb⟩; have x1 := (hb.block w.heap.size (by rw [HX.out.2.2]; omega)).trans HX.out.1; have hb1 := HX.out.2.1.trans (hb.mono HX.out.2.1.size); have HT := H_ (A_ ht (A_ hlo hb1)); have f0 := cellOf x1 0 _ rfl; have f1 := cellOf x1 1 _ rfl; have f2 := cellOf x1 2 _ rfl; have f3 := cellOf x1 3 _ rfl; have f4 := cellOf x1 4 _ rfl; have f5 := cellOf x1 5 _ rfl; have f6 := cellOf x1 6 _ rfl; have f7 := cellOf x1 7 _ rfl; have f8 := cellOf x1 8 _ rfl; have f9 := cellOf x1 9 _ rfl; have f10 := cellOf x1 10 _ rfl; clear ht hlo hb hb1 x1; go_wp2_with fail; clear f0 f1 f2 f3 f4 f5 f6 f7 f8 f9 f10
 have HK := H_ (anew_any c w1.heap.size tb _ ⟨[], 0⟩ (.pointer none) (.pointer none) (.pointer none) (.pointer none) 0 0 0 (.slice none 0 0) (.slice none 0 0) (.slice none 0 0) (w1.alloc (.cells (sCells c tb (.pointer none) (.pointer none) (.pointer none) (.pointer none) 0 (.slice none 0 0) (.slice none 0 0) (.slice none 0 0) 0 0) 38 (0, 0))) HC.out (at1 w1 _) ⟨none, rfl⟩
  (HT.out.1.below ((Below.refl _ _).alloc (Nat.le_refl _) _)) (fun g hg => by have := HT.out.1.lt; rw [alloc1]; omega) (fun e => by have := HT.out.1.lt; omega) (fun hg => by have := HT.out.1.lt; omega))
 refine HK.out.mono ?_; rintro e w2 ⟨L, S, X, pa, ch, ip, rfl, ht, hx, hl, hs, h0, hk⟩
 have hF : SubAt w w2 c ⟨w1.heap.size, L, pa, ch, ip⟩ (lst0 c.l ⟨[], 0⟩) 0 (.slice none 0 0) [] := by
  have h1 := HT.out.1.lt; have h2 := HT.out.2.2.size; rw [alloc1] at hs h0
  refine {
   blk := by rw [hx, <- ht]; rfl
   lk := ⟨S, _, X, hl, fun g hg => ?_⟩
   out := SRow.nil _ _
   nb := fun e => nomatch e
   lo := h2
   bl := HT.out.2.2.trans ((((Below.refl _ _).alloc (Nat.le_refl _) _).trans (hk.below (by rw [alloc1]; omega) (fun g hg he => by have he : g = w1.heap.size := he; omega))).mono h2) }
  refine ⟨?_, ?_, fun e => nomatch e⟩
  . rcases hg with hg | hg | hg | hg
    . have := hs g hg; omega
    . have := hg.1; rw [HX.out.2.2] at this; omega
    . have hg : g = L.lb := hg; omega
    . have hg : g = L.tb := hg; have := HT.out.2.1; rw [HX.out.2.2] at this; omega
  . show g ≠ w1.heap.size
    rcases hg with hg | hg | hg | hg
    . have := hs g hg; omega
    . have := hg.2; omega
    . have hg : g = L.lb := hg; omega
    . have hg : g = L.tb := hg; omega
 have HF := H_ hF; clear ht hx hl hs h0 hk hF; go_wp2_with fail; go_ret2; exact ⟨_, rfl, HF.out⟩
theorem optsS_pk (c : LCfg) (hc : c.Ok) (code id : Int) : PkOk ⟨code, id, optsS c, noB⟩ := by
 obtain ⟨o1, o2, o3, o4⟩ := optsS_ok c hc.auth; refine ⟨by show (optsS c).length <= 1000000; omega, fun o ho => ?_, fun o ho => Nat.le_trans (o1 o ho) (by decide), by show (0 : Nat) <= 100000000; decide⟩
 have hb : ¬ badO o = true := by
  intro hb; have : (optsS c).any badO = true := List.any_eq_true.2 ⟨o, ho, hb⟩; unfold putE at o2; rw [if_neg (by omega), if_pos this] at o2; cases o2
 unfold badO at hb; simp at hb
 unfold I64; simp only [Lit.wf, IntKind.min, IntKind.max, IntKind.signed, IntKind.bits, Bool.and_eq_true, decide_eq_true_eq, if_true]; have := hb.1; omega
def sUp (c : LCfg) (t : TpS) : LSt := ⟨⟨6, if c.cf - 1 < 0 then 0 else c.cf - 1, 1, 1, 0, 0, optsS c, [], [], 0, 0⟩, c.magic, 0, 0, 0, t⟩
theorem up_0 (c : LCfg) (lb : Nat) (t : TpS) : (doL (lC c lb) (lst0 c t) 2).2 = [] := by kernel_rfl
theorem up_1 (c : LCfg) (lb : Nat) (t : TpS) : doL (lC c lb) (doL (lC c lb) (lst0 c t) 2).1 0 = (sUp c t, [⟨1, 1, optsS c, noB⟩]) := by kernel_rfl
theorem SubAt.sHv {w0 w : World} {c : SCfg} {K : SB} {s : LSt} {st : Int} {ov : Value} {fr : List ByteArray} (h : SubAt w0 w c K s st ov fr) : SubAt w0 (w.setCell ⟨K.b, 17, none⟩ (.slice none 0 0)) c K s st ov fr := by
 have hk2 : Keep (fun b => b = K.b) w (w.setCell ⟨K.b, 17, none⟩ (.slice none 0 0)) := (Keep.refl (fun b => b = K.b) w).setCell ⟨K.b, 17, none⟩ (Or.inr rfl) _
 exact {
  blk := by have := set_block h.blk 17 (.slice none 0 0); simpa [subCells] using this
  lk := h.lk.keep hk2 (fun b hb hu he => hu.2.1 he)
  out := h.out.keep hk2 (fun k hk' he => h.nb (by have he : k = K.b := he; rw [<- he]; exact hk'))
  nb := h.nb
  lo := h.lo
  bl := h.bl.trans (hk2.below h.bl.size (fun g hg he => by have he : g = K.b := he; have := h.lo; omega)) }
theorem SubAt.hok {w0 w : World} {c : SCfg} {K : SB} {s : LSt} {st : Int} {ov : Value} {fr : List ByteArray} (h : SubAt w0 w c K s st ov fr) : ∀ g, Grow (fun _ => False) w g \/ w.heap.size <= g -> g ≠ K.b /\ ov.ownBlock ≠ some g := fun g hg => by
 have hg : w.heap.size <= g := hg.elim (fun h => h.elim (fun h => h.elim) id) id; have := h.lt; exact ⟨by omega, fun e => by have := (h.out.lt g e).1; omega⟩
theorem SubAt.Do {w0 w : World} {c : SCfg} {K : SB} {s : LSt} {st : Int} {ov : Value} {fr : List ByteArray} (h : SubAt w0 w c K s st ov fr) (ev : Int) (hev : 0 <= ev /\ ev <= 3) :
 Calls Tryz.prog 30 #[.pointer (some ⟨K.L.lb, 0, none⟩), .int .i64 ev] w fun e w' => ∃ v, e = .returned v /\ PksAt w' (Grow (fun _ => False) w) w.heap.size v (doL (lC c.l K.L.lb) s ev).2 /\ SubAt w0 w' c K (doL (lC c.l K.L.lb) s ev).1 st ov fr := by
 obtain ⟨S, ok, X, hl, hu⟩ := h.lk; refine (LDo_at hl hu ev hev).mono ?_; rintro e w' ⟨v, rfl, hp, hv, hk⟩; exact ⟨v, rfl, hp, h.link hv hk⟩
def SB.anew (K : SB) (L : LB) (pa ch ip : Nat) : SB := ⟨K.b, L, pa, ch, ip⟩
theorem SubAt.anew {w0 w : World} {c : SCfg} {K : SB} {s : LSt} {st : Int} {ov : Value} {fr : List ByteArray} (h : SubAt w0 w c K s st ov fr) (hc : c.Ok) :
 Calls Tryz.prog 23 #[.pointer (some ⟨K.b, 0, none⟩), .bool true] w fun e w' => ∃ K', e = .returned (.int .i64 0) /\ K'.b = K.b /\ SubAt w0 w' c K' (lst0 c.l s.t) st ov fr := by
 obtain ⟨S, okt, X, hl, hu⟩ := h.lk; refine (anew_any c K.b K.L.tb okt s.t _ _ _ _ st 0 0 (.slice none 0 0) ov (.slice none 0 0) w hc h.blk ⟨_, rfl⟩ hl.tape (fun g hg => (hl.n3 g hg).2.2) (fun e => (hu K.L.tb (.inr (.inr (.inr rfl)))).2.1 e.symm) (fun ho => (hu K.b (.inr (.inl ho))).2.1 rfl)).mono ?_; rintro e w' ⟨L, S', X', pa, ch, ip, rfl, ht, hx, hl', hs, h0, hk⟩; have hlt := h.lt
 refine ⟨⟨K.b, L, pa, ch, ip⟩, rfl, rfl, {
  blk := by rw [hx, <- ht]; rfl
  lk := ⟨S', okt, X', hl', fun g hg => ?_⟩
  out := h.out.keep hk (fun k hk' he => h.nb (by have he : k = K.b := he; rw [<- he]; exact hk'))
  nb := h.nb
  lo := h.lo
  bl := h.bl.trans (hk.below h.bl.size (fun g hg he => by have he : g = K.b := he; have := h.lo; omega)) }⟩
 have hnew : ∀ g, w.heap.size <= g -> SU w0 ⟨K.b, L, pa, ch, ip⟩ ov g := fun g hg => ⟨Nat.le_trans h.bl.size hg, fun e => by have e : g = K.b := e; omega, fun e => by have := (h.out.lt g e).1; omega⟩
 rcases hg with hg | hg | hg | hg
 . exact hnew g (hs g hg)
 . exact hu g (.inr (.inl hg))
 . have hg : g = L.lb := hg; exact hnew g (by omega)
 . have hg : g = L.tb := hg; exact hu g (.inr (.inr (.inr (hg.trans ht))))
set_option maxRecDepth 100000 in
theorem sup_any {w0 w : World} {c : SCfg} {K : SB} {s : LSt} {ov : Value} {fr : List ByteArray} (h : SubAt w0 w c K s 0 ov fr) (hc : c.Ok) (hfr : fr.length <= 1000) :
 Calls Tryz.prog 11 #[.pointer (some ⟨K.b, 0, none⟩)] w fun e w' => ∃ K' ov', K'.b = K.b /\ e = .returned ov' /\ SRow w' w0.heap.size ov' (fr ++ frS 49185 [⟨1, 1, optsS c.l, noB⟩]) /\ SubAt w0 w' c K' (sUp c.l s.t) 1 (.slice none 0 0) [] := by
 have HN := H_ (snone_at h); have HA := H_ (h.anew hc); have c16 := cellOf h.blk 16 (.int .i64 0) rfl; have HC := H_ (A_ hc hfr); clear h hc hfr; go_enter Tryz.func11, Tryz.ntmps11; go_wp2_with fail; refine HN.out.mono ?_; rintro e w1 ⟨rfl, rfl⟩; go_wp2_with fail; refine HA.out.mono ?_; rintro e w1 ⟨K', rfl, hb, h1⟩; have y := h1.blk; rw [hb] at y; have c17 := cellOf y 17 (.slice none 0 0) rfl; have c16 := cellOf y 16 (.int .i64 0) rfl; have fz := fun o => fzOf y o; have H1 := H_ (A_ hb h1); clear y h1 hb HN HA
 go_upto_region 6 with (fail)
 have h2 := (H1.out.2.sHv).sSt 1; rw [H1.out.1] at h2; have hb := H1.out.1; have H2 := H_ (A_ hb h2); clear h2 c16 c17 fz H1; generalize (w1.setCell ⟨K.b, 17, none⟩ (.slice none 0 0)).setCell ⟨K.b, 16, none⟩ (.int .i64 1) = w2 at *; have y := H2.out.2.blk; rw [hb] at y; have c12 := cellOf y 12 (.pointer (some ⟨K'.L.lb, 0, none⟩)) rfl; clear y hb; go_wp2_with fail; refine (H2.out.2.Do 2 (by decide)).mono ?_; rintro e w3 ⟨v, rfl, hp, h3⟩; rw [up_0] at hp; have HS := H_ (say_at h3 49185 (by decide) (by kernel_rfl) (by decide) (by decide) [] v _ _ hp H2.out.2.hok (by decide) (by have := HC.out.2; omega) (fun p hp => by cases hp)); have HB := H_ H2.out.1; rw [H2.out.1] at HS; clear h3 hp c12 H2; go_wp2_with fail; refine HS.out.mono ?_; rintro e w4 ⟨ov4, rfl, h4⟩
 have h5 : SubAt w0 w4 c K' (doL (lC c.l K'.L.lb) (lst0 c.l s.t) 2).1 1 ov4 fr := by
  have e : fr ++ frS 49185 [] = fr := List.append_nil fr; rw [e] at h4; exact h4
 clear h4 HS; have y := h5.blk; rw [HB.out] at y; have c12 := cellOf y 12 (.pointer (some ⟨K'.L.lb, 0, none⟩)) rfl; have H5 := H_ h5; clear y h5; go_wp2_with fail; refine (H5.out.Do 0 (by decide)).mono ?_; rintro e w5 ⟨v5, rfl, hp, h6⟩; rw [up_1] at hp h6
 have HS := H_ (say_at h6 49185 (by decide) (by kernel_rfl) (by decide) (by decide) _ v5 _ _ hp H5.out.hok (by show (1 : Nat) <= 100; decide) (by have := HC.out.2; omega) (fun p hp => by
  simp only [List.mem_singleton] at hp; subst hp
  exact optsS_pk c.l HC.out.1.l 1 1))
 rw [HB.out] at HS; clear h6 hp c12 H5; go_wp2_with fail; refine HS.out.mono ?_; rintro e w6 ⟨ov6, rfl, h6⟩; have HT := H_ (told_at' h6 (by show (6 : Int) ≠ 9; decide) (.inr rfl)); have HL := H_ (show lookS (sUp c.l s.t) 1 = 1 from rfl); rw [HB.out] at HT; clear HS h6; go_wp2_with fail; refine HT.out.mono ?_; rintro e w7 ⟨rfl, hr, h7⟩; have HF := H_ (A_ hr h7); clear hr h7 HT; go_wp2_with fail; go_ret; exact ⟨K', ov6, HB.out, rfl, HF.out.1, by rw [<- HL.out]; exact HF.out.2⟩
def cfg25 : SCfg := ⟨⟨#[117, 64, 120]⟩, ⟨#[112]⟩, 1492, 3001, 0, 5, 2, 5, 3, 3, false⟩
theorem cfg25_any (w : World) : Calls Tryz.prog 18 #[] w fun e w' => e = .returned cfg25.v /\ Below w.heap.size w w' := by
 go_enter Tryz.func18, Tryz.ntmps18; go_wp2_with fail; refine bodyPost_ret (results_cell_row rfl _ _ w.heap.size 27 _ (0, 0) _ rfl (at1 w _) Tryz.underlying27 rfl (by kernel_rfl)) rfl ?_; exact ⟨rfl, (Below.refl _ _).alloc (Nat.le_refl _) _⟩
theorem cfg25_ok : cfg25.Ok := ⟨⟨by decide, .inl rfl, by decide, by decide, by decide, by decide, by decide, by decide⟩, by decide, by decide, by decide⟩
def fr25 : ByteArray := pppB 49185 (putPk ⟨1, 1, optsS cfg25.l, noB⟩).1
theorem frS25 : frS 49185 [⟨1, 1, optsS cfg25.l, noB⟩] = [fr25] := by kernel_rfl
theorem ppp25 : (pppS fr25).1 = 49185 /\ (pppS fr25).2.2 = 0 /\ (getS (pppS fr25).2.1).2 = 0 /\ (getS (pppS fr25).2.1).1.code = 1 := by
 refine ⟨by kernel_rfl, by kernel_rfl, by kernel_rfl, by kernel_rfl⟩
theorem SRow.at0 {w : World} {base : Nat} {v : Value} {o : ByteArray} {l : List ByteArray} (h : SRow w base v (o :: l)) : ∃ g cap, v = .slice (some ⟨g, 0, none⟩) (l.length + 1) cap /\ base <= g /\ g < w.heap.size /\ l.length + 1 <= cap /\ cap <= maxLen /\
 w.cell? ⟨g, 0, none⟩ = some (.string o) := by
 obtain ⟨h0, ⟨h, hn⟩ | ⟨g, cap, cur, hv, h1, h2, h3, h4, h5, h6⟩⟩ := h
 . simp at hn
 . have hc : ∀ j, j < 1 -> cur[j]? = (strL (o :: l)).flatten[j]? := by
    intro j hj; rw [<- h6, List.getElem?_take, if_pos (by simp only [List.length_cons]; omega), Array.getElem?_toList]
   exact ⟨g, cap, hv, h1, (Array.getElem?_eq_some_iff.1 h2).1, h3, h4, cellOf h2 0 _ (by rw [hc 0 (by omega)]; rfl)⟩
set_option maxRecDepth 100000 in
theorem alive25_any (w : World) : Calls Tryz.prog 6 #[] w fun e w' => e = .returned (.bool true) /\ Below w.heap.size w w' := by
 have HC := H_ (fun w => cfg25_any w); have HN := H_ (fun w => snew_any cfg25 w cfg25_ok); go_enter Tryz.func6, Tryz.ntmps6; go_wp2_with fail; refine (HC.out _).mono ?_; rintro e w1 ⟨rfl, hb1⟩; have H1 := H_ hb1; clear hb1; go_wp2_with fail; refine (HN.out _).mono ?_; rintro e w2 ⟨K, rfl, h2⟩; have HU := H_ (sup_any h2 cfg25_ok (by decide)); have q1 : ∀ w a, (binOp .eql 25 (.pointer (some a)) (.pointer none)).run Tryz.prog w = .ok (.bool false) w := fun w a => by kernel_rfl
 clear h2; go_wp2_with fail; refine HU.out.mono ?_; rintro e w3 ⟨K3, ov, hKb, rfl, hr, h3⟩; rw [frS25] at hr; obtain ⟨g, cap, rfl, -, -, hcp, hmx, c0⟩ := hr.at0; have H3 := H_ (A_ hKb h3); have HP := H_ (fun w => getPpp_any fr25 w (by decide)); rw [ppp25.1, ppp25.2.1] at HP; have HG := H_ (fun w => oget_any (pppS fr25).2.1 w (by decide +kernel)); rw [ppp25.2.2.1] at HG; have hcode := ppp25.2.2.2; generalize (getS (pppS fr25).2.1).1 = P at HG hcode; generalize (pppS fr25).2.1 = D at HP HG; obtain ⟨pc, pi, po, pd⟩ := P; have hcode : pc = 1 := hcode; subst hcode; clear hr h3 hKb; go_wp2_with fail; refine (HP.out _).mono ?_; rintro e w4 ⟨rfl, hb4⟩; have H4 := H_ (H3.out.2.go hb4); clear hb4 c0; go_wp2_with fail; refine (HG.out _).mono ?_; rintro e w5 ⟨ov5, rfl, hr5, hb5⟩; obtain ⟨sa5, sc5, rfl⟩ := hr5.form; have h5 := H4.out.go hb5; clear hr5 hb5; have H5 := H_ h5; have HS := H_ (fun (W : World) (hW : Below w5.heap.size w5 W) => sState_at (h5.go hW)); rw [H3.out.1] at HS; clear h5; unfold pkV; go_wp2_with fail; refine (HS.out _ ((Below.refl _ _).alloc (Nat.le_refl _) _)).mono ?_; rintro e w6 ⟨rfl, rfl⟩; have HF := H_ (H1.out.trans ((H5.out.bl.alloc H5.out.bl.size (.cells #[.int .i64 1, .int .i64 pi, .slice sa5 po.length sc5, .string pd] 59 (0, 0))).mono H1.out.size)); go_wp2_with fail; go_ret; exact ⟨rfl, HF.out⟩
def tickL (C : NegC) (s : LSt) : LSt × List Pk := (anewS s.st.ups { s with st := (tickS rejS C s.st).1 }, (tickS rejS C s.st).2)
section
variable {w : World} {S ok U : Nat -> Prop} {L : LB} {C : NegC} {s : LSt} {X : NegX}
end
section
variable {w0 w : World} {c : SCfg} {K : SB} {s : LSt} {st : Int} {ov : Value} {fr : List ByteArray}
end
def SCfg.Bad (c : SCfg) : Prop := inB20 c.cf = false \/ inB20 c.tm = false \/ c.fl < 0 \/ 20 < c.fl \/ c.wt < 1 \/ 100 < c.wt
def cq (c d : Int) : SCfg := ⟨⟨#[117, 64, 120]⟩, ⟨#[112]⟩, 1492, 3001, 0, c, 2, 5, d, 3, false⟩
def o25 : List Opt := [⟨5, pB4 3001⟩]
section
variable (rej : Pk -> ByteArray) (C : NegC)
def QL (c d : Nat) (st : NSt) (k asked : Nat) : Prop :=
 (∃ q r : Nat, ∃ id ak : Int, k = q * d + r /\ r < d /\ q < c /\ asked = q + 1 /\ st = sQ (c - 1 - q) r id ak o25) \/ (k = c * d /\ asked = c /\ st.s = 3)
def Req25 (p : Pk) : Prop := ∃ id : Int, (0 <= id /\ id < 256) /\ p = ⟨1, id, o25, noB⟩
end
def Small (l : List Opt) : Prop := l.length <= 30 /\ ∀ o ∈ l, (o.t = 1 \/ o.t = 5) /\ o.v.size <= 7
theorem Small.h7 {l : List Opt} (h : Small l) : ∀ o, findO l 5 = some o -> o.v.size <= 7 := fun o ho => (h.2 o (List.mem_of_find?_eq_some ho)).2
theorem Small.filter {l : List Opt} (h : Small l) (f : Opt -> Bool) : Small (l.filter f) :=
 ⟨Nat.le_trans (List.length_filter_le _ _) h.1, fun o ho => h.2 o (List.mem_filter.1 ho).1⟩
theorem Small.pk {l : List Opt} (h : Small l) (id : Int) : PkOk ⟨1, id, l, noB⟩ := by
 refine ⟨by show l.length <= 1000000; have := h.1; omega, fun o ho => ?_, fun o ho => by have := (h.2 o ho).2; omega, by show (0 : Nat) <= 100000000; decide⟩
 rcases (h.2 o ho).1 with e | e <;> rw [e] <;> (unfold I64; decide)
def ownB (C : NegC) : Prop := C.own = [unitR 1492, magicR]
theorem own_findR (k : Int) (h : (findR [unitR 1492, magicR] k).isSome = true) : k = 1 \/ k = 5 := by
 unfold findR unitR magicR at h
 by_cases h1 : (1 : Int) = k
 . exact .inl h1.symm
 . by_cases h5 : (5 : Int) = k
   . exact .inr h5.symm
   . have e1 : ((1 : Int) == k) = false := by simpa using h1
     have e5 : ((5 : Int) == k) = false := by simpa using h5
     simp [List.find?, e1, e5] at h
theorem own_fits (k : Int) (v : ByteArray) (hk : k = 1 \/ k = 5) (h : fitsR (ruleOf [unitR 1492, magicR] k) v = true) : v.size <= 7 := by
 unfold fitsR at h; simp only [Bool.and_eq_true, decide_eq_true_eq] at h
 rcases hk with rfl | rfl
 . have := h.1.1; rw [show (ruleOf [unitR 1492, magicR] 1).len = 2 from rfl] at this; omega
 . have := h.1.1; rw [show (ruleOf [unitR 1492, magicR] 5).len = 4 from rfl] at this; omega
theorem Small.nameOne {C : NegC} (hC : ownB C) {l : List Opt} (h : Small l) (o : Opt) : Small (nameOne C l o) := by
 refine ⟨Nat.le_trans (nameOne_len C l o) h.1, fun x hx => ?_⟩; unfold Go.Proofs.YtbiaempeegfdkaaGreat.nameOne at hx; rw [hC] at hx
 split at hx
 . exact h.2 x hx
 . split at hx
   . rename_i hf
     rcases List.mem_or_eq_of_mem_set hx with hx | rfl
     . exact h.2 x hx
     . simp only [Bool.and_eq_true] at hf; have hk := own_findR _ hf.1; exact ⟨hk, own_fits _ _ hk hf.2⟩
   . split at hx
     . exact h.2 x hx
     . exact h.2 x (List.mem_of_mem_eraseIdx hx)
theorem Small.named {C : NegC} (hC : ownB C) : ∀ (l : List Opt) {r : List Opt}, Small r -> Small (l.foldl (Go.Proofs.YtbiaempeegfdkaaGreat.nameOne C) r)
 | [], _, h => h
 | o :: l, _, h => Small.named hC l (h.nameOne hC o)
def OutOk (p : Pk) (req : List Opt) (q : Pk) : Prop := (∃ id, q = ⟨1, id, req, noB⟩) \/ (q.o = [] /\ (q.d = noB \/ q.d = rejS p))
theorem rejS_le (p : Pk) : (rejS p).size <= 1492 := by
 unfold rejS
 split
 . have := putPk_size p; rw [ByteArray.size_extract]; omega
 . show (0 : Nat) <= 1492; decide
theorem OutOk.pk {p q : Pk} {req : List Opt} (h : OutOk p req q) (hs : Small req) : PkOk q := by
 rcases h with ⟨id, rfl⟩ | ⟨ho, hd⟩
 . exact hs.pk id
 . refine ⟨by rw [ho]; exact Nat.zero_le _, (fun o h => by rw [ho] at h; cases h), (fun o h => by rw [ho] at h; cases h), ?_⟩
   rcases hd with hd | hd
   . rw [hd]; show (0 : Nat) <= 100000000; decide
   . rw [hd]; have := rejS_le p; omega
theorem ev6 (C : NegC) (st : NSt) (hs : st.s = 6) (e : Int) (he : 9 <= e /\ e <= 14) (p : Pk) (k : Int) (a : List Opt) :
 ((evS rejS C st e ⟨true, p, k, a⟩).1.s = if e = 14 then 3 else 6) /\ (evS rejS C st e ⟨true, p, k, a⟩).1.req = st.req /\ (evS rejS C st e ⟨true, p, k, a⟩).2.length <= 1 /\ ∀ q ∈ (evS rejS C st e ⟨true, p, k, a⟩).2, OutOk p st.req q := by
 have go : ∀ (e : Int) (l : List Int) (s' : Int), nextL 6 e = l -> nextS 6 e = s' -> evS rejS C st e ⟨true, p, k, a⟩ = toldS rejS C { st with s := s', c := doC C.cf C.tm l l st.c } l ⟨true, p, k, a⟩ := by
  rintro e l s' rfl rfl; unfold evS; rw [hs]
 rcases (show e = 9 \/ e = 10 \/ e = 11 \/ e = 12 \/ e = 13 \/ e = 14 by omega) with rfl | rfl | rfl | rfl | rfl | rfl
 . rw [go 9 [4, 6] 6 (by decide) (by decide)]; refine ⟨rfl, rfl, by show (1 : Nat) <= 1; decide, fun q hq => ?_⟩; have hq : q ∈ [(⟨1, nid st.id, st.req, noB⟩ : Pk)] := hq; simp only [List.mem_singleton] at hq; exact .inl ⟨_, hq⟩
 . rw [go 10 [10] 6 (by decide) (by decide)]; refine ⟨rfl, rfl, by show (1 : Nat) <= 1; decide, fun q hq => ?_⟩; have hq : q ∈ [(⟨6, p.id, [], noB⟩ : Pk)] := hq; simp only [List.mem_singleton] at hq; subst hq; exact .inr ⟨rfl, .inl rfl⟩
 . rw [go 11 [] 6 (by decide) (by decide)]; exact ⟨rfl, rfl, Nat.zero_le _, fun q hq => by cases hq⟩
 . rw [go 12 [11] 6 (by decide) (by decide)]; refine ⟨rfl, rfl, by show (1 : Nat) <= 1; decide, fun q hq => ?_⟩; have hq : q ∈ [(⟨7, nid st.id, [], rejS p⟩ : Pk)] := hq; simp only [List.mem_singleton] at hq; subst hq; exact .inr ⟨rfl, .inr rfl⟩
 . rw [go 13 [] 6 (by decide) (by decide)]; exact ⟨rfl, rfl, Nat.zero_le _, fun q hq => by cases hq⟩
 . rw [go 14 [3] 3 (by decide) (by decide)]; exact ⟨rfl, rfl, Nat.zero_le _, fun q hq => by cases hq⟩
structure Stp (p : Pk) (r : NSt × List Pk) : Prop where
 s : r.1.s = 6 \/ r.1.s = 3
 req : Small r.1.req
 len : r.2.length <= 1
 out : ∀ q ∈ r.2, PkOk q
theorem ev6S (C : NegC) (st : NSt) (hs : st.s = 6) (hr : Small st.req) (e : Int) (he : 9 <= e /\ e <= 14) (p : Pk) (k : Int) (a : List Opt) : Stp p (evS rejS C st e ⟨true, p, k, a⟩) := by
 obtain ⟨h1, h2, h3, h4⟩ := ev6 C st hs e he p k a; exact ⟨by rw [h1]; split <;> simp, by rw [h2]; exact hr, h3, fun q hq => (h4 q hq).pk hr⟩
theorem take6S (C : NegC) (hC : ownB C) (st : NSt) (hs : st.s = 6) (hr : Small st.req) (p : Pk) (h1 : p.code ≠ 1) (h2 : p.code ≠ 2) : Stp p (takeS C st p) := by
 have hno : Stp p (st, []) := ⟨.inl hs, hr, Nat.zero_le _, fun q hq => by cases hq⟩; rw [takeS_not1 C st p h1, if_neg h2]
 split
 . split
   . split
     . exact ev6S C { st with req := p.o.foldl (nameOne C) st.req } hs (Small.named hC _ hr) 9 (by decide) p 0 []
     . unfold refusedS
       split
       . split
         . exact ev6S C st hs hr 14 (by decide) p 0 []
         . exact ev6S C { st with req := st.req.filter fun o => !(p.o.any (eqB o)) } hs (hr.filter _) 9 (by decide) p 0 []
       . exact hno
   . exact hno
 . split
   . exact ev6S C st hs hr 10 (by decide) p 0 []
   . split
     . exact ev6S C st hs hr 11 (by decide) p 0 []
     . split
       . unfold code7S
         split
         . exact hno
         . split
           . exact ev6S C st hs hr 14 (by decide) p 0 []
           . exact ev6S C st hs hr 13 (by decide) p 0 []
       . exact ev6S C st hs hr 12 (by decide) p 0 []
structure BI (s : LSt) : Prop where
 s6 : s.st.s = 6
 sync : s.Sync
 req : Small s.st.req
theorem syncS_st (s : LSt) : (syncS s).st = s.st := by
 unfold syncS
 split <;> rfl
theorem BI.take {C : NegC} (hC : ownB C) {s : LSt} (h : BI s) (p : Pk) (h1 : p.code ≠ 1) (h2 : p.code ≠ 2) :
 (∀ o, findO (ltakeN C s p).1.st.req 5 = some o -> o.v.size <= 7) /\ (ltakeS C s p).1.st.s ≠ 9 /\ ((ltakeS C s p).1.st.s = 3 \/ BI (ltakeS C s p).1) /\ (ltakeS C s p).2.length <= 1 /\ ∀ q ∈ (ltakeS C s p).2, PkOk q := by
 have hE : ltakeN C s p = ({ s with st := (takeS C s.st p).1 }, (takeS C s.st p).2) := by unfold ltakeN; exact if_neg h1
 have hT := take6S C hC s.st h.s6 h.req p h1 h2; have h7 : ∀ o, findO (ltakeN C s p).1.st.req 5 = some o -> o.v.size <= 7 := by rw [hE]; exact hT.req.h7
 have hL : ltakeS C s p = (syncS (anewS s.st.ups (ltakeN C s p).1), (ltakeN C s p).2) := by
  unfold ltakeS; have : loopedS s.own p = false := by unfold loopedS; rw [decide_eq_false h1]; rfl
  rw [this]; exact if_neg (by decide)
 rw [hL]; refine ⟨h7, ?_, ?_, ?_, ?_⟩
 . show (syncS (anewS s.st.ups (ltakeN C s p).1)).st.s ≠ 9
   rw [syncS_st, anewS_st, hE]
   rcases hT.s with e | e <;> (show (takeS C s.st p).1.s ≠ 9; rw [e]; decide)
 . show (syncS (anewS s.st.ups (ltakeN C s p).1)).st.s = 3 \/ BI (syncS (anewS s.st.ups (ltakeN C s p).1))
   rcases hT.s with e | e
   . refine .inr ⟨by rw [syncS_st, anewS_st, hE]; exact e, syncS_sync _ (by rw [anewS_st]; exact h7), by rw [syncS_st, anewS_st, hE]; exact hT.req⟩
   . exact .inl (by rw [syncS_st, anewS_st, hE]; exact e)
 . rw [hE]; exact hT.len
 . rw [hE]; exact hT.out
end Go.Proofs.YtbiaempeegfdkaaGreat
