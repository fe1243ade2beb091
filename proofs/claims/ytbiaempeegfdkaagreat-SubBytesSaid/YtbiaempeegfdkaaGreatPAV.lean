import Derived.Test.YtbiaempeegfdkaaGreatPAQ
import Derived.Test.YtbiaempeegfdkaaGreatPAO
import Derived.Test.YtbiaempeegfdkaaGreatPAT
import Derived.Test.YtbiaempeegfdkaaGreatPAK
import Derived.Lib.QuietBelow
import Derived.Test.YtbiaempeegfdkaaGreatPAR
import Derived.Test.YtbiaempeegfdkaaGreatPAP
import Derived.Test.YtbiaempeegfdkaaGreatPAM
set_option linter.unusedVariables false
set_option linter.unusedSimpArgs false
set_option maxHeartbeats 16000000
namespace Go.Proofs.YtbiaempeegfdkaaGreat
open Go.RowKit Go.Tg Go.Maps
theorem setIf_same {cs : Array Value} {o : Nat} {v : Value} (hv : cs[o]? = some v) : cs.setIfInBounds o v = cs := by
 apply Array.ext_getElem?
 intro i
 by_cases h : o = i
 . subst h; rw [hv, Array.getElem?_setIfInBounds_self_of_lt (Array.getElem?_eq_some_iff.1 hv).1]
 . rw [Array.getElem?_setIfInBounds_ne h]
theorem setCell_same {w : World} {b o : Nat} {v : Value} {cs : Array Value} {ty : TypeId} {fz : Nat × Nat} (h : w.heap[b]? = some (.cells cs ty fz)) (hv : cs[o]? = some v) : w.setCell ⟨b, o, none⟩ v = w := by
 have : w.heap.modify b (fun
  | .cells c elem frozen => .cells (if (none : Option Nat).isSome then c else c.setIfInBounds o v) elem frozen
  | o => o) = w.heap := by
  apply Array.ext_getElem?
  intro i; rw [Array.getElem?_modify]
  by_cases hb : b = i
  . subst hb; rw [if_pos rfl, h]; simp [setIf_same hv]
  . rw [if_neg hb]
 show { w with heap := _ } = w
 cases w
 simp only [World.mk.injEq, and_self, and_true] at this ⊢; exact this
structure LSt where
 st : NSt
 own : Int
 loops : Int
 ticks : Int
 missed : Int
 t : TpS
structure LB where
 lb : Nat
 tb : Nat
 B : NegB
def LB.t (L : LB) (b : Nat) : Prop := L.B.t b \/ b = L.lb \/ b = L.tb
def lcpCells (L : LB) (echo : Int) (s : LSt) : Array Value :=
 #[.pointer (some ⟨L.B.nb, 0, none⟩), .pointer (some ⟨L.tb, 0, none⟩), .int .i64 echo, .int .i64 s.own, .int .i64 s.loops, .int .i64 s.ticks, .int .i64 s.missed]
def judgeV (lb : Nat) : Value := .func (.func 92) #[.pointer (some ⟨lb, 0, none⟩)] #[]
structure LcpAt (w : World) (S ok : Nat -> Prop) (L : LB) (C : NegC) (echo : Int) (s : LSt) (X : NegX) : Prop where
 blk : w.heap[L.lb]? = some (.cells (lcpCells L echo s) 99 (0, 0))
 neg : NegAt w S L.B C s.st X
 tape : TapeAt w L.tb ok s.t
 ne : L.lb ≠ L.tb
 n1 : ¬ S L.lb
 n2 : ¬ S L.tb
 n3 : ∀ b, ok b -> ¬ S b /\ b ≠ L.lb /\ b < w.heap.size
 jd : C.judge = judgeV L.lb
def LSt.Sync (s : LSt) : Prop := ∀ o, findO s.st.req 5 = some o -> o.v.size <= 7 /\ valB o.v.data.toList = s.own
def LcpV (w : World) (U : Nat -> Prop) (L : LB) (C : NegC) (echo : Int) (s : LSt) : Prop :=
 ∃ S ok X, LcpAt w S ok L C echo s X /\ ∀ b, S b \/ ok b \/ b = L.lb \/ b = L.tb -> U b
section
variable {w w' : World} {S ok U U' T : Nat -> Prop} {L : LB} {C : NegC} {echo : Int} {s s' : LSt} {X X' : NegX}
theorem LcpAt.llt (h : LcpAt w S ok L C echo s X) : L.lb < w.heap.size := (Array.getElem?_eq_some_iff.1 h.blk).1
theorem LcpAt.tlt (h : LcpAt w S ok L C echo s X) : L.tb < w.heap.size := h.tape.lt
theorem LcpAt.cell (h : LcpAt w S ok L C echo s X) (o : Nat) : w.cell? ⟨L.lb, o, none⟩ = (lcpCells L echo s)[o]? := cell_of_block h.blk o
theorem LcpAt.fz (h : LcpAt w S ok L C echo s X) (o : Nat) : w.frozen? ⟨L.lb, o, none⟩ = false := frozen_of_block h.blk o
theorem NegAt.ts (h : NegAt w S L.B C s.st X) {b : Nat} (hb : L.B.t b) : S b := by
 rcases hb with rfl | rfl | rfl
 . exact h.s1
 . exact h.s2
 . exact h.s3
theorem LcpAt.lt (h : LcpAt w S ok L C echo s X) {b : Nat} (hb : L.t b) : b < w.heap.size := by
 rcases hb with hb | rfl | rfl
 . exact h.neg.tlt hb
 . exact h.llt
 . exact h.tlt
theorem LcpAt.keep (h : LcpAt w S ok L C echo s X) (hk : Keep T w w') (hS : ∀ b, b < w.heap.size -> S b \/ ok b \/ b = L.lb \/ b = L.tb -> ¬ T b) : LcpAt w' S ok L C echo s X where
 blk := (hk.block _ h.llt (hS _ h.llt (.inr (.inr (.inl rfl))))).trans h.blk
 neg := h.neg.keep hk (fun b hb hs => hS b hb (.inl hs))
 tape := h.tape.keep hk (hS _ h.tlt (.inr (.inr (.inr rfl)))) (fun b hb ho => hS b hb (.inr (.inl ho)))
 ne := h.ne
 n1 := h.n1
 n2 := h.n2
 n3 := fun b hb => ⟨(h.n3 b hb).1, (h.n3 b hb).2.1, Nat.lt_of_lt_of_le (h.n3 b hb).2.2 hk.size⟩
 jd := h.jd
theorem LcpAt.below (h : LcpAt w S ok L C echo s X) (hb : Below w.heap.size w w') : LcpAt w' S ok L C echo s X := h.keep (Keep.of_below (fun _ => False) hb) (fun _ _ _ h => h)
theorem LcpAt.old (h : LcpAt w S ok L C echo s X) : LcpAt w (fun b => S b /\ b < w.heap.size) ok L C echo s X where
 blk := h.blk
 neg := h.neg.old
 tape := h.tape
 ne := h.ne
 n1 := fun hb => h.n1 hb.1
 n2 := fun hb => h.n2 hb.1
 n3 := fun b hb => ⟨fun hs => (h.n3 b hb).1 hs.1, (h.n3 b hb).2⟩
 jd := h.jd
theorem LcpAt.wide (h : LcpAt w S ok L C echo s X) {S' : Nat -> Prop} (hS : ∀ b, S b -> S' b) (h1 : ¬ S' L.lb) (h2 : ¬ S' L.tb) (h3 : ∀ b, ok b -> ¬ S' b) : LcpAt w S' ok L C echo s X where
 blk := h.blk
 neg := h.neg.mono hS
 tape := h.tape
 ne := h.ne
 n1 := h1
 n2 := h2
 n3 := fun b hb => ⟨h3 b hb, (h.n3 b hb).2⟩
 jd := h.jd
theorem LcpV.keep (h : LcpV w U L C echo s) (hk : Keep T w w') (hU : ∀ b, b < w.heap.size -> U b -> ¬ T b) : LcpV w' U L C echo s := by
 obtain ⟨S, ok, X, h, hu⟩ := h; exact ⟨S, ok, X, h.keep hk (fun b hb hx => hU b hb (hu b hx)), hu⟩
theorem LcpV.below (h : LcpV w U L C echo s) (hb : Below w.heap.size w w') : LcpV w' U L C echo s := h.keep (Keep.of_below (fun _ => False) hb) (fun _ _ _ h => h)
theorem LcpV.mono (h : LcpV w U L C echo s) (hU : ∀ b, U b -> U' b) : LcpV w U' L C echo s := by
 obtain ⟨S, ok, X, h, hu⟩ := h; exact ⟨S, ok, X, h, fun b hb => hU b (hu b hb)⟩
theorem LcpV.us (h : LcpV w U L C echo s) {b : Nat} (hb : L.t b) : U b := by
 obtain ⟨S, ok, X, h, hu⟩ := h
 rcases hb with hb | rfl | rfl
 . exact hu b (.inl (h.neg.ts hb))
 . exact hu _ (.inr (.inr (.inl rfl)))
 . exact hu _ (.inr (.inr (.inr rfl)))
theorem LcpAt.negTurn (h : LcpAt w S ok L C echo s X) {st' : NSt} (hn : NegAt w' (Grow S w) L.B C st' X') (hk : Keep L.B.t w w') : LcpAt w' (Grow S w) ok L C echo { s with st := st' } X' where
 blk := (hk.block _ h.llt (fun ht => h.n1 (h.neg.ts ht))).trans h.blk
 neg := hn
 tape := h.tape.keep hk (fun ht => h.n2 (h.neg.ts ht)) (fun b _ hb ht => (h.n3 b hb).1 (h.neg.ts ht))
 ne := h.ne
 n1 := fun hg => hg.elim h.n1 (fun hl => by have := h.llt; omega)
 n2 := fun hg => hg.elim h.n2 (fun hl => by have := h.tlt; omega)
 n3 := fun b hb => ⟨fun hg => hg.elim (h.n3 b hb).1 (fun hl => by have := (h.n3 b hb).2.2; omega), (h.n3 b hb).2.1, Nat.lt_of_lt_of_le (h.n3 b hb).2.2 hk.size⟩
 jd := h.jd
theorem keepL (L : LB) (w : World) (o : Nat) (v : Value) : Keep (fun b => b = L.lb) w (w.setCell ⟨L.lb, o, none⟩ v) := (Keep.refl (fun b => b = L.lb) w).setCell ⟨L.lb, o, none⟩ (Or.inr rfl) v
theorem LcpAt.cellTurn (h : LcpAt w S ok L C echo s X) (o : Nat) (v : Value) (hc : (lcpCells L echo s).setIfInBounds o v = lcpCells L echo s') (hs : s'.st = s.st /\ s'.t = s.t) : LcpAt (w.setCell ⟨L.lb, o, none⟩ v) S ok L C echo s' X := by
 have hk := keepL L w o v; obtain ⟨e1, e2⟩ := hs
 exact {
  blk := by rw [<- hc]; exact set_block h.blk o v
  neg := by rw [e1]; exact h.neg.keep hk (fun b _ hb he => h.n1 (he ▸ hb))
  tape := by rw [e2]; exact h.tape.keep hk (fun he => h.ne he.symm) (fun b _ hb he => (h.n3 b hb).2.1 he)
  ne := h.ne
  n1 := h.n1
  n2 := h.n2
  n3 := fun b hb => ⟨(h.n3 b hb).1, (h.n3 b hb).2.1, Nat.lt_of_lt_of_le (h.n3 b hb).2.2 hk.size⟩
  jd := h.jd }
end
section
variable {w : World} {S ok : Nat -> Prop} {L : LB} {B : NegB} {C : NegC} {st : NSt} {echo : Int} {s : LSt} {X : NegX}
theorem Request_at (h : NegAt w S B C st X) :
 Calls Tryz.prog 143 #[.pointer (some ⟨B.nb, 0, none⟩)] w fun e w' => ∃ v, e = .returned v /\ ORow w' w.heap.size v st.req /\ Below w.heap.size w w' := by
 have g0 : w.cell? ⟨B.nb, 10, none⟩ = some X.req := h.cell 10; have H := H_ (A_ (nnone_at h) (clone_any st.req X.req (fun b => 0 <= b) w (h.req.opts (by have := h.lr; unfold maxLen; omega)) (by have := h.lr; omega))); clear h; go_enter Tryz.func143, Tryz.ntmps143
 go_wp2_with (first
  | (go_at_call 79; refine H.out.1.mono ?_; rintro e w1 ⟨rfl, rfl⟩)
  | (go_at_call 100; refine H.out.2.mono ?_; rintro e w1 ⟨v, rfl, hr, hb⟩; have HR := H_ (A_ hr hb); clear hr hb))
 go_ret; exact ⟨_, rfl, HR.out⟩
set_option maxRecDepth 100000 in
theorem magic_at (h : LcpAt w S ok L C echo s X) (hy : s.Sync) :
 Calls Tryz.prog 111 #[.pointer (some ⟨L.lb, 0, none⟩)] w fun e w' => e = .returned (.int .i64 s.own) /\ Below w.heap.size w w' := by
 have g0 : w.cell? ⟨L.lb, 0, none⟩ = some (.pointer (some ⟨L.B.nb, 0, none⟩)) := h.cell 0; have HQ := H_ (Request_at h.neg); have HX := H_ (A_ h.blk (A_ h.llt h.neg.lr)); have HF := H_ (fun W lv (hl : Opts W (fun b => w.heap.size <= b) lv s.st.req) => findO_any s.st.req lv _ 5 W hl (by have := h.neg.lr; omega)); unfold LSt.Sync at hy; clear h; generalize s.st.req = rq at *
 cases hf : findO rq 5 with
 | none =>
  rw [hf] at HF; simp only [Option.getD_none, Option.isSome_none] at HF; clear hf hy; go_enter Tryz.func111, Tryz.ntmps111
  go_wp2_with (first
   | (
    go_at_call 143; refine HQ.out.mono ?_; rintro e w1 ⟨v, rfl, hr, hb⟩; have HR := H_ (A_ hr hb); have g1 : w1.cell? ⟨L.lb, 3, none⟩ = some (.int .i64 s.own) := cellOf ((hb.block _ HX.out.2.1).trans HX.out.1) 3 _ rfl
    clear hr hb)
   | (
    go_at_call 53; refine (HF.out _ _ (HR.out.1.opts (by have := HX.out.2.2; unfold maxLen; omega))).mono ?_; rintro e w2 ⟨rfl, hb⟩; have HB := H_ hb; have g2 : w2.cell? ⟨L.lb, 3, none⟩ = some (.int .i64 s.own) := cellOf ((hb.block _ (Nat.lt_of_lt_of_le HX.out.2.1 HR.out.2.size)).trans ((HR.out.2.block _ HX.out.2.1).trans HX.out.1)) 3 _ rfl
    clear hb))
  go_ret; exact ⟨rfl, HR.out.2.trans (HB.out.mono HR.out.2.size)⟩
 | some o =>
  obtain ⟨h7, hv⟩ := hy o hf; rw [hf] at HF; simp only [Option.getD_some, Option.isSome_some] at HF; have HV := H_ (fun W => value_any o.v W h7); rw [hv] at HV; clear hf hy h7 hv; generalize o.v = ov at *; go_enter Tryz.func111, Tryz.ntmps111
  go_wp2_with (first
   | (
    go_at_call 143; refine HQ.out.mono ?_; rintro e w1 ⟨v, rfl, hr, hb⟩; have HR := H_ (A_ hr hb)
    clear hr hb)
   | (
    go_at_call 53; refine (HF.out _ _ (HR.out.1.opts (by have := HX.out.2.2; unfold maxLen; omega))).mono ?_; rintro e w2 ⟨rfl, hb⟩; have z2 := (hb.block _ (Nat.lt_of_lt_of_le HX.out.2.1 HR.out.2.size)).trans ((HR.out.2.block _ HX.out.2.1).trans HX.out.1); have g2 : w2.cell? ⟨L.lb, 3, none⟩ = some (.int .i64 s.own) := cellOf z2 3 _ rfl; have f2 := fzOf z2 3; have q2 : w2.setCell ⟨L.lb, 3, none⟩ (.int .i64 s.own) = w2 := setCell_same z2 rfl; have HB := H_ (A_ hb z2)
    clear hb z2)
   | (go_at_call 54; refine (HV.out _).mono ?_; rintro e w3 ⟨rfl, rfl⟩))
  go_ret; exact ⟨rfl, HR.out.2.trans (HB.out.1.mono HR.out.2.size)⟩
end
def loopS (own : Int) (o : Opt) : Bool := decide (o.t = 5) && (decide (own ≠ 0) && decide (o.v = pB4 own))
def lfitsS (own : Int) (o : Opt) : Bool := if o.t = 1 then fitsR (unitR 65535) o.v else if o.t = 3 then decide (protoS [o] ≠ 0) else fitsR magicR o.v && !loopS own o
def insteadL (t : TpS) (k : Int) : ByteArray × TpS := if k = 1 then (pB2 1492, t) else if k = 3 then (chapB, t) else (if (tp4 t).1 = pB4 0 then pB4 1 else (tp4 t).1, (tp4 t).2)
def lhas (k : Int) : Bool := decide (k = 1) || (decide (k = 3) || decide (k = 5))
def ljudgeS (own : Int) (t : TpS) (l : List Opt) : (Int × List Opt) × TpS := answerQ lhas (lfitsS own) insteadL t l
section
variable {w : World} {S ok : Nat -> Prop} {L : LB} {B : NegB} {C : NegC} {st : NSt} {echo : Int} {s : LSt} {X : NegX}
set_option maxRecDepth 100000 in
theorem loop_at (h : LcpAt w S ok L C echo s X) (hy : s.Sync) (o : Opt) :
 Calls Tryz.prog 142 #[.pointer (some ⟨L.lb, 0, none⟩), .agg #[.int .i64 o.t, .string o.v]] w fun e w' => e = .returned (.bool (loopS s.own o)) /\ Below w.heap.size w w' := by
 obtain ⟨t, v⟩ := o; have hb1 := (Below.refl w.heap.size w).alloc (Nat.le_refl _) (.cells #[.int .i64 t, .string v] 132 (0, 0)); have HM := H_ (magic_at (h.below hb1) hy); have HX := H_ (A_ hb1 (at1 w (.cells #[.int .i64 t, .string v] 132 (0, 0)))); have HS := H_ (alloc1 w (.cells #[.int .i64 t, .string v] 132 (0, 0))); have HL := H_ (show loopS s.own ⟨t, v⟩ = (decide (t = 5) && (decide (s.own ≠ 0) && decide (v = pB4 s.own))) from rfl); generalize loopS s.own ⟨t, v⟩ = R at *; generalize s.own = own at *; clear h hy hb1
 by_cases ht : t = 5
 . by_cases h0 : own = 0
   . have HR : Hid (R = false) := H_ (by rw [HL.out]; simp [h0]); subst ht h0; clear HL; go_enter Tryz.func142, Tryz.ntmps142
     go_wp2_with (
      go_at_call 111; refine HM.out.mono ?_; rintro e w1 ⟨rfl, hb⟩; have z1 := (hb.block w.heap.size (by rw [HS.out]; omega)).trans HX.out.2; have d0 : w1.cell? ⟨w.heap.size, 0, none⟩ = some (.int .i64 5) := cellOf z1 0 _ rfl; have d1 : w1.cell? ⟨w.heap.size, 1, none⟩ = some (.string v) := cellOf z1 1 _ rfl; have HB := H_ (HX.out.1.trans (hb.mono (by rw [HS.out]; omega)))
      clear z1 hb)
     go_quiet (fail)
     go_wp2_with fail; go_ret; rw [HR.out]; exact ⟨rfl, belowN HB.out _⟩
   . have HR : Hid (R = decide (v = pB4 own)) := H_ (by rw [HL.out, ht]; simp [h0]); have e0 : (own != 0) = true := by simpa using h0
     subst ht; clear HL h0; go_enter Tryz.func142, Tryz.ntmps142
     go_wp2_with (
      go_at_call 111; refine HM.out.mono ?_; rintro e w1 ⟨rfl, hb⟩; have z1 := (hb.block w.heap.size (by rw [HS.out]; omega)).trans HX.out.2; have d0 : w1.cell? ⟨w.heap.size, 0, none⟩ = some (.int .i64 5) := cellOf z1 0 _ rfl; have d1 : w1.cell? ⟨w.heap.size, 1, none⟩ = some (.string v) := cellOf z1 1 _ rfl; have HB := H_ (HX.out.1.trans (hb.mono (by rw [HS.out]; omega)))
      clear z1 hb)
     have d0' := cell_regrown d0; have d1' := cell_regrown d1; have HP := H_ (fun d os => lputI4 own (Go.Sort.grow (redrawn w1 d) os)); refine wp_region_quiet_below (by kernel_rfl) (by kernel_rfl) ?_
     repeat (quiet_step (first | (go_at_call 72; exact Calls.regrown_of (HP.out _ _))))
     refine wpQuiet_nil ?_; rintro _ ⟨⟨nq, osq⟩, rfl⟩; have HB2 := H_ (HB.out.trans ((below_regrown _ nq osq).mono HB.out.size)); go_wp2_with fail; go_ret; rw [HR.out]; exact ⟨by rw [<- tl_eq]; rfl, HB2.out⟩
 . have HR : Hid (R = false) := H_ (by rw [HL.out]; simp [ht]); have e0 : (t == 5) = false := by simpa using ht
   clear HL ht; go_enter Tryz.func142, Tryz.ntmps142
   go_wp2_with (
    go_at_call 111; refine HM.out.mono ?_; rintro e w1 ⟨rfl, hb⟩; have z1 := (hb.block w.heap.size (by rw [HS.out]; omega)).trans HX.out.2; have d0 : w1.cell? ⟨w.heap.size, 0, none⟩ = some (.int .i64 t) := cellOf z1 0 _ rfl; have d1 : w1.cell? ⟨w.heap.size, 1, none⟩ = some (.string v) := cellOf z1 1 _ rfl; have HB := H_ (HX.out.1.trans (hb.mono (by rw [HS.out]; omega)))
    clear z1 hb)
   go_quiet (fail)
   go_wp2_with fail; go_ret; rw [HR.out]; exact ⟨rfl, belowN HB.out _⟩
end
section
variable {w w' : World} {S ok : Nat -> Prop} {L : LB} {B : NegB} {C : NegC} {st : NSt} {echo : Int} {s : LSt} {X : NegX}
theorem LcpAt.tapeTurn (h : LcpAt w S ok L C echo s X) {t' : TpS} (ht : TapeAt w' L.tb ok t') (hk : Keep (fun b => b = L.tb) w w') : LcpAt w' S ok L C echo { s with t := t' } X where
 blk := (hk.block _ h.llt h.ne).trans h.blk
 neg := h.neg.keep hk (fun _ _ hb he => h.n2 (he ▸ hb))
 tape := ht
 ne := h.ne
 n1 := h.n1
 n2 := h.n2
 n3 := fun b hb => ⟨(h.n3 b hb).1, (h.n3 b hb).2.1, Nat.lt_of_lt_of_le (h.n3 b hb).2.2 hk.size⟩
 jd := h.jd
set_option maxRecDepth 100000 in
theorem lfits_at (h : LcpAt w S ok L C echo s X) (hy : s.Sync) (o : Opt) (hv : o.v.size <= 100000) :
 Calls Tryz.prog 132 #[.pointer (some ⟨L.lb, 0, none⟩), .agg #[.int .i64 o.t, .string o.v]] w fun e w' => e = .returned (.bool (lfitsS s.own o)) /\ Below w.heap.size w w' := by
 obtain ⟨t, v⟩ := o; have hb1 := (Below.refl w.heap.size w).alloc (Nat.le_refl _) (.cells #[.int .i64 t, .string v] 132 (0, 0)); have HX := H_ (A_ hb1 (at1 w (.cells #[.int .i64 t, .string v] 132 (0, 0)))); have HL := H_ (show lfitsS s.own ⟨t, v⟩ = (if t = 1 then fitsR (unitR 65535) v else if t = 3 then decide (protoS [⟨t, v⟩] ≠ 0) else fitsR magicR v && !loopS s.own ⟨t, v⟩) from rfl); have H1 := H_ (A_ (h.below hb1) hy); obtain ⟨W, hW⟩ : ∃ W, W = w.alloc (.cells #[.int .i64 t, .string v] 132 (0, 0)) := ⟨_, rfl⟩; rw [<- hW] at H1 HX; generalize lfitsS s.own ⟨t, v⟩ = R at *; simp only at hv
 have d0 : W.cell? ⟨w.heap.size, 0, none⟩ = some (.int .i64 t) := cellOf HX.out.2 0 _ rfl; have d1 : W.cell? ⟨w.heap.size, 1, none⟩ = some (.string v) := cellOf HX.out.2 1 _ rfl; clear h hy hb1
 by_cases h1 : t = 1
 . have HR : Hid (R = fitsR (unitR 65535) v) := H_ (by rw [HL.out, if_pos h1]); subst h1; clear HL; go_enter Tryz.func132, Tryz.ntmps132; go_wp2_with fail; rw [<- hW]; clear hW; have d0' := cell_regrown d0; have d1' := cell_regrown d1; have HU := H_ (fun d os => units_any 65535 (Go.Sort.grow (redrawn W d) os)); have HF := H_ (fun d os => fits_any (unitR 65535) v (Go.Sort.grow (redrawn W d) os) hv); refine wp_region_quiet_below (by kernel_rfl) (by kernel_rfl) ?_
   repeat (quiet_step (first | (go_at_call 90; exact Calls.regrown_of (HU.out _ _)) | (go_at_call 158; exact Calls.regrown_of (HF.out _ _))))
   refine wpQuiet_nil ?_; rintro _ ⟨⟨nq, osq⟩, rfl⟩; have HB2 := H_ (HX.out.1.trans ((below_regrown _ nq osq).mono HX.out.1.size)); go_wp2_with fail; go_ret; rw [HR.out]; exact ⟨rfl, HB2.out⟩
 . by_cases h3 : t = 3
   . have HR : Hid (R = decide (protoS [⟨t, v⟩] ≠ 0)) := H_ (by rw [HL.out, if_neg h1, if_pos h3]); subst h3; clear HL h1; subst hW
     have HA := H_ (A_ (proto_any [⟨3, v⟩] (.slice (some ⟨w.heap.size + 1, 0, none⟩) 1 1) (fun b => 0 <= b) ((w.alloc (.cells #[.int .i64 3, .string v] 132 (0, 0))).alloc (.cells #[.int .i64 3, .string v] 132 (0, 0))) ((ORow.one ⟨3, v⟩ (at21 w _ _) (Nat.zero_le _)).opts (by unfold maxLen; simp)) (by simp))
      (HX.out.1.alloc HX.out.1.size (.cells #[.int .i64 3, .string v] 132 (0, 0))))
     clear HX H1 d0 d1; generalize protoS [⟨3, v⟩] = pp at *; go_enter Tryz.func132, Tryz.ntmps132
     go_wp2_with (go_at_call 117; refine HA.out.1.mono ?_; rintro e w3 ⟨rfl, hb3⟩; have H3 := H_ hb3; clear hb3)
     go_ret; rw [HR.out]; refine ⟨?_, HA.out.2.trans (H3.out.mono HA.out.2.size)⟩
     by_cases hp : pp = 0 <;> simp [hp]
   . have HR : Hid (R = (fitsR magicR v && !loopS s.own ⟨t, v⟩)) := H_ (by rw [HL.out, if_neg h1, if_neg h3]); have e1 : (t == 1) = false := by simpa using h1
     have e3 : (t == 3) = false := by simpa using h3
     clear HL h1 h3; have d0' := cell_regrown d0; have d1' := cell_regrown d1; have HM := H_ (fun d os => magics_any (Go.Sort.grow (redrawn W d) os)); have HF := H_ (fun d os => fits_any magicR v (Go.Sort.grow (redrawn W d) os) hv); have HO := H_ (fun d os => loop_at (H1.out.1.below (below_regrown W d os)) H1.out.2 ⟨t, v⟩); generalize fitsR magicR v = ff at *; generalize loopS s.own ⟨t, v⟩ = ll at *; go_enter Tryz.func132, Tryz.ntmps132; go_wp2_with fail; rw [<- hW]; clear hW
     cases ff with
     | false =>
      refine wp_region_quiet_below (by kernel_rfl) (by kernel_rfl) ?_
      repeat (quiet_step (first | (go_at_call 91; exact Calls.regrown_of (HM.out _ _)) | (go_at_call 158; exact Calls.regrown_of (HF.out _ _)) | (go_at_call 142; exact Calls.regrown_of (HO.out _ _))))
      refine wpQuiet_nil ?_; rintro _ ⟨⟨nq, osq⟩, rfl⟩; have HB2 := H_ (HX.out.1.trans ((below_regrown _ nq osq).mono HX.out.1.size)); go_wp2_with fail; go_ret; rw [HR.out]; exact ⟨rfl, HB2.out⟩
     | true =>
      refine wp_region_quiet_below (by kernel_rfl) (by kernel_rfl) ?_
      repeat (quiet_step (first | (go_at_call 91; exact Calls.regrown_of (HM.out _ _)) | (go_at_call 158; exact Calls.regrown_of (HF.out _ _)) | (go_at_call 142; exact Calls.regrown_of (HO.out _ _))))
      refine wpQuiet_nil ?_; rintro _ ⟨⟨nq, osq⟩, rfl⟩; have HB2 := H_ (HX.out.1.trans ((below_regrown _ nq osq).mono HX.out.1.size)); go_wp2_with fail; go_ret; rw [HR.out]; exact ⟨by simp, HB2.out⟩
set_option maxRecDepth 100000 in
theorem linstead_at (h : LcpAt w S ok L C echo s X) (k : Int) :
 Calls Tryz.prog 133 #[.pointer (some ⟨L.lb, 0, none⟩), .int .i64 k] w fun e w' => e = .returned (.string (insteadL s.t k).1) /\ LcpAt w' S ok L C echo { s with t := (insteadL s.t k).2 } X /\ Keep (fun b => b = L.tb) w w' := by
 have g1 : w.cell? ⟨L.lb, 1, none⟩ = some (.pointer (some ⟨L.tb, 0, none⟩)) := h.cell 1; have HT := H_ (bytes4_any L.tb ok s.t w h.tape); have H := H_ h; have HE := H_ (show insteadL s.t k = (if k = 1 then (pB2 1492, s.t) else if k = 3 then (chapB, s.t) else (if (tp4 s.t).1 = pB4 0 then pB4 1 else (tp4 s.t).1, (tp4 s.t).2)) from rfl); have V2 := H_ (fun w => lvalue_any 49699 w (by unfold I64; decide)); rw [show lvalS 49699 = chapB from rfl] at V2; clear h; generalize insteadL s.t k = R at *
 by_cases h1 : k = 1
 . subst h1; go_enter Tryz.func133, Tryz.ntmps133
   go_wp2_with (go_at_call 72; refine (lputI2 _ _).mono ?_; rintro e w1 ⟨rfl, hb⟩; have HB := H_ hb; clear hb)
   go_ret; rw [HE.out]; exact ⟨rfl, H.out.below HB.out, Keep.of_below _ HB.out⟩
 . by_cases h3 : k = 3
   . subst h3; clear h1; go_enter Tryz.func133, Tryz.ntmps133
     go_wp2_with (go_at_call 87; refine (V2.out _).mono ?_; rintro e w1 ⟨rfl, hb⟩; have HB := H_ hb; clear hb)
     go_ret; rw [HE.out]; exact ⟨rfl, H.out.below HB.out, Keep.of_below _ HB.out⟩
   . rw [if_neg h1, if_neg h3] at HE; have e1 : (k == 1) = false := by simpa using h1
     have e3 : (k == 3) = false := by simpa using h3
     clear h1 h3; generalize hq : tp4 s.t = q at *; obtain ⟨x, t'⟩ := q; clear hq
     dsimp only at HE HT
     by_cases hx : x = pB4 0
     . have ex : (x.toList == (pB4 0).toList) = true := by rw [tl_eq]; simpa using hx
       have HR : Hid (R = (pB4 1, t')) := H_ (by rw [HE.out, if_pos hx]); clear hx HE; go_enter Tryz.func133, Tryz.ntmps133
       go_wp2_with (first
        | (go_at_call 164; refine HT.out.mono ?_; rintro e w1 ⟨rfl, ht, hk⟩; have H1 := H_ (A_ (H.out.tapeTurn ht hk) hk); clear ht hk)
        | (go_at_call 72; refine (lputI4 _ _).mono ?_; rintro e w1 ⟨rfl, hb⟩; have H1 := H_ (A_ (H1.out.1.below hb) (H1.out.2.trans (Keep.of_below _ hb))); clear hb))
       go_ret; rw [HR.out]; exact ⟨rfl, H1.out.1, H1.out.2⟩
     . have ex : (x.toList == (pB4 0).toList) = false := by rw [tl_eq]; simpa using hx
       have HR : Hid (R = (x, t')) := H_ (by rw [HE.out, if_neg hx]); clear hx HE; go_enter Tryz.func133, Tryz.ntmps133
       go_wp2_with (first
        | (go_at_call 164; refine HT.out.mono ?_; rintro e w1 ⟨rfl, ht, hk⟩; have H1 := H_ (A_ (H.out.tapeTurn ht hk) hk); clear ht hk)
        | (go_at_call 72; refine (lputI4 _ _).mono ?_; rintro e w1 ⟨rfl, hb⟩; have H1 := H_ (A_ (H1.out.1.below hb) (H1.out.2.trans (Keep.of_below _ hb))); clear hb))
       go_ret; rw [HR.out]; exact ⟨rfl, H1.out.1, H1.out.2⟩
theorem lhas_any (k : Int) (w : World) : Calls Tryz.prog 131 #[.int .i64 k] w fun e w' => e = .returned (.bool (lhas k)) /\ w = w' := by
 have HL := H_ (show lhas k = (decide (k = 1) || (decide (k = 3) || decide (k = 5))) from rfl); generalize lhas k = R at *
 by_cases h1 : k = 1
 . subst h1; go_enter Tryz.func131, Tryz.ntmps131; go_wp2_with fail; go_ret; rw [HL.out]; exact ⟨rfl, rfl⟩
 . by_cases h3 : k = 3
   . subst h3; go_enter Tryz.func131, Tryz.ntmps131; go_wp2_with fail; go_ret; rw [HL.out]; exact ⟨rfl, rfl⟩
   . have e1 : (k == 1) = false := by simpa using h1
     have e3 : (k == 3) = false := by simpa using h3
     have HR : Hid (R = decide (k = 5)) := H_ (by rw [HL.out]; simp [h1, h3]); clear h1 h3 HL; go_enter Tryz.func131, Tryz.ntmps131; go_wp2_with fail; go_ret; rw [HR.out]; refine ⟨?_, rfl⟩
     by_cases h5 : k = 5 <;> simp [h5]
set_option maxRecDepth 100000 in
theorem judge_at (h : LcpAt w S ok L C echo s X) (hy : s.Sync) (l : List Opt) (lv : Value) (okp : Nat -> Prop) (hl : Opts w okp lv l) (hok : ∀ b, okp b -> b ≠ L.tb) (hmax : l.length <= 1000000) (hwf : ∀ o ∈ l, I64 o.t) (hv : ∀ o ∈ l, o.v.size <= 100000) :
 Calls Tryz.prog 92 #[.pointer (some ⟨L.lb, 0, none⟩), lv] w fun e w' => ∃ v, e = .returned (.tuple #[.int .i64 (ljudgeS s.own s.t l).1.1, v]) /\ ORow w' w.heap.size v (ljudgeS s.own s.t l).1.2 /\ LcpAt w' S ok L C echo { s with t := (ljudgeS s.own s.t l).2 } X /\ Keep (fun b => b = L.tb) w w' := by
 obtain ⟨sa, c, rfl, -, -⟩ := hl.form
 have HA := H_ (answerQ_any l _ okp w hl hmax hwf 131 132 133 #[] (.pointer (some ⟨L.lb, 0, none⟩)) (.pointer (some ⟨L.lb, 0, none⟩)) lhas (lfitsS s.own) insteadL s.t (fun b => b = L.tb) (fun W t => LcpAt W (fun b => S b /\ b < w.heap.size) ok L C echo { s with t := t } X)
  (fun W W' t hQ hb => hQ.keep (T := fun b => w.heap.size <= b) ⟨hb.os, hb.tape, hb.output, hb.size, fun k _ hT => hb.block k (by omega)⟩ (fun b _ hx hT => by
   have h1 := h.llt; have h2 := h.tlt
   rcases hx with hx | hx | rfl | rfl
   . have := hx.2; omega
   . have := (h.n3 b hx).2.2; omega
   . omega
   . omega)) (fun b hb => hb ▸ h.tlt) hok h.old
  (enters_of Tryz.func131 (by kernel_rfl) rfl) (enters_of Tryz.func132 (by kernel_rfl) rfl) (enters_of Tryz.func133 (by kernel_rfl) rfl)
  (fun W o _ _ => (lhas_any o.t W).mono (fun e w' he => ⟨he.1, he.2 ▸ Below.refl _ _⟩))
  (fun W t o ho _ hQ => (lfits_at hQ hy o (hv o ho)).mono (fun e w' he => ⟨he.1, hQ.below he.2, Keep.of_below _ he.2⟩))
  (fun W t o _ _ hQ => linstead_at hQ o.t))
 unfold ljudgeS; have HW := H_ (A_ h.n1 (A_ h.n2 (fun b hb => (h.n3 b hb).1))); clear h hl hwf hv hy; go_enter Tryz.func92, Tryz.ntmps92
 go_wp2_with (go_at_call 130; refine HA.out.mono ?_; rintro e w1 ⟨v, rfl, h1, h2, h3⟩; have H1 := H_ (A_ h1 (A_ h2 h3)); clear h1 h2 h3)
 go_ret2; exact ⟨_, rfl, H1.out.1, H1.out.2.1.wide (fun b hb => hb.1) HW.out.1 HW.out.2.1 HW.out.2.2, H1.out.2.2⟩
end
def syncS (s : LSt) : LSt := match findO s.st.req 5 with
 | none => s
 | some o => { s with own := valB o.v.data.toList }
theorem syncS_sync (s : LSt) (h7 : ∀ o, findO s.st.req 5 = some o -> o.v.size <= 7) : (syncS s).Sync := by
 unfold LSt.Sync syncS
 cases hf : findO s.st.req 5 with
 | none => intro o ho; simp only at ho; rw [hf] at ho; cases ho
 | some o =>
  intro o' ho; simp only at ho ⊢
  rw [hf] at ho; cases ho
  exact ⟨h7 o hf, rfl⟩
theorem syncS_id (s : LSt) (h : s.Sync) : syncS s = s := by
 unfold syncS
 cases hf : findO s.st.req 5 with
 | none => rfl
 | some o => simp only; rw [(h o hf).2]
def anewS (u : Int) (s : LSt) : LSt := if s.st.ups = u then s else { s with ticks := 0, missed := 0 }
def doL (C : NegC) (s : LSt) (ev : Int) : LSt × List Pk := (anewS s.st.ups { s with st := (evS rejS C s.st ev noCame).1 }, (evS rejS C s.st ev noCame).2)
def LEv (w w' : World) (U okp : Nat -> Prop) (L : LB) (C : NegC) (echo : Int) (r : LSt × List Pk) (e : Ending) : Prop :=
 ∃ v, e = .returned v /\ PksAt w' (Grow okp w) w.heap.size v r.2 /\ LcpV w' (Grow U w) L C echo r.1 /\ Keep L.t w w'
section
variable {w w' w1 w3 : World} {S ok okp U : Nat -> Prop} {L : LB} {B : NegB} {C : NegC} {st : NSt} {echo : Int} {s s' : LSt} {X X' : NegX}
theorem LcpAt.fin (h : LcpAt w3 (Grow S w1) ok L C echo s' X') (hu : ∀ b, S b \/ ok b \/ b = L.lb \/ b = L.tb -> U b) (hsz : w.heap.size <= w1.heap.size) : LcpV w3 (Grow U w) L C echo s' :=
 ⟨_, _, _, h, fun b hb => by
  rcases hb with hb | hb | hb | hb
  . rcases hb with hb | hb
    . exact .inl (hu b (.inl hb))
    . exact .inr (by omega)
  . exact .inl (hu b (.inr (.inl hb)))
  . exact .inl (hu b (.inr (.inr (.inl hb))))
  . exact .inl (hu b (.inr (.inr (.inr hb))))⟩
theorem lnone_at (h : LcpAt w S ok L C echo s X) : Calls Tryz.prog 52 #[.pointer (some ⟨L.lb, 0, none⟩)] w fun e w' => e = .returned (.bool false) /\ w = w' := by
 have h0 : w.cell? ⟨L.lb, 0, none⟩ = some (.pointer (some ⟨L.B.nb, 0, none⟩)) := h.cell 0; clear h; have q1 : ∀ w a, (binOp .eql 29 (.pointer (some a)) (.pointer none)).run Tryz.prog w = .ok (.bool false) w := fun w a => by kernel_rfl
 have q2 : ∀ w a, (binOp .eql 32 (.pointer (some a)) (.pointer none)).run Tryz.prog w = .ok (.bool false) w := fun w a => by kernel_rfl
 go_enter Tryz.func52, Tryz.ntmps52; go_wp2_with fail; go_ret; exact ⟨rfl, rfl⟩
theorem LState_at (h : LcpAt w S ok L C echo s X) : Calls Tryz.prog 104 #[.pointer (some ⟨L.lb, 0, none⟩)] w fun e w' => e = .returned (.int .i64 s.st.s) /\ w = w' := by
 have h0 : w.cell? ⟨L.lb, 0, none⟩ = some (.pointer (some ⟨L.B.nb, 0, none⟩)) := h.cell 0; have H := H_ (A_ (lnone_at h) (State_at h.neg)); clear h; go_enter Tryz.func104, Tryz.ntmps104
 go_wp2_with (first
  | (go_at_call 52; refine H.out.1.mono ?_; rintro e w1 ⟨rfl, rfl⟩)
  | (go_at_call 99; refine H.out.2.mono ?_; rintro e w1 ⟨rfl, rfl⟩))
 go_ret; exact ⟨rfl, rfl⟩
theorem lopened_at (h : LcpAt w S ok L C echo s X) : Calls Tryz.prog 70 #[.pointer (some ⟨L.lb, 0, none⟩)] w fun e w' => e = .returned (.bool (s.st.s == 9)) /\ w = w' := by
 have H := H_ (LState_at h); clear h; go_enter Tryz.func70, Tryz.ntmps70
 go_wp2_with (go_at_call 104; refine H.out.mono ?_; rintro e w1 ⟨rfl, rfl⟩)
 go_ret; exact ⟨rfl, rfl⟩
set_option maxRecDepth 100000 in
theorem anew_at (h : LcpAt w S ok L C echo s X) (u : Int) (a : Option Addr) (n c : Nat) :
 Calls Tryz.prog 61 #[.pointer (some ⟨L.lb, 0, none⟩), .int .i64 u, .slice a n c] w fun e w' => e = .returned (.slice a n c) /\ LcpAt w' S ok L C echo (anewS u s) X /\ Keep (fun b => b = L.lb) w w' := by
 have h0 : w.cell? ⟨L.lb, 0, none⟩ = some (.pointer (some ⟨L.B.nb, 0, none⟩)) := h.cell 0; have HU := H_ (Ups_at h.neg); have HA := H_ h; have HE := H_ (show anewS u s = (if s.st.ups = u then s else { s with ticks := 0, missed := 0 }) from rfl); clear h
 by_cases hu : s.st.ups = u
 . have e1 : (s.st.ups != u) = false := by simp [hu]
   have HR : Hid (anewS u s = s) := H_ (by rw [HE.out, if_pos hu]); clear hu HE; generalize s.st.ups = x at *; go_enter Tryz.func61, Tryz.ntmps61
   go_wp2_with (go_at_call 60; refine HU.out.mono ?_; rintro e w1 ⟨rfl, hb⟩; have HB := H_ hb; clear hb)
   go_ret; rw [HR.out]; exact ⟨rfl, HA.out.below HB.out, Keep.of_below _ HB.out⟩
 . have e1 : (s.st.ups != u) = true := by simpa using hu
   have HR : Hid (anewS u s = { s with ticks := 0, missed := 0 }) := H_ (by rw [HE.out, if_neg hu]); clear hu HE; generalize hx : s.st.ups = x at e1 HU; clear hx; go_enter Tryz.func61, Tryz.ntmps61
   go_wp2_with (
    go_at_call 60; refine HU.out.mono ?_; rintro e w1 ⟨rfl, hb⟩; have hA := HA.out.below hb; have f5 := hA.fz 5; have f6 := hA.fz 6; have c5 : w1.cell? ⟨L.lb, 5, none⟩ = some (.int .i64 s.ticks) := hA.cell 5; have c6 : w1.cell? ⟨L.lb, 6, none⟩ = some (.int .i64 s.missed) := hA.cell 6
    have HB := H_ (A_ hA (Keep.of_below (fun b => b = L.lb) hb)); clear hb hA)
   go_ret; rw [HR.out]; exact ⟨rfl, (HB.out.1.cellTurn (s' := { s with ticks := 0 }) 5 (.int .i64 0) rfl ⟨rfl, rfl⟩).cellTurn (s' := { s with ticks := 0, missed := 0 }) 6 (.int .i64 0) rfl ⟨rfl, rfl⟩, (HB.out.2.trans (keepL L w1 5 _)).trans (keepL L _ 6 _)⟩
set_option maxRecDepth 100000 in
theorem LDo_at (h : LcpAt w S ok L C echo s X) (hu : ∀ b, S b \/ ok b \/ b = L.lb \/ b = L.tb -> U b) (ev : Int) (hev : 0 <= ev /\ ev <= 3) :
 Calls Tryz.prog 30 #[.pointer (some ⟨L.lb, 0, none⟩), .int .i64 ev] w fun e w' => LEv w w' U (fun _ => False) L C echo (doL C s ev) e := by
 have h0 : w.cell? ⟨L.lb, 0, none⟩ = some (.pointer (some ⟨L.B.nb, 0, none⟩)) := h.cell 0; have HN := H_ (lnone_at h); have HU := H_ (Ups_at h.neg); have HA := H_ (A_ h hu); have HE := H_ hev; have HR : Hid (doL C s ev = (anewS s.st.ups { s with st := (evS rejS C s.st ev noCame).1 }, (evS rejS C s.st ev noCame).2)) := H_ rfl; generalize doL C s ev = R at *; clear h hu hev; go_enter Tryz.func30, Tryz.ntmps30
 go_wp2_with (first
  | (go_at_call 52; refine HN.out.mono ?_; rintro e w0 ⟨rfl, rfl⟩)
  | (
   go_at_call 60; refine HU.out.mono ?_; rintro e w1 ⟨rfl, hb⟩; have hA := HA.out.1.below hb; have c0 : w1.cell? ⟨L.lb, 0, none⟩ = some (.pointer (some ⟨L.B.nb, 0, none⟩)) := hA.cell 0; have HD := H_ (Do_at rejS ev HE.out hA.neg)
   have HB := H_ (A_ hA hb); clear hb hA)
  | (
   go_at_call 62; refine HD.out.mono ?_; rintro e w2 ⟨v, rfl, hp, ⟨X2, hn⟩, hk⟩; obtain ⟨pa, pc, rfl⟩ := hp.form; have h2 := HB.out.1.negTurn hn hk
   have HC := H_ (A_ h2 (A_ hp hk)); clear h2 hp hk hn)
  | (go_at_call 61; refine (anew_at HC.out.1 _ _ _ _).mono ?_; rintro e w3 ⟨rfl, h3, k3⟩; have H3 := H_ (A_ h3 k3); clear h3 k3))
 go_ret; rw [HR.out]; have hsz := HB.out.2.size; refine ⟨_, rfl, ?_, H3.out.1.fin HA.out.2 hsz, ?_⟩
 . obtain ⟨K, q1, q2, q3⟩ := HC.out.2.1; have hl := HB.out.1.llt
   exact ⟨K, q1, (q2.keep H3.out.2 (fun k hk he => by have := (q2.lt k hk).2; omega)).base hsz, (q3.keep H3.out.2 (fun b _ hb he => by
    rcases hb with hb | hb
    . exact hb
    . have hb : w1.heap.size <= b := hb; omega)).mono (fun b hb => hb.imp id (fun hb => Nat.le_trans hsz hb))⟩
 . exact (Keep.of_below _ HB.out.2).trans ((HC.out.2.2.mono (fun b _ hb => .inl hb)).trans (H3.out.2.mono (fun b _ hb => .inr (.inl hb))))
set_option maxRecDepth 100000 in
theorem magicT_at (h : LcpAt w S ok L C echo s X) (h7 : ∀ o, findO s.st.req 5 = some o -> o.v.size <= 7) :
 Calls Tryz.prog 111 #[.pointer (some ⟨L.lb, 0, none⟩)] w fun e w' => (∃ x : Int, e = .returned (.int .i64 x)) /\ LcpAt w' S ok L C echo (syncS s) X /\ Keep (fun b => b = L.lb) w w' := by
 have g0 : w.cell? ⟨L.lb, 0, none⟩ = some (.pointer (some ⟨L.B.nb, 0, none⟩)) := h.cell 0; have HQ := H_ (Request_at h.neg); have HX := H_ (A_ h trivial); have HLR := H_ h.neg.lr; have HF := H_ (fun W lv (hl : Opts W (fun b => w.heap.size <= b) lv s.st.req) => findO_any s.st.req lv _ 5 W hl (by have := h.neg.lr; omega))
 cases hf : findO s.st.req 5 with
 | none =>
  have HM := H_ (A_ (syncS_id s (fun o ho => by rw [hf] at ho; cases ho)) trivial); have hy : s.Sync := fun o ho => by rw [hf] at ho; cases ho
  refine (magic_at h hy).mono ?_; rintro e w' ⟨rfl, hb⟩; rw [HM.out.1]; exact ⟨⟨_, rfl⟩, h.below hb, Keep.of_below _ hb⟩
 | some o =>
  have HS : Hid (syncS s = { s with own := valB o.v.data.toList }) := H_ (by unfold syncS; rw [hf]); rw [hf] at HF; simp only [Option.getD_some, Option.isSome_some] at HF; have HV := H_ (fun W => value_any o.v W (h7 o hf)); generalize s.st.req = rq at HQ HF hf HLR; clear hf h h7; generalize o.v = ov at *; generalize valB ov.data.toList = x at *; go_enter Tryz.func111, Tryz.ntmps111
  go_wp2_with (first
   | (
    go_at_call 143; refine HQ.out.mono ?_; rintro e w1 ⟨v, rfl, hr, hb⟩; have HR := H_ (A_ hr hb)
    clear hr hb)
   | (
    go_at_call 53; refine (HF.out _ _ (HR.out.1.opts (by have := HLR.out; unfold maxLen; omega))).mono ?_; rintro e w2 ⟨rfl, hb⟩; have h2 := (HX.out.1.below HR.out.2).below hb; have g2 : w2.cell? ⟨L.lb, 3, none⟩ = some (.int .i64 s.own) := h2.cell 3; have f2 := h2.fz 3; have HB := H_ (A_ h2 hb)
    clear hb h2)
   | (go_at_call 54; refine (HV.out _).mono ?_; rintro e w3 ⟨rfl, rfl⟩))
  go_ret; rw [HS.out]; exact ⟨⟨_, rfl⟩, HB.out.1.cellTurn (s' := { s with own := x }) 3 (.int .i64 x) rfl ⟨rfl, rfl⟩, ((Keep.of_below _ HR.out.2).trans (Keep.of_below _ HB.out.2)).trans (keepL L w2 3 _)⟩
end
def ltakeN (C : NegC) (s : LSt) (p : Pk) : LSt × List Pk :=
 if p.code = 1 then ({ s with st := (reqS rejS C s.st p (ljudgeS s.own s.t p.o).1).1, t := (ljudgeS s.own s.t p.o).2 }, (reqS rejS C s.st p (ljudgeS s.own s.t p.o).1).2)
 else ({ s with st := (takeS C s.st p).1 }, (takeS C s.st p).2)
theorem ljudgeS_len (own : Int) (t : TpS) (l : List Opt) : (ljudgeS own t l).1.2.length <= l.length := by
 unfold ljudgeS answerQ
 split
 . exact rejP_len _ _ _
 . split
   . exact nakQ_len _ _ _ _
   . exact Nat.le_refl _
theorem takeS_not1 (C : NegC) (st : NSt) (p : Pk) (h1 : p.code ≠ 1) : takeS C st p = if p.code = 2 then ackS rejS C st p
 else if p.code = 3 \/ p.code = 4 then (if p.id = st.asked then (if p.code = 3 then namedS rejS C st p else refusedS rejS C st p) else (st, []))
 else if p.code = 5 then evS rejS C st 10 ⟨true, p, 0, []⟩
 else if p.code = 6 then evS rejS C st 11 ⟨true, p, 0, []⟩
 else if p.code = 7 then code7S rejS C st p
 else evS rejS C st 12 ⟨true, p, 0, []⟩ := by unfold takeS; rw [if_neg h1]
section
variable {w w' w1 w3 : World} {S ok okp U : Nat -> Prop} {L : LB} {B : NegB} {C : NegC} {st : NSt} {echo : Int} {s s' : LSt} {X X' : NegX}
theorem NTake_at (p : Pk) (po : Value) (hp : PkOk p) (hc : p.code <= 7) (h : LcpAt w S ok L C echo s X) (hy : s.Sync) (ho : Opts w okp po p.o) (hok : ∀ b, okp b -> ¬ L.t b) :
 Calls Tryz.prog 69 #[.pointer (some ⟨L.B.nb, 0, none⟩), pkV p po] w fun e w' => ∃ v, e = .returned v /\ PksAt w' (Grow okp w) w.heap.size v (ltakeN C s p).2 /\ (∃ X', LcpAt w' (Grow S w) ok L C echo (ltakeN C s p).1 X') /\ Keep (fun b => L.B.t b \/ b = L.tb) w w' := by
 have hokB : ∀ b, okp b -> ¬ L.B.t b := fun b hb ht => hok b hb (.inl ht)
 have fin : ∀ (w' : World) (r : NSt × List Pk) (e : Ending), EvPost w w' S okp L.B C r e -> ∃ v, e = .returned v /\ PksAt w' (Grow okp w) w.heap.size v r.2 /\ (∃ X', LcpAt w' (Grow S w) ok L C echo { s with st := r.1 } X') /\ Keep (fun b => L.B.t b \/ b = L.tb) w w' := by
  rintro w' r e ⟨v, he, h1, ⟨X', h2⟩, h3⟩; exact ⟨v, he, h1, ⟨X', h.negTurn h2 h3⟩, h3.mono (fun b _ hb => .inl hb)⟩
 by_cases h1 : p.code = 1
 . have hE : ltakeN C s p = ({ s with st := (reqS rejS C s.st p (ljudgeS s.own s.t p.o).1).1, t := (ljudgeS s.own s.t p.o).2 }, (reqS rejS C s.st p (ljudgeS s.own s.t p.o).1).2) := by unfold ltakeN; exact if_pos h1
   rw [hE]; have hT : ∀ b, b = L.tb -> b < w.heap.size /\ ¬ S b /\ ¬ okp b := fun b hb => ⟨hb ▸ h.tlt, hb ▸ h.n2, fun ho => hok b ho (.inr (.inr hb))⟩
   have hQ : ∀ W W' : World, (W.heap[L.lb]? = some (.cells (lcpCells L echo s) 99 (0, 0)) /\ TapeAt W L.tb ok (ljudgeS s.own s.t p.o).2) -> Keep L.B.t W W' -> (W'.heap[L.lb]? = some (.cells (lcpCells L echo s) 99 (0, 0)) /\ TapeAt W' L.tb ok (ljudgeS s.own s.t p.o).2) := fun W W' hq hk =>
    ⟨(hk.block _ (Array.getElem?_eq_some_iff.1 hq.1).1 (fun ht => h.n1 (h.neg.ts ht))).trans hq.1, hq.2.keep hk (fun ht => h.n2 (h.neg.ts ht)) (fun b _ hb ht => (h.n3 b hb).1 (h.neg.ts ht))⟩
   have hJ : ∀ W, Below w.heap.size w W -> JudgeQ 92 (.pointer (some ⟨L.lb, 0, none⟩)) W okp (fun b => b = L.tb) (fun W' => W'.heap[L.lb]? = some (.cells (lcpCells L echo s) 99 (0, 0)) /\ TapeAt W' L.tb ok (ljudgeS s.own s.t p.o).2) p.o po (ljudgeS s.own s.t p.o).1 := by
    intro W hW; refine ⟨enters_of Tryz.func92 (by kernel_rfl) rfl, fun W' hW' ho' => ?_⟩; refine (judge_at ((h.below hW).below hW') hy p.o po okp ho' (fun b hb he => hok b hb (.inr (.inr he))) hp.len hp.wf hp.vs).mono ?_; rintro e w' ⟨v, he, h1, h2, h3⟩; exact ⟨v, he, h1, ⟨h2.blk, h2.tape⟩, h3⟩
   refine (take1_q (T := fun b => b = L.tb) (Q := fun W' => W'.heap[L.lb]? = some (.cells (lcpCells L echo s) 99 (0, 0)) /\ TapeAt W' L.tb ok (ljudgeS s.own s.t p.o).2) rejS p po h1 (ljudgeS s.own s.t p.o).1 92 (.pointer (some ⟨L.lb, 0, none⟩)) h.jd hJ hT hQ (Nat.le_trans (ljudgeS_len _ _ _) hp.len) h.neg ho hokB hp.len (fun _ pa => sayAll_every _ _ _ _ _ _ _ hp.vs hp.ds)).mono ?_; rintro e w' ⟨v, he, q1, ⟨X', q2⟩, q3, q4⟩; refine ⟨v, he, q1, ⟨X', ?_⟩, q4⟩
   exact {
    blk := q3.1, neg := q2, tape := q3.2, ne := h.ne, n1 := fun hg => hg.elim h.n1 (fun hl => by have := h.llt; omega), n2 := fun hg => hg.elim h.n2 (fun hl => by have := h.tlt; omega),
    n3 := fun b hb => ⟨fun hg => hg.elim (h.n3 b hb).1 (fun hl => by have := (h.n3 b hb).2.2; omega), (h.n3 b hb).2.1, Nat.lt_of_lt_of_le (h.n3 b hb).2.2 q4.size⟩, jd := h.jd }
 . have hE : ltakeN C s p = ({ s with st := (takeS C s.st p).1 }, (takeS C s.st p).2) := by unfold ltakeN; exact if_neg h1
   rw [hE, takeS_not1 C s.st p h1]
   by_cases h2 : p.code = 2
   . rw [if_pos h2]; exact (take2 rejS p po h2 h.neg ho hokB hp.len).mono (fun e w' he => fin _ _ _ he)
   . rw [if_neg h2]
     by_cases h3 : p.code = 3 \/ p.code = 4
     . rw [if_pos h3]; exact (take34 rejS p po h3 h.neg ho hokB hp.len hp.vs).mono (fun e w' he => fin _ _ _ he)
     . rw [if_neg h3]
       by_cases h5 : p.code = 5
       . rw [if_pos h5]; exact (take5 rejS p po h5 h.neg ho hokB hp.len).mono (fun e w' he => fin _ _ _ he)
       . rw [if_neg h5]
         by_cases h6 : p.code = 6
         . rw [if_pos h6]; exact (take6 rejS p po h6 h.neg ho hokB hp.len).mono (fun e w' he => fin _ _ _ he)
         . rw [if_neg h6]
           by_cases h7 : p.code = 7
           . rw [if_pos h7]; exact (take7 rejS p po h7 h.neg ho hokB hp.len hp.ds).mono (fun e w' he => fin _ _ _ he)
           . rw [if_neg h7]; exact (takeU rejS p po (by omega) h.neg ho hokB hp.len (fun pa => sayAll_every _ _ _ _ _ _ _ hp.vs hp.ds)).mono (fun e w' he => fin _ _ _ he)
def loopedS (own : Int) (p : Pk) : Bool := decide (p.code = 1) && p.o.any (loopS own)
set_option maxRecDepth 100000 in
theorem looped_at (p : Pk) (po : Value) (hlen : p.o.length <= 1000000) (h : LcpAt w S ok L C echo s X) (hy : s.Sync) (ho : Opts w okp po p.o) :
 Calls Tryz.prog 110 #[.pointer (some ⟨L.lb, 0, none⟩), pkV p po] w fun e w' => e = .returned (.bool (loopedS s.own p)) /\ Below w.heap.size w w' := by
 obtain ⟨pc, pi, pl, pd⟩ := p; obtain ⟨sa, c, rfl, hc, hm⟩ := ho.form
 dsimp only at hlen hc ho
 unfold pkV loopedS
 dsimp only
 have hb1 := (Below.refl w.heap.size w).alloc (Nat.le_refl _) (.cells #[.int .i64 pc, .int .i64 pi, .slice sa pl.length c, .string pd] 59 (0, 0)); have HX := H_ (A_ hb1 (at1 w (.cells #[.int .i64 pc, .int .i64 pi, .slice sa pl.length c, .string pd] 59 (0, 0)))); have H := H_ (A_ h (A_ hy ho)); obtain ⟨len, hln⟩ : ∃ len, len = pl.length := ⟨_, rfl⟩; have HLN := H_ hln; rw [<- hln] at hc hlen HX ⊢; obtain ⟨W, hW⟩ : ∃ W, W = w.alloc (.cells #[.int .i64 pc, .int .i64 pi, .slice sa len c, .string pd] 59 (0, 0)) := ⟨_, rfl⟩; rw [<- hln, <- hW] at hb1; rw [<- hW] at HX; have d0 : W.cell? ⟨w.heap.size, 0, none⟩ = some (.int .i64 pc) := cellOf HX.out.2 0 _ rfl; have d2 : W.cell? ⟨w.heap.size, 2, none⟩ = some (.slice sa len c) := cellOf HX.out.2 2 _ rfl; unfold maxLen at hm; clear h hy ho hb1 hln
 by_cases h1 : pc = 1
 . subst h1; simp only [decide_true, Bool.true_and]; go_enter Tryz.func110, Tryz.ntmps110; go_wp2_with fail; rw [<- hW]; clear hW
   go_loopg [13] len (fun x i wr => ∃ k : Nat, k <= len /\ x = len - k /\ i = .int .i64 k /\ Hid ((pl.take k).any (loopS s.own) = false /\ Below w.heap.size w wr))
   case atStart => exact ⟨0, by omega, by omega, rfl, rfl, HX.out.1⟩
   case round =>
    obtain ⟨k, hk, rfl, rfl, hK⟩ := hrel; have HK := H_ hK.out; clear hK
    by_cases hkl : k < len
    . have hkl' : k < pl.length := by have := HLN.out; omega
      obtain ⟨b, off, rfl, hb, -, -, -, -, c0, c1⟩ := H.out.2.2.at k hkl'; have e0 : wr.cell? ⟨b, off + k * 2, none⟩ = _ := (HK.out.2.cell (p := ⟨b, off + k * 2, none⟩) hb).trans c0; have e1 : wr.cell? ⟨b, off + k * 2 + 1, none⟩ = _ := (HK.out.2.cell (p := ⟨b, off + k * 2 + 1, none⟩) hb).trans c1; have HT := H_ (show (pl.take (k + 1)).any (loopS s.own) = ((pl.take k).any (loopS s.own) || loopS s.own pl[k]) from by rw [List.take_succ_eq_append_getElem hkl', List.any_append]; simp); have HM := H_ (show loopS s.own pl[k] = true -> pl.any (loopS s.own) = true from fun ht => List.any_eq_true.2 ⟨_, List.getElem_mem hkl', ht⟩); have hk0 := HK.out.1; rw [hk0, Bool.false_or] at HT; generalize pl[k] = o at *; clear c0 c1 hk0; obtain ⟨t, v⟩ := o
      dsimp only at e0 e1
      have HC := H_ (loop_at ((H.out.1.below HK.out.2).below ((Below.refl wr.heap.size wr).alloc (Nat.le_refl _) (.cells #[.int .i64 t, .string v] 132 (0, 0)))) H.out.2.1 ⟨t, v⟩); have HB2 := H_ (HK.out.2.alloc HK.out.2.size (.cells #[.int .i64 t, .string v] 132 (0, 0))); generalize loopS s.own ⟨t, v⟩ = bb at *
      cases bb with
      | true =>
       go_wp2_with (go_at_call 142; refine HC.out.mono ?_; rintro e w5 ⟨rfl, hb5⟩; have HB5 := H_ hb5; clear hb5)
       go_ret; exact ⟨by rw [HM.out (by trivial)]; rfl, HB2.out.trans (HB5.out.mono HB2.out.size)⟩
      | false =>
       go_wp2_with (go_at_call 142; refine HC.out.mono ?_; rintro e w5 ⟨rfl, hb5⟩; have HB5 := H_ hb5; clear hb5)
       go_roundg (len - (k + 1))
       case measure => omega
       case rel => exact ⟨k + 1, by omega, rfl, by go_num, HT.out, HB2.out.trans (HB5.out.mono HB2.out.size)⟩
    . obtain rfl : len = k := by omega
      go_wp2_with fail; go_ret; have h1 := HK.out.1; rw [HLN.out, List.take_length] at h1; exact ⟨by rw [h1]; rfl, HK.out.2⟩
 . have e1 : (pc != 1) = true := by simpa using h1
   have e2 : decide (pc = 1) = false := by simpa using h1
   rw [e2, Bool.false_and]; clear h1; subst hW; go_enter Tryz.func110, Tryz.ntmps110; go_wp2_with fail; go_ret; exact ⟨rfl, HX.out.1⟩
end
def ltakeS (C : NegC) (s : LSt) (p : Pk) : LSt × List Pk :=
 if loopedS s.own p = true then
  if 4 <= wrap64 (s.loops + 1) then doL C { s with loops := wrap64 (s.loops + 1) } 3
  else (syncS (anewS s.st.ups (ltakeN C { s with loops := wrap64 (s.loops + 1) } p).1), (ltakeN C { s with loops := wrap64 (s.loops + 1) } p).2)
 else (syncS (anewS s.st.ups (ltakeN C s p).1), (ltakeN C s p).2)
theorem ltakeN_loops (C : NegC) (s : LSt) (p : Pk) (x : Int) : (ltakeN C { s with loops := x } p).1.st = (ltakeN C s p).1.st := by
 unfold ltakeN
 split <;> rfl
theorem anewS_st (u : Int) (s : LSt) : (anewS u s).st = s.st := by
 unfold anewS
 split <;> rfl
section
variable {w : World} {S ok okp U : Nat -> Prop} {L : LB} {C : NegC} {echo : Int} {s : LSt} {X : NegX}
end
theorem tapeNew_any (l : List Int) (lv : Value) (okp : Nat -> Prop) (w : World) (hn : Nums w okp lv l) (hi : ∀ x ∈ l, I64 x) (hl : l.length <= 1000000) :
 Calls Tryz.prog 41 #[lv] w fun e w' => ∃ tb, e = .returned (.pointer (some ⟨tb, 0, none⟩)) /\ TapeAt w' tb (fun b => w.heap.size <= b /\ b < tb) ⟨l, 0⟩ /\ w.heap.size <= tb /\ Below w.heap.size w w' := by
 have HC := H_ (cloneN_any l lv okp w hn hl); have HI := H_ (A_ hi hl); clear hn hi hl; go_enter Tryz.func41, Tryz.ntmps41
 go_wp2_with (
  go_at_call 83; refine HC.out.mono ?_; rintro e w1 ⟨v, rfl, hr, hb⟩; obtain ⟨sa, c, rfl, h1, h2⟩ := (hr.nums (by have := HI.out.2; unfold maxLen; omega)).form
  have HR := H_ (A_ hr hb); clear hr hb h1 h2)
 go_ret; have hb2 := (Below.refl w1.heap.size w1).alloc (Nat.le_refl _) (.cells #[.slice sa l.length c, .int .i64 0] 129 (0, 0)); refine ⟨w1.heap.size, rfl, ⟨_, at1 w1 _, Rec.mono (Nums.below (Rec.old (HR.out.1.nums (by have := HI.out.2; unfold maxLen; omega))) hb2) (fun b hb => hb), HI.out.1, fun b hb => by have := hb.2; omega, (by show I64 0; unfold I64; decide), HI.out.2⟩, HR.out.2.size, HR.out.2.trans (hb2.mono HR.out.2.size)⟩
structure LCfg.Ok (c : LCfg) : Prop where
 mru : 64 <= c.mru /\ c.mru <= 1492
 auth : c.auth = 0 \/ c.auth = 49187 \/ c.auth = 49699
 magic : 0 <= c.magic /\ c.magic <= 4294967295
 echo : 0 <= c.echo /\ c.echo <= 100
 cf : inB20 c.cf = true
 tm : inB20 c.tm = true
 fl : 0 <= c.fl /\ c.fl <= 20
 wt : 1 <= c.wt /\ c.wt <= 100
theorem optsS_ok (c : LCfg) (hc : c.auth = 0 \/ c.auth = 49187 \/ c.auth = 49699) : (∀ o ∈ optsS c, o.v.size <= 5) /\ putE (optsS c) = 0 /\ twiceP [] (optsS c) = false /\ (optsS c).length <= 3 := by
 have h2 : ∀ x, (pB2 x).size = 2 := fun x => rfl; have h4 : ∀ x, (pB4 x).size = 4 := fun x => rfl; have h5 : papB.size = 2 := rfl; have h6 : chapB.size = 3 := rfl; unfold optsS optsS2 optsS1
 rcases hc with hc | hc | hc <;> rw [hc] <;> by_cases h1 : c.mru = 1492 <;> by_cases h3 : c.magic = 0 <;> simp [h1, h3, lvalS, putE, badO, twiceP, h2, h4, h5, h6]
def lC (c : LCfg) (lb : Nat) : NegC := ⟨[unitR 1492, magicR], [], [3], c.cf, c.tm, c.fl, c.wt, judgeV lb⟩
def lst0 (c : LCfg) (t : TpS) : LSt := ⟨st0 (optsS c), c.magic, 0, 0, 0, t⟩
def NewL (w w' : World) (e : Ending) (c : LCfg) (tb : Nat) (okt : Nat -> Prop) (t : TpS) : Prop :=
 ∃ L S X, e = .returned (.tuple #[.pointer (some ⟨L.lb, 0, none⟩), .int .i64 0]) /\ L.tb = tb /\ LcpAt w' S okt L (lC c L.lb) c.echo (lst0 c t) X /\ (∀ b, S b -> w.heap.size <= b) /\ w.heap.size <= L.lb /\ Below w.heap.size w w'
def cfgO (c : LCfg) : Obj := .cells #[.int .i64 c.mru, .int .i64 c.auth, .int .i64 c.magic, .int .i64 c.echo, .int .i64 c.cf, .int .i64 c.tm, .int .i64 c.fl, .int .i64 c.wt] 86 (0, 0)
theorem lnew_end {c : LCfg} {w W1 wE : World} {lb tb : Nat} {okt : Nat -> Prop} {t : TpS} {B : NegB} (hw1 : Below w.heap.size w W1) (hl : W1.heap[lb]? = some (.cells #[.pointer none, .pointer (some ⟨tb, 0, none⟩), .int .i64 c.echo, .int .i64 c.magic, .int .i64 0, .int .i64 0, .int .i64 0] 99 (0, 0))) (ht : TapeAt W1 tb okt t) (ho : ∀ b, okt b -> b < W1.heap.size /\ b ≠ lb) (hne : lb ≠ tb)
 (hlb : w.heap.size <= lb) (bE : Below W1.heap.size W1 wE) (nE : NegV wE (fun b => W1.heap.size <= b) B (lC c lb) (st0 (optsS c))) :
 NewL w (wE.setCell ⟨lb, 0, none⟩ (.pointer (some ⟨B.nb, 0, none⟩))) (.returned (.tuple #[.pointer (some ⟨lb, 0, none⟩), .int .i64 0])) c tb okt t := by
 obtain ⟨X, nE⟩ := nE; have hlt := (Array.getElem?_eq_some_iff.1 hl).1; have hk := (Keep.refl (fun b => b = lb) wE).setCell ⟨lb, 0, none⟩ (Or.inr rfl) (.pointer (some ⟨B.nb, 0, none⟩)); refine ⟨⟨lb, tb, B⟩, fun b => W1.heap.size <= b, X, rfl, rfl, ?_, fun b hb => Nat.le_trans hw1.size hb, hlb, (hw1.trans (bE.mono hw1.size)).trans (hk.below (Nat.le_trans hw1.size bE.size) (fun k hk he => by omega))⟩
 exact {
  blk := by have h := set_block ((bE.block lb hlt).trans hl) 0 (.pointer (some ⟨B.nb, 0, none⟩)); simpa [lcpCells, lst0] using h
  neg := nE.keep hk (fun b _ hb he => by have hb : W1.heap.size <= b := hb; omega)
  tape := (ht.below bE).keep hk (fun he => hne he.symm) (fun b _ hb he => (ho b hb).2 he)
  ne := hne
  n1 := fun hb => by have hb : W1.heap.size <= lb := hb; omega
  n2 := fun hb => by have hb : W1.heap.size <= tb := hb; have := ht.lt; omega
  n3 := fun b hb => ⟨fun h => by have h : W1.heap.size <= b := h; have := (ho b hb).1; omega, (ho b hb).2, Nat.lt_of_lt_of_le (ho b hb).1 (Nat.le_trans bE.size hk.size)⟩
  jd := rfl }
theorem lnew_neg (c : LCfg) (hc : c.Ok) (lb : Nat) (W1 WN : World) (sa : Option Addr) (ca rb ib : Nat) (h1 : Below W1.heap.size W1 WN) (h2 : ORow WN W1.heap.size (.slice sa (optsS c).length ca) (optsS c)) (h3 : WN.heap[rb]? = some (.cells #[.int .i64 1, .int .i64 2, .int .i64 64, .int .i64 1492, .string (be2 1492), .int .i64 5, .int .i64 4, .int .i64 1, .int .i64 4294967295, .string (be4 1)] 136 (0, 0))) (h4 : WN.heap[ib]? = some (.cells #[.int .i64 3] 3 (0, 0))) :
 Calls Tryz.prog 88 #[.agg #[.slice sa (optsS c).length ca, .slice (some ⟨rb, 0, none⟩) 2 2, .slice none 0 0, .slice (some ⟨ib, 0, none⟩) 1 1, .int .i64 c.cf, .int .i64 c.tm, .int .i64 c.fl, .int .i64 c.wt], .func (.func 92) #[.pointer (some ⟨lb, 0, none⟩)] #[]] WN fun e w' => ∃ B, e = .returned (.tuple #[.pointer (some ⟨B.nb, 0, none⟩), .int .i64 0]) /\ NegV w' (fun b => W1.heap.size <= b) B (lC c lb) (st0 (optsS c)) /\ Below W1.heap.size W1 w' := by
 obtain ⟨o1, o2, o3, o4⟩ := optsS_ok c hc.auth; have hr : RRow WN 0 (.slice (some ⟨rb, 0, none⟩) 2 2) [unitR 1492, magicR] := ⟨rfl, Or.inr ⟨rb, 2, _, rfl, Nat.zero_le _, h3, Nat.le_refl _, by unfold maxLen; omega, rfl, rfl⟩⟩; have hi : NRow WN 0 (.slice (some ⟨ib, 0, none⟩) 1 1) [3] := ⟨rfl, Or.inr ⟨ib, 1, _, rfl, Nat.zero_le _, h4, Nat.le_refl _, by unfold maxLen; omega, rfl, rfl⟩⟩
 refine (newByJ 92 (.pointer (some ⟨lb, 0, none⟩)) (optsS c) [unitR 1492, magicR] [] [3] _ _ _ _ (fun b => 0 <= b) c.cf c.tm c.fl c.wt WN (Rec.mono (h2.opts (by unfold maxLen; omega)) (fun b _ => Nat.zero_le _)) (hr.rls (by unfold maxLen; decide)) (Rec.nil _ _ _) (hi.nums (by unfold maxLen; decide))
  (fun n c h => by cases h) (fun n c h => by cases h; rfl) (by decide) (by decide) (by decide) hc.cf hc.tm hc.fl.1 hc.fl.2 hc.wt.1 hc.wt.2 (fun o ho => Nat.le_trans (o1 o ho) (by decide)) o2 o3 (by decide) (by decide)).mono ?_
 rintro e w' ⟨v, rfl, B, rfl, q1, q2⟩; exact ⟨B, rfl, q1.mono (fun b hb => Nat.le_trans h1.size hb), h1.trans (q2.mono h1.size)⟩
set_option maxRecDepth 100000 in
theorem lnew_tape (c : LCfg) (hc : c.Ok) (tb : Nat) (okt : Nat -> Prop) (t : TpS) (w : World) (ht : TapeAt w tb okt t) (ho : ∀ b, okt b -> b < w.heap.size) :
 Calls Tryz.prog 48 #[cfgV c, .pointer (some ⟨tb, 0, none⟩)] w fun e w' => NewL w w' e c tb okt t := by
 have q1 : ∀ w a, (binOp .eql 28 (.pointer (some a)) (.pointer none)).run Tryz.prog w = .ok (.bool false) w := fun w a => by kernel_rfl
 have L1 : ∀ w, Calls Tryz.prog 71 #[.int .i64 c.mru, .int .i64 64, .int .i64 1492] w fun e w' => e = .returned (.bool true) /\ w = w' := fun w => (lin_any c.mru 64 1492 w).mono (fun e w' h => by have := hc.mru; refine ⟨by rw [h.1]; simp [this.1, this.2], h.2⟩); have L2 : ∀ w, Calls Tryz.prog 71 #[.int .i64 c.magic, .int .i64 0, .int .i64 4294967295] w fun e w' => e = .returned (.bool true) /\ w = w' := fun w => (lin_any c.magic 0 4294967295 w).mono (fun e w' h => by have := hc.magic; refine ⟨by rw [h.1]; simp [this.1, this.2], h.2⟩); have L3 : ∀ w, Calls Tryz.prog 71 #[.int .i64 c.echo, .int .i64 0, .int .i64 100] w fun e w' => e = .returned (.bool true) /\ w = w' := fun w => (lin_any c.echo 0 100 w).mono (fun e w' h => by have := hc.echo; refine ⟨by rw [h.1]; simp [this.1, this.2], h.2⟩); have HL := H_ (A_ L1 (A_ L2 L3)); have H := H_ (A_ hc (A_ ht ho)); have hia : I64 c.auth := by rcases hc.auth with h | h | h <;> rw [h] <;> (unfold I64; decide)
 have HV := H_ (fun w => lvalue_any c.auth w hia)
 have hva : c.auth ≠ 0 -> (lvalS c.auth).toList.isEmpty = false := by
  intro h0
  rcases hc.auth with h | h | h
  . exact absurd h h0
  . rw [h, isE]; decide
  . rw [h, isE]; decide
 have hb0 := (Below.refl w.heap.size w).alloc (Nat.le_refl _) (cfgO c); have HB0 := H_ (A_ hb0 (A_ (at1 w (cfgO c)) (alloc1 w (cfgO c)))); have HIA := H_ hia; have HNN := H_ (fun lb W1 WN sa ca rb ib h1 h2 h3 h4 => lnew_neg c hc lb W1 WN sa ca rb ib h1 h2 h3 h4); unfold cfgV; clear L1 L2 L3 hc ht ho hia
 by_cases h0 : c.auth = 0
 . skip
   clear hva; have hz := HB0.out.2.1; unfold cfgO at hz; have ea : (c.auth != 0) = false := by simp [h0]
   have HZ := H_ (A_ HB0.out.1 HB0.out.2.1); clear h0 hz; go_enter Tryz.func48, Tryz.ntmps48
   go_wp2_with (
    go_at_call 71; first | with_reducible refine (HL.out.1 _).mono ?_ | with_reducible refine (HL.out.2.1 _).mono ?_ | with_reducible refine (HL.out.2.2 _).mono ?_
    rintro e w1 ⟨rfl, rfl⟩)
   have hwv : w.alloc (.cells #[.int .i64 c.mru, .int .i64 c.auth, .int .i64 c.magic, .int .i64 c.echo, .int .i64 c.cf, .int .i64 c.tm, .int .i64 c.fl, .int .i64 c.wt] 86 (0, 0)) = w.alloc (cfgO c) := rfl
   try rw [hwv]
   generalize w.alloc (cfgO c) = wv at *; clear hwv; rw [show w.heap.size + 1 = wv.heap.size from HB0.out.2.2.symm]; have hz1 : (wv.alloc (.cells #[.pointer none, .pointer (some ⟨tb, 0, none⟩), .int .i64 c.echo, .int .i64 c.magic, .int .i64 0, .int .i64 0, .int .i64 0] 99 (0, 0))).heap[w.heap.size]? = some (cfgO c) := (Below.heap_alloc _ _ _ (Array.getElem?_eq_some_iff.1 HZ.out.2).1).trans HZ.out.2; have hl1 := at1 wv (.cells #[.pointer none, .pointer (some ⟨tb, 0, none⟩), .int .i64 c.echo, .int .i64 c.magic, .int .i64 0, .int .i64 0, .int .i64 0] 99 (0, 0)); have hw1 : Below w.heap.size w (wv.alloc (.cells #[.pointer none, .pointer (some ⟨tb, 0, none⟩), .int .i64 c.echo, .int .i64 c.magic, .int .i64 0, .int .i64 0, .int .i64 0] 99 (0, 0))) := HZ.out.1.alloc HZ.out.1.size _; have hs1 := alloc1 wv (.cells #[.pointer none, .pointer (some ⟨tb, 0, none⟩), .int .i64 c.echo, .int .i64 c.magic, .int .i64 0, .int .i64 0, .int .i64 0] 99 (0, 0)); have hlb : w.heap.size < wv.heap.size := (Array.getElem?_eq_some_iff.1 HZ.out.2).1; obtain ⟨lb, hlbe⟩ : ∃ lb, lb = wv.heap.size := ⟨_, rfl⟩; generalize hW1 : wv.alloc (.cells #[.pointer none, .pointer (some ⟨tb, 0, none⟩), .int .i64 c.echo, .int .i64 c.magic, .int .i64 0, .int .i64 0, .int .i64 0] 99 (0, 0)) = W1 at hz1 hl1 hw1 hs1 ⊢; rw [<- hlbe] at hl1 hs1 hlb ⊢; clear hW1 hlbe HZ; have HZ := H_ (A_ hz1 (A_ hl1 (A_ hw1 (A_ hs1 hlb))))
   have HS : Hid (∀ W, Below W1.heap.size W1 W -> (fun Y : World => Y.cell? ⟨w.heap.size, 0, none⟩ = some (.int .i64 c.mru) /\ Y.cell? ⟨w.heap.size, 1, none⟩ = some (.int .i64 c.auth) /\ Y.cell? ⟨w.heap.size, 2, none⟩ = some (.int .i64 c.magic) /\ Y.cell? ⟨w.heap.size, 3, none⟩ = some (.int .i64 c.echo) /\ Y.cell? ⟨w.heap.size, 4, none⟩ = some (.int .i64 c.cf) /\ Y.cell? ⟨w.heap.size, 5, none⟩ = some (.int .i64 c.tm) /\ Y.cell? ⟨w.heap.size, 6, none⟩ = some (.int .i64 c.fl) /\ Y.cell? ⟨w.heap.size, 7, none⟩ = some (.int .i64 c.wt)) W) := H_ fun W hW => by
    have h : W.heap[w.heap.size]? = some (.cells #[.int .i64 c.mru, .int .i64 c.auth, .int .i64 c.magic, .int .i64 c.echo, .int .i64 c.cf, .int .i64 c.tm, .int .i64 c.fl, .int .i64 c.wt] 86 (0, 0)) := (hW.block _ (by have := HZ.out.2.2.2.1; have := HZ.out.2.2.2.2; omega)).trans HZ.out.1; exact ⟨cellOf h 0 _ rfl, cellOf h 1 _ rfl, cellOf h 2 _ rfl, cellOf h 3 _ rfl, cellOf h 4 _ rfl, cellOf h 5 _ rfl, cellOf h 6 _ rfl, cellOf h 7 _ rfl⟩
   have HLO := H_ (fun W => lopts_any c W HIA.out); unfold cfgV at HLO; have a1 : ∀ (W : World) (O : Obj), W.heap.size < (W.alloc O).heap.size := fun W O => by rw [alloc1]; omega
   have HA1 := H_ a1; have HG := H_ (fun wE B bE nE => lnew_end (c := c) (w := w) (W1 := W1) (wE := wE) (lb := lb) (tb := tb) (okt := okt) (t := t) (B := B) hw1 hl1 (by have := H.out.2.1; exact TapeAt.keep this (Keep.of_below (fun _ => False) hw1) (fun h => h) (fun _ _ _ h => h)) (fun b hb => ⟨Nat.lt_of_lt_of_le (H.out.2.2 b hb) hw1.size, by have := H.out.2.2 b hb; omega⟩) (by have := H.out.2.1.lt; omega) (by omega) bE nE); obtain ⟨y0, y1, y2, y3, y4, y5, y6, y7⟩ := HS.out W1.drew (Below.refl _ _).drew; clear hz1 hl1 hw1 hs1 hlb a1; refine wp_region_H (rgH 0 23) (fun Y : World => Y.cell? ⟨w.heap.size, 0, none⟩ = some (.int .i64 c.mru) /\ Y.cell? ⟨w.heap.size, 1, none⟩ = some (.int .i64 c.auth) /\ Y.cell? ⟨w.heap.size, 2, none⟩ = some (.int .i64 c.magic) /\ Y.cell? ⟨w.heap.size, 3, none⟩ = some (.int .i64 c.echo) /\ Y.cell? ⟨w.heap.size, 4, none⟩ = some (.int .i64 c.cf) /\ Y.cell? ⟨w.heap.size, 5, none⟩ = some (.int .i64 c.tm) /\ Y.cell? ⟨w.heap.size, 6, none⟩ = some (.int .i64 c.fl) /\ Y.cell? ⟨w.heap.size, 7, none⟩ = some (.int .i64 c.wt)) (by kernel_rfl) ?_; have HSv : (fun Y : World => Y.cell? ⟨w.heap.size, 0, none⟩ = some (.int .i64 c.mru) /\ Y.cell? ⟨w.heap.size, 1, none⟩ = some (.int .i64 c.auth) /\ Y.cell? ⟨w.heap.size, 2, none⟩ = some (.int .i64 c.magic) /\ Y.cell? ⟨w.heap.size, 3, none⟩ = some (.int .i64 c.echo) /\ Y.cell? ⟨w.heap.size, 4, none⟩ = some (.int .i64 c.cf) /\ Y.cell? ⟨w.heap.size, 5, none⟩ = some (.int .i64 c.tm) /\ Y.cell? ⟨w.heap.size, 6, none⟩ = some (.int .i64 c.fl) /\ Y.cell? ⟨w.heap.size, 7, none⟩ = some (.int .i64 c.wt)) W1.drew := HS.out _ (Below.refl _ _).drew; have HB := H_ (show Below W1.heap.size W1 W1.drew from (Below.refl _ _).drew); refine hatH 0 rfl (by rintro W ⟨h0, h1, h2, h3, h4, h5, h6, h7⟩; go_simp; try rfl) HSv ?_; simp only [aZ, aC, aD]; refine hatH 6 rfl (by rintro W ⟨h0, h1, h2, h3, h4, h5, h6, h7⟩; go_simp; try rfl) HSv ?_; simp only [aZ, aC, aD]; refine hatH 7 rfl (by rintro W ⟨h0, h1, h2, h3, h4, h5, h6, h7⟩; go_simp; try rfl) HSv ?_; simp only [aZ, aC, aD]; refine hatH 8 rfl (by rintro W ⟨h0, h1, h2, h3, h4, h5, h6, h7⟩; go_simp; try rfl) HSv ?_; simp only [aZ, aC, aD]; refine hatH 9 rfl (by rintro W ⟨h0, h1, h2, h3, h4, h5, h6, h7⟩; go_simp; try rfl) HSv ?_; simp only [aZ, aC, aD]; refine hatH 10 rfl (by rintro W ⟨h0, h1, h2, h3, h4, h5, h6, h7⟩; go_simp; try rfl) HSv ?_; simp only [aZ, aC, aD]; refine hatH 11 rfl (by rintro W ⟨h0, h1, h2, h3, h4, h5, h6, h7⟩; go_simp; try rfl) HSv ?_; simp only [aZ, aC, aD]; refine hatH 12 rfl (by rintro W ⟨h0, h1, h2, h3, h4, h5, h6, h7⟩; go_simp; try rfl) HSv ?_; simp only [aZ, aC, aD]; refine hatH 13 rfl (by rintro W ⟨h0, h1, h2, h3, h4, h5, h6, h7⟩; go_simp; try rfl) HSv ?_; simp only [aZ, aC, aD]; refine hatH 15 rfl (by rintro W ⟨h0, h1, h2, h3, h4, h5, h6, h7⟩; go_simp; try rfl) HSv ?_; simp only [aZ, aC, aD]; refine hatH 16 rfl (by rintro W ⟨h0, h1, h2, h3, h4, h5, h6, h7⟩; go_simp; try rfl) HSv ?_; simp only [aZ, aC, aD]; generalize W1.drew = W at HSv HB ⊢; refine wpAnyH_2 1 5 rfl rfl (by kernel_rfl) ?_ ?_
   . intro K hK; rw [if_pos (by rfl)]
     try go_simp
     go_at_call 89; refine (HLO.out _).mono ?_; rintro e W2 ⟨vA, rfl, rA, bA⟩; obtain ⟨sA, cA, rfl⟩ := rA.form; have HR := H_ (rA.base HB.out.size); have HB := H_ (HB.out.trans (bA.mono HB.out.size)); have HSv : (fun Y : World => Y.cell? ⟨w.heap.size, 0, none⟩ = some (.int .i64 c.mru) /\ Y.cell? ⟨w.heap.size, 1, none⟩ = some (.int .i64 c.auth) /\ Y.cell? ⟨w.heap.size, 2, none⟩ = some (.int .i64 c.magic) /\ Y.cell? ⟨w.heap.size, 3, none⟩ = some (.int .i64 c.echo) /\ Y.cell? ⟨w.heap.size, 4, none⟩ = some (.int .i64 c.cf) /\ Y.cell? ⟨w.heap.size, 5, none⟩ = some (.int .i64 c.tm) /\ Y.cell? ⟨w.heap.size, 6, none⟩ = some (.int .i64 c.fl) /\ Y.cell? ⟨w.heap.size, 7, none⟩ = some (.int .i64 c.wt)) W2 := HS.out _ HB.out; refine hK _ _ (fun _ => HSv) ?_
     try simp only [aZ, aA, aE, aB, aC, aD]
     clear rA bA; refine wpAnyH_2 2 5 rfl rfl (by kernel_rfl) ?_ ?_
     . intro K hK; rw [if_pos (by rfl)]
       try go_simp
       go_at_call 90; refine (units_any 1492 _).mono ?_; rintro e W3 ⟨rfl, bA⟩; have HR := H_ (HR.out.below bA); have HB := H_ (HB.out.trans (bA.mono HB.out.size)); have HSv : (fun Y : World => Y.cell? ⟨w.heap.size, 0, none⟩ = some (.int .i64 c.mru) /\ Y.cell? ⟨w.heap.size, 1, none⟩ = some (.int .i64 c.auth) /\ Y.cell? ⟨w.heap.size, 2, none⟩ = some (.int .i64 c.magic) /\ Y.cell? ⟨w.heap.size, 3, none⟩ = some (.int .i64 c.echo) /\ Y.cell? ⟨w.heap.size, 4, none⟩ = some (.int .i64 c.cf) /\ Y.cell? ⟨w.heap.size, 5, none⟩ = some (.int .i64 c.tm) /\ Y.cell? ⟨w.heap.size, 6, none⟩ = some (.int .i64 c.fl) /\ Y.cell? ⟨w.heap.size, 7, none⟩ = some (.int .i64 c.wt)) W3 := HS.out _ HB.out; refine hK _ _ (fun _ => HSv) ?_
       try simp only [aZ, aA, aE, aB, aC, aD]
       clear bA; refine wpAnyH_2 3 5 rfl rfl (by kernel_rfl) ?_ ?_
       . intro K hK; rw [if_pos (by rfl)]
         try go_simp
         go_at_call 91; refine (magics_any _).mono ?_; rintro e W4 ⟨rfl, bA⟩; have HR := H_ (HR.out.below bA); have HB := H_ (HB.out.trans (bA.mono HB.out.size)); have HSv : (fun Y : World => Y.cell? ⟨w.heap.size, 0, none⟩ = some (.int .i64 c.mru) /\ Y.cell? ⟨w.heap.size, 1, none⟩ = some (.int .i64 c.auth) /\ Y.cell? ⟨w.heap.size, 2, none⟩ = some (.int .i64 c.magic) /\ Y.cell? ⟨w.heap.size, 3, none⟩ = some (.int .i64 c.echo) /\ Y.cell? ⟨w.heap.size, 4, none⟩ = some (.int .i64 c.cf) /\ Y.cell? ⟨w.heap.size, 5, none⟩ = some (.int .i64 c.tm) /\ Y.cell? ⟨w.heap.size, 6, none⟩ = some (.int .i64 c.fl) /\ Y.cell? ⟨w.heap.size, 7, none⟩ = some (.int .i64 c.wt)) W4 := HS.out _ HB.out; refine hK _ _ (fun _ => HSv) ?_
         try simp only [aZ, aA, aE, aB, aC, aD]
         clear bA; refine wpAnyH_2 4 5 rfl rfl (by kernel_rfl) ?_ ?_
         . intro K hK; rw [if_pos (by rfl)]
           try go_simp
           have bA : Below W4.heap.size W4 (W4.alloc (.cells #[.int .i64 1, .int .i64 2, .int .i64 64, .int .i64 1492, .string (be2 1492), .int .i64 5, .int .i64 4, .int .i64 1, .int .i64 4294967295, .string (be4 1)] 136 (0, 0))) := (Below.refl _ _).alloc (Nat.le_refl _) _; have hz := at1 W4 (.cells #[.int .i64 1, .int .i64 2, .int .i64 64, .int .i64 1492, .string (be2 1492), .int .i64 5, .int .i64 4, .int .i64 1, .int .i64 4294967295, .string (be4 1)] 136 (0, 0)); generalize hW5 : W4.alloc (.cells #[.int .i64 1, .int .i64 2, .int .i64 64, .int .i64 1492, .string (be2 1492), .int .i64 5, .int .i64 4, .int .i64 1, .int .i64 4294967295, .string (be4 1)] 136 (0, 0)) = W5 at bA hz ⊢; obtain ⟨rb, hrb⟩ : ∃ rb, rb = W4.heap.size := ⟨_, rfl⟩; rw [<- hrb] at hz ⊢; have HRu := H_ hz; have HR := H_ (HR.out.below bA); have HB := H_ (HB.out.trans (bA.mono HB.out.size)); have HSv : (fun Y : World => Y.cell? ⟨w.heap.size, 0, none⟩ = some (.int .i64 c.mru) /\ Y.cell? ⟨w.heap.size, 1, none⟩ = some (.int .i64 c.auth) /\ Y.cell? ⟨w.heap.size, 2, none⟩ = some (.int .i64 c.magic) /\ Y.cell? ⟨w.heap.size, 3, none⟩ = some (.int .i64 c.echo) /\ Y.cell? ⟨w.heap.size, 4, none⟩ = some (.int .i64 c.cf) /\ Y.cell? ⟨w.heap.size, 5, none⟩ = some (.int .i64 c.tm) /\ Y.cell? ⟨w.heap.size, 6, none⟩ = some (.int .i64 c.fl) /\ Y.cell? ⟨w.heap.size, 7, none⟩ = some (.int .i64 c.wt)) W5 := HS.out _ HB.out; refine hK _ _ (fun _ => HSv) ?_
           try simp only [aZ, aA, aE, aB, aC, aD]
           clear bA hz hW5 hrb; refine hone 5 rfl fun K hK => ?_
           try go_simp
           have bA : Below W5.heap.size W5 (W5.alloc (.cells #[.int .i64 3] 3 (0, 0))) := (Below.refl _ _).alloc (Nat.le_refl _) _; have hz := at1 W5 (.cells #[.int .i64 3] 3 (0, 0)); generalize hW6 : W5.alloc (.cells #[.int .i64 3] 3 (0, 0)) = W6 at bA hz ⊢; obtain ⟨ib, hib⟩ : ∃ ib, ib = W5.heap.size := ⟨_, rfl⟩; rw [<- hib] at hz ⊢; have HI := H_ hz; have HR := H_ (HR.out.below bA); have HRu := H_ ((bA.block _ (Array.getElem?_eq_some_iff.1 HRu.out).1).trans HRu.out); have HB := H_ (HB.out.trans (bA.mono HB.out.size)); have HSv : (fun Y : World => Y.cell? ⟨w.heap.size, 0, none⟩ = some (.int .i64 c.mru) /\ Y.cell? ⟨w.heap.size, 1, none⟩ = some (.int .i64 c.auth) /\ Y.cell? ⟨w.heap.size, 2, none⟩ = some (.int .i64 c.magic) /\ Y.cell? ⟨w.heap.size, 3, none⟩ = some (.int .i64 c.echo) /\ Y.cell? ⟨w.heap.size, 4, none⟩ = some (.int .i64 c.cf) /\ Y.cell? ⟨w.heap.size, 5, none⟩ = some (.int .i64 c.tm) /\ Y.cell? ⟨w.heap.size, 6, none⟩ = some (.int .i64 c.fl) /\ Y.cell? ⟨w.heap.size, 7, none⟩ = some (.int .i64 c.wt)) W6 := HS.out _ HB.out; refine hK _ _ (fun _ => HSv) ?_
           try simp only [aZ, aA, aE, aB, aC, aD]
           clear bA hz hW6 hib; refine hatH 14 rfl (by rintro W ⟨h0, h1, h2, h3, h4, h5, h6, h7⟩; go_simp; try rfl) HSv ?_; simp only [aZ, aC, aD]; refine hone 17 rfl fun K hK => ?_
           try go_simp
           go_at_call 88; refine (HNN.out lb W1 W6 sA cA rb ib HB.out HR.out HRu.out HI.out).mono ?_; rintro e wE ⟨B, rfl, nE, bE⟩; have zl := (bE.block lb (Array.getElem?_eq_some_iff.1 HZ.out.2.1).1).trans HZ.out.2.1; have f0 := fzOf zl 0; have c0 : wE.cell? ⟨lb, 0, none⟩ = some (.pointer none) := cellOf zl 0 _ rfl; have HN := H_ (A_ bE nE); have HSv : (fun Y : World => Y.cell? ⟨w.heap.size, 0, none⟩ = some (.int .i64 c.mru) /\ Y.cell? ⟨w.heap.size, 1, none⟩ = some (.int .i64 c.auth) /\ Y.cell? ⟨w.heap.size, 2, none⟩ = some (.int .i64 c.magic) /\ Y.cell? ⟨w.heap.size, 3, none⟩ = some (.int .i64 c.echo) /\ Y.cell? ⟨w.heap.size, 4, none⟩ = some (.int .i64 c.cf) /\ Y.cell? ⟨w.heap.size, 5, none⟩ = some (.int .i64 c.tm) /\ Y.cell? ⟨w.heap.size, 6, none⟩ = some (.int .i64 c.fl) /\ Y.cell? ⟨w.heap.size, 7, none⟩ = some (.int .i64 c.wt)) wE := HS.out _ bE; clear bE nE zl; refine hK _ _ (fun _ => HSv) ?_
           try simp only [aZ, aA, aE, aB, aC, aD]
           refine hatH 18 rfl (by rintro W ⟨h0, h1, h2, h3, h4, h5, h6, h7⟩; go_simp; try rfl) HSv ?_; simp only [aZ, aC, aD]; refine hatH 19 rfl (by rintro W ⟨h0, h1, h2, h3, h4, h5, h6, h7⟩; go_simp; try rfl) HSv ?_; simp only [aZ, aC, aD]; refine hatH 21 rfl (by rintro W ⟨h0, h1, h2, h3, h4, h5, h6, h7⟩; go_simp; try rfl) HSv ?_; simp only [aZ, aC, aD]; refine hatH 20 rfl (by rintro W ⟨h0, h1, h2, h3, h4, h5, h6, h7⟩; go_simp; try rfl) HSv ?_; simp only [aZ, aC, aD]; refine hatH 22 rfl (by rintro W ⟨h0, h1, h2, h3, h4, h5, h6, h7⟩; go_simp; try rfl) HSv ?_; simp only [aZ, aC, aD]; refine hend 23 ?_; simp only [aF, aG]; clear HSv; go_wp2_with fail; go_ret2; exact HG.out wE B HN.out.1 HN.out.2
         . intro K hK; rw [if_pos (by rfl)]
           try go_simp
           have bA : Below W4.heap.size W4 (W4.alloc (.cells #[.int .i64 3] 3 (0, 0))) := (Below.refl _ _).alloc (Nat.le_refl _) _; have hz := at1 W4 (.cells #[.int .i64 3] 3 (0, 0)); generalize hW5 : W4.alloc (.cells #[.int .i64 3] 3 (0, 0)) = W5 at bA hz ⊢; obtain ⟨ib, hib⟩ : ∃ ib, ib = W4.heap.size := ⟨_, rfl⟩; rw [<- hib] at hz ⊢; have HI := H_ hz; have HR := H_ (HR.out.below bA); have HB := H_ (HB.out.trans (bA.mono HB.out.size)); have HSv : (fun Y : World => Y.cell? ⟨w.heap.size, 0, none⟩ = some (.int .i64 c.mru) /\ Y.cell? ⟨w.heap.size, 1, none⟩ = some (.int .i64 c.auth) /\ Y.cell? ⟨w.heap.size, 2, none⟩ = some (.int .i64 c.magic) /\ Y.cell? ⟨w.heap.size, 3, none⟩ = some (.int .i64 c.echo) /\ Y.cell? ⟨w.heap.size, 4, none⟩ = some (.int .i64 c.cf) /\ Y.cell? ⟨w.heap.size, 5, none⟩ = some (.int .i64 c.tm) /\ Y.cell? ⟨w.heap.size, 6, none⟩ = some (.int .i64 c.fl) /\ Y.cell? ⟨w.heap.size, 7, none⟩ = some (.int .i64 c.wt)) W5 := HS.out _ HB.out; refine hK _ _ (fun _ => HSv) ?_
           try simp only [aZ, aA, aE, aB, aC, aD]
           clear bA hz hW5 hib; refine hone 4 rfl fun K hK => ?_
           try go_simp
           have bA : Below W5.heap.size W5 (W5.alloc (.cells #[.int .i64 1, .int .i64 2, .int .i64 64, .int .i64 1492, .string (be2 1492), .int .i64 5, .int .i64 4, .int .i64 1, .int .i64 4294967295, .string (be4 1)] 136 (0, 0))) := (Below.refl _ _).alloc (Nat.le_refl _) _; have hz := at1 W5 (.cells #[.int .i64 1, .int .i64 2, .int .i64 64, .int .i64 1492, .string (be2 1492), .int .i64 5, .int .i64 4, .int .i64 1, .int .i64 4294967295, .string (be4 1)] 136 (0, 0)); generalize hW6 : W5.alloc (.cells #[.int .i64 1, .int .i64 2, .int .i64 64, .int .i64 1492, .string (be2 1492), .int .i64 5, .int .i64 4, .int .i64 1, .int .i64 4294967295, .string (be4 1)] 136 (0, 0)) = W6 at bA hz ⊢; obtain ⟨rb, hrb⟩ : ∃ rb, rb = W5.heap.size := ⟨_, rfl⟩; rw [<- hrb] at hz ⊢; have HRu := H_ hz; have HR := H_ (HR.out.below bA); have HB := H_ (HB.out.trans (bA.mono HB.out.size)); have HSv : (fun Y : World => Y.cell? ⟨w.heap.size, 0, none⟩ = some (.int .i64 c.mru) /\ Y.cell? ⟨w.heap.size, 1, none⟩ = some (.int .i64 c.auth) /\ Y.cell? ⟨w.heap.size, 2, none⟩ = some (.int .i64 c.magic) /\ Y.cell? ⟨w.heap.size, 3, none⟩ = some (.int .i64 c.echo) /\ Y.cell? ⟨w.heap.size, 4, none⟩ = some (.int .i64 c.cf) /\ Y.cell? ⟨w.heap.size, 5, none⟩ = some (.int .i64 c.tm) /\ Y.cell? ⟨w.heap.size, 6, none⟩ = some (.int .i64 c.fl) /\ Y.cell? ⟨w.heap.size, 7, none⟩ = some (.int .i64 c.wt)) W6 := HS.out _ HB.out; have HI := H_ ((bA.block _ (Array.getElem?_eq_some_iff.1 HI.out).1).trans HI.out); refine hK _ _ (fun _ => HSv) ?_
           try simp only [aZ, aA, aE, aB, aC, aD]
           clear bA hz hW6 hrb; refine hatH 14 rfl (by rintro W ⟨h0, h1, h2, h3, h4, h5, h6, h7⟩; go_simp; try rfl) HSv ?_; simp only [aZ, aC, aD]; refine hone 17 rfl fun K hK => ?_
           try go_simp
           go_at_call 88; refine (HNN.out lb W1 W6 sA cA rb ib HB.out HR.out HRu.out HI.out).mono ?_; rintro e wE ⟨B, rfl, nE, bE⟩; have zl := (bE.block lb (Array.getElem?_eq_some_iff.1 HZ.out.2.1).1).trans HZ.out.2.1; have f0 := fzOf zl 0; have c0 : wE.cell? ⟨lb, 0, none⟩ = some (.pointer none) := cellOf zl 0 _ rfl; have HN := H_ (A_ bE nE); have HSv : (fun Y : World => Y.cell? ⟨w.heap.size, 0, none⟩ = some (.int .i64 c.mru) /\ Y.cell? ⟨w.heap.size, 1, none⟩ = some (.int .i64 c.auth) /\ Y.cell? ⟨w.heap.size, 2, none⟩ = some (.int .i64 c.magic) /\ Y.cell? ⟨w.heap.size, 3, none⟩ = some (.int .i64 c.echo) /\ Y.cell? ⟨w.heap.size, 4, none⟩ = some (.int .i64 c.cf) /\ Y.cell? ⟨w.heap.size, 5, none⟩ = some (.int .i64 c.tm) /\ Y.cell? ⟨w.heap.size, 6, none⟩ = some (.int .i64 c.fl) /\ Y.cell? ⟨w.heap.size, 7, none⟩ = some (.int .i64 c.wt)) wE := HS.out _ bE; clear bE nE zl; refine hK _ _ (fun _ => HSv) ?_
           try simp only [aZ, aA, aE, aB, aC, aD]
           refine hatH 18 rfl (by rintro W ⟨h0, h1, h2, h3, h4, h5, h6, h7⟩; go_simp; try rfl) HSv ?_; simp only [aZ, aC, aD]; refine hatH 19 rfl (by rintro W ⟨h0, h1, h2, h3, h4, h5, h6, h7⟩; go_simp; try rfl) HSv ?_; simp only [aZ, aC, aD]; refine hatH 21 rfl (by rintro W ⟨h0, h1, h2, h3, h4, h5, h6, h7⟩; go_simp; try rfl) HSv ?_; simp only [aZ, aC, aD]; refine hatH 20 rfl (by rintro W ⟨h0, h1, h2, h3, h4, h5, h6, h7⟩; go_simp; try rfl) HSv ?_; simp only [aZ, aC, aD]; refine hatH 22 rfl (by rintro W ⟨h0, h1, h2, h3, h4, h5, h6, h7⟩; go_simp; try rfl) HSv ?_; simp only [aZ, aC, aD]; refine hend 23 ?_; simp only [aF, aG]; clear HSv; go_wp2_with fail; go_ret2; exact HG.out wE B HN.out.1 HN.out.2
       . intro K hK; rw [if_pos (by rfl)]
         try go_simp
         have bA : Below W3.heap.size W3 (W3.alloc (.cells #[.int .i64 3] 3 (0, 0))) := (Below.refl _ _).alloc (Nat.le_refl _) _; have hz := at1 W3 (.cells #[.int .i64 3] 3 (0, 0)); generalize hW4 : W3.alloc (.cells #[.int .i64 3] 3 (0, 0)) = W4 at bA hz ⊢; obtain ⟨ib, hib⟩ : ∃ ib, ib = W3.heap.size := ⟨_, rfl⟩; rw [<- hib] at hz ⊢; have HI := H_ hz; have HR := H_ (HR.out.below bA); have HB := H_ (HB.out.trans (bA.mono HB.out.size)); have HSv : (fun Y : World => Y.cell? ⟨w.heap.size, 0, none⟩ = some (.int .i64 c.mru) /\ Y.cell? ⟨w.heap.size, 1, none⟩ = some (.int .i64 c.auth) /\ Y.cell? ⟨w.heap.size, 2, none⟩ = some (.int .i64 c.magic) /\ Y.cell? ⟨w.heap.size, 3, none⟩ = some (.int .i64 c.echo) /\ Y.cell? ⟨w.heap.size, 4, none⟩ = some (.int .i64 c.cf) /\ Y.cell? ⟨w.heap.size, 5, none⟩ = some (.int .i64 c.tm) /\ Y.cell? ⟨w.heap.size, 6, none⟩ = some (.int .i64 c.fl) /\ Y.cell? ⟨w.heap.size, 7, none⟩ = some (.int .i64 c.wt)) W4 := HS.out _ HB.out; refine hK _ _ (fun _ => HSv) ?_
         try simp only [aZ, aA, aE, aB, aC, aD]
         clear bA hz hW4 hib; refine hone 3 rfl fun K hK => ?_
         try go_simp
         go_at_call 91; refine (magics_any _).mono ?_; rintro e W5 ⟨rfl, bA⟩; have HR := H_ (HR.out.below bA); have HB := H_ (HB.out.trans (bA.mono HB.out.size)); have HSv : (fun Y : World => Y.cell? ⟨w.heap.size, 0, none⟩ = some (.int .i64 c.mru) /\ Y.cell? ⟨w.heap.size, 1, none⟩ = some (.int .i64 c.auth) /\ Y.cell? ⟨w.heap.size, 2, none⟩ = some (.int .i64 c.magic) /\ Y.cell? ⟨w.heap.size, 3, none⟩ = some (.int .i64 c.echo) /\ Y.cell? ⟨w.heap.size, 4, none⟩ = some (.int .i64 c.cf) /\ Y.cell? ⟨w.heap.size, 5, none⟩ = some (.int .i64 c.tm) /\ Y.cell? ⟨w.heap.size, 6, none⟩ = some (.int .i64 c.fl) /\ Y.cell? ⟨w.heap.size, 7, none⟩ = some (.int .i64 c.wt)) W5 := HS.out _ HB.out; have HI := H_ ((bA.block _ (Array.getElem?_eq_some_iff.1 HI.out).1).trans HI.out); refine hK _ _ (fun _ => HSv) ?_
         try simp only [aZ, aA, aE, aB, aC, aD]
         clear bA; refine hone 4 rfl fun K hK => ?_
         try go_simp
         have bA : Below W5.heap.size W5 (W5.alloc (.cells #[.int .i64 1, .int .i64 2, .int .i64 64, .int .i64 1492, .string (be2 1492), .int .i64 5, .int .i64 4, .int .i64 1, .int .i64 4294967295, .string (be4 1)] 136 (0, 0))) := (Below.refl _ _).alloc (Nat.le_refl _) _; have hz := at1 W5 (.cells #[.int .i64 1, .int .i64 2, .int .i64 64, .int .i64 1492, .string (be2 1492), .int .i64 5, .int .i64 4, .int .i64 1, .int .i64 4294967295, .string (be4 1)] 136 (0, 0)); generalize hW6 : W5.alloc (.cells #[.int .i64 1, .int .i64 2, .int .i64 64, .int .i64 1492, .string (be2 1492), .int .i64 5, .int .i64 4, .int .i64 1, .int .i64 4294967295, .string (be4 1)] 136 (0, 0)) = W6 at bA hz ⊢; obtain ⟨rb, hrb⟩ : ∃ rb, rb = W5.heap.size := ⟨_, rfl⟩; rw [<- hrb] at hz ⊢; have HRu := H_ hz; have HR := H_ (HR.out.below bA); have HB := H_ (HB.out.trans (bA.mono HB.out.size)); have HSv : (fun Y : World => Y.cell? ⟨w.heap.size, 0, none⟩ = some (.int .i64 c.mru) /\ Y.cell? ⟨w.heap.size, 1, none⟩ = some (.int .i64 c.auth) /\ Y.cell? ⟨w.heap.size, 2, none⟩ = some (.int .i64 c.magic) /\ Y.cell? ⟨w.heap.size, 3, none⟩ = some (.int .i64 c.echo) /\ Y.cell? ⟨w.heap.size, 4, none⟩ = some (.int .i64 c.cf) /\ Y.cell? ⟨w.heap.size, 5, none⟩ = some (.int .i64 c.tm) /\ Y.cell? ⟨w.heap.size, 6, none⟩ = some (.int .i64 c.fl) /\ Y.cell? ⟨w.heap.size, 7, none⟩ = some (.int .i64 c.wt)) W6 := HS.out _ HB.out; have HI := H_ ((bA.block _ (Array.getElem?_eq_some_iff.1 HI.out).1).trans HI.out); refine hK _ _ (fun _ => HSv) ?_
         try simp only [aZ, aA, aE, aB, aC, aD]
         clear bA hz hW6 hrb; refine hatH 14 rfl (by rintro W ⟨h0, h1, h2, h3, h4, h5, h6, h7⟩; go_simp; try rfl) HSv ?_; simp only [aZ, aC, aD]; refine hone 17 rfl fun K hK => ?_
         try go_simp
         go_at_call 88; refine (HNN.out lb W1 W6 sA cA rb ib HB.out HR.out HRu.out HI.out).mono ?_; rintro e wE ⟨B, rfl, nE, bE⟩; have zl := (bE.block lb (Array.getElem?_eq_some_iff.1 HZ.out.2.1).1).trans HZ.out.2.1; have f0 := fzOf zl 0; have c0 : wE.cell? ⟨lb, 0, none⟩ = some (.pointer none) := cellOf zl 0 _ rfl; have HN := H_ (A_ bE nE); have HSv : (fun Y : World => Y.cell? ⟨w.heap.size, 0, none⟩ = some (.int .i64 c.mru) /\ Y.cell? ⟨w.heap.size, 1, none⟩ = some (.int .i64 c.auth) /\ Y.cell? ⟨w.heap.size, 2, none⟩ = some (.int .i64 c.magic) /\ Y.cell? ⟨w.heap.size, 3, none⟩ = some (.int .i64 c.echo) /\ Y.cell? ⟨w.heap.size, 4, none⟩ = some (.int .i64 c.cf) /\ Y.cell? ⟨w.heap.size, 5, none⟩ = some (.int .i64 c.tm) /\ Y.cell? ⟨w.heap.size, 6, none⟩ = some (.int .i64 c.fl) /\ Y.cell? ⟨w.heap.size, 7, none⟩ = some (.int .i64 c.wt)) wE := HS.out _ bE; clear bE nE zl; refine hK _ _ (fun _ => HSv) ?_
         try simp only [aZ, aA, aE, aB, aC, aD]
         refine hatH 18 rfl (by rintro W ⟨h0, h1, h2, h3, h4, h5, h6, h7⟩; go_simp; try rfl) HSv ?_; simp only [aZ, aC, aD]; refine hatH 19 rfl (by rintro W ⟨h0, h1, h2, h3, h4, h5, h6, h7⟩; go_simp; try rfl) HSv ?_; simp only [aZ, aC, aD]; refine hatH 21 rfl (by rintro W ⟨h0, h1, h2, h3, h4, h5, h6, h7⟩; go_simp; try rfl) HSv ?_; simp only [aZ, aC, aD]; refine hatH 20 rfl (by rintro W ⟨h0, h1, h2, h3, h4, h5, h6, h7⟩; go_simp; try rfl) HSv ?_; simp only [aZ, aC, aD]; refine hatH 22 rfl (by rintro W ⟨h0, h1, h2, h3, h4, h5, h6, h7⟩; go_simp; try rfl) HSv ?_; simp only [aZ, aC, aD]; refine hend 23 ?_; simp only [aF, aG]; clear HSv; go_wp2_with fail; go_ret2; exact HG.out wE B HN.out.1 HN.out.2
     . intro K hK; rw [if_pos (by rfl)]
       try go_simp
       have bA : Below W2.heap.size W2 (W2.alloc (.cells #[.int .i64 3] 3 (0, 0))) := (Below.refl _ _).alloc (Nat.le_refl _) _; have hz := at1 W2 (.cells #[.int .i64 3] 3 (0, 0)); generalize hW3 : W2.alloc (.cells #[.int .i64 3] 3 (0, 0)) = W3 at bA hz ⊢; obtain ⟨ib, hib⟩ : ∃ ib, ib = W2.heap.size := ⟨_, rfl⟩; rw [<- hib] at hz ⊢; have HI := H_ hz; have HR := H_ (HR.out.below bA); have HB := H_ (HB.out.trans (bA.mono HB.out.size)); have HSv : (fun Y : World => Y.cell? ⟨w.heap.size, 0, none⟩ = some (.int .i64 c.mru) /\ Y.cell? ⟨w.heap.size, 1, none⟩ = some (.int .i64 c.auth) /\ Y.cell? ⟨w.heap.size, 2, none⟩ = some (.int .i64 c.magic) /\ Y.cell? ⟨w.heap.size, 3, none⟩ = some (.int .i64 c.echo) /\ Y.cell? ⟨w.heap.size, 4, none⟩ = some (.int .i64 c.cf) /\ Y.cell? ⟨w.heap.size, 5, none⟩ = some (.int .i64 c.tm) /\ Y.cell? ⟨w.heap.size, 6, none⟩ = some (.int .i64 c.fl) /\ Y.cell? ⟨w.heap.size, 7, none⟩ = some (.int .i64 c.wt)) W3 := HS.out _ HB.out; refine hK _ _ (fun _ => HSv) ?_
       try simp only [aZ, aA, aE, aB, aC, aD]
       clear bA hz hW3 hib; refine hone 2 rfl fun K hK => ?_
       try go_simp
       go_at_call 90; refine (units_any 1492 _).mono ?_; rintro e W4 ⟨rfl, bA⟩; have HR := H_ (HR.out.below bA); have HB := H_ (HB.out.trans (bA.mono HB.out.size)); have HSv : (fun Y : World => Y.cell? ⟨w.heap.size, 0, none⟩ = some (.int .i64 c.mru) /\ Y.cell? ⟨w.heap.size, 1, none⟩ = some (.int .i64 c.auth) /\ Y.cell? ⟨w.heap.size, 2, none⟩ = some (.int .i64 c.magic) /\ Y.cell? ⟨w.heap.size, 3, none⟩ = some (.int .i64 c.echo) /\ Y.cell? ⟨w.heap.size, 4, none⟩ = some (.int .i64 c.cf) /\ Y.cell? ⟨w.heap.size, 5, none⟩ = some (.int .i64 c.tm) /\ Y.cell? ⟨w.heap.size, 6, none⟩ = some (.int .i64 c.fl) /\ Y.cell? ⟨w.heap.size, 7, none⟩ = some (.int .i64 c.wt)) W4 := HS.out _ HB.out; have HI := H_ ((bA.block _ (Array.getElem?_eq_some_iff.1 HI.out).1).trans HI.out); refine hK _ _ (fun _ => HSv) ?_
       try simp only [aZ, aA, aE, aB, aC, aD]
       clear bA; refine hone 3 rfl fun K hK => ?_
       try go_simp
       go_at_call 91; refine (magics_any _).mono ?_; rintro e W5 ⟨rfl, bA⟩; have HR := H_ (HR.out.below bA); have HB := H_ (HB.out.trans (bA.mono HB.out.size)); have HSv : (fun Y : World => Y.cell? ⟨w.heap.size, 0, none⟩ = some (.int .i64 c.mru) /\ Y.cell? ⟨w.heap.size, 1, none⟩ = some (.int .i64 c.auth) /\ Y.cell? ⟨w.heap.size, 2, none⟩ = some (.int .i64 c.magic) /\ Y.cell? ⟨w.heap.size, 3, none⟩ = some (.int .i64 c.echo) /\ Y.cell? ⟨w.heap.size, 4, none⟩ = some (.int .i64 c.cf) /\ Y.cell? ⟨w.heap.size, 5, none⟩ = some (.int .i64 c.tm) /\ Y.cell? ⟨w.heap.size, 6, none⟩ = some (.int .i64 c.fl) /\ Y.cell? ⟨w.heap.size, 7, none⟩ = some (.int .i64 c.wt)) W5 := HS.out _ HB.out; have HI := H_ ((bA.block _ (Array.getElem?_eq_some_iff.1 HI.out).1).trans HI.out); refine hK _ _ (fun _ => HSv) ?_
       try simp only [aZ, aA, aE, aB, aC, aD]
       clear bA; refine hone 4 rfl fun K hK => ?_
       try go_simp
       have bA : Below W5.heap.size W5 (W5.alloc (.cells #[.int .i64 1, .int .i64 2, .int .i64 64, .int .i64 1492, .string (be2 1492), .int .i64 5, .int .i64 4, .int .i64 1, .int .i64 4294967295, .string (be4 1)] 136 (0, 0))) := (Below.refl _ _).alloc (Nat.le_refl _) _; have hz := at1 W5 (.cells #[.int .i64 1, .int .i64 2, .int .i64 64, .int .i64 1492, .string (be2 1492), .int .i64 5, .int .i64 4, .int .i64 1, .int .i64 4294967295, .string (be4 1)] 136 (0, 0)); generalize hW6 : W5.alloc (.cells #[.int .i64 1, .int .i64 2, .int .i64 64, .int .i64 1492, .string (be2 1492), .int .i64 5, .int .i64 4, .int .i64 1, .int .i64 4294967295, .string (be4 1)] 136 (0, 0)) = W6 at bA hz ⊢; obtain ⟨rb, hrb⟩ : ∃ rb, rb = W5.heap.size := ⟨_, rfl⟩; rw [<- hrb] at hz ⊢; have HRu := H_ hz; have HR := H_ (HR.out.below bA); have HB := H_ (HB.out.trans (bA.mono HB.out.size)); have HSv : (fun Y : World => Y.cell? ⟨w.heap.size, 0, none⟩ = some (.int .i64 c.mru) /\ Y.cell? ⟨w.heap.size, 1, none⟩ = some (.int .i64 c.auth) /\ Y.cell? ⟨w.heap.size, 2, none⟩ = some (.int .i64 c.magic) /\ Y.cell? ⟨w.heap.size, 3, none⟩ = some (.int .i64 c.echo) /\ Y.cell? ⟨w.heap.size, 4, none⟩ = some (.int .i64 c.cf) /\ Y.cell? ⟨w.heap.size, 5, none⟩ = some (.int .i64 c.tm) /\ Y.cell? ⟨w.heap.size, 6, none⟩ = some (.int .i64 c.fl) /\ Y.cell? ⟨w.heap.size, 7, none⟩ = some (.int .i64 c.wt)) W6 := HS.out _ HB.out; have HI := H_ ((bA.block _ (Array.getElem?_eq_some_iff.1 HI.out).1).trans HI.out); refine hK _ _ (fun _ => HSv) ?_
       try simp only [aZ, aA, aE, aB, aC, aD]
       clear bA hz hW6 hrb; refine hatH 14 rfl (by rintro W ⟨h0, h1, h2, h3, h4, h5, h6, h7⟩; go_simp; try rfl) HSv ?_; simp only [aZ, aC, aD]; refine hone 17 rfl fun K hK => ?_
       try go_simp
       go_at_call 88; refine (HNN.out lb W1 W6 sA cA rb ib HB.out HR.out HRu.out HI.out).mono ?_; rintro e wE ⟨B, rfl, nE, bE⟩; have zl := (bE.block lb (Array.getElem?_eq_some_iff.1 HZ.out.2.1).1).trans HZ.out.2.1; have f0 := fzOf zl 0; have c0 : wE.cell? ⟨lb, 0, none⟩ = some (.pointer none) := cellOf zl 0 _ rfl; have HN := H_ (A_ bE nE); have HSv : (fun Y : World => Y.cell? ⟨w.heap.size, 0, none⟩ = some (.int .i64 c.mru) /\ Y.cell? ⟨w.heap.size, 1, none⟩ = some (.int .i64 c.auth) /\ Y.cell? ⟨w.heap.size, 2, none⟩ = some (.int .i64 c.magic) /\ Y.cell? ⟨w.heap.size, 3, none⟩ = some (.int .i64 c.echo) /\ Y.cell? ⟨w.heap.size, 4, none⟩ = some (.int .i64 c.cf) /\ Y.cell? ⟨w.heap.size, 5, none⟩ = some (.int .i64 c.tm) /\ Y.cell? ⟨w.heap.size, 6, none⟩ = some (.int .i64 c.fl) /\ Y.cell? ⟨w.heap.size, 7, none⟩ = some (.int .i64 c.wt)) wE := HS.out _ bE; clear bE nE zl; refine hK _ _ (fun _ => HSv) ?_
       try simp only [aZ, aA, aE, aB, aC, aD]
       refine hatH 18 rfl (by rintro W ⟨h0, h1, h2, h3, h4, h5, h6, h7⟩; go_simp; try rfl) HSv ?_; simp only [aZ, aC, aD]; refine hatH 19 rfl (by rintro W ⟨h0, h1, h2, h3, h4, h5, h6, h7⟩; go_simp; try rfl) HSv ?_; simp only [aZ, aC, aD]; refine hatH 21 rfl (by rintro W ⟨h0, h1, h2, h3, h4, h5, h6, h7⟩; go_simp; try rfl) HSv ?_; simp only [aZ, aC, aD]; refine hatH 20 rfl (by rintro W ⟨h0, h1, h2, h3, h4, h5, h6, h7⟩; go_simp; try rfl) HSv ?_; simp only [aZ, aC, aD]; refine hatH 22 rfl (by rintro W ⟨h0, h1, h2, h3, h4, h5, h6, h7⟩; go_simp; try rfl) HSv ?_; simp only [aZ, aC, aD]; refine hend 23 ?_; simp only [aF, aG]; clear HSv; go_wp2_with fail; go_ret2; exact HG.out wE B HN.out.1 HN.out.2
   . intro K hK; rw [if_pos (by rfl)]
     try go_simp
     have bA : Below W.heap.size W (W.alloc (.cells #[.int .i64 3] 3 (0, 0))) := (Below.refl _ _).alloc (Nat.le_refl _) _; have hz := at1 W (.cells #[.int .i64 3] 3 (0, 0)); generalize hW2 : W.alloc (.cells #[.int .i64 3] 3 (0, 0)) = W2 at bA hz ⊢; obtain ⟨ib, hib⟩ : ∃ ib, ib = W.heap.size := ⟨_, rfl⟩; rw [<- hib] at hz ⊢; have HI := H_ hz; have HB := H_ (HB.out.trans (bA.mono HB.out.size)); have HSv : (fun Y : World => Y.cell? ⟨w.heap.size, 0, none⟩ = some (.int .i64 c.mru) /\ Y.cell? ⟨w.heap.size, 1, none⟩ = some (.int .i64 c.auth) /\ Y.cell? ⟨w.heap.size, 2, none⟩ = some (.int .i64 c.magic) /\ Y.cell? ⟨w.heap.size, 3, none⟩ = some (.int .i64 c.echo) /\ Y.cell? ⟨w.heap.size, 4, none⟩ = some (.int .i64 c.cf) /\ Y.cell? ⟨w.heap.size, 5, none⟩ = some (.int .i64 c.tm) /\ Y.cell? ⟨w.heap.size, 6, none⟩ = some (.int .i64 c.fl) /\ Y.cell? ⟨w.heap.size, 7, none⟩ = some (.int .i64 c.wt)) W2 := HS.out _ HB.out; refine hK _ _ (fun _ => HSv) ?_
     try simp only [aZ, aA, aE, aB, aC, aD]
     clear bA hz hW2 hib; refine hone 1 rfl fun K hK => ?_
     try go_simp
     go_at_call 89; refine (HLO.out _).mono ?_; rintro e W3 ⟨vA, rfl, rA, bA⟩; obtain ⟨sA, cA, rfl⟩ := rA.form; have HR := H_ (rA.base HB.out.size); have HB := H_ (HB.out.trans (bA.mono HB.out.size)); have HSv : (fun Y : World => Y.cell? ⟨w.heap.size, 0, none⟩ = some (.int .i64 c.mru) /\ Y.cell? ⟨w.heap.size, 1, none⟩ = some (.int .i64 c.auth) /\ Y.cell? ⟨w.heap.size, 2, none⟩ = some (.int .i64 c.magic) /\ Y.cell? ⟨w.heap.size, 3, none⟩ = some (.int .i64 c.echo) /\ Y.cell? ⟨w.heap.size, 4, none⟩ = some (.int .i64 c.cf) /\ Y.cell? ⟨w.heap.size, 5, none⟩ = some (.int .i64 c.tm) /\ Y.cell? ⟨w.heap.size, 6, none⟩ = some (.int .i64 c.fl) /\ Y.cell? ⟨w.heap.size, 7, none⟩ = some (.int .i64 c.wt)) W3 := HS.out _ HB.out; have HI := H_ ((bA.block _ (Array.getElem?_eq_some_iff.1 HI.out).1).trans HI.out); refine hK _ _ (fun _ => HSv) ?_
     try simp only [aZ, aA, aE, aB, aC, aD]
     clear rA bA; refine hone 2 rfl fun K hK => ?_
     try go_simp
     go_at_call 90; refine (units_any 1492 _).mono ?_; rintro e W4 ⟨rfl, bA⟩; have HR := H_ (HR.out.below bA); have HB := H_ (HB.out.trans (bA.mono HB.out.size)); have HSv : (fun Y : World => Y.cell? ⟨w.heap.size, 0, none⟩ = some (.int .i64 c.mru) /\ Y.cell? ⟨w.heap.size, 1, none⟩ = some (.int .i64 c.auth) /\ Y.cell? ⟨w.heap.size, 2, none⟩ = some (.int .i64 c.magic) /\ Y.cell? ⟨w.heap.size, 3, none⟩ = some (.int .i64 c.echo) /\ Y.cell? ⟨w.heap.size, 4, none⟩ = some (.int .i64 c.cf) /\ Y.cell? ⟨w.heap.size, 5, none⟩ = some (.int .i64 c.tm) /\ Y.cell? ⟨w.heap.size, 6, none⟩ = some (.int .i64 c.fl) /\ Y.cell? ⟨w.heap.size, 7, none⟩ = some (.int .i64 c.wt)) W4 := HS.out _ HB.out; have HI := H_ ((bA.block _ (Array.getElem?_eq_some_iff.1 HI.out).1).trans HI.out); refine hK _ _ (fun _ => HSv) ?_
     try simp only [aZ, aA, aE, aB, aC, aD]
     clear bA; refine hone 3 rfl fun K hK => ?_
     try go_simp
     go_at_call 91; refine (magics_any _).mono ?_; rintro e W5 ⟨rfl, bA⟩; have HR := H_ (HR.out.below bA); have HB := H_ (HB.out.trans (bA.mono HB.out.size)); have HSv : (fun Y : World => Y.cell? ⟨w.heap.size, 0, none⟩ = some (.int .i64 c.mru) /\ Y.cell? ⟨w.heap.size, 1, none⟩ = some (.int .i64 c.auth) /\ Y.cell? ⟨w.heap.size, 2, none⟩ = some (.int .i64 c.magic) /\ Y.cell? ⟨w.heap.size, 3, none⟩ = some (.int .i64 c.echo) /\ Y.cell? ⟨w.heap.size, 4, none⟩ = some (.int .i64 c.cf) /\ Y.cell? ⟨w.heap.size, 5, none⟩ = some (.int .i64 c.tm) /\ Y.cell? ⟨w.heap.size, 6, none⟩ = some (.int .i64 c.fl) /\ Y.cell? ⟨w.heap.size, 7, none⟩ = some (.int .i64 c.wt)) W5 := HS.out _ HB.out; have HI := H_ ((bA.block _ (Array.getElem?_eq_some_iff.1 HI.out).1).trans HI.out); refine hK _ _ (fun _ => HSv) ?_
     try simp only [aZ, aA, aE, aB, aC, aD]
     clear bA; refine hone 4 rfl fun K hK => ?_
     try go_simp
     have bA : Below W5.heap.size W5 (W5.alloc (.cells #[.int .i64 1, .int .i64 2, .int .i64 64, .int .i64 1492, .string (be2 1492), .int .i64 5, .int .i64 4, .int .i64 1, .int .i64 4294967295, .string (be4 1)] 136 (0, 0))) := (Below.refl _ _).alloc (Nat.le_refl _) _; have hz := at1 W5 (.cells #[.int .i64 1, .int .i64 2, .int .i64 64, .int .i64 1492, .string (be2 1492), .int .i64 5, .int .i64 4, .int .i64 1, .int .i64 4294967295, .string (be4 1)] 136 (0, 0)); generalize hW6 : W5.alloc (.cells #[.int .i64 1, .int .i64 2, .int .i64 64, .int .i64 1492, .string (be2 1492), .int .i64 5, .int .i64 4, .int .i64 1, .int .i64 4294967295, .string (be4 1)] 136 (0, 0)) = W6 at bA hz ⊢; obtain ⟨rb, hrb⟩ : ∃ rb, rb = W5.heap.size := ⟨_, rfl⟩; rw [<- hrb] at hz ⊢; have HRu := H_ hz; have HR := H_ (HR.out.below bA); have HB := H_ (HB.out.trans (bA.mono HB.out.size)); have HSv : (fun Y : World => Y.cell? ⟨w.heap.size, 0, none⟩ = some (.int .i64 c.mru) /\ Y.cell? ⟨w.heap.size, 1, none⟩ = some (.int .i64 c.auth) /\ Y.cell? ⟨w.heap.size, 2, none⟩ = some (.int .i64 c.magic) /\ Y.cell? ⟨w.heap.size, 3, none⟩ = some (.int .i64 c.echo) /\ Y.cell? ⟨w.heap.size, 4, none⟩ = some (.int .i64 c.cf) /\ Y.cell? ⟨w.heap.size, 5, none⟩ = some (.int .i64 c.tm) /\ Y.cell? ⟨w.heap.size, 6, none⟩ = some (.int .i64 c.fl) /\ Y.cell? ⟨w.heap.size, 7, none⟩ = some (.int .i64 c.wt)) W6 := HS.out _ HB.out; have HI := H_ ((bA.block _ (Array.getElem?_eq_some_iff.1 HI.out).1).trans HI.out); refine hK _ _ (fun _ => HSv) ?_
     try simp only [aZ, aA, aE, aB, aC, aD]
     clear bA hz hW6 hrb; refine hatH 14 rfl (by rintro W ⟨h0, h1, h2, h3, h4, h5, h6, h7⟩; go_simp; try rfl) HSv ?_; simp only [aZ, aC, aD]; refine hone 17 rfl fun K hK => ?_
     try go_simp
     go_at_call 88; refine (HNN.out lb W1 W6 sA cA rb ib HB.out HR.out HRu.out HI.out).mono ?_; rintro e wE ⟨B, rfl, nE, bE⟩; have zl := (bE.block lb (Array.getElem?_eq_some_iff.1 HZ.out.2.1).1).trans HZ.out.2.1; have f0 := fzOf zl 0; have c0 : wE.cell? ⟨lb, 0, none⟩ = some (.pointer none) := cellOf zl 0 _ rfl; have HN := H_ (A_ bE nE); have HSv : (fun Y : World => Y.cell? ⟨w.heap.size, 0, none⟩ = some (.int .i64 c.mru) /\ Y.cell? ⟨w.heap.size, 1, none⟩ = some (.int .i64 c.auth) /\ Y.cell? ⟨w.heap.size, 2, none⟩ = some (.int .i64 c.magic) /\ Y.cell? ⟨w.heap.size, 3, none⟩ = some (.int .i64 c.echo) /\ Y.cell? ⟨w.heap.size, 4, none⟩ = some (.int .i64 c.cf) /\ Y.cell? ⟨w.heap.size, 5, none⟩ = some (.int .i64 c.tm) /\ Y.cell? ⟨w.heap.size, 6, none⟩ = some (.int .i64 c.fl) /\ Y.cell? ⟨w.heap.size, 7, none⟩ = some (.int .i64 c.wt)) wE := HS.out _ bE; clear bE nE zl; refine hK _ _ (fun _ => HSv) ?_
     try simp only [aZ, aA, aE, aB, aC, aD]
     refine hatH 18 rfl (by rintro W ⟨h0, h1, h2, h3, h4, h5, h6, h7⟩; go_simp; try rfl) HSv ?_; simp only [aZ, aC, aD]; refine hatH 19 rfl (by rintro W ⟨h0, h1, h2, h3, h4, h5, h6, h7⟩; go_simp; try rfl) HSv ?_; simp only [aZ, aC, aD]; refine hatH 21 rfl (by rintro W ⟨h0, h1, h2, h3, h4, h5, h6, h7⟩; go_simp; try rfl) HSv ?_; simp only [aZ, aC, aD]; refine hatH 20 rfl (by rintro W ⟨h0, h1, h2, h3, h4, h5, h6, h7⟩; go_simp; try rfl) HSv ?_; simp only [aZ, aC, aD]; refine hatH 22 rfl (by rintro W ⟨h0, h1, h2, h3, h4, h5, h6, h7⟩; go_simp; try rfl) HSv ?_; simp only [aZ, aC, aD]; refine hend 23 ?_; simp only [aF, aG]; clear HSv; go_wp2_with fail; go_ret2; exact HG.out wE B HN.out.1 HN.out.2
 . have ea : (c.auth != 0) = true := by simpa using h0
   have ev := hva h0; clear hva h0; go_enter Tryz.func48, Tryz.ntmps48
   go_wp2_with (first
    | (
     go_at_call 71; first | with_reducible refine (HL.out.1 _).mono ?_ | with_reducible refine (HL.out.2.1 _).mono ?_ | with_reducible refine (HL.out.2.2 _).mono ?_
     rintro e w1 ⟨rfl, rfl⟩)
    | (
     go_at_call 87; refine (HV.out _).mono ?_; rintro e wv ⟨rfl, hb⟩; have hz := (hb.block w.heap.size (by have := HB0.out.2.2; unfold cfgO at this; rw [this]; omega)).trans HB0.out.2.1; have HZ := H_ (A_ (HB0.out.1.trans (hb.mono (by have := HB0.out.1.size; exact this))) hz); unfold cfgO at hz; have x0 := cellOf hz 0 _ rfl; have x1 := cellOf hz 1 _ rfl; have x2 := cellOf hz 2 _ rfl; have x3 := cellOf hz 3 _ rfl; have x4 := cellOf hz 4 _ rfl; have x5 := cellOf hz 5 _ rfl; have x6 := cellOf hz 6 _ rfl; have x7 := cellOf hz 7 _ rfl
     clear hb hz))
   clear x0 x1 x2 x3 x4 x5 x6 x7; have hz1 : (wv.alloc (.cells #[.pointer none, .pointer (some ⟨tb, 0, none⟩), .int .i64 c.echo, .int .i64 c.magic, .int .i64 0, .int .i64 0, .int .i64 0] 99 (0, 0))).heap[w.heap.size]? = some (cfgO c) := (Below.heap_alloc _ _ _ (Array.getElem?_eq_some_iff.1 HZ.out.2).1).trans HZ.out.2; have hl1 := at1 wv (.cells #[.pointer none, .pointer (some ⟨tb, 0, none⟩), .int .i64 c.echo, .int .i64 c.magic, .int .i64 0, .int .i64 0, .int .i64 0] 99 (0, 0)); have hw1 : Below w.heap.size w (wv.alloc (.cells #[.pointer none, .pointer (some ⟨tb, 0, none⟩), .int .i64 c.echo, .int .i64 c.magic, .int .i64 0, .int .i64 0, .int .i64 0] 99 (0, 0))) := HZ.out.1.alloc HZ.out.1.size _; have hs1 := alloc1 wv (.cells #[.pointer none, .pointer (some ⟨tb, 0, none⟩), .int .i64 c.echo, .int .i64 c.magic, .int .i64 0, .int .i64 0, .int .i64 0] 99 (0, 0)); have hlb : w.heap.size < wv.heap.size := (Array.getElem?_eq_some_iff.1 HZ.out.2).1; obtain ⟨lb, hlbe⟩ : ∃ lb, lb = wv.heap.size := ⟨_, rfl⟩; generalize hW1 : wv.alloc (.cells #[.pointer none, .pointer (some ⟨tb, 0, none⟩), .int .i64 c.echo, .int .i64 c.magic, .int .i64 0, .int .i64 0, .int .i64 0] 99 (0, 0)) = W1 at hz1 hl1 hw1 hs1 ⊢; rw [<- hlbe] at hl1 hs1 hlb ⊢; clear hW1 hlbe HZ; have HZ := H_ (A_ hz1 (A_ hl1 (A_ hw1 (A_ hs1 hlb))))
   have HS : Hid (∀ W, Below W1.heap.size W1 W -> (fun Y : World => Y.cell? ⟨w.heap.size, 0, none⟩ = some (.int .i64 c.mru) /\ Y.cell? ⟨w.heap.size, 1, none⟩ = some (.int .i64 c.auth) /\ Y.cell? ⟨w.heap.size, 2, none⟩ = some (.int .i64 c.magic) /\ Y.cell? ⟨w.heap.size, 3, none⟩ = some (.int .i64 c.echo) /\ Y.cell? ⟨w.heap.size, 4, none⟩ = some (.int .i64 c.cf) /\ Y.cell? ⟨w.heap.size, 5, none⟩ = some (.int .i64 c.tm) /\ Y.cell? ⟨w.heap.size, 6, none⟩ = some (.int .i64 c.fl) /\ Y.cell? ⟨w.heap.size, 7, none⟩ = some (.int .i64 c.wt)) W) := H_ fun W hW => by
    have h : W.heap[w.heap.size]? = some (.cells #[.int .i64 c.mru, .int .i64 c.auth, .int .i64 c.magic, .int .i64 c.echo, .int .i64 c.cf, .int .i64 c.tm, .int .i64 c.fl, .int .i64 c.wt] 86 (0, 0)) := (hW.block _ (by have := HZ.out.2.2.2.1; have := HZ.out.2.2.2.2; omega)).trans HZ.out.1; exact ⟨cellOf h 0 _ rfl, cellOf h 1 _ rfl, cellOf h 2 _ rfl, cellOf h 3 _ rfl, cellOf h 4 _ rfl, cellOf h 5 _ rfl, cellOf h 6 _ rfl, cellOf h 7 _ rfl⟩
   have HLO := H_ (fun W => lopts_any c W HIA.out); unfold cfgV at HLO; have a1 : ∀ (W : World) (O : Obj), W.heap.size < (W.alloc O).heap.size := fun W O => by rw [alloc1]; omega
   have HA1 := H_ a1; have HG := H_ (fun wE B bE nE => lnew_end (c := c) (w := w) (W1 := W1) (wE := wE) (lb := lb) (tb := tb) (okt := okt) (t := t) (B := B) hw1 hl1 (by have := H.out.2.1; exact TapeAt.keep this (Keep.of_below (fun _ => False) hw1) (fun h => h) (fun _ _ _ h => h)) (fun b hb => ⟨Nat.lt_of_lt_of_le (H.out.2.2 b hb) hw1.size, by have := H.out.2.2 b hb; omega⟩) (by have := H.out.2.1.lt; omega) (by omega) bE nE); obtain ⟨y0, y1, y2, y3, y4, y5, y6, y7⟩ := HS.out W1.drew (Below.refl _ _).drew; clear hz1 hl1 hw1 hs1 hlb a1; refine wp_region_H (rgH 0 23) (fun Y : World => Y.cell? ⟨w.heap.size, 0, none⟩ = some (.int .i64 c.mru) /\ Y.cell? ⟨w.heap.size, 1, none⟩ = some (.int .i64 c.auth) /\ Y.cell? ⟨w.heap.size, 2, none⟩ = some (.int .i64 c.magic) /\ Y.cell? ⟨w.heap.size, 3, none⟩ = some (.int .i64 c.echo) /\ Y.cell? ⟨w.heap.size, 4, none⟩ = some (.int .i64 c.cf) /\ Y.cell? ⟨w.heap.size, 5, none⟩ = some (.int .i64 c.tm) /\ Y.cell? ⟨w.heap.size, 6, none⟩ = some (.int .i64 c.fl) /\ Y.cell? ⟨w.heap.size, 7, none⟩ = some (.int .i64 c.wt)) (by kernel_rfl) ?_; have HSv : (fun Y : World => Y.cell? ⟨w.heap.size, 0, none⟩ = some (.int .i64 c.mru) /\ Y.cell? ⟨w.heap.size, 1, none⟩ = some (.int .i64 c.auth) /\ Y.cell? ⟨w.heap.size, 2, none⟩ = some (.int .i64 c.magic) /\ Y.cell? ⟨w.heap.size, 3, none⟩ = some (.int .i64 c.echo) /\ Y.cell? ⟨w.heap.size, 4, none⟩ = some (.int .i64 c.cf) /\ Y.cell? ⟨w.heap.size, 5, none⟩ = some (.int .i64 c.tm) /\ Y.cell? ⟨w.heap.size, 6, none⟩ = some (.int .i64 c.fl) /\ Y.cell? ⟨w.heap.size, 7, none⟩ = some (.int .i64 c.wt)) W1.drew := HS.out _ (Below.refl _ _).drew; have HB := H_ (show Below W1.heap.size W1 W1.drew from (Below.refl _ _).drew); refine hatH 0 rfl (by rintro W ⟨h0, h1, h2, h3, h4, h5, h6, h7⟩; go_simp; try rfl) HSv ?_; simp only [aZ, aC, aD]; refine hatH 6 rfl (by rintro W ⟨h0, h1, h2, h3, h4, h5, h6, h7⟩; go_simp; try rfl) HSv ?_; simp only [aZ, aC, aD]; refine hatH 7 rfl (by rintro W ⟨h0, h1, h2, h3, h4, h5, h6, h7⟩; go_simp; try rfl) HSv ?_; simp only [aZ, aC, aD]; refine hatH 8 rfl (by rintro W ⟨h0, h1, h2, h3, h4, h5, h6, h7⟩; go_simp; try rfl) HSv ?_; simp only [aZ, aC, aD]; refine hatH 9 rfl (by rintro W ⟨h0, h1, h2, h3, h4, h5, h6, h7⟩; go_simp; try rfl) HSv ?_; simp only [aZ, aC, aD]; refine hatH 10 rfl (by rintro W ⟨h0, h1, h2, h3, h4, h5, h6, h7⟩; go_simp; try rfl) HSv ?_; simp only [aZ, aC, aD]; refine hatH 11 rfl (by rintro W ⟨h0, h1, h2, h3, h4, h5, h6, h7⟩; go_simp; try rfl) HSv ?_; simp only [aZ, aC, aD]; refine hatH 12 rfl (by rintro W ⟨h0, h1, h2, h3, h4, h5, h6, h7⟩; go_simp; try rfl) HSv ?_; simp only [aZ, aC, aD]; refine hatH 13 rfl (by rintro W ⟨h0, h1, h2, h3, h4, h5, h6, h7⟩; go_simp; try rfl) HSv ?_; simp only [aZ, aC, aD]; refine hatH 15 rfl (by rintro W ⟨h0, h1, h2, h3, h4, h5, h6, h7⟩; go_simp; try rfl) HSv ?_; simp only [aZ, aC, aD]; refine hatH 16 rfl (by rintro W ⟨h0, h1, h2, h3, h4, h5, h6, h7⟩; go_simp; try rfl) HSv ?_; simp only [aZ, aC, aD]; generalize W1.drew = W at HSv HB ⊢; refine wpAnyH_2 1 5 rfl rfl (by kernel_rfl) ?_ ?_
   . intro K hK; rw [if_pos (by rfl)]
     try go_simp
     go_at_call 89; refine (HLO.out _).mono ?_; rintro e W2 ⟨vA, rfl, rA, bA⟩; obtain ⟨sA, cA, rfl⟩ := rA.form; have HR := H_ (rA.base HB.out.size); have HB := H_ (HB.out.trans (bA.mono HB.out.size)); have HSv : (fun Y : World => Y.cell? ⟨w.heap.size, 0, none⟩ = some (.int .i64 c.mru) /\ Y.cell? ⟨w.heap.size, 1, none⟩ = some (.int .i64 c.auth) /\ Y.cell? ⟨w.heap.size, 2, none⟩ = some (.int .i64 c.magic) /\ Y.cell? ⟨w.heap.size, 3, none⟩ = some (.int .i64 c.echo) /\ Y.cell? ⟨w.heap.size, 4, none⟩ = some (.int .i64 c.cf) /\ Y.cell? ⟨w.heap.size, 5, none⟩ = some (.int .i64 c.tm) /\ Y.cell? ⟨w.heap.size, 6, none⟩ = some (.int .i64 c.fl) /\ Y.cell? ⟨w.heap.size, 7, none⟩ = some (.int .i64 c.wt)) W2 := HS.out _ HB.out; refine hK _ _ (fun _ => HSv) ?_
     try simp only [aZ, aA, aE, aB, aC, aD]
     clear rA bA; refine wpAnyH_2 2 5 rfl rfl (by kernel_rfl) ?_ ?_
     . intro K hK; rw [if_pos (by rfl)]
       try go_simp
       go_at_call 90; refine (units_any 1492 _).mono ?_; rintro e W3 ⟨rfl, bA⟩; have HR := H_ (HR.out.below bA); have HB := H_ (HB.out.trans (bA.mono HB.out.size)); have HSv : (fun Y : World => Y.cell? ⟨w.heap.size, 0, none⟩ = some (.int .i64 c.mru) /\ Y.cell? ⟨w.heap.size, 1, none⟩ = some (.int .i64 c.auth) /\ Y.cell? ⟨w.heap.size, 2, none⟩ = some (.int .i64 c.magic) /\ Y.cell? ⟨w.heap.size, 3, none⟩ = some (.int .i64 c.echo) /\ Y.cell? ⟨w.heap.size, 4, none⟩ = some (.int .i64 c.cf) /\ Y.cell? ⟨w.heap.size, 5, none⟩ = some (.int .i64 c.tm) /\ Y.cell? ⟨w.heap.size, 6, none⟩ = some (.int .i64 c.fl) /\ Y.cell? ⟨w.heap.size, 7, none⟩ = some (.int .i64 c.wt)) W3 := HS.out _ HB.out; refine hK _ _ (fun _ => HSv) ?_
       try simp only [aZ, aA, aE, aB, aC, aD]
       clear bA; refine wpAnyH_2 3 5 rfl rfl (by kernel_rfl) ?_ ?_
       . intro K hK; rw [if_pos (by rfl)]
         try go_simp
         go_at_call 91; refine (magics_any _).mono ?_; rintro e W4 ⟨rfl, bA⟩; have HR := H_ (HR.out.below bA); have HB := H_ (HB.out.trans (bA.mono HB.out.size)); have HSv : (fun Y : World => Y.cell? ⟨w.heap.size, 0, none⟩ = some (.int .i64 c.mru) /\ Y.cell? ⟨w.heap.size, 1, none⟩ = some (.int .i64 c.auth) /\ Y.cell? ⟨w.heap.size, 2, none⟩ = some (.int .i64 c.magic) /\ Y.cell? ⟨w.heap.size, 3, none⟩ = some (.int .i64 c.echo) /\ Y.cell? ⟨w.heap.size, 4, none⟩ = some (.int .i64 c.cf) /\ Y.cell? ⟨w.heap.size, 5, none⟩ = some (.int .i64 c.tm) /\ Y.cell? ⟨w.heap.size, 6, none⟩ = some (.int .i64 c.fl) /\ Y.cell? ⟨w.heap.size, 7, none⟩ = some (.int .i64 c.wt)) W4 := HS.out _ HB.out; refine hK _ _ (fun _ => HSv) ?_
         try simp only [aZ, aA, aE, aB, aC, aD]
         clear bA; refine wpAnyH_2 4 5 rfl rfl (by kernel_rfl) ?_ ?_
         . intro K hK; rw [if_pos (by rfl)]
           try go_simp
           have bA : Below W4.heap.size W4 (W4.alloc (.cells #[.int .i64 1, .int .i64 2, .int .i64 64, .int .i64 1492, .string (be2 1492), .int .i64 5, .int .i64 4, .int .i64 1, .int .i64 4294967295, .string (be4 1)] 136 (0, 0))) := (Below.refl _ _).alloc (Nat.le_refl _) _; have hz := at1 W4 (.cells #[.int .i64 1, .int .i64 2, .int .i64 64, .int .i64 1492, .string (be2 1492), .int .i64 5, .int .i64 4, .int .i64 1, .int .i64 4294967295, .string (be4 1)] 136 (0, 0)); generalize hW5 : W4.alloc (.cells #[.int .i64 1, .int .i64 2, .int .i64 64, .int .i64 1492, .string (be2 1492), .int .i64 5, .int .i64 4, .int .i64 1, .int .i64 4294967295, .string (be4 1)] 136 (0, 0)) = W5 at bA hz ⊢; obtain ⟨rb, hrb⟩ : ∃ rb, rb = W4.heap.size := ⟨_, rfl⟩; rw [<- hrb] at hz ⊢; have HRu := H_ hz; have HR := H_ (HR.out.below bA); have HB := H_ (HB.out.trans (bA.mono HB.out.size)); have HSv : (fun Y : World => Y.cell? ⟨w.heap.size, 0, none⟩ = some (.int .i64 c.mru) /\ Y.cell? ⟨w.heap.size, 1, none⟩ = some (.int .i64 c.auth) /\ Y.cell? ⟨w.heap.size, 2, none⟩ = some (.int .i64 c.magic) /\ Y.cell? ⟨w.heap.size, 3, none⟩ = some (.int .i64 c.echo) /\ Y.cell? ⟨w.heap.size, 4, none⟩ = some (.int .i64 c.cf) /\ Y.cell? ⟨w.heap.size, 5, none⟩ = some (.int .i64 c.tm) /\ Y.cell? ⟨w.heap.size, 6, none⟩ = some (.int .i64 c.fl) /\ Y.cell? ⟨w.heap.size, 7, none⟩ = some (.int .i64 c.wt)) W5 := HS.out _ HB.out; refine hK _ _ (fun _ => HSv) ?_
           try simp only [aZ, aA, aE, aB, aC, aD]
           clear bA hz hW5 hrb; refine hone 5 rfl fun K hK => ?_
           try go_simp
           have bA : Below W5.heap.size W5 (W5.alloc (.cells #[.int .i64 3] 3 (0, 0))) := (Below.refl _ _).alloc (Nat.le_refl _) _; have hz := at1 W5 (.cells #[.int .i64 3] 3 (0, 0)); generalize hW6 : W5.alloc (.cells #[.int .i64 3] 3 (0, 0)) = W6 at bA hz ⊢; obtain ⟨ib, hib⟩ : ∃ ib, ib = W5.heap.size := ⟨_, rfl⟩; rw [<- hib] at hz ⊢; have HI := H_ hz; have HR := H_ (HR.out.below bA); have HRu := H_ ((bA.block _ (Array.getElem?_eq_some_iff.1 HRu.out).1).trans HRu.out); have HB := H_ (HB.out.trans (bA.mono HB.out.size)); have HSv : (fun Y : World => Y.cell? ⟨w.heap.size, 0, none⟩ = some (.int .i64 c.mru) /\ Y.cell? ⟨w.heap.size, 1, none⟩ = some (.int .i64 c.auth) /\ Y.cell? ⟨w.heap.size, 2, none⟩ = some (.int .i64 c.magic) /\ Y.cell? ⟨w.heap.size, 3, none⟩ = some (.int .i64 c.echo) /\ Y.cell? ⟨w.heap.size, 4, none⟩ = some (.int .i64 c.cf) /\ Y.cell? ⟨w.heap.size, 5, none⟩ = some (.int .i64 c.tm) /\ Y.cell? ⟨w.heap.size, 6, none⟩ = some (.int .i64 c.fl) /\ Y.cell? ⟨w.heap.size, 7, none⟩ = some (.int .i64 c.wt)) W6 := HS.out _ HB.out; refine hK _ _ (fun _ => HSv) ?_
           try simp only [aZ, aA, aE, aB, aC, aD]
           clear bA hz hW6 hib; refine hatH 14 rfl (by rintro W ⟨h0, h1, h2, h3, h4, h5, h6, h7⟩; go_simp; try rfl) HSv ?_; simp only [aZ, aC, aD]; refine hone 17 rfl fun K hK => ?_
           try go_simp
           go_at_call 88; refine (HNN.out lb W1 W6 sA cA rb ib HB.out HR.out HRu.out HI.out).mono ?_; rintro e wE ⟨B, rfl, nE, bE⟩; have zl := (bE.block lb (Array.getElem?_eq_some_iff.1 HZ.out.2.1).1).trans HZ.out.2.1; have f0 := fzOf zl 0; have c0 : wE.cell? ⟨lb, 0, none⟩ = some (.pointer none) := cellOf zl 0 _ rfl; have HN := H_ (A_ bE nE); have HSv : (fun Y : World => Y.cell? ⟨w.heap.size, 0, none⟩ = some (.int .i64 c.mru) /\ Y.cell? ⟨w.heap.size, 1, none⟩ = some (.int .i64 c.auth) /\ Y.cell? ⟨w.heap.size, 2, none⟩ = some (.int .i64 c.magic) /\ Y.cell? ⟨w.heap.size, 3, none⟩ = some (.int .i64 c.echo) /\ Y.cell? ⟨w.heap.size, 4, none⟩ = some (.int .i64 c.cf) /\ Y.cell? ⟨w.heap.size, 5, none⟩ = some (.int .i64 c.tm) /\ Y.cell? ⟨w.heap.size, 6, none⟩ = some (.int .i64 c.fl) /\ Y.cell? ⟨w.heap.size, 7, none⟩ = some (.int .i64 c.wt)) wE := HS.out _ bE; clear bE nE zl; refine hK _ _ (fun _ => HSv) ?_
           try simp only [aZ, aA, aE, aB, aC, aD]
           refine hatH 18 rfl (by rintro W ⟨h0, h1, h2, h3, h4, h5, h6, h7⟩; go_simp; try rfl) HSv ?_; simp only [aZ, aC, aD]; refine hatH 19 rfl (by rintro W ⟨h0, h1, h2, h3, h4, h5, h6, h7⟩; go_simp; try rfl) HSv ?_; simp only [aZ, aC, aD]; refine hatH 21 rfl (by rintro W ⟨h0, h1, h2, h3, h4, h5, h6, h7⟩; go_simp; try rfl) HSv ?_; simp only [aZ, aC, aD]; refine hatH 20 rfl (by rintro W ⟨h0, h1, h2, h3, h4, h5, h6, h7⟩; go_simp; try rfl) HSv ?_; simp only [aZ, aC, aD]; refine hatH 22 rfl (by rintro W ⟨h0, h1, h2, h3, h4, h5, h6, h7⟩; go_simp; try rfl) HSv ?_; simp only [aZ, aC, aD]; refine hend 23 ?_; simp only [aF, aG]; clear HSv; go_wp2_with fail; go_ret2; exact HG.out wE B HN.out.1 HN.out.2
         . intro K hK; rw [if_pos (by rfl)]
           try go_simp
           have bA : Below W4.heap.size W4 (W4.alloc (.cells #[.int .i64 3] 3 (0, 0))) := (Below.refl _ _).alloc (Nat.le_refl _) _; have hz := at1 W4 (.cells #[.int .i64 3] 3 (0, 0)); generalize hW5 : W4.alloc (.cells #[.int .i64 3] 3 (0, 0)) = W5 at bA hz ⊢; obtain ⟨ib, hib⟩ : ∃ ib, ib = W4.heap.size := ⟨_, rfl⟩; rw [<- hib] at hz ⊢; have HI := H_ hz; have HR := H_ (HR.out.below bA); have HB := H_ (HB.out.trans (bA.mono HB.out.size)); have HSv : (fun Y : World => Y.cell? ⟨w.heap.size, 0, none⟩ = some (.int .i64 c.mru) /\ Y.cell? ⟨w.heap.size, 1, none⟩ = some (.int .i64 c.auth) /\ Y.cell? ⟨w.heap.size, 2, none⟩ = some (.int .i64 c.magic) /\ Y.cell? ⟨w.heap.size, 3, none⟩ = some (.int .i64 c.echo) /\ Y.cell? ⟨w.heap.size, 4, none⟩ = some (.int .i64 c.cf) /\ Y.cell? ⟨w.heap.size, 5, none⟩ = some (.int .i64 c.tm) /\ Y.cell? ⟨w.heap.size, 6, none⟩ = some (.int .i64 c.fl) /\ Y.cell? ⟨w.heap.size, 7, none⟩ = some (.int .i64 c.wt)) W5 := HS.out _ HB.out; refine hK _ _ (fun _ => HSv) ?_
           try simp only [aZ, aA, aE, aB, aC, aD]
           clear bA hz hW5 hib; refine hone 4 rfl fun K hK => ?_
           try go_simp
           have bA : Below W5.heap.size W5 (W5.alloc (.cells #[.int .i64 1, .int .i64 2, .int .i64 64, .int .i64 1492, .string (be2 1492), .int .i64 5, .int .i64 4, .int .i64 1, .int .i64 4294967295, .string (be4 1)] 136 (0, 0))) := (Below.refl _ _).alloc (Nat.le_refl _) _; have hz := at1 W5 (.cells #[.int .i64 1, .int .i64 2, .int .i64 64, .int .i64 1492, .string (be2 1492), .int .i64 5, .int .i64 4, .int .i64 1, .int .i64 4294967295, .string (be4 1)] 136 (0, 0)); generalize hW6 : W5.alloc (.cells #[.int .i64 1, .int .i64 2, .int .i64 64, .int .i64 1492, .string (be2 1492), .int .i64 5, .int .i64 4, .int .i64 1, .int .i64 4294967295, .string (be4 1)] 136 (0, 0)) = W6 at bA hz ⊢; obtain ⟨rb, hrb⟩ : ∃ rb, rb = W5.heap.size := ⟨_, rfl⟩; rw [<- hrb] at hz ⊢; have HRu := H_ hz; have HR := H_ (HR.out.below bA); have HB := H_ (HB.out.trans (bA.mono HB.out.size)); have HSv : (fun Y : World => Y.cell? ⟨w.heap.size, 0, none⟩ = some (.int .i64 c.mru) /\ Y.cell? ⟨w.heap.size, 1, none⟩ = some (.int .i64 c.auth) /\ Y.cell? ⟨w.heap.size, 2, none⟩ = some (.int .i64 c.magic) /\ Y.cell? ⟨w.heap.size, 3, none⟩ = some (.int .i64 c.echo) /\ Y.cell? ⟨w.heap.size, 4, none⟩ = some (.int .i64 c.cf) /\ Y.cell? ⟨w.heap.size, 5, none⟩ = some (.int .i64 c.tm) /\ Y.cell? ⟨w.heap.size, 6, none⟩ = some (.int .i64 c.fl) /\ Y.cell? ⟨w.heap.size, 7, none⟩ = some (.int .i64 c.wt)) W6 := HS.out _ HB.out; have HI := H_ ((bA.block _ (Array.getElem?_eq_some_iff.1 HI.out).1).trans HI.out); refine hK _ _ (fun _ => HSv) ?_
           try simp only [aZ, aA, aE, aB, aC, aD]
           clear bA hz hW6 hrb; refine hatH 14 rfl (by rintro W ⟨h0, h1, h2, h3, h4, h5, h6, h7⟩; go_simp; try rfl) HSv ?_; simp only [aZ, aC, aD]; refine hone 17 rfl fun K hK => ?_
           try go_simp
           go_at_call 88; refine (HNN.out lb W1 W6 sA cA rb ib HB.out HR.out HRu.out HI.out).mono ?_; rintro e wE ⟨B, rfl, nE, bE⟩; have zl := (bE.block lb (Array.getElem?_eq_some_iff.1 HZ.out.2.1).1).trans HZ.out.2.1; have f0 := fzOf zl 0; have c0 : wE.cell? ⟨lb, 0, none⟩ = some (.pointer none) := cellOf zl 0 _ rfl; have HN := H_ (A_ bE nE); have HSv : (fun Y : World => Y.cell? ⟨w.heap.size, 0, none⟩ = some (.int .i64 c.mru) /\ Y.cell? ⟨w.heap.size, 1, none⟩ = some (.int .i64 c.auth) /\ Y.cell? ⟨w.heap.size, 2, none⟩ = some (.int .i64 c.magic) /\ Y.cell? ⟨w.heap.size, 3, none⟩ = some (.int .i64 c.echo) /\ Y.cell? ⟨w.heap.size, 4, none⟩ = some (.int .i64 c.cf) /\ Y.cell? ⟨w.heap.size, 5, none⟩ = some (.int .i64 c.tm) /\ Y.cell? ⟨w.heap.size, 6, none⟩ = some (.int .i64 c.fl) /\ Y.cell? ⟨w.heap.size, 7, none⟩ = some (.int .i64 c.wt)) wE := HS.out _ bE; clear bE nE zl; refine hK _ _ (fun _ => HSv) ?_
           try simp only [aZ, aA, aE, aB, aC, aD]
           refine hatH 18 rfl (by rintro W ⟨h0, h1, h2, h3, h4, h5, h6, h7⟩; go_simp; try rfl) HSv ?_; simp only [aZ, aC, aD]; refine hatH 19 rfl (by rintro W ⟨h0, h1, h2, h3, h4, h5, h6, h7⟩; go_simp; try rfl) HSv ?_; simp only [aZ, aC, aD]; refine hatH 21 rfl (by rintro W ⟨h0, h1, h2, h3, h4, h5, h6, h7⟩; go_simp; try rfl) HSv ?_; simp only [aZ, aC, aD]; refine hatH 20 rfl (by rintro W ⟨h0, h1, h2, h3, h4, h5, h6, h7⟩; go_simp; try rfl) HSv ?_; simp only [aZ, aC, aD]; refine hatH 22 rfl (by rintro W ⟨h0, h1, h2, h3, h4, h5, h6, h7⟩; go_simp; try rfl) HSv ?_; simp only [aZ, aC, aD]; refine hend 23 ?_; simp only [aF, aG]; clear HSv; go_wp2_with fail; go_ret2; exact HG.out wE B HN.out.1 HN.out.2
       . intro K hK; rw [if_pos (by rfl)]
         try go_simp
         have bA : Below W3.heap.size W3 (W3.alloc (.cells #[.int .i64 3] 3 (0, 0))) := (Below.refl _ _).alloc (Nat.le_refl _) _; have hz := at1 W3 (.cells #[.int .i64 3] 3 (0, 0)); generalize hW4 : W3.alloc (.cells #[.int .i64 3] 3 (0, 0)) = W4 at bA hz ⊢; obtain ⟨ib, hib⟩ : ∃ ib, ib = W3.heap.size := ⟨_, rfl⟩; rw [<- hib] at hz ⊢; have HI := H_ hz; have HR := H_ (HR.out.below bA); have HB := H_ (HB.out.trans (bA.mono HB.out.size)); have HSv : (fun Y : World => Y.cell? ⟨w.heap.size, 0, none⟩ = some (.int .i64 c.mru) /\ Y.cell? ⟨w.heap.size, 1, none⟩ = some (.int .i64 c.auth) /\ Y.cell? ⟨w.heap.size, 2, none⟩ = some (.int .i64 c.magic) /\ Y.cell? ⟨w.heap.size, 3, none⟩ = some (.int .i64 c.echo) /\ Y.cell? ⟨w.heap.size, 4, none⟩ = some (.int .i64 c.cf) /\ Y.cell? ⟨w.heap.size, 5, none⟩ = some (.int .i64 c.tm) /\ Y.cell? ⟨w.heap.size, 6, none⟩ = some (.int .i64 c.fl) /\ Y.cell? ⟨w.heap.size, 7, none⟩ = some (.int .i64 c.wt)) W4 := HS.out _ HB.out; refine hK _ _ (fun _ => HSv) ?_
         try simp only [aZ, aA, aE, aB, aC, aD]
         clear bA hz hW4 hib; refine hone 3 rfl fun K hK => ?_
         try go_simp
         go_at_call 91; refine (magics_any _).mono ?_; rintro e W5 ⟨rfl, bA⟩; have HR := H_ (HR.out.below bA); have HB := H_ (HB.out.trans (bA.mono HB.out.size)); have HSv : (fun Y : World => Y.cell? ⟨w.heap.size, 0, none⟩ = some (.int .i64 c.mru) /\ Y.cell? ⟨w.heap.size, 1, none⟩ = some (.int .i64 c.auth) /\ Y.cell? ⟨w.heap.size, 2, none⟩ = some (.int .i64 c.magic) /\ Y.cell? ⟨w.heap.size, 3, none⟩ = some (.int .i64 c.echo) /\ Y.cell? ⟨w.heap.size, 4, none⟩ = some (.int .i64 c.cf) /\ Y.cell? ⟨w.heap.size, 5, none⟩ = some (.int .i64 c.tm) /\ Y.cell? ⟨w.heap.size, 6, none⟩ = some (.int .i64 c.fl) /\ Y.cell? ⟨w.heap.size, 7, none⟩ = some (.int .i64 c.wt)) W5 := HS.out _ HB.out; have HI := H_ ((bA.block _ (Array.getElem?_eq_some_iff.1 HI.out).1).trans HI.out); refine hK _ _ (fun _ => HSv) ?_
         try simp only [aZ, aA, aE, aB, aC, aD]
         clear bA; refine hone 4 rfl fun K hK => ?_
         try go_simp
         have bA : Below W5.heap.size W5 (W5.alloc (.cells #[.int .i64 1, .int .i64 2, .int .i64 64, .int .i64 1492, .string (be2 1492), .int .i64 5, .int .i64 4, .int .i64 1, .int .i64 4294967295, .string (be4 1)] 136 (0, 0))) := (Below.refl _ _).alloc (Nat.le_refl _) _; have hz := at1 W5 (.cells #[.int .i64 1, .int .i64 2, .int .i64 64, .int .i64 1492, .string (be2 1492), .int .i64 5, .int .i64 4, .int .i64 1, .int .i64 4294967295, .string (be4 1)] 136 (0, 0)); generalize hW6 : W5.alloc (.cells #[.int .i64 1, .int .i64 2, .int .i64 64, .int .i64 1492, .string (be2 1492), .int .i64 5, .int .i64 4, .int .i64 1, .int .i64 4294967295, .string (be4 1)] 136 (0, 0)) = W6 at bA hz ⊢; obtain ⟨rb, hrb⟩ : ∃ rb, rb = W5.heap.size := ⟨_, rfl⟩; rw [<- hrb] at hz ⊢; have HRu := H_ hz; have HR := H_ (HR.out.below bA); have HB := H_ (HB.out.trans (bA.mono HB.out.size)); have HSv : (fun Y : World => Y.cell? ⟨w.heap.size, 0, none⟩ = some (.int .i64 c.mru) /\ Y.cell? ⟨w.heap.size, 1, none⟩ = some (.int .i64 c.auth) /\ Y.cell? ⟨w.heap.size, 2, none⟩ = some (.int .i64 c.magic) /\ Y.cell? ⟨w.heap.size, 3, none⟩ = some (.int .i64 c.echo) /\ Y.cell? ⟨w.heap.size, 4, none⟩ = some (.int .i64 c.cf) /\ Y.cell? ⟨w.heap.size, 5, none⟩ = some (.int .i64 c.tm) /\ Y.cell? ⟨w.heap.size, 6, none⟩ = some (.int .i64 c.fl) /\ Y.cell? ⟨w.heap.size, 7, none⟩ = some (.int .i64 c.wt)) W6 := HS.out _ HB.out; have HI := H_ ((bA.block _ (Array.getElem?_eq_some_iff.1 HI.out).1).trans HI.out); refine hK _ _ (fun _ => HSv) ?_
         try simp only [aZ, aA, aE, aB, aC, aD]
         clear bA hz hW6 hrb; refine hatH 14 rfl (by rintro W ⟨h0, h1, h2, h3, h4, h5, h6, h7⟩; go_simp; try rfl) HSv ?_; simp only [aZ, aC, aD]; refine hone 17 rfl fun K hK => ?_
         try go_simp
         go_at_call 88; refine (HNN.out lb W1 W6 sA cA rb ib HB.out HR.out HRu.out HI.out).mono ?_; rintro e wE ⟨B, rfl, nE, bE⟩; have zl := (bE.block lb (Array.getElem?_eq_some_iff.1 HZ.out.2.1).1).trans HZ.out.2.1; have f0 := fzOf zl 0; have c0 : wE.cell? ⟨lb, 0, none⟩ = some (.pointer none) := cellOf zl 0 _ rfl; have HN := H_ (A_ bE nE); have HSv : (fun Y : World => Y.cell? ⟨w.heap.size, 0, none⟩ = some (.int .i64 c.mru) /\ Y.cell? ⟨w.heap.size, 1, none⟩ = some (.int .i64 c.auth) /\ Y.cell? ⟨w.heap.size, 2, none⟩ = some (.int .i64 c.magic) /\ Y.cell? ⟨w.heap.size, 3, none⟩ = some (.int .i64 c.echo) /\ Y.cell? ⟨w.heap.size, 4, none⟩ = some (.int .i64 c.cf) /\ Y.cell? ⟨w.heap.size, 5, none⟩ = some (.int .i64 c.tm) /\ Y.cell? ⟨w.heap.size, 6, none⟩ = some (.int .i64 c.fl) /\ Y.cell? ⟨w.heap.size, 7, none⟩ = some (.int .i64 c.wt)) wE := HS.out _ bE; clear bE nE zl; refine hK _ _ (fun _ => HSv) ?_
         try simp only [aZ, aA, aE, aB, aC, aD]
         refine hatH 18 rfl (by rintro W ⟨h0, h1, h2, h3, h4, h5, h6, h7⟩; go_simp; try rfl) HSv ?_; simp only [aZ, aC, aD]; refine hatH 19 rfl (by rintro W ⟨h0, h1, h2, h3, h4, h5, h6, h7⟩; go_simp; try rfl) HSv ?_; simp only [aZ, aC, aD]; refine hatH 21 rfl (by rintro W ⟨h0, h1, h2, h3, h4, h5, h6, h7⟩; go_simp; try rfl) HSv ?_; simp only [aZ, aC, aD]; refine hatH 20 rfl (by rintro W ⟨h0, h1, h2, h3, h4, h5, h6, h7⟩; go_simp; try rfl) HSv ?_; simp only [aZ, aC, aD]; refine hatH 22 rfl (by rintro W ⟨h0, h1, h2, h3, h4, h5, h6, h7⟩; go_simp; try rfl) HSv ?_; simp only [aZ, aC, aD]; refine hend 23 ?_; simp only [aF, aG]; clear HSv; go_wp2_with fail; go_ret2; exact HG.out wE B HN.out.1 HN.out.2
     . intro K hK; rw [if_pos (by rfl)]
       try go_simp
       have bA : Below W2.heap.size W2 (W2.alloc (.cells #[.int .i64 3] 3 (0, 0))) := (Below.refl _ _).alloc (Nat.le_refl _) _; have hz := at1 W2 (.cells #[.int .i64 3] 3 (0, 0)); generalize hW3 : W2.alloc (.cells #[.int .i64 3] 3 (0, 0)) = W3 at bA hz ⊢; obtain ⟨ib, hib⟩ : ∃ ib, ib = W2.heap.size := ⟨_, rfl⟩; rw [<- hib] at hz ⊢; have HI := H_ hz; have HR := H_ (HR.out.below bA); have HB := H_ (HB.out.trans (bA.mono HB.out.size)); have HSv : (fun Y : World => Y.cell? ⟨w.heap.size, 0, none⟩ = some (.int .i64 c.mru) /\ Y.cell? ⟨w.heap.size, 1, none⟩ = some (.int .i64 c.auth) /\ Y.cell? ⟨w.heap.size, 2, none⟩ = some (.int .i64 c.magic) /\ Y.cell? ⟨w.heap.size, 3, none⟩ = some (.int .i64 c.echo) /\ Y.cell? ⟨w.heap.size, 4, none⟩ = some (.int .i64 c.cf) /\ Y.cell? ⟨w.heap.size, 5, none⟩ = some (.int .i64 c.tm) /\ Y.cell? ⟨w.heap.size, 6, none⟩ = some (.int .i64 c.fl) /\ Y.cell? ⟨w.heap.size, 7, none⟩ = some (.int .i64 c.wt)) W3 := HS.out _ HB.out; refine hK _ _ (fun _ => HSv) ?_
       try simp only [aZ, aA, aE, aB, aC, aD]
       clear bA hz hW3 hib; refine hone 2 rfl fun K hK => ?_
       try go_simp
       go_at_call 90; refine (units_any 1492 _).mono ?_; rintro e W4 ⟨rfl, bA⟩; have HR := H_ (HR.out.below bA); have HB := H_ (HB.out.trans (bA.mono HB.out.size)); have HSv : (fun Y : World => Y.cell? ⟨w.heap.size, 0, none⟩ = some (.int .i64 c.mru) /\ Y.cell? ⟨w.heap.size, 1, none⟩ = some (.int .i64 c.auth) /\ Y.cell? ⟨w.heap.size, 2, none⟩ = some (.int .i64 c.magic) /\ Y.cell? ⟨w.heap.size, 3, none⟩ = some (.int .i64 c.echo) /\ Y.cell? ⟨w.heap.size, 4, none⟩ = some (.int .i64 c.cf) /\ Y.cell? ⟨w.heap.size, 5, none⟩ = some (.int .i64 c.tm) /\ Y.cell? ⟨w.heap.size, 6, none⟩ = some (.int .i64 c.fl) /\ Y.cell? ⟨w.heap.size, 7, none⟩ = some (.int .i64 c.wt)) W4 := HS.out _ HB.out; have HI := H_ ((bA.block _ (Array.getElem?_eq_some_iff.1 HI.out).1).trans HI.out); refine hK _ _ (fun _ => HSv) ?_
       try simp only [aZ, aA, aE, aB, aC, aD]
       clear bA; refine hone 3 rfl fun K hK => ?_
       try go_simp
       go_at_call 91; refine (magics_any _).mono ?_; rintro e W5 ⟨rfl, bA⟩; have HR := H_ (HR.out.below bA); have HB := H_ (HB.out.trans (bA.mono HB.out.size)); have HSv : (fun Y : World => Y.cell? ⟨w.heap.size, 0, none⟩ = some (.int .i64 c.mru) /\ Y.cell? ⟨w.heap.size, 1, none⟩ = some (.int .i64 c.auth) /\ Y.cell? ⟨w.heap.size, 2, none⟩ = some (.int .i64 c.magic) /\ Y.cell? ⟨w.heap.size, 3, none⟩ = some (.int .i64 c.echo) /\ Y.cell? ⟨w.heap.size, 4, none⟩ = some (.int .i64 c.cf) /\ Y.cell? ⟨w.heap.size, 5, none⟩ = some (.int .i64 c.tm) /\ Y.cell? ⟨w.heap.size, 6, none⟩ = some (.int .i64 c.fl) /\ Y.cell? ⟨w.heap.size, 7, none⟩ = some (.int .i64 c.wt)) W5 := HS.out _ HB.out; have HI := H_ ((bA.block _ (Array.getElem?_eq_some_iff.1 HI.out).1).trans HI.out); refine hK _ _ (fun _ => HSv) ?_
       try simp only [aZ, aA, aE, aB, aC, aD]
       clear bA; refine hone 4 rfl fun K hK => ?_
       try go_simp
       have bA : Below W5.heap.size W5 (W5.alloc (.cells #[.int .i64 1, .int .i64 2, .int .i64 64, .int .i64 1492, .string (be2 1492), .int .i64 5, .int .i64 4, .int .i64 1, .int .i64 4294967295, .string (be4 1)] 136 (0, 0))) := (Below.refl _ _).alloc (Nat.le_refl _) _; have hz := at1 W5 (.cells #[.int .i64 1, .int .i64 2, .int .i64 64, .int .i64 1492, .string (be2 1492), .int .i64 5, .int .i64 4, .int .i64 1, .int .i64 4294967295, .string (be4 1)] 136 (0, 0)); generalize hW6 : W5.alloc (.cells #[.int .i64 1, .int .i64 2, .int .i64 64, .int .i64 1492, .string (be2 1492), .int .i64 5, .int .i64 4, .int .i64 1, .int .i64 4294967295, .string (be4 1)] 136 (0, 0)) = W6 at bA hz ⊢; obtain ⟨rb, hrb⟩ : ∃ rb, rb = W5.heap.size := ⟨_, rfl⟩; rw [<- hrb] at hz ⊢; have HRu := H_ hz; have HR := H_ (HR.out.below bA); have HB := H_ (HB.out.trans (bA.mono HB.out.size)); have HSv : (fun Y : World => Y.cell? ⟨w.heap.size, 0, none⟩ = some (.int .i64 c.mru) /\ Y.cell? ⟨w.heap.size, 1, none⟩ = some (.int .i64 c.auth) /\ Y.cell? ⟨w.heap.size, 2, none⟩ = some (.int .i64 c.magic) /\ Y.cell? ⟨w.heap.size, 3, none⟩ = some (.int .i64 c.echo) /\ Y.cell? ⟨w.heap.size, 4, none⟩ = some (.int .i64 c.cf) /\ Y.cell? ⟨w.heap.size, 5, none⟩ = some (.int .i64 c.tm) /\ Y.cell? ⟨w.heap.size, 6, none⟩ = some (.int .i64 c.fl) /\ Y.cell? ⟨w.heap.size, 7, none⟩ = some (.int .i64 c.wt)) W6 := HS.out _ HB.out; have HI := H_ ((bA.block _ (Array.getElem?_eq_some_iff.1 HI.out).1).trans HI.out); refine hK _ _ (fun _ => HSv) ?_
       try simp only [aZ, aA, aE, aB, aC, aD]
       clear bA hz hW6 hrb; refine hatH 14 rfl (by rintro W ⟨h0, h1, h2, h3, h4, h5, h6, h7⟩; go_simp; try rfl) HSv ?_; simp only [aZ, aC, aD]; refine hone 17 rfl fun K hK => ?_
       try go_simp
       go_at_call 88; refine (HNN.out lb W1 W6 sA cA rb ib HB.out HR.out HRu.out HI.out).mono ?_; rintro e wE ⟨B, rfl, nE, bE⟩; have zl := (bE.block lb (Array.getElem?_eq_some_iff.1 HZ.out.2.1).1).trans HZ.out.2.1; have f0 := fzOf zl 0; have c0 : wE.cell? ⟨lb, 0, none⟩ = some (.pointer none) := cellOf zl 0 _ rfl; have HN := H_ (A_ bE nE); have HSv : (fun Y : World => Y.cell? ⟨w.heap.size, 0, none⟩ = some (.int .i64 c.mru) /\ Y.cell? ⟨w.heap.size, 1, none⟩ = some (.int .i64 c.auth) /\ Y.cell? ⟨w.heap.size, 2, none⟩ = some (.int .i64 c.magic) /\ Y.cell? ⟨w.heap.size, 3, none⟩ = some (.int .i64 c.echo) /\ Y.cell? ⟨w.heap.size, 4, none⟩ = some (.int .i64 c.cf) /\ Y.cell? ⟨w.heap.size, 5, none⟩ = some (.int .i64 c.tm) /\ Y.cell? ⟨w.heap.size, 6, none⟩ = some (.int .i64 c.fl) /\ Y.cell? ⟨w.heap.size, 7, none⟩ = some (.int .i64 c.wt)) wE := HS.out _ bE; clear bE nE zl; refine hK _ _ (fun _ => HSv) ?_
       try simp only [aZ, aA, aE, aB, aC, aD]
       refine hatH 18 rfl (by rintro W ⟨h0, h1, h2, h3, h4, h5, h6, h7⟩; go_simp; try rfl) HSv ?_; simp only [aZ, aC, aD]; refine hatH 19 rfl (by rintro W ⟨h0, h1, h2, h3, h4, h5, h6, h7⟩; go_simp; try rfl) HSv ?_; simp only [aZ, aC, aD]; refine hatH 21 rfl (by rintro W ⟨h0, h1, h2, h3, h4, h5, h6, h7⟩; go_simp; try rfl) HSv ?_; simp only [aZ, aC, aD]; refine hatH 20 rfl (by rintro W ⟨h0, h1, h2, h3, h4, h5, h6, h7⟩; go_simp; try rfl) HSv ?_; simp only [aZ, aC, aD]; refine hatH 22 rfl (by rintro W ⟨h0, h1, h2, h3, h4, h5, h6, h7⟩; go_simp; try rfl) HSv ?_; simp only [aZ, aC, aD]; refine hend 23 ?_; simp only [aF, aG]; clear HSv; go_wp2_with fail; go_ret2; exact HG.out wE B HN.out.1 HN.out.2
   . intro K hK; rw [if_pos (by rfl)]
     try go_simp
     have bA : Below W.heap.size W (W.alloc (.cells #[.int .i64 3] 3 (0, 0))) := (Below.refl _ _).alloc (Nat.le_refl _) _; have hz := at1 W (.cells #[.int .i64 3] 3 (0, 0)); generalize hW2 : W.alloc (.cells #[.int .i64 3] 3 (0, 0)) = W2 at bA hz ⊢; obtain ⟨ib, hib⟩ : ∃ ib, ib = W.heap.size := ⟨_, rfl⟩; rw [<- hib] at hz ⊢; have HI := H_ hz; have HB := H_ (HB.out.trans (bA.mono HB.out.size)); have HSv : (fun Y : World => Y.cell? ⟨w.heap.size, 0, none⟩ = some (.int .i64 c.mru) /\ Y.cell? ⟨w.heap.size, 1, none⟩ = some (.int .i64 c.auth) /\ Y.cell? ⟨w.heap.size, 2, none⟩ = some (.int .i64 c.magic) /\ Y.cell? ⟨w.heap.size, 3, none⟩ = some (.int .i64 c.echo) /\ Y.cell? ⟨w.heap.size, 4, none⟩ = some (.int .i64 c.cf) /\ Y.cell? ⟨w.heap.size, 5, none⟩ = some (.int .i64 c.tm) /\ Y.cell? ⟨w.heap.size, 6, none⟩ = some (.int .i64 c.fl) /\ Y.cell? ⟨w.heap.size, 7, none⟩ = some (.int .i64 c.wt)) W2 := HS.out _ HB.out; refine hK _ _ (fun _ => HSv) ?_
     try simp only [aZ, aA, aE, aB, aC, aD]
     clear bA hz hW2 hib; refine hone 1 rfl fun K hK => ?_
     try go_simp
     go_at_call 89; refine (HLO.out _).mono ?_; rintro e W3 ⟨vA, rfl, rA, bA⟩; obtain ⟨sA, cA, rfl⟩ := rA.form; have HR := H_ (rA.base HB.out.size); have HB := H_ (HB.out.trans (bA.mono HB.out.size)); have HSv : (fun Y : World => Y.cell? ⟨w.heap.size, 0, none⟩ = some (.int .i64 c.mru) /\ Y.cell? ⟨w.heap.size, 1, none⟩ = some (.int .i64 c.auth) /\ Y.cell? ⟨w.heap.size, 2, none⟩ = some (.int .i64 c.magic) /\ Y.cell? ⟨w.heap.size, 3, none⟩ = some (.int .i64 c.echo) /\ Y.cell? ⟨w.heap.size, 4, none⟩ = some (.int .i64 c.cf) /\ Y.cell? ⟨w.heap.size, 5, none⟩ = some (.int .i64 c.tm) /\ Y.cell? ⟨w.heap.size, 6, none⟩ = some (.int .i64 c.fl) /\ Y.cell? ⟨w.heap.size, 7, none⟩ = some (.int .i64 c.wt)) W3 := HS.out _ HB.out; have HI := H_ ((bA.block _ (Array.getElem?_eq_some_iff.1 HI.out).1).trans HI.out); refine hK _ _ (fun _ => HSv) ?_
     try simp only [aZ, aA, aE, aB, aC, aD]
     clear rA bA; refine hone 2 rfl fun K hK => ?_
     try go_simp
     go_at_call 90; refine (units_any 1492 _).mono ?_; rintro e W4 ⟨rfl, bA⟩; have HR := H_ (HR.out.below bA); have HB := H_ (HB.out.trans (bA.mono HB.out.size)); have HSv : (fun Y : World => Y.cell? ⟨w.heap.size, 0, none⟩ = some (.int .i64 c.mru) /\ Y.cell? ⟨w.heap.size, 1, none⟩ = some (.int .i64 c.auth) /\ Y.cell? ⟨w.heap.size, 2, none⟩ = some (.int .i64 c.magic) /\ Y.cell? ⟨w.heap.size, 3, none⟩ = some (.int .i64 c.echo) /\ Y.cell? ⟨w.heap.size, 4, none⟩ = some (.int .i64 c.cf) /\ Y.cell? ⟨w.heap.size, 5, none⟩ = some (.int .i64 c.tm) /\ Y.cell? ⟨w.heap.size, 6, none⟩ = some (.int .i64 c.fl) /\ Y.cell? ⟨w.heap.size, 7, none⟩ = some (.int .i64 c.wt)) W4 := HS.out _ HB.out; have HI := H_ ((bA.block _ (Array.getElem?_eq_some_iff.1 HI.out).1).trans HI.out); refine hK _ _ (fun _ => HSv) ?_
     try simp only [aZ, aA, aE, aB, aC, aD]
     clear bA; refine hone 3 rfl fun K hK => ?_
     try go_simp
     go_at_call 91; refine (magics_any _).mono ?_; rintro e W5 ⟨rfl, bA⟩; have HR := H_ (HR.out.below bA); have HB := H_ (HB.out.trans (bA.mono HB.out.size)); have HSv : (fun Y : World => Y.cell? ⟨w.heap.size, 0, none⟩ = some (.int .i64 c.mru) /\ Y.cell? ⟨w.heap.size, 1, none⟩ = some (.int .i64 c.auth) /\ Y.cell? ⟨w.heap.size, 2, none⟩ = some (.int .i64 c.magic) /\ Y.cell? ⟨w.heap.size, 3, none⟩ = some (.int .i64 c.echo) /\ Y.cell? ⟨w.heap.size, 4, none⟩ = some (.int .i64 c.cf) /\ Y.cell? ⟨w.heap.size, 5, none⟩ = some (.int .i64 c.tm) /\ Y.cell? ⟨w.heap.size, 6, none⟩ = some (.int .i64 c.fl) /\ Y.cell? ⟨w.heap.size, 7, none⟩ = some (.int .i64 c.wt)) W5 := HS.out _ HB.out; have HI := H_ ((bA.block _ (Array.getElem?_eq_some_iff.1 HI.out).1).trans HI.out); refine hK _ _ (fun _ => HSv) ?_
     try simp only [aZ, aA, aE, aB, aC, aD]
     clear bA; refine hone 4 rfl fun K hK => ?_
     try go_simp
     have bA : Below W5.heap.size W5 (W5.alloc (.cells #[.int .i64 1, .int .i64 2, .int .i64 64, .int .i64 1492, .string (be2 1492), .int .i64 5, .int .i64 4, .int .i64 1, .int .i64 4294967295, .string (be4 1)] 136 (0, 0))) := (Below.refl _ _).alloc (Nat.le_refl _) _; have hz := at1 W5 (.cells #[.int .i64 1, .int .i64 2, .int .i64 64, .int .i64 1492, .string (be2 1492), .int .i64 5, .int .i64 4, .int .i64 1, .int .i64 4294967295, .string (be4 1)] 136 (0, 0)); generalize hW6 : W5.alloc (.cells #[.int .i64 1, .int .i64 2, .int .i64 64, .int .i64 1492, .string (be2 1492), .int .i64 5, .int .i64 4, .int .i64 1, .int .i64 4294967295, .string (be4 1)] 136 (0, 0)) = W6 at bA hz ⊢; obtain ⟨rb, hrb⟩ : ∃ rb, rb = W5.heap.size := ⟨_, rfl⟩; rw [<- hrb] at hz ⊢; have HRu := H_ hz; have HR := H_ (HR.out.below bA); have HB := H_ (HB.out.trans (bA.mono HB.out.size)); have HSv : (fun Y : World => Y.cell? ⟨w.heap.size, 0, none⟩ = some (.int .i64 c.mru) /\ Y.cell? ⟨w.heap.size, 1, none⟩ = some (.int .i64 c.auth) /\ Y.cell? ⟨w.heap.size, 2, none⟩ = some (.int .i64 c.magic) /\ Y.cell? ⟨w.heap.size, 3, none⟩ = some (.int .i64 c.echo) /\ Y.cell? ⟨w.heap.size, 4, none⟩ = some (.int .i64 c.cf) /\ Y.cell? ⟨w.heap.size, 5, none⟩ = some (.int .i64 c.tm) /\ Y.cell? ⟨w.heap.size, 6, none⟩ = some (.int .i64 c.fl) /\ Y.cell? ⟨w.heap.size, 7, none⟩ = some (.int .i64 c.wt)) W6 := HS.out _ HB.out; have HI := H_ ((bA.block _ (Array.getElem?_eq_some_iff.1 HI.out).1).trans HI.out); refine hK _ _ (fun _ => HSv) ?_
     try simp only [aZ, aA, aE, aB, aC, aD]
     clear bA hz hW6 hrb; refine hatH 14 rfl (by rintro W ⟨h0, h1, h2, h3, h4, h5, h6, h7⟩; go_simp; try rfl) HSv ?_; simp only [aZ, aC, aD]; refine hone 17 rfl fun K hK => ?_
     try go_simp
     go_at_call 88; refine (HNN.out lb W1 W6 sA cA rb ib HB.out HR.out HRu.out HI.out).mono ?_; rintro e wE ⟨B, rfl, nE, bE⟩; have zl := (bE.block lb (Array.getElem?_eq_some_iff.1 HZ.out.2.1).1).trans HZ.out.2.1; have f0 := fzOf zl 0; have c0 : wE.cell? ⟨lb, 0, none⟩ = some (.pointer none) := cellOf zl 0 _ rfl; have HN := H_ (A_ bE nE); have HSv : (fun Y : World => Y.cell? ⟨w.heap.size, 0, none⟩ = some (.int .i64 c.mru) /\ Y.cell? ⟨w.heap.size, 1, none⟩ = some (.int .i64 c.auth) /\ Y.cell? ⟨w.heap.size, 2, none⟩ = some (.int .i64 c.magic) /\ Y.cell? ⟨w.heap.size, 3, none⟩ = some (.int .i64 c.echo) /\ Y.cell? ⟨w.heap.size, 4, none⟩ = some (.int .i64 c.cf) /\ Y.cell? ⟨w.heap.size, 5, none⟩ = some (.int .i64 c.tm) /\ Y.cell? ⟨w.heap.size, 6, none⟩ = some (.int .i64 c.fl) /\ Y.cell? ⟨w.heap.size, 7, none⟩ = some (.int .i64 c.wt)) wE := HS.out _ bE; clear bE nE zl; refine hK _ _ (fun _ => HSv) ?_
     try simp only [aZ, aA, aE, aB, aC, aD]
     refine hatH 18 rfl (by rintro W ⟨h0, h1, h2, h3, h4, h5, h6, h7⟩; go_simp; try rfl) HSv ?_; simp only [aZ, aC, aD]; refine hatH 19 rfl (by rintro W ⟨h0, h1, h2, h3, h4, h5, h6, h7⟩; go_simp; try rfl) HSv ?_; simp only [aZ, aC, aD]; refine hatH 21 rfl (by rintro W ⟨h0, h1, h2, h3, h4, h5, h6, h7⟩; go_simp; try rfl) HSv ?_; simp only [aZ, aC, aD]; refine hatH 20 rfl (by rintro W ⟨h0, h1, h2, h3, h4, h5, h6, h7⟩; go_simp; try rfl) HSv ?_; simp only [aZ, aC, aD]; refine hatH 22 rfl (by rintro W ⟨h0, h1, h2, h3, h4, h5, h6, h7⟩; go_simp; try rfl) HSv ?_; simp only [aZ, aC, aD]; refine hend 23 ?_; simp only [aF, aG]; clear HSv; go_wp2_with fail; go_ret2; exact HG.out wE B HN.out.1 HN.out.2
section
variable (rej : Pk -> ByteArray) (C : NegC)
end
structure LK (w0 w : World) (L : LB) (C : NegC) (echo : Int) (s : LSt) : Prop where
 v : LcpV w (fun b => w0.heap.size <= b) L C echo s
 b : Below w0.heap.size w0 w
section
variable {w0 w w' : World} {okp okt : Nat -> Prop} {L : LB} {C : NegC} {echo : Int} {s : LSt}
end
def cfg12 : LCfg := ⟨1492, 49699, 7, 0, 5, 2, 5, 3⟩
def magic7 : ByteArray := ⟨#[0, 0, 0, 7]⟩
def opts12 : List Opt := [⟨3, chapB⟩, ⟨5, magic7⟩]
def req7 : Pk := ⟨1, 1, [⟨5, magic7⟩], noB⟩
def sL1 (lb : Nat) : LSt := (doL (lC cfg12 lb) (doL (lC cfg12 lb) (lst0 cfg12 ⟨[1, 2, 3, 4], 0⟩) 2).1 0).1
section
variable {w : World} {S ok okp U : Nat -> Prop} {L : LB} {C : NegC} {echo : Int} {s : LSt} {X : NegX}
theorem NTakeG_at (p : Pk) (po : Value) (hp : PkOk p) (h : LcpAt w S ok L C echo s X) (hy : s.Sync) (ho : Opts w okp po p.o) (hok : ∀ b, okp b -> ¬ L.t b) :
 Calls Tryz.prog 69 #[.pointer (some ⟨L.B.nb, 0, none⟩), pkV p po] w fun e w' => ∃ v, e = .returned v /\ PksAt w' (Grow okp w) w.heap.size v (ltakeN C s p).2 /\ (∃ X', LcpAt w' (Grow S w) ok L C echo (ltakeN C s p).1 X') /\ Keep (fun b => L.B.t b \/ b = L.tb) w w' := by
 by_cases hc : p.code <= 7
 . exact NTake_at p po hp hc h hy ho hok
 have hokB : ∀ b, okp b -> ¬ L.B.t b := fun b hb ht => hok b hb (.inl ht)
 have fin : ∀ (w' : World) (r : NSt × List Pk) (e : Ending), EvPost w w' S okp L.B C r e -> ∃ v, e = .returned v /\ PksAt w' (Grow okp w) w.heap.size v r.2 /\ (∃ X', LcpAt w' (Grow S w) ok L C echo { s with st := r.1 } X') /\ Keep (fun b => L.B.t b \/ b = L.tb) w w' := by
  rintro w' r e ⟨v, he, h1, ⟨X', h2⟩, h3⟩; exact ⟨v, he, h1, ⟨X', h.negTurn h2 h3⟩, h3.mono (fun b _ hb => .inl hb)⟩
 have h1 : p.code ≠ 1 := by omega
 have hE : ltakeN C s p = ({ s with st := (takeS C s.st p).1 }, (takeS C s.st p).2) := by unfold ltakeN; exact if_neg h1
 rw [hE, takeS_not1 C s.st p h1, if_neg (by omega), if_neg (by omega), if_neg (by omega), if_neg (by omega), if_neg (by omega)]; exact (takeU rejS p po (by omega) h.neg ho hokB hp.len (fun pa => sayAll_every _ _ _ _ _ _ _ hp.vs hp.ds)).mono (fun e w' he => fin _ _ _ he)
end
section
variable {w : World} {S ok okp U : Nat -> Prop} {L : LB} {C : NegC} {echo : Int} {s : LSt} {X : NegX}
set_option maxRecDepth 100000 in
theorem LTakeG_at (p : Pk) (po : Value) (hp : PkOk p) (hc : p.code ≠ 8 /\ p.code ≠ 9 /\ p.code ≠ 10 /\ p.code ≠ 11) (h : LcpAt w S ok L C echo s X) (hu : ∀ b, S b \/ ok b \/ b = L.lb \/ b = L.tb -> U b) (hy : s.Sync) (ho : Opts w okp po p.o) (hok : ∀ b, okp b -> ¬ L.t b)
 (h7 : ∀ o, findO (ltakeN C s p).1.st.req 5 = some o -> o.v.size <= 7) :
 Calls Tryz.prog 65 #[.pointer (some ⟨L.lb, 0, none⟩), pkV p po] w fun e w' => LEv w w' U okp L C echo (ltakeS C s p) e := by
 obtain ⟨pc, pi, pl, pd⟩ := p; obtain ⟨sa, c, rfl, -, -⟩ := ho.form
 dsimp only at hc ho
 have HP := H_ (A_ hp hc); have HO := H_ (A_ ho hok); have HU2 := H_ hu; have hnl : ¬ L.t w.heap.size := fun ht => Nat.lt_irrefl _ (h.lt ht); have HNB := H_ hnl; unfold pkV
 dsimp only
 obtain ⟨len, hln⟩ : ∃ len, len = pl.length := ⟨_, rfl⟩; have HLN := H_ hln; have hlo := looped_at ⟨pc, pi, pl, pd⟩ (.slice sa pl.length c) hp.len (h.below ((Below.refl w.heap.size w).alloc (Nat.le_refl _) (.cells #[.int .i64 pc, .int .i64 pi, .slice sa pl.length c, .string pd] 59 (0, 0)))) hy (ho.below ((Below.refl w.heap.size w).alloc (Nat.le_refl _) _)); unfold pkV at hlo
 dsimp only at hlo
 have HE : Hid (ltakeS C s ⟨pc, pi, pl, pd⟩ = if loopedS s.own ⟨pc, pi, pl, pd⟩ = true then
  if 4 <= wrap64 (s.loops + 1) then doL C { s with loops := wrap64 (s.loops + 1) } 3
  else (syncS (anewS s.st.ups (ltakeN C { s with loops := wrap64 (s.loops + 1) } ⟨pc, pi, pl, pd⟩).1), (ltakeN C { s with loops := wrap64 (s.loops + 1) } ⟨pc, pi, pl, pd⟩).2)
 else (syncS (anewS s.st.ups (ltakeN C s ⟨pc, pi, pl, pd⟩).1), (ltakeN C s ⟨pc, pi, pl, pd⟩).2)) := H_ rfl
 generalize ltakeS C s ⟨pc, pi, pl, pd⟩ = R at *; rw [<- hln] at hlo ⊢; have hb1 := (Below.refl w.heap.size w).alloc (Nat.le_refl _) (.cells #[.int .i64 pc, .int .i64 pi, .slice sa len c, .string pd] 59 (0, 0)); have HB := H_ hb1; have HW := H_ (A_ (h.below hb1) (A_ hy (at1 w (.cells #[.int .i64 pc, .int .i64 pi, .slice sa len c, .string pd] 59 (0, 0))))); have HLO := H_ hlo; have HN0 := H_ (lnone_at (h.below hb1)); have e9 : (pc == 9) = false := by simp; omega
 have e10 : (pc == 10) = false := by simp; omega
 have e11 : (pc == 11) = false := by simp; omega
 have e8 : (pc == 8) = false := by simp; omega
 clear h hu hy ho hok hp hc hlo hb1 hln hnl; generalize loopedS s.own ⟨pc, pi, pl, pd⟩ = lo at *; have HSZ := H_ (alloc1 w (.cells #[.int .i64 pc, .int .i64 pi, .slice sa len c, .string pd] 59 (0, 0)))
 cases lo with
 | false =>
  have HR : Hid (R = (syncS (anewS s.st.ups (ltakeN C s ⟨pc, pi, pl, pd⟩).1), (ltakeN C s ⟨pc, pi, pl, pd⟩).2)) := H_ (by rw [HE.out]; exact if_neg (by decide)); have H7 : Hid (∀ o, findO (anewS s.st.ups (ltakeN C s ⟨pc, pi, pl, pd⟩).1).st.req 5 = some o -> o.v.size <= 7) := H_ (by rw [anewS_st]; exact h7); have HY1 := H_ HW.out.2.1; clear HE h7; go_enter Tryz.func65, Tryz.ntmps65
  go_wp2_with (first
   | (go_at_call 52; refine HN0.out.mono ?_; rintro e w0 ⟨rfl, rfl⟩)
   | (
    go_at_call 110; refine HLO.out.mono ?_; rintro e w1 ⟨rfl, hb⟩; have HA := H_ (A_ (HW.out.1.below hb) (A_ (Keep.of_below L.t hb) ((hb.block w.heap.size (by rw [HSZ.out]; omega)).trans HW.out.2.2))); have g0 : w1.cell? ⟨L.lb, 0, none⟩ = some (.pointer (some ⟨L.B.nb, 0, none⟩)) := HA.out.1.cell 0
    clear hb))
  have HU := H_ (Ups_at HA.out.1.neg); go_wp2_with fail; refine HU.out.mono ?_; rintro e w2 ⟨rfl, hb2⟩; have h2 := HA.out.1.below hb2; have k2 := HA.out.2.1.trans (Keep.of_below L.t hb2); have z2 := (hb2.block w.heap.size (lt_of_heap' HA.out.2.2)).trans HA.out.2.2; have c0 : w2.cell? ⟨L.lb, 0, none⟩ = some (.pointer (some ⟨L.B.nb, 0, none⟩)) := h2.cell 0; have b0 := cellOf z2 0 _ rfl; have b1 := cellOf z2 1 _ rfl; have b2 := cellOf z2 2 _ rfl; have b3 := cellOf z2 3 _ rfl; have k2w : Keep L.t w w2 := (Keep.of_below L.t HB.out).trans k2; have ho2 : Opts w2 okp (.slice sa pl.length c) pl := Rec.keep HO.out.1 k2w (fun b _ hb ht => HO.out.2 b hb ht); have HT := H_ (NTakeG_at ⟨pc, pi, pl, pd⟩ _ HP.out.1 (h2.below (Below.refl _ _).drew) HY1.out (Opts.below ho2 (Below.refl _ _).drew) HO.out.2); have HB2 := H_ (A_ h2 (A_ k2w (A_ z2 k2))); have HS2 := H_ (show (fun Y : World => Y.cell? ⟨L.lb, 0, none⟩ = some (.pointer (some ⟨L.B.nb, 0, none⟩)) /\ Y.cell? ⟨w.heap.size, 0, none⟩ = some (.int .i64 pc) /\ Y.cell? ⟨w.heap.size, 1, none⟩ = some (.int .i64 pi) /\ Y.cell? ⟨w.heap.size, 2, none⟩ = some (.slice sa len c) /\ Y.cell? ⟨w.heap.size, 3, none⟩ = some (.string pd)) w2 from ⟨c0, b0, b1, b2, b3⟩); unfold pkV at HT; rw [show (⟨pc, pi, pl, pd⟩ : Pk).o.length = len from HLN.out.symm] at HT
  dsimp only at HT
  clear hb2 h2 k2 z2 k2w ho2; go_wp2_with fail
  go_region_held3 (fun Y : World => Y.cell? ⟨L.lb, 0, none⟩ = some (.pointer (some ⟨L.B.nb, 0, none⟩)) /\ Y.cell? ⟨w.heap.size, 0, none⟩ = some (.int .i64 pc) /\ Y.cell? ⟨w.heap.size, 1, none⟩ = some (.int .i64 pi) /\ Y.cell? ⟨w.heap.size, 2, none⟩ = some (.slice sa len c) /\ Y.cell? ⟨w.heap.size, 3, none⟩ = some (.string pd))
   (first
    | exact HS4.out
    | exact HS3.out
    | exact HS2.out
    | go_keep)
   (first
    | (
     go_at_call 69; refine HT.out.mono ?_; rintro e w3 ⟨v3, rfl, p3, ⟨X3, h3⟩, k3⟩; obtain ⟨pa, pz, rfl⟩ := p3.form; have z3 := (k3.block w.heap.size (lt_of_heap' HB2.out.2.2.1) (fun ht => HNB.out (ht.elim (fun h => .inl h) (fun h => .inr (.inr h))))).trans HB2.out.2.2.1; have HS3 := H_ (show (fun Y : World => Y.cell? ⟨L.lb, 0, none⟩ = some (.pointer (some ⟨L.B.nb, 0, none⟩)) /\ Y.cell? ⟨w.heap.size, 0, none⟩ = some (.int .i64 pc) /\ Y.cell? ⟨w.heap.size, 1, none⟩ = some (.int .i64 pi) /\ Y.cell? ⟨w.heap.size, 2, none⟩ = some (.slice sa len c) /\ Y.cell? ⟨w.heap.size, 3, none⟩ = some (.string pd)) w3 from ⟨h3.cell 0, cellOf z3 0 _ rfl, cellOf z3 1 _ rfl, cellOf z3 2 _ rfl, cellOf z3 3 _ rfl⟩); have H3 := H_ (A_ h3 (A_ p3 (A_ k3 z3)))
     clear h3 p3 k3 z3)
    | (
     go_at_call 61; refine (anew_at H3.out.1 s.st.ups pa _ pz).mono ?_; rintro e w4 ⟨rfl, h4, k4⟩; have z4 := (k4.block w.heap.size (lt_of_heap' H3.out.2.2.2) (fun he => HNB.out (.inr (.inl he)))).trans H3.out.2.2.2; have HS4 := H_ (show (fun Y : World => Y.cell? ⟨L.lb, 0, none⟩ = some (.pointer (some ⟨L.B.nb, 0, none⟩)) /\ Y.cell? ⟨w.heap.size, 0, none⟩ = some (.int .i64 pc) /\ Y.cell? ⟨w.heap.size, 1, none⟩ = some (.int .i64 pi) /\ Y.cell? ⟨w.heap.size, 2, none⟩ = some (.slice sa len c) /\ Y.cell? ⟨w.heap.size, 3, none⟩ = some (.string pd)) w4 from ⟨h4.cell 0, cellOf z4 0 _ rfl, cellOf z4 1 _ rfl, cellOf z4 2 _ rfl, cellOf z4 3 _ rfl⟩); have H4 := H_ (A_ h4 k4)
     clear h4 k4 z4))
  go_wp2_with (go_at_call 111; refine (magicT_at H4.out.1 H7.out).mono ?_; rintro e w5 ⟨⟨x5, rfl⟩, h5, k5⟩; have H5 := H_ (A_ h5 k5); clear h5 k5)
  go_ret; rw [HR.out]; have hkl : Keep (fun b => b = L.lb) w3 w5 := H4.out.2.trans H5.out.2; have hll := HB2.out.1.llt; have hs2 : w.heap.size <= w2.heap.size := HB2.out.2.1.size; refine ⟨_, rfl, ?_, H5.out.1.fin HU2.out hs2, ?_⟩
  . obtain ⟨K, q1, q2, q3⟩ := H3.out.2.1
    exact ⟨K, q1, (q2.keep hkl (fun k hk he => by have := (q2.lt k hk).2; have h : w2.heap.size <= k := this; omega)).base hs2, (q3.keep hkl (fun b _ hb he => by
     rcases hb with hb | hb
     . exact HO.out.2 b hb (.inr (.inl he))
     . have hb : w2.heap.size <= b := hb; omega)).mono (fun b hb => hb.imp id (fun hb => Nat.le_trans hs2 hb))⟩
  . exact (HB2.out.2.1.trans ((Keep.of_below L.t (Below.refl _ _).drew).trans (H3.out.2.2.1.mono (fun b _ hb => hb.elim (fun h => .inl h) (fun h => .inr (.inr h)))))).trans (hkl.mono (fun b _ hb => .inr (.inl hb)))
 | true =>
  by_cases h4 : 4 <= wrap64 (s.loops + 1)
  . have HR : Hid (R = doL C { s with loops := wrap64 (s.loops + 1) } 3) := H_ (by rw [HE.out, if_pos rfl, if_pos h4]); have d4 : decide ((4 : Int) <= wrap64 (s.loops + 1)) = true := by simpa using h4
    clear HE h7 h4; go_enter Tryz.func65, Tryz.ntmps65
    go_wp2_with (first
     | (go_at_call 52; refine HN0.out.mono ?_; rintro e w0 ⟨rfl, rfl⟩)
     | (
      go_at_call 110; refine HLO.out.mono ?_; rintro e w1 ⟨rfl, hb⟩; have HA := H_ (A_ (HW.out.1.below hb) hb); have g4 : w1.cell? ⟨L.lb, 4, none⟩ = some (.int .i64 s.loops) := HA.out.1.cell 4; have f4 := HA.out.1.fz 4; have HD := H_ (LDo_at (U := U) (HA.out.1.cellTurn (s' := { s with loops := wrap64 (s.loops + 1) }) 4 (.int .i64 (wrap64 (s.loops + 1))) rfl ⟨rfl, rfl⟩) HU2.out 3 (by decide))
      clear hb)
     | (go_at_call 30; refine HD.out.mono ?_; rintro e w5 ⟨v5, rfl, h5⟩; have H5 := H_ h5; clear h5))
    go_ret; rw [HR.out]; have hkk : Keep L.t w (w1.setCell ⟨L.lb, 4, none⟩ (.int .i64 (wrap64 (s.loops + 1)))) := ((Keep.of_below L.t HB.out).trans (Keep.of_below L.t HA.out.2)).trans ((keepL L w1 4 _).mono (fun b _ hb => .inr (.inl hb))); have hsz := hkk.size; obtain ⟨⟨K, q1, q2, q3⟩, q4, q5⟩ := H5.out; exact ⟨_, rfl, ⟨K, q1, q2.base hsz, q3.mono (fun b hb => hb.elim (fun h => h.elim) (fun h => .inr (Nat.le_trans hsz h)))⟩, q4.mono (fun b hb => hb.imp id (fun h => Nat.le_trans hsz h)), hkk.trans q5⟩
  . have HR : Hid (R = (syncS (anewS s.st.ups (ltakeN C { s with loops := wrap64 (s.loops + 1) } ⟨pc, pi, pl, pd⟩).1), (ltakeN C { s with loops := wrap64 (s.loops + 1) } ⟨pc, pi, pl, pd⟩).2)) := H_ (by rw [HE.out, if_pos rfl, if_neg h4]); have d4 : decide ((4 : Int) <= wrap64 (s.loops + 1)) = false := by simpa using h4
    have H7 : Hid (∀ o, findO (anewS s.st.ups (ltakeN C { s with loops := wrap64 (s.loops + 1) } ⟨pc, pi, pl, pd⟩).1).st.req 5 = some o -> o.v.size <= 7) := H_ (by rw [anewS_st, ltakeN_loops]; exact h7); have HY1 : Hid (LSt.Sync { s with loops := wrap64 (s.loops + 1) }) := H_ HW.out.2.1; clear HE h7 h4; go_enter Tryz.func65, Tryz.ntmps65
    go_wp2_with (first
     | (go_at_call 52; refine HN0.out.mono ?_; rintro e w0 ⟨rfl, rfl⟩)
     | (
      go_at_call 110; refine HLO.out.mono ?_; rintro e w1 ⟨rfl, hb⟩; have h1 := HW.out.1.below hb; have z1 := (hb.block w.heap.size (by rw [HSZ.out]; omega)).trans HW.out.2.2; have g4 : w1.cell? ⟨L.lb, 4, none⟩ = some (.int .i64 s.loops) := h1.cell 4; have g0' : w1.cell? ⟨L.lb, 0, none⟩ = some (.pointer (some ⟨L.B.nb, 0, none⟩)) := h1.cell 0; have f4 := h1.fz 4; have HA := H_ (A_ (h1.cellTurn (s' := { s with loops := wrap64 (s.loops + 1) }) 4 (.int .i64 (wrap64 (s.loops + 1))) rfl ⟨rfl, rfl⟩) (A_ ((Keep.of_below L.t hb).trans ((keepL L w1 4 (.int .i64 (wrap64 (s.loops + 1)))).mono (fun b _ hb => .inr (.inl hb)))) (((keepL L w1 4 (.int .i64 (wrap64 (s.loops + 1)))).block w.heap.size (lt_of_heap' z1) (fun he => HNB.out (.inr (.inl he)))).trans z1)))
      clear hb h1 z1))
    have HU := H_ (Ups_at HA.out.1.neg); go_wp2_with fail; refine HU.out.mono ?_; rintro e w2 ⟨rfl, hb2⟩; have h2 := HA.out.1.below hb2; have k2 := HA.out.2.1.trans (Keep.of_below L.t hb2); have z2 := (hb2.block w.heap.size (lt_of_heap' HA.out.2.2)).trans HA.out.2.2; have c0 : w2.cell? ⟨L.lb, 0, none⟩ = some (.pointer (some ⟨L.B.nb, 0, none⟩)) := h2.cell 0; have b0 := cellOf z2 0 _ rfl; have b1 := cellOf z2 1 _ rfl; have b2 := cellOf z2 2 _ rfl; have b3 := cellOf z2 3 _ rfl; have k2w : Keep L.t w w2 := (Keep.of_below L.t HB.out).trans k2; have ho2 : Opts w2 okp (.slice sa pl.length c) pl := Rec.keep HO.out.1 k2w (fun b _ hb ht => HO.out.2 b hb ht); have HT := H_ (NTakeG_at ⟨pc, pi, pl, pd⟩ _ HP.out.1 (h2.below (Below.refl _ _).drew) HY1.out (Opts.below ho2 (Below.refl _ _).drew) HO.out.2); have HB2 := H_ (A_ h2 (A_ k2w (A_ z2 k2))); have HS2 := H_ (show (fun Y : World => Y.cell? ⟨L.lb, 0, none⟩ = some (.pointer (some ⟨L.B.nb, 0, none⟩)) /\ Y.cell? ⟨w.heap.size, 0, none⟩ = some (.int .i64 pc) /\ Y.cell? ⟨w.heap.size, 1, none⟩ = some (.int .i64 pi) /\ Y.cell? ⟨w.heap.size, 2, none⟩ = some (.slice sa len c) /\ Y.cell? ⟨w.heap.size, 3, none⟩ = some (.string pd)) w2 from ⟨c0, b0, b1, b2, b3⟩); unfold pkV at HT; rw [show (⟨pc, pi, pl, pd⟩ : Pk).o.length = len from HLN.out.symm] at HT
    dsimp only at HT
    clear hb2 h2 k2 z2 k2w ho2; go_wp2_with fail
    go_region_held3 (fun Y : World => Y.cell? ⟨L.lb, 0, none⟩ = some (.pointer (some ⟨L.B.nb, 0, none⟩)) /\ Y.cell? ⟨w.heap.size, 0, none⟩ = some (.int .i64 pc) /\ Y.cell? ⟨w.heap.size, 1, none⟩ = some (.int .i64 pi) /\ Y.cell? ⟨w.heap.size, 2, none⟩ = some (.slice sa len c) /\ Y.cell? ⟨w.heap.size, 3, none⟩ = some (.string pd))
     (first
      | exact HS4.out
      | exact HS3.out
      | exact HS2.out
      | go_keep)
     (first
      | (
       go_at_call 69; refine HT.out.mono ?_; rintro e w3 ⟨v3, rfl, p3, ⟨X3, h3⟩, k3⟩; obtain ⟨pa, pz, rfl⟩ := p3.form; have z3 := (k3.block w.heap.size (lt_of_heap' HB2.out.2.2.1) (fun ht => HNB.out (ht.elim (fun h => .inl h) (fun h => .inr (.inr h))))).trans HB2.out.2.2.1; have HS3 := H_ (show (fun Y : World => Y.cell? ⟨L.lb, 0, none⟩ = some (.pointer (some ⟨L.B.nb, 0, none⟩)) /\ Y.cell? ⟨w.heap.size, 0, none⟩ = some (.int .i64 pc) /\ Y.cell? ⟨w.heap.size, 1, none⟩ = some (.int .i64 pi) /\ Y.cell? ⟨w.heap.size, 2, none⟩ = some (.slice sa len c) /\ Y.cell? ⟨w.heap.size, 3, none⟩ = some (.string pd)) w3 from ⟨h3.cell 0, cellOf z3 0 _ rfl, cellOf z3 1 _ rfl, cellOf z3 2 _ rfl, cellOf z3 3 _ rfl⟩); have H3 := H_ (A_ h3 (A_ p3 (A_ k3 z3)))
       clear h3 p3 k3 z3)
      | (
       go_at_call 61; refine (anew_at H3.out.1 s.st.ups pa _ pz).mono ?_; rintro e w4 ⟨rfl, h4, k4⟩; have z4 := (k4.block w.heap.size (lt_of_heap' H3.out.2.2.2) (fun he => HNB.out (.inr (.inl he)))).trans H3.out.2.2.2; have HS4 := H_ (show (fun Y : World => Y.cell? ⟨L.lb, 0, none⟩ = some (.pointer (some ⟨L.B.nb, 0, none⟩)) /\ Y.cell? ⟨w.heap.size, 0, none⟩ = some (.int .i64 pc) /\ Y.cell? ⟨w.heap.size, 1, none⟩ = some (.int .i64 pi) /\ Y.cell? ⟨w.heap.size, 2, none⟩ = some (.slice sa len c) /\ Y.cell? ⟨w.heap.size, 3, none⟩ = some (.string pd)) w4 from ⟨h4.cell 0, cellOf z4 0 _ rfl, cellOf z4 1 _ rfl, cellOf z4 2 _ rfl, cellOf z4 3 _ rfl⟩); have H4 := H_ (A_ h4 k4)
       clear h4 k4 z4))
    go_wp2_with (go_at_call 111; refine (magicT_at H4.out.1 H7.out).mono ?_; rintro e w5 ⟨⟨x5, rfl⟩, h5, k5⟩; have H5 := H_ (A_ h5 k5); clear h5 k5)
    go_ret; rw [HR.out]; have hkl : Keep (fun b => b = L.lb) w3 w5 := H4.out.2.trans H5.out.2; have hll := HB2.out.1.llt; have hs2 : w.heap.size <= w2.heap.size := HB2.out.2.1.size; refine ⟨_, rfl, ?_, H5.out.1.fin HU2.out hs2, ?_⟩
    . obtain ⟨K, q1, q2, q3⟩ := H3.out.2.1
      exact ⟨K, q1, (q2.keep hkl (fun k hk he => by have := (q2.lt k hk).2; have h : w2.heap.size <= k := this; omega)).base hs2, (q3.keep hkl (fun b _ hb he => by
       rcases hb with hb | hb
       . exact HO.out.2 b hb (.inr (.inl he))
       . have hb : w2.heap.size <= b := hb; omega)).mono (fun b hb => hb.imp id (fun hb => Nat.le_trans hs2 hb))⟩
    . exact (HB2.out.2.1.trans ((Keep.of_below L.t (Below.refl _ _).drew).trans (H3.out.2.2.1.mono (fun b _ hb => hb.elim (fun h => .inl h) (fun h => .inr (.inr h)))))).trans (hkl.mono (fun b _ hb => .inr (.inl hb)))
end
section
variable {w : World} {S ok okp U : Nat -> Prop} {L : LB} {C : NegC} {echo : Int} {s : LSt} {X : NegX}
set_option maxRecDepth 100000 in
theorem reply_shut (h : LcpAt w S ok L C echo s X) (hs : s.st.s ≠ 9) (pc pi : Int) (sa : Option Addr) (len c : Nat) (pd : ByteArray) :
 Calls Tryz.prog 108 #[.pointer (some ⟨L.lb, 0, none⟩), .agg #[.int .i64 pc, .int .i64 pi, .slice sa len c, .string pd]] w fun e w' => e = .returned (.slice none 0 0) /\ Below w.heap.size w w' := by
 have hb1 := (Below.refl w.heap.size w).alloc (Nat.le_refl _) (.cells #[.int .i64 pc, .int .i64 pi, .slice sa len c, .string pd] 59 (0, 0)); have HN := H_ (A_ (lopened_at (h.below hb1)) hb1); have e9 : (s.st.s == 9) = false := by simpa using hs
 rw [e9] at HN; clear h hs hb1 e9; go_enter Tryz.func108, Tryz.ntmps108
 go_wp2_with (go_at_call 70; refine HN.out.1.mono ?_; rintro e w0 ⟨rfl, rfl⟩)
 go_ret; exact ⟨rfl, HN.out.2⟩
set_option maxRecDepth 100000 in
theorem LTakeS_at (pc pi : Int) (sa : Option Addr) (len c : Nat) (pd : ByteArray) (hc : pc = 8 \/ pc = 9 \/ pc = 10 \/ pc = 11) (h : LcpAt w S ok L C echo s X) (hs : s.st.s ≠ 9) :
 Calls Tryz.prog 65 #[.pointer (some ⟨L.lb, 0, none⟩), .agg #[.int .i64 pc, .int .i64 pi, .slice sa len c, .string pd]] w fun e w' => e = .returned (.slice none 0 0) /\ Below w.heap.size w w' := by
 have hb1 := (Below.refl w.heap.size w).alloc (Nat.le_refl _) (.cells #[.int .i64 pc, .int .i64 pi, .slice sa len c, .string pd] 59 (0, 0)); have h1 := h.below hb1; have HN := H_ (A_ (lnone_at h1) (A_ (lopened_at h1) hb1)); have HR := H_ (reply_shut h1 hs pc pi sa len c pd); have e9 : (s.st.s == 9) = false := by simpa using hs
 rw [e9] at HN; clear h h1 hs hb1 e9
 rcases hc with rfl | rfl | rfl | rfl
 all_goals
  go_enter Tryz.func65, Tryz.ntmps65
  go_wp2_with (first
   | (go_at_call 52; refine HN.out.1.mono ?_; rintro e w0 ⟨rfl, rfl⟩)
   | (go_at_call 70; refine HN.out.2.1.mono ?_; rintro e w0 ⟨rfl, rfl⟩)
   | (go_at_call 108; refine HR.out.mono ?_; rintro e w0 ⟨rfl, hb⟩; have HB := H_ (HN.out.2.2.trans (hb.mono HN.out.2.2.size)); clear hb))
  go_ret
  first
   | exact ⟨rfl, HN.out.2.2⟩
   | exact ⟨rfl, HB.out⟩
end
def NewN (w w' : World) (e : Ending) (c : LCfg) : Prop := ∃ tb okt, NewL w w' e c tb okt ⟨[], 0⟩ /\ (∀ b, okt b -> w.heap.size <= b) /\ w.heap.size <= tb
def lcfgBad (c : LCfg) : Prop := (c.mru < 64 \/ 1492 < c.mru) \/ (c.auth ≠ 0 /\ c.auth ≠ 49187 /\ c.auth ≠ 49699) \/ (c.magic < 0 \/ 4294967295 < c.magic) \/ (c.echo < 0 \/ 100 < c.echo)
def LFail (w w' : World) (e : Ending) : Prop := e = .returned (.tuple #[.pointer none, .int .i64 1]) /\ Below w.heap.size w w'
structure LCfg.Ok1 (c : LCfg) : Prop where
 mru : 64 <= c.mru /\ c.mru <= 1492
 auth : c.auth = 0 \/ c.auth = 49187 \/ c.auth = 49699
 magic : 0 <= c.magic /\ c.magic <= 4294967295
 echo : 0 <= c.echo /\ c.echo <= 100
def adoptL (s : LSt) (a b : List Opt) : LSt := { s with st := { s.st with s := 9, mine := a, theirs := b, ups := s.st.ups + 1 }, ticks := 0, missed := 0 }
def replyS (own : Int) (d : ByteArray) : ByteArray := if 4 < d.size then pB4 own ++ d.extract 4 d.size else pB4 own
section
variable {w w' w1 w3 : World} {S ok okp U : Nat -> Prop} {L : LB} {B : NegB} {C : NegC} {st : NSt} {echo : Int} {s s' : LSt} {X X' : NegX}
end
section
variable {w0 w w' : World} {S ok okp U : Nat -> Prop} {L : LB} {C : NegC} {echo : Int} {s : LSt} {X : NegX}
end
section
variable {w0 w w' : World} {S ok okp U : Nat -> Prop} {L : LB} {C : NegC} {echo : Int} {s : LSt} {X : NegX}
theorem LReject_shut (h : LcpAt w S ok L C echo s X) (hs : s.st.s ≠ 9) (x : Int) (d : ByteArray) :
 Calls Tryz.prog 35 #[.pointer (some ⟨L.lb, 0, none⟩), .int .i64 x, .string d] w fun e w' => e = .returned (.slice none 0 0) /\ w = w' := by
 have HN := H_ (A_ (lnone_at h) (lopened_at h)); have e9 : (s.st.s == 9) = false := by simpa using hs
 rw [e9] at HN; clear h hs e9; go_enter Tryz.func35, Tryz.ntmps35
 go_wp2_with (first
  | (go_at_call 52; refine HN.out.1.mono ?_; rintro e w0 ⟨rfl, rfl⟩)
  | (go_at_call 70; refine HN.out.2.mono ?_; rintro e w0 ⟨rfl, rfl⟩))
 go_ret; exact ⟨rfl, rfl⟩
end
section
variable {w0 w w' : World} {okp : Nat -> Prop} {L : LB} {C : NegC} {echo : Int} {s : LSt}
end
end Go.Proofs.YtbiaempeegfdkaaGreat
