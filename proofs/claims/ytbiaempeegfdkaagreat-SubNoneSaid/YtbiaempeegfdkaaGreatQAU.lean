import Derived.Test.YtbiaempeegfdkaaGreatQAP
import Derived.Test.YtbiaempeegfdkaaGreatQAO
import Derived.Test.YtbiaempeegfdkaaGreatQAS
import Derived.Test.YtbiaempeegfdkaaGreatQAK
import Derived.Lib.QuietBelow
import Derived.Test.YtbiaempeegfdkaaGreatQAQ
set_option linter.unusedVariables false
set_option linter.unusedSimpArgs false
set_option maxHeartbeats 16000000
namespace Go.Proofs.YtbiaempeegfdkaaGreat
open Go.RowKit Go.Tg Go.Maps
structure LSt where
 st : NSt
 own : Int
 loops : Int
 ticks : Int
 missed : Int
 t : TpS
structure LB where
 lb : Nat
 tb : Nat
 B : NegB
def LB.t (L : LB) (b : Nat) : Prop := L.B.t b \/ b = L.lb \/ b = L.tb
def lcpCells (L : LB) (echo : Int) (s : LSt) : Array Value :=
 #[.pointer (some ⟨L.B.nb, 0, none⟩), .pointer (some ⟨L.tb, 0, none⟩), .int .i64 echo, .int .i64 s.own, .int .i64 s.loops, .int .i64 s.ticks, .int .i64 s.missed]
def judgeV (lb : Nat) : Value := .func (.func 92) #[.pointer (some ⟨lb, 0, none⟩)] #[]
structure LcpAt (w : World) (S ok : Nat -> Prop) (L : LB) (C : NegC) (echo : Int) (s : LSt) (X : NegX) : Prop where
 blk : w.heap[L.lb]? = some (.cells (lcpCells L echo s) 99 (0, 0))
 neg : NegAt w S L.B C s.st X
 tape : TapeAt w L.tb ok s.t
 ne : L.lb ≠ L.tb
 n1 : ¬ S L.lb
 n2 : ¬ S L.tb
 n3 : ∀ b, ok b -> ¬ S b /\ b ≠ L.lb /\ b < w.heap.size
 jd : C.judge = judgeV L.lb
def LSt.Sync (s : LSt) : Prop := ∀ o, findO s.st.req 5 = some o -> o.v.size <= 7 /\ valB o.v.data.toList = s.own
def LcpV (w : World) (U : Nat -> Prop) (L : LB) (C : NegC) (echo : Int) (s : LSt) : Prop :=
 ∃ S ok X, LcpAt w S ok L C echo s X /\ ∀ b, S b \/ ok b \/ b = L.lb \/ b = L.tb -> U b
section
variable {w w' : World} {S ok U U' T : Nat -> Prop} {L : LB} {C : NegC} {echo : Int} {s s' : LSt} {X X' : NegX}
theorem LcpAt.llt (h : LcpAt w S ok L C echo s X) : L.lb < w.heap.size := (Array.getElem?_eq_some_iff.1 h.blk).1
theorem LcpAt.tlt (h : LcpAt w S ok L C echo s X) : L.tb < w.heap.size := h.tape.lt
theorem LcpAt.cell (h : LcpAt w S ok L C echo s X) (o : Nat) : w.cell? ⟨L.lb, o, none⟩ = (lcpCells L echo s)[o]? := cell_of_block h.blk o
theorem LcpAt.fz (h : LcpAt w S ok L C echo s X) (o : Nat) : w.frozen? ⟨L.lb, o, none⟩ = false := frozen_of_block h.blk o
theorem NegAt.ts (h : NegAt w S L.B C s.st X) {b : Nat} (hb : L.B.t b) : S b := by
 rcases hb with rfl | rfl | rfl
 . exact h.s1
 . exact h.s2
 . exact h.s3
theorem LcpAt.keep (h : LcpAt w S ok L C echo s X) (hk : Keep T w w') (hS : ∀ b, b < w.heap.size -> S b \/ ok b \/ b = L.lb \/ b = L.tb -> ¬ T b) : LcpAt w' S ok L C echo s X where
 blk := (hk.block _ h.llt (hS _ h.llt (.inr (.inr (.inl rfl))))).trans h.blk
 neg := h.neg.keep hk (fun b hb hs => hS b hb (.inl hs))
 tape := h.tape.keep hk (hS _ h.tlt (.inr (.inr (.inr rfl)))) (fun b hb ho => hS b hb (.inr (.inl ho)))
 ne := h.ne
 n1 := h.n1
 n2 := h.n2
 n3 := fun b hb => ⟨(h.n3 b hb).1, (h.n3 b hb).2.1, Nat.lt_of_lt_of_le (h.n3 b hb).2.2 hk.size⟩
 jd := h.jd
theorem LcpAt.below (h : LcpAt w S ok L C echo s X) (hb : Below w.heap.size w w') : LcpAt w' S ok L C echo s X := h.keep (Keep.of_below (fun _ => False) hb) (fun _ _ _ h => h)
theorem LcpAt.old (h : LcpAt w S ok L C echo s X) : LcpAt w (fun b => S b /\ b < w.heap.size) ok L C echo s X where
 blk := h.blk
 neg := h.neg.old
 tape := h.tape
 ne := h.ne
 n1 := fun hb => h.n1 hb.1
 n2 := fun hb => h.n2 hb.1
 n3 := fun b hb => ⟨fun hs => (h.n3 b hb).1 hs.1, (h.n3 b hb).2⟩
 jd := h.jd
theorem LcpV.keep (h : LcpV w U L C echo s) (hk : Keep T w w') (hU : ∀ b, b < w.heap.size -> U b -> ¬ T b) : LcpV w' U L C echo s := by
 obtain ⟨S, ok, X, h, hu⟩ := h; exact ⟨S, ok, X, h.keep hk (fun b hb hx => hU b hb (hu b hx)), hu⟩
theorem LcpV.below (h : LcpV w U L C echo s) (hb : Below w.heap.size w w') : LcpV w' U L C echo s := h.keep (Keep.of_below (fun _ => False) hb) (fun _ _ _ h => h)
theorem LcpV.mono (h : LcpV w U L C echo s) (hU : ∀ b, U b -> U' b) : LcpV w U' L C echo s := by
 obtain ⟨S, ok, X, h, hu⟩ := h; exact ⟨S, ok, X, h, fun b hb => hU b (hu b hb)⟩
theorem LcpV.us (h : LcpV w U L C echo s) {b : Nat} (hb : L.t b) : U b := by
 obtain ⟨S, ok, X, h, hu⟩ := h
 rcases hb with hb | rfl | rfl
 . exact hu b (.inl (h.neg.ts hb))
 . exact hu _ (.inr (.inr (.inl rfl)))
 . exact hu _ (.inr (.inr (.inr rfl)))
theorem LcpAt.negTurn (h : LcpAt w S ok L C echo s X) {st' : NSt} (hn : NegAt w' (Grow S w) L.B C st' X') (hk : Keep L.B.t w w') : LcpAt w' (Grow S w) ok L C echo { s with st := st' } X' where
 blk := (hk.block _ h.llt (fun ht => h.n1 (h.neg.ts ht))).trans h.blk
 neg := hn
 tape := h.tape.keep hk (fun ht => h.n2 (h.neg.ts ht)) (fun b _ hb ht => (h.n3 b hb).1 (h.neg.ts ht))
 ne := h.ne
 n1 := fun hg => hg.elim h.n1 (fun hl => by have := h.llt; omega)
 n2 := fun hg => hg.elim h.n2 (fun hl => by have := h.tlt; omega)
 n3 := fun b hb => ⟨fun hg => hg.elim (h.n3 b hb).1 (fun hl => by have := (h.n3 b hb).2.2; omega), (h.n3 b hb).2.1, Nat.lt_of_lt_of_le (h.n3 b hb).2.2 hk.size⟩
 jd := h.jd
theorem keepL (L : LB) (w : World) (o : Nat) (v : Value) : Keep (fun b => b = L.lb) w (w.setCell ⟨L.lb, o, none⟩ v) := (Keep.refl (fun b => b = L.lb) w).setCell ⟨L.lb, o, none⟩ (Or.inr rfl) v
theorem LcpAt.cellTurn (h : LcpAt w S ok L C echo s X) (o : Nat) (v : Value) (hc : (lcpCells L echo s).setIfInBounds o v = lcpCells L echo s') (hs : s'.st = s.st /\ s'.t = s.t) : LcpAt (w.setCell ⟨L.lb, o, none⟩ v) S ok L C echo s' X := by
 have hk := keepL L w o v; obtain ⟨e1, e2⟩ := hs
 exact {
  blk := by rw [<- hc]; exact set_block h.blk o v
  neg := by rw [e1]; exact h.neg.keep hk (fun b _ hb he => h.n1 (he ▸ hb))
  tape := by rw [e2]; exact h.tape.keep hk (fun he => h.ne he.symm) (fun b _ hb he => (h.n3 b hb).2.1 he)
  ne := h.ne
  n1 := h.n1
  n2 := h.n2
  n3 := fun b hb => ⟨(h.n3 b hb).1, (h.n3 b hb).2.1, Nat.lt_of_lt_of_le (h.n3 b hb).2.2 hk.size⟩
  jd := h.jd }
end
section
variable {w : World} {S ok : Nat -> Prop} {L : LB} {B : NegB} {C : NegC} {st : NSt} {echo : Int} {s : LSt} {X : NegX}
end
def loopS (own : Int) (o : Opt) : Bool := decide (o.t = 5) && (decide (own ≠ 0) && decide (o.v = pB4 own))
def lfitsS (own : Int) (o : Opt) : Bool := if o.t = 1 then fitsR (unitR 65535) o.v else if o.t = 3 then decide (protoS [o] ≠ 0) else fitsR magicR o.v && !loopS own o
def insteadL (t : TpS) (k : Int) : ByteArray × TpS := if k = 1 then (pB2 1492, t) else if k = 3 then (chapB, t) else (if (tp4 t).1 = pB4 0 then pB4 1 else (tp4 t).1, (tp4 t).2)
def lhas (k : Int) : Bool := decide (k = 1) || (decide (k = 3) || decide (k = 5))
def ljudgeS (own : Int) (t : TpS) (l : List Opt) : (Int × List Opt) × TpS := answerQ lhas (lfitsS own) insteadL t l
section
variable {w : World} {S ok : Nat -> Prop} {L : LB} {B : NegB} {C : NegC} {st : NSt} {echo : Int} {s : LSt} {X : NegX}
end
section
variable {w w' : World} {S ok : Nat -> Prop} {L : LB} {B : NegB} {C : NegC} {st : NSt} {echo : Int} {s : LSt} {X : NegX}
end
def syncS (s : LSt) : LSt := match findO s.st.req 5 with
 | none => s
 | some o => { s with own := valB o.v.data.toList }
def anewS (u : Int) (s : LSt) : LSt := if s.st.ups = u then s else { s with ticks := 0, missed := 0 }
def doL (C : NegC) (s : LSt) (ev : Int) : LSt × List Pk := (anewS s.st.ups { s with st := (evS rejS C s.st ev noCame).1 }, (evS rejS C s.st ev noCame).2)
def LEv (w w' : World) (U okp : Nat -> Prop) (L : LB) (C : NegC) (echo : Int) (r : LSt × List Pk) (e : Ending) : Prop :=
 ∃ v, e = .returned v /\ PksAt w' (Grow okp w) w.heap.size v r.2 /\ LcpV w' (Grow U w) L C echo r.1 /\ Keep L.t w w'
section
variable {w w' w1 w3 : World} {S ok okp U : Nat -> Prop} {L : LB} {B : NegB} {C : NegC} {st : NSt} {echo : Int} {s s' : LSt} {X X' : NegX}
theorem LcpAt.fin (h : LcpAt w3 (Grow S w1) ok L C echo s' X') (hu : ∀ b, S b \/ ok b \/ b = L.lb \/ b = L.tb -> U b) (hsz : w.heap.size <= w1.heap.size) : LcpV w3 (Grow U w) L C echo s' :=
 ⟨_, _, _, h, fun b hb => by
  rcases hb with hb | hb | hb | hb
  . rcases hb with hb | hb
    . exact .inl (hu b (.inl hb))
    . exact .inr (by omega)
  . exact .inl (hu b (.inr (.inl hb)))
  . exact .inl (hu b (.inr (.inr (.inl hb))))
  . exact .inl (hu b (.inr (.inr (.inr hb))))⟩
theorem lnone_at (h : LcpAt w S ok L C echo s X) : Calls Tryz.prog 52 #[.pointer (some ⟨L.lb, 0, none⟩)] w fun e w' => e = .returned (.bool false) /\ w = w' := by
 have h0 : w.cell? ⟨L.lb, 0, none⟩ = some (.pointer (some ⟨L.B.nb, 0, none⟩)) := h.cell 0; clear h; have q1 : ∀ w a, (binOp .eql 29 (.pointer (some a)) (.pointer none)).run Tryz.prog w = .ok (.bool false) w := fun w a => by kernel_rfl
 have q2 : ∀ w a, (binOp .eql 32 (.pointer (some a)) (.pointer none)).run Tryz.prog w = .ok (.bool false) w := fun w a => by kernel_rfl
 go_enter Tryz.func52, Tryz.ntmps52; go_wp2_with fail; go_ret; exact ⟨rfl, rfl⟩
theorem LState_at (h : LcpAt w S ok L C echo s X) : Calls Tryz.prog 104 #[.pointer (some ⟨L.lb, 0, none⟩)] w fun e w' => e = .returned (.int .i64 s.st.s) /\ w = w' := by
 have h0 : w.cell? ⟨L.lb, 0, none⟩ = some (.pointer (some ⟨L.B.nb, 0, none⟩)) := h.cell 0; have H := H_ (A_ (lnone_at h) (State_at h.neg)); clear h; go_enter Tryz.func104, Tryz.ntmps104
 go_wp2_with (first
  | (go_at_call 52; refine H.out.1.mono ?_; rintro e w1 ⟨rfl, rfl⟩)
  | (go_at_call 99; refine H.out.2.mono ?_; rintro e w1 ⟨rfl, rfl⟩))
 go_ret; exact ⟨rfl, rfl⟩
set_option maxRecDepth 100000 in
theorem anew_at (h : LcpAt w S ok L C echo s X) (u : Int) (a : Option Addr) (n c : Nat) :
 Calls Tryz.prog 61 #[.pointer (some ⟨L.lb, 0, none⟩), .int .i64 u, .slice a n c] w fun e w' => e = .returned (.slice a n c) /\ LcpAt w' S ok L C echo (anewS u s) X /\ Keep (fun b => b = L.lb) w w' := by
 have h0 : w.cell? ⟨L.lb, 0, none⟩ = some (.pointer (some ⟨L.B.nb, 0, none⟩)) := h.cell 0; have HU := H_ (Ups_at h.neg); have HA := H_ h; have HE := H_ (show anewS u s = (if s.st.ups = u then s else { s with ticks := 0, missed := 0 }) from rfl); clear h
 by_cases hu : s.st.ups = u
 . have e1 : (s.st.ups != u) = false := by simp [hu]
   have HR : Hid (anewS u s = s) := H_ (by rw [HE.out, if_pos hu]); clear hu HE; generalize s.st.ups = x at *; go_enter Tryz.func61, Tryz.ntmps61
   go_wp2_with (go_at_call 60; refine HU.out.mono ?_; rintro e w1 ⟨rfl, hb⟩; have HB := H_ hb; clear hb)
   go_ret; rw [HR.out]; exact ⟨rfl, HA.out.below HB.out, Keep.of_below _ HB.out⟩
 . have e1 : (s.st.ups != u) = true := by simpa using hu
   have HR : Hid (anewS u s = { s with ticks := 0, missed := 0 }) := H_ (by rw [HE.out, if_neg hu]); clear hu HE; generalize hx : s.st.ups = x at e1 HU; clear hx; go_enter Tryz.func61, Tryz.ntmps61
   go_wp2_with (
    go_at_call 60; refine HU.out.mono ?_; rintro e w1 ⟨rfl, hb⟩; have hA := HA.out.below hb; have f5 := hA.fz 5; have f6 := hA.fz 6; have c5 : w1.cell? ⟨L.lb, 5, none⟩ = some (.int .i64 s.ticks) := hA.cell 5; have c6 : w1.cell? ⟨L.lb, 6, none⟩ = some (.int .i64 s.missed) := hA.cell 6
    have HB := H_ (A_ hA (Keep.of_below (fun b => b = L.lb) hb)); clear hb hA)
   go_ret; rw [HR.out]; exact ⟨rfl, (HB.out.1.cellTurn (s' := { s with ticks := 0 }) 5 (.int .i64 0) rfl ⟨rfl, rfl⟩).cellTurn (s' := { s with ticks := 0, missed := 0 }) 6 (.int .i64 0) rfl ⟨rfl, rfl⟩, (HB.out.2.trans (keepL L w1 5 _)).trans (keepL L _ 6 _)⟩
set_option maxRecDepth 100000 in
theorem LDo_at (h : LcpAt w S ok L C echo s X) (hu : ∀ b, S b \/ ok b \/ b = L.lb \/ b = L.tb -> U b) (ev : Int) (hev : 0 <= ev /\ ev <= 3) :
 Calls Tryz.prog 30 #[.pointer (some ⟨L.lb, 0, none⟩), .int .i64 ev] w fun e w' => LEv w w' U (fun _ => False) L C echo (doL C s ev) e := by
 have h0 : w.cell? ⟨L.lb, 0, none⟩ = some (.pointer (some ⟨L.B.nb, 0, none⟩)) := h.cell 0; have HN := H_ (lnone_at h); have HU := H_ (Ups_at h.neg); have HA := H_ (A_ h hu); have HE := H_ hev; have HR : Hid (doL C s ev = (anewS s.st.ups { s with st := (evS rejS C s.st ev noCame).1 }, (evS rejS C s.st ev noCame).2)) := H_ rfl; generalize doL C s ev = R at *; clear h hu hev; go_enter Tryz.func30, Tryz.ntmps30
 go_wp2_with (first
  | (go_at_call 52; refine HN.out.mono ?_; rintro e w0 ⟨rfl, rfl⟩)
  | (
   go_at_call 60; refine HU.out.mono ?_; rintro e w1 ⟨rfl, hb⟩; have hA := HA.out.1.below hb; have c0 : w1.cell? ⟨L.lb, 0, none⟩ = some (.pointer (some ⟨L.B.nb, 0, none⟩)) := hA.cell 0; have HD := H_ (Do_at rejS ev HE.out hA.neg)
   have HB := H_ (A_ hA hb); clear hb hA)
  | (
   go_at_call 62; refine HD.out.mono ?_; rintro e w2 ⟨v, rfl, hp, ⟨X2, hn⟩, hk⟩; obtain ⟨pa, pc, rfl⟩ := hp.form; have h2 := HB.out.1.negTurn hn hk
   have HC := H_ (A_ h2 (A_ hp hk)); clear h2 hp hk hn)
  | (go_at_call 61; refine (anew_at HC.out.1 _ _ _ _).mono ?_; rintro e w3 ⟨rfl, h3, k3⟩; have H3 := H_ (A_ h3 k3); clear h3 k3))
 go_ret; rw [HR.out]; have hsz := HB.out.2.size; refine ⟨_, rfl, ?_, H3.out.1.fin HA.out.2 hsz, ?_⟩
 . obtain ⟨K, q1, q2, q3⟩ := HC.out.2.1; have hl := HB.out.1.llt
   exact ⟨K, q1, (q2.keep H3.out.2 (fun k hk he => by have := (q2.lt k hk).2; omega)).base hsz, (q3.keep H3.out.2 (fun b _ hb he => by
    rcases hb with hb | hb
    . exact hb
    . have hb : w1.heap.size <= b := hb; omega)).mono (fun b hb => hb.imp id (fun hb => Nat.le_trans hsz hb))⟩
 . exact (Keep.of_below _ HB.out.2).trans ((HC.out.2.2.mono (fun b _ hb => .inl hb)).trans (H3.out.2.mono (fun b _ hb => .inr (.inl hb))))
end
def ltakeN (C : NegC) (s : LSt) (p : Pk) : LSt × List Pk :=
 if p.code = 1 then ({ s with st := (reqS rejS C s.st p (ljudgeS s.own s.t p.o).1).1, t := (ljudgeS s.own s.t p.o).2 }, (reqS rejS C s.st p (ljudgeS s.own s.t p.o).1).2)
 else ({ s with st := (takeS C s.st p).1 }, (takeS C s.st p).2)
section
variable {w w' w1 w3 : World} {S ok okp U : Nat -> Prop} {L : LB} {B : NegB} {C : NegC} {st : NSt} {echo : Int} {s s' : LSt} {X X' : NegX}
def loopedS (own : Int) (p : Pk) : Bool := decide (p.code = 1) && p.o.any (loopS own)
end
def ltakeS (C : NegC) (s : LSt) (p : Pk) : LSt × List Pk :=
 if loopedS s.own p = true then
  if 4 <= wrap64 (s.loops + 1) then doL C { s with loops := wrap64 (s.loops + 1) } 3
  else (syncS (anewS s.st.ups (ltakeN C { s with loops := wrap64 (s.loops + 1) } p).1), (ltakeN C { s with loops := wrap64 (s.loops + 1) } p).2)
 else (syncS (anewS s.st.ups (ltakeN C s p).1), (ltakeN C s p).2)
section
variable {w : World} {S ok okp U : Nat -> Prop} {L : LB} {C : NegC} {echo : Int} {s : LSt} {X : NegX}
end
theorem tapeNew_any (l : List Int) (lv : Value) (okp : Nat -> Prop) (w : World) (hn : Nums w okp lv l) (hi : ∀ x ∈ l, I64 x) (hl : l.length <= 1000000) :
 Calls Tryz.prog 41 #[lv] w fun e w' => ∃ tb, e = .returned (.pointer (some ⟨tb, 0, none⟩)) /\ TapeAt w' tb (fun b => w.heap.size <= b /\ b < tb) ⟨l, 0⟩ /\ w.heap.size <= tb /\ Below w.heap.size w w' := by
 have HC := H_ (cloneN_any l lv okp w hn hl); have HI := H_ (A_ hi hl); clear hn hi hl; go_enter Tryz.func41, Tryz.ntmps41
 go_wp2_with (
  go_at_call 83; refine HC.out.mono ?_; rintro e w1 ⟨v, rfl, hr, hb⟩; obtain ⟨sa, c, rfl, h1, h2⟩ := (hr.nums (by have := HI.out.2; unfold maxLen; omega)).form
  have HR := H_ (A_ hr hb); clear hr hb h1 h2)
 go_ret; have hb2 := (Below.refl w1.heap.size w1).alloc (Nat.le_refl _) (.cells #[.slice sa l.length c, .int .i64 0] 129 (0, 0)); refine ⟨w1.heap.size, rfl, ⟨_, at1 w1 _, Rec.mono (Nums.below (Rec.old (HR.out.1.nums (by have := HI.out.2; unfold maxLen; omega))) hb2) (fun b hb => hb), HI.out.1, fun b hb => by have := hb.2; omega, (by show I64 0; unfold I64; decide), HI.out.2⟩, HR.out.2.size, HR.out.2.trans (hb2.mono HR.out.2.size)⟩
structure LCfg.Ok (c : LCfg) : Prop where
 mru : 64 <= c.mru /\ c.mru <= 1492
 auth : c.auth = 0 \/ c.auth = 49187 \/ c.auth = 49699
 magic : 0 <= c.magic /\ c.magic <= 4294967295
 echo : 0 <= c.echo /\ c.echo <= 100
 cf : inB20 c.cf = true
 tm : inB20 c.tm = true
 fl : 0 <= c.fl /\ c.fl <= 20
 wt : 1 <= c.wt /\ c.wt <= 100
theorem optsS_ok (c : LCfg) (hc : c.auth = 0 \/ c.auth = 49187 \/ c.auth = 49699) : (∀ o ∈ optsS c, o.v.size <= 5) /\ putE (optsS c) = 0 /\ twiceP [] (optsS c) = false /\ (optsS c).length <= 3 := by
 have h2 : ∀ x, (pB2 x).size = 2 := fun x => rfl; have h4 : ∀ x, (pB4 x).size = 4 := fun x => rfl; have h5 : papB.size = 2 := rfl; have h6 : chapB.size = 3 := rfl; unfold optsS optsS2 optsS1
 rcases hc with hc | hc | hc <;> rw [hc] <;> by_cases h1 : c.mru = 1492 <;> by_cases h3 : c.magic = 0 <;> simp [h1, h3, lvalS, putE, badO, twiceP, h2, h4, h5, h6]
def lC (c : LCfg) (lb : Nat) : NegC := ⟨[unitR 1492, magicR], [], [3], c.cf, c.tm, c.fl, c.wt, judgeV lb⟩
def lst0 (c : LCfg) (t : TpS) : LSt := ⟨st0 (optsS c), c.magic, 0, 0, 0, t⟩
def NewL (w w' : World) (e : Ending) (c : LCfg) (tb : Nat) (okt : Nat -> Prop) (t : TpS) : Prop :=
 ∃ L S X, e = .returned (.tuple #[.pointer (some ⟨L.lb, 0, none⟩), .int .i64 0]) /\ L.tb = tb /\ LcpAt w' S okt L (lC c L.lb) c.echo (lst0 c t) X /\ (∀ b, S b -> w.heap.size <= b) /\ w.heap.size <= L.lb /\ Below w.heap.size w w'
def cfgO (c : LCfg) : Obj := .cells #[.int .i64 c.mru, .int .i64 c.auth, .int .i64 c.magic, .int .i64 c.echo, .int .i64 c.cf, .int .i64 c.tm, .int .i64 c.fl, .int .i64 c.wt] 86 (0, 0)
theorem lnew_end {c : LCfg} {w W1 wE : World} {lb tb : Nat} {okt : Nat -> Prop} {t : TpS} {B : NegB} (hw1 : Below w.heap.size w W1) (hl : W1.heap[lb]? = some (.cells #[.pointer none, .pointer (some ⟨tb, 0, none⟩), .int .i64 c.echo, .int .i64 c.magic, .int .i64 0, .int .i64 0, .int .i64 0] 99 (0, 0))) (ht : TapeAt W1 tb okt t) (ho : ∀ b, okt b -> b < W1.heap.size /\ b ≠ lb) (hne : lb ≠ tb)
 (hlb : w.heap.size <= lb) (bE : Below W1.heap.size W1 wE) (nE : NegV wE (fun b => W1.heap.size <= b) B (lC c lb) (st0 (optsS c))) :
 NewL w (wE.setCell ⟨lb, 0, none⟩ (.pointer (some ⟨B.nb, 0, none⟩))) (.returned (.tuple #[.pointer (some ⟨lb, 0, none⟩), .int .i64 0])) c tb okt t := by
 obtain ⟨X, nE⟩ := nE; have hlt := (Array.getElem?_eq_some_iff.1 hl).1; have hk := (Keep.refl (fun b => b = lb) wE).setCell ⟨lb, 0, none⟩ (Or.inr rfl) (.pointer (some ⟨B.nb, 0, none⟩)); refine ⟨⟨lb, tb, B⟩, fun b => W1.heap.size <= b, X, rfl, rfl, ?_, fun b hb => Nat.le_trans hw1.size hb, hlb, (hw1.trans (bE.mono hw1.size)).trans (hk.below (Nat.le_trans hw1.size bE.size) (fun k hk he => by omega))⟩
 exact {
  blk := by have h := set_block ((bE.block lb hlt).trans hl) 0 (.pointer (some ⟨B.nb, 0, none⟩)); simpa [lcpCells, lst0] using h
  neg := nE.keep hk (fun b _ hb he => by have hb : W1.heap.size <= b := hb; omega)
  tape := (ht.below bE).keep hk (fun he => hne he.symm) (fun b _ hb he => (ho b hb).2 he)
  ne := hne
  n1 := fun hb => by have hb : W1.heap.size <= lb := hb; omega
  n2 := fun hb => by have hb : W1.heap.size <= tb := hb; have := ht.lt; omega
  n3 := fun b hb => ⟨fun h => by have h : W1.heap.size <= b := h; have := (ho b hb).1; omega, (ho b hb).2, Nat.lt_of_lt_of_le (ho b hb).1 (Nat.le_trans bE.size hk.size)⟩
  jd := rfl }
theorem lnew_neg (c : LCfg) (hc : c.Ok) (lb : Nat) (W1 WN : World) (sa : Option Addr) (ca rb ib : Nat) (h1 : Below W1.heap.size W1 WN) (h2 : ORow WN W1.heap.size (.slice sa (optsS c).length ca) (optsS c)) (h3 : WN.heap[rb]? = some (.cells #[.int .i64 1, .int .i64 2, .int .i64 64, .int .i64 1492, .string (be2 1492), .int .i64 5, .int .i64 4, .int .i64 1, .int .i64 4294967295, .string (be4 1)] 136 (0, 0))) (h4 : WN.heap[ib]? = some (.cells #[.int .i64 3] 3 (0, 0))) :
 Calls Tryz.prog 88 #[.agg #[.slice sa (optsS c).length ca, .slice (some ⟨rb, 0, none⟩) 2 2, .slice none 0 0, .slice (some ⟨ib, 0, none⟩) 1 1, .int .i64 c.cf, .int .i64 c.tm, .int .i64 c.fl, .int .i64 c.wt], .func (.func 92) #[.pointer (some ⟨lb, 0, none⟩)] #[]] WN fun e w' => ∃ B, e = .returned (.tuple #[.pointer (some ⟨B.nb, 0, none⟩), .int .i64 0]) /\ NegV w' (fun b => W1.heap.size <= b) B (lC c lb) (st0 (optsS c)) /\ Below W1.heap.size W1 w' := by
 obtain ⟨o1, o2, o3, o4⟩ := optsS_ok c hc.auth; have hr : RRow WN 0 (.slice (some ⟨rb, 0, none⟩) 2 2) [unitR 1492, magicR] := ⟨rfl, Or.inr ⟨rb, 2, _, rfl, Nat.zero_le _, h3, Nat.le_refl _, by unfold maxLen; omega, rfl, rfl⟩⟩; have hi : NRow WN 0 (.slice (some ⟨ib, 0, none⟩) 1 1) [3] := ⟨rfl, Or.inr ⟨ib, 1, _, rfl, Nat.zero_le _, h4, Nat.le_refl _, by unfold maxLen; omega, rfl, rfl⟩⟩
 refine (newByJ 92 (.pointer (some ⟨lb, 0, none⟩)) (optsS c) [unitR 1492, magicR] [] [3] _ _ _ _ (fun b => 0 <= b) c.cf c.tm c.fl c.wt WN (Rec.mono (h2.opts (by unfold maxLen; omega)) (fun b _ => Nat.zero_le _)) (hr.rls (by unfold maxLen; decide)) (Rec.nil _ _ _) (hi.nums (by unfold maxLen; decide))
  (fun n c h => by cases h) (fun n c h => by cases h; rfl) (by decide) (by decide) (by decide) hc.cf hc.tm hc.fl.1 hc.fl.2 hc.wt.1 hc.wt.2 (fun o ho => Nat.le_trans (o1 o ho) (by decide)) o2 o3 (by decide) (by decide)).mono ?_
 rintro e w' ⟨v, rfl, B, rfl, q1, q2⟩; exact ⟨B, rfl, q1.mono (fun b hb => Nat.le_trans h1.size hb), h1.trans (q2.mono h1.size)⟩
set_option maxRecDepth 100000 in
theorem lnew_tape (c : LCfg) (hc : c.Ok) (tb : Nat) (okt : Nat -> Prop) (t : TpS) (w : World) (ht : TapeAt w tb okt t) (ho : ∀ b, okt b -> b < w.heap.size) :
 Calls Tryz.prog 48 #[cfgV c, .pointer (some ⟨tb, 0, none⟩)] w fun e w' => NewL w w' e c tb okt t := by
 have q1 : ∀ w a, (binOp .eql 28 (.pointer (some a)) (.pointer none)).run Tryz.prog w = .ok (.bool false) w := fun w a => by kernel_rfl
 have L1 : ∀ w, Calls Tryz.prog 71 #[.int .i64 c.mru, .int .i64 64, .int .i64 1492] w fun e w' => e = .returned (.bool true) /\ w = w' := fun w => (lin_any c.mru 64 1492 w).mono (fun e w' h => by have := hc.mru; refine ⟨by rw [h.1]; simp [this.1, this.2], h.2⟩); have L2 : ∀ w, Calls Tryz.prog 71 #[.int .i64 c.magic, .int .i64 0, .int .i64 4294967295] w fun e w' => e = .returned (.bool true) /\ w = w' := fun w => (lin_any c.magic 0 4294967295 w).mono (fun e w' h => by have := hc.magic; refine ⟨by rw [h.1]; simp [this.1, this.2], h.2⟩); have L3 : ∀ w, Calls Tryz.prog 71 #[.int .i64 c.echo, .int .i64 0, .int .i64 100] w fun e w' => e = .returned (.bool true) /\ w = w' := fun w => (lin_any c.echo 0 100 w).mono (fun e w' h => by have := hc.echo; refine ⟨by rw [h.1]; simp [this.1, this.2], h.2⟩); have HL := H_ (A_ L1 (A_ L2 L3)); have H := H_ (A_ hc (A_ ht ho)); have hia : I64 c.auth := by rcases hc.auth with h | h | h <;> rw [h] <;> (unfold I64; decide)
 have HV := H_ (fun w => lvalue_any c.auth w hia)
 have hva : c.auth ≠ 0 -> (lvalS c.auth).toList.isEmpty = false := by
  intro h0
  rcases hc.auth with h | h | h
  . exact absurd h h0
  . rw [h, isE]; decide
  . rw [h, isE]; decide
 have hb0 := (Below.refl w.heap.size w).alloc (Nat.le_refl _) (cfgO c); have HB0 := H_ (A_ hb0 (A_ (at1 w (cfgO c)) (alloc1 w (cfgO c)))); have HIA := H_ hia; have HNN := H_ (fun lb W1 WN sa ca rb ib h1 h2 h3 h4 => lnew_neg c hc lb W1 WN sa ca rb ib h1 h2 h3 h4); unfold cfgV; clear L1 L2 L3 hc ht ho hia
 by_cases h0 : c.auth = 0
 . skip
   clear hva; have hz := HB0.out.2.1; unfold cfgO at hz; have ea : (c.auth != 0) = false := by simp [h0]
   have HZ := H_ (A_ HB0.out.1 HB0.out.2.1); clear h0 hz; go_enter Tryz.func48, Tryz.ntmps48
   go_wp2_with (
    go_at_call 71; first | with_reducible refine (HL.out.1 _).mono ?_ | with_reducible refine (HL.out.2.1 _).mono ?_ | with_reducible refine (HL.out.2.2 _).mono ?_
    rintro e w1 ⟨rfl, rfl⟩)
   have hwv : w.alloc (.cells #[.int .i64 c.mru, .int .i64 c.auth, .int .i64 c.magic, .int .i64 c.echo, .int .i64 c.cf, .int .i64 c.tm, .int .i64 c.fl, .int .i64 c.wt] 86 (0, 0)) = w.alloc (cfgO c) := rfl
   try rw [hwv]
   generalize w.alloc (cfgO c) = wv at *; clear hwv; rw [show w.heap.size + 1 = wv.heap.size from HB0.out.2.2.symm]; have hz1 : (wv.alloc (.cells #[.pointer none, .pointer (some ⟨tb, 0, none⟩), .int .i64 c.echo, .int .i64 c.magic, .int .i64 0, .int .i64 0, .int .i64 0] 99 (0, 0))).heap[w.heap.size]? = some (cfgO c) := (Below.heap_alloc _ _ _ (Array.getElem?_eq_some_iff.1 HZ.out.2).1).trans HZ.out.2; have hl1 := at1 wv (.cells #[.pointer none, .pointer (some ⟨tb, 0, none⟩), .int .i64 c.echo, .int .i64 c.magic, .int .i64 0, .int .i64 0, .int .i64 0] 99 (0, 0)); have hw1 : Below w.heap.size w (wv.alloc (.cells #[.pointer none, .pointer (some ⟨tb, 0, none⟩), .int .i64 c.echo, .int .i64 c.magic, .int .i64 0, .int .i64 0, .int .i64 0] 99 (0, 0))) := HZ.out.1.alloc HZ.out.1.size _; have hs1 := alloc1 wv (.cells #[.pointer none, .pointer (some ⟨tb, 0, none⟩), .int .i64 c.echo, .int .i64 c.magic, .int .i64 0, .int .i64 0, .int .i64 0] 99 (0, 0)); have hlb : w.heap.size < wv.heap.size := (Array.getElem?_eq_some_iff.1 HZ.out.2).1; obtain ⟨lb, hlbe⟩ : ∃ lb, lb = wv.heap.size := ⟨_, rfl⟩; generalize hW1 : wv.alloc (.cells #[.pointer none, .pointer (some ⟨tb, 0, none⟩), .int .i64 c.echo, .int .i64 c.magic, .int .i64 0, .int .i64 0, .int .i64 0] 99 (0, 0)) = W1 at hz1 hl1 hw1 hs1 ⊢; rw [<- hlbe] at hl1 hs1 hlb ⊢; clear hW1 hlbe HZ; have HZ := H_ (A_ hz1 (A_ hl1 (A_ hw1 (A_ hs1 hlb))))
   have HS : Hid (∀ W, Below W1.heap.size W1 W -> (fun Y : World => Y.cell? ⟨w.heap.size, 0, none⟩ = some (.int .i64 c.mru) /\ Y.cell? ⟨w.heap.size, 1, none⟩ = some (.int .i64 c.auth) /\ Y.cell? ⟨w.heap.size, 2, none⟩ = some (.int .i64 c.magic) /\ Y.cell? ⟨w.heap.size, 3, none⟩ = some (.int .i64 c.echo) /\ Y.cell? ⟨w.heap.size, 4, none⟩ = some (.int .i64 c.cf) /\ Y.cell? ⟨w.heap.size, 5, none⟩ = some (.int .i64 c.tm) /\ Y.cell? ⟨w.heap.size, 6, none⟩ = some (.int .i64 c.fl) /\ Y.cell? ⟨w.heap.size, 7, none⟩ = some (.int .i64 c.wt)) W) := H_ fun W hW => by
    have h : W.heap[w.heap.size]? = some (.cells #[.int .i64 c.mru, .int .i64 c.auth, .int .i64 c.magic, .int .i64 c.echo, .int .i64 c.cf, .int .i64 c.tm, .int .i64 c.fl, .int .i64 c.wt] 86 (0, 0)) := (hW.block _ (by have := HZ.out.2.2.2.1; have := HZ.out.2.2.2.2; omega)).trans HZ.out.1; exact ⟨cellOf h 0 _ rfl, cellOf h 1 _ rfl, cellOf h 2 _ rfl, cellOf h 3 _ rfl, cellOf h 4 _ rfl, cellOf h 5 _ rfl, cellOf h 6 _ rfl, cellOf h 7 _ rfl⟩
   have HLO := H_ (fun W => lopts_any c W HIA.out); unfold cfgV at HLO; have a1 : ∀ (W : World) (O : Obj), W.heap.size < (W.alloc O).heap.size := fun W O => by rw [alloc1]; omega
   have HA1 := H_ a1; have HG := H_ (fun wE B bE nE => lnew_end (c := c) (w := w) (W1 := W1) (wE := wE) (lb := lb) (tb := tb) (okt := okt) (t := t) (B := B) hw1 hl1 (by have := H.out.2.1; exact TapeAt.keep this (Keep.of_below (fun _ => False) hw1) (fun h => h) (fun _ _ _ h => h)) (fun b hb => ⟨Nat.lt_of_lt_of_le (H.out.2.2 b hb) hw1.size, by have := H.out.2.2 b hb; omega⟩) (by have := H.out.2.1.lt; omega) (by omega) bE nE); obtain ⟨y0, y1, y2, y3, y4, y5, y6, y7⟩ := HS.out W1.drew (Below.refl _ _).drew; clear hz1 hl1 hw1 hs1 hlb a1; refine wp_region_H (rgH 0 23) (fun Y : World => Y.cell? ⟨w.heap.size, 0, none⟩ = some (.int .i64 c.mru) /\ Y.cell? ⟨w.heap.size, 1, none⟩ = some (.int .i64 c.auth) /\ Y.cell? ⟨w.heap.size, 2, none⟩ = some (.int .i64 c.magic) /\ Y.cell? ⟨w.heap.size, 3, none⟩ = some (.int .i64 c.echo) /\ Y.cell? ⟨w.heap.size, 4, none⟩ = some (.int .i64 c.cf) /\ Y.cell? ⟨w.heap.size, 5, none⟩ = some (.int .i64 c.tm) /\ Y.cell? ⟨w.heap.size, 6, none⟩ = some (.int .i64 c.fl) /\ Y.cell? ⟨w.heap.size, 7, none⟩ = some (.int .i64 c.wt)) (by kernel_rfl) ?_; have HSv : (fun Y : World => Y.cell? ⟨w.heap.size, 0, none⟩ = some (.int .i64 c.mru) /\ Y.cell? ⟨w.heap.size, 1, none⟩ = some (.int .i64 c.auth) /\ Y.cell? ⟨w.heap.size, 2, none⟩ = some (.int .i64 c.magic) /\ Y.cell? ⟨w.heap.size, 3, none⟩ = some (.int .i64 c.echo) /\ Y.cell? ⟨w.heap.size, 4, none⟩ = some (.int .i64 c.cf) /\ Y.cell? ⟨w.heap.size, 5, none⟩ = some (.int .i64 c.tm) /\ Y.cell? ⟨w.heap.size, 6, none⟩ = some (.int .i64 c.fl) /\ Y.cell? ⟨w.heap.size, 7, none⟩ = some (.int .i64 c.wt)) W1.drew := HS.out _ (Below.refl _ _).drew; have HB := H_ (show Below W1.heap.size W1 W1.drew from (Below.refl _ _).drew); refine hatH 0 rfl (by rintro W ⟨h0, h1, h2, h3, h4, h5, h6, h7⟩; go_simp; try rfl) HSv ?_; simp only [aZ, aC, aD]; refine hatH 6 rfl (by rintro W ⟨h0, h1, h2, h3, h4, h5, h6, h7⟩; go_simp; try rfl) HSv ?_; simp only [aZ, aC, aD]; refine hatH 7 rfl (by rintro W ⟨h0, h1, h2, h3, h4, h5, h6, h7⟩; go_simp; try rfl) HSv ?_; simp only [aZ, aC, aD]; refine hatH 8 rfl (by rintro W ⟨h0, h1, h2, h3, h4, h5, h6, h7⟩; go_simp; try rfl) HSv ?_; simp only [aZ, aC, aD]; refine hatH 9 rfl (by rintro W ⟨h0, h1, h2, h3, h4, h5, h6, h7⟩; go_simp; try rfl) HSv ?_; simp only [aZ, aC, aD]; refine hatH 10 rfl (by rintro W ⟨h0, h1, h2, h3, h4, h5, h6, h7⟩; go_simp; try rfl) HSv ?_; simp only [aZ, aC, aD]; refine hatH 11 rfl (by rintro W ⟨h0, h1, h2, h3, h4, h5, h6, h7⟩; go_simp; try rfl) HSv ?_; simp only [aZ, aC, aD]; refine hatH 12 rfl (by rintro W ⟨h0, h1, h2, h3, h4, h5, h6, h7⟩; go_simp; try rfl) HSv ?_; simp only [aZ, aC, aD]; refine hatH 13 rfl (by rintro W ⟨h0, h1, h2, h3, h4, h5, h6, h7⟩; go_simp; try rfl) HSv ?_; simp only [aZ, aC, aD]; refine hatH 15 rfl (by rintro W ⟨h0, h1, h2, h3, h4, h5, h6, h7⟩; go_simp; try rfl) HSv ?_; simp only [aZ, aC, aD]; refine hatH 16 rfl (by rintro W ⟨h0, h1, h2, h3, h4, h5, h6, h7⟩; go_simp; try rfl) HSv ?_; simp only [aZ, aC, aD]; generalize W1.drew = W at HSv HB ⊢; refine wpAnyH_2 1 5 rfl rfl (by kernel_rfl) ?_ ?_
   . intro K hK; rw [if_pos (by rfl)]
     try go_simp
     go_at_call 89; refine (HLO.out _).mono ?_; rintro e W2 ⟨vA, rfl, rA, bA⟩; obtain ⟨sA, cA, rfl⟩ := rA.form; have HR := H_ (rA.base HB.out.size); have HB := H_ (HB.out.trans (bA.mono HB.out.size)); have HSv : (fun Y : World => Y.cell? ⟨w.heap.size, 0, none⟩ = some (.int .i64 c.mru) /\ Y.cell? ⟨w.heap.size, 1, none⟩ = some (.int .i64 c.auth) /\ Y.cell? ⟨w.heap.size, 2, none⟩ = some (.int .i64 c.magic) /\ Y.cell? ⟨w.heap.size, 3, none⟩ = some (.int .i64 c.echo) /\ Y.cell? ⟨w.heap.size, 4, none⟩ = some (.int .i64 c.cf) /\ Y.cell? ⟨w.heap.size, 5, none⟩ = some (.int .i64 c.tm) /\ Y.cell? ⟨w.heap.size, 6, none⟩ = some (.int .i64 c.fl) /\ Y.cell? ⟨w.heap.size, 7, none⟩ = some (.int .i64 c.wt)) W2 := HS.out _ HB.out; refine hK _ _ (fun _ => HSv) ?_
     try simp only [aZ, aA, aE, aB, aC, aD]
     clear rA bA; refine wpAnyH_2 2 5 rfl rfl (by kernel_rfl) ?_ ?_
     . intro K hK; rw [if_pos (by rfl)]
       try go_simp
       go_at_call 90; refine (units_any 1492 _).mono ?_; rintro e W3 ⟨rfl, bA⟩; have HR := H_ (HR.out.below bA); have HB := H_ (HB.out.trans (bA.mono HB.out.size)); have HSv : (fun Y : World => Y.cell? ⟨w.heap.size, 0, none⟩ = some (.int .i64 c.mru) /\ Y.cell? ⟨w.heap.size, 1, none⟩ = some (.int .i64 c.auth) /\ Y.cell? ⟨w.heap.size, 2, none⟩ = some (.int .i64 c.magic) /\ Y.cell? ⟨w.heap.size, 3, none⟩ = some (.int .i64 c.echo) /\ Y.cell? ⟨w.heap.size, 4, none⟩ = some (.int .i64 c.cf) /\ Y.cell? ⟨w.heap.size, 5, none⟩ = some (.int .i64 c.tm) /\ Y.cell? ⟨w.heap.size, 6, none⟩ = some (.int .i64 c.fl) /\ Y.cell? ⟨w.heap.size, 7, none⟩ = some (.int .i64 c.wt)) W3 := HS.out _ HB.out; refine hK _ _ (fun _ => HSv) ?_
       try simp only [aZ, aA, aE, aB, aC, aD]
       clear bA; refine wpAnyH_2 3 5 rfl rfl (by kernel_rfl) ?_ ?_
       . intro K hK; rw [if_pos (by rfl)]
         try go_simp
         go_at_call 91; refine (magics_any _).mono ?_; rintro e W4 ⟨rfl, bA⟩; have HR := H_ (HR.out.below bA); have HB := H_ (HB.out.trans (bA.mono HB.out.size)); have HSv : (fun Y : World => Y.cell? ⟨w.heap.size, 0, none⟩ = some (.int .i64 c.mru) /\ Y.cell? ⟨w.heap.size, 1, none⟩ = some (.int .i64 c.auth) /\ Y.cell? ⟨w.heap.size, 2, none⟩ = some (.int .i64 c.magic) /\ Y.cell? ⟨w.heap.size, 3, none⟩ = some (.int .i64 c.echo) /\ Y.cell? ⟨w.heap.size, 4, none⟩ = some (.int .i64 c.cf) /\ Y.cell? ⟨w.heap.size, 5, none⟩ = some (.int .i64 c.tm) /\ Y.cell? ⟨w.heap.size, 6, none⟩ = some (.int .i64 c.fl) /\ Y.cell? ⟨w.heap.size, 7, none⟩ = some (.int .i64 c.wt)) W4 := HS.out _ HB.out; refine hK _ _ (fun _ => HSv) ?_
         try simp only [aZ, aA, aE, aB, aC, aD]
         clear bA; refine wpAnyH_2 4 5 rfl rfl (by kernel_rfl) ?_ ?_
         . intro K hK; rw [if_pos (by rfl)]
           try go_simp
           have bA : Below W4.heap.size W4 (W4.alloc (.cells #[.int .i64 1, .int .i64 2, .int .i64 64, .int .i64 1492, .string (be2 1492), .int .i64 5, .int .i64 4, .int .i64 1, .int .i64 4294967295, .string (be4 1)] 136 (0, 0))) := (Below.refl _ _).alloc (Nat.le_refl _) _; have hz := at1 W4 (.cells #[.int .i64 1, .int .i64 2, .int .i64 64, .int .i64 1492, .string (be2 1492), .int .i64 5, .int .i64 4, .int .i64 1, .int .i64 4294967295, .string (be4 1)] 136 (0, 0)); generalize hW5 : W4.alloc (.cells #[.int .i64 1, .int .i64 2, .int .i64 64, .int .i64 1492, .string (be2 1492), .int .i64 5, .int .i64 4, .int .i64 1, .int .i64 4294967295, .string (be4 1)] 136 (0, 0)) = W5 at bA hz ⊢; obtain ⟨rb, hrb⟩ : ∃ rb, rb = W4.heap.size := ⟨_, rfl⟩; rw [<- hrb] at hz ⊢; have HRu := H_ hz; have HR := H_ (HR.out.below bA); have HB := H_ (HB.out.trans (bA.mono HB.out.size)); have HSv : (fun Y : World => Y.cell? ⟨w.heap.size, 0, none⟩ = some (.int .i64 c.mru) /\ Y.cell? ⟨w.heap.size, 1, none⟩ = some (.int .i64 c.auth) /\ Y.cell? ⟨w.heap.size, 2, none⟩ = some (.int .i64 c.magic) /\ Y.cell? ⟨w.heap.size, 3, none⟩ = some (.int .i64 c.echo) /\ Y.cell? ⟨w.heap.size, 4, none⟩ = some (.int .i64 c.cf) /\ Y.cell? ⟨w.heap.size, 5, none⟩ = some (.int .i64 c.tm) /\ Y.cell? ⟨w.heap.size, 6, none⟩ = some (.int .i64 c.fl) /\ Y.cell? ⟨w.heap.size, 7, none⟩ = some (.int .i64 c.wt)) W5 := HS.out _ HB.out; refine hK _ _ (fun _ => HSv) ?_
           try simp only [aZ, aA, aE, aB, aC, aD]
           clear bA hz hW5 hrb; refine hone 5 rfl fun K hK => ?_
           try go_simp
           have bA : Below W5.heap.size W5 (W5.alloc (.cells #[.int .i64 3] 3 (0, 0))) := (Below.refl _ _).alloc (Nat.le_refl _) _; have hz := at1 W5 (.cells #[.int .i64 3] 3 (0, 0)); generalize hW6 : W5.alloc (.cells #[.int .i64 3] 3 (0, 0)) = W6 at bA hz ⊢; obtain ⟨ib, hib⟩ : ∃ ib, ib = W5.heap.size := ⟨_, rfl⟩; rw [<- hib] at hz ⊢; have HI := H_ hz; have HR := H_ (HR.out.below bA); have HRu := H_ ((bA.block _ (Array.getElem?_eq_some_iff.1 HRu.out).1).trans HRu.out); have HB := H_ (HB.out.trans (bA.mono HB.out.size)); have HSv : (fun Y : World => Y.cell? ⟨w.heap.size, 0, none⟩ = some (.int .i64 c.mru) /\ Y.cell? ⟨w.heap.size, 1, none⟩ = some (.int .i64 c.auth) /\ Y.cell? ⟨w.heap.size, 2, none⟩ = some (.int .i64 c.magic) /\ Y.cell? ⟨w.heap.size, 3, none⟩ = some (.int .i64 c.echo) /\ Y.cell? ⟨w.heap.size, 4, none⟩ = some (.int .i64 c.cf) /\ Y.cell? ⟨w.heap.size, 5, none⟩ = some (.int .i64 c.tm) /\ Y.cell? ⟨w.heap.size, 6, none⟩ = some (.int .i64 c.fl) /\ Y.cell? ⟨w.heap.size, 7, none⟩ = some (.int .i64 c.wt)) W6 := HS.out _ HB.out; refine hK _ _ (fun _ => HSv) ?_
           try simp only [aZ, aA, aE, aB, aC, aD]
           clear bA hz hW6 hib; refine hatH 14 rfl (by rintro W ⟨h0, h1, h2, h3, h4, h5, h6, h7⟩; go_simp; try rfl) HSv ?_; simp only [aZ, aC, aD]; refine hone 17 rfl fun K hK => ?_
           try go_simp
           go_at_call 88; refine (HNN.out lb W1 W6 sA cA rb ib HB.out HR.out HRu.out HI.out).mono ?_; rintro e wE ⟨B, rfl, nE, bE⟩; have zl := (bE.block lb (Array.getElem?_eq_some_iff.1 HZ.out.2.1).1).trans HZ.out.2.1; have f0 := fzOf zl 0; have c0 : wE.cell? ⟨lb, 0, none⟩ = some (.pointer none) := cellOf zl 0 _ rfl; have HN := H_ (A_ bE nE); have HSv : (fun Y : World => Y.cell? ⟨w.heap.size, 0, none⟩ = some (.int .i64 c.mru) /\ Y.cell? ⟨w.heap.size, 1, none⟩ = some (.int .i64 c.auth) /\ Y.cell? ⟨w.heap.size, 2, none⟩ = some (.int .i64 c.magic) /\ Y.cell? ⟨w.heap.size, 3, none⟩ = some (.int .i64 c.echo) /\ Y.cell? ⟨w.heap.size, 4, none⟩ = some (.int .i64 c.cf) /\ Y.cell? ⟨w.heap.size, 5, none⟩ = some (.int .i64 c.tm) /\ Y.cell? ⟨w.heap.size, 6, none⟩ = some (.int .i64 c.fl) /\ Y.cell? ⟨w.heap.size, 7, none⟩ = some (.int .i64 c.wt)) wE := HS.out _ bE; clear bE nE zl; refine hK _ _ (fun _ => HSv) ?_
           try simp only [aZ, aA, aE, aB, aC, aD]
           refine hatH 18 rfl (by rintro W ⟨h0, h1, h2, h3, h4, h5, h6, h7⟩; go_simp; try rfl) HSv ?_; simp only [aZ, aC, aD]; refine hatH 19 rfl (by rintro W ⟨h0, h1, h2, h3, h4, h5, h6, h7⟩; go_simp; try rfl) HSv ?_; simp only [aZ, aC, aD]; refine hatH 21 rfl (by rintro W ⟨h0, h1, h2, h3, h4, h5, h6, h7⟩; go_simp; try rfl) HSv ?_; simp only [aZ, aC, aD]; refine hatH 20 rfl (by rintro W ⟨h0, h1, h2, h3, h4, h5, h6, h7⟩; go_simp; try rfl) HSv ?_; simp only [aZ, aC, aD]; refine hatH 22 rfl (by rintro W ⟨h0, h1, h2, h3, h4, h5, h6, h7⟩; go_simp; try rfl) HSv ?_; simp only [aZ, aC, aD]; refine hend 23 ?_; simp only [aF, aG]; clear HSv; go_wp2_with fail; go_ret2; exact HG.out wE B HN.out.1 HN.out.2
         . intro K hK; rw [if_pos (by rfl)]
           try go_simp
           have bA : Below W4.heap.size W4 (W4.alloc (.cells #[.int .i64 3] 3 (0, 0))) := (Below.refl _ _).alloc (Nat.le_refl _) _; have hz := at1 W4 (.cells #[.int .i64 3] 3 (0, 0)); generalize hW5 : W4.alloc (.cells #[.int .i64 3] 3 (0, 0)) = W5 at bA hz ⊢; obtain ⟨ib, hib⟩ : ∃ ib, ib = W4.heap.size := ⟨_, rfl⟩; rw [<- hib] at hz ⊢; have HI := H_ hz; have HR := H_ (HR.out.below bA); have HB := H_ (HB.out.trans (bA.mono HB.out.size)); have HSv : (fun Y : World => Y.cell? ⟨w.heap.size, 0, none⟩ = some (.int .i64 c.mru) /\ Y.cell? ⟨w.heap.size, 1, none⟩ = some (.int .i64 c.auth) /\ Y.cell? ⟨w.heap.size, 2, none⟩ = some (.int .i64 c.magic) /\ Y.cell? ⟨w.heap.size, 3, none⟩ = some (.int .i64 c.echo) /\ Y.cell? ⟨w.heap.size, 4, none⟩ = some (.int .i64 c.cf) /\ Y.cell? ⟨w.heap.size, 5, none⟩ = some (.int .i64 c.tm) /\ Y.cell? ⟨w.heap.size, 6, none⟩ = some (.int .i64 c.fl) /\ Y.cell? ⟨w.heap.size, 7, none⟩ = some (.int .i64 c.wt)) W5 := HS.out _ HB.out; refine hK _ _ (fun _ => HSv) ?_
           try simp only [aZ, aA, aE, aB, aC, aD]
           clear bA hz hW5 hib; refine hone 4 rfl fun K hK => ?_
           try go_simp
           have bA : Below W5.heap.size W5 (W5.alloc (.cells #[.int .i64 1, .int .i64 2, .int .i64 64, .int .i64 1492, .string (be2 1492), .int .i64 5, .int .i64 4, .int .i64 1, .int .i64 4294967295, .string (be4 1)] 136 (0, 0))) := (Below.refl _ _).alloc (Nat.le_refl _) _; have hz := at1 W5 (.cells #[.int .i64 1, .int .i64 2, .int .i64 64, .int .i64 1492, .string (be2 1492), .int .i64 5, .int .i64 4, .int .i64 1, .int .i64 4294967295, .string (be4 1)] 136 (0, 0)); generalize hW6 : W5.alloc (.cells #[.int .i64 1, .int .i64 2, .int .i64 64, .int .i64 1492, .string (be2 1492), .int .i64 5, .int .i64 4, .int .i64 1, .int .i64 4294967295, .string (be4 1)] 136 (0, 0)) = W6 at bA hz ⊢; obtain ⟨rb, hrb⟩ : ∃ rb, rb = W5.heap.size := ⟨_, rfl⟩; rw [<- hrb] at hz ⊢; have HRu := H_ hz; have HR := H_ (HR.out.below bA); have HB := H_ (HB.out.trans (bA.mono HB.out.size)); have HSv : (fun Y : World => Y.cell? ⟨w.heap.size, 0, none⟩ = some (.int .i64 c.mru) /\ Y.cell? ⟨w.heap.size, 1, none⟩ = some (.int .i64 c.auth) /\ Y.cell? ⟨w.heap.size, 2, none⟩ = some (.int .i64 c.magic) /\ Y.cell? ⟨w.heap.size, 3, none⟩ = some (.int .i64 c.echo) /\ Y.cell? ⟨w.heap.size, 4, none⟩ = some (.int .i64 c.cf) /\ Y.cell? ⟨w.heap.size, 5, none⟩ = some (.int .i64 c.tm) /\ Y.cell? ⟨w.heap.size, 6, none⟩ = some (.int .i64 c.fl) /\ Y.cell? ⟨w.heap.size, 7, none⟩ = some (.int .i64 c.wt)) W6 := HS.out _ HB.out; have HI := H_ ((bA.block _ (Array.getElem?_eq_some_iff.1 HI.out).1).trans HI.out); refine hK _ _ (fun _ => HSv) ?_
           try simp only [aZ, aA, aE, aB, aC, aD]
           clear bA hz hW6 hrb; refine hatH 14 rfl (by rintro W ⟨h0, h1, h2, h3, h4, h5, h6, h7⟩; go_simp; try rfl) HSv ?_; simp only [aZ, aC, aD]; refine hone 17 rfl fun K hK => ?_
           try go_simp
           go_at_call 88; refine (HNN.out lb W1 W6 sA cA rb ib HB.out HR.out HRu.out HI.out).mono ?_; rintro e wE ⟨B, rfl, nE, bE⟩; have zl := (bE.block lb (Array.getElem?_eq_some_iff.1 HZ.out.2.1).1).trans HZ.out.2.1; have f0 := fzOf zl 0; have c0 : wE.cell? ⟨lb, 0, none⟩ = some (.pointer none) := cellOf zl 0 _ rfl; have HN := H_ (A_ bE nE); have HSv : (fun Y : World => Y.cell? ⟨w.heap.size, 0, none⟩ = some (.int .i64 c.mru) /\ Y.cell? ⟨w.heap.size, 1, none⟩ = some (.int .i64 c.auth) /\ Y.cell? ⟨w.heap.size, 2, none⟩ = some (.int .i64 c.magic) /\ Y.cell? ⟨w.heap.size, 3, none⟩ = some (.int .i64 c.echo) /\ Y.cell? ⟨w.heap.size, 4, none⟩ = some (.int .i64 c.cf) /\ Y.cell? ⟨w.heap.size, 5, none⟩ = some (.int .i64 c.tm) /\ Y.cell? ⟨w.heap.size, 6, none⟩ = some (.int .i64 c.fl) /\ Y.cell? ⟨w.heap.size, 7, none⟩ = some (.int .i64 c.wt)) wE := HS.out _ bE; clear bE nE zl; refine hK _ _ (fun _ => HSv) ?_
           try simp only [aZ, aA, aE, aB, aC, aD]
           refine hatH 18 rfl (by rintro W ⟨h0, h1, h2, h3, h4, h5, h6, h7⟩; go_simp; try rfl) HSv ?_; simp only [aZ, aC, aD]; refine hatH 19 rfl (by rintro W ⟨h0, h1, h2, h3, h4, h5, h6, h7⟩; go_simp; try rfl) HSv ?_; simp only [aZ, aC, aD]; refine hatH 21 rfl (by rintro W ⟨h0, h1, h2, h3, h4, h5, h6, h7⟩; go_simp; try rfl) HSv ?_; simp only [aZ, aC, aD]; refine hatH 20 rfl (by rintro W ⟨h0, h1, h2, h3, h4, h5, h6, h7⟩; go_simp; try rfl) HSv ?_; simp only [aZ, aC, aD]; refine hatH 22 rfl (by rintro W ⟨h0, h1, h2, h3, h4, h5, h6, h7⟩; go_simp; try rfl) HSv ?_; simp only [aZ, aC, aD]; refine hend 23 ?_; simp only [aF, aG]; clear HSv; go_wp2_with fail; go_ret2; exact HG.out wE B HN.out.1 HN.out.2
       . intro K hK; rw [if_pos (by rfl)]
         try go_simp
         have bA : Below W3.heap.size W3 (W3.alloc (.cells #[.int .i64 3] 3 (0, 0))) := (Below.refl _ _).alloc (Nat.le_refl _) _; have hz := at1 W3 (.cells #[.int .i64 3] 3 (0, 0)); generalize hW4 : W3.alloc (.cells #[.int .i64 3] 3 (0, 0)) = W4 at bA hz ⊢; obtain ⟨ib, hib⟩ : ∃ ib, ib = W3.heap.size := ⟨_, rfl⟩; rw [<- hib] at hz ⊢; have HI := H_ hz; have HR := H_ (HR.out.below bA); have HB := H_ (HB.out.trans (bA.mono HB.out.size)); have HSv : (fun Y : World => Y.cell? ⟨w.heap.size, 0, none⟩ = some (.int .i64 c.mru) /\ Y.cell? ⟨w.heap.size, 1, none⟩ = some (.int .i64 c.auth) /\ Y.cell? ⟨w.heap.size, 2, none⟩ = some (.int .i64 c.magic) /\ Y.cell? ⟨w.heap.size, 3, none⟩ = some (.int .i64 c.echo) /\ Y.cell? ⟨w.heap.size, 4, none⟩ = some (.int .i64 c.cf) /\ Y.cell? ⟨w.heap.size, 5, none⟩ = some (.int .i64 c.tm) /\ Y.cell? ⟨w.heap.size, 6, none⟩ = some (.int .i64 c.fl) /\ Y.cell? ⟨w.heap.size, 7, none⟩ = some (.int .i64 c.wt)) W4 := HS.out _ HB.out; refine hK _ _ (fun _ => HSv) ?_
         try simp only [aZ, aA, aE, aB, aC, aD]
         clear bA hz hW4 hib; refine hone 3 rfl fun K hK => ?_
         try go_simp
         go_at_call 91; refine (magics_any _).mono ?_; rintro e W5 ⟨rfl, bA⟩; have HR := H_ (HR.out.below bA); have HB := H_ (HB.out.trans (bA.mono HB.out.size)); have HSv : (fun Y : World => Y.cell? ⟨w.heap.size, 0, none⟩ = some (.int .i64 c.mru) /\ Y.cell? ⟨w.heap.size, 1, none⟩ = some (.int .i64 c.auth) /\ Y.cell? ⟨w.heap.size, 2, none⟩ = some (.int .i64 c.magic) /\ Y.cell? ⟨w.heap.size, 3, none⟩ = some (.int .i64 c.echo) /\ Y.cell? ⟨w.heap.size, 4, none⟩ = some (.int .i64 c.cf) /\ Y.cell? ⟨w.heap.size, 5, none⟩ = some (.int .i64 c.tm) /\ Y.cell? ⟨w.heap.size, 6, none⟩ = some (.int .i64 c.fl) /\ Y.cell? ⟨w.heap.size, 7, none⟩ = some (.int .i64 c.wt)) W5 := HS.out _ HB.out; have HI := H_ ((bA.block _ (Array.getElem?_eq_some_iff.1 HI.out).1).trans HI.out); refine hK _ _ (fun _ => HSv) ?_
         try simp only [aZ, aA, aE, aB, aC, aD]
         clear bA; refine hone 4 rfl fun K hK => ?_
         try go_simp
         have bA : Below W5.heap.size W5 (W5.alloc (.cells #[.int .i64 1, .int .i64 2, .int .i64 64, .int .i64 1492, .string (be2 1492), .int .i64 5, .int .i64 4, .int .i64 1, .int .i64 4294967295, .string (be4 1)] 136 (0, 0))) := (Below.refl _ _).alloc (Nat.le_refl _) _; have hz := at1 W5 (.cells #[.int .i64 1, .int .i64 2, .int .i64 64, .int .i64 1492, .string (be2 1492), .int .i64 5, .int .i64 4, .int .i64 1, .int .i64 4294967295, .string (be4 1)] 136 (0, 0)); generalize hW6 : W5.alloc (.cells #[.int .i64 1, .int .i64 2, .int .i64 64, .int .i64 1492, .string (be2 1492), .int .i64 5, .int .i64 4, .int .i64 1, .int .i64 4294967295, .string (be4 1)] 136 (0, 0)) = W6 at bA hz ⊢; obtain ⟨rb, hrb⟩ : ∃ rb, rb = W5.heap.size := ⟨_, rfl⟩; rw [<- hrb] at hz ⊢; have HRu := H_ hz; have HR := H_ (HR.out.below bA); have HB := H_ (HB.out.trans (bA.mono HB.out.size)); have HSv : (fun Y : World => Y.cell? ⟨w.heap.size, 0, none⟩ = some (.int .i64 c.mru) /\ Y.cell? ⟨w.heap.size, 1, none⟩ = some (.int .i64 c.auth) /\ Y.cell? ⟨w.heap.size, 2, none⟩ = some (.int .i64 c.magic) /\ Y.cell? ⟨w.heap.size, 3, none⟩ = some (.int .i64 c.echo) /\ Y.cell? ⟨w.heap.size, 4, none⟩ = some (.int .i64 c.cf) /\ Y.cell? ⟨w.heap.size, 5, none⟩ = some (.int .i64 c.tm) /\ Y.cell? ⟨w.heap.size, 6, none⟩ = some (.int .i64 c.fl) /\ Y.cell? ⟨w.heap.size, 7, none⟩ = some (.int .i64 c.wt)) W6 := HS.out _ HB.out; have HI := H_ ((bA.block _ (Array.getElem?_eq_some_iff.1 HI.out).1).trans HI.out); refine hK _ _ (fun _ => HSv) ?_
         try simp only [aZ, aA, aE, aB, aC, aD]
         clear bA hz hW6 hrb; refine hatH 14 rfl (by rintro W ⟨h0, h1, h2, h3, h4, h5, h6, h7⟩; go_simp; try rfl) HSv ?_; simp only [aZ, aC, aD]; refine hone 17 rfl fun K hK => ?_
         try go_simp
         go_at_call 88; refine (HNN.out lb W1 W6 sA cA rb ib HB.out HR.out HRu.out HI.out).mono ?_; rintro e wE ⟨B, rfl, nE, bE⟩; have zl := (bE.block lb (Array.getElem?_eq_some_iff.1 HZ.out.2.1).1).trans HZ.out.2.1; have f0 := fzOf zl 0; have c0 : wE.cell? ⟨lb, 0, none⟩ = some (.pointer none) := cellOf zl 0 _ rfl; have HN := H_ (A_ bE nE); have HSv : (fun Y : World => Y.cell? ⟨w.heap.size, 0, none⟩ = some (.int .i64 c.mru) /\ Y.cell? ⟨w.heap.size, 1, none⟩ = some (.int .i64 c.auth) /\ Y.cell? ⟨w.heap.size, 2, none⟩ = some (.int .i64 c.magic) /\ Y.cell? ⟨w.heap.size, 3, none⟩ = some (.int .i64 c.echo) /\ Y.cell? ⟨w.heap.size, 4, none⟩ = some (.int .i64 c.cf) /\ Y.cell? ⟨w.heap.size, 5, none⟩ = some (.int .i64 c.tm) /\ Y.cell? ⟨w.heap.size, 6, none⟩ = some (.int .i64 c.fl) /\ Y.cell? ⟨w.heap.size, 7, none⟩ = some (.int .i64 c.wt)) wE := HS.out _ bE; clear bE nE zl; refine hK _ _ (fun _ => HSv) ?_
         try simp only [aZ, aA, aE, aB, aC, aD]
         refine hatH 18 rfl (by rintro W ⟨h0, h1, h2, h3, h4, h5, h6, h7⟩; go_simp; try rfl) HSv ?_; simp only [aZ, aC, aD]; refine hatH 19 rfl (by rintro W ⟨h0, h1, h2, h3, h4, h5, h6, h7⟩; go_simp; try rfl) HSv ?_; simp only [aZ, aC, aD]; refine hatH 21 rfl (by rintro W ⟨h0, h1, h2, h3, h4, h5, h6, h7⟩; go_simp; try rfl) HSv ?_; simp only [aZ, aC, aD]; refine hatH 20 rfl (by rintro W ⟨h0, h1, h2, h3, h4, h5, h6, h7⟩; go_simp; try rfl) HSv ?_; simp only [aZ, aC, aD]; refine hatH 22 rfl (by rintro W ⟨h0, h1, h2, h3, h4, h5, h6, h7⟩; go_simp; try rfl) HSv ?_; simp only [aZ, aC, aD]; refine hend 23 ?_; simp only [aF, aG]; clear HSv; go_wp2_with fail; go_ret2; exact HG.out wE B HN.out.1 HN.out.2
     . intro K hK; rw [if_pos (by rfl)]
       try go_simp
       have bA : Below W2.heap.size W2 (W2.alloc (.cells #[.int .i64 3] 3 (0, 0))) := (Below.refl _ _).alloc (Nat.le_refl _) _; have hz := at1 W2 (.cells #[.int .i64 3] 3 (0, 0)); generalize hW3 : W2.alloc (.cells #[.int .i64 3] 3 (0, 0)) = W3 at bA hz ⊢; obtain ⟨ib, hib⟩ : ∃ ib, ib = W2.heap.size := ⟨_, rfl⟩; rw [<- hib] at hz ⊢; have HI := H_ hz; have HR := H_ (HR.out.below bA); have HB := H_ (HB.out.trans (bA.mono HB.out.size)); have HSv : (fun Y : World => Y.cell? ⟨w.heap.size, 0, none⟩ = some (.int .i64 c.mru) /\ Y.cell? ⟨w.heap.size, 1, none⟩ = some (.int .i64 c.auth) /\ Y.cell? ⟨w.heap.size, 2, none⟩ = some (.int .i64 c.magic) /\ Y.cell? ⟨w.heap.size, 3, none⟩ = some (.int .i64 c.echo) /\ Y.cell? ⟨w.heap.size, 4, none⟩ = some (.int .i64 c.cf) /\ Y.cell? ⟨w.heap.size, 5, none⟩ = some (.int .i64 c.tm) /\ Y.cell? ⟨w.heap.size, 6, none⟩ = some (.int .i64 c.fl) /\ Y.cell? ⟨w.heap.size, 7, none⟩ = some (.int .i64 c.wt)) W3 := HS.out _ HB.out; refine hK _ _ (fun _ => HSv) ?_
       try simp only [aZ, aA, aE, aB, aC, aD]
       clear bA hz hW3 hib; refine hone 2 rfl fun K hK => ?_
       try go_simp
       go_at_call 90; refine (units_any 1492 _).mono ?_; rintro e W4 ⟨rfl, bA⟩; have HR := H_ (HR.out.below bA); have HB := H_ (HB.out.trans (bA.mono HB.out.size)); have HSv : (fun Y : World => Y.cell? ⟨w.heap.size, 0, none⟩ = some (.int .i64 c.mru) /\ Y.cell? ⟨w.heap.size, 1, none⟩ = some (.int .i64 c.auth) /\ Y.cell? ⟨w.heap.size, 2, none⟩ = some (.int .i64 c.magic) /\ Y.cell? ⟨w.heap.size, 3, none⟩ = some (.int .i64 c.echo) /\ Y.cell? ⟨w.heap.size, 4, none⟩ = some (.int .i64 c.cf) /\ Y.cell? ⟨w.heap.size, 5, none⟩ = some (.int .i64 c.tm) /\ Y.cell? ⟨w.heap.size, 6, none⟩ = some (.int .i64 c.fl) /\ Y.cell? ⟨w.heap.size, 7, none⟩ = some (.int .i64 c.wt)) W4 := HS.out _ HB.out; have HI := H_ ((bA.block _ (Array.getElem?_eq_some_iff.1 HI.out).1).trans HI.out); refine hK _ _ (fun _ => HSv) ?_
       try simp only [aZ, aA, aE, aB, aC, aD]
       clear bA; refine hone 3 rfl fun K hK => ?_
       try go_simp
       go_at_call 91; refine (magics_any _).mono ?_; rintro e W5 ⟨rfl, bA⟩; have HR := H_ (HR.out.below bA); have HB := H_ (HB.out.trans (bA.mono HB.out.size)); have HSv : (fun Y : World => Y.cell? ⟨w.heap.size, 0, none⟩ = some (.int .i64 c.mru) /\ Y.cell? ⟨w.heap.size, 1, none⟩ = some (.int .i64 c.auth) /\ Y.cell? ⟨w.heap.size, 2, none⟩ = some (.int .i64 c.magic) /\ Y.cell? ⟨w.heap.size, 3, none⟩ = some (.int .i64 c.echo) /\ Y.cell? ⟨w.heap.size, 4, none⟩ = some (.int .i64 c.cf) /\ Y.cell? ⟨w.heap.size, 5, none⟩ = some (.int .i64 c.tm) /\ Y.cell? ⟨w.heap.size, 6, none⟩ = some (.int .i64 c.fl) /\ Y.cell? ⟨w.heap.size, 7, none⟩ = some (.int .i64 c.wt)) W5 := HS.out _ HB.out; have HI := H_ ((bA.block _ (Array.getElem?_eq_some_iff.1 HI.out).1).trans HI.out); refine hK _ _ (fun _ => HSv) ?_
       try simp only [aZ, aA, aE, aB, aC, aD]
       clear bA; refine hone 4 rfl fun K hK => ?_
       try go_simp
       have bA : Below W5.heap.size W5 (W5.alloc (.cells #[.int .i64 1, .int .i64 2, .int .i64 64, .int .i64 1492, .string (be2 1492), .int .i64 5, .int .i64 4, .int .i64 1, .int .i64 4294967295, .string (be4 1)] 136 (0, 0))) := (Below.refl _ _).alloc (Nat.le_refl _) _; have hz := at1 W5 (.cells #[.int .i64 1, .int .i64 2, .int .i64 64, .int .i64 1492, .string (be2 1492), .int .i64 5, .int .i64 4, .int .i64 1, .int .i64 4294967295, .string (be4 1)] 136 (0, 0)); generalize hW6 : W5.alloc (.cells #[.int .i64 1, .int .i64 2, .int .i64 64, .int .i64 1492, .string (be2 1492), .int .i64 5, .int .i64 4, .int .i64 1, .int .i64 4294967295, .string (be4 1)] 136 (0, 0)) = W6 at bA hz ⊢; obtain ⟨rb, hrb⟩ : ∃ rb, rb = W5.heap.size := ⟨_, rfl⟩; rw [<- hrb] at hz ⊢; have HRu := H_ hz; have HR := H_ (HR.out.below bA); have HB := H_ (HB.out.trans (bA.mono HB.out.size)); have HSv : (fun Y : World => Y.cell? ⟨w.heap.size, 0, none⟩ = some (.int .i64 c.mru) /\ Y.cell? ⟨w.heap.size, 1, none⟩ = some (.int .i64 c.auth) /\ Y.cell? ⟨w.heap.size, 2, none⟩ = some (.int .i64 c.magic) /\ Y.cell? ⟨w.heap.size, 3, none⟩ = some (.int .i64 c.echo) /\ Y.cell? ⟨w.heap.size, 4, none⟩ = some (.int .i64 c.cf) /\ Y.cell? ⟨w.heap.size, 5, none⟩ = some (.int .i64 c.tm) /\ Y.cell? ⟨w.heap.size, 6, none⟩ = some (.int .i64 c.fl) /\ Y.cell? ⟨w.heap.size, 7, none⟩ = some (.int .i64 c.wt)) W6 := HS.out _ HB.out; have HI := H_ ((bA.block _ (Array.getElem?_eq_some_iff.1 HI.out).1).trans HI.out); refine hK _ _ (fun _ => HSv) ?_
       try simp only [aZ, aA, aE, aB, aC, aD]
       clear bA hz hW6 hrb; refine hatH 14 rfl (by rintro W ⟨h0, h1, h2, h3, h4, h5, h6, h7⟩; go_simp; try rfl) HSv ?_; simp only [aZ, aC, aD]; refine hone 17 rfl fun K hK => ?_
       try go_simp
       go_at_call 88; refine (HNN.out lb W1 W6 sA cA rb ib HB.out HR.out HRu.out HI.out).mono ?_; rintro e wE ⟨B, rfl, nE, bE⟩; have zl := (bE.block lb (Array.getElem?_eq_some_iff.1 HZ.out.2.1).1).trans HZ.out.2.1; have f0 := fzOf zl 0; have c0 : wE.cell? ⟨lb, 0, none⟩ = some (.pointer none) := cellOf zl 0 _ rfl; have HN := H_ (A_ bE nE); have HSv : (fun Y : World => Y.cell? ⟨w.heap.size, 0, none⟩ = some (.int .i64 c.mru) /\ Y.cell? ⟨w.heap.size, 1, none⟩ = some (.int .i64 c.auth) /\ Y.cell? ⟨w.heap.size, 2, none⟩ = some (.int .i64 c.magic) /\ Y.cell? ⟨w.heap.size, 3, none⟩ = some (.int .i64 c.echo) /\ Y.cell? ⟨w.heap.size, 4, none⟩ = some (.int .i64 c.cf) /\ Y.cell? ⟨w.heap.size, 5, none⟩ = some (.int .i64 c.tm) /\ Y.cell? ⟨w.heap.size, 6, none⟩ = some (.int .i64 c.fl) /\ Y.cell? ⟨w.heap.size, 7, none⟩ = some (.int .i64 c.wt)) wE := HS.out _ bE; clear bE nE zl; refine hK _ _ (fun _ => HSv) ?_
       try simp only [aZ, aA, aE, aB, aC, aD]
       refine hatH 18 rfl (by rintro W ⟨h0, h1, h2, h3, h4, h5, h6, h7⟩; go_simp; try rfl) HSv ?_; simp only [aZ, aC, aD]; refine hatH 19 rfl (by rintro W ⟨h0, h1, h2, h3, h4, h5, h6, h7⟩; go_simp; try rfl) HSv ?_; simp only [aZ, aC, aD]; refine hatH 21 rfl (by rintro W ⟨h0, h1, h2, h3, h4, h5, h6, h7⟩; go_simp; try rfl) HSv ?_; simp only [aZ, aC, aD]; refine hatH 20 rfl (by rintro W ⟨h0, h1, h2, h3, h4, h5, h6, h7⟩; go_simp; try rfl) HSv ?_; simp only [aZ, aC, aD]; refine hatH 22 rfl (by rintro W ⟨h0, h1, h2, h3, h4, h5, h6, h7⟩; go_simp; try rfl) HSv ?_; simp only [aZ, aC, aD]; refine hend 23 ?_; simp only [aF, aG]; clear HSv; go_wp2_with fail; go_ret2; exact HG.out wE B HN.out.1 HN.out.2
   . intro K hK; rw [if_pos (by rfl)]
     try go_simp
     have bA : Below W.heap.size W (W.alloc (.cells #[.int .i64 3] 3 (0, 0))) := (Below.refl _ _).alloc (Nat.le_refl _) _; have hz := at1 W (.cells #[.int .i64 3] 3 (0, 0)); generalize hW2 : W.alloc (.cells #[.int .i64 3] 3 (0, 0)) = W2 at bA hz ⊢; obtain ⟨ib, hib⟩ : ∃ ib, ib = W.heap.size := ⟨_, rfl⟩; rw [<- hib] at hz ⊢; have HI := H_ hz; have HB := H_ (HB.out.trans (bA.mono HB.out.size)); have HSv : (fun Y : World => Y.cell? ⟨w.heap.size, 0, none⟩ = some (.int .i64 c.mru) /\ Y.cell? ⟨w.heap.size, 1, none⟩ = some (.int .i64 c.auth) /\ Y.cell? ⟨w.heap.size, 2, none⟩ = some (.int .i64 c.magic) /\ Y.cell? ⟨w.heap.size, 3, none⟩ = some (.int .i64 c.echo) /\ Y.cell? ⟨w.heap.size, 4, none⟩ = some (.int .i64 c.cf) /\ Y.cell? ⟨w.heap.size, 5, none⟩ = some (.int .i64 c.tm) /\ Y.cell? ⟨w.heap.size, 6, none⟩ = some (.int .i64 c.fl) /\ Y.cell? ⟨w.heap.size, 7, none⟩ = some (.int .i64 c.wt)) W2 := HS.out _ HB.out; refine hK _ _ (fun _ => HSv) ?_
     try simp only [aZ, aA, aE, aB, aC, aD]
     clear bA hz hW2 hib; refine hone 1 rfl fun K hK => ?_
     try go_simp
     go_at_call 89; refine (HLO.out _).mono ?_; rintro e W3 ⟨vA, rfl, rA, bA⟩; obtain ⟨sA, cA, rfl⟩ := rA.form; have HR := H_ (rA.base HB.out.size); have HB := H_ (HB.out.trans (bA.mono HB.out.size)); have HSv : (fun Y : World => Y.cell? ⟨w.heap.size, 0, none⟩ = some (.int .i64 c.mru) /\ Y.cell? ⟨w.heap.size, 1, none⟩ = some (.int .i64 c.auth) /\ Y.cell? ⟨w.heap.size, 2, none⟩ = some (.int .i64 c.magic) /\ Y.cell? ⟨w.heap.size, 3, none⟩ = some (.int .i64 c.echo) /\ Y.cell? ⟨w.heap.size, 4, none⟩ = some (.int .i64 c.cf) /\ Y.cell? ⟨w.heap.size, 5, none⟩ = some (.int .i64 c.tm) /\ Y.cell? ⟨w.heap.size, 6, none⟩ = some (.int .i64 c.fl) /\ Y.cell? ⟨w.heap.size, 7, none⟩ = some (.int .i64 c.wt)) W3 := HS.out _ HB.out; have HI := H_ ((bA.block _ (Array.getElem?_eq_some_iff.1 HI.out).1).trans HI.out); refine hK _ _ (fun _ => HSv) ?_
     try simp only [aZ, aA, aE, aB, aC, aD]
     clear rA bA; refine hone 2 rfl fun K hK => ?_
     try go_simp
     go_at_call 90; refine (units_any 1492 _).mono ?_; rintro e W4 ⟨rfl, bA⟩; have HR := H_ (HR.out.below bA); have HB := H_ (HB.out.trans (bA.mono HB.out.size)); have HSv : (fun Y : World => Y.cell? ⟨w.heap.size, 0, none⟩ = some (.int .i64 c.mru) /\ Y.cell? ⟨w.heap.size, 1, none⟩ = some (.int .i64 c.auth) /\ Y.cell? ⟨w.heap.size, 2, none⟩ = some (.int .i64 c.magic) /\ Y.cell? ⟨w.heap.size, 3, none⟩ = some (.int .i64 c.echo) /\ Y.cell? ⟨w.heap.size, 4, none⟩ = some (.int .i64 c.cf) /\ Y.cell? ⟨w.heap.size, 5, none⟩ = some (.int .i64 c.tm) /\ Y.cell? ⟨w.heap.size, 6, none⟩ = some (.int .i64 c.fl) /\ Y.cell? ⟨w.heap.size, 7, none⟩ = some (.int .i64 c.wt)) W4 := HS.out _ HB.out; have HI := H_ ((bA.block _ (Array.getElem?_eq_some_iff.1 HI.out).1).trans HI.out); refine hK _ _ (fun _ => HSv) ?_
     try simp only [aZ, aA, aE, aB, aC, aD]
     clear bA; refine hone 3 rfl fun K hK => ?_
     try go_simp
     go_at_call 91; refine (magics_any _).mono ?_; rintro e W5 ⟨rfl, bA⟩; have HR := H_ (HR.out.below bA); have HB := H_ (HB.out.trans (bA.mono HB.out.size)); have HSv : (fun Y : World => Y.cell? ⟨w.heap.size, 0, none⟩ = some (.int .i64 c.mru) /\ Y.cell? ⟨w.heap.size, 1, none⟩ = some (.int .i64 c.auth) /\ Y.cell? ⟨w.heap.size, 2, none⟩ = some (.int .i64 c.magic) /\ Y.cell? ⟨w.heap.size, 3, none⟩ = some (.int .i64 c.echo) /\ Y.cell? ⟨w.heap.size, 4, none⟩ = some (.int .i64 c.cf) /\ Y.cell? ⟨w.heap.size, 5, none⟩ = some (.int .i64 c.tm) /\ Y.cell? ⟨w.heap.size, 6, none⟩ = some (.int .i64 c.fl) /\ Y.cell? ⟨w.heap.size, 7, none⟩ = some (.int .i64 c.wt)) W5 := HS.out _ HB.out; have HI := H_ ((bA.block _ (Array.getElem?_eq_some_iff.1 HI.out).1).trans HI.out); refine hK _ _ (fun _ => HSv) ?_
     try simp only [aZ, aA, aE, aB, aC, aD]
     clear bA; refine hone 4 rfl fun K hK => ?_
     try go_simp
     have bA : Below W5.heap.size W5 (W5.alloc (.cells #[.int .i64 1, .int .i64 2, .int .i64 64, .int .i64 1492, .string (be2 1492), .int .i64 5, .int .i64 4, .int .i64 1, .int .i64 4294967295, .string (be4 1)] 136 (0, 0))) := (Below.refl _ _).alloc (Nat.le_refl _) _; have hz := at1 W5 (.cells #[.int .i64 1, .int .i64 2, .int .i64 64, .int .i64 1492, .string (be2 1492), .int .i64 5, .int .i64 4, .int .i64 1, .int .i64 4294967295, .string (be4 1)] 136 (0, 0)); generalize hW6 : W5.alloc (.cells #[.int .i64 1, .int .i64 2, .int .i64 64, .int .i64 1492, .string (be2 1492), .int .i64 5, .int .i64 4, .int .i64 1, .int .i64 4294967295, .string (be4 1)] 136 (0, 0)) = W6 at bA hz ⊢; obtain ⟨rb, hrb⟩ : ∃ rb, rb = W5.heap.size := ⟨_, rfl⟩; rw [<- hrb] at hz ⊢; have HRu := H_ hz; have HR := H_ (HR.out.below bA); have HB := H_ (HB.out.trans (bA.mono HB.out.size)); have HSv : (fun Y : World => Y.cell? ⟨w.heap.size, 0, none⟩ = some (.int .i64 c.mru) /\ Y.cell? ⟨w.heap.size, 1, none⟩ = some (.int .i64 c.auth) /\ Y.cell? ⟨w.heap.size, 2, none⟩ = some (.int .i64 c.magic) /\ Y.cell? ⟨w.heap.size, 3, none⟩ = some (.int .i64 c.echo) /\ Y.cell? ⟨w.heap.size, 4, none⟩ = some (.int .i64 c.cf) /\ Y.cell? ⟨w.heap.size, 5, none⟩ = some (.int .i64 c.tm) /\ Y.cell? ⟨w.heap.size, 6, none⟩ = some (.int .i64 c.fl) /\ Y.cell? ⟨w.heap.size, 7, none⟩ = some (.int .i64 c.wt)) W6 := HS.out _ HB.out; have HI := H_ ((bA.block _ (Array.getElem?_eq_some_iff.1 HI.out).1).trans HI.out); refine hK _ _ (fun _ => HSv) ?_
     try simp only [aZ, aA, aE, aB, aC, aD]
     clear bA hz hW6 hrb; refine hatH 14 rfl (by rintro W ⟨h0, h1, h2, h3, h4, h5, h6, h7⟩; go_simp; try rfl) HSv ?_; simp only [aZ, aC, aD]; refine hone 17 rfl fun K hK => ?_
     try go_simp
     go_at_call 88; refine (HNN.out lb W1 W6 sA cA rb ib HB.out HR.out HRu.out HI.out).mono ?_; rintro e wE ⟨B, rfl, nE, bE⟩; have zl := (bE.block lb (Array.getElem?_eq_some_iff.1 HZ.out.2.1).1).trans HZ.out.2.1; have f0 := fzOf zl 0; have c0 : wE.cell? ⟨lb, 0, none⟩ = some (.pointer none) := cellOf zl 0 _ rfl; have HN := H_ (A_ bE nE); have HSv : (fun Y : World => Y.cell? ⟨w.heap.size, 0, none⟩ = some (.int .i64 c.mru) /\ Y.cell? ⟨w.heap.size, 1, none⟩ = some (.int .i64 c.auth) /\ Y.cell? ⟨w.heap.size, 2, none⟩ = some (.int .i64 c.magic) /\ Y.cell? ⟨w.heap.size, 3, none⟩ = some (.int .i64 c.echo) /\ Y.cell? ⟨w.heap.size, 4, none⟩ = some (.int .i64 c.cf) /\ Y.cell? ⟨w.heap.size, 5, none⟩ = some (.int .i64 c.tm) /\ Y.cell? ⟨w.heap.size, 6, none⟩ = some (.int .i64 c.fl) /\ Y.cell? ⟨w.heap.size, 7, none⟩ = some (.int .i64 c.wt)) wE := HS.out _ bE; clear bE nE zl; refine hK _ _ (fun _ => HSv) ?_
     try simp only [aZ, aA, aE, aB, aC, aD]
     refine hatH 18 rfl (by rintro W ⟨h0, h1, h2, h3, h4, h5, h6, h7⟩; go_simp; try rfl) HSv ?_; simp only [aZ, aC, aD]; refine hatH 19 rfl (by rintro W ⟨h0, h1, h2, h3, h4, h5, h6, h7⟩; go_simp; try rfl) HSv ?_; simp only [aZ, aC, aD]; refine hatH 21 rfl (by rintro W ⟨h0, h1, h2, h3, h4, h5, h6, h7⟩; go_simp; try rfl) HSv ?_; simp only [aZ, aC, aD]; refine hatH 20 rfl (by rintro W ⟨h0, h1, h2, h3, h4, h5, h6, h7⟩; go_simp; try rfl) HSv ?_; simp only [aZ, aC, aD]; refine hatH 22 rfl (by rintro W ⟨h0, h1, h2, h3, h4, h5, h6, h7⟩; go_simp; try rfl) HSv ?_; simp only [aZ, aC, aD]; refine hend 23 ?_; simp only [aF, aG]; clear HSv; go_wp2_with fail; go_ret2; exact HG.out wE B HN.out.1 HN.out.2
 . have ea : (c.auth != 0) = true := by simpa using h0
   have ev := hva h0; clear hva h0; go_enter Tryz.func48, Tryz.ntmps48
   go_wp2_with (first
    | (
     go_at_call 71; first | with_reducible refine (HL.out.1 _).mono ?_ | with_reducible refine (HL.out.2.1 _).mono ?_ | with_reducible refine (HL.out.2.2 _).mono ?_
     rintro e w1 ⟨rfl, rfl⟩)
    | (
     go_at_call 87; refine (HV.out _).mono ?_; rintro e wv ⟨rfl, hb⟩; have hz := (hb.block w.heap.size (by have := HB0.out.2.2; unfold cfgO at this; rw [this]; omega)).trans HB0.out.2.1; have HZ := H_ (A_ (HB0.out.1.trans (hb.mono (by have := HB0.out.1.size; exact this))) hz); unfold cfgO at hz; have x0 := cellOf hz 0 _ rfl; have x1 := cellOf hz 1 _ rfl; have x2 := cellOf hz 2 _ rfl; have x3 := cellOf hz 3 _ rfl; have x4 := cellOf hz 4 _ rfl; have x5 := cellOf hz 5 _ rfl; have x6 := cellOf hz 6 _ rfl; have x7 := cellOf hz 7 _ rfl
     clear hb hz))
   clear x0 x1 x2 x3 x4 x5 x6 x7; have hz1 : (wv.alloc (.cells #[.pointer none, .pointer (some ⟨tb, 0, none⟩), .int .i64 c.echo, .int .i64 c.magic, .int .i64 0, .int .i64 0, .int .i64 0] 99 (0, 0))).heap[w.heap.size]? = some (cfgO c) := (Below.heap_alloc _ _ _ (Array.getElem?_eq_some_iff.1 HZ.out.2).1).trans HZ.out.2; have hl1 := at1 wv (.cells #[.pointer none, .pointer (some ⟨tb, 0, none⟩), .int .i64 c.echo, .int .i64 c.magic, .int .i64 0, .int .i64 0, .int .i64 0] 99 (0, 0)); have hw1 : Below w.heap.size w (wv.alloc (.cells #[.pointer none, .pointer (some ⟨tb, 0, none⟩), .int .i64 c.echo, .int .i64 c.magic, .int .i64 0, .int .i64 0, .int .i64 0] 99 (0, 0))) := HZ.out.1.alloc HZ.out.1.size _; have hs1 := alloc1 wv (.cells #[.pointer none, .pointer (some ⟨tb, 0, none⟩), .int .i64 c.echo, .int .i64 c.magic, .int .i64 0, .int .i64 0, .int .i64 0] 99 (0, 0)); have hlb : w.heap.size < wv.heap.size := (Array.getElem?_eq_some_iff.1 HZ.out.2).1; obtain ⟨lb, hlbe⟩ : ∃ lb, lb = wv.heap.size := ⟨_, rfl⟩; generalize hW1 : wv.alloc (.cells #[.pointer none, .pointer (some ⟨tb, 0, none⟩), .int .i64 c.echo, .int .i64 c.magic, .int .i64 0, .int .i64 0, .int .i64 0] 99 (0, 0)) = W1 at hz1 hl1 hw1 hs1 ⊢; rw [<- hlbe] at hl1 hs1 hlb ⊢; clear hW1 hlbe HZ; have HZ := H_ (A_ hz1 (A_ hl1 (A_ hw1 (A_ hs1 hlb))))
   have HS : Hid (∀ W, Below W1.heap.size W1 W -> (fun Y : World => Y.cell? ⟨w.heap.size, 0, none⟩ = some (.int .i64 c.mru) /\ Y.cell? ⟨w.heap.size, 1, none⟩ = some (.int .i64 c.auth) /\ Y.cell? ⟨w.heap.size, 2, none⟩ = some (.int .i64 c.magic) /\ Y.cell? ⟨w.heap.size, 3, none⟩ = some (.int .i64 c.echo) /\ Y.cell? ⟨w.heap.size, 4, none⟩ = some (.int .i64 c.cf) /\ Y.cell? ⟨w.heap.size, 5, none⟩ = some (.int .i64 c.tm) /\ Y.cell? ⟨w.heap.size, 6, none⟩ = some (.int .i64 c.fl) /\ Y.cell? ⟨w.heap.size, 7, none⟩ = some (.int .i64 c.wt)) W) := H_ fun W hW => by
    have h : W.heap[w.heap.size]? = some (.cells #[.int .i64 c.mru, .int .i64 c.auth, .int .i64 c.magic, .int .i64 c.echo, .int .i64 c.cf, .int .i64 c.tm, .int .i64 c.fl, .int .i64 c.wt] 86 (0, 0)) := (hW.block _ (by have := HZ.out.2.2.2.1; have := HZ.out.2.2.2.2; omega)).trans HZ.out.1; exact ⟨cellOf h 0 _ rfl, cellOf h 1 _ rfl, cellOf h 2 _ rfl, cellOf h 3 _ rfl, cellOf h 4 _ rfl, cellOf h 5 _ rfl, cellOf h 6 _ rfl, cellOf h 7 _ rfl⟩
   have HLO := H_ (fun W => lopts_any c W HIA.out); unfold cfgV at HLO; have a1 : ∀ (W : World) (O : Obj), W.heap.size < (W.alloc O).heap.size := fun W O => by rw [alloc1]; omega
   have HA1 := H_ a1; have HG := H_ (fun wE B bE nE => lnew_end (c := c) (w := w) (W1 := W1) (wE := wE) (lb := lb) (tb := tb) (okt := okt) (t := t) (B := B) hw1 hl1 (by have := H.out.2.1; exact TapeAt.keep this (Keep.of_below (fun _ => False) hw1) (fun h => h) (fun _ _ _ h => h)) (fun b hb => ⟨Nat.lt_of_lt_of_le (H.out.2.2 b hb) hw1.size, by have := H.out.2.2 b hb; omega⟩) (by have := H.out.2.1.lt; omega) (by omega) bE nE); obtain ⟨y0, y1, y2, y3, y4, y5, y6, y7⟩ := HS.out W1.drew (Below.refl _ _).drew; clear hz1 hl1 hw1 hs1 hlb a1; refine wp_region_H (rgH 0 23) (fun Y : World => Y.cell? ⟨w.heap.size, 0, none⟩ = some (.int .i64 c.mru) /\ Y.cell? ⟨w.heap.size, 1, none⟩ = some (.int .i64 c.auth) /\ Y.cell? ⟨w.heap.size, 2, none⟩ = some (.int .i64 c.magic) /\ Y.cell? ⟨w.heap.size, 3, none⟩ = some (.int .i64 c.echo) /\ Y.cell? ⟨w.heap.size, 4, none⟩ = some (.int .i64 c.cf) /\ Y.cell? ⟨w.heap.size, 5, none⟩ = some (.int .i64 c.tm) /\ Y.cell? ⟨w.heap.size, 6, none⟩ = some (.int .i64 c.fl) /\ Y.cell? ⟨w.heap.size, 7, none⟩ = some (.int .i64 c.wt)) (by kernel_rfl) ?_; have HSv : (fun Y : World => Y.cell? ⟨w.heap.size, 0, none⟩ = some (.int .i64 c.mru) /\ Y.cell? ⟨w.heap.size, 1, none⟩ = some (.int .i64 c.auth) /\ Y.cell? ⟨w.heap.size, 2, none⟩ = some (.int .i64 c.magic) /\ Y.cell? ⟨w.heap.size, 3, none⟩ = some (.int .i64 c.echo) /\ Y.cell? ⟨w.heap.size, 4, none⟩ = some (.int .i64 c.cf) /\ Y.cell? ⟨w.heap.size, 5, none⟩ = some (.int .i64 c.tm) /\ Y.cell? ⟨w.heap.size, 6, none⟩ = some (.int .i64 c.fl) /\ Y.cell? ⟨w.heap.size, 7, none⟩ = some (.int .i64 c.wt)) W1.drew := HS.out _ (Below.refl _ _).drew; have HB := H_ (show Below W1.heap.size W1 W1.drew from (Below.refl _ _).drew); refine hatH 0 rfl (by rintro W ⟨h0, h1, h2, h3, h4, h5, h6, h7⟩; go_simp; try rfl) HSv ?_; simp only [aZ, aC, aD]; refine hatH 6 rfl (by rintro W ⟨h0, h1, h2, h3, h4, h5, h6, h7⟩; go_simp; try rfl) HSv ?_; simp only [aZ, aC, aD]; refine hatH 7 rfl (by rintro W ⟨h0, h1, h2, h3, h4, h5, h6, h7⟩; go_simp; try rfl) HSv ?_; simp only [aZ, aC, aD]; refine hatH 8 rfl (by rintro W ⟨h0, h1, h2, h3, h4, h5, h6, h7⟩; go_simp; try rfl) HSv ?_; simp only [aZ, aC, aD]; refine hatH 9 rfl (by rintro W ⟨h0, h1, h2, h3, h4, h5, h6, h7⟩; go_simp; try rfl) HSv ?_; simp only [aZ, aC, aD]; refine hatH 10 rfl (by rintro W ⟨h0, h1, h2, h3, h4, h5, h6, h7⟩; go_simp; try rfl) HSv ?_; simp only [aZ, aC, aD]; refine hatH 11 rfl (by rintro W ⟨h0, h1, h2, h3, h4, h5, h6, h7⟩; go_simp; try rfl) HSv ?_; simp only [aZ, aC, aD]; refine hatH 12 rfl (by rintro W ⟨h0, h1, h2, h3, h4, h5, h6, h7⟩; go_simp; try rfl) HSv ?_; simp only [aZ, aC, aD]; refine hatH 13 rfl (by rintro W ⟨h0, h1, h2, h3, h4, h5, h6, h7⟩; go_simp; try rfl) HSv ?_; simp only [aZ, aC, aD]; refine hatH 15 rfl (by rintro W ⟨h0, h1, h2, h3, h4, h5, h6, h7⟩; go_simp; try rfl) HSv ?_; simp only [aZ, aC, aD]; refine hatH 16 rfl (by rintro W ⟨h0, h1, h2, h3, h4, h5, h6, h7⟩; go_simp; try rfl) HSv ?_; simp only [aZ, aC, aD]; generalize W1.drew = W at HSv HB ⊢; refine wpAnyH_2 1 5 rfl rfl (by kernel_rfl) ?_ ?_
   . intro K hK; rw [if_pos (by rfl)]
     try go_simp
     go_at_call 89; refine (HLO.out _).mono ?_; rintro e W2 ⟨vA, rfl, rA, bA⟩; obtain ⟨sA, cA, rfl⟩ := rA.form; have HR := H_ (rA.base HB.out.size); have HB := H_ (HB.out.trans (bA.mono HB.out.size)); have HSv : (fun Y : World => Y.cell? ⟨w.heap.size, 0, none⟩ = some (.int .i64 c.mru) /\ Y.cell? ⟨w.heap.size, 1, none⟩ = some (.int .i64 c.auth) /\ Y.cell? ⟨w.heap.size, 2, none⟩ = some (.int .i64 c.magic) /\ Y.cell? ⟨w.heap.size, 3, none⟩ = some (.int .i64 c.echo) /\ Y.cell? ⟨w.heap.size, 4, none⟩ = some (.int .i64 c.cf) /\ Y.cell? ⟨w.heap.size, 5, none⟩ = some (.int .i64 c.tm) /\ Y.cell? ⟨w.heap.size, 6, none⟩ = some (.int .i64 c.fl) /\ Y.cell? ⟨w.heap.size, 7, none⟩ = some (.int .i64 c.wt)) W2 := HS.out _ HB.out; refine hK _ _ (fun _ => HSv) ?_
     try simp only [aZ, aA, aE, aB, aC, aD]
     clear rA bA; refine wpAnyH_2 2 5 rfl rfl (by kernel_rfl) ?_ ?_
     . intro K hK; rw [if_pos (by rfl)]
       try go_simp
       go_at_call 90; refine (units_any 1492 _).mono ?_; rintro e W3 ⟨rfl, bA⟩; have HR := H_ (HR.out.below bA); have HB := H_ (HB.out.trans (bA.mono HB.out.size)); have HSv : (fun Y : World => Y.cell? ⟨w.heap.size, 0, none⟩ = some (.int .i64 c.mru) /\ Y.cell? ⟨w.heap.size, 1, none⟩ = some (.int .i64 c.auth) /\ Y.cell? ⟨w.heap.size, 2, none⟩ = some (.int .i64 c.magic) /\ Y.cell? ⟨w.heap.size, 3, none⟩ = some (.int .i64 c.echo) /\ Y.cell? ⟨w.heap.size, 4, none⟩ = some (.int .i64 c.cf) /\ Y.cell? ⟨w.heap.size, 5, none⟩ = some (.int .i64 c.tm) /\ Y.cell? ⟨w.heap.size, 6, none⟩ = some (.int .i64 c.fl) /\ Y.cell? ⟨w.heap.size, 7, none⟩ = some (.int .i64 c.wt)) W3 := HS.out _ HB.out; refine hK _ _ (fun _ => HSv) ?_
       try simp only [aZ, aA, aE, aB, aC, aD]
       clear bA; refine wpAnyH_2 3 5 rfl rfl (by kernel_rfl) ?_ ?_
       . intro K hK; rw [if_pos (by rfl)]
         try go_simp
         go_at_call 91; refine (magics_any _).mono ?_; rintro e W4 ⟨rfl, bA⟩; have HR := H_ (HR.out.below bA); have HB := H_ (HB.out.trans (bA.mono HB.out.size)); have HSv : (fun Y : World => Y.cell? ⟨w.heap.size, 0, none⟩ = some (.int .i64 c.mru) /\ Y.cell? ⟨w.heap.size, 1, none⟩ = some (.int .i64 c.auth) /\ Y.cell? ⟨w.heap.size, 2, none⟩ = some (.int .i64 c.magic) /\ Y.cell? ⟨w.heap.size, 3, none⟩ = some (.int .i64 c.echo) /\ Y.cell? ⟨w.heap.size, 4, none⟩ = some (.int .i64 c.cf) /\ Y.cell? ⟨w.heap.size, 5, none⟩ = some (.int .i64 c.tm) /\ Y.cell? ⟨w.heap.size, 6, none⟩ = some (.int .i64 c.fl) /\ Y.cell? ⟨w.heap.size, 7, none⟩ = some (.int .i64 c.wt)) W4 := HS.out _ HB.out; refine hK _ _ (fun _ => HSv) ?_
         try simp only [aZ, aA, aE, aB, aC, aD]
         clear bA; refine wpAnyH_2 4 5 rfl rfl (by kernel_rfl) ?_ ?_
         . intro K hK; rw [if_pos (by rfl)]
           try go_simp
           have bA : Below W4.heap.size W4 (W4.alloc (.cells #[.int .i64 1, .int .i64 2, .int .i64 64, .int .i64 1492, .string (be2 1492), .int .i64 5, .int .i64 4, .int .i64 1, .int .i64 4294967295, .string (be4 1)] 136 (0, 0))) := (Below.refl _ _).alloc (Nat.le_refl _) _; have hz := at1 W4 (.cells #[.int .i64 1, .int .i64 2, .int .i64 64, .int .i64 1492, .string (be2 1492), .int .i64 5, .int .i64 4, .int .i64 1, .int .i64 4294967295, .string (be4 1)] 136 (0, 0)); generalize hW5 : W4.alloc (.cells #[.int .i64 1, .int .i64 2, .int .i64 64, .int .i64 1492, .string (be2 1492), .int .i64 5, .int .i64 4, .int .i64 1, .int .i64 4294967295, .string (be4 1)] 136 (0, 0)) = W5 at bA hz ⊢; obtain ⟨rb, hrb⟩ : ∃ rb, rb = W4.heap.size := ⟨_, rfl⟩; rw [<- hrb] at hz ⊢; have HRu := H_ hz; have HR := H_ (HR.out.below bA); have HB := H_ (HB.out.trans (bA.mono HB.out.size)); have HSv : (fun Y : World => Y.cell? ⟨w.heap.size, 0, none⟩ = some (.int .i64 c.mru) /\ Y.cell? ⟨w.heap.size, 1, none⟩ = some (.int .i64 c.auth) /\ Y.cell? ⟨w.heap.size, 2, none⟩ = some (.int .i64 c.magic) /\ Y.cell? ⟨w.heap.size, 3, none⟩ = some (.int .i64 c.echo) /\ Y.cell? ⟨w.heap.size, 4, none⟩ = some (.int .i64 c.cf) /\ Y.cell? ⟨w.heap.size, 5, none⟩ = some (.int .i64 c.tm) /\ Y.cell? ⟨w.heap.size, 6, none⟩ = some (.int .i64 c.fl) /\ Y.cell? ⟨w.heap.size, 7, none⟩ = some (.int .i64 c.wt)) W5 := HS.out _ HB.out; refine hK _ _ (fun _ => HSv) ?_
           try simp only [aZ, aA, aE, aB, aC, aD]
           clear bA hz hW5 hrb; refine hone 5 rfl fun K hK => ?_
           try go_simp
           have bA : Below W5.heap.size W5 (W5.alloc (.cells #[.int .i64 3] 3 (0, 0))) := (Below.refl _ _).alloc (Nat.le_refl _) _; have hz := at1 W5 (.cells #[.int .i64 3] 3 (0, 0)); generalize hW6 : W5.alloc (.cells #[.int .i64 3] 3 (0, 0)) = W6 at bA hz ⊢; obtain ⟨ib, hib⟩ : ∃ ib, ib = W5.heap.size := ⟨_, rfl⟩; rw [<- hib] at hz ⊢; have HI := H_ hz; have HR := H_ (HR.out.below bA); have HRu := H_ ((bA.block _ (Array.getElem?_eq_some_iff.1 HRu.out).1).trans HRu.out); have HB := H_ (HB.out.trans (bA.mono HB.out.size)); have HSv : (fun Y : World => Y.cell? ⟨w.heap.size, 0, none⟩ = some (.int .i64 c.mru) /\ Y.cell? ⟨w.heap.size, 1, none⟩ = some (.int .i64 c.auth) /\ Y.cell? ⟨w.heap.size, 2, none⟩ = some (.int .i64 c.magic) /\ Y.cell? ⟨w.heap.size, 3, none⟩ = some (.int .i64 c.echo) /\ Y.cell? ⟨w.heap.size, 4, none⟩ = some (.int .i64 c.cf) /\ Y.cell? ⟨w.heap.size, 5, none⟩ = some (.int .i64 c.tm) /\ Y.cell? ⟨w.heap.size, 6, none⟩ = some (.int .i64 c.fl) /\ Y.cell? ⟨w.heap.size, 7, none⟩ = some (.int .i64 c.wt)) W6 := HS.out _ HB.out; refine hK _ _ (fun _ => HSv) ?_
           try simp only [aZ, aA, aE, aB, aC, aD]
           clear bA hz hW6 hib; refine hatH 14 rfl (by rintro W ⟨h0, h1, h2, h3, h4, h5, h6, h7⟩; go_simp; try rfl) HSv ?_; simp only [aZ, aC, aD]; refine hone 17 rfl fun K hK => ?_
           try go_simp
           go_at_call 88; refine (HNN.out lb W1 W6 sA cA rb ib HB.out HR.out HRu.out HI.out).mono ?_; rintro e wE ⟨B, rfl, nE, bE⟩; have zl := (bE.block lb (Array.getElem?_eq_some_iff.1 HZ.out.2.1).1).trans HZ.out.2.1; have f0 := fzOf zl 0; have c0 : wE.cell? ⟨lb, 0, none⟩ = some (.pointer none) := cellOf zl 0 _ rfl; have HN := H_ (A_ bE nE); have HSv : (fun Y : World => Y.cell? ⟨w.heap.size, 0, none⟩ = some (.int .i64 c.mru) /\ Y.cell? ⟨w.heap.size, 1, none⟩ = some (.int .i64 c.auth) /\ Y.cell? ⟨w.heap.size, 2, none⟩ = some (.int .i64 c.magic) /\ Y.cell? ⟨w.heap.size, 3, none⟩ = some (.int .i64 c.echo) /\ Y.cell? ⟨w.heap.size, 4, none⟩ = some (.int .i64 c.cf) /\ Y.cell? ⟨w.heap.size, 5, none⟩ = some (.int .i64 c.tm) /\ Y.cell? ⟨w.heap.size, 6, none⟩ = some (.int .i64 c.fl) /\ Y.cell? ⟨w.heap.size, 7, none⟩ = some (.int .i64 c.wt)) wE := HS.out _ bE; clear bE nE zl; refine hK _ _ (fun _ => HSv) ?_
           try simp only [aZ, aA, aE, aB, aC, aD]
           refine hatH 18 rfl (by rintro W ⟨h0, h1, h2, h3, h4, h5, h6, h7⟩; go_simp; try rfl) HSv ?_; simp only [aZ, aC, aD]; refine hatH 19 rfl (by rintro W ⟨h0, h1, h2, h3, h4, h5, h6, h7⟩; go_simp; try rfl) HSv ?_; simp only [aZ, aC, aD]; refine hatH 21 rfl (by rintro W ⟨h0, h1, h2, h3, h4, h5, h6, h7⟩; go_simp; try rfl) HSv ?_; simp only [aZ, aC, aD]; refine hatH 20 rfl (by rintro W ⟨h0, h1, h2, h3, h4, h5, h6, h7⟩; go_simp; try rfl) HSv ?_; simp only [aZ, aC, aD]; refine hatH 22 rfl (by rintro W ⟨h0, h1, h2, h3, h4, h5, h6, h7⟩; go_simp; try rfl) HSv ?_; simp only [aZ, aC, aD]; refine hend 23 ?_; simp only [aF, aG]; clear HSv; go_wp2_with fail; go_ret2; exact HG.out wE B HN.out.1 HN.out.2
         . intro K hK; rw [if_pos (by rfl)]
           try go_simp
           have bA : Below W4.heap.size W4 (W4.alloc (.cells #[.int .i64 3] 3 (0, 0))) := (Below.refl _ _).alloc (Nat.le_refl _) _; have hz := at1 W4 (.cells #[.int .i64 3] 3 (0, 0)); generalize hW5 : W4.alloc (.cells #[.int .i64 3] 3 (0, 0)) = W5 at bA hz ⊢; obtain ⟨ib, hib⟩ : ∃ ib, ib = W4.heap.size := ⟨_, rfl⟩; rw [<- hib] at hz ⊢; have HI := H_ hz; have HR := H_ (HR.out.below bA); have HB := H_ (HB.out.trans (bA.mono HB.out.size)); have HSv : (fun Y : World => Y.cell? ⟨w.heap.size, 0, none⟩ = some (.int .i64 c.mru) /\ Y.cell? ⟨w.heap.size, 1, none⟩ = some (.int .i64 c.auth) /\ Y.cell? ⟨w.heap.size, 2, none⟩ = some (.int .i64 c.magic) /\ Y.cell? ⟨w.heap.size, 3, none⟩ = some (.int .i64 c.echo) /\ Y.cell? ⟨w.heap.size, 4, none⟩ = some (.int .i64 c.cf) /\ Y.cell? ⟨w.heap.size, 5, none⟩ = some (.int .i64 c.tm) /\ Y.cell? ⟨w.heap.size, 6, none⟩ = some (.int .i64 c.fl) /\ Y.cell? ⟨w.heap.size, 7, none⟩ = some (.int .i64 c.wt)) W5 := HS.out _ HB.out; refine hK _ _ (fun _ => HSv) ?_
           try simp only [aZ, aA, aE, aB, aC, aD]
           clear bA hz hW5 hib; refine hone 4 rfl fun K hK => ?_
           try go_simp
           have bA : Below W5.heap.size W5 (W5.alloc (.cells #[.int .i64 1, .int .i64 2, .int .i64 64, .int .i64 1492, .string (be2 1492), .int .i64 5, .int .i64 4, .int .i64 1, .int .i64 4294967295, .string (be4 1)] 136 (0, 0))) := (Below.refl _ _).alloc (Nat.le_refl _) _; have hz := at1 W5 (.cells #[.int .i64 1, .int .i64 2, .int .i64 64, .int .i64 1492, .string (be2 1492), .int .i64 5, .int .i64 4, .int .i64 1, .int .i64 4294967295, .string (be4 1)] 136 (0, 0)); generalize hW6 : W5.alloc (.cells #[.int .i64 1, .int .i64 2, .int .i64 64, .int .i64 1492, .string (be2 1492), .int .i64 5, .int .i64 4, .int .i64 1, .int .i64 4294967295, .string (be4 1)] 136 (0, 0)) = W6 at bA hz ⊢; obtain ⟨rb, hrb⟩ : ∃ rb, rb = W5.heap.size := ⟨_, rfl⟩; rw [<- hrb] at hz ⊢; have HRu := H_ hz; have HR := H_ (HR.out.below bA); have HB := H_ (HB.out.trans (bA.mono HB.out.size)); have HSv : (fun Y : World => Y.cell? ⟨w.heap.size, 0, none⟩ = some (.int .i64 c.mru) /\ Y.cell? ⟨w.heap.size, 1, none⟩ = some (.int .i64 c.auth) /\ Y.cell? ⟨w.heap.size, 2, none⟩ = some (.int .i64 c.magic) /\ Y.cell? ⟨w.heap.size, 3, none⟩ = some (.int .i64 c.echo) /\ Y.cell? ⟨w.heap.size, 4, none⟩ = some (.int .i64 c.cf) /\ Y.cell? ⟨w.heap.size, 5, none⟩ = some (.int .i64 c.tm) /\ Y.cell? ⟨w.heap.size, 6, none⟩ = some (.int .i64 c.fl) /\ Y.cell? ⟨w.heap.size, 7, none⟩ = some (.int .i64 c.wt)) W6 := HS.out _ HB.out; have HI := H_ ((bA.block _ (Array.getElem?_eq_some_iff.1 HI.out).1).trans HI.out); refine hK _ _ (fun _ => HSv) ?_
           try simp only [aZ, aA, aE, aB, aC, aD]
           clear bA hz hW6 hrb; refine hatH 14 rfl (by rintro W ⟨h0, h1, h2, h3, h4, h5, h6, h7⟩; go_simp; try rfl) HSv ?_; simp only [aZ, aC, aD]; refine hone 17 rfl fun K hK => ?_
           try go_simp
           go_at_call 88; refine (HNN.out lb W1 W6 sA cA rb ib HB.out HR.out HRu.out HI.out).mono ?_; rintro e wE ⟨B, rfl, nE, bE⟩; have zl := (bE.block lb (Array.getElem?_eq_some_iff.1 HZ.out.2.1).1).trans HZ.out.2.1; have f0 := fzOf zl 0; have c0 : wE.cell? ⟨lb, 0, none⟩ = some (.pointer none) := cellOf zl 0 _ rfl; have HN := H_ (A_ bE nE); have HSv : (fun Y : World => Y.cell? ⟨w.heap.size, 0, none⟩ = some (.int .i64 c.mru) /\ Y.cell? ⟨w.heap.size, 1, none⟩ = some (.int .i64 c.auth) /\ Y.cell? ⟨w.heap.size, 2, none⟩ = some (.int .i64 c.magic) /\ Y.cell? ⟨w.heap.size, 3, none⟩ = some (.int .i64 c.echo) /\ Y.cell? ⟨w.heap.size, 4, none⟩ = some (.int .i64 c.cf) /\ Y.cell? ⟨w.heap.size, 5, none⟩ = some (.int .i64 c.tm) /\ Y.cell? ⟨w.heap.size, 6, none⟩ = some (.int .i64 c.fl) /\ Y.cell? ⟨w.heap.size, 7, none⟩ = some (.int .i64 c.wt)) wE := HS.out _ bE; clear bE nE zl; refine hK _ _ (fun _ => HSv) ?_
           try simp only [aZ, aA, aE, aB, aC, aD]
           refine hatH 18 rfl (by rintro W ⟨h0, h1, h2, h3, h4, h5, h6, h7⟩; go_simp; try rfl) HSv ?_; simp only [aZ, aC, aD]; refine hatH 19 rfl (by rintro W ⟨h0, h1, h2, h3, h4, h5, h6, h7⟩; go_simp; try rfl) HSv ?_; simp only [aZ, aC, aD]; refine hatH 21 rfl (by rintro W ⟨h0, h1, h2, h3, h4, h5, h6, h7⟩; go_simp; try rfl) HSv ?_; simp only [aZ, aC, aD]; refine hatH 20 rfl (by rintro W ⟨h0, h1, h2, h3, h4, h5, h6, h7⟩; go_simp; try rfl) HSv ?_; simp only [aZ, aC, aD]; refine hatH 22 rfl (by rintro W ⟨h0, h1, h2, h3, h4, h5, h6, h7⟩; go_simp; try rfl) HSv ?_; simp only [aZ, aC, aD]; refine hend 23 ?_; simp only [aF, aG]; clear HSv; go_wp2_with fail; go_ret2; exact HG.out wE B HN.out.1 HN.out.2
       . intro K hK; rw [if_pos (by rfl)]
         try go_simp
         have bA : Below W3.heap.size W3 (W3.alloc (.cells #[.int .i64 3] 3 (0, 0))) := (Below.refl _ _).alloc (Nat.le_refl _) _; have hz := at1 W3 (.cells #[.int .i64 3] 3 (0, 0)); generalize hW4 : W3.alloc (.cells #[.int .i64 3] 3 (0, 0)) = W4 at bA hz ⊢; obtain ⟨ib, hib⟩ : ∃ ib, ib = W3.heap.size := ⟨_, rfl⟩; rw [<- hib] at hz ⊢; have HI := H_ hz; have HR := H_ (HR.out.below bA); have HB := H_ (HB.out.trans (bA.mono HB.out.size)); have HSv : (fun Y : World => Y.cell? ⟨w.heap.size, 0, none⟩ = some (.int .i64 c.mru) /\ Y.cell? ⟨w.heap.size, 1, none⟩ = some (.int .i64 c.auth) /\ Y.cell? ⟨w.heap.size, 2, none⟩ = some (.int .i64 c.magic) /\ Y.cell? ⟨w.heap.size, 3, none⟩ = some (.int .i64 c.echo) /\ Y.cell? ⟨w.heap.size, 4, none⟩ = some (.int .i64 c.cf) /\ Y.cell? ⟨w.heap.size, 5, none⟩ = some (.int .i64 c.tm) /\ Y.cell? ⟨w.heap.size, 6, none⟩ = some (.int .i64 c.fl) /\ Y.cell? ⟨w.heap.size, 7, none⟩ = some (.int .i64 c.wt)) W4 := HS.out _ HB.out; refine hK _ _ (fun _ => HSv) ?_
         try simp only [aZ, aA, aE, aB, aC, aD]
         clear bA hz hW4 hib; refine hone 3 rfl fun K hK => ?_
         try go_simp
         go_at_call 91; refine (magics_any _).mono ?_; rintro e W5 ⟨rfl, bA⟩; have HR := H_ (HR.out.below bA); have HB := H_ (HB.out.trans (bA.mono HB.out.size)); have HSv : (fun Y : World => Y.cell? ⟨w.heap.size, 0, none⟩ = some (.int .i64 c.mru) /\ Y.cell? ⟨w.heap.size, 1, none⟩ = some (.int .i64 c.auth) /\ Y.cell? ⟨w.heap.size, 2, none⟩ = some (.int .i64 c.magic) /\ Y.cell? ⟨w.heap.size, 3, none⟩ = some (.int .i64 c.echo) /\ Y.cell? ⟨w.heap.size, 4, none⟩ = some (.int .i64 c.cf) /\ Y.cell? ⟨w.heap.size, 5, none⟩ = some (.int .i64 c.tm) /\ Y.cell? ⟨w.heap.size, 6, none⟩ = some (.int .i64 c.fl) /\ Y.cell? ⟨w.heap.size, 7, none⟩ = some (.int .i64 c.wt)) W5 := HS.out _ HB.out; have HI := H_ ((bA.block _ (Array.getElem?_eq_some_iff.1 HI.out).1).trans HI.out); refine hK _ _ (fun _ => HSv) ?_
         try simp only [aZ, aA, aE, aB, aC, aD]
         clear bA; refine hone 4 rfl fun K hK => ?_
         try go_simp
         have bA : Below W5.heap.size W5 (W5.alloc (.cells #[.int .i64 1, .int .i64 2, .int .i64 64, .int .i64 1492, .string (be2 1492), .int .i64 5, .int .i64 4, .int .i64 1, .int .i64 4294967295, .string (be4 1)] 136 (0, 0))) := (Below.refl _ _).alloc (Nat.le_refl _) _; have hz := at1 W5 (.cells #[.int .i64 1, .int .i64 2, .int .i64 64, .int .i64 1492, .string (be2 1492), .int .i64 5, .int .i64 4, .int .i64 1, .int .i64 4294967295, .string (be4 1)] 136 (0, 0)); generalize hW6 : W5.alloc (.cells #[.int .i64 1, .int .i64 2, .int .i64 64, .int .i64 1492, .string (be2 1492), .int .i64 5, .int .i64 4, .int .i64 1, .int .i64 4294967295, .string (be4 1)] 136 (0, 0)) = W6 at bA hz ⊢; obtain ⟨rb, hrb⟩ : ∃ rb, rb = W5.heap.size := ⟨_, rfl⟩; rw [<- hrb] at hz ⊢; have HRu := H_ hz; have HR := H_ (HR.out.below bA); have HB := H_ (HB.out.trans (bA.mono HB.out.size)); have HSv : (fun Y : World => Y.cell? ⟨w.heap.size, 0, none⟩ = some (.int .i64 c.mru) /\ Y.cell? ⟨w.heap.size, 1, none⟩ = some (.int .i64 c.auth) /\ Y.cell? ⟨w.heap.size, 2, none⟩ = some (.int .i64 c.magic) /\ Y.cell? ⟨w.heap.size, 3, none⟩ = some (.int .i64 c.echo) /\ Y.cell? ⟨w.heap.size, 4, none⟩ = some (.int .i64 c.cf) /\ Y.cell? ⟨w.heap.size, 5, none⟩ = some (.int .i64 c.tm) /\ Y.cell? ⟨w.heap.size, 6, none⟩ = some (.int .i64 c.fl) /\ Y.cell? ⟨w.heap.size, 7, none⟩ = some (.int .i64 c.wt)) W6 := HS.out _ HB.out; have HI := H_ ((bA.block _ (Array.getElem?_eq_some_iff.1 HI.out).1).trans HI.out); refine hK _ _ (fun _ => HSv) ?_
         try simp only [aZ, aA, aE, aB, aC, aD]
         clear bA hz hW6 hrb; refine hatH 14 rfl (by rintro W ⟨h0, h1, h2, h3, h4, h5, h6, h7⟩; go_simp; try rfl) HSv ?_; simp only [aZ, aC, aD]; refine hone 17 rfl fun K hK => ?_
         try go_simp
         go_at_call 88; refine (HNN.out lb W1 W6 sA cA rb ib HB.out HR.out HRu.out HI.out).mono ?_; rintro e wE ⟨B, rfl, nE, bE⟩; have zl := (bE.block lb (Array.getElem?_eq_some_iff.1 HZ.out.2.1).1).trans HZ.out.2.1; have f0 := fzOf zl 0; have c0 : wE.cell? ⟨lb, 0, none⟩ = some (.pointer none) := cellOf zl 0 _ rfl; have HN := H_ (A_ bE nE); have HSv : (fun Y : World => Y.cell? ⟨w.heap.size, 0, none⟩ = some (.int .i64 c.mru) /\ Y.cell? ⟨w.heap.size, 1, none⟩ = some (.int .i64 c.auth) /\ Y.cell? ⟨w.heap.size, 2, none⟩ = some (.int .i64 c.magic) /\ Y.cell? ⟨w.heap.size, 3, none⟩ = some (.int .i64 c.echo) /\ Y.cell? ⟨w.heap.size, 4, none⟩ = some (.int .i64 c.cf) /\ Y.cell? ⟨w.heap.size, 5, none⟩ = some (.int .i64 c.tm) /\ Y.cell? ⟨w.heap.size, 6, none⟩ = some (.int .i64 c.fl) /\ Y.cell? ⟨w.heap.size, 7, none⟩ = some (.int .i64 c.wt)) wE := HS.out _ bE; clear bE nE zl; refine hK _ _ (fun _ => HSv) ?_
         try simp only [aZ, aA, aE, aB, aC, aD]
         refine hatH 18 rfl (by rintro W ⟨h0, h1, h2, h3, h4, h5, h6, h7⟩; go_simp; try rfl) HSv ?_; simp only [aZ, aC, aD]; refine hatH 19 rfl (by rintro W ⟨h0, h1, h2, h3, h4, h5, h6, h7⟩; go_simp; try rfl) HSv ?_; simp only [aZ, aC, aD]; refine hatH 21 rfl (by rintro W ⟨h0, h1, h2, h3, h4, h5, h6, h7⟩; go_simp; try rfl) HSv ?_; simp only [aZ, aC, aD]; refine hatH 20 rfl (by rintro W ⟨h0, h1, h2, h3, h4, h5, h6, h7⟩; go_simp; try rfl) HSv ?_; simp only [aZ, aC, aD]; refine hatH 22 rfl (by rintro W ⟨h0, h1, h2, h3, h4, h5, h6, h7⟩; go_simp; try rfl) HSv ?_; simp only [aZ, aC, aD]; refine hend 23 ?_; simp only [aF, aG]; clear HSv; go_wp2_with fail; go_ret2; exact HG.out wE B HN.out.1 HN.out.2
     . intro K hK; rw [if_pos (by rfl)]
       try go_simp
       have bA : Below W2.heap.size W2 (W2.alloc (.cells #[.int .i64 3] 3 (0, 0))) := (Below.refl _ _).alloc (Nat.le_refl _) _; have hz := at1 W2 (.cells #[.int .i64 3] 3 (0, 0)); generalize hW3 : W2.alloc (.cells #[.int .i64 3] 3 (0, 0)) = W3 at bA hz ⊢; obtain ⟨ib, hib⟩ : ∃ ib, ib = W2.heap.size := ⟨_, rfl⟩; rw [<- hib] at hz ⊢; have HI := H_ hz; have HR := H_ (HR.out.below bA); have HB := H_ (HB.out.trans (bA.mono HB.out.size)); have HSv : (fun Y : World => Y.cell? ⟨w.heap.size, 0, none⟩ = some (.int .i64 c.mru) /\ Y.cell? ⟨w.heap.size, 1, none⟩ = some (.int .i64 c.auth) /\ Y.cell? ⟨w.heap.size, 2, none⟩ = some (.int .i64 c.magic) /\ Y.cell? ⟨w.heap.size, 3, none⟩ = some (.int .i64 c.echo) /\ Y.cell? ⟨w.heap.size, 4, none⟩ = some (.int .i64 c.cf) /\ Y.cell? ⟨w.heap.size, 5, none⟩ = some (.int .i64 c.tm) /\ Y.cell? ⟨w.heap.size, 6, none⟩ = some (.int .i64 c.fl) /\ Y.cell? ⟨w.heap.size, 7, none⟩ = some (.int .i64 c.wt)) W3 := HS.out _ HB.out; refine hK _ _ (fun _ => HSv) ?_
       try simp only [aZ, aA, aE, aB, aC, aD]
       clear bA hz hW3 hib; refine hone 2 rfl fun K hK => ?_
       try go_simp
       go_at_call 90; refine (units_any 1492 _).mono ?_; rintro e W4 ⟨rfl, bA⟩; have HR := H_ (HR.out.below bA); have HB := H_ (HB.out.trans (bA.mono HB.out.size)); have HSv : (fun Y : World => Y.cell? ⟨w.heap.size, 0, none⟩ = some (.int .i64 c.mru) /\ Y.cell? ⟨w.heap.size, 1, none⟩ = some (.int .i64 c.auth) /\ Y.cell? ⟨w.heap.size, 2, none⟩ = some (.int .i64 c.magic) /\ Y.cell? ⟨w.heap.size, 3, none⟩ = some (.int .i64 c.echo) /\ Y.cell? ⟨w.heap.size, 4, none⟩ = some (.int .i64 c.cf) /\ Y.cell? ⟨w.heap.size, 5, none⟩ = some (.int .i64 c.tm) /\ Y.cell? ⟨w.heap.size, 6, none⟩ = some (.int .i64 c.fl) /\ Y.cell? ⟨w.heap.size, 7, none⟩ = some (.int .i64 c.wt)) W4 := HS.out _ HB.out; have HI := H_ ((bA.block _ (Array.getElem?_eq_some_iff.1 HI.out).1).trans HI.out); refine hK _ _ (fun _ => HSv) ?_
       try simp only [aZ, aA, aE, aB, aC, aD]
       clear bA; refine hone 3 rfl fun K hK => ?_
       try go_simp
       go_at_call 91; refine (magics_any _).mono ?_; rintro e W5 ⟨rfl, bA⟩; have HR := H_ (HR.out.below bA); have HB := H_ (HB.out.trans (bA.mono HB.out.size)); have HSv : (fun Y : World => Y.cell? ⟨w.heap.size, 0, none⟩ = some (.int .i64 c.mru) /\ Y.cell? ⟨w.heap.size, 1, none⟩ = some (.int .i64 c.auth) /\ Y.cell? ⟨w.heap.size, 2, none⟩ = some (.int .i64 c.magic) /\ Y.cell? ⟨w.heap.size, 3, none⟩ = some (.int .i64 c.echo) /\ Y.cell? ⟨w.heap.size, 4, none⟩ = some (.int .i64 c.cf) /\ Y.cell? ⟨w.heap.size, 5, none⟩ = some (.int .i64 c.tm) /\ Y.cell? ⟨w.heap.size, 6, none⟩ = some (.int .i64 c.fl) /\ Y.cell? ⟨w.heap.size, 7, none⟩ = some (.int .i64 c.wt)) W5 := HS.out _ HB.out; have HI := H_ ((bA.block _ (Array.getElem?_eq_some_iff.1 HI.out).1).trans HI.out); refine hK _ _ (fun _ => HSv) ?_
       try simp only [aZ, aA, aE, aB, aC, aD]
       clear bA; refine hone 4 rfl fun K hK => ?_
       try go_simp
       have bA : Below W5.heap.size W5 (W5.alloc (.cells #[.int .i64 1, .int .i64 2, .int .i64 64, .int .i64 1492, .string (be2 1492), .int .i64 5, .int .i64 4, .int .i64 1, .int .i64 4294967295, .string (be4 1)] 136 (0, 0))) := (Below.refl _ _).alloc (Nat.le_refl _) _; have hz := at1 W5 (.cells #[.int .i64 1, .int .i64 2, .int .i64 64, .int .i64 1492, .string (be2 1492), .int .i64 5, .int .i64 4, .int .i64 1, .int .i64 4294967295, .string (be4 1)] 136 (0, 0)); generalize hW6 : W5.alloc (.cells #[.int .i64 1, .int .i64 2, .int .i64 64, .int .i64 1492, .string (be2 1492), .int .i64 5, .int .i64 4, .int .i64 1, .int .i64 4294967295, .string (be4 1)] 136 (0, 0)) = W6 at bA hz ⊢; obtain ⟨rb, hrb⟩ : ∃ rb, rb = W5.heap.size := ⟨_, rfl⟩; rw [<- hrb] at hz ⊢; have HRu := H_ hz; have HR := H_ (HR.out.below bA); have HB := H_ (HB.out.trans (bA.mono HB.out.size)); have HSv : (fun Y : World => Y.cell? ⟨w.heap.size, 0, none⟩ = some (.int .i64 c.mru) /\ Y.cell? ⟨w.heap.size, 1, none⟩ = some (.int .i64 c.auth) /\ Y.cell? ⟨w.heap.size, 2, none⟩ = some (.int .i64 c.magic) /\ Y.cell? ⟨w.heap.size, 3, none⟩ = some (.int .i64 c.echo) /\ Y.cell? ⟨w.heap.size, 4, none⟩ = some (.int .i64 c.cf) /\ Y.cell? ⟨w.heap.size, 5, none⟩ = some (.int .i64 c.tm) /\ Y.cell? ⟨w.heap.size, 6, none⟩ = some (.int .i64 c.fl) /\ Y.cell? ⟨w.heap.size, 7, none⟩ = some (.int .i64 c.wt)) W6 := HS.out _ HB.out; have HI := H_ ((bA.block _ (Array.getElem?_eq_some_iff.1 HI.out).1).trans HI.out); refine hK _ _ (fun _ => HSv) ?_
       try simp only [aZ, aA, aE, aB, aC, aD]
       clear bA hz hW6 hrb; refine hatH 14 rfl (by rintro W ⟨h0, h1, h2, h3, h4, h5, h6, h7⟩; go_simp; try rfl) HSv ?_; simp only [aZ, aC, aD]; refine hone 17 rfl fun K hK => ?_
       try go_simp
       go_at_call 88; refine (HNN.out lb W1 W6 sA cA rb ib HB.out HR.out HRu.out HI.out).mono ?_; rintro e wE ⟨B, rfl, nE, bE⟩; have zl := (bE.block lb (Array.getElem?_eq_some_iff.1 HZ.out.2.1).1).trans HZ.out.2.1; have f0 := fzOf zl 0; have c0 : wE.cell? ⟨lb, 0, none⟩ = some (.pointer none) := cellOf zl 0 _ rfl; have HN := H_ (A_ bE nE); have HSv : (fun Y : World => Y.cell? ⟨w.heap.size, 0, none⟩ = some (.int .i64 c.mru) /\ Y.cell? ⟨w.heap.size, 1, none⟩ = some (.int .i64 c.auth) /\ Y.cell? ⟨w.heap.size, 2, none⟩ = some (.int .i64 c.magic) /\ Y.cell? ⟨w.heap.size, 3, none⟩ = some (.int .i64 c.echo) /\ Y.cell? ⟨w.heap.size, 4, none⟩ = some (.int .i64 c.cf) /\ Y.cell? ⟨w.heap.size, 5, none⟩ = some (.int .i64 c.tm) /\ Y.cell? ⟨w.heap.size, 6, none⟩ = some (.int .i64 c.fl) /\ Y.cell? ⟨w.heap.size, 7, none⟩ = some (.int .i64 c.wt)) wE := HS.out _ bE; clear bE nE zl; refine hK _ _ (fun _ => HSv) ?_
       try simp only [aZ, aA, aE, aB, aC, aD]
       refine hatH 18 rfl (by rintro W ⟨h0, h1, h2, h3, h4, h5, h6, h7⟩; go_simp; try rfl) HSv ?_; simp only [aZ, aC, aD]; refine hatH 19 rfl (by rintro W ⟨h0, h1, h2, h3, h4, h5, h6, h7⟩; go_simp; try rfl) HSv ?_; simp only [aZ, aC, aD]; refine hatH 21 rfl (by rintro W ⟨h0, h1, h2, h3, h4, h5, h6, h7⟩; go_simp; try rfl) HSv ?_; simp only [aZ, aC, aD]; refine hatH 20 rfl (by rintro W ⟨h0, h1, h2, h3, h4, h5, h6, h7⟩; go_simp; try rfl) HSv ?_; simp only [aZ, aC, aD]; refine hatH 22 rfl (by rintro W ⟨h0, h1, h2, h3, h4, h5, h6, h7⟩; go_simp; try rfl) HSv ?_; simp only [aZ, aC, aD]; refine hend 23 ?_; simp only [aF, aG]; clear HSv; go_wp2_with fail; go_ret2; exact HG.out wE B HN.out.1 HN.out.2
   . intro K hK; rw [if_pos (by rfl)]
     try go_simp
     have bA : Below W.heap.size W (W.alloc (.cells #[.int .i64 3] 3 (0, 0))) := (Below.refl _ _).alloc (Nat.le_refl _) _; have hz := at1 W (.cells #[.int .i64 3] 3 (0, 0)); generalize hW2 : W.alloc (.cells #[.int .i64 3] 3 (0, 0)) = W2 at bA hz ⊢; obtain ⟨ib, hib⟩ : ∃ ib, ib = W.heap.size := ⟨_, rfl⟩; rw [<- hib] at hz ⊢; have HI := H_ hz; have HB := H_ (HB.out.trans (bA.mono HB.out.size)); have HSv : (fun Y : World => Y.cell? ⟨w.heap.size, 0, none⟩ = some (.int .i64 c.mru) /\ Y.cell? ⟨w.heap.size, 1, none⟩ = some (.int .i64 c.auth) /\ Y.cell? ⟨w.heap.size, 2, none⟩ = some (.int .i64 c.magic) /\ Y.cell? ⟨w.heap.size, 3, none⟩ = some (.int .i64 c.echo) /\ Y.cell? ⟨w.heap.size, 4, none⟩ = some (.int .i64 c.cf) /\ Y.cell? ⟨w.heap.size, 5, none⟩ = some (.int .i64 c.tm) /\ Y.cell? ⟨w.heap.size, 6, none⟩ = some (.int .i64 c.fl) /\ Y.cell? ⟨w.heap.size, 7, none⟩ = some (.int .i64 c.wt)) W2 := HS.out _ HB.out; refine hK _ _ (fun _ => HSv) ?_
     try simp only [aZ, aA, aE, aB, aC, aD]
     clear bA hz hW2 hib; refine hone 1 rfl fun K hK => ?_
     try go_simp
     go_at_call 89; refine (HLO.out _).mono ?_; rintro e W3 ⟨vA, rfl, rA, bA⟩; obtain ⟨sA, cA, rfl⟩ := rA.form; have HR := H_ (rA.base HB.out.size); have HB := H_ (HB.out.trans (bA.mono HB.out.size)); have HSv : (fun Y : World => Y.cell? ⟨w.heap.size, 0, none⟩ = some (.int .i64 c.mru) /\ Y.cell? ⟨w.heap.size, 1, none⟩ = some (.int .i64 c.auth) /\ Y.cell? ⟨w.heap.size, 2, none⟩ = some (.int .i64 c.magic) /\ Y.cell? ⟨w.heap.size, 3, none⟩ = some (.int .i64 c.echo) /\ Y.cell? ⟨w.heap.size, 4, none⟩ = some (.int .i64 c.cf) /\ Y.cell? ⟨w.heap.size, 5, none⟩ = some (.int .i64 c.tm) /\ Y.cell? ⟨w.heap.size, 6, none⟩ = some (.int .i64 c.fl) /\ Y.cell? ⟨w.heap.size, 7, none⟩ = some (.int .i64 c.wt)) W3 := HS.out _ HB.out; have HI := H_ ((bA.block _ (Array.getElem?_eq_some_iff.1 HI.out).1).trans HI.out); refine hK _ _ (fun _ => HSv) ?_
     try simp only [aZ, aA, aE, aB, aC, aD]
     clear rA bA; refine hone 2 rfl fun K hK => ?_
     try go_simp
     go_at_call 90; refine (units_any 1492 _).mono ?_; rintro e W4 ⟨rfl, bA⟩; have HR := H_ (HR.out.below bA); have HB := H_ (HB.out.trans (bA.mono HB.out.size)); have HSv : (fun Y : World => Y.cell? ⟨w.heap.size, 0, none⟩ = some (.int .i64 c.mru) /\ Y.cell? ⟨w.heap.size, 1, none⟩ = some (.int .i64 c.auth) /\ Y.cell? ⟨w.heap.size, 2, none⟩ = some (.int .i64 c.magic) /\ Y.cell? ⟨w.heap.size, 3, none⟩ = some (.int .i64 c.echo) /\ Y.cell? ⟨w.heap.size, 4, none⟩ = some (.int .i64 c.cf) /\ Y.cell? ⟨w.heap.size, 5, none⟩ = some (.int .i64 c.tm) /\ Y.cell? ⟨w.heap.size, 6, none⟩ = some (.int .i64 c.fl) /\ Y.cell? ⟨w.heap.size, 7, none⟩ = some (.int .i64 c.wt)) W4 := HS.out _ HB.out; have HI := H_ ((bA.block _ (Array.getElem?_eq_some_iff.1 HI.out).1).trans HI.out); refine hK _ _ (fun _ => HSv) ?_
     try simp only [aZ, aA, aE, aB, aC, aD]
     clear bA; refine hone 3 rfl fun K hK => ?_
     try go_simp
     go_at_call 91; refine (magics_any _).mono ?_; rintro e W5 ⟨rfl, bA⟩; have HR := H_ (HR.out.below bA); have HB := H_ (HB.out.trans (bA.mono HB.out.size)); have HSv : (fun Y : World => Y.cell? ⟨w.heap.size, 0, none⟩ = some (.int .i64 c.mru) /\ Y.cell? ⟨w.heap.size, 1, none⟩ = some (.int .i64 c.auth) /\ Y.cell? ⟨w.heap.size, 2, none⟩ = some (.int .i64 c.magic) /\ Y.cell? ⟨w.heap.size, 3, none⟩ = some (.int .i64 c.echo) /\ Y.cell? ⟨w.heap.size, 4, none⟩ = some (.int .i64 c.cf) /\ Y.cell? ⟨w.heap.size, 5, none⟩ = some (.int .i64 c.tm) /\ Y.cell? ⟨w.heap.size, 6, none⟩ = some (.int .i64 c.fl) /\ Y.cell? ⟨w.heap.size, 7, none⟩ = some (.int .i64 c.wt)) W5 := HS.out _ HB.out; have HI := H_ ((bA.block _ (Array.getElem?_eq_some_iff.1 HI.out).1).trans HI.out); refine hK _ _ (fun _ => HSv) ?_
     try simp only [aZ, aA, aE, aB, aC, aD]
     clear bA; refine hone 4 rfl fun K hK => ?_
     try go_simp
     have bA : Below W5.heap.size W5 (W5.alloc (.cells #[.int .i64 1, .int .i64 2, .int .i64 64, .int .i64 1492, .string (be2 1492), .int .i64 5, .int .i64 4, .int .i64 1, .int .i64 4294967295, .string (be4 1)] 136 (0, 0))) := (Below.refl _ _).alloc (Nat.le_refl _) _; have hz := at1 W5 (.cells #[.int .i64 1, .int .i64 2, .int .i64 64, .int .i64 1492, .string (be2 1492), .int .i64 5, .int .i64 4, .int .i64 1, .int .i64 4294967295, .string (be4 1)] 136 (0, 0)); generalize hW6 : W5.alloc (.cells #[.int .i64 1, .int .i64 2, .int .i64 64, .int .i64 1492, .string (be2 1492), .int .i64 5, .int .i64 4, .int .i64 1, .int .i64 4294967295, .string (be4 1)] 136 (0, 0)) = W6 at bA hz ⊢; obtain ⟨rb, hrb⟩ : ∃ rb, rb = W5.heap.size := ⟨_, rfl⟩; rw [<- hrb] at hz ⊢; have HRu := H_ hz; have HR := H_ (HR.out.below bA); have HB := H_ (HB.out.trans (bA.mono HB.out.size)); have HSv : (fun Y : World => Y.cell? ⟨w.heap.size, 0, none⟩ = some (.int .i64 c.mru) /\ Y.cell? ⟨w.heap.size, 1, none⟩ = some (.int .i64 c.auth) /\ Y.cell? ⟨w.heap.size, 2, none⟩ = some (.int .i64 c.magic) /\ Y.cell? ⟨w.heap.size, 3, none⟩ = some (.int .i64 c.echo) /\ Y.cell? ⟨w.heap.size, 4, none⟩ = some (.int .i64 c.cf) /\ Y.cell? ⟨w.heap.size, 5, none⟩ = some (.int .i64 c.tm) /\ Y.cell? ⟨w.heap.size, 6, none⟩ = some (.int .i64 c.fl) /\ Y.cell? ⟨w.heap.size, 7, none⟩ = some (.int .i64 c.wt)) W6 := HS.out _ HB.out; have HI := H_ ((bA.block _ (Array.getElem?_eq_some_iff.1 HI.out).1).trans HI.out); refine hK _ _ (fun _ => HSv) ?_
     try simp only [aZ, aA, aE, aB, aC, aD]
     clear bA hz hW6 hrb; refine hatH 14 rfl (by rintro W ⟨h0, h1, h2, h3, h4, h5, h6, h7⟩; go_simp; try rfl) HSv ?_; simp only [aZ, aC, aD]; refine hone 17 rfl fun K hK => ?_
     try go_simp
     go_at_call 88; refine (HNN.out lb W1 W6 sA cA rb ib HB.out HR.out HRu.out HI.out).mono ?_; rintro e wE ⟨B, rfl, nE, bE⟩; have zl := (bE.block lb (Array.getElem?_eq_some_iff.1 HZ.out.2.1).1).trans HZ.out.2.1; have f0 := fzOf zl 0; have c0 : wE.cell? ⟨lb, 0, none⟩ = some (.pointer none) := cellOf zl 0 _ rfl; have HN := H_ (A_ bE nE); have HSv : (fun Y : World => Y.cell? ⟨w.heap.size, 0, none⟩ = some (.int .i64 c.mru) /\ Y.cell? ⟨w.heap.size, 1, none⟩ = some (.int .i64 c.auth) /\ Y.cell? ⟨w.heap.size, 2, none⟩ = some (.int .i64 c.magic) /\ Y.cell? ⟨w.heap.size, 3, none⟩ = some (.int .i64 c.echo) /\ Y.cell? ⟨w.heap.size, 4, none⟩ = some (.int .i64 c.cf) /\ Y.cell? ⟨w.heap.size, 5, none⟩ = some (.int .i64 c.tm) /\ Y.cell? ⟨w.heap.size, 6, none⟩ = some (.int .i64 c.fl) /\ Y.cell? ⟨w.heap.size, 7, none⟩ = some (.int .i64 c.wt)) wE := HS.out _ bE; clear bE nE zl; refine hK _ _ (fun _ => HSv) ?_
     try simp only [aZ, aA, aE, aB, aC, aD]
     refine hatH 18 rfl (by rintro W ⟨h0, h1, h2, h3, h4, h5, h6, h7⟩; go_simp; try rfl) HSv ?_; simp only [aZ, aC, aD]; refine hatH 19 rfl (by rintro W ⟨h0, h1, h2, h3, h4, h5, h6, h7⟩; go_simp; try rfl) HSv ?_; simp only [aZ, aC, aD]; refine hatH 21 rfl (by rintro W ⟨h0, h1, h2, h3, h4, h5, h6, h7⟩; go_simp; try rfl) HSv ?_; simp only [aZ, aC, aD]; refine hatH 20 rfl (by rintro W ⟨h0, h1, h2, h3, h4, h5, h6, h7⟩; go_simp; try rfl) HSv ?_; simp only [aZ, aC, aD]; refine hatH 22 rfl (by rintro W ⟨h0, h1, h2, h3, h4, h5, h6, h7⟩; go_simp; try rfl) HSv ?_; simp only [aZ, aC, aD]; refine hend 23 ?_; simp only [aF, aG]; clear HSv; go_wp2_with fail; go_ret2; exact HG.out wE B HN.out.1 HN.out.2
section
variable (rej : Pk -> ByteArray) (C : NegC)
end
structure LK (w0 w : World) (L : LB) (C : NegC) (echo : Int) (s : LSt) : Prop where
 v : LcpV w (fun b => w0.heap.size <= b) L C echo s
 b : Below w0.heap.size w0 w
section
variable {w0 w w' : World} {okp okt : Nat -> Prop} {L : LB} {C : NegC} {echo : Int} {s : LSt}
end
def cfg12 : LCfg := ⟨1492, 49699, 7, 0, 5, 2, 5, 3⟩
def magic7 : ByteArray := ⟨#[0, 0, 0, 7]⟩
def opts12 : List Opt := [⟨3, chapB⟩, ⟨5, magic7⟩]
def req7 : Pk := ⟨1, 1, [⟨5, magic7⟩], noB⟩
def sL1 (lb : Nat) : LSt := (doL (lC cfg12 lb) (doL (lC cfg12 lb) (lst0 cfg12 ⟨[1, 2, 3, 4], 0⟩) 2).1 0).1
end Go.Proofs.YtbiaempeegfdkaaGreat
