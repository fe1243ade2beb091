import Derived.Test.YtbiaempeegfdkaaGreatPAO
set_option linter.unusedVariables false
set_option linter.unusedSimpArgs false
set_option maxHeartbeats 16000000
namespace Go.Proofs.YtbiaempeegfdkaaGreat
open Go.RowKit Go.Tg Go.Maps
section
variable (rej : Pk -> ByteArray) {w : World} {S ok : Nat -> Prop} {B : NegB} {C : NegC} {st : NSt} {X : NegX} (c : Came) (po pa : Value)
set_option maxRecDepth 100000 in
theorem say8 (h : NegAt w S B C st X) (hc : CameAt w B ok c po pa) :
 Calls Tryz.prog 119 #[.pointer (some ⟨B.nb, 0, none⟩), .int .i64 8, cameV c po pa] w fun e w' => SayPost w w' S ok B C (sayS rej C st 8 c) e := by
 have hb1 : Below w.heap.size w (w.alloc (.cells #[.bool c.is, .int .i64 c.p.code, .int .i64 c.p.id, po, .string c.p.d, .int .i64 c.code, pa] 126 (0, 0))) := (Below.refl _ _).alloc (Nat.le_refl _) _; have h1 := h.below hb1; have hR := refuse_at c po pa h1 (hc.below hb1); have hz := at1 w (.cells #[.bool c.is, .int .i64 c.p.code, .int .i64 c.p.id, po, .string c.p.d, .int .i64 c.code, pa] 126 (0, 0)); unfold cameV at hR; have HR := H_ hR; have HB := H_ hb1; have es : sayS rej C st 8 c = ((refuseS C st c).1, [(refuseS C st c).2]) := rfl; have hd0 : (refuseS C st c).2.d = noB := by unfold refuseS; repeat (first | rfl | split)
 have HD := H_ hd0; rw [es]; generalize refuseS C st c = r at HR HD; obtain ⟨st', p⟩ := r; have c0 := cellOf hz 0 _ rfl; have c1 := cellOf hz 1 _ rfl; have c2 := cellOf hz 2 _ rfl; have c3 := cellOf hz 3 _ rfl; have c4 := cellOf hz 4 _ rfl; have c5 := cellOf hz 5 _ rfl; have c6 := cellOf hz 6 _ rfl; unfold cameV; clear hb1 h h1 es hz hR hd0; go_enter Tryz.func119, Tryz.ntmps119; go_wp2_with fail; refine HR.out.mono ?_; rintro e w2 ⟨vo, rfl, ho, hn, hk⟩; have H2 := H_ (A_ ho (A_ hn hk)); clear ho hn hk; unfold pkV; go_wp2_with fail; go_ret; have hs1 := HB.out.size; have hs2 := H2.out.2.2.size; have hb3 := (Below.refl w2.heap.size w2).alloc (Nat.le_refl _) (.cells #[.int .i64 p.code, .int .i64 p.id, vo, .string p.d] 59 (0, 0)); refine ⟨_, rfl, PksAt.one p vo (at1 w2 _) (by omega) ?_ ⟨H2.out.1.2.1.below hb3, fun k hk => (H2.out.1.2.2 k hk).elim .inl (fun h => .inr (by omega))⟩, ?_, ?_⟩
 . exact Rec.mono (Opts.below H2.out.1.1 hb3) (fun b hb => hb.elim .inl (fun h => .inr (by omega)))
 . exact (H2.out.2.1.below hb3).mono (fun b hb => hb.elim .inl (fun h => .inr (by omega)))
 . exact ((Keep.of_below _ HB.out).trans H2.out.2.2).alloc _
end
theorem say_less (rej : Pk -> ByteArray) (B : NegB) (C : NegC) (ok : Nat -> Prop) (c : Came) (po pa : Value) (a : Int) (h0 : 0 <= a) (h1 : a <= 12) (h11 : a ≠ 11) : SaySpec rej B C ok c po pa a := by
 by_cases h : a = 8
 . subst h; intro w S st X h hc; exact say8 rej (ok := fun b => (8 : Int) = 8 /\ ok b) c po pa h ⟨hc.1, ⟨Rec.mono hc.2.1.1 (fun b hb => ⟨rfl, hb⟩), hc.2.1.2.1, fun k hk => ⟨rfl, hc.2.1.2.2 k hk⟩⟩, fun b hb => hc.2.2.1 b hb.2, hc.2.2.2⟩
 . exact say_most rej B C ok c po pa a h0 h1 h h11
structure Parted (w0 w : World) (S S' : Nat -> Prop) (B B' : NegB) : Prop where
 d1 : ∀ b, S b -> ¬ B'.t b
 d2 : ∀ b, S' b -> ¬ B.t b
 n1 : ∀ b, S b -> w0.heap.size <= b
 n2 : ∀ b, S' b -> w0.heap.size <= b
 bl : Below w0.heap.size w0 w
def Two (w0 w : World) (B B' : NegB) (C C' : NegC) (st st' : NSt) (jb jb' : Nat) : Prop :=
 ∃ S S', NegP w S B C st jb /\ NegP w S' B' C' st' jb' /\ Parted w0 w S S' B B'
section
variable {w0 w w' : World} {S S' : Nat -> Prop} {B B' : NegB} {C C' : NegC} {st st' st1 : NSt} {jb jb' : Nat}
end
def NewJ (w w' : World) (v : Value) (ask : List Opt) (own peer : List Rl) (must : List Int) (cf tm fl wt : Int) (J : Value) : Prop :=
 ∃ B, v = .tuple #[.pointer (some ⟨B.nb, 0, none⟩), .int .i64 0] /\ NegV w' (fun b => w.heap.size <= b) B ⟨own, peer, must, cf, tm, fl, wt, J⟩ (st0 ask) /\ Below w.heap.size w w'
theorem newBy_endJ {J : Value} (hJ1 : J.oneCell' = true) (hJ2 : J ≠ .nilFunc) {w w6 w' : World} {nb jb : Nat} {ask : List Opt} {own peer : List Rl} {must : List Int} {q0 q1 q2 q3 q4 : Value} {cf tm fl wt : Int} (h6 : w.heap.size + 1 < w6.heap.size) (hB6 : Below w.heap.size w w6) (hb : Below w6.heap.size w6 w')
 (hr1 : RRow w6 (w.heap.size + 2) q1 own) (hr2 : RRow w6 (w.heap.size + 2) q2 peer) (hr3 : NRow w6 (w.heap.size + 2) q3 must) (hA6 : AutoAt w6 (w.heap.size + 1) 0 0 cf tm) (hr4 : ORow w' w6.heap.size q4 ask)
 (hn4 : ∀ k, q4.ownBlock = some k -> k ≠ nb /\ k ≠ jb)
 (hnb : w'.heap[nb]? = some (.cells #[.pointer (some ⟨w.heap.size + 1, 0, none⟩), q0, q1, q2, q3, .int .i64 cf, .int .i64 tm, .int .i64 fl, .int .i64 wt, J, q4, .int .u8 0, .int .u8 0, .int .i64 0, .int .i64 0, .slice none 0 0, .slice none 0 0, .int .i64 0, .int .i64 0] 122 (0, 0)))
 (_ : JAt w' jb nb) (_hne : nb ≠ jb) (h1 : w6.heap.size <= nb) (h2 : w6.heap.size <= jb)
 (hcf : 1 <= cf /\ cf <= 20) (htm : 1 <= tm /\ tm <= 20) (hf : 0 <= fl /\ fl <= 20) (hw : 1 <= wt /\ wt <= 100) (lo : own.length <= 1000) (lp : peer.length <= 1000) (lm : must.length <= 1000) (la : ask.length <= 30) :
 NewJ w w' (.tuple #[.pointer (some ⟨nb, 0, none⟩), .int .i64 0]) ask own peer must cf tm fl wt J := by
 obtain ⟨rb, hrb⟩ : ∃ rb, rb = q4.ownBlock.getD w.heap.size := ⟨_, rfl⟩; have hrq : ∀ k, q4.ownBlock = some k -> k = rb := fun k hk => by rw [hrb, hk]; rfl
 have hsz := hb.size
 have hrl : rb < w'.heap.size /\ w.heap.size <= rb /\ rb ≠ nb /\ rb ≠ jb /\ rb ≠ w.heap.size + 1 /\ (rb = w.heap.size \/ w6.heap.size <= rb) := by
  cases hq : q4.ownBlock with
  | none => rw [hq] at hrb; simp only [Option.getD_none] at hrb; subst hrb; refine ⟨by omega, Nat.le_refl _, by omega, by omega, by omega, .inl rfl⟩
  | some k =>
   have h3 := hr4.lt k hq; have h4 := hn4 k hq; have h5 := hrq k hq; subst h5; exact ⟨h3.1, by omega, h4.1, h4.2, by omega, .inr h3.2⟩
 obtain ⟨e1, e2, e3, e4, e5, e6⟩ := hrl
 have hm : ∀ b, (w.heap.size + 2 <= b /\ b < w6.heap.size) -> (NegB.mk nb (w.heap.size + 1) rb).r (fun b => w.heap.size <= b) b := by
  intro b hb; refine ⟨by omega, ?_⟩; rintro (h | h | h) <;> simp only at h <;> omega
 refine ⟨⟨nb, w.heap.size + 1, rb⟩, rfl, ⟨⟨q0, q1, q2, q3, q4, .slice none 0 0, .slice none 0 0⟩, ?_⟩, hB6.trans (hb.mono (by omega))⟩
 . exact {
    blk := hnb
    aut := hA6.below hb
    own := Rec.mono (Rls.below (Rec.old (hr1.rls (by unfold maxLen; omega))) hb) hm
    peer := Rec.mono (Rls.below (Rec.old (hr2.rls (by unfold maxLen; omega))) hb) hm
    must := Rec.mono (Nums.below (Rec.old (hr3.nums (by unfold maxLen; omega))) hb) hm
    req := hr4.base (Nat.zero_le _)
    rq := hrq
    mine := Rec.nil _ _ _
    theirs := Rec.nil _ _ _
    ne1 := show nb ≠ w.heap.size + 1 by omega
    ne2 := e3
    ne3 := e5
    rlt := e1
    s1 := show w.heap.size <= nb by omega
    s2 := show w.heap.size <= w.heap.size + 1 by omega
    s3 := e2
    ok := ⟨hcf, htm, hf, hw, lo, lp, lm, hJ1, hJ2⟩
    id := ⟨Int.le_refl 0, show (0 : Int) < 256 by decide⟩
    ak := ⟨Int.le_refl 0, show (0 : Int) < 256 by decide⟩
    ib := show InB 0 from ⟨by decide, by decide⟩
    ss := ⟨Int.le_refl 0, show (0 : Int) <= 9 by decide⟩
    lr := la
    lm := Nat.zero_le _
    lt := Nat.zero_le _ }
set_option maxRecDepth 100000 in
theorem newByJ (g : Nat) (pf : Value) (ask : List Opt) (own peer : List Rl) (must : List Int) (av ov pv mv : Value) (ok : Nat -> Prop) (cf tm fl wt : Int) (w : World) (ha : Opts w ok av ask) (ho : Rls w ok ov own) (hp : Rls w ok pv peer) (hm : Nums w ok mv must)
 (no : ∀ n c, ov = .slice none n c -> c = 0) (np : ∀ n c, pv = .slice none n c -> c = 0) (lo : own.length <= 1000) (lp : peer.length <= 1000) (lm : must.length <= 1000)
 (hcf : inB20 cf = true) (htm : inB20 tm = true) (hf0 : 0 <= fl) (hf1 : fl <= 20) (hw0 : 1 <= wt) (hw1 : wt <= 100) (hav : ∀ o ∈ ask, o.v.size <= 100000) (hask : putE ask = 0) (htw : twiceP [] ask = false)
 (hrs : ∀ r ∈ own ++ peer, r.s.size <= 100000) (hwr : (own ++ peer).any wrongR = false) :
 Calls Tryz.prog 88 #[.agg #[av, ov, pv, mv, .int .i64 cf, .int .i64 tm, .int .i64 fl, .int .i64 wt], .func (.func g) #[pf] #[]] w fun e w' => ∃ v, e = .returned v /\ NewJ w w' v ask own peer must cf tm fl wt (.func (.func g) #[pf] #[]) := by
 have hal : ask.length <= 30 := by
  unfold putE at hask
  by_cases h : 30 < ask.length
  . rw [if_pos h] at hask; cases hask
  . omega
 obtain ⟨sa, ca, rfl, hca, hma⟩ := ha.form; obtain ⟨so, co, rfl, hco, hmo⟩ := ho.form; obtain ⟨sp, cp, rfl, hcp, hmp⟩ := hp.form; obtain ⟨sm, cm, rfl, hcm, hmm⟩ := hm.form; have H := H_ (A_ ha (A_ ho (A_ hp hm))); have HN := H_ (A_ no np); have HP := H_ (A_ hav (A_ hask (A_ htw (A_ hrs hwr)))); clear ha ho hp hm no np hav hask htw hrs hwr; have d1 : decide (fl < 0) = false := by simp; omega
 have d2 : decide ((20 : Int) < fl) = false := by simp; omega
 have d3 : decide (wt < 1) = false := by simp; omega
 have d4 : decide ((100 : Int) < wt) = false := by simp; omega
 have HC := H_ (A_ hcf htm); clear hcf htm; go_enter Tryz.func88, Tryz.ntmps88; go_wp2_with fail; refine (new_ok cf tm _ HC.out.1 HC.out.2).mono ?_; rintro e w1 ⟨rfl, hA, hk⟩; have hB1 := hk.below (B := w.heap.size + 1) (by rw [alloc1]; omega) (fun _ _ h => h); have hbx : SetupAt w1 w.heap.size _ _ _ _ cf tm fl wt := (hB1.block w.heap.size (by omega)).trans (at1 w _); have HB1 := H_ (A_ (((Below.refl w.heap.size w).alloc (Nat.le_refl _) _).trans (hB1.mono (by omega))) (A_ hbx hA)); have x0 : w1.cell? ⟨w.heap.size, 0, none⟩ = some _ := cellOf hbx 0 _ rfl; have x6 : w1.cell? ⟨w.heap.size, 6, none⟩ = some _ := cellOf hbx 6 _ rfl; have x7 : w1.cell? ⟨w.heap.size, 7, none⟩ = some _ := cellOf hbx 7 _ rfl; have HPU := H_ (put_any ask _ ok w1 (H.out.1.below HB1.out.1) (by omega) HP.out.1); rw [HP.out.2.1] at HPU; clear hk hB1 hbx hA; go_wp2_with fail; refine HPU.out.mono ?_; rintro e w2 ⟨rfl, hb2⟩; have hlt1 : w.heap.size < w1.heap.size := (Array.getElem?_eq_some_iff.1 HB1.out.2.1).1; have hbx : SetupAt w2 w.heap.size _ _ _ _ cf tm fl wt := (hb2.block w.heap.size hlt1).trans HB1.out.2.1; have hA2 : AutoAt w2 (w.heap.size + 1) 0 0 cf tm := (hb2.block (w.heap.size + 1) (by have := HB1.out.2.2.lt; rw [alloc1] at this; exact this)).trans (by have := HB1.out.2.2; rw [alloc1] at this; exact this); have HB2 := H_ (A_ (HB1.out.1.trans (hb2.mono (by omega))) (A_ hbx hA2)); have y0 : w2.cell? ⟨w.heap.size, 0, none⟩ = some _ := cellOf hbx 0 _ rfl; have HTW := H_ (twice_any ask _ ok w2 (H.out.1.below HB2.out.1) (by omega)); rw [HP.out.2.2.1] at HTW; clear hb2 hbx hA2; go_wp2_with fail; refine HTW.out.mono ?_; rintro e w3 ⟨rfl, hb3⟩; have hlt2 : w.heap.size + 1 < w2.heap.size := HB2.out.2.2.lt; have hbx : SetupAt w3 w.heap.size _ _ _ _ cf tm fl wt := (hb3.block w.heap.size (by omega)).trans HB2.out.2.1; have hA3 : AutoAt w3 (w.heap.size + 1) 0 0 cf tm := (hb3.block (w.heap.size + 1) hlt2).trans HB2.out.2.2; have HB3 := H_ (A_ (HB2.out.1.trans (hb3.mono (by omega))) (A_ hbx hA3)); have t1 : w3.cell? ⟨w.heap.size, 1, none⟩ = some _ := cellOf hbx 1 _ rfl; have t2 : w3.cell? ⟨w.heap.size, 2, none⟩ = some _ := cellOf hbx 2 _ rfl; clear hb3 hbx hA3; go_wp2_with fail; have hB4 : Below w.heap.size w (w3.alloc (.cells #[.slice so own.length co, .slice sp peer.length cp] 115 (0, 0))) := HB3.out.1.alloc HB3.out.1.size _; refine (concat_any own peer _ _ ok w3.heap.size _ (H.out.2.1.below hB4) (H.out.2.2.1.below hB4) HN.out.1 HN.out.2 (at1 w3 _) lo lp).mono ?_; rintro e w4 ⟨v4, rfl, hrow, hb4⟩; have hlt3 : w.heap.size + 1 < w3.heap.size := HB3.out.2.2.lt; have hbx : SetupAt w4 w.heap.size _ _ _ _ cf tm fl wt := (hb4.block w.heap.size (by rw [alloc1]; omega)).trans ((Below.heap_alloc _ _ _ (by omega)).trans HB3.out.2.1); have hA4 : AutoAt w4 (w.heap.size + 1) 0 0 cf tm := (hb4.block (w.heap.size + 1) (by rw [alloc1]; omega)).trans ((Below.heap_alloc _ _ _ hlt3).trans HB3.out.2.2); have hBw4 := hB4.trans (hb4.mono (by rw [alloc1]; omega)); obtain ⟨s4, c4, hv4⟩ := hrow.form; subst hv4
 have HW := H_ (containsR_any (own ++ peer) _ _ 126 #[] wrongR w4 (hrow.rls (by rw [List.length_append]; unfold maxLen; omega)) (by rw [List.length_append]; omega) (enters_of Tryz.func126 (by kernel_rfl) rfl) (fun W r hr hW => by
  refine (wrong_any r W (HP.out.2.2.2.1 r hr)).mono ?_; rintro e w' ⟨rfl, hb⟩
  exact ⟨rfl, hW.trans (hb.mono hW.size)⟩))
 rw [HP.out.2.2.2.2, List.length_append] at HW; have HB4 := H_ (A_ hBw4 (A_ hbx hA4)); clear hB4 hrow hb4 hbx hA4 hBw4; go_wp2_with fail; refine HW.out.mono ?_; rintro e w5 ⟨rfl, hb5⟩; have hlt4 : w.heap.size + 1 < w4.heap.size := HB4.out.2.2.lt; have hbx : SetupAt w5 w.heap.size _ _ _ _ cf tm fl wt := (hb5.block w.heap.size (by omega)).trans HB4.out.2.1; have hA5 : AutoAt w5 (w.heap.size + 1) 0 0 cf tm := (hb5.block (w.heap.size + 1) hlt4).trans HB4.out.2.2; have HB5 := H_ (A_ (HB4.out.1.trans (hb5.mono (by omega))) (A_ hbx hA5)); have r0 : w5.cell? ⟨w.heap.size, 0, none⟩ = some _ := cellOf hbx 0 _ rfl; have r1 : w5.cell? ⟨w.heap.size, 1, none⟩ = some _ := cellOf hbx 1 _ rfl; have r2 : w5.cell? ⟨w.heap.size, 2, none⟩ = some _ := cellOf hbx 2 _ rfl; have r3 : w5.cell? ⟨w.heap.size, 3, none⟩ = some _ := cellOf hbx 3 _ rfl; clear hb5 hbx hA5; go_wp2_with fail; have hlt5 : w.heap.size + 1 < w5.heap.size := HB5.out.2.2.lt; refine wp_region_N 12 (fun W => SetupAt W w.heap.size (.slice sa ask.length ca) (.slice so own.length co) (.slice sp peer.length cp) (.slice sm must.length cm) cf tm fl wt) (by kernel_rfl) ?_; have HSv : SetupAt w5.drew w.heap.size (.slice sa ask.length ca) (.slice so own.length co) (.slice sp peer.length cp) (.slice sm must.length cm) cf tm fl wt := HB5.out.2.1; refine wpAnyN_take (i := 0) (oi := { dst := some 62, op := Op.fieldAddr 118 (Operand.tmp 2) 0, type := 0, pos := "neg.go:130", after := #[], guard := none }) (v := .pointer (some ⟨w.heap.size, 0, none⟩)) rfl (by kernel_rfl) (by kernel_rfl) (by kernel_rfl) (fun _ _ _ h => h) (Or.inl ⟨by rfl, ?_⟩) HSv ?_
 . intro W hW; go_simp
   try with_reducible rfl
 simp only [aZ, aA, aE, aB, aC, aD]; refine wpAnyN_take (i := 1) (oi := { dst := some 63, op := Op.load 42 (Operand.tmp 62), type := 42, pos := "neg.go:130", after := #[{ on := 0, ground := Ground.data }], guard := none }) (v := .slice sa ask.length ca) rfl (by kernel_rfl) (by kernel_rfl) (by kernel_rfl) (fun _ _ _ h => h) (Or.inl ⟨by rfl, ?_⟩) HSv ?_
 . intro W hW; have h1 := cellOf hW 0 _ rfl; go_simp
   try with_reducible rfl
 simp only [aZ, aA, aE, aB, aC, aD]; refine wpAnyN_take (i := 3) (oi := { dst := some 65, op := Op.fieldAddr 118 (Operand.tmp 2) 1, type := 0, pos := "neg.go:130", after := #[], guard := none }) (v := .pointer (some ⟨w.heap.size, 1, none⟩)) rfl (by kernel_rfl) (by kernel_rfl) (by kernel_rfl) (fun _ _ _ h => h) (Or.inl ⟨by rfl, ?_⟩) HSv ?_
 . intro W hW; go_simp
   try with_reducible rfl
 simp only [aZ, aA, aE, aB, aC, aD]; refine wpAnyN_take (i := 4) (oi := { dst := some 66, op := Op.load 115 (Operand.tmp 65), type := 115, pos := "neg.go:130", after := #[{ on := 3, ground := Ground.data }], guard := none }) (v := .slice so own.length co) rfl (by kernel_rfl) (by kernel_rfl) (by kernel_rfl) (fun _ _ _ h => h) (Or.inl ⟨by rfl, ?_⟩) HSv ?_
 . intro W hW; have h1 := cellOf hW 1 _ rfl; go_simp
   try with_reducible rfl
 simp only [aZ, aA, aE, aB, aC, aD]; refine wpAnyN_take (i := 6) (oi := { dst := some 68, op := Op.fieldAddr 118 (Operand.tmp 2) 2, type := 0, pos := "neg.go:130", after := #[], guard := none }) (v := .pointer (some ⟨w.heap.size, 2, none⟩)) rfl (by kernel_rfl) (by kernel_rfl) (by kernel_rfl) (fun _ _ _ h => h) (Or.inl ⟨by rfl, ?_⟩) HSv ?_
 . intro W hW; go_simp
   try with_reducible rfl
 simp only [aZ, aA, aE, aB, aC, aD]; refine wpAnyN_take (i := 7) (oi := { dst := some 69, op := Op.load 115 (Operand.tmp 68), type := 115, pos := "neg.go:130", after := #[{ on := 6, ground := Ground.data }], guard := none }) (v := .slice sp peer.length cp) rfl (by kernel_rfl) (by kernel_rfl) (by kernel_rfl) (fun _ _ _ h => h) (Or.inl ⟨by rfl, ?_⟩) HSv ?_
 . intro W hW; have h1 := cellOf hW 2 _ rfl; go_simp
   try with_reducible rfl
 simp only [aZ, aA, aE, aB, aC, aD]; refine wpAnyN_take (i := 9) (oi := { dst := some 71, op := Op.fieldAddr 118 (Operand.tmp 2) 3, type := 0, pos := "neg.go:130", after := #[], guard := none }) (v := .pointer (some ⟨w.heap.size, 3, none⟩)) rfl (by kernel_rfl) (by kernel_rfl) (by kernel_rfl) (fun _ _ _ h => h) (Or.inl ⟨by rfl, ?_⟩) HSv ?_
 . intro W hW; go_simp
   try with_reducible rfl
 simp only [aZ, aA, aE, aB, aC, aD]; refine wpAnyN_take (i := 10) (oi := { dst := some 72, op := Op.load 116 (Operand.tmp 71), type := 116, pos := "neg.go:130", after := #[{ on := 9, ground := Ground.data }], guard := none }) (v := .slice sm must.length cm) rfl (by kernel_rfl) (by kernel_rfl) (by kernel_rfl) (fun _ _ _ h => h) (Or.inl ⟨by rfl, ?_⟩) HSv ?_
 . intro W hW; have h1 := cellOf hW 3 _ rfl; go_simp
   try with_reducible rfl
 simp only [aZ, aA, aE, aB, aC, aD]; have HBc := H_ (Below.refl w5.drew.heap.size w5.drew); have hw5 : ∀ W, Below w5.drew.heap.size w5.drew W -> Below w.heap.size w W := fun W hW => HB5.out.1.drew.trans (hW.mono (show w.heap.size <= w5.heap.size by omega)); have Hw5 := H_ hw5; clear hw5; refine wpAnyN_one (i := 2) (o := { dst := some 64, op := Op.call { callee := Callee.value (Operand.func 100), args := #[Operand.tmp 63], argTypes := #[42] }, type := 42, pos := "neg.go:130", after := #[{ on := 1, ground := Ground.data }], guard := none }) rfl (by kernel_rfl) ?_
 intro K hK; rw [if_pos (by rfl)]
 try go_simp
 go_at_call 100; refine (clone_any ask _ ok _ (H.out.1.below (Hw5.out _ HBc.out)) (by omega)).mono ?_; rintro e W0 ⟨v0, rfl, hr0, hb⟩; obtain ⟨q0, k0, rfl⟩ := hr0.form; have HBc := H_ (HBc.out.trans (hb.mono HBc.out.size)); have HSv : SetupAt W0 w.heap.size (.slice sa ask.length ca) (.slice so own.length co) (.slice sp peer.length cp) (.slice sm must.length cm) cf tm fl wt := (HBc.out.block w.heap.size (show w.heap.size < w5.heap.size by omega)).trans HB5.out.2.1; have HBW0 := H_ hb; have Hhr0 := H_ hr0; clear hb hr0; refine hK.out _ _ (fun _ => HSv) ?_; clear hK
 try simp only [aZ, aA, aE, aB, aC, aD]
 refine wpAnyN_late (i := 12) (oi := { dst := some 74, op := Op.fieldAddr 118 (Operand.tmp 2) 0, type := 0, pos := "neg.go:130", after := #[{ on := 0, ground := Ground.phase }, { on := 1, ground := Ground.phase }, { on := 2, ground := Ground.phase }, { on := 3, ground := Ground.phase }, { on := 4, ground := Ground.phase }, { on := 5, ground := Ground.textOnly Departure.lateStoresUnsure }, { on := 6, ground := Ground.phase }, { on := 7, ground := Ground.phase }, { on := 8, ground := Ground.textOnly Departure.lateStoresUnsure }, { on := 9, ground := Ground.phase }, { on := 10, ground := Ground.phase }, { on := 11, ground := Ground.textOnly Departure.lateStoresUnsure }], guard := none }) (v := .pointer (some ⟨w.heap.size, 0, none⟩)) rfl (by kernel_rfl) (by kernel_rfl) (by kernel_rfl) (fun _ _ _ h => h) (Or.inl ⟨by rfl, ?_⟩) ?_
 . intro W hW; go_simp
   try with_reducible rfl
 simp only [aZ, aA, aE, aB, aC, aD]; refine wpAnyN_one (i := 5) (o := { dst := some 67, op := Op.call { callee := Callee.value (Operand.func 127), args := #[Operand.tmp 66], argTypes := #[115] }, type := 115, pos := "neg.go:130", after := #[{ on := 4, ground := Ground.data }, { on := 2, ground := Ground.chain }], guard := none }) rfl (by kernel_rfl) ?_
 intro K hK; rw [if_pos (by rfl)]
 try go_simp
 go_at_call 127; refine (cloneR_any own _ ok _ (H.out.2.1.below (Hw5.out _ HBc.out)) (by omega)).mono ?_; rintro e W1 ⟨v1, rfl, hr1, hb⟩; obtain ⟨q1, k1, rfl⟩ := hr1.form; have HBc := H_ (HBc.out.trans (hb.mono HBc.out.size)); have HSv : SetupAt W1 w.heap.size (.slice sa ask.length ca) (.slice so own.length co) (.slice sp peer.length cp) (.slice sm must.length cm) cf tm fl wt := (HBc.out.block w.heap.size (show w.heap.size < w5.heap.size by omega)).trans HB5.out.2.1; have HBW1 := H_ hb; have Hhr1 := H_ hr1; clear hb hr1; refine hK.out _ _ (fun _ => HSv) ?_; clear hK
 try simp only [aZ, aA, aE, aB, aC, aD]
 refine wpAnyN_one (i := 8) (o := { dst := some 70, op := Op.call { callee := Callee.value (Operand.func 127), args := #[Operand.tmp 69], argTypes := #[115] }, type := 115, pos := "neg.go:130", after := #[{ on := 7, ground := Ground.data }, { on := 5, ground := Ground.chain }], guard := none }) rfl (by kernel_rfl) ?_
 intro K hK; rw [if_pos (by rfl)]
 try go_simp
 go_at_call 127; refine (cloneR_any peer _ ok _ (H.out.2.2.1.below (Hw5.out _ HBc.out)) (by omega)).mono ?_; rintro e W2 ⟨v2, rfl, hr2, hb⟩; obtain ⟨q2, k2, rfl⟩ := hr2.form; have HBc := H_ (HBc.out.trans (hb.mono HBc.out.size)); have HSv : SetupAt W2 w.heap.size (.slice sa ask.length ca) (.slice so own.length co) (.slice sp peer.length cp) (.slice sm must.length cm) cf tm fl wt := (HBc.out.block w.heap.size (show w.heap.size < w5.heap.size by omega)).trans HB5.out.2.1; have HBW2 := H_ hb; have Hhr2 := H_ hr2; clear hb hr2; refine hK.out _ _ (fun _ => HSv) ?_; clear hK
 try simp only [aZ, aA, aE, aB, aC, aD]
 refine wpAnyN_one (i := 11) (o := { dst := some 73, op := Op.call { callee := Callee.value (Operand.func 83), args := #[Operand.tmp 72], argTypes := #[116] }, type := 116, pos := "neg.go:130", after := #[{ on := 10, ground := Ground.data }, { on := 8, ground := Ground.chain }], guard := none }) rfl (by kernel_rfl) ?_
 intro K hK; rw [if_pos (by rfl)]
 try go_simp
 go_at_call 83; refine (cloneN_any must _ ok _ (H.out.2.2.2.below (Hw5.out _ HBc.out)) (by omega)).mono ?_; rintro e W3 ⟨v3, rfl, hr3, hb⟩; obtain ⟨q3, k3, rfl⟩ := hr3.form; have HBc := H_ (HBc.out.trans (hb.mono HBc.out.size)); have HSv : SetupAt W3 w.heap.size (.slice sa ask.length ca) (.slice so own.length co) (.slice sp peer.length cp) (.slice sm must.length cm) cf tm fl wt := (HBc.out.block w.heap.size (show w.heap.size < w5.heap.size by omega)).trans HB5.out.2.1; have HBW3 := H_ hb; have Hhr3 := H_ hr3; clear hb hr3; refine hK.out _ _ (fun _ => HSv) ?_; clear hK
 try simp only [aZ, aA, aE, aB, aC, aD]
 refine wpAnyN_end 13 (by decide) rfl (by kernel_rfl) ?_; simp only [List.drop_succ_cons, List.drop_zero]; have z0 : W3.cell? ⟨w.heap.size, 0, none⟩ = some _ := cellOf HSv 0 _ rfl; have z1 : W3.cell? ⟨w.heap.size, 1, none⟩ = some _ := cellOf HSv 1 _ rfl; have z2 : W3.cell? ⟨w.heap.size, 2, none⟩ = some _ := cellOf HSv 2 _ rfl; have z3 : W3.cell? ⟨w.heap.size, 3, none⟩ = some _ := cellOf HSv 3 _ rfl; have fz : ∀ o, W3.frozen? ⟨w.heap.size, o, none⟩ = false := fun o => fzOf HSv o; go_wp2_with fail
 have hS6 : SetupAt ((((W3.setCell ⟨w.heap.size, 0, none⟩ (.slice q0 ask.length k0)).setCell ⟨w.heap.size, 1, none⟩ (.slice q1 own.length k1)).setCell ⟨w.heap.size, 2, none⟩ (.slice q2 peer.length k2)).setCell ⟨w.heap.size, 3, none⟩ (.slice q3 must.length k3))
  w.heap.size (.slice q0 ask.length k0) (.slice q1 own.length k1) (.slice q2 peer.length k2) (.slice q3 must.length k3) cf tm fl wt := set_block (set_block (set_block (set_block HSv 0 _) 1 _) 2 _) 3 _
 have hk6 : Keep (fun k => k = w.heap.size) W3 ((((W3.setCell ⟨w.heap.size, 0, none⟩ (.slice q0 ask.length k0)).setCell ⟨w.heap.size, 1, none⟩ (.slice q1 own.length k1)).setCell ⟨w.heap.size, 2, none⟩ (.slice q2 peer.length k2)).setCell ⟨w.heap.size, 3, none⟩ (.slice q3 must.length k3)) :=
  keep4 W3 w.heap.size _ _ _ _
 generalize ((((W3.setCell ⟨w.heap.size, 0, none⟩ (.slice q0 ask.length k0)).setCell ⟨w.heap.size, 1, none⟩ (.slice q1 own.length k1)).setCell ⟨w.heap.size, 2, none⟩ (.slice q2 peer.length k2)).setCell ⟨w.heap.size, 3, none⟩ (.slice q3 must.length k3)) = w6 at hS6 hk6 ⊢; have hsz : w5.heap.size <= W0.heap.size := HBW0.out.size; have hsz1 := HBW1.out.size; have hsz2 := HBW2.out.size; have hsz3 := HBW3.out.size; have hsz5 : w5.drew.heap.size = w5.heap.size := rfl; have hr0 : ORow w6 (w.heap.size + 2) (.slice q0 ask.length k0) ask := ((((Hhr0.out.below HBW1.out).below HBW2.out).below HBW3.out).keep hk6 (fun k hk he => by have := (Hhr0.out.lt k hk).2; omega)).base (by omega); have hr1 : RRow w6 (w.heap.size + 2) (.slice q1 own.length k1) own := (((Hhr1.out.below HBW2.out).below HBW3.out).keep hk6 (fun k hk he => by have := (Hhr1.out.lt k hk).2; omega)).base (by omega); have hr2 : RRow w6 (w.heap.size + 2) (.slice q2 peer.length k2) peer := ((Hhr2.out.below HBW3.out).keep hk6 (fun k hk he => by have := (Hhr2.out.lt k hk).2; omega)).base (by omega); have hr3 : NRow w6 (w.heap.size + 2) (.slice q3 must.length k3) must := (Hhr3.out.keep hk6 (fun k hk he => by have := (Hhr3.out.lt k hk).2; omega)).base (by omega); have hA6 : AutoAt w6 (w.heap.size + 1) 0 0 cf tm := (hk6.block (w.heap.size + 1) (by omega) (by omega)).trans ((HBc.out.block (w.heap.size + 1) hlt5).trans HB5.out.2.2); have hB6 : Below w.heap.size w w6 := (Hw5.out _ HBc.out).trans (hk6.below (by omega) (by omega)); have hlt6 : w.heap.size + 1 < w6.heap.size := hA6.lt; have HR := H_ (A_ hr0 (A_ hr1 (A_ hr2 (A_ hr3 (A_ hA6 hB6)))))
 have HK : Hid (∀ W, Below w6.heap.size w6 W -> W.cell? ⟨w.heap.size, 0, none⟩ = some (.slice q0 ask.length k0) /\ W.cell? ⟨w.heap.size, 1, none⟩ = some (.slice q1 own.length k1) /\ W.cell? ⟨w.heap.size, 2, none⟩ = some (.slice q2 peer.length k2) /\
  W.cell? ⟨w.heap.size, 3, none⟩ = some (.slice q3 must.length k3) /\ W.cell? ⟨w.heap.size, 4, none⟩ = some (.int .i64 cf) /\ W.cell? ⟨w.heap.size, 5, none⟩ = some (.int .i64 tm) /\ W.cell? ⟨w.heap.size, 6, none⟩ = some (.int .i64 fl) /\ W.cell? ⟨w.heap.size, 7, none⟩ = some (.int .i64 wt)) := H_ fun W hW => by
  have h1 : SetupAt W _ _ _ _ _ cf tm fl wt := (hW.block w.heap.size (by omega)).trans hS6; exact ⟨cellOf h1 0 _ rfl, cellOf h1 1 _ rfl, cellOf h1 2 _ rfl, cellOf h1 3 _ rfl, cellOf h1 4 _ rfl, cellOf h1 5 _ rfl, cellOf h1 6 _ rfl, cellOf h1 7 _ rfl⟩
 have HC6 := H_ (fun W (hW : Below w6.heap.size w6 W) => clone_any ask _ (fun b => w.heap.size + 2 <= b) W ((hr0.opts (by unfold maxLen; omega)).below hW) (by omega)); obtain ⟨c0, c1, c2, c3, c4, c5, c6, c7⟩ := HK.out w6.drew (Below.refl _ _).drew; clear HSv hS6 hk6 hr0 hr1 hr2 hr3 hA6 hB6 hsz hsz1 hsz2 hsz3 hsz5 z0 z1 z2 z3 fz HBc Hw5 HBW0 HBW1 HBW2 HBW3 Hhr0 Hhr1 Hhr2 Hhr3 HB5 HB4 HB3 HB2 HB1 HTW HW HPU x0 x6 x7 y0 t1 t2 r0 r1 r2 r3 d1 d2 d3 d4 hlt1 hlt2 hlt3 hlt4 hlt5
 go_region_held3 (fun W => W.cell? ⟨w.heap.size, 0, none⟩ = some (.slice q0 ask.length k0) /\ W.cell? ⟨w.heap.size, 1, none⟩ = some (.slice q1 own.length k1) /\ W.cell? ⟨w.heap.size, 2, none⟩ = some (.slice q2 peer.length k2) /\
  W.cell? ⟨w.heap.size, 3, none⟩ = some (.slice q3 must.length k3) /\ W.cell? ⟨w.heap.size, 4, none⟩ = some (.int .i64 cf) /\ W.cell? ⟨w.heap.size, 5, none⟩ = some (.int .i64 tm) /\ W.cell? ⟨w.heap.size, 6, none⟩ = some (.int .i64 fl) /\ W.cell? ⟨w.heap.size, 7, none⟩ = some (.int .i64 wt))
  (first
   | exact HK.out _ HB7.out.1
   | exact HK.out _ ((Below.refl _ _).alloc (Nat.le_refl _) _).drew
   | exact HK.out _ ((Below.setCell HB7.out.1 (p := ⟨w6.heap.size, 0, none⟩) (Nat.le_refl _) _).alloc (Below.setCell HB7.out.1 (p := ⟨w6.heap.size, 0, none⟩) (Nat.le_refl _) _).size _)
   | exact HK.out _ ((HB7.out.1.alloc HB7.out.1.size _).alloc (by rw [alloc1]; exact Nat.le_succ_of_le HB7.out.1.size) _)
   | exact HK.out _ (Below.setCell (HB7.out.1.alloc HB7.out.1.size _) (by exact Nat.le_refl _) _)
   | exact HK.out _ (Below.setCell ((HB7.out.1.alloc HB7.out.1.size _).alloc (by rw [alloc1]; exact Nat.le_succ_of_le HB7.out.1.size) _) (by exact HB7.out.1.size) _)
   | exact HK.out _ (Below.setCell ((HB7.out.1.alloc HB7.out.1.size _).alloc (by rw [alloc1]; exact Nat.le_succ_of_le HB7.out.1.size) _) (by exact Nat.le_succ_of_le HB7.out.1.size) _)
   | go_keep)
  (first
   | (
    go_at_call 100; refine (HC6.out _ (by first | exact (Below.refl _ _).drew | exact ((Below.refl _ _).alloc (Nat.le_refl _) _).drew)).mono ?_; rintro e W4 ⟨v4, rfl, hr4, hb4⟩; obtain ⟨q4, k4, rfl⟩ := hr4.form; have HB7 := H_ (A_ (show Below w6.heap.size w6 W4 from Below.trans (by first | exact (Below.refl _ _).drew | exact ((Below.refl _ _).alloc (Nat.le_refl _) _).drew) (hb4.mono (by first | exact Nat.le_refl _ | exact ((Below.refl w6.heap.size w6).alloc (Nat.le_refl _) _).drew.size))) (A_ hr4 hb4))
    try (
     have hz4 : W4.heap[w6.heap.size]? = some (.cells #[.pointer none] 32 (0, 0)) := (hb4.block w6.heap.size (by rw [show ((w6.alloc (.cells #[.pointer none] 32 (0, 0))).drew).heap.size = w6.heap.size + 1 from alloc1 _ _]; exact Nat.lt_succ_self _)).trans (at1 w6 _); have hlt4 : w6.heap.size < W4.heap.size := (Array.getElem?_eq_some_iff.1 hz4).1; have hz5 : ∀ X, (W4.alloc X).cell? ⟨w6.heap.size, 0, none⟩ = some (.pointer none) := fun X => cellOf ((Below.heap_alloc _ _ _ hlt4).trans hz4) 0 _ rfl
     have hz6 : ∀ X, (W4.alloc X).frozen? ⟨w6.heap.size, 0, none⟩ = false := fun X => fzOf ((Below.heap_alloc _ _ _ hlt4).trans hz4) 0)
    clear hr4 hb4))
 all_goals have qf : ∀ w, (binOp .eql 120 (.func (.func g) #[pf] #[]) .nilFunc).run Tryz.prog w = .ok (.bool false) w := fun w => by kernel_rfl
 all_goals try have hz7 : ∀ v X, ((W4.setCell ⟨w6.heap.size, 0, none⟩ v).alloc X).cell? ⟨w6.heap.size, 0, none⟩ = some v := fun v X => cellOf ((Below.heap_alloc _ _ _ (Array.getElem?_eq_some_iff.1 (set_block hz4 0 _)).1).trans (set_block hz4 0 _)) 0 _ rfl
 all_goals go_wp2_with fail
 all_goals go_ret2
 all_goals have hl4 := fun k hk => HB7.out.2.1.lt k hk
 all_goals have hsz4 := HB7.out.2.2.size
 all_goals have h64 := HB7.out.1.size
 all_goals have hcf := inB20_true.1 HC.out.1
 all_goals have htm := inB20_true.1 HC.out.2
 all_goals first
  | exact ⟨_, rfl, newBy_endJ rfl (fun h => by cases h) (by omega) HR.out.2.2.2.2.2 ((HB7.out.1.alloc HB7.out.1.size _).alloc (by rw [alloc1]; omega) _) HR.out.2.1 HR.out.2.2.1 HR.out.2.2.2.1 HR.out.2.2.2.2.1
   (((HB7.out.2.1.base (by first | exact Nat.le_refl _ | (rw [alloc1]; omega))).below ((Below.refl _ _).alloc (Nat.le_refl _) _)).below ((Below.refl _ _).alloc (Nat.le_refl _) _)) (fun k hk => by have := (hl4 k hk).1; omega)
   ((Below.heap_alloc _ _ _ (by rw [alloc1]; omega)).trans (at1 W4 _)) (at21 W4 _ _) (by omega) (by omega) (by omega) hcf htm ⟨hf0, hf1⟩ ⟨hw0, hw1⟩ lo lp lm hal⟩
  | exact ⟨_, rfl, newBy_endJ rfl (fun h => by cases h) (by omega) HR.out.2.2.2.2.2 ((HB7.out.1.alloc HB7.out.1.size _).alloc (by rw [alloc1]; omega) _) HR.out.2.1 HR.out.2.2.1 HR.out.2.2.2.1 HR.out.2.2.2.2.1
   (((HB7.out.2.1.base (by first | exact Nat.le_refl _ | (rw [alloc1]; omega))).below ((Below.refl _ _).alloc (Nat.le_refl _) _)).below ((Below.refl _ _).alloc (Nat.le_refl _) _)) (fun k hk => by have := (hl4 k hk).1; omega)
   (at21 W4 _ _) ((Below.heap_alloc _ _ _ (by rw [alloc1]; omega)).trans (at1 W4 _)) (by omega) (by omega) (by omega) hcf htm ⟨hf0, hf1⟩ ⟨hw0, hw1⟩ lo lp lm hal⟩
  | skip
 . have hszA : (w6.alloc (.cells #[.pointer none] 32 (0, 0))).drew.heap.size = w6.heap.size + 1 := alloc1 _ _; have hszB : ∀ v, (W4.setCell ⟨w6.heap.size, 0, none⟩ v).heap.size = W4.heap.size := fun v => by simp [World.setCell]
   have hat : ∀ v A, ((W4.setCell ⟨w6.heap.size, 0, none⟩ v).alloc A).heap[W4.heap.size]? = some A := fun v A => by rw [<- hszB v]; exact at1 _ A
   refine ⟨_, rfl, newBy_endJ rfl (fun h => by cases h) (by omega) HR.out.2.2.2.2.2 ((Below.setCell HB7.out.1 (p := ⟨w6.heap.size, 0, none⟩) (Nat.le_refl _) _).alloc (by rw [hszB]; omega) _) HR.out.2.1 HR.out.2.2.1 HR.out.2.2.2.1 HR.out.2.2.2.2.1
    (((HB7.out.2.1.keep ((Keep.refl (fun k => k = w6.heap.size) W4).setCell ⟨w6.heap.size, 0, none⟩ (Or.inr rfl) _) (fun k hk he => by have := (hl4 k hk).2; omega)).base (by omega)).below ((Below.refl _ _).alloc (Nat.le_refl _) _)) (fun k hk => by have := hl4 k hk; omega)
    (hat _ _) ((Below.heap_alloc _ _ _ (by rw [hszB]; omega)).trans (set_block hz4 0 _)) (by omega) (by omega) (by omega) hcf htm ⟨hf0, hf1⟩ ⟨hw0, hw1⟩ lo lp lm hal⟩
end Go.Proofs.YtbiaempeegfdkaaGreat
