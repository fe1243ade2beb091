import Derived.Test.YtignponfoheaeaaGreatRAY
import Derived.Test.YtignponfoheaeaaGreatRAV
import Derived.Test.YtignponfoheaeaaGreatRAX
import Derived.Test.YtignponfoheaeaaGreatRAA
set_option linter.unusedVariables false
set_option linter.unusedSimpArgs false
set_option maxHeartbeats 16000000
namespace Go.Proofs.YtignponfoheaeaaGreat
open Go.RowKit Go.Tg Go.Maps
theorem RNPost.okm {w w' : World} {S ok ok' : Nat -> Prop} {b : Nat} {C : NegC} {r : NSt × List Pk} {e : Ending} (h : RNPost w w' S ok b C r e) (ho : ∀ g, ok g -> ok' g \/ w.heap.size <= g) : RNPost w w' S ok' b C r e := by
 obtain ⟨v, L, h1, h2, h3, h4, h5⟩ := h; have hg : ∀ g, Grow ok w g -> Grow ok' w g := fun g hg => hg.elim (fun h => ho g h) .inr; exact ⟨v, L, h1, h2, ⟨Rec.mono h3.r hg, fun p hp => Rec.mono (h3.o p hp) hg, h3.m⟩, h4, h5⟩
section
variable {w : World} {S ok : Nat -> Prop} {b : Nat} {C : NegC} {st : NSt} {X : RX}
set_option maxRecDepth 100000 in
theorem take9_2 (p : Pk) (po : Value) (hcode : p.code = 2) (h : RNAt w S b C st X) (hp : PkIn w b ok p po) :
 Calls Tryz.prog 50 #[.pointer (some ⟨b, 0, none⟩), pkV p po] w fun e w' => RNPost w w' S (fun _ => False) b C (if p.id = st.asked /\ p.o = st.req then evR C { st with mine := p.o } 8 ⟨true, p, 0, []⟩ else (st, [])) e := by
 obtain ⟨sp, kp, rfl, hkp, -⟩ := hp.o.form; have hb1 := b1 w (.cells #[.int .i64 p.code, .int .i64 p.id, .slice sp p.o.length kp, .string p.d] 93 (0, 0)); have hz1 := heap_alloc_new w (.cells #[.int .i64 p.code, .int .i64 p.id, .slice sp p.o.length kp, .string p.d] 93 (0, 0)); have hs1 : (w.alloc (.cells #[.int .i64 p.code, .int .i64 p.id, .slice sp p.o.length kp, .string p.d] 93 (0, 0))).heap.size = w.heap.size + 1 := alloc1 _ _; have hblt := h.blt; have H := H_ (A_ h (A_ (h.below hb1) (A_ hb1 (A_ hz1 hp)))); have HC := H_ (fun (W : World) (hW : Below w.heap.size w W) (hz : W.heap[w.heap.size]? = some (.cells #[.int .i64 p.code, .int .i64 p.id, .slice sp p.o.length kp, .string p.d] 93 (0, 0))) => hp.came (c := 0) (ok' := fun _ => False) (pa := .slice none 0 0) (ans := []) hW hz (by omega : w.heap.size ≠ b) (Rec.nil _ _ _) (fun _ h => h.elim) (Nat.zero_le _)); obtain ⟨R, hR⟩ : ∃ R, R = (if p.id = st.asked /\ p.o = st.req then evR C { st with mine := p.o } 8 ⟨true, p, 0, []⟩ else (st, [])) := ⟨_, rfl⟩; have HR := H_ hR; rw [<- hR]; clear hR; obtain ⟨sq, kq, hqe, hqc, -⟩ := h.ask.form; have hask := h.ask; rw [hqe] at hask; have HS := H_ (fun W (hW : Below w.heap.size w W) => sameP9_any p.o st.req _ _ ok _ W (hp.o.below hW) ((brow_opts hask (by have := h.lr; omega)).below hW) (by have := hp.pl; omega) (by have := h.lr; omega))
 have HCE : Hid (∀ W, Below (w.alloc (.cells #[.int .i64 p.code, .int .i64 p.id, .slice sp p.o.length kp, .string p.d] 93 (0, 0))).heap.size (w.alloc (.cells #[.int .i64 p.code, .int .i64 p.id, .slice sp p.o.length kp, .string p.d] 93 (0, 0))) W -> W.cell? ⟨w.heap.size, 1, none⟩ = some (.int .i64 p.id) /\ W.cell? ⟨b, 14, none⟩ = some (.int .i64 st.asked) /\ W.cell? ⟨w.heap.size, 2, none⟩ = some (.slice sp p.o.length kp) /\ W.cell? ⟨b, 12, none⟩ = some (.slice sq st.req.length kq)) := H_ fun W hW => by
  have hz := (hW.block w.heap.size (by omega)).trans H.out.2.2.2.1; have hh := H.out.2.1.below hW; exact ⟨cellOf hz 1 _ rfl, hh.cell 14, cellOf hz 2 _ rfl, (hh.cell 12).trans (by rw [<- hqe]; rfl)⟩
 have hpl := hp.pl; have HQN : Hid (sp = none -> p.o.length = 0 /\ kp = 0) := H_ fun e => by subst e; have h0 := hp.nil _ _ rfl; omega
 have HQF : Hid (∀ W, Below w.heap.size w W -> ∀ ad, sp = some ad -> ∀ j u, (oV p.o)[j]? = some u -> W.cell? (ad.add j) = some u) := H_ fun W hW ad h => by
  have := H.out.2.2.2.2.o.below hW; subst h; exact Rec.flat (by decide) this
 clear hask hqe; unfold pkV; clear h hp hb1 hz1; obtain ⟨pc, pi, pl, pd⟩ := p; simp only at hcode hpl HS HCE HQN HQF HR H HC
 subst hcode; have HSv : (fun Y : World => Y.cell? ⟨w.heap.size, 1, none⟩ = some (.int .i64 pi) /\ Y.cell? ⟨b, 14, none⟩ = some (.int .i64 st.asked) /\ Y.cell? ⟨w.heap.size, 2, none⟩ = some (.slice sp pl.length kp) /\ Y.cell? ⟨b, 12, none⟩ = some (.slice sq st.req.length kq)) (w.alloc (.cells #[.int .i64 2, .int .i64 pi, .slice sp pl.length kp, .string pd] 93 (0, 0))).drew := HCE.out _ (Below.refl _ _).drew; go_enter Tryz.func50, Tryz.ntmps50; go_wp2_with fail; refine wp_region_H (rgH 0 17) (fun Y : World => Y.cell? ⟨w.heap.size, 1, none⟩ = some (.int .i64 pi) /\ Y.cell? ⟨b, 14, none⟩ = some (.int .i64 st.asked) /\ Y.cell? ⟨w.heap.size, 2, none⟩ = some (.slice sp pl.length kp) /\ Y.cell? ⟨b, 12, none⟩ = some (.slice sq st.req.length kq)) (by kernel_rfl) ?_; have HB2 := H_ (show Below w.heap.size w (w.alloc (.cells #[.int .i64 2, .int .i64 pi, .slice sp pl.length kp, .string pd] 93 (0, 0))).drew from H.out.2.2.1.drew); generalize hw1 : w.alloc (.cells #[.int .i64 2, .int .i64 pi, .slice sp pl.length kp, .string pd] 93 (0, 0)) = w1 at *; clear hw1
 by_cases hid : pi = st.asked
 . have q : (pi != st.asked) = false := by simpa using hid
   have HID := H_ hid; clear hid; refine hatH 0 rfl (by rintro W ⟨h0, h1, h2, h3⟩; go_simp; try rfl) HSv ?_; simp only [aZ, aC, aD]; refine hatH 1 rfl (by rintro W ⟨h0, h1, h2, h3⟩; go_simp; try rfl) HSv ?_; simp only [aZ, aC, aD]; refine hatH 2 rfl (by rintro W ⟨h0, h1, h2, h3⟩; go_simp; try rfl) HSv ?_; simp only [aZ, aC, aD]; refine hatH 3 rfl (by rintro W ⟨h0, h1, h2, h3⟩; go_simp; try rfl) HSv ?_; simp only [aZ, aC, aD]; refine hatH 4 rfl (by rintro W ⟨h0, h1, h2, h3⟩; go_simp; try rfl) HSv ?_; simp only [aZ, aC, aD]; refine hatH 5 rfl (by rintro W ⟨h0, h1, h2, h3⟩; go_simp; try rfl) HSv ?_; simp only [aZ, aC, aD]; refine hatH 6 rfl (by rintro W ⟨h0, h1, h2, h3⟩; go_simp; try rfl) HSv ?_; simp only [aZ, aC, aD]; refine hatH 7 rfl (by rintro W ⟨h0, h1, h2, h3⟩; go_simp; try rfl) HSv ?_; simp only [aZ, aC, aD]; refine hatH 8 rfl (by rintro W ⟨h0, h1, h2, h3⟩; go_simp; try rfl) HSv ?_; simp only [aZ, aC, aD]; refine hatH 9 rfl (by rintro W ⟨h0, h1, h2, h3⟩; go_simp; try rfl) HSv ?_; simp only [aZ, aC, aD]; refine hatH 10 rfl (by rintro W ⟨h0, h1, h2, h3⟩; go_simp; try rfl) HSv ?_; simp only [aZ, aC, aD]; refine hatH 11 rfl (by rintro W ⟨h0, h1, h2, h3⟩; go_simp; try rfl) HSv ?_; simp only [aZ, aC, aD]; refine hatH 12 rfl (by rintro W ⟨h0, h1, h2, h3⟩; go_simp; try rfl) HSv ?_; simp only [aZ, aC, aD]; refine hatH 13 rfl (by rintro W ⟨h0, h1, h2, h3⟩; go_simp; try rfl) HSv ?_; simp only [aZ, aC, aD]; refine hone 14 rfl fun K hK => ?_
   try go_simp
   go_at_call 171; refine (HS.out _ HB2.out).mono ?_; rintro e w2 ⟨⟨y, rfl, hy⟩, hb2⟩; have hb12 : Below w1.heap.size w1 w2 := Below.trans (Below.refl _ _).drew hb2; have HSv := HCE.out _ hb12; have HY := H_ hy; have HB3 := H_ (H.out.2.2.1.trans (hb12.mono (by omega))); have HB12 := H_ hb12; clear hy hb2 hb12; refine hK _ _ (fun _ => HSv) ?_
   try simp only [aZ, aA, aE, aB, aC, aD]
   refine hatH 15 rfl (by rintro W ⟨h0, h1, h2, h3⟩; go_simp; try rfl) HSv ?_; simp only [aZ, aC, aD]; refine hatH 16 rfl (by rintro W ⟨h0, h1, h2, h3⟩; go_simp; try rfl) HSv ?_; simp only [aZ, aC, aD]; refine hend 17 ?_; simp only [aF, aG]
   cases y with
   | false =>
    have HR2 := H_ (HR.out.trans (if_neg (fun h => by have := HY.out.2 h.2; cases this))); go_wp2_with fail; go_ret; rw [HR2.out]; exact RNPost.none (H.out.2.1.below HB12.out) (Keep.of_below _ HB3.out)
   | true =>
    have HR2 := H_ (HR.out.trans (if_pos ⟨HID.out, HY.out.1 rfl⟩)); obtain ⟨-, -, g2, -⟩ := HSv
    go_wp2_with (at_builtin; go_loud (refine wpl_append_fl opt_row rfl _ _ rfl _ 0 [] rfl (BRow.nil _ _ _) sp pl.length kp (oV pl) rfl HQN.out (fun ad h => HQF.out w2 HB3.out ad h) (oV_len _) (oV_one _) (by omega) ?_; intro v8 w8 h8 k8 o8; rw [Nat.zero_add, List.nil_append] at h8; have hb8 : Below w2.heap.size w2 w8 := k8.below (Nat.le_refl _) (fun _ _ h => by cases h); have f8 : ∀ g, v8.ownBlock = some g -> w2.heap.size <= g := fun g hg => (by rcases o8 with o8 | o8; (rw [o8] at hg; cases hg); (rw [o8] at hg; cases hg; exact Nat.le_refl _)); have h88 := (H.out.2.1.below HB12.out).below hb8; have e17 := h88.cell 17; have f17 := h88.fz 17; have hs12 := HB12.out.size; have H9 := H_ (A_ ((h88.mono (fun g hg => (Or.inl hg : Grow S w g))).sMine v8 pl h8 (by omega) (fun g hg => (by have h1 := f8 g hg; exact ⟨Or.inr (by omega), fun he => by omega⟩))) ((Keep.of_below (· = b) (HB3.out.trans (hb8.mono HB3.out.size))).trans (keepR b w8 17 v8))); have hz8 := ((keepR b w8 17 v8).block w.heap.size (by have := hb8.size; omega) (by omega)).trans ((hb8.block w.heap.size (by omega)).trans ((HB12.out.block w.heap.size (by omega)).trans H.out.2.2.2.1)); have HZ8 := H_ hz8; have HB8 := H_ hb8; obtain ⟨s8, q8, rfl, -, -⟩ := h8.form; clear h8 k8 o8 hb8 f8 h88 hz8))
    have hc8 : CameR (w8.setCell ⟨b, 17, none⟩ (.slice s8 pl.length q8)) b (fun _ => False) ⟨true, ⟨2, pi, pl, pd⟩, 0, []⟩ (.pointer (some ⟨w.heap.size, 0, none⟩)) (.slice none 0 0) :=
     {
      a := Rec.nil _ _ _, ak := fun _ h => h.elim, al := Nat.zero_le _, pl := hpl, pz := H.out.2.2.2.2.pz, pd := H.out.2.2.2.2.pd
      p := .inr ⟨rfl, w.heap.size, _, ok, rfl, by omega, HZ8.out, Rec.keep H.out.2.2.2.2.o H9.out.2 (fun g _ hg => H.out.2.2.2.2.nb g hg), H.out.2.2.2.2.nb, H.out.2.2.2.2.nil⟩ }
    have HD := H_ (do9_at (ok := fun _ => False) 8 ⟨true, ⟨2, pi, pl, pd⟩, 0, []⟩ _ _ H9.out.1 hc8 (actOk_is rfl _ _)); clear hc8; refine HD.out.mono ?_; intro e w3 h3; have H3 := H_ h3; obtain ⟨v3, L3, rfl, -, h33, -⟩ := h3; obtain ⟨s3, k3, rfl, -, -⟩ := h33.form; clear h33; go_wp2_with fail; go_ret; rw [HR2.out]; obtain ⟨v, L, h1, h2, h3, ⟨X2, h4⟩, h5⟩ := H3.out.grow H9.out.2.size H9.out.2; exact ⟨v, L, h1, h2, h3, ⟨X2, h4.mono (fun g hg => hg.elim id .inr)⟩, h5⟩
 . have q : (pi != st.asked) = true := by simpa using hid
   have HR2 := H_ (HR.out.trans (if_neg (fun h => hid h.1))); clear hid; refine hatH 0 rfl (by rintro W ⟨h0, h1, h2, h3⟩; go_simp; try rfl) HSv ?_; simp only [aZ, aC, aD]; refine hatH 1 rfl (by rintro W ⟨h0, h1, h2, h3⟩; go_simp; try rfl) HSv ?_; simp only [aZ, aC, aD]; refine hatH 2 rfl (by rintro W ⟨h0, h1, h2, h3⟩; go_simp; try rfl) HSv ?_; simp only [aZ, aC, aD]; refine hatH 3 rfl (by rintro W ⟨h0, h1, h2, h3⟩; go_simp; try rfl) HSv ?_; simp only [aZ, aC, aD]; refine hatH 4 rfl (by rintro W ⟨h0, h1, h2, h3⟩; go_simp; try rfl) HSv ?_; simp only [aZ, aC, aD]; refine hatH 5 rfl (by rintro W ⟨h0, h1, h2, h3⟩; go_simp; try rfl) HSv ?_; simp only [aZ, aC, aD]; refine hatH 6 rfl (by rintro W ⟨h0, h1, h2, h3⟩; go_simp; try rfl) HSv ?_; simp only [aZ, aC, aD]; refine hatH 7 rfl (by rintro W ⟨h0, h1, h2, h3⟩; go_simp; try rfl) HSv ?_; simp only [aZ, aC, aD]; refine hskp 8 rfl HSv ?_; simp only [aZ, aA, aE, aB, aC, aD]; refine hskp 9 rfl HSv ?_; simp only [aZ, aA, aE, aB, aC, aD]; refine hskp 10 rfl HSv ?_; simp only [aZ, aA, aE, aB, aC, aD]; refine hskp 11 rfl HSv ?_; simp only [aZ, aA, aE, aB, aC, aD]; refine hskp 12 rfl HSv ?_; simp only [aZ, aA, aE, aB, aC, aD]; refine hskp 13 rfl HSv ?_; simp only [aZ, aA, aE, aB, aC, aD]; refine hskp 14 rfl HSv ?_; simp only [aZ, aA, aE, aB, aC, aD]; refine hskp 15 rfl HSv ?_; simp only [aZ, aA, aE, aB, aC, aD]; refine hatH 16 rfl (by rintro W ⟨h0, h1, h2, h3⟩; go_simp; try rfl) HSv ?_; simp only [aZ, aC, aD]; refine hend 17 ?_; simp only [aF, aG]; go_wp2_with fail; go_ret; rw [HR2.out]; exact RNPost.none (H.out.2.1.below (Below.refl _ _).drew) (Keep.of_below _ HB2.out)
set_option maxRecDepth 100000 in
theorem take9_7 (p : Pk) (po : Value) (hcode : p.code = 7) (h : RNAt w S b C st X) (hp : PkIn w b ok p po) :
 Calls Tryz.prog 50 #[.pointer (some ⟨b, 0, none⟩), pkV p po] w fun e w' => RNPost w w' S (fun _ => False) b C (if p.d.size = 0 then (st, []) else evR C st (if 1 <= (p.d.data.getD 0 0).toNat /\ (p.d.data.getD 0 0).toNat <= 7 then 14 else 13) ⟨true, p, 0, []⟩) e := by
 obtain ⟨sp, kp, rfl, hkp, -⟩ := hp.o.form; have hb1 := b1 w (.cells #[.int .i64 p.code, .int .i64 p.id, .slice sp p.o.length kp, .string p.d] 93 (0, 0)); have hz1 := heap_alloc_new w (.cells #[.int .i64 p.code, .int .i64 p.id, .slice sp p.o.length kp, .string p.d] 93 (0, 0)); have hs1 : (w.alloc (.cells #[.int .i64 p.code, .int .i64 p.id, .slice sp p.o.length kp, .string p.d] 93 (0, 0))).heap.size = w.heap.size + 1 := alloc1 _ _; have hblt := h.blt; have H := H_ (A_ h (A_ (h.below hb1) (A_ hb1 (A_ hz1 hp)))); have HC := H_ (fun (W : World) (hW : Below w.heap.size w W) (hz : W.heap[w.heap.size]? = some (.cells #[.int .i64 p.code, .int .i64 p.id, .slice sp p.o.length kp, .string p.d] 93 (0, 0))) => hp.came (c := 0) (ok' := fun _ => False) (pa := .slice none 0 0) (ans := []) hW hz (by omega : w.heap.size ≠ b) (Rec.nil _ _ _) (fun _ h => h.elim) (Nat.zero_le _)); have HE := H_ (fun ev => do9_at (ok := fun _ => False) ev ⟨true, p, 0, []⟩ _ _ H.out.2.1 (HC.out _ H.out.2.2.1 H.out.2.2.2.1) (actOk_is rfl _ _)); obtain ⟨R, hR⟩ : ∃ R, R = (if p.d.size = 0 then (st, []) else evR C st (if 1 <= (p.d.data.getD 0 0).toNat /\ (p.d.data.getD 0 0).toNat <= 7 then 14 else 13) ⟨true, p, 0, []⟩) := ⟨_, rfl⟩; have HM := H_ hR; rw [<- hR]; clear hR; unfold pkV; clear h hp hb1 hz1; obtain ⟨pc, pi, pl, pd⟩ := p; simp only at hcode
 subst hcode; simp only at HM HE H
 by_cases h0 : pd.size = 0
 . have : pd = ⟨#[]⟩ := by
    apply ByteArray.ext
    exact Array.eq_empty_of_size_eq_zero h0
   subst this; go_enter Tryz.func50, Tryz.ntmps50; go_wp2_with fail; go_ret; rw [show R = (st, []) from HM.out]; exact RNPost.none H.out.2.1 (Keep.of_below _ H.out.2.2.1)
 . have hne : ¬ pd = ⟨#[]⟩ := fun h => h0 (by rw [h]; rfl); obtain ⟨x, hb⟩ : ∃ x : UInt8, x = pd.data.getD 0 0 := ⟨_, rfl⟩; have hlt : 0 < pd.size := by omega
   have hix : ∀ h, pd[0]'h = x := fun h => by
    have h' : 0 < pd.data.size := h; rw [hb, Array.getD_eq_getD_getElem?, Array.getElem?_eq_getElem h']; rfl
   have HM2 : Hid (R = evR C st (if 1 <= x.toNat /\ x.toNat <= 7 then 14 else 13) ⟨true, ⟨7, pi, pl, pd⟩, 0, []⟩) := H_ (by rw [HM.out, if_neg h0, hb]); clear HM hb; have hd1 : pd.toList.isEmpty = false := by rw [isE]; simp [h0]
   by_cases c1 : 1 <= x.toNat
   . have e1 : decide ((1 : Int) <= (x.toNat : Int)) = true := by simp; omega
     by_cases c2 : x.toNat <= 7
     . have e2 : decide ((x.toNat : Int) <= 7) = true := by simp; omega
       have HD := HE.out 14; have HR2 := H_ (HM2.out.trans (by rw [if_pos ⟨c1, c2⟩])); clear HM2 c1 c2 h0 hne; go_enter Tryz.func50, Tryz.ntmps50; go_wp2_with fail; refine HD.mono ?_; intro e w3 h3; have H3 := H_ h3; obtain ⟨v3, L3, rfl, -, h33, -⟩ := h3; obtain ⟨s3, k3, rfl, -, -⟩ := h33.form; clear h33; go_wp2_with fail; go_ret; rw [HR2.out]; exact H3.out.grow (by omega) (Keep.of_below _ H.out.2.2.1)
     . have e2 : decide ((x.toNat : Int) <= 7) = false := by simp; omega
       have HD := HE.out 13; have HR2 := H_ (HM2.out.trans (by rw [if_neg (fun h => c2 h.2)])); clear HM2 c1 c2 h0 hne; go_enter Tryz.func50, Tryz.ntmps50; go_wp2_with fail; refine HD.mono ?_; intro e w3 h3; have H3 := H_ h3; obtain ⟨v3, L3, rfl, -, h33, -⟩ := h3; obtain ⟨s3, k3, rfl, -, -⟩ := h33.form; clear h33; go_wp2_with fail; go_ret; rw [HR2.out]; exact H3.out.grow (by omega) (Keep.of_below _ H.out.2.2.1)
   . have e1 : decide ((1 : Int) <= (x.toNat : Int)) = false := by simp; omega
     have HD := HE.out 13; have HR2 := H_ (HM2.out.trans (by rw [if_neg (fun h => c1 h.1)])); clear HM2 c1 h0 hne; go_enter Tryz.func50, Tryz.ntmps50; go_wp2_with fail; refine HD.mono ?_; intro e w3 h3; have H3 := H_ h3; obtain ⟨v3, L3, rfl, -, h33, -⟩ := h3; obtain ⟨s3, k3, rfl, -, -⟩ := h33.form; clear h33; go_wp2_with fail; go_ret; rw [HR2.out]; exact H3.out.grow (by omega) (Keep.of_below _ H.out.2.2.1)
set_option maxRecDepth 100000 in
theorem take9_1 (p : Pk) (po : Value) (hcode : p.code = 1) (h : RNAt w S b C st X) (hp : PkIn w b ok p po) :
 Calls Tryz.prog 50 #[.pointer (some ⟨b, 0, none⟩), pkV p po] w fun e w' => RNPost w w' S (fun _ => False) b C (if (ansS C st.naks (judgeS C.peer p.o) p.o).1 = 2 then evR C { st with naks := 0 } 6 (cameR C st.naks p) else evR C st 7 (cameR C st.naks p)) e := by
 obtain ⟨sp, kp, rfl, hkp, -⟩ := hp.o.form; have hb1 := b1 w (.cells #[.int .i64 p.code, .int .i64 p.id, .slice sp p.o.length kp, .string p.d] 93 (0, 0)); have hz1 := heap_alloc_new w (.cells #[.int .i64 p.code, .int .i64 p.id, .slice sp p.o.length kp, .string p.d] 93 (0, 0)); have hs1 : (w.alloc (.cells #[.int .i64 p.code, .int .i64 p.id, .slice sp p.o.length kp, .string p.d] 93 (0, 0))).heap.size = w.heap.size + 1 := alloc1 _ _; have hblt := h.blt; have H := H_ (A_ h (A_ (h.below hb1) (A_ hb1 (A_ hz1 hp)))); have HC := H_ (fun (W : World) (hW : Below w.heap.size w W) (hz : W.heap[w.heap.size]? = some (.cells #[.int .i64 p.code, .int .i64 p.id, .slice sp p.o.length kp, .string p.d] 93 (0, 0))) => hp.came (c := 0) (ok' := fun _ => False) (pa := .slice none 0 0) (ans := []) hW hz (by omega : w.heap.size ≠ b) (Rec.nil _ _ _) (fun _ h => h.elim) (Nat.zero_le _)); have HJ := H_ (judge9n_at p.o _ (h.below hb1) (hp.o.below hb1) hp.pl hp.nil hp.pz)
 have hal : (ansS C st.naks (judgeS C.peer p.o) p.o).2.length <= 1000 := by
  have h1 := judgeS_len C.peer p.o; have h2 := hp.pl; unfold ansS
  split
  . show (backS p.o (judgeS C.peer p.o).2).length <= 1000
    rw [backS_len]; omega
  . omega
 have HCR := H_ (show cameR C st.naks p = ⟨true, p, (ansS C st.naks (judgeS C.peer p.o) p.o).1, (ansS C st.naks (judgeS C.peer p.o) p.o).2⟩ from rfl); obtain ⟨R, hR⟩ : ∃ R, R = (if (ansS C st.naks (judgeS C.peer p.o) p.o).1 = 2 then evR C { st with naks := 0 } 6 (cameR C st.naks p) else evR C st 7 (cameR C st.naks p)) := ⟨_, rfl⟩; have HR := H_ hR; rw [<- hR]; clear hR; generalize ansS C st.naks (judgeS C.peer p.o) p.o = J at *; generalize cameR C st.naks p = cm at *; obtain ⟨j1, j2⟩ := J; simp only at HJ HCR HR hal
 unfold pkV; clear h hp hb1 hz1; obtain ⟨pc, pi, pl, pd⟩ := p; simp only at hcode
 subst hcode; simp only at HJ HCR HR H
 go_enter Tryz.func50, Tryz.ntmps50; go_wp2_with fail; refine HJ.out.mono ?_; rintro e w2 ⟨v2, rfl, h2⟩; obtain ⟨s2, k2, rfl, -, -⟩ := h2.r.form; have hb3 := b1 w2 (.cells #[.int .i64 j1, .slice s2 j2.length k2] 186 (0, 0)); have hz3 := heap_alloc_new w2 (.cells #[.int .i64 j1, .slice s2 j2.length k2] 186 (0, 0)); have hs2 := h2.b.size; have hs3 : (w2.alloc (.cells #[.int .i64 j1, .slice s2 j2.length k2] 186 (0, 0))).heap.size = w2.heap.size + 1 := alloc1 _ _; have HB3 := H_ (H.out.2.2.1.trans ((h2.b.mono (by omega)).trans (hb3.mono (by omega)))); have hn3 := (H.out.2.1.below h2.b).below hb3; have hp3 := (hb3.block w.heap.size (by omega)).trans ((h2.b.block w.heap.size (by omega)).trans H.out.2.2.2.1); have f15 := hn3.fz 15; have e15 := hn3.cell 15; have hopt : Opts (w2.alloc (.cells #[.int .i64 j1, .slice s2 j2.length k2] 186 (0, 0))) (fun g => w.heap.size <= g) (.slice s2 j2.length k2) j2 := Rec.mono (Opts.below (brow_opts h2.r (by omega)) hb3) (fun g hg => by have := h2.f g hg; omega); have HN := H_ (A_ hn3 (A_ hp3 (A_ hz3 hopt))); clear h2 hb3 hz3 hn3 hp3 hopt
 by_cases hj : j1 = 2
 . have HR2 := H_ (HR.out.trans (if_pos hj)); subst hj; have k15 := keepR b (w2.alloc (.cells #[.int .i64 2, .slice s2 j2.length k2] 186 (0, 0))) 15 (.int .i64 0); have HK := H_ k15; have hp4 := (k15.block w.heap.size (by omega) (by omega)).trans HN.out.2.1; have hz4 := (k15.block w2.heap.size (by omega) (by omega)).trans HN.out.2.2.1; have y0 := cellOf hz4 0 _ rfl; have y1 := cellOf hz4 1 _ rfl
   have hc4 : CameR ((w2.alloc (.cells #[.int .i64 2, .slice s2 j2.length k2] 186 (0, 0))).setCell ⟨b, 15, none⟩ (.int .i64 0)) b (fun g => w.heap.size <= g) cm (.pointer (some ⟨w.heap.size, 0, none⟩)) (.slice s2 j2.length k2) := by
    rw [HCR.out]
    exact {
     a := Rec.keep HN.out.2.2.2 k15 (fun g _ hg he => by have hg : w.heap.size <= g := hg; have he : g = b := he; omega), ak := fun g hg he => by have hg : w.heap.size <= g := hg; omega, al := hal, pl := H.out.2.2.2.2.pl, pz := H.out.2.2.2.2.pz, pd := H.out.2.2.2.2.pd
     p := .inr ⟨rfl, w.heap.size, _, ok, rfl, by omega, hp4, Rec.keep (H.out.2.2.2.2.o.below HB3.out) k15 (fun g _ hg => H.out.2.2.2.2.nb g hg), H.out.2.2.2.2.nb, H.out.2.2.2.2.nil⟩ }
   have HD := H_ (do9_at (ok := fun g => w.heap.size <= g) 6 cm _ _ (HN.out.1.sNaks 0) hc4 (actOk_is (by rw [HCR.out]) _ _)); rw [HCR.out] at HD; simp only at HD
   clear hc4 hp4 hz4 k15; go_wp2_with fail; refine HD.out.mono ?_; intro e w3 h3; have H3 := H_ h3; obtain ⟨v3, L3, rfl, -, h33, -⟩ := h3; obtain ⟨s3, k3, rfl, -, -⟩ := h33.form; clear h33; go_wp2_with fail; go_ret; rw [HR2.out, HCR.out]; exact (H3.out.grow (Nat.le_trans HB3.out.size HK.out.size) ((Keep.of_below _ HB3.out).trans HK.out)).okm (fun g hg => .inr hg)
 . have q : (j1 == 2) = false := by simpa using hj
   have HR2 := H_ (HR.out.trans (if_neg hj)); clear hj; have y0 := cellOf HN.out.2.2.1 0 _ rfl; have y1 := cellOf HN.out.2.2.1 1 _ rfl
   have hc4 : CameR (w2.alloc (.cells #[.int .i64 j1, .slice s2 j2.length k2] 186 (0, 0))) b (fun g => w.heap.size <= g) cm (.pointer (some ⟨w.heap.size, 0, none⟩)) (.slice s2 j2.length k2) := by
    rw [HCR.out]
    exact {
     a := HN.out.2.2.2, ak := fun g hg he => by have hg : w.heap.size <= g := hg; omega, al := hal, pl := H.out.2.2.2.2.pl, pz := H.out.2.2.2.2.pz, pd := H.out.2.2.2.2.pd
     p := .inr ⟨rfl, w.heap.size, _, ok, rfl, by omega, HN.out.2.1, H.out.2.2.2.2.o.below HB3.out, H.out.2.2.2.2.nb, H.out.2.2.2.2.nil⟩ }
   have HD := H_ (do9_at (ok := fun g => w.heap.size <= g) 7 cm _ _ HN.out.1 hc4 (actOk_is (by rw [HCR.out]) _ _)); rw [HCR.out] at HD; simp only at HD
   clear hc4; go_wp2_with fail; refine HD.out.mono ?_; intro e w3 h3; have H3 := H_ h3; obtain ⟨v3, L3, rfl, -, h33, -⟩ := h3; obtain ⟨s3, k3, rfl, -, -⟩ := h33.form; clear h33; go_wp2_with fail; go_ret; rw [HR2.out, HCR.out]; exact (H3.out.grow HB3.out.size (Keep.of_below _ HB3.out)).okm (fun g hg => .inr hg)
end
section
variable {w : World} {S ok : Nat -> Prop} {b : Nat} {C : NegC} {st : NSt} {X : RX}
set_option maxRecDepth 100000 in
theorem take9_3 (p : Pk) (po : Value) (hcode : p.code = 3) (h : RNAt w S b C st X) (hp : PkIn w b ok p po) :
 Calls Tryz.prog 50 #[.pointer (some ⟨b, 0, none⟩), pkV p po] w fun e w' => RNPost w w' S (fun _ => False) b C (if p.id = st.asked then evR C { st with req := p.o.foldl (nakR C) st.req } 9 ⟨true, p, 0, []⟩ else (st, [])) e := by
 obtain ⟨sp, kp, rfl, hkp, -⟩ := hp.o.form; have hb1 := b1 w (.cells #[.int .i64 p.code, .int .i64 p.id, .slice sp p.o.length kp, .string p.d] 93 (0, 0)); have hz1 := heap_alloc_new w (.cells #[.int .i64 p.code, .int .i64 p.id, .slice sp p.o.length kp, .string p.d] 93 (0, 0)); have hs1 : (w.alloc (.cells #[.int .i64 p.code, .int .i64 p.id, .slice sp p.o.length kp, .string p.d] 93 (0, 0))).heap.size = w.heap.size + 1 := alloc1 _ _; have hblt := h.blt; have H := H_ (A_ h (A_ (h.below hb1) (A_ hb1 (A_ hz1 hp)))); have HC := H_ (fun (W : World) (hW : Below w.heap.size w W) (hz : W.heap[w.heap.size]? = some (.cells #[.int .i64 p.code, .int .i64 p.id, .slice sp p.o.length kp, .string p.d] 93 (0, 0))) => hp.came (c := 0) (ok' := fun _ => False) (pa := .slice none 0 0) (ans := []) hW hz (by omega : w.heap.size ≠ b) (Rec.nil _ _ _) (fun _ h => h.elim) (Nat.zero_le _)); obtain ⟨R, hR⟩ : ∃ R, R = (if p.id = st.asked then evR C { st with req := p.o.foldl (nakR C) st.req } 9 ⟨true, p, 0, []⟩ else (st, [])) := ⟨_, rfl⟩; have HR := H_ hR; rw [<- hR]; clear hR; have hpl := hp.pl; have HO := H_ (hp.o.below hb1)
 have HCE : Hid (∀ W, Keep (· = b) (w.alloc (.cells #[.int .i64 p.code, .int .i64 p.id, .slice sp p.o.length kp, .string p.d] 93 (0, 0))) W -> W.heap[w.heap.size]? = some (.cells #[.int .i64 p.code, .int .i64 p.id, .slice sp p.o.length kp, .string p.d] 93 (0, 0))) := H_ fun W hW =>
  (hW.block w.heap.size (by omega) (by omega)).trans H.out.2.2.2.1
 unfold pkV; clear h hp hb1 hz1; obtain ⟨pc, pi, pl, pd⟩ := p; simp only at hcode
 subst hcode; simp only at HR H HC HCE HO hpl
 have x1 := cellOf (HCE.out _ (Keep.refl _ _)) 1 _ rfl; have e14 : (w.alloc (.cells #[.int .i64 3, .int .i64 pi, .slice sp pl.length kp, .string pd] 93 (0, 0))).cell? ⟨b, 14, none⟩ = some (.int .i64 st.asked) := H.out.2.1.cell 14; have HSv : (fun Y : World => Y.cell? ⟨w.heap.size, 1, none⟩ = some (.int .i64 pi) /\ Y.cell? ⟨b, 14, none⟩ = some (.int .i64 st.asked)) (w.alloc (.cells #[.int .i64 3, .int .i64 pi, .slice sp pl.length kp, .string pd] 93 (0, 0))).drew := ⟨x1, e14⟩; go_enter Tryz.func50, Tryz.ntmps50; go_wp2_with fail; refine wp_region_H (rgH 0 7) (fun Y : World => Y.cell? ⟨w.heap.size, 1, none⟩ = some (.int .i64 pi) /\ Y.cell? ⟨b, 14, none⟩ = some (.int .i64 st.asked)) (by kernel_rfl) ?_; generalize hw1 : w.alloc (.cells #[.int .i64 3, .int .i64 pi, .slice sp pl.length kp, .string pd] 93 (0, 0)) = w1 at *; clear hw1 x1 e14
 by_cases hid : pi = st.asked
 . have q : (pi != st.asked) = false := by simpa using hid
   have HR2 := H_ (HR.out.trans (if_pos hid)); clear hid; refine hatH 0 rfl (by rintro W ⟨h0, h1⟩; go_simp; try rfl) HSv ?_; simp only [aZ, aC, aD]; refine hatH 1 rfl (by rintro W ⟨h0, h1⟩; go_simp; try rfl) HSv ?_; simp only [aZ, aC, aD]; refine hatH 2 rfl (by rintro W ⟨h0, h1⟩; go_simp; try rfl) HSv ?_; simp only [aZ, aC, aD]; refine hatH 3 rfl (by rintro W ⟨h0, h1⟩; go_simp; try rfl) HSv ?_; simp only [aZ, aC, aD]; refine hatH 4 rfl (by rintro W ⟨h0, h1⟩; go_simp; try rfl) HSv ?_; simp only [aZ, aC, aD]; refine hatH 5 rfl (by rintro W ⟨h0, h1⟩; go_simp; try rfl) HSv ?_; simp only [aZ, aC, aD]; refine hatH 6 rfl (by rintro W ⟨h0, h1⟩; go_simp; try rfl) HSv ?_; simp only [aZ, aC, aD]; refine hend 7 ?_; simp only [aF, aG]; clear HSv; obtain ⟨len, hln⟩ : ∃ len, len = pl.length := ⟨_, rfl⟩; have HLN := H_ hln; rw [<- hln] at hpl HO HCE H HC ⊢; clear hln; go_wp2_with fail
   go_loopg [10] len (fun x i wr => ∃ k : Nat, k <= len /\ x = len - k /\ i = .int .i64 k /\ Hid (Keep (· = b) w1 wr /\ ∃ X', RNAt wr (Grow S w) b C { st with req := (pl.take k).foldl (nakR C) st.req } X'))
   case atStart => exact ⟨0, by omega, by omega, rfl, (Keep.refl _ _).drew, X, (H.out.2.1.below (Below.refl _ _).drew).mono (fun g hg => .inl hg)⟩
   case round =>
    obtain ⟨k, hk, rfl, rfl, hK⟩ := hrel; obtain ⟨hkp, X', hat⟩ := hK.out; have HK := H_ (A_ hkp hat); have hz := HCE.out wr hkp; have y2 := cellOf hz 2 _ rfl; have hsz := hkp.size; clear hK hkp hat hz
    by_cases hkl : k < len
    . have hkx : k < pl.length := by have := HLN.out; omega
      have hpr : Opts wr ok (.slice sp len kp) pl := Rec.keep HO.out HK.out.1 (fun g _ hg => H.out.2.2.2.2.nb g hg); obtain ⟨g, off, rfl, hg, -, -, -, -, c0, c1⟩ := hpr.at k hkx; have HN := H_ (nak9_at pl[k] HK.out.2 (H.out.2.2.2.2.pz _ (List.getElem_mem hkx))); have HT := H_ (show (pl.take (k + 1)).foldl (nakR C) st.req = nakR C ((pl.take k).foldl (nakR C) st.req) pl[k] from by rw [List.take_succ_eq_append_getElem hkx, List.foldl_append]; rfl); clear hpr; generalize pl[k] = o at *; obtain ⟨ot, ov⟩ := o; simp only at c0 c1 HN
      go_wp2_with fail; refine HN.out.mono ?_; rintro e w4 ⟨rfl, ⟨X4, h4⟩, k4⟩; have H4 := H_ (A_ (HK.out.1.trans k4) (h4.mono (S' := Grow S w) (fun g hg => hg.elim id (fun h => .inr (by omega))))); clear h4 k4; go_wp2_with fail
      go_roundg (len - (k + 1))
      case measure => omega
      case rel => exact ⟨k + 1, by omega, rfl, by go_num, H4.out.1, X4, by rw [HT.out]; exact H4.out.2⟩
    . obtain rfl : len = k := by omega
      rw [show pl.take len = pl from by rw [HLN.out, List.take_length]] at HK
      have hc : CameR wr b (fun _ => False) ⟨true, ⟨3, pi, pl, pd⟩, 0, []⟩ (.pointer (some ⟨w.heap.size, 0, none⟩)) (.slice none 0 0) :=
       {
        a := Rec.nil _ _ _, ak := fun _ h => h.elim, al := Nat.zero_le _, pl := by have := HLN.out; show pl.length <= 1000; omega, pz := H.out.2.2.2.2.pz, pd := H.out.2.2.2.2.pd
        p := .inr ⟨rfl, w.heap.size, _, ok, rfl, by omega, HCE.out wr HK.out.1, Rec.keep HO.out HK.out.1 (fun g _ hg => H.out.2.2.2.2.nb g hg), H.out.2.2.2.2.nb, fun n c e => H.out.2.2.2.2.nil n c e⟩ }
      have HD := H_ (do9_at (ok := fun _ => False) 9 ⟨true, ⟨3, pi, pl, pd⟩, 0, []⟩ _ _ HK.out.2 hc (actOk_is rfl _ _)); clear hc; go_wp2_with fail; refine HD.out.mono ?_; intro e w3 h3; have H3 := H_ h3; obtain ⟨v3, L3, rfl, -, h33, -⟩ := h3; obtain ⟨s3, k3, rfl, -, -⟩ := h33.form; clear h33; go_wp2_with fail; go_ret; rw [HR2.out]; have hkw := (Keep.of_below (· = b) H.out.2.2.1).trans HK.out.1; obtain ⟨v, L, h1, h2, h3, ⟨X2, h4⟩, h5⟩ := H3.out.grow hkw.size hkw; exact ⟨v, L, h1, h2, h3, ⟨X2, h4.mono (fun g hg => hg.elim id .inr)⟩, h5⟩
 . have q : (pi != st.asked) = true := by simpa using hid
   have HR2 := H_ (HR.out.trans (if_neg hid)); clear hid; refine hatH 0 rfl (by rintro W ⟨h0, h1⟩; go_simp; try rfl) HSv ?_; simp only [aZ, aC, aD]; refine hatH 1 rfl (by rintro W ⟨h0, h1⟩; go_simp; try rfl) HSv ?_; simp only [aZ, aC, aD]; refine hatH 2 rfl (by rintro W ⟨h0, h1⟩; go_simp; try rfl) HSv ?_; simp only [aZ, aC, aD]; refine hatH 3 rfl (by rintro W ⟨h0, h1⟩; go_simp; try rfl) HSv ?_; simp only [aZ, aC, aD]; refine hatH 4 rfl (by rintro W ⟨h0, h1⟩; go_simp; try rfl) HSv ?_; simp only [aZ, aC, aD]; refine hatH 5 rfl (by rintro W ⟨h0, h1⟩; go_simp; try rfl) HSv ?_; simp only [aZ, aC, aD]; refine hatH 6 rfl (by rintro W ⟨h0, h1⟩; go_simp; try rfl) HSv ?_; simp only [aZ, aC, aD]; refine hend 7 ?_; simp only [aF, aG]; go_wp2_with fail; go_ret; rw [HR2.out]; exact RNPost.none (H.out.2.1.below (Below.refl _ _).drew) (Keep.of_below _ H.out.2.2.1.drew)
set_option maxRecDepth 100000 in
theorem take9_4 (p : Pk) (po : Value) (hcode : p.code = 4) (h : RNAt w S b C st X) (hp : PkIn w b ok p po) :
 Calls Tryz.prog 50 #[.pointer (some ⟨b, 0, none⟩), pkV p po] w fun e w' => RNPost w w' S (fun _ => False) b C (if p.id = st.asked /\ wB st.req p.o = true then (if (st.req.any fun x => goneB p.o x.t && hasB C.must x.t) = true then evR C st 14 ⟨true, p, 0, []⟩ else evR C { st with req := st.req.filter fun x => !goneB p.o x.t } 9 ⟨true, p, 0, []⟩) else (st, [])) e := by
 obtain ⟨sp, kp, rfl, hkp, -⟩ := hp.o.form; have hb1 := b1 w (.cells #[.int .i64 p.code, .int .i64 p.id, .slice sp p.o.length kp, .string p.d] 93 (0, 0)); have hz1 := heap_alloc_new w (.cells #[.int .i64 p.code, .int .i64 p.id, .slice sp p.o.length kp, .string p.d] 93 (0, 0)); have hs1 : (w.alloc (.cells #[.int .i64 p.code, .int .i64 p.id, .slice sp p.o.length kp, .string p.d] 93 (0, 0))).heap.size = w.heap.size + 1 := alloc1 _ _; have hblt := h.blt; have H := H_ (A_ h (A_ (h.below hb1) (A_ hb1 (A_ hz1 hp)))); have HC := H_ (fun (W : World) (hW : Below w.heap.size w W) (hz : W.heap[w.heap.size]? = some (.cells #[.int .i64 p.code, .int .i64 p.id, .slice sp p.o.length kp, .string p.d] 93 (0, 0))) => hp.came (c := 0) (ok' := fun _ => False) (pa := .slice none 0 0) (ans := []) hW hz (by omega : w.heap.size ≠ b) (Rec.nil _ _ _) (fun _ h => h.elim) (Nat.zero_le _)); obtain ⟨R, hR⟩ : ∃ R, R = (if p.id = st.asked /\ wB st.req p.o = true then (if (st.req.any fun x => goneB p.o x.t && hasB C.must x.t) = true then evR C st 14 ⟨true, p, 0, []⟩ else evR C { st with req := st.req.filter fun x => !goneB p.o x.t } 9 ⟨true, p, 0, []⟩) else (st, [])) := ⟨_, rfl⟩; have HR := H_ hR; rw [<- hR]; clear hR; have hpl := hp.pl; have hlr := h.lr; obtain ⟨sq, kq, hqe, hqc, -⟩ := h.ask.form; obtain ⟨sm, km, hme, -, -⟩ := h.must.form; have hask := h.ask; rw [hqe] at hask; have hmr := h.must.rd; rw [hme] at hmr; have HAO := H_ ((brow_opts hask (by omega)).below hb1); have HS := H_ (fun W (hW : Below w.heap.size w W) => subset9_any p.o st.req _ _ ok _ W (hp.o.below hW) ((brow_opts hask (by omega)).below hW) (by omega) (by omega)); have HF := H_ (fun W (hW : Below w.heap.size w W) (x : Int) => find9v_any p.o _ ok x W (hp.o.below hW) (by omega)); have HMU := H_ (fun W (hW : Below w.heap.size w W) (x : Int) => must9_any C.must _ x W (hmr.below hW) (by have := H.out.1.ok.must; omega))
 have HCE : Hid (∀ W, Below (w.alloc (.cells #[.int .i64 p.code, .int .i64 p.id, .slice sp p.o.length kp, .string p.d] 93 (0, 0))).heap.size (w.alloc (.cells #[.int .i64 p.code, .int .i64 p.id, .slice sp p.o.length kp, .string p.d] 93 (0, 0))) W -> W.cell? ⟨w.heap.size, 1, none⟩ = some (.int .i64 p.id) /\ W.cell? ⟨b, 14, none⟩ = some (.int .i64 st.asked) /\ W.cell? ⟨w.heap.size, 2, none⟩ = some (.slice sp p.o.length kp) /\ W.cell? ⟨b, 12, none⟩ = some (.slice sq st.req.length kq) /\ W.cell? ⟨b, 3, none⟩ = some (.slice sm C.must.length km)) := H_ fun W hW => by
  have hz := (hW.block w.heap.size (by omega)).trans H.out.2.2.2.1; have hh := H.out.2.1.below hW; exact ⟨cellOf hz 1 _ rfl, hh.cell 14, cellOf hz 2 _ rfl, (hh.cell 12).trans (by rw [<- hqe]; rfl), (hh.cell 3).trans (by rw [<- hme]; rfl)⟩
 obtain ⟨len, hln⟩ : ∃ len, len = st.req.length := ⟨_, rfl⟩; have HLN := H_ hln; rw [<- hln] at hlr hqc HS HCE HAO; clear hask hmr hqe hme hln; unfold pkV; clear h hp hb1 hz1; obtain ⟨pc, pi, pl, pd⟩ := p; simp only at hcode
 subst hcode; simp only at HR H HC HCE HS HF hpl
 have HSv : (fun Y : World => Y.cell? ⟨w.heap.size, 1, none⟩ = some (.int .i64 pi) /\ Y.cell? ⟨b, 14, none⟩ = some (.int .i64 st.asked) /\ Y.cell? ⟨w.heap.size, 2, none⟩ = some (.slice sp pl.length kp) /\ Y.cell? ⟨b, 12, none⟩ = some (.slice sq len kq)) (w.alloc (.cells #[.int .i64 4, .int .i64 pi, .slice sp pl.length kp, .string pd] 93 (0, 0))).drew := ⟨(HCE.out _ (Below.refl _ _)).1, (HCE.out _ (Below.refl _ _)).2.1, (HCE.out _ (Below.refl _ _)).2.2.1, (HCE.out _ (Below.refl _ _)).2.2.2.1⟩; go_enter Tryz.func50, Tryz.ntmps50; go_wp2_with fail; refine wp_region_H (rgH 0 17) (fun Y : World => Y.cell? ⟨w.heap.size, 1, none⟩ = some (.int .i64 pi) /\ Y.cell? ⟨b, 14, none⟩ = some (.int .i64 st.asked) /\ Y.cell? ⟨w.heap.size, 2, none⟩ = some (.slice sp pl.length kp) /\ Y.cell? ⟨b, 12, none⟩ = some (.slice sq len kq)) (by kernel_rfl) ?_; generalize hw1 : (w.alloc (.cells #[.int .i64 4, .int .i64 pi, .slice sp pl.length kp, .string pd] 93 (0, 0))) = w1 at *; clear hw1
 by_cases hid : pi = st.asked
 . have q : (pi != st.asked) = false := by simpa using hid
   have HID := H_ hid; clear hid; refine hatH 0 rfl (by rintro W ⟨h0, h1, h2, h3⟩; go_simp; try rfl) HSv ?_; simp only [aZ, aC, aD]; refine hatH 1 rfl (by rintro W ⟨h0, h1, h2, h3⟩; go_simp; try rfl) HSv ?_; simp only [aZ, aC, aD]; refine hatH 2 rfl (by rintro W ⟨h0, h1, h2, h3⟩; go_simp; try rfl) HSv ?_; simp only [aZ, aC, aD]; refine hatH 3 rfl (by rintro W ⟨h0, h1, h2, h3⟩; go_simp; try rfl) HSv ?_; simp only [aZ, aC, aD]; refine hatH 4 rfl (by rintro W ⟨h0, h1, h2, h3⟩; go_simp; try rfl) HSv ?_; simp only [aZ, aC, aD]; refine hatH 5 rfl (by rintro W ⟨h0, h1, h2, h3⟩; go_simp; try rfl) HSv ?_; simp only [aZ, aC, aD]; refine hatH 6 rfl (by rintro W ⟨h0, h1, h2, h3⟩; go_simp; try rfl) HSv ?_; simp only [aZ, aC, aD]; refine hatH 7 rfl (by rintro W ⟨h0, h1, h2, h3⟩; go_simp; try rfl) HSv ?_; simp only [aZ, aC, aD]; refine hatH 8 rfl (by rintro W ⟨h0, h1, h2, h3⟩; go_simp; try rfl) HSv ?_; simp only [aZ, aC, aD]; refine hatH 9 rfl (by rintro W ⟨h0, h1, h2, h3⟩; go_simp; try rfl) HSv ?_; simp only [aZ, aC, aD]; refine hatH 10 rfl (by rintro W ⟨h0, h1, h2, h3⟩; go_simp; try rfl) HSv ?_; simp only [aZ, aC, aD]; refine hatH 11 rfl (by rintro W ⟨h0, h1, h2, h3⟩; go_simp; try rfl) HSv ?_; simp only [aZ, aC, aD]; refine hatH 12 rfl (by rintro W ⟨h0, h1, h2, h3⟩; go_simp; try rfl) HSv ?_; simp only [aZ, aC, aD]; refine hatH 13 rfl (by rintro W ⟨h0, h1, h2, h3⟩; go_simp; try rfl) HSv ?_; simp only [aZ, aC, aD]; refine hone 14 rfl fun K hK => ?_
   try go_simp
   go_at_call 172; refine (HS.out _ H.out.2.2.1.drew).mono ?_; rintro e w2 ⟨rfl, hb2⟩; have hb12 : Below w1.heap.size w1 w2 := Below.trans (Below.refl _ _).drew hb2; have HSv : (fun Y : World => Y.cell? ⟨w.heap.size, 1, none⟩ = some (.int .i64 pi) /\ Y.cell? ⟨b, 14, none⟩ = some (.int .i64 st.asked) /\ Y.cell? ⟨w.heap.size, 2, none⟩ = some (.slice sp pl.length kp) /\ Y.cell? ⟨b, 12, none⟩ = some (.slice sq len kq)) w2 := ⟨(HCE.out _ hb12).1, (HCE.out _ hb12).2.1, (HCE.out _ hb12).2.2.1, (HCE.out _ hb12).2.2.2.1⟩; have HB12 := H_ hb12; clear hb2 hb12; refine hK _ _ (fun _ => HSv) ?_
   try simp only [aZ, aA, aE, aB, aC, aD]
   refine hatH 15 rfl (by rintro W ⟨h0, h1, h2, h3⟩; go_simp; try rfl) HSv ?_; simp only [aZ, aC, aD]; refine hatH 16 rfl (by rintro W ⟨h0, h1, h2, h3⟩; go_simp; try rfl) HSv ?_; simp only [aZ, aC, aD]; refine hend 17 ?_; simp only [aF, aG]; clear HSv
   cases hsub : wB st.req pl with
   | false =>
    have HR2 := H_ (HR.out.trans (if_neg (fun h => by rw [hsub] at h; exact absurd h.2 (by decide)))); clear hsub; go_wp2_with fail; go_ret; rw [HR2.out]; exact RNPost.none (H.out.2.1.below HB12.out) (Keep.of_below _ (H.out.2.2.1.trans (HB12.out.mono (by omega))))
   | true =>
    have HR2 := H_ (HR.out.trans (if_pos ⟨HID.out, hsub⟩)); clear hsub; go_wp2_with fail
    go_loopg [6, 7] len (fun x lv i wr => ∃ k n : Nat, k <= len /\ n <= k /\ x = len - k /\ i = .int .i64 k /\ n = ((st.req.take k).filter fun x => !goneB pl x.t).length /\ Hid (Laid 91 2 w1 wr lv n (oV ((st.req.take k).filter fun x => !goneB pl x.t)) /\ ((st.req.take k).any fun x => goneB pl x.t && hasB C.must x.t) = false))
    case atStart => exact ⟨0, 0, by omega, by omega, by omega, rfl, rfl, ⟨BRow.nil _ _ _, HB12.out, fun g h => by cases h⟩, rfl⟩
    case round =>
     obtain ⟨k, n, hk, hnk, rfl, rfl, hn, hK⟩ := hrel; have HK := H_ hK.out; obtain ⟨sl, cl, rfl, hcl, -⟩ := hK.out.1.r.form; have HN := H_ hn; have hsz := hK.out.1.b.size; have HBW := H_ (H.out.2.2.1.trans (hK.out.1.b.mono (by omega))); have a12 := (HCE.out wr hK.out.1.b).2.2.2.1; clear hK hn
     by_cases hkl : k < len
     . have hkx : k < st.req.length := by have := HLN.out; omega
       obtain ⟨g, off, rfl, hg, -, -, -, -, c0, c1⟩ := HAO.out.at k hkx; have HCX := H_ (fun W (hW : Below w1.heap.size w1 W) => A_ ((hW.cell (p := ⟨g, off + k * 2, none⟩) hg).trans c0) ((hW.cell (p := ⟨g, off + k * 2 + 1, none⟩) hg).trans c1))
       have HT := H_ (A_ (show (st.req.take (k + 1)).filter (fun x => !goneB pl x.t) = (st.req.take k).filter (fun x => !goneB pl x.t) ++ [st.req[k]].filter (fun x => !goneB pl x.t) from by rw [List.take_succ_eq_append_getElem hkx, List.filter_append])
        (A_ (show ((st.req.take (k + 1)).any fun x => goneB pl x.t && hasB C.must x.t) = (((st.req.take k).any fun x => goneB pl x.t && hasB C.must x.t) || (goneB pl st.req[k].t && hasB C.must st.req[k].t)) from by rw [List.take_succ_eq_append_getElem hkx, List.any_append]; simp)
         (show (goneB pl st.req[k].t && hasB C.must st.req[k].t) = true -> (st.req.any fun x => goneB pl x.t && hasB C.must x.t) = true from fun h => List.any_eq_true.2 ⟨_, List.getElem_mem hkx, h⟩)))
       clear c0 c1; generalize st.req[k] = x at *; obtain ⟨xt, xv⟩ := x; simp only at HCX HT
       have HFX := H_ (HF.out (wr.drew) HBW.out.drew xt); have HGB := H_ (show (pl.any fun x => x.t == xt) = goneB pl xt from rfl); rw [HGB.out] at HFX; have HMX := H_ (fun W hW => HMU.out W hW xt); generalize hgb : goneB pl xt = gb at *; have HGV := H_ hgb; clear hgb; generalize hasB C.must xt = mb at *; generalize ((findO pl xt).getD default).v = fv at *; go_wp2_with fail; have HSP : Hid (∀ W, Below w1.heap.size w1 W -> (fun Y : World => Y.cell? ⟨w.heap.size, 2, none⟩ = some (.slice sp pl.length kp) /\ Y.cell? ⟨b, 12, none⟩ = some (.slice (some ⟨g, off, none⟩) len kq) /\ Y.cell? ⟨b, 3, none⟩ = some (.slice sm C.must.length km) /\ Y.cell? ⟨g, off + k * 2, none⟩ = some (.int .i64 xt) /\ Y.cell? ⟨g, off + k * 2 + 1, none⟩ = some (.string xv)) W) := H_ fun W hW => ⟨(HCE.out W hW).2.2.1, (HCE.out W hW).2.2.2.1, (HCE.out W hW).2.2.2.2, (HCX.out W hW).1, (HCX.out W hW).2⟩; have HSv := HSP.out wr.drew HK.out.1.b.drew; refine wp_region_H (rgH 0 16) (fun Y : World => Y.cell? ⟨w.heap.size, 2, none⟩ = some (.slice sp pl.length kp) /\ Y.cell? ⟨b, 12, none⟩ = some (.slice (some ⟨g, off, none⟩) len kq) /\ Y.cell? ⟨b, 3, none⟩ = some (.slice sm C.must.length km) /\ Y.cell? ⟨g, off + k * 2, none⟩ = some (.int .i64 xt) /\ Y.cell? ⟨g, off + k * 2 + 1, none⟩ = some (.string xv)) (by kernel_rfl) ?_; refine hatH 0 rfl (by rintro W ⟨h0, h1, h2, h3, h4⟩; go_simp; try rfl) HSv ?_; simp only [aZ, aC, aD]; refine hatH 1 rfl (by rintro W ⟨h0, h1, h2, h3, h4⟩; go_simp; try rfl) HSv ?_; simp only [aZ, aC, aD]; refine hatH 2 rfl (by rintro W ⟨h0, h1, h2, h3, h4⟩; go_simp; try rfl) HSv ?_; simp only [aZ, aC, aD]; refine hatH 3 rfl (by rintro W ⟨h0, h1, h2, h3, h4⟩; go_simp; try rfl) HSv ?_; simp only [aZ, aC, aD]; refine hatH 4 rfl (by rintro W ⟨h0, h1, h2, h3, h4⟩; go_simp; try rfl) HSv ?_; simp only [aZ, aC, aD]; refine hatH 5 rfl (by rintro W ⟨h0, h1, h2, h3, h4⟩; go_simp; try rfl) HSv ?_; simp only [aZ, aC, aD]; refine hatH 6 rfl (by rintro W ⟨h0, h1, h2, h3, h4⟩; go_simp; try rfl) HSv ?_; simp only [aZ, aC, aD]; refine hatH 7 rfl (by rintro W ⟨h0, h1, h2, h3, h4⟩; go_simp; try rfl) HSv ?_; simp only [aZ, aC, aD]; refine hatH 8 rfl (by rintro W ⟨h0, h1, h2, h3, h4⟩; go_simp; try rfl) HSv ?_; simp only [aZ, aC, aD]; refine hatH 9 rfl (by rintro W ⟨h0, h1, h2, h3, h4⟩; go_simp; try rfl) HSv ?_; simp only [aZ, aC, aD]; refine hone 10 rfl fun K hK => ?_
       try go_simp
       go_at_call 146; refine HFX.out.mono ?_; rintro e w3 ⟨rfl, hb3⟩; have hbr : Below wr.heap.size wr w3 := Below.trans (Below.refl _ _).drew hb3; have HL3 := H_ (show Laid 91 2 w1 w3 (.slice sl n cl) n (oV ((st.req.take k).filter fun x => !goneB pl x.t)) from ⟨HK.out.1.r.below hbr, HK.out.1.b.trans (hbr.mono hsz), HK.out.1.f⟩); have HSv := HSP.out w3 HL3.out.b; clear hb3 hbr; refine hK _ _ (fun _ => HSv) ?_
       try simp only [aZ, aA, aE, aB, aC, aD]
       refine hatH 11 rfl (by rintro W ⟨h0, h1, h2, h3, h4⟩; go_simp; try rfl) HSv ?_; simp only [aZ, aC, aD]; refine hatH 12 rfl (by rintro W ⟨h0, h1, h2, h3, h4⟩; go_simp; try rfl) HSv ?_; simp only [aZ, aC, aD]; refine hatH 13 rfl (by rintro W ⟨h0, h1, h2, h3, h4⟩; go_simp; try rfl) HSv ?_; simp only [aZ, aC, aD]; refine hatH 14 rfl (by rintro W ⟨h0, h1, h2, h3, h4⟩; go_simp; try rfl) HSv ?_; simp only [aZ, aC, aD]; refine hatH 15 rfl (by rintro W ⟨h0, h1, h2, h3, h4⟩; go_simp; try rfl) HSv ?_; simp only [aZ, aC, aD]; refine hend 16 ?_; simp only [aF, aG]; have HL4 := H_ (show Laid 91 2 w1 w3.drew (.slice sl n cl) n (oV ((st.req.take k).filter fun x => !goneB pl x.t)) from HL3.out.drewn); have HSv := HSP.out w3.drew HL4.out.b; clear a12; go_wp2_with fail; refine wp_region_H (rgH 0 17) (fun Y : World => Y.cell? ⟨w.heap.size, 2, none⟩ = some (.slice sp pl.length kp) /\ Y.cell? ⟨b, 12, none⟩ = some (.slice (some ⟨g, off, none⟩) len kq) /\ Y.cell? ⟨b, 3, none⟩ = some (.slice sm C.must.length km) /\ Y.cell? ⟨g, off + k * 2, none⟩ = some (.int .i64 xt) /\ Y.cell? ⟨g, off + k * 2 + 1, none⟩ = some (.string xv)) (by kernel_rfl) ?_; generalize w3.drew = w4 at *
       cases gb with
       | false =>
        have HE1 := H_ (show [(⟨xt, xv⟩ : Opt)].filter (fun x => !goneB pl x.t) = [⟨xt, xv⟩] from by simp [HGV.out]); refine hatH 0 rfl (by rintro W ⟨h0, h1, h2, h3, h4⟩; go_simp; try rfl) HSv ?_; simp only [aZ, aC, aD]; refine hatH 1 rfl (by rintro W ⟨h0, h1, h2, h3, h4⟩; go_simp; try rfl) HSv ?_; simp only [aZ, aC, aD]; refine hskp 2 rfl HSv ?_; simp only [aZ, aA, aE, aB, aC, aD]; refine hskp 3 rfl HSv ?_; simp only [aZ, aA, aE, aB, aC, aD]; refine hskp 4 rfl HSv ?_; simp only [aZ, aA, aE, aB, aC, aD]; refine hskp 5 rfl HSv ?_; simp only [aZ, aA, aE, aB, aC, aD]; refine hskp 6 rfl HSv ?_; simp only [aZ, aA, aE, aB, aC, aD]; refine hskp 7 rfl HSv ?_; simp only [aZ, aA, aE, aB, aC, aD]; refine hskp 8 rfl HSv ?_; simp only [aZ, aA, aE, aB, aC, aD]; refine hskp 9 rfl HSv ?_; simp only [aZ, aA, aE, aB, aC, aD]; refine hskp 10 rfl HSv ?_; simp only [aZ, aA, aE, aB, aC, aD]; refine hskp 11 rfl HSv ?_; simp only [aZ, aA, aE, aB, aC, aD]; refine hskp 12 rfl HSv ?_; simp only [aZ, aA, aE, aB, aC, aD]; refine hskp 13 rfl HSv ?_; simp only [aZ, aA, aE, aB, aC, aD]; refine hskp 14 rfl HSv ?_; simp only [aZ, aA, aE, aB, aC, aD]; refine hskp 15 rfl HSv ?_; simp only [aZ, aA, aE, aB, aC, aD]; refine hatH 16 rfl (by rintro W ⟨h0, h1, h2, h3, h4⟩; go_simp; try rfl) HSv ?_; simp only [aZ, aC, aD]; refine hend 17 ?_; simp only [aF, aG]; obtain ⟨-, z12, -, zt, zv⟩ := HSv
        go_wp2_with (at_builtin; go_loud (refine wpl_append_rec opt_row rfl _ _ rfl _ n (oV ((st.req.take k).filter fun x => !goneB pl x.t)) rfl (HL4.out.r.below (b1 _ _)) _ _ [.int .i64 xt, .string xv] rfl (cell_of_at _ _ _ (by first | rfl | omega)) rfl (fun u hu => by simp only [List.mem_cons, List.not_mem_nil, or_false] at hu; rcases hu with rfl | rfl <;> rfl) (by omega) ?_; intro g8 c8 w8 h8 k8 o8; have H8 := H_ (HL4.out.app (b1 _ _) h8 k8 (o8.imp (fun h => h.symm) (fun h => by rw [h]; rfl))); clear h8 k8 o8))
        go_roundg (len - (k + 1))
        case measure => omega
        case rel => exact ⟨k + 1, n + 1, by omega, by omega, rfl, by go_num, by rw [HT.out.1, HE1.out, List.length_append, <- HN.out]; rfl, by rw [HT.out.1, HE1.out, oV_app]; exact H8.out, by rw [HT.out.2.1, HK.out.2]; rfl⟩
       | true =>
        have HE1 := H_ (show [(⟨xt, xv⟩ : Opt)].filter (fun x => !goneB pl x.t) = [] from by simp [HGV.out]); refine hatH 0 rfl (by rintro W ⟨h0, h1, h2, h3, h4⟩; go_simp; try rfl) HSv ?_; simp only [aZ, aC, aD]; refine hatH 1 rfl (by rintro W ⟨h0, h1, h2, h3, h4⟩; go_simp; try rfl) HSv ?_; simp only [aZ, aC, aD]; refine hatH 2 rfl (by rintro W ⟨h0, h1, h2, h3, h4⟩; go_simp; try rfl) HSv ?_; simp only [aZ, aC, aD]; refine hatH 3 rfl (by rintro W ⟨h0, h1, h2, h3, h4⟩; go_simp; try rfl) HSv ?_; simp only [aZ, aC, aD]; refine hatH 4 rfl (by rintro W ⟨h0, h1, h2, h3, h4⟩; go_simp; try rfl) HSv ?_; simp only [aZ, aC, aD]; refine hatH 5 rfl (by rintro W ⟨h0, h1, h2, h3, h4⟩; go_simp; try rfl) HSv ?_; simp only [aZ, aC, aD]; refine hatH 6 rfl (by rintro W ⟨h0, h1, h2, h3, h4⟩; go_simp; try rfl) HSv ?_; simp only [aZ, aC, aD]; refine hatH 7 rfl (by rintro W ⟨h0, h1, h2, h3, h4⟩; go_simp; try rfl) HSv ?_; simp only [aZ, aC, aD]; refine hatH 8 rfl (by rintro W ⟨h0, h1, h2, h3, h4⟩; go_simp; try rfl) HSv ?_; simp only [aZ, aC, aD]; refine hatH 9 rfl (by rintro W ⟨h0, h1, h2, h3, h4⟩; go_simp; try rfl) HSv ?_; simp only [aZ, aC, aD]; refine hatH 10 rfl (by rintro W ⟨h0, h1, h2, h3, h4⟩; go_simp; try rfl) HSv ?_; simp only [aZ, aC, aD]; refine hatH 11 rfl (by rintro W ⟨h0, h1, h2, h3, h4⟩; go_simp; try rfl) HSv ?_; simp only [aZ, aC, aD]; refine hatH 12 rfl (by rintro W ⟨h0, h1, h2, h3, h4⟩; go_simp; try rfl) HSv ?_; simp only [aZ, aC, aD]; refine hatH 13 rfl (by rintro W ⟨h0, h1, h2, h3, h4⟩; go_simp; try rfl) HSv ?_; simp only [aZ, aC, aD]; refine hatH 14 rfl (by rintro W ⟨h0, h1, h2, h3, h4⟩; go_simp; try rfl) HSv ?_; simp only [aZ, aC, aD]; refine hone 15 rfl fun K hK => ?_
        try go_simp
        go_at_call 173; refine (HMX.out _ (H.out.2.2.1.trans (HL4.out.b.mono (by omega)))).mono ?_; rintro e w5 ⟨rfl, rfl⟩; refine hK _ _ (fun _ => HSv) ?_
        try simp only [aZ, aA, aE, aB, aC, aD]
        refine hatH 16 rfl (by rintro W ⟨h0, h1, h2, h3, h4⟩; go_simp; try rfl) HSv ?_; simp only [aZ, aC, aD]; refine hend 17 ?_; simp only [aF, aG]
        cases mb with
        | true =>
         have HR3 := H_ (HR2.out.trans (if_pos (HT.out.2.2 rfl))); have HBX := H_ (H.out.2.2.1.trans (HL4.out.b.mono (by omega))); have HD := H_ (do9_at (ok := fun _ => False) 14 ⟨true, ⟨4, pi, pl, pd⟩, 0, []⟩ _ _ (H.out.2.1.below HL4.out.b) (HC.out _ HBX.out ((HL4.out.b.block w.heap.size (by omega)).trans H.out.2.2.2.1)) (actOk_is rfl _ _)); go_wp2_with fail; refine HD.out.mono ?_; intro e w3 h3; have H3 := H_ h3; obtain ⟨v3, L3, rfl, -, h33, -⟩ := h3; obtain ⟨s3, k3, rfl, -, -⟩ := h33.form; clear h33; go_wp2_with fail; go_ret; rw [HR3.out]; exact H3.out.grow HBX.out.size (Keep.of_below _ HBX.out)
        | false =>
         go_wp2_with fail
         go_roundg (len - (k + 1))
         case measure => omega
         case rel => exact ⟨k + 1, n, by omega, by omega, rfl, by go_num, by rw [HT.out.1, HE1.out, List.append_nil]; exact HN.out, by rw [HT.out.1, HE1.out, List.append_nil]; exact HL4.out, by rw [HT.out.2.1, HK.out.2]; rfl⟩
     . obtain rfl : len = k := by omega
       rw [show st.req.take len = st.req from by rw [HLN.out, List.take_length]] at HK HN; have HR3 := H_ (HR2.out.trans (if_neg (by rw [HK.out.2]; decide))); have h1 := (H.out.2.1.below HK.out.1.b).mono (fun g hg => (Or.inl hg : Grow S w g)); have hr := HK.out.1.r; have hn := HN.out; subst hn; have h2 := h1.sAsk _ (st.req.filter fun x => !goneB pl x.t) hr (Nat.le_trans (List.length_filter_le _ _) H.out.1.lr) (filter_apart H.out.1.ap _) (fun q hq => by have := HK.out.1.f q hq; exact ⟨.inr (by omega), fun he => by omega⟩); have f12 := h1.fz 12; have k12 := keepR b wr 12 (.slice sl (st.req.filter fun x => !goneB pl x.t).length cl); have hz := (k12.block w.heap.size (by omega) (by omega)).trans ((HK.out.1.b.block w.heap.size (by omega)).trans H.out.2.2.2.1); have HKW := H_ ((Keep.of_below (· = b) HBW.out).trans k12)
       have hc : CameR (wr.setCell ⟨b, 12, none⟩ (.slice sl (st.req.filter fun x => !goneB pl x.t).length cl)) b (fun _ => False) ⟨true, ⟨4, pi, pl, pd⟩, 0, []⟩ (.pointer (some ⟨w.heap.size, 0, none⟩)) (.slice none 0 0) :=
        {
         a := Rec.nil _ _ _, ak := fun _ h => h.elim, al := Nat.zero_le _, pl := hpl, pz := H.out.2.2.2.2.pz, pd := H.out.2.2.2.2.pd
         p := .inr ⟨rfl, w.heap.size, _, ok, rfl, by omega, hz, Rec.keep H.out.2.2.2.2.o HKW.out (fun g _ hg => H.out.2.2.2.2.nb g hg), H.out.2.2.2.2.nb, H.out.2.2.2.2.nil⟩ }
       have HD := H_ (do9_at (ok := fun _ => False) 9 ⟨true, ⟨4, pi, pl, pd⟩, 0, []⟩ _ _ h2 hc (actOk_is rfl _ _)); clear h1 h2 hr hc hz k12; go_wp2_with fail; refine HD.out.mono ?_; intro e w3 h3; have H3 := H_ h3; obtain ⟨v3, L3, rfl, -, h33, -⟩ := h3; obtain ⟨s3, k3, rfl, -, -⟩ := h33.form; clear h33; go_wp2_with fail; go_ret; rw [HR3.out]; obtain ⟨v, L, h1, h2, h3, ⟨X2, h4⟩, h5⟩ := H3.out.grow HKW.out.size HKW.out; exact ⟨v, L, h1, h2, h3, ⟨X2, h4.mono (fun g hg => hg.elim id .inr)⟩, h5⟩
 . have q : (pi != st.asked) = true := by simpa using hid
   have HR2 := H_ (HR.out.trans (if_neg (fun h => hid h.1))); clear hid; refine hatH 0 rfl (by rintro W ⟨h0, h1, h2, h3⟩; go_simp; try rfl) HSv ?_; simp only [aZ, aC, aD]; refine hatH 1 rfl (by rintro W ⟨h0, h1, h2, h3⟩; go_simp; try rfl) HSv ?_; simp only [aZ, aC, aD]; refine hatH 2 rfl (by rintro W ⟨h0, h1, h2, h3⟩; go_simp; try rfl) HSv ?_; simp only [aZ, aC, aD]; refine hatH 3 rfl (by rintro W ⟨h0, h1, h2, h3⟩; go_simp; try rfl) HSv ?_; simp only [aZ, aC, aD]; refine hatH 4 rfl (by rintro W ⟨h0, h1, h2, h3⟩; go_simp; try rfl) HSv ?_; simp only [aZ, aC, aD]; refine hatH 5 rfl (by rintro W ⟨h0, h1, h2, h3⟩; go_simp; try rfl) HSv ?_; simp only [aZ, aC, aD]; refine hatH 6 rfl (by rintro W ⟨h0, h1, h2, h3⟩; go_simp; try rfl) HSv ?_; simp only [aZ, aC, aD]; refine hatH 7 rfl (by rintro W ⟨h0, h1, h2, h3⟩; go_simp; try rfl) HSv ?_; simp only [aZ, aC, aD]; refine hskp 8 rfl HSv ?_; simp only [aZ, aA, aE, aB, aC, aD]; refine hskp 9 rfl HSv ?_; simp only [aZ, aA, aE, aB, aC, aD]; refine hskp 10 rfl HSv ?_; simp only [aZ, aA, aE, aB, aC, aD]; refine hskp 11 rfl HSv ?_; simp only [aZ, aA, aE, aB, aC, aD]; refine hskp 12 rfl HSv ?_; simp only [aZ, aA, aE, aB, aC, aD]; refine hskp 13 rfl HSv ?_; simp only [aZ, aA, aE, aB, aC, aD]; refine hskp 14 rfl HSv ?_; simp only [aZ, aA, aE, aB, aC, aD]; refine hskp 15 rfl HSv ?_; simp only [aZ, aA, aE, aB, aC, aD]; refine hatH 16 rfl (by rintro W ⟨h0, h1, h2, h3⟩; go_simp; try rfl) HSv ?_; simp only [aZ, aC, aD]; refine hend 17 ?_; simp only [aF, aG]; go_wp2_with fail; go_ret; rw [HR2.out]; exact RNPost.none (H.out.2.1.below (Below.refl _ _).drew) (Keep.of_below _ H.out.2.2.1.drew)
end
theorem fresh_of {w : World} {v : Value} (o : v.ownBlock = (Value.slice none 0 0).ownBlock \/ v.ownBlock = some w.heap.size) : ∀ g, v.ownBlock = some g -> w.heap.size <= g := fun g hg => by
 rcases o with o | o
 . rw [o] at hg; cases hg
 . rw [o] at hg; cases hg; exact Nat.le_refl _
section
variable {w : World} {S ok ok2 : Nat -> Prop} {b : Nat} {C : NegC} {st : NSt} {X : RX}
end
set_option maxRecDepth 100000 in
theorem newBy_bad (sa so sp sm : Option Addr) (na ca no co np cp nm cm : Nat) (cf tm fl wt : Int) (w : World)
 (hb : inB20 cf = false \/ inB20 tm = false \/ fl < 0 \/ 20 < fl \/ wt < 1 \/ 100 < wt) :
 Calls Tryz.prog 156 #[.agg #[.slice sa na ca, .slice so no co, .slice sp np cp, .slice sm nm cm, .int .i64 cf, .int .i64 tm, .int .i64 fl, .int .i64 wt], .nilFunc] w fun e w' => e = .returned (.tuple #[.pointer none, .int .i64 1]) /\ Below w.heap.size w w' := by
 have hb0 := (Below.refl w.heap.size w).alloc (Nat.le_refl _) (.cells #[.slice sa na ca, .slice so no co, .slice sp np cp, .slice sm nm cm, .int .i64 cf, .int .i64 tm, .int .i64 fl, .int .i64 wt] 77 (0, 0)); have hz := at1 w (.cells #[.slice sa na ca, .slice so no co, .slice sp np cp, .slice sm nm cm, .int .i64 cf, .int .i64 tm, .int .i64 fl, .int .i64 wt] 77 (0, 0)); have hs := alloc1 w (.cells #[.slice sa na ca, .slice so no co, .slice sp np cp, .slice sm nm cm, .int .i64 cf, .int .i64 tm, .int .i64 fl, .int .i64 wt] 77 (0, 0)); have HB := H_ (A_ hb0 (A_ hz hs)); have HH := H_ hb; clear hb hb0 hz hs
 by_cases h1 : inB20 cf = false \/ inB20 tm = false
 . have HN := H_ (new_bad cf tm (w.alloc (.cells #[.slice sa na ca, .slice so no co, .slice sp np cp, .slice sm nm cm, .int .i64 cf, .int .i64 tm, .int .i64 fl, .int .i64 wt] 77 (0, 0))) h1); clear h1; go_enter Tryz.func156, Tryz.ntmps156; go_wp2_with fail; refine HN.out.mono ?_; rintro e _ ⟨rfl, rfl⟩; go_wp2_with fail; go_ret2; exact ⟨rfl, HB.out.1⟩
 . have hcf : inB20 cf = true := by cases h : inB20 cf with | true => rfl | false => exact absurd (.inl h) h1
   have htm : inB20 tm = true := by cases h : inB20 tm with | true => rfl | false => exact absurd (.inr h) h1
   have HN := H_ (new_ok cf tm (w.alloc (.cells #[.slice sa na ca, .slice so no co, .slice sp np cp, .slice sm nm cm, .int .i64 cf, .int .i64 tm, .int .i64 fl, .int .i64 wt] 77 (0, 0))) hcf htm); clear hcf htm
   by_cases h2 : fl < 0
   . have d1 : decide (fl < 0) = true := by simpa using h2
     clear HH h1 h2; go_enter Tryz.func156, Tryz.ntmps156; go_wp2_with fail; refine HN.out.mono ?_; rintro e w1 ⟨rfl, -, hk⟩; have hb1 := hk.below (Nat.le_refl _) (fun _ _ h => h); have z1 := (hb1.block w.heap.size (by rw [HB.out.2.2]; omega)).trans HB.out.2.1; have x6 := cellOf z1 6 _ rfl; have x7 := cellOf z1 7 _ rfl; have HB1 := H_ (HB.out.1.trans (hb1.mono HB.out.1.size)); clear hk hb1 z1; go_wp2_with fail; go_ret2; exact ⟨rfl, HB1.out⟩
   . have d1 : decide (fl < 0) = false := by simpa using h2
     by_cases h3 : 20 < fl
     . have d2 : decide ((20 : Int) < fl) = true := by simpa using h3
       clear h3; clear HH h1 h2; go_enter Tryz.func156, Tryz.ntmps156; go_wp2_with fail; refine HN.out.mono ?_; rintro e w1 ⟨rfl, -, hk⟩; have hb1 := hk.below (Nat.le_refl _) (fun _ _ h => h); have z1 := (hb1.block w.heap.size (by rw [HB.out.2.2]; omega)).trans HB.out.2.1; have x6 := cellOf z1 6 _ rfl; have x7 := cellOf z1 7 _ rfl; have HB1 := H_ (HB.out.1.trans (hb1.mono HB.out.1.size)); clear hk hb1 z1; go_wp2_with fail; go_ret2; exact ⟨rfl, HB1.out⟩
     . have d2 : decide ((20 : Int) < fl) = false := by simpa using h3
       by_cases h4 : wt < 1
       . have d3 : decide (wt < 1) = true := by simpa using h4
         clear h3 h4; clear HH h1 h2; go_enter Tryz.func156, Tryz.ntmps156; go_wp2_with fail; refine HN.out.mono ?_; rintro e w1 ⟨rfl, -, hk⟩; have hb1 := hk.below (Nat.le_refl _) (fun _ _ h => h); have z1 := (hb1.block w.heap.size (by rw [HB.out.2.2]; omega)).trans HB.out.2.1; have x6 := cellOf z1 6 _ rfl; have x7 := cellOf z1 7 _ rfl; have HB1 := H_ (HB.out.1.trans (hb1.mono HB.out.1.size)); clear hk hb1 z1; go_wp2_with fail; go_ret2; exact ⟨rfl, HB1.out⟩
       . have d3 : decide (wt < 1) = false := by simpa using h4
         have h5 : 100 < wt := by
          rcases HH.out with h | h | h | h | h | h
          . exact absurd (.inl h) h1
          . exact absurd (.inr h) h1
          . exact absurd h h2
          . exact absurd h h3
          . exact absurd h h4
          . exact h
         have d4 : decide ((100 : Int) < wt) = true := by simpa using h5
         clear h3 h4 h5; clear HH h1 h2; go_enter Tryz.func156, Tryz.ntmps156; go_wp2_with fail; refine HN.out.mono ?_; rintro e w1 ⟨rfl, -, hk⟩; have hb1 := hk.below (Nat.le_refl _) (fun _ _ h => h); have z1 := (hb1.block w.heap.size (by rw [HB.out.2.2]; omega)).trans HB.out.2.1; have x6 := cellOf z1 6 _ rfl; have x7 := cellOf z1 7 _ rfl; have HB1 := H_ (HB.out.1.trans (hb1.mono HB.out.1.size)); clear hk hb1 z1; go_wp2_with fail; go_ret2; exact ⟨rfl, HB1.out⟩
set_option maxRecDepth 100000 in
theorem newBy_put (ask : List Opt) (own peer : List Rl) (must : List Int) (av ov pv mv : Value) (ok : Nat -> Prop) (cf tm fl wt : Int) (w : World) (ha : Opts w ok av ask) (ho : Rls w ok ov own) (hp : Rls w ok pv peer) (hm : Nums w ok mv must)
 (no : ∀ n c, ov = .slice none n c -> c = 0) (np : ∀ n c, pv = .slice none n c -> c = 0) (lo : own.length <= 1000) (lp : peer.length <= 1000) (lm : must.length <= 1000) (hal : ask.length <= 1000)
 (hcf : inB20 cf = true) (htm : inB20 tm = true) (hf0 : 0 <= fl) (hf1 : fl <= 20) (hw0 : 1 <= wt) (hw1 : wt <= 100) (hav : ∀ o ∈ ask, o.v.size <= 100000) (hask : putE ask ≠ 0) :
 Calls Tryz.prog 156 #[.agg #[av, ov, pv, mv, .int .i64 cf, .int .i64 tm, .int .i64 fl, .int .i64 wt], .nilFunc] w fun e w' => e = .returned (.tuple #[.pointer none, .int .i64 (putE ask)]) /\ Below w.heap.size w w' := by
 obtain ⟨sa, ca, rfl, hca, hma⟩ := ha.form; obtain ⟨so, co, rfl, hco, hmo⟩ := ho.form; obtain ⟨sp, cp, rfl, hcp, hmp⟩ := hp.form; obtain ⟨sm, cm, rfl, hcm, hmm⟩ := hm.form; have H := H_ (A_ ha (A_ ho (A_ hp hm))); have HN := H_ (A_ no np); have HP := H_ (A_ hav hask); clear ha ho hp hm no np hav hask; have d1 : decide (fl < 0) = false := by simp; omega
 have d2 : decide ((20 : Int) < fl) = false := by simp; omega
 have d3 : decide (wt < 1) = false := by simp; omega
 have d4 : decide ((100 : Int) < wt) = false := by simp; omega
 have HC := H_ (A_ hcf htm); clear hcf htm; go_enter Tryz.func156, Tryz.ntmps156; go_wp2_with fail; refine (new_ok cf tm _ HC.out.1 HC.out.2).mono ?_; rintro e w1 ⟨rfl, hA, hk⟩; have hB1 := hk.below (B := w.heap.size + 1) (by rw [alloc1]; omega) (fun _ _ h => h); have hbx : SetupAt w1 w.heap.size _ _ _ _ cf tm fl wt := (hB1.block w.heap.size (by omega)).trans (at1 w _); have HB1 := H_ (A_ (((Below.refl w.heap.size w).alloc (Nat.le_refl _) _).trans (hB1.mono (by omega))) (A_ hbx hA)); have x0 : w1.cell? ⟨w.heap.size, 0, none⟩ = some _ := cellOf hbx 0 _ rfl; have x6 : w1.cell? ⟨w.heap.size, 6, none⟩ = some _ := cellOf hbx 6 _ rfl; have x7 : w1.cell? ⟨w.heap.size, 7, none⟩ = some _ := cellOf hbx 7 _ rfl; have HPU := H_ (put_any ask _ ok w1 (H.out.1.below HB1.out.1) (by omega) HP.out.1); have q1 : (putE ask != 0) = true := by simpa using HP.out.2
 clear HP; generalize hpe : putE ask = pe at *; have HPE := H_ hpe; clear hpe; generalize putS ask = ps at *; clear hk hB1 hbx hA; go_wp2_with fail; refine HPU.out.mono ?_; rintro e w2 ⟨rfl, hb2⟩; have HB2 := H_ (HB1.out.1.trans (hb2.mono HB1.out.1.size)); clear hb2; go_wp2_with fail; go_ret2; exact ⟨by rw [HPE.out]; rfl, HB2.out⟩
set_option maxRecDepth 100000 in
theorem newBy_tw (ask : List Opt) (own peer : List Rl) (must : List Int) (av ov pv mv : Value) (ok : Nat -> Prop) (cf tm fl wt : Int) (w : World) (ha : Opts w ok av ask) (ho : Rls w ok ov own) (hp : Rls w ok pv peer) (hm : Nums w ok mv must)
 (no : ∀ n c, ov = .slice none n c -> c = 0) (np : ∀ n c, pv = .slice none n c -> c = 0) (lo : own.length <= 1000) (lp : peer.length <= 1000) (lm : must.length <= 1000) (hal : ask.length <= 1000)
 (hcf : inB20 cf = true) (htm : inB20 tm = true) (hf0 : 0 <= fl) (hf1 : fl <= 20) (hw0 : 1 <= wt) (hw1 : wt <= 100) (hav : ∀ o ∈ ask, o.v.size <= 100000) (hask : putE ask = 0) (htw : twiceP [] ask = true) :
 Calls Tryz.prog 156 #[.agg #[av, ov, pv, mv, .int .i64 cf, .int .i64 tm, .int .i64 fl, .int .i64 wt], .nilFunc] w fun e w' => e = .returned (.tuple #[.pointer none, .int .i64 1]) /\ Below w.heap.size w w' := by
 obtain ⟨sa, ca, rfl, hca, hma⟩ := ha.form; obtain ⟨so, co, rfl, hco, hmo⟩ := ho.form; obtain ⟨sp, cp, rfl, hcp, hmp⟩ := hp.form; obtain ⟨sm, cm, rfl, hcm, hmm⟩ := hm.form; have H := H_ (A_ ha (A_ ho (A_ hp hm))); have HN := H_ (A_ no np); have HP := H_ (A_ hav (A_ hask htw)); clear ha ho hp hm no np hav hask htw; have d1 : decide (fl < 0) = false := by simp; omega
 have d2 : decide ((20 : Int) < fl) = false := by simp; omega
 have d3 : decide (wt < 1) = false := by simp; omega
 have d4 : decide ((100 : Int) < wt) = false := by simp; omega
 have HC := H_ (A_ hcf htm); clear hcf htm; go_enter Tryz.func156, Tryz.ntmps156; go_wp2_with fail; refine (new_ok cf tm _ HC.out.1 HC.out.2).mono ?_; rintro e w1 ⟨rfl, hA, hk⟩; have hB1 := hk.below (B := w.heap.size + 1) (by rw [alloc1]; omega) (fun _ _ h => h); have hbx : SetupAt w1 w.heap.size _ _ _ _ cf tm fl wt := (hB1.block w.heap.size (by omega)).trans (at1 w _); have HB1 := H_ (A_ (((Below.refl w.heap.size w).alloc (Nat.le_refl _) _).trans (hB1.mono (by omega))) (A_ hbx hA)); have x0 : w1.cell? ⟨w.heap.size, 0, none⟩ = some _ := cellOf hbx 0 _ rfl; have x6 : w1.cell? ⟨w.heap.size, 6, none⟩ = some _ := cellOf hbx 6 _ rfl; have x7 : w1.cell? ⟨w.heap.size, 7, none⟩ = some _ := cellOf hbx 7 _ rfl; have HPU := H_ (put_any ask _ ok w1 (H.out.1.below HB1.out.1) (by omega) HP.out.1); rw [HP.out.2.1] at HPU; clear hk hB1 hbx hA; go_wp2_with fail; refine HPU.out.mono ?_; rintro e w2 ⟨rfl, hb2⟩; have hlt1 : w.heap.size < w1.heap.size := (Array.getElem?_eq_some_iff.1 HB1.out.2.1).1; have hbx : SetupAt w2 w.heap.size _ _ _ _ cf tm fl wt := (hb2.block w.heap.size hlt1).trans HB1.out.2.1; have hA2 : AutoAt w2 (w.heap.size + 1) 0 0 cf tm := (hb2.block (w.heap.size + 1) (by have := HB1.out.2.2.lt; rw [alloc1] at this; exact this)).trans (by have := HB1.out.2.2; rw [alloc1] at this; exact this); have HB2 := H_ (A_ (HB1.out.1.trans (hb2.mono (by omega))) (A_ hbx hA2)); have y0 : w2.cell? ⟨w.heap.size, 0, none⟩ = some _ := cellOf hbx 0 _ rfl; have HTW := H_ (twice_any ask _ ok w2 (H.out.1.below HB2.out.1) (by omega)); rw [HP.out.2.2] at HTW; clear hb2 hbx hA2; go_wp2_with fail; refine HTW.out.mono ?_; rintro e w3 ⟨rfl, hb3⟩; have HB3 := H_ (HB2.out.1.trans (hb3.mono HB2.out.1.size)); clear hb3; go_wp2_with fail; go_ret2; exact ⟨rfl, HB3.out⟩
set_option maxRecDepth 100000 in
theorem newBy_wr (ask : List Opt) (own peer : List Rl) (must : List Int) (av ov pv mv : Value) (ok : Nat -> Prop) (cf tm fl wt : Int) (w : World) (ha : Opts w ok av ask) (ho : Rls w ok ov own) (hp : Rls w ok pv peer) (hm : Nums w ok mv must)
 (no : ∀ n c, ov = .slice none n c -> c = 0) (np : ∀ n c, pv = .slice none n c -> c = 0) (lo : own.length <= 1000) (lp : peer.length <= 1000) (lm : must.length <= 1000) (hal : ask.length <= 1000)
 (hcf : inB20 cf = true) (htm : inB20 tm = true) (hf0 : 0 <= fl) (hf1 : fl <= 20) (hw0 : 1 <= wt) (hw1 : wt <= 100) (hav : ∀ o ∈ ask, o.v.size <= 100000) (hask : putE ask = 0) (htw : twiceP [] ask = false)
 (hrs : ∀ r ∈ own ++ peer, r.s.size <= 100000) (hwr : (own ++ peer).any wrongR = true) :
 Calls Tryz.prog 156 #[.agg #[av, ov, pv, mv, .int .i64 cf, .int .i64 tm, .int .i64 fl, .int .i64 wt], .nilFunc] w fun e w' => e = .returned (.tuple #[.pointer none, .int .i64 1]) /\ Below w.heap.size w w' := by
 obtain ⟨sa, ca, rfl, hca, hma⟩ := ha.form; obtain ⟨so, co, rfl, hco, hmo⟩ := ho.form; obtain ⟨sp, cp, rfl, hcp, hmp⟩ := hp.form; obtain ⟨sm, cm, rfl, hcm, hmm⟩ := hm.form; have H := H_ (A_ ha (A_ ho (A_ hp hm))); have HN := H_ (A_ no np); have HP := H_ (A_ hav (A_ hask (A_ htw (A_ hrs hwr)))); clear ha ho hp hm no np hav hask htw hrs hwr; have d1 : decide (fl < 0) = false := by simp; omega
 have d2 : decide ((20 : Int) < fl) = false := by simp; omega
 have d3 : decide (wt < 1) = false := by simp; omega
 have d4 : decide ((100 : Int) < wt) = false := by simp; omega
 have HC := H_ (A_ hcf htm); clear hcf htm; go_enter Tryz.func156, Tryz.ntmps156; go_wp2_with fail; refine (new_ok cf tm _ HC.out.1 HC.out.2).mono ?_; rintro e w1 ⟨rfl, hA, hk⟩; have hB1 := hk.below (B := w.heap.size + 1) (by rw [alloc1]; omega) (fun _ _ h => h); have hbx : SetupAt w1 w.heap.size _ _ _ _ cf tm fl wt := (hB1.block w.heap.size (by omega)).trans (at1 w _); have HB1 := H_ (A_ (((Below.refl w.heap.size w).alloc (Nat.le_refl _) _).trans (hB1.mono (by omega))) (A_ hbx hA)); have x0 : w1.cell? ⟨w.heap.size, 0, none⟩ = some _ := cellOf hbx 0 _ rfl; have x6 : w1.cell? ⟨w.heap.size, 6, none⟩ = some _ := cellOf hbx 6 _ rfl; have x7 : w1.cell? ⟨w.heap.size, 7, none⟩ = some _ := cellOf hbx 7 _ rfl; have HPU := H_ (put_any ask _ ok w1 (H.out.1.below HB1.out.1) (by omega) HP.out.1); rw [HP.out.2.1] at HPU; clear hk hB1 hbx hA; go_wp2_with fail; refine HPU.out.mono ?_; rintro e w2 ⟨rfl, hb2⟩; have hlt1 : w.heap.size < w1.heap.size := (Array.getElem?_eq_some_iff.1 HB1.out.2.1).1; have hbx : SetupAt w2 w.heap.size _ _ _ _ cf tm fl wt := (hb2.block w.heap.size hlt1).trans HB1.out.2.1; have hA2 : AutoAt w2 (w.heap.size + 1) 0 0 cf tm := (hb2.block (w.heap.size + 1) (by have := HB1.out.2.2.lt; rw [alloc1] at this; exact this)).trans (by have := HB1.out.2.2; rw [alloc1] at this; exact this); have HB2 := H_ (A_ (HB1.out.1.trans (hb2.mono (by omega))) (A_ hbx hA2)); have y0 : w2.cell? ⟨w.heap.size, 0, none⟩ = some _ := cellOf hbx 0 _ rfl; have HTW := H_ (twice_any ask _ ok w2 (H.out.1.below HB2.out.1) (by omega)); rw [HP.out.2.2.1] at HTW; clear hb2 hbx hA2; go_wp2_with fail; refine HTW.out.mono ?_; rintro e w3 ⟨rfl, hb3⟩; have hlt2 : w.heap.size + 1 < w2.heap.size := HB2.out.2.2.lt; have hbx : SetupAt w3 w.heap.size _ _ _ _ cf tm fl wt := (hb3.block w.heap.size (by omega)).trans HB2.out.2.1; have hA3 : AutoAt w3 (w.heap.size + 1) 0 0 cf tm := (hb3.block (w.heap.size + 1) hlt2).trans HB2.out.2.2; have HB3 := H_ (A_ (HB2.out.1.trans (hb3.mono (by omega))) (A_ hbx hA3)); have t1 : w3.cell? ⟨w.heap.size, 1, none⟩ = some _ := cellOf hbx 1 _ rfl; have t2 : w3.cell? ⟨w.heap.size, 2, none⟩ = some _ := cellOf hbx 2 _ rfl; clear hb3 hbx hA3; go_wp2_with fail; have hB4 : Below w.heap.size w (w3.alloc (.cells #[.slice so own.length co, .slice sp peer.length cp] 61 (0, 0))) := HB3.out.1.alloc HB3.out.1.size _; refine (concat_any own peer _ _ ok w3.heap.size _ (H.out.2.1.below hB4) (H.out.2.2.1.below hB4) HN.out.1 HN.out.2 (at1 w3 _) lo lp).mono ?_; rintro e w4 ⟨v4, rfl, hrow, hb4⟩; have hlt3 : w.heap.size + 1 < w3.heap.size := HB3.out.2.2.lt; have hbx : SetupAt w4 w.heap.size _ _ _ _ cf tm fl wt := (hb4.block w.heap.size (by rw [alloc1]; omega)).trans ((Below.heap_alloc _ _ _ (by omega)).trans HB3.out.2.1); have hA4 : AutoAt w4 (w.heap.size + 1) 0 0 cf tm := (hb4.block (w.heap.size + 1) (by rw [alloc1]; omega)).trans ((Below.heap_alloc _ _ _ hlt3).trans HB3.out.2.2); have hBw4 := hB4.trans (hb4.mono (by rw [alloc1]; omega)); obtain ⟨s4, c4, hv4⟩ := hrow.form; subst hv4
 have HW := H_ (containsR_any (own ++ peer) _ _ 223 #[] wrongR w4 (hrow.rls (by rw [List.length_append]; unfold maxLen; omega)) (by rw [List.length_append]; omega) (enters_of Tryz.func223 (by kernel_rfl) rfl) (fun W r hr hW => by
  refine (wrong_any r W (HP.out.2.2.2.1 r hr)).mono ?_; rintro e w' ⟨rfl, hb⟩
  exact ⟨rfl, hW.trans (hb.mono hW.size)⟩))
 rw [HP.out.2.2.2.2, List.length_append] at HW; have HB4 := H_ (A_ hBw4 (A_ hbx hA4)); clear hB4 hrow hb4 hbx hA4 hBw4; go_wp2_with fail; refine HW.out.mono ?_; rintro e w5 ⟨rfl, hb5⟩; have HB5 := H_ (HB4.out.1.trans (hb5.mono HB4.out.1.size)); clear hb5; go_wp2_with fail; go_ret2; exact ⟨rfl, HB5.out⟩
def numBad (cf tm fl wt : Int) : Prop := inB20 cf = false \/ inB20 tm = false \/ fl < 0 \/ 20 < fl \/ wt < 1 \/ 100 < wt
instance (cf tm fl wt : Int) : Decidable (numBad cf tm fl wt) := by unfold numBad; infer_instance
def checkE (ask : List Opt) (own peer : List Rl) (cf tm fl wt : Int) : Int :=
 if numBad cf tm fl wt then 1 else if putE ask ≠ 0 then putE ask else if (twiceP [] ask || (own ++ peer).any wrongR) = true then 1 else 0
theorem new_err (ask : List Opt) (own peer : List Rl) (must : List Int) (av ov pv mv : Value) (ok : Nat -> Prop) (cf tm fl wt : Int) (w : World) (ha : Opts w ok av ask) (ho : Rls w ok ov own) (hp : Rls w ok pv peer) (hm : Nums w ok mv must)
 (no : ∀ n c, ov = .slice none n c -> c = 0) (np : ∀ n c, pv = .slice none n c -> c = 0) (lo : own.length <= 1000) (lp : peer.length <= 1000) (lm : must.length <= 1000) (hal : ask.length <= 1000) (hav : ∀ o ∈ ask, o.v.size <= 100000) (hrs : ∀ r ∈ own ++ peer, r.s.size <= 100000) (he : checkE ask own peer cf tm fl wt ≠ 0) :
 Calls Tryz.prog 39 #[.agg #[av, ov, pv, mv, .int .i64 cf, .int .i64 tm, .int .i64 fl, .int .i64 wt]] w fun e w' => e = .returned (.tuple #[.pointer none, .int .i64 (checkE ask own peer cf tm fl wt)]) /\ Below w.heap.size w w' := by
 have hb : Below w.heap.size w (w.alloc (.cells #[av, ov, pv, mv, .int .i64 cf, .int .i64 tm, .int .i64 fl, .int .i64 wt] 77 (0, 0))) := (Below.refl _ _).alloc (Nat.le_refl _) _; have hat := at1 w (.cells #[av, ov, pv, mv, .int .i64 cf, .int .i64 tm, .int .i64 fl, .int .i64 wt] 77 (0, 0))
 have hN : Calls Tryz.prog 156 #[.agg #[av, ov, pv, mv, .int .i64 cf, .int .i64 tm, .int .i64 fl, .int .i64 wt], .nilFunc] (w.alloc (.cells #[av, ov, pv, mv, .int .i64 cf, .int .i64 tm, .int .i64 fl, .int .i64 wt] 77 (0, 0))) fun e w' => e = .returned (.tuple #[.pointer none, .int .i64 (checkE ask own peer cf tm fl wt)]) /\ Below (w.alloc (.cells #[av, ov, pv, mv, .int .i64 cf, .int .i64 tm, .int .i64 fl, .int .i64 wt] 77 (0, 0))).heap.size (w.alloc (.cells #[av, ov, pv, mv, .int .i64 cf, .int .i64 tm, .int .i64 fl, .int .i64 wt] 77 (0, 0))) w' := by
  have ha' := ha.below hb; have ho' := ho.below hb; have hp' := hp.below hb; have hm' := hm.below hb; generalize w.alloc (.cells #[av, ov, pv, mv, .int .i64 cf, .int .i64 tm, .int .i64 fl, .int .i64 wt] 77 (0, 0)) = W at *; unfold checkE at he ⊢
  by_cases h1 : numBad cf tm fl wt
  . rw [if_pos h1]; obtain ⟨sa, ca, rfl, -, -⟩ := ha'.form; obtain ⟨so, co, rfl, -, -⟩ := ho'.form; obtain ⟨sp, cp, rfl, -, -⟩ := hp'.form; obtain ⟨sm, cm, rfl, -, -⟩ := hm'.form; exact newBy_bad _ _ _ _ _ _ _ _ _ _ _ _ cf tm fl wt W h1
  . rw [if_neg h1] at he ⊢; have hcf : inB20 cf = true := by cases h : inB20 cf with | true => rfl | false => exact absurd (.inl h) h1
    have htm : inB20 tm = true := by cases h : inB20 tm with | true => rfl | false => exact absurd (.inr (.inl h)) h1
    have h2 : 0 <= fl /\ fl <= 20 /\ 1 <= wt /\ wt <= 100 := by unfold numBad at h1; omega
    by_cases h3 : putE ask ≠ 0
    . rw [if_pos h3]; exact newBy_put ask own peer must av ov pv mv ok cf tm fl wt W ha' ho' hp' hm' no np lo lp lm hal hcf htm h2.1 h2.2.1 h2.2.2.1 h2.2.2.2 hav h3
    . rw [if_neg h3] at he ⊢; have h3' : putE ask = 0 := by omega
      by_cases h4 : (twiceP [] ask || (own ++ peer).any wrongR) = true
      . rw [if_pos h4]
        cases h5 : twiceP [] ask with
        | true => exact newBy_tw ask own peer must av ov pv mv ok cf tm fl wt W ha' ho' hp' hm' no np lo lp lm hal hcf htm h2.1 h2.2.1 h2.2.2.1 h2.2.2.2 hav h3' h5
        | false =>
         rw [h5, Bool.false_or] at h4; exact newBy_wr ask own peer must av ov pv mv ok cf tm fl wt W ha' ho' hp' hm' no np lo lp lm hal hcf htm h2.1 h2.2.1 h2.2.2.1 h2.2.2.2 hav h3' h5 hrs h4
      . rw [if_neg h4] at he; exact absurd rfl he
 have H := H_ hN; have HB := H_ hb; generalize checkE ask own peer cf tm fl wt = ee at *; clear ha ho hp hm no np hav hrs hN hb; go_enter Tryz.func39, Tryz.ntmps39; go_wp2_with fail; refine H.out.mono ?_; rintro e w1 ⟨rfl, h1⟩; have H1 := H_ (HB.out.trans (h1.mono HB.out.size)); clear h1; go_wp2_with fail; go_ret2; exact ⟨rfl, H1.out⟩
section
variable {w : World} {ask : List Opt} {own peer : List Rl} {sa so sp sm : Option Addr} {ca co cp nm cm : Nat} {cf tm fl wt : Int}
set_option maxRecDepth 100000 in
theorem check9_b0  (h : cf < 1) :
 Calls Tryz.prog 157 #[.agg #[.slice sa ask.length ca, .slice so own.length co, .slice sp peer.length cp, .slice sm nm cm, .int .i64 cf, .int .i64 tm, .int .i64 fl, .int .i64 wt]] w fun e w' => e = .returned (.int .i64 1) /\ Below w.heap.size w w' := by
 have HB := H_ (b1 w (.cells #[.slice sa ask.length ca, .slice so own.length co, .slice sp peer.length cp, .slice sm nm cm, .int .i64 cf, .int .i64 tm, .int .i64 fl, .int .i64 wt] 88 (0, 0))); have q0 : decide (cf < 1) = true := decide_eq_true (by omega); clear  h; go_enter Tryz.func157, Tryz.ntmps157; go_wp2_with fail; go_ret; exact ⟨rfl, HB.out⟩
set_option maxRecDepth 100000 in
theorem check9_b1 (h0 : ¬ cf < 1) (h : 20 < cf) :
 Calls Tryz.prog 157 #[.agg #[.slice sa ask.length ca, .slice so own.length co, .slice sp peer.length cp, .slice sm nm cm, .int .i64 cf, .int .i64 tm, .int .i64 fl, .int .i64 wt]] w fun e w' => e = .returned (.int .i64 1) /\ Below w.heap.size w w' := by
 have HB := H_ (b1 w (.cells #[.slice sa ask.length ca, .slice so own.length co, .slice sp peer.length cp, .slice sm nm cm, .int .i64 cf, .int .i64 tm, .int .i64 fl, .int .i64 wt] 88 (0, 0))); have q0 : decide (cf < 1) = false := decide_eq_false (by omega); have q1 : decide ((20 : Int) < cf) = true := decide_eq_true (by omega); clear h0 h; go_enter Tryz.func157, Tryz.ntmps157; go_wp2_with fail; go_ret; exact ⟨rfl, HB.out⟩
set_option maxRecDepth 100000 in
theorem check9_b2 (h0 : ¬ cf < 1) (h1 : ¬ 20 < cf) (h : tm < 1) :
 Calls Tryz.prog 157 #[.agg #[.slice sa ask.length ca, .slice so own.length co, .slice sp peer.length cp, .slice sm nm cm, .int .i64 cf, .int .i64 tm, .int .i64 fl, .int .i64 wt]] w fun e w' => e = .returned (.int .i64 1) /\ Below w.heap.size w w' := by
 have HB := H_ (b1 w (.cells #[.slice sa ask.length ca, .slice so own.length co, .slice sp peer.length cp, .slice sm nm cm, .int .i64 cf, .int .i64 tm, .int .i64 fl, .int .i64 wt] 88 (0, 0))); have q0 : decide (cf < 1) = false := decide_eq_false (by omega); have q1 : decide ((20 : Int) < cf) = false := decide_eq_false (by omega); have q2 : decide (tm < 1) = true := decide_eq_true (by omega); clear h0 h1 h; go_enter Tryz.func157, Tryz.ntmps157; go_wp2_with fail; go_ret; exact ⟨rfl, HB.out⟩
set_option maxRecDepth 100000 in
theorem check9_b3 (h0 : ¬ cf < 1) (h1 : ¬ 20 < cf) (h2 : ¬ tm < 1) (h : 20 < tm) :
 Calls Tryz.prog 157 #[.agg #[.slice sa ask.length ca, .slice so own.length co, .slice sp peer.length cp, .slice sm nm cm, .int .i64 cf, .int .i64 tm, .int .i64 fl, .int .i64 wt]] w fun e w' => e = .returned (.int .i64 1) /\ Below w.heap.size w w' := by
 have HB := H_ (b1 w (.cells #[.slice sa ask.length ca, .slice so own.length co, .slice sp peer.length cp, .slice sm nm cm, .int .i64 cf, .int .i64 tm, .int .i64 fl, .int .i64 wt] 88 (0, 0))); have q0 : decide (cf < 1) = false := decide_eq_false (by omega); have q1 : decide ((20 : Int) < cf) = false := decide_eq_false (by omega); have q2 : decide (tm < 1) = false := decide_eq_false (by omega); have q3 : decide ((20 : Int) < tm) = true := decide_eq_true (by omega); clear h0 h1 h2 h; go_enter Tryz.func157, Tryz.ntmps157; go_wp2_with fail; go_ret; exact ⟨rfl, HB.out⟩
set_option maxRecDepth 100000 in
theorem check9_b4 (h0 : ¬ cf < 1) (h1 : ¬ 20 < cf) (h2 : ¬ tm < 1) (h3 : ¬ 20 < tm) (h : fl < 0) :
 Calls Tryz.prog 157 #[.agg #[.slice sa ask.length ca, .slice so own.length co, .slice sp peer.length cp, .slice sm nm cm, .int .i64 cf, .int .i64 tm, .int .i64 fl, .int .i64 wt]] w fun e w' => e = .returned (.int .i64 1) /\ Below w.heap.size w w' := by
 have HB := H_ (b1 w (.cells #[.slice sa ask.length ca, .slice so own.length co, .slice sp peer.length cp, .slice sm nm cm, .int .i64 cf, .int .i64 tm, .int .i64 fl, .int .i64 wt] 88 (0, 0))); have q0 : decide (cf < 1) = false := decide_eq_false (by omega); have q1 : decide ((20 : Int) < cf) = false := decide_eq_false (by omega); have q2 : decide (tm < 1) = false := decide_eq_false (by omega); have q3 : decide ((20 : Int) < tm) = false := decide_eq_false (by omega); have q4 : decide (fl < 0) = true := decide_eq_true (by omega); clear h0 h1 h2 h3 h; go_enter Tryz.func157, Tryz.ntmps157; go_wp2_with fail; go_ret; exact ⟨rfl, HB.out⟩
set_option maxRecDepth 100000 in
theorem check9_b5 (h0 : ¬ cf < 1) (h1 : ¬ 20 < cf) (h2 : ¬ tm < 1) (h3 : ¬ 20 < tm) (h4 : ¬ fl < 0) (h : 20 < fl) :
 Calls Tryz.prog 157 #[.agg #[.slice sa ask.length ca, .slice so own.length co, .slice sp peer.length cp, .slice sm nm cm, .int .i64 cf, .int .i64 tm, .int .i64 fl, .int .i64 wt]] w fun e w' => e = .returned (.int .i64 1) /\ Below w.heap.size w w' := by
 have HB := H_ (b1 w (.cells #[.slice sa ask.length ca, .slice so own.length co, .slice sp peer.length cp, .slice sm nm cm, .int .i64 cf, .int .i64 tm, .int .i64 fl, .int .i64 wt] 88 (0, 0))); have q0 : decide (cf < 1) = false := decide_eq_false (by omega); have q1 : decide ((20 : Int) < cf) = false := decide_eq_false (by omega); have q2 : decide (tm < 1) = false := decide_eq_false (by omega); have q3 : decide ((20 : Int) < tm) = false := decide_eq_false (by omega); have q4 : decide (fl < 0) = false := decide_eq_false (by omega); have q5 : decide ((20 : Int) < fl) = true := decide_eq_true (by omega); clear h0 h1 h2 h3 h4 h; go_enter Tryz.func157, Tryz.ntmps157; go_wp2_with fail; go_ret; exact ⟨rfl, HB.out⟩
set_option maxRecDepth 100000 in
theorem check9_b6 (h0 : ¬ cf < 1) (h1 : ¬ 20 < cf) (h2 : ¬ tm < 1) (h3 : ¬ 20 < tm) (h4 : ¬ fl < 0) (h5 : ¬ 20 < fl) (h : wt < 1) :
 Calls Tryz.prog 157 #[.agg #[.slice sa ask.length ca, .slice so own.length co, .slice sp peer.length cp, .slice sm nm cm, .int .i64 cf, .int .i64 tm, .int .i64 fl, .int .i64 wt]] w fun e w' => e = .returned (.int .i64 1) /\ Below w.heap.size w w' := by
 have HB := H_ (b1 w (.cells #[.slice sa ask.length ca, .slice so own.length co, .slice sp peer.length cp, .slice sm nm cm, .int .i64 cf, .int .i64 tm, .int .i64 fl, .int .i64 wt] 88 (0, 0))); have q0 : decide (cf < 1) = false := decide_eq_false (by omega); have q1 : decide ((20 : Int) < cf) = false := decide_eq_false (by omega); have q2 : decide (tm < 1) = false := decide_eq_false (by omega); have q3 : decide ((20 : Int) < tm) = false := decide_eq_false (by omega); have q4 : decide (fl < 0) = false := decide_eq_false (by omega); have q5 : decide ((20 : Int) < fl) = false := decide_eq_false (by omega); have q6 : decide (wt < 1) = true := decide_eq_true (by omega); clear h0 h1 h2 h3 h4 h5 h; go_enter Tryz.func157, Tryz.ntmps157; go_wp2_with fail; go_ret; exact ⟨rfl, HB.out⟩
set_option maxRecDepth 100000 in
theorem check9_b7 (h0 : ¬ cf < 1) (h1 : ¬ 20 < cf) (h2 : ¬ tm < 1) (h3 : ¬ 20 < tm) (h4 : ¬ fl < 0) (h5 : ¬ 20 < fl) (h6 : ¬ wt < 1) (h : 100 < wt) :
 Calls Tryz.prog 157 #[.agg #[.slice sa ask.length ca, .slice so own.length co, .slice sp peer.length cp, .slice sm nm cm, .int .i64 cf, .int .i64 tm, .int .i64 fl, .int .i64 wt]] w fun e w' => e = .returned (.int .i64 1) /\ Below w.heap.size w w' := by
 have HB := H_ (b1 w (.cells #[.slice sa ask.length ca, .slice so own.length co, .slice sp peer.length cp, .slice sm nm cm, .int .i64 cf, .int .i64 tm, .int .i64 fl, .int .i64 wt] 88 (0, 0))); have q0 : decide (cf < 1) = false := decide_eq_false (by omega); have q1 : decide ((20 : Int) < cf) = false := decide_eq_false (by omega); have q2 : decide (tm < 1) = false := decide_eq_false (by omega); have q3 : decide ((20 : Int) < tm) = false := decide_eq_false (by omega); have q4 : decide (fl < 0) = false := decide_eq_false (by omega); have q5 : decide ((20 : Int) < fl) = false := decide_eq_false (by omega); have q6 : decide (wt < 1) = false := decide_eq_false (by omega); have q7 : decide ((100 : Int) < wt) = true := decide_eq_true (by omega); clear h0 h1 h2 h3 h4 h5 h6 h; go_enter Tryz.func157, Tryz.ntmps157; go_wp2_with fail; go_ret; exact ⟨rfl, HB.out⟩
set_option maxRecDepth 100000 in
theorem check9_rest (h0 : ¬ cf < 1) (h1 : ¬ 20 < cf) (h2 : ¬ tm < 1) (h3 : ¬ 20 < tm) (h4 : ¬ fl < 0) (h5 : ¬ 20 < fl) (h6 : ¬ wt < 1) (h7 : ¬ 100 < wt) {ok : Nat -> Prop} (ha : Opts w ok (.slice sa ask.length ca) ask) (ho : Rls w ok (.slice so own.length co) own) (hp : Rls w ok (.slice sp peer.length cp) peer)
 (no : ∀ n c, Value.slice so own.length co = .slice none n c -> c = 0) (np : ∀ n c, Value.slice sp peer.length cp = .slice none n c -> c = 0) (lo : own.length <= 1000) (lp : peer.length <= 1000) (hal : ask.length <= 1000) (hav : ∀ o ∈ ask, o.v.size <= 100000) (hrs : ∀ r ∈ own ++ peer, r.s.size <= 100000) :
 Calls Tryz.prog 157 #[.agg #[.slice sa ask.length ca, .slice so own.length co, .slice sp peer.length cp, .slice sm nm cm, .int .i64 cf, .int .i64 tm, .int .i64 fl, .int .i64 wt]] w fun e w' => e = .returned (.int .i64 (if putE ask ≠ 0 then putE ask else if (twiceP [] ask || (own ++ peer).any wrongR) = true then 1 else 0)) /\ Below w.heap.size w w' := by
 have hb1 := b1 w (.cells #[.slice sa ask.length ca, .slice so own.length co, .slice sp peer.length cp, .slice sm nm cm, .int .i64 cf, .int .i64 tm, .int .i64 fl, .int .i64 wt] 88 (0, 0)); have hz1 := heap_alloc_new w (.cells #[.slice sa ask.length ca, .slice so own.length co, .slice sp peer.length cp, .slice sm nm cm, .int .i64 cf, .int .i64 tm, .int .i64 fl, .int .i64 wt] 88 (0, 0)); have hs1 : (w.alloc (.cells #[.slice sa ask.length ca, .slice so own.length co, .slice sp peer.length cp, .slice sm nm cm, .int .i64 cf, .int .i64 tm, .int .i64 fl, .int .i64 wt] 88 (0, 0))).heap.size = w.heap.size + 1 := alloc1 _ _; have HP := H_ (put9_any ask _ ok _ (ha.below hb1) (by omega) hav); have H := H_ (A_ hb1 (A_ hz1 (A_ (ha.below hb1) (A_ (ho.below hb1) (A_ (hp.below hb1) hrs))))); have HNO := H_ (A_ (show so = none -> own.length = 0 /\ co = 0 from fun e => by subst e; obtain ⟨_, _, e1, e2, -⟩ := ho.form; cases e1; have := no _ _ rfl; omega) (show sp = none -> peer.length = 0 /\ cp = 0 from fun e => by subst e; obtain ⟨_, _, e1, e2, -⟩ := hp.form; cases e1; have := np _ _ rfl; omega)); obtain ⟨R, hR⟩ : ∃ R : Int, R = (if putE ask ≠ 0 then putE ask else if (twiceP [] ask || (own ++ peer).any wrongR) = true then 1 else 0) := ⟨_, rfl⟩; rw [<- hR]; have HR := H_ hR; clear hR; obtain ⟨la, hla⟩ : ∃ la, la = ask.length := ⟨_, rfl⟩; have HLA := H_ hla; have q0 : decide (cf < 1) = false := decide_eq_false (by omega); have q1 : decide ((20 : Int) < cf) = false := decide_eq_false (by omega); have q2 : decide (tm < 1) = false := decide_eq_false (by omega); have q3 : decide ((20 : Int) < tm) = false := decide_eq_false (by omega); have q4 : decide (fl < 0) = false := decide_eq_false (by omega); have q5 : decide ((20 : Int) < fl) = false := decide_eq_false (by omega); have q6 : decide (wt < 1) = false := decide_eq_false (by omega); have q7 : decide ((100 : Int) < wt) = false := decide_eq_false (by omega); have hca : la <= ca := by obtain ⟨_, _, e1, e2, -⟩ := ha.form; cases e1; omega
 rw [<- hla] at HP H hal hs1 ⊢; clear h0 h1 h2 h3 h4 h5 h6 h7 ha ho hp no np hav hrs hb1 hz1 hla; go_enter Tryz.func157, Tryz.ntmps157; go_wp2_with fail; clear q0 q1 q2 q3 q4 q5 q6 q7; generalize w.alloc (.cells #[.slice sa la ca, .slice so own.length co, .slice sp peer.length cp, .slice sm nm cm, .int .i64 cf, .int .i64 tm, .int .i64 fl, .int .i64 wt] 88 (0, 0)) = w1 at *; refine HP.out.mono ?_; rintro e w2 ⟨rfl, hb2⟩
 have HSB : Hid (∀ W, Below w1.heap.size w1 W -> (fun Y : World => Y.cell? ⟨w.heap.size, 0, none⟩ = some (.slice sa la ca) /\ Y.cell? ⟨w.heap.size, 1, none⟩ = some (.slice so own.length co) /\ Y.cell? ⟨w.heap.size, 2, none⟩ = some (.slice sp peer.length cp)) W) := H_ fun W hW => by
  have hz := (hW.block w.heap.size (by omega)).trans H.out.2.1; exact ⟨cellOf hz 0 _ rfl, cellOf hz 1 _ rfl, cellOf hz 2 _ rfl⟩
 have HB2 := H_ hb2; clear hb2
 by_cases hpe : putE ask = 0
 . have HR2 := H_ (HR.out.trans (if_neg (fun h => h hpe))); rw [hpe]; clear hpe; go_wp2_with fail
   go_loopg [5] la (fun x i wr => ∃ k : Nat, k <= la /\ x = la - k /\ i = .int .i64 k /\ Hid (Below w1.heap.size w1 wr /\ twiceP [] (ask.take k) = false))
   case atStart => exact ⟨0, by omega, by omega, rfl, HB2.out, rfl⟩
   case round =>
    obtain ⟨k, hk, rfl, rfl, hK⟩ := hrel; have HK := H_ hK.out; clear hK; obtain ⟨a0, a1, a2⟩ := HSB.out wr HK.out.1
    by_cases hkl : k < la
    . have hkx : k < ask.length := by have := HLA.out; omega
      obtain ⟨g, off, rfl, hg, -, -, -, -, c0, c1⟩ := H.out.2.2.1.at k hkx; have HCX := H_ (fun W (hW : Below w1.heap.size w1 W) => (hW.cell (p := ⟨g, off + k * 2, none⟩) hg).trans c0)
      have HT := H_ (A_ (show twiceP [] (ask.take (k + 1)) = (ask.take k).any (fun x => x.t == ask[k].t) from by rw [List.take_succ_eq_append_getElem hkx, twiceP_app, HK.out.2]; simp [twiceP])
       (show (ask.take k).any (fun x => x.t == ask[k].t) = true -> twiceP [] ask = true from fun h => by
        have e : ask = ask.take (k + 1) ++ ask.drop (k + 1) := (List.take_append_drop _ _).symm; have h1 : twiceP [] (ask.take (k + 1)) = true := by rw [List.take_succ_eq_append_getElem hkx, twiceP_app, HK.out.2]; simpa [twiceP] using h
        rw [e, twiceP_app, h1]; rfl))
      have hTK : (ask.take k).length = k := by rw [List.length_take]; omega
      have HFD := H_ (fun W (hW : Below w1.heap.size w1 W) => find9_any (ask.take k) (.slice (some ⟨g, off, none⟩) k ca) _ ask[k].t W (by
       have h9 := Opts.take (Opts.below H.out.2.2.1 hW) k (by omega)
       exact h9) (by rw [hTK]; omega))
      clear c0 c1 hTK; generalize hdb : ((ask.take k).any fun x => x.t == ask[k].t) = db at *; generalize ask[k].t = xt at *; go_wp2_with fail; have HSv : (fun Y : World => Y.cell? ⟨w.heap.size, 0, none⟩ = some (.slice (some ⟨g, off, none⟩) la ca) /\ Y.cell? ⟨g, off + k * 2, none⟩ = some (.int .i64 xt)) wr.drew := ⟨(HSB.out _ HK.out.1.drew).1, HCX.out _ HK.out.1.drew⟩; refine wp_region_H (rgH 0 16) (fun Y : World => Y.cell? ⟨w.heap.size, 0, none⟩ = some (.slice (some ⟨g, off, none⟩) la ca) /\ Y.cell? ⟨g, off + k * 2, none⟩ = some (.int .i64 xt)) (by kernel_rfl) ?_; have hkc : k <= ca := by omega
      refine hatH 0 rfl (by rintro W ⟨h0, h1⟩; go_simp; try rfl) HSv ?_; simp only [aZ, aC, aD]; refine hatH 1 rfl (by rintro W ⟨h0, h1⟩; go_simp; try rfl) HSv ?_; simp only [aZ, aC, aD]; refine hatH 2 rfl (by rintro W ⟨h0, h1⟩; go_simp; try rfl) HSv ?_; simp only [aZ, aC, aD]; refine hatH 3 rfl (by rintro W ⟨h0, h1⟩; go_simp; try rfl) HSv ?_; simp only [aZ, aC, aD]; refine hatH 4 rfl (by rintro W ⟨h0, h1⟩; go_simp; try rfl) HSv ?_; simp only [aZ, aC, aD]; refine hatH 5 rfl (by rintro W ⟨h0, h1⟩; go_simp; try rfl) HSv ?_; simp only [aZ, aC, aD]; refine hatH 6 rfl (by rintro W ⟨h0, h1⟩; go_simp; try rfl) HSv ?_; simp only [aZ, aC, aD]; refine hatH 7 rfl (by rintro W ⟨h0, h1⟩; go_simp; try rfl) HSv ?_; simp only [aZ, aC, aD]; refine hatH 8 rfl (by rintro W ⟨h0, h1⟩; go_simp; try rfl) HSv ?_; simp only [aZ, aC, aD]; refine hatH 9 rfl (by rintro W ⟨h0, h1⟩; go_simp; try rfl) HSv ?_; simp only [aZ, aC, aD]; refine hone 10 rfl fun K hK => ?_
      try go_simp
      go_at_call 146; refine (HFD.out _ HK.out.1.drew).mono ?_; rintro e w3 ⟨⟨s0, rfl⟩, hb3⟩; have HB3 := H_ (HK.out.1.drew.trans (hb3.mono HK.out.1.size)); have HSv : (fun Y : World => Y.cell? ⟨w.heap.size, 0, none⟩ = some (.slice (some ⟨g, off, none⟩) la ca) /\ Y.cell? ⟨g, off + k * 2, none⟩ = some (.int .i64 xt)) w3 := ⟨(HSB.out _ HB3.out).1, HCX.out _ HB3.out⟩; clear hb3; refine hK _ _ (fun _ => HSv) ?_
      try simp only [aZ, aA, aE, aB, aC, aD]
      refine hatH 11 rfl (by rintro W ⟨h0, h1⟩; go_simp; try rfl) HSv ?_; simp only [aZ, aC, aD]; refine hatH 12 rfl (by rintro W ⟨h0, h1⟩; go_simp; try rfl) HSv ?_; simp only [aZ, aC, aD]; refine hatH 13 rfl (by rintro W ⟨h0, h1⟩; go_simp; try rfl) HSv ?_; simp only [aZ, aC, aD]; refine hatH 14 rfl (by rintro W ⟨h0, h1⟩; go_simp; try rfl) HSv ?_; simp only [aZ, aC, aD]; refine hatH 15 rfl (by rintro W ⟨h0, h1⟩; go_simp; try rfl) HSv ?_; simp only [aZ, aC, aD]; refine hend 16 ?_; simp only [aF, aG]
      cases db with
      | true =>
       have HR3 := H_ (HR2.out.trans (if_pos (by rw [HT.out.2 rfl]; rfl))); go_wp2_with fail; go_ret; exact ⟨by rw [HR3.out]; rfl, H.out.1.trans (HB3.out.mono (by omega))⟩
      | false =>
       go_wp2_with fail
       go_roundg (la - (k + 1))
       case measure => omega
       case rel => exact ⟨k + 1, by omega, rfl, by go_num, HB3.out, HT.out.1⟩
    . obtain rfl : la = k := by omega
      have HTW := H_ (show twiceP [] ask = false from by have := HK.out.2; rwa [HLA.out, List.take_length] at this); have HR3 := H_ (HR2.out.trans (by rw [HTW.out, Bool.false_or])); go_wp2_with fail; have HB4 := H_ HK.out.1.drew; have HSv : (fun Y : World => Y.cell? ⟨w.heap.size, 0, none⟩ = some (.slice sa la ca) /\ Y.cell? ⟨w.heap.size, 1, none⟩ = some (.slice so own.length co) /\ Y.cell? ⟨w.heap.size, 2, none⟩ = some (.slice sp peer.length cp)) wr.drew := HSB.out _ HB4.out; refine wp_region_H (rgH 0 7) (fun Y : World => Y.cell? ⟨w.heap.size, 0, none⟩ = some (.slice sa la ca) /\ Y.cell? ⟨w.heap.size, 1, none⟩ = some (.slice so own.length co) /\ Y.cell? ⟨w.heap.size, 2, none⟩ = some (.slice sp peer.length cp)) (by kernel_rfl) ?_; refine hatH 0 rfl (by rintro W ⟨h0, h1, h2⟩; go_simp; try rfl) HSv ?_; simp only [aZ, aC, aD]; refine hatH 1 rfl (by rintro W ⟨h0, h1, h2⟩; go_simp; try rfl) HSv ?_; simp only [aZ, aC, aD]; refine hatH 3 rfl (by rintro W ⟨h0, h1, h2⟩; go_simp; try rfl) HSv ?_; simp only [aZ, aC, aD]; refine hatH 4 rfl (by rintro W ⟨h0, h1, h2⟩; go_simp; try rfl) HSv ?_; simp only [aZ, aC, aD]; generalize wr.drew = w4 at *; refine wpAnyH_1 2 rfl (by kernel_rfl) ?_; intro K hK; refine step_append_fl rule_row rfl _ _ rfl (.slice none 0 0) 0 [] rfl (BRow.nil _ _ _) so own.length co (rV own) rfl HNO.out.1 (fun ad h => by have h9 := H.out.2.2.2.1.below HB4.out; subst h; exact Rec.flat (by decide) h9) (rV_len _) (rV_one _) (by omega) ?_; intro v5 w5 h5 k5 o5; rw [Nat.zero_add, List.nil_append] at h5; have hb5 : Below w4.heap.size w4 w5 := k5.below (Nat.le_refl _) (fun _ _ h => by cases h); have f5 := fresh_of o5; have HB5 := H_ (HB4.out.trans (hb5.mono HB4.out.size)); have HSv := HSB.out w5 HB5.out; have H5 := H_ (A_ h5 (A_ hb5 f5)); clear h5 k5 o5 hb5 f5; refine hK _ _ (fun _ => HSv) ?_
      try simp only [aZ, aA, aE, aB, aC, aD]
      refine wpAnyH_1 5 rfl (by kernel_rfl) ?_; intro K hK; refine step_append_fl rule_row rfl _ _ rfl v5 own.length (rV own) rfl H5.out.1 sp peer.length cp (rV peer) rfl HNO.out.2 (fun ad h => by have h9 := H.out.2.2.2.2.1.below HB5.out; subst h; exact Rec.flat (by decide) h9) (rV_len _) (rV_one _) (by omega) ?_; intro v6 w6 h6 k6 o6; rw [<- rV_app, <- List.length_append] at h6; have hb6 : Below w4.heap.size w5 w6 := k6.below H5.out.2.1.size (fun q _ h => by have := H5.out.2.2 q h; omega); have HB6 := H_ (HB4.out.trans ((H5.out.2.1.trans hb6).mono HB4.out.size)); have HSv := HSB.out w6 HB6.out; obtain ⟨lr, hlr⟩ : ∃ lr, lr = (own ++ peer).length := ⟨_, rfl⟩; have HLR := H_ hlr; have hlrb : lr <= 2000 := by rw [hlr, List.length_append]; omega
      rw [<- hlr] at h6; have H6 := H_ h6; clear k6 o6 hb6 hlr; obtain ⟨s6, q6, rfl, -, -⟩ := h6.form; clear h6; refine hK _ _ (fun _ => HSv) ?_
      try simp only [aZ, aA, aE, aB, aC, aD]
      refine hatH 6 rfl (by rintro W ⟨h0, h1, h2⟩; go_simp; try rfl) HSv ?_; simp only [aZ, aC, aD]; refine hend 7 ?_; simp only [aF, aG]
      have hro : Rls w6 (fun _ => True) (.slice s6 lr q6) (own ++ peer) := by
       have h9 := H6.out; rw [HLR.out] at h9 ⊢; exact Rec.mono (RRow.rls (B := 0) h9 (by rw [List.length_append]; unfold maxLen; omega)) (fun _ _ => trivial)
      have HRO := H_ hro; clear hro; go_wp2_with fail
      go_loopg [9] lr (fun x i wr => ∃ k : Nat, k <= lr /\ x = lr - k /\ i = .int .i64 k /\ Hid (Below w6.heap.size w6 wr /\ ((own ++ peer).take k).any wrongR = false))
      case atStart => exact ⟨0, by omega, by omega, rfl, Below.refl _ _, rfl⟩
      case round =>
       obtain ⟨k, hk, rfl, rfl, hK⟩ := hrel; have HK := H_ hK.out; clear hK
       by_cases hkl : k < lr
       . have hkx : k < (own ++ peer).length := by have := HLR.out; omega
         obtain ⟨g, off, e1, hg, -, -, -, -, c0, c1, c2, c3, c4⟩ := HRO.out.at k hkx; obtain ⟨rfl⟩ := e1; have HCX := H_ (fun W (hW : Below w6.heap.size w6 W) => A_ ((hW.cell (p := ⟨g, off + k * 5, none⟩) hg).trans c0) (A_ ((hW.cell (p := ⟨g, off + k * 5 + 1, none⟩) hg).trans c1) (A_ ((hW.cell (p := ⟨g, off + k * 5 + 2, none⟩) hg).trans c2) (A_ ((hW.cell (p := ⟨g, off + k * 5 + 3, none⟩) hg).trans c3) ((hW.cell (p := ⟨g, off + k * 5 + 4, none⟩) hg).trans c4)))))
         have HT := H_ (A_ (show ((own ++ peer).take (k + 1)).any wrongR = (((own ++ peer).take k).any wrongR || wrongR (own ++ peer)[k]) from by rw [List.take_succ_eq_append_getElem hkx, List.any_append]; simp)
          (show wrongR (own ++ peer)[k] = true -> (own ++ peer).any wrongR = true from fun h => List.any_eq_true.2 ⟨_, List.getElem_mem hkx, h⟩))
         have hsz := H.out.2.2.2.2.2 _ (List.getElem_mem hkx); have HW := H_ (show wrongR (own ++ peer)[k] = (decide (253 < (own ++ peer)[k].s.size) || !fitsR (own ++ peer)[k] (own ++ peer)[k].s) from rfl); clear c0 c1 c2 c3 c4; generalize (own ++ peer)[k] = r at *; obtain ⟨r1, r2, r3, r4, r5⟩ := r; simp only at HCX hsz HW
         have HFI := H_ (fun W => fits9_any ⟨r1, r2, r3, r4, r5⟩ r5 W hsz); simp only at HFI
         generalize fitsR ⟨r1, r2, r3, r4, r5⟩ r5 = fb at *; generalize hwb : wrongR ⟨r1, r2, r3, r4, r5⟩ = wb at *; have PR : Hid (∀ W, Below w6.heap.size w6 W -> (fun Y : World => Y.cell? ⟨g, off + k * 5, none⟩ = some (.int .i64 r1) /\ Y.cell? ⟨g, off + k * 5 + 1, none⟩ = some (.int .i64 r2) /\ Y.cell? ⟨g, off + k * 5 + 2, none⟩ = some (.int .i64 r3) /\ Y.cell? ⟨g, off + k * 5 + 3, none⟩ = some (.int .i64 r4) /\ Y.cell? ⟨g, off + k * 5 + 4, none⟩ = some (.string r5)) W) := H_ fun W hW => HCX.out W hW; have HSv := PR.out wr.drew HK.out.1.drew; go_wp2_with fail; refine wp_region_H (rgH 0 20) (fun Y : World => Y.cell? ⟨g, off + k * 5, none⟩ = some (.int .i64 r1) /\ Y.cell? ⟨g, off + k * 5 + 1, none⟩ = some (.int .i64 r2) /\ Y.cell? ⟨g, off + k * 5 + 2, none⟩ = some (.int .i64 r3) /\ Y.cell? ⟨g, off + k * 5 + 3, none⟩ = some (.int .i64 r4) /\ Y.cell? ⟨g, off + k * 5 + 4, none⟩ = some (.string r5)) (by kernel_rfl) ?_
         by_cases hlg : 253 < r5.size
         . have d1 : decide ((253 : Int) < (r5.size : Int)) = true := decide_eq_true (by omega); have HWB := H_ (show wb = true from by rw [HW.out, decide_eq_true hlg]; rfl); clear hlg; refine hatH 0 rfl (by rintro W ⟨h0, h1, h2, h3, h4⟩; go_simp; try rfl) HSv ?_; simp only [aZ, aC, aD]; refine hatH 1 rfl (by rintro W ⟨h0, h1, h2, h3, h4⟩; go_simp; try rfl) HSv ?_; simp only [aZ, aC, aD]; refine hatH 2 rfl (by rintro W ⟨h0, h1, h2, h3, h4⟩; go_simp; try rfl) HSv ?_; simp only [aZ, aC, aD]; refine hatH 3 rfl (by rintro W ⟨h0, h1, h2, h3, h4⟩; go_simp; try rfl) HSv ?_; simp only [aZ, aC, aD]; refine hatH 4 rfl (by rintro W ⟨h0, h1, h2, h3, h4⟩; go_simp; try rfl) HSv ?_; simp only [aZ, aC, aD]; refine hatH 5 rfl (by rintro W ⟨h0, h1, h2, h3, h4⟩; go_simp; try rfl) HSv ?_; simp only [aZ, aC, aD]; refine hatH 6 rfl (by rintro W ⟨h0, h1, h2, h3, h4⟩; go_simp; try rfl) HSv ?_; simp only [aZ, aC, aD]; refine hatH 7 rfl (by rintro W ⟨h0, h1, h2, h3, h4⟩; go_simp; try rfl) HSv ?_; simp only [aZ, aC, aD]; refine hskp 8 rfl HSv ?_; simp only [aZ, aA, aE, aB, aC, aD]; refine hskp 9 rfl HSv ?_; simp only [aZ, aA, aE, aB, aC, aD]; refine hskp 10 rfl HSv ?_; simp only [aZ, aA, aE, aB, aC, aD]; refine hskp 11 rfl HSv ?_; simp only [aZ, aA, aE, aB, aC, aD]; refine hskp 12 rfl HSv ?_; simp only [aZ, aA, aE, aB, aC, aD]; refine hskp 13 rfl HSv ?_; simp only [aZ, aA, aE, aB, aC, aD]; refine hskp 14 rfl HSv ?_; simp only [aZ, aA, aE, aB, aC, aD]; refine hskp 15 rfl HSv ?_; simp only [aZ, aA, aE, aB, aC, aD]; refine hskp 16 rfl HSv ?_; simp only [aZ, aA, aE, aB, aC, aD]; refine hskp 17 rfl HSv ?_; simp only [aZ, aA, aE, aB, aC, aD]; refine hskp 18 rfl HSv ?_; simp only [aZ, aA, aE, aB, aC, aD]; refine hatH 19 rfl (by rintro W ⟨h0, h1, h2, h3, h4⟩; go_simp; try rfl) HSv ?_; simp only [aZ, aC, aD]; refine hend 20 ?_; simp only [aF, aG]; have HR4 := H_ (HR3.out.trans (if_pos (HT.out.2 HWB.out))); go_wp2_with fail; go_ret; exact ⟨by rw [HR4.out]; rfl, H.out.1.trans ((HB6.out.trans (HK.out.1.drew.mono HB6.out.size)).mono (by omega))⟩
         . have d1 : decide ((253 : Int) < (r5.size : Int)) = false := decide_eq_false (by omega); have HWB := H_ (show wb = !fb from by rw [HW.out, decide_eq_false hlg, Bool.false_or]); clear hlg; refine hatH 0 rfl (by rintro W ⟨h0, h1, h2, h3, h4⟩; go_simp; try rfl) HSv ?_; simp only [aZ, aC, aD]; refine hatH 1 rfl (by rintro W ⟨h0, h1, h2, h3, h4⟩; go_simp; try rfl) HSv ?_; simp only [aZ, aC, aD]; refine hatH 2 rfl (by rintro W ⟨h0, h1, h2, h3, h4⟩; go_simp; try rfl) HSv ?_; simp only [aZ, aC, aD]; refine hatH 3 rfl (by rintro W ⟨h0, h1, h2, h3, h4⟩; go_simp; try rfl) HSv ?_; simp only [aZ, aC, aD]; refine hatH 4 rfl (by rintro W ⟨h0, h1, h2, h3, h4⟩; go_simp; try rfl) HSv ?_; simp only [aZ, aC, aD]; refine hatH 5 rfl (by rintro W ⟨h0, h1, h2, h3, h4⟩; go_simp; try rfl) HSv ?_; simp only [aZ, aC, aD]; refine hatH 6 rfl (by rintro W ⟨h0, h1, h2, h3, h4⟩; go_simp; try rfl) HSv ?_; simp only [aZ, aC, aD]; refine hatH 7 rfl (by rintro W ⟨h0, h1, h2, h3, h4⟩; go_simp; try rfl) HSv ?_; simp only [aZ, aC, aD]; refine hatH 8 rfl (by rintro W ⟨h0, h1, h2, h3, h4⟩; go_simp; try rfl) HSv ?_; simp only [aZ, aC, aD]; refine hatH 9 rfl (by rintro W ⟨h0, h1, h2, h3, h4⟩; go_simp; try rfl) HSv ?_; simp only [aZ, aC, aD]; refine hatH 10 rfl (by rintro W ⟨h0, h1, h2, h3, h4⟩; go_simp; try rfl) HSv ?_; simp only [aZ, aC, aD]; refine hatH 11 rfl (by rintro W ⟨h0, h1, h2, h3, h4⟩; go_simp; try rfl) HSv ?_; simp only [aZ, aC, aD]; refine hatH 12 rfl (by rintro W ⟨h0, h1, h2, h3, h4⟩; go_simp; try rfl) HSv ?_; simp only [aZ, aC, aD]; refine hatH 13 rfl (by rintro W ⟨h0, h1, h2, h3, h4⟩; go_simp; try rfl) HSv ?_; simp only [aZ, aC, aD]; refine hatH 14 rfl (by rintro W ⟨h0, h1, h2, h3, h4⟩; go_simp; try rfl) HSv ?_; simp only [aZ, aC, aD]; refine hatH 15 rfl (by rintro W ⟨h0, h1, h2, h3, h4⟩; go_simp; try rfl) HSv ?_; simp only [aZ, aC, aD]; refine hatH 16 rfl (by rintro W ⟨h0, h1, h2, h3, h4⟩; go_simp; try rfl) HSv ?_; simp only [aZ, aC, aD]; refine hone 17 rfl fun K hK => ?_
           try go_simp
           go_at_call 32; refine (HFI.out _).mono ?_; rintro e w7 ⟨rfl, hb7⟩; have HB7 := H_ (HK.out.1.drew.trans (hb7.mono HK.out.1.size)); have HSv := PR.out w7 HB7.out; clear hb7; refine hK _ _ (fun _ => HSv) ?_
           try simp only [aZ, aA, aE, aB, aC, aD]
           refine hatH 18 rfl (by rintro W ⟨h0, h1, h2, h3, h4⟩; go_simp; try rfl) HSv ?_; simp only [aZ, aC, aD]; refine hatH 19 rfl (by rintro W ⟨h0, h1, h2, h3, h4⟩; go_simp; try rfl) HSv ?_; simp only [aZ, aC, aD]; refine hend 20 ?_; simp only [aF, aG]
           cases fb with
           | true =>
            go_wp2_with fail
            go_roundg (lr - (k + 1))
            case measure => omega
            case rel => exact ⟨k + 1, by omega, rfl, by go_num, HB7.out, by rw [HT.out.1, HK.out.2, HWB.out]; rfl⟩
           | false =>
            have HR4 := H_ (HR3.out.trans (if_pos (HT.out.2 HWB.out))); go_wp2_with fail; go_ret; exact ⟨by rw [HR4.out]; rfl, H.out.1.trans ((HB6.out.trans (HB7.out.mono HB6.out.size)).mono (by omega))⟩
       . obtain rfl : lr = k := by omega
         have HR4 := H_ (HR3.out.trans (if_neg (by have := HK.out.2; rw [HLR.out, List.take_length] at this; rw [this]; decide))); go_wp2_with fail; go_ret; exact ⟨by rw [HR4.out]; rfl, H.out.1.trans ((HB6.out.trans (HK.out.1.mono HB6.out.size)).mono (by omega))⟩
 . have HR2 := H_ (HR.out.trans (if_pos hpe)); have q : (putE ask != 0) = true := by simpa using hpe
   generalize putE ask = pe at *; clear hpe; go_wp2_with fail; go_ret; exact ⟨by rw [HR2.out]; rfl, H.out.1.trans (HB2.out.mono (by omega))⟩
end
theorem nV_iV : ∀ (l : List Int), nV l = iV l
 | [] => rfl
 | x :: l => by
  have := nV_iV l; unfold nV iV intL at this ⊢; simp only [List.map_cons, List.flatten_cons, this]; rfl
set_option maxRecDepth 100000 in
theorem check9_any (ask : List Opt) (own peer : List Rl) (must : List Int) (av ov pv mv : Value) (ok : Nat -> Prop) (cf tm fl wt : Int) (w : World) (ha : Opts w ok av ask) (ho : Rls w ok ov own) (hp : Rls w ok pv peer) (hm : Nums w ok mv must)
 (na : ∀ n c, av = .slice none n c -> c = 0) (no : ∀ n c, ov = .slice none n c -> c = 0) (np : ∀ n c, pv = .slice none n c -> c = 0) (nm : ∀ n c, mv = .slice none n c -> c = 0) (lo : own.length <= 1000) (lp : peer.length <= 1000) (lm : must.length <= 1000) (hal : ask.length <= 1000)
 (hav : ∀ o ∈ ask, o.v.size <= 100000) (hrs : ∀ r ∈ own ++ peer, r.s.size <= 100000) :
 Calls Tryz.prog 157 #[.agg #[av, ov, pv, mv, .int .i64 cf, .int .i64 tm, .int .i64 fl, .int .i64 wt]] w fun e w' => e = .returned (.int .i64 (checkE ask own peer cf tm fl wt)) /\ Below w.heap.size w w' := by
 obtain ⟨sa, ca, rfl, -, -⟩ := ha.form; obtain ⟨so, co, rfl, -, -⟩ := ho.form; obtain ⟨sp, cp, rfl, -, -⟩ := hp.form; obtain ⟨sm, cm, rfl, -, -⟩ := hm.form
 have hB : numBad cf tm fl wt -> (Calls Tryz.prog 157 #[.agg #[.slice sa ask.length ca, .slice so own.length co, .slice sp peer.length cp, .slice sm must.length cm, .int .i64 cf, .int .i64 tm, .int .i64 fl, .int .i64 wt]] w fun e w' => e = .returned (.int .i64 1) /\ Below w.heap.size w w') -> Calls Tryz.prog 157 #[.agg #[.slice sa ask.length ca, .slice so own.length co, .slice sp peer.length cp, .slice sm must.length cm, .int .i64 cf, .int .i64 tm, .int .i64 fl, .int .i64 wt]] w fun e w' => e = .returned (.int .i64 (checkE ask own peer cf tm fl wt)) /\ Below w.heap.size w w' := fun h hc => by
  unfold checkE; rw [if_pos h]; exact hc
 have nb : ∀ {n : Int}, n < 1 \/ 20 < n -> inB20 n = false := fun {n} h => by
  cases hq : inB20 n with
  | false => rfl
  | true => have := inB20_true.1 hq; omega
 by_cases c0 : cf < 1
 . exact hB (.inl (nb (.inl c0))) (check9_b0  c0)
 by_cases c1 : 20 < cf
 . exact hB (.inl (nb (.inr c1))) (check9_b1 c0 c1)
 by_cases c2 : tm < 1
 . exact hB (.inr (.inl (nb (.inl c2)))) (check9_b2 c0 c1 c2)
 by_cases c3 : 20 < tm
 . exact hB (.inr (.inl (nb (.inr c3)))) (check9_b3 c0 c1 c2 c3)
 by_cases c4 : fl < 0
 . exact hB (.inr (.inr (.inl c4))) (check9_b4 c0 c1 c2 c3 c4)
 by_cases c5 : 20 < fl
 . exact hB (.inr (.inr (.inr (.inl c5)))) (check9_b5 c0 c1 c2 c3 c4 c5)
 by_cases c6 : wt < 1
 . exact hB (.inr (.inr (.inr (.inr (.inl c6))))) (check9_b6 c0 c1 c2 c3 c4 c5 c6)
 by_cases c7 : 100 < wt
 . exact hB (.inr (.inr (.inr (.inr (.inr c7))))) (check9_b7 c0 c1 c2 c3 c4 c5 c6 c7)
 have hnb : ¬ numBad cf tm fl wt := fun h => by
  unfold numBad at h
  rcases h with h | h | h
  . rw [inB20_true.2 (by omega)] at h; cases h
  . rw [inB20_true.2 (by omega)] at h; cases h
  . omega
 unfold checkE; rw [if_neg hnb]; exact check9_rest c0 c1 c2 c3 c4 c5 c6 c7 ha ho hp no np lo lp hal hav hrs
set_option maxRecDepth 100000 in
theorem new9_err (ask : List Opt) (own peer : List Rl) (must : List Int) (av ov pv mv : Value) (ok : Nat -> Prop) (cf tm fl wt : Int) (w : World) (ha : Opts w ok av ask) (ho : Rls w ok ov own) (hp : Rls w ok pv peer) (hm : Nums w ok mv must)
 (na : ∀ n c, av = .slice none n c -> c = 0) (no : ∀ n c, ov = .slice none n c -> c = 0) (np : ∀ n c, pv = .slice none n c -> c = 0) (nm : ∀ n c, mv = .slice none n c -> c = 0) (lo : own.length <= 1000) (lp : peer.length <= 1000) (lm : must.length <= 1000) (hal : ask.length <= 1000)
 (hav : ∀ o ∈ ask, o.v.size <= 100000) (hrs : ∀ r ∈ own ++ peer, r.s.size <= 100000) (he : checkE ask own peer cf tm fl wt ≠ 0) :
 Calls Tryz.prog 40 #[.agg #[av, ov, pv, mv, .int .i64 cf, .int .i64 tm, .int .i64 fl, .int .i64 wt]] w fun e w' => e = .returned (.tuple #[.pointer none, .int .i64 (checkE ask own peer cf tm fl wt)]) /\ Below w.heap.size w w' := by
 obtain ⟨sa, ca, rfl, -, -⟩ := ha.form; obtain ⟨so, co, rfl, -, -⟩ := ho.form; obtain ⟨sp, cp, rfl, -, -⟩ := hp.form; obtain ⟨sm, cm, rfl, -, -⟩ := hm.form; have hb1 := b1 w (.cells #[.slice sa ask.length ca, .slice so own.length co, .slice sp peer.length cp, .slice sm must.length cm, .int .i64 cf, .int .i64 tm, .int .i64 fl, .int .i64 wt] 88 (0, 0)); have HC := H_ (check9_any ask own peer must _ _ _ _ ok cf tm fl wt _ (ha.below hb1) (ho.below hb1) (hp.below hb1) (hm.below hb1) na no np nm lo lp lm hal hav hrs); have HB := H_ hb1; have q : (checkE ask own peer cf tm fl wt != 0) = true := by simpa using he
 generalize checkE ask own peer cf tm fl wt = R at *; clear ha ho hp hm na no np nm hav hrs he hb1; go_enter Tryz.func40, Tryz.ntmps40; go_wp2_with fail; refine HC.out.mono ?_; rintro e w2 ⟨rfl, hb2⟩; have HB2 := H_ (HB.out.trans (hb2.mono HB.out.size)); clear hb2; go_wp2_with fail; go_ret2; exact ⟨rfl, HB2.out⟩
set_option maxRecDepth 100000 in
theorem new9_ok (ask : List Opt) (own peer : List Rl) (must : List Int) (av ov pv mv : Value) (ok : Nat -> Prop) (cf tm fl wt : Int) (w : World) (ha : Opts w ok av ask) (ho : Rls w ok ov own) (hp : Rls w ok pv peer) (hm : Nums w ok mv must)
 (na : ∀ n c, av = .slice none n c -> c = 0) (no : ∀ n c, ov = .slice none n c -> c = 0) (np : ∀ n c, pv = .slice none n c -> c = 0) (nm : ∀ n c, mv = .slice none n c -> c = 0) (lo : own.length <= 1000) (lp : peer.length <= 1000) (lm : must.length <= 1000) (hal : ask.length <= 1000)
 (hav : ∀ o ∈ ask, o.v.size <= 100000) (hrs : ∀ r ∈ own ++ peer, r.s.size <= 100000) (C : NegC) (hC : C.own = own /\ C.peer = peer /\ C.must = must /\ C.cf = cf /\ C.tm = tm /\ C.fl = fl /\ C.wt = wt) (hok : C.Ok) (hap : Apart ask) (hal3 : ask.length <= 30) (he : checkE ask own peer cf tm fl wt = 0) :
 Calls Tryz.prog 40 #[.agg #[av, ov, pv, mv, .int .i64 cf, .int .i64 tm, .int .i64 fl, .int .i64 wt]] w fun e w' => ∃ b, e = .returned (.tuple #[.pointer (some ⟨b, 0, none⟩), .int .i64 0]) /\ RNV w' (fun g => w.heap.size <= g) b C (st0 ask) /\ Below w.heap.size w w' := by
 obtain ⟨sa, ca, rfl, hca, -⟩ := ha.form; obtain ⟨so, co, rfl, hco, -⟩ := ho.form; obtain ⟨sp, cp, rfl, hcp, -⟩ := hp.form; obtain ⟨sm, cm, rfl, hcm, -⟩ := hm.form; have hb1 := b1 w (.cells #[.slice sa ask.length ca, .slice so own.length co, .slice sp peer.length cp, .slice sm must.length cm, .int .i64 cf, .int .i64 tm, .int .i64 fl, .int .i64 wt] 88 (0, 0)); have hz1 := heap_alloc_new w (.cells #[.slice sa ask.length ca, .slice so own.length co, .slice sp peer.length cp, .slice sm must.length cm, .int .i64 cf, .int .i64 tm, .int .i64 fl, .int .i64 wt] 88 (0, 0)); have hs1 : (w.alloc (.cells #[.slice sa ask.length ca, .slice so own.length co, .slice sp peer.length cp, .slice sm must.length cm, .int .i64 cf, .int .i64 tm, .int .i64 fl, .int .i64 wt] 88 (0, 0))).heap.size = w.heap.size + 1 := alloc1 _ _; have HC := H_ (check9_any ask own peer must _ _ _ _ ok cf tm fl wt _ (ha.below hb1) (ho.below hb1) (hp.below hb1) (hm.below hb1) na no np nm lo lp lm hal hav hrs); rw [he] at HC
 have HN := H_ (A_ (show sa = none -> ask.length = 0 /\ ca = 0 from fun e => by subst e; have := na _ _ rfl; omega) (A_ (show so = none -> own.length = 0 /\ co = 0 from fun e => by subst e; have := no _ _ rfl; omega)
  (A_ (show sp = none -> peer.length = 0 /\ cp = 0 from fun e => by subst e; have := np _ _ rfl; omega) (show sm = none -> must.length = 0 /\ cm = 0 from fun e => by subst e; have := nm _ _ rfl; omega))))
 have HF : Hid (∀ W, Below w.heap.size w W -> (∀ ad, sa = some ad -> ∀ j u, (oV ask)[j]? = some u -> W.cell? (ad.add j) = some u) /\ (∀ ad, so = some ad -> ∀ j u, (rV own)[j]? = some u -> W.cell? (ad.add j) = some u) /\ (∀ ad, sp = some ad -> ∀ j u, (rV peer)[j]? = some u -> W.cell? (ad.add j) = some u) /\ (∀ ad, sm = some ad -> ∀ j u, (nV must)[j]? = some u -> W.cell? (ad.add j) = some u)) := H_ fun W hW =>
  ⟨fun ad h => by have h9 := ha.below hW; subst h; exact Rec.flat (by decide) h9, fun ad h => by have h9 := ho.below hW; subst h; exact Rec.flat (by decide) h9, fun ad h => by have h9 := hp.below hW; subst h; exact Rec.flat (by decide) h9, fun ad h => by have h9 := hm.below hW; subst h; exact Rec.flat (by decide) h9⟩
 have H := H_ (A_ hb1 (A_ hz1 (A_ hC (A_ hok hap)))); clear ha ho hp hm na no np nm hav hrs he hb1 hz1 hC hok hap; go_enter Tryz.func40, Tryz.ntmps40; go_wp2_with fail; generalize w.alloc (.cells #[.slice sa ask.length ca, .slice so own.length co, .slice sp peer.length cp, .slice sm must.length cm, .int .i64 cf, .int .i64 tm, .int .i64 fl, .int .i64 wt] 88 (0, 0)) = w1 at *; refine HC.out.mono ?_; rintro e w2 ⟨rfl, hb2⟩; have HB2 := H_ (H.out.1.trans (hb2.mono (by omega))); have HZ2 := H_ ((hb2.block w.heap.size (by omega)).trans H.out.2.1); have hs2 := hb2.size; clear hb2; go_wp2_with fail; have hz := HZ2.out; have HZ3 : Hid (∀ W, Below w2.heap.size w2 W -> W.heap[w.heap.size]? = some (.cells #[.slice sa ask.length ca, .slice so own.length co, .slice sp peer.length cp, .slice sm must.length cm, .int .i64 cf, .int .i64 tm, .int .i64 fl, .int .i64 wt] 88 (0, 0))) := H_ fun W hW => (hW.block w.heap.size (by omega)).trans HZ2.out; have HSB : Hid (∀ W, Below w2.heap.size w2 W -> (fun Y : World => Y.cell? ⟨w.heap.size, 0, none⟩ = some (.slice sa ask.length ca) /\ Y.cell? ⟨w.heap.size, 3, none⟩ = some (.slice sm must.length cm)) W) := H_ fun W hW => ⟨cellOf (HZ3.out W hW) 0 _ rfl, cellOf (HZ3.out W hW) 3 _ rfl⟩; have HSv : (fun Y : World => Y.cell? ⟨w.heap.size, 0, none⟩ = some (.slice sa ask.length ca) /\ Y.cell? ⟨w.heap.size, 3, none⟩ = some (.slice sm must.length cm)) w2.drew := HSB.out _ (Below.refl _ _).drew; refine wp_region_H (rgH 0 7) (fun Y : World => Y.cell? ⟨w.heap.size, 0, none⟩ = some (.slice sa ask.length ca) /\ Y.cell? ⟨w.heap.size, 3, none⟩ = some (.slice sm must.length cm)) (by kernel_rfl) ?_; have HB3 := H_ (show Below w2.heap.size w2 w2.drew from (Below.refl _ _).drew); generalize w2.drew = w3 at *; refine hatH 0 rfl (by rintro W ⟨h0, h1⟩; go_simp; try rfl) HSv ?_; simp only [aZ, aC, aD]; refine hatH 1 rfl (by rintro W ⟨h0, h1⟩; go_simp; try rfl) HSv ?_; simp only [aZ, aC, aD]; refine hatH 3 rfl (by rintro W ⟨h0, h1⟩; go_simp; try rfl) HSv ?_; simp only [aZ, aC, aD]; refine hatH 4 rfl (by rintro W ⟨h0, h1⟩; go_simp; try rfl) HSv ?_; simp only [aZ, aC, aD]; refine wpAnyH_1 2 rfl (by kernel_rfl) ?_; intro K hK; refine step_append_fl opt_row rfl _ _ rfl (.slice none 0 0) 0 [] rfl (BRow.nil _ _ _) sa ask.length ca (oV ask) rfl HN.out.1 (HF.out _ (HB2.out.trans (HB3.out.mono HB2.out.size))).1 (oV_len _) (oV_one _) (by omega) ?_; intro v4 w4 h4 k4 o4; rw [Nat.zero_add, List.nil_append] at h4; have f4 := fresh_of o4; have HB4 := H_ (HB3.out.trans (k4.below HB3.out.size (fun _ _ h => by cases h))); obtain ⟨s4, q4, rfl, -, -⟩ := h4.form; have HR4 := H_ (A_ h4 f4); have HSv := HSB.out w4 HB4.out; have hs3 := HB3.out.size; have hs4 := HB4.out.size; clear h4 k4 o4 f4; refine hK _ _ (fun _ => HSv) ?_
 try simp only [aZ, aA, aE, aB, aC, aD]
 refine hatH 6 rfl (by rintro W ⟨h0, h1⟩; go_simp; try rfl) HSv ?_; simp only [aZ, aC, aD]; refine wpAnyH_1 5 rfl (by kernel_rfl) ?_; intro K hK; refine step_append_fl int_row rfl _ _ rfl (.slice none 0 0) 0 [] rfl (BRow.nil _ _ _) sm must.length cm (nV must) rfl HN.out.2.2.2 (HF.out _ (HB2.out.trans (HB4.out.mono HB2.out.size))).2.2.2 (nV_len _) (nV_one _) (by omega) ?_; intro v5 w5 h5 k5 o5; rw [Nat.zero_add, List.nil_append, nV_iV] at h5; have f5 := fresh_of o5; have hb5 : Below w4.heap.size w4 w5 := k5.below (Nat.le_refl _) (fun _ _ h => by cases h); have HB5 := H_ (HB4.out.trans (hb5.mono HB4.out.size)); obtain ⟨s5, q5, rfl, -, -⟩ := h5.form; have HR5 := H_ (A_ h5 (A_ f5 (HR4.out.1.below hb5))); have HSv := HSB.out w5 HB5.out; have hs5 := hb5.size; have hz5 := HZ3.out w5 HB5.out; have HZ5 := H_ hz5; have f50 := fun o => frozen_of_block hz5 o; clear h5 k5 o5 f5 hb5; refine hK _ _ (fun _ => HSv) ?_
 try simp only [aZ, aA, aE, aB, aC, aD]
 refine hend 7 ?_; simp only [aF, aG]; obtain ⟨x0, x3⟩ := HSv; have K6 := H_ (((Keep.refl (· = w.heap.size) w5).setCell ⟨w.heap.size, 0, none⟩ (Or.inr rfl) (.slice s4 ask.length q4)).setCell ⟨w.heap.size, 3, none⟩ (Or.inr rfl) (.slice s5 must.length q5))
 have hz6 : ((w5.setCell ⟨w.heap.size, 0, none⟩ (.slice s4 ask.length q4)).setCell ⟨w.heap.size, 3, none⟩ (.slice s5 must.length q5)).heap[w.heap.size]? = some (.cells #[.slice s4 ask.length q4, .slice so own.length co, .slice sp peer.length cp, .slice s5 must.length q5, .int .i64 cf, .int .i64 tm, .int .i64 fl, .int .i64 wt] 88 (0, 0)) := by
  have := set_block (set_block hz5 0 (.slice s4 ask.length q4)) 3 (.slice s5 must.length q5); simpa using this
 have f60 := fun o => frozen_of_block (set_block hz5 0 (.slice s4 ask.length q4)) o
 have x30 : (w5.setCell ⟨w.heap.size, 0, none⟩ (.slice s4 ask.length q4)).cell? ⟨w.heap.size, 3, none⟩ = some (.slice sm must.length cm) := by
  have := set_block hz5 0 (.slice s4 ask.length q4); exact cellOf this 3 _ (by simp)
 go_wp2_with fail; have hbw5 : Below w.heap.size w w5 := HB2.out.trans (HB5.out.mono (by omega)); have HW6 := H_ (hbw5.trans (K6.out.below hbw5.size (fun g hg he => by have he : g = w.heap.size := he; omega))); have HR6 := H_ (A_ (HR5.out.2.2.keep K6.out (fun g hg he => by have := HR4.out.2 g hg; have he : g = w.heap.size := he; omega)) (HR5.out.1.keep K6.out (fun g hg he => by have := HR5.out.2.1 g hg; have he : g = w.heap.size := he; omega))); have hs6 := K6.out.size; have HZ6 := H_ hz6; clear x0 x3 hz5 hz6 f50 f60 x30 hbw5 K6; generalize (w5.setCell ⟨w.heap.size, 0, none⟩ (.slice s4 ask.length q4)).setCell ⟨w.heap.size, 3, none⟩ (.slice s5 must.length q5) = w6 at *; have HZ7 : Hid (∀ W, Below w6.heap.size w6 W -> W.heap[w.heap.size]? = some (.cells #[.slice s4 ask.length q4, .slice so own.length co, .slice sp peer.length cp, .slice s5 must.length q5, .int .i64 cf, .int .i64 tm, .int .i64 fl, .int .i64 wt] 88 (0, 0))) := H_ fun W hW => (hW.block w.heap.size (by omega)).trans HZ6.out; have HSB : Hid (∀ W, Below w6.heap.size w6 W -> (fun Y : World => Y.cell? ⟨w.heap.size, 1, none⟩ = some (.slice so own.length co) /\ Y.cell? ⟨w.heap.size, 2, none⟩ = some (.slice sp peer.length cp)) W) := H_ fun W hW => ⟨cellOf (HZ7.out W hW) 1 _ rfl, cellOf (HZ7.out W hW) 2 _ rfl⟩; have HSv : (fun Y : World => Y.cell? ⟨w.heap.size, 1, none⟩ = some (.slice so own.length co) /\ Y.cell? ⟨w.heap.size, 2, none⟩ = some (.slice sp peer.length cp)) w6.drew := HSB.out _ (Below.refl _ _).drew; refine wp_region_H (rgH 0 7) (fun Y : World => Y.cell? ⟨w.heap.size, 1, none⟩ = some (.slice so own.length co) /\ Y.cell? ⟨w.heap.size, 2, none⟩ = some (.slice sp peer.length cp)) (by kernel_rfl) ?_; have HB7 := H_ (show Below w6.heap.size w6 w6.drew from (Below.refl _ _).drew); generalize w6.drew = w7 at *; refine hatH 0 rfl (by rintro W ⟨h0, h1⟩; go_simp; try rfl) HSv ?_; simp only [aZ, aC, aD]; refine hatH 1 rfl (by rintro W ⟨h0, h1⟩; go_simp; try rfl) HSv ?_; simp only [aZ, aC, aD]; refine hatH 3 rfl (by rintro W ⟨h0, h1⟩; go_simp; try rfl) HSv ?_; simp only [aZ, aC, aD]; refine hatH 4 rfl (by rintro W ⟨h0, h1⟩; go_simp; try rfl) HSv ?_; simp only [aZ, aC, aD]; refine wpAnyH_1 2 rfl (by kernel_rfl) ?_; intro K hK; refine step_append_fl rule_row rfl _ _ rfl (.slice none 0 0) 0 [] rfl (BRow.nil _ _ _) so own.length co (rV own) rfl HN.out.2.1 (HF.out _ (HW6.out.trans (HB7.out.mono (by omega)))).2.1 (rV_len _) (rV_one _) (by omega) ?_; intro v8 w8 h8 k8 o8; rw [Nat.zero_add, List.nil_append] at h8; have f8 := fresh_of o8; have HB8 := H_ (HB7.out.trans (k8.below HB7.out.size (fun _ _ h => by cases h))); obtain ⟨s8, q8, rfl, -, -⟩ := h8.form; have HR8 := H_ (A_ h8 f8); have HSv := HSB.out w8 HB8.out; have hs7 := HB7.out.size; have hs8 := HB8.out.size; clear h8 k8 o8 f8; refine hK _ _ (fun _ => HSv) ?_
 try simp only [aZ, aA, aE, aB, aC, aD]
 refine hatH 6 rfl (by rintro W ⟨h0, h1⟩; go_simp; try rfl) HSv ?_; simp only [aZ, aC, aD]; refine wpAnyH_1 5 rfl (by kernel_rfl) ?_; intro K hK; refine step_append_fl rule_row rfl _ _ rfl (.slice none 0 0) 0 [] rfl (BRow.nil _ _ _) sp peer.length cp (rV peer) rfl HN.out.2.2.1 (HF.out _ (HW6.out.trans (HB8.out.mono (by omega)))).2.2.1 (rV_len _) (rV_one _) (by omega) ?_; intro v9 w9 h9 k9 o9; rw [Nat.zero_add, List.nil_append] at h9; have f9 := fresh_of o9; have hb9 : Below w8.heap.size w8 w9 := k9.below (Nat.le_refl _) (fun _ _ h => by cases h); have HB9 := H_ (HB8.out.trans (hb9.mono HB8.out.size)); obtain ⟨s9, q9, rfl, -, -⟩ := h9.form; have HR9 := H_ (A_ h9 (A_ f9 (HR8.out.1.below hb9))); have HSv := HSB.out w9 HB9.out; have hs9 := hb9.size; have hz9 := HZ7.out w9 HB9.out; have f90 := fun o => frozen_of_block hz9 o; clear h9 k9 o9 f9 hb9; refine hK _ _ (fun _ => HSv) ?_
 try simp only [aZ, aA, aE, aB, aC, aD]
 refine hend 7 ?_; simp only [aF, aG]; obtain ⟨x1, x2⟩ := HSv; have KA := H_ (((Keep.refl (· = w.heap.size) w9).setCell ⟨w.heap.size, 1, none⟩ (Or.inr rfl) (.slice s8 own.length q8)).setCell ⟨w.heap.size, 2, none⟩ (Or.inr rfl) (.slice s9 peer.length q9))
 have hzA : ((w9.setCell ⟨w.heap.size, 1, none⟩ (.slice s8 own.length q8)).setCell ⟨w.heap.size, 2, none⟩ (.slice s9 peer.length q9)).heap[w.heap.size]? = some (.cells #[.slice s4 ask.length q4, .slice s8 own.length q8, .slice s9 peer.length q9, .slice s5 must.length q5, .int .i64 cf, .int .i64 tm, .int .i64 fl, .int .i64 wt] 88 (0, 0)) := by
  have := set_block (set_block hz9 1 (.slice s8 own.length q8)) 2 (.slice s9 peer.length q9); simpa using this
 have f91 := fun o => frozen_of_block (set_block hz9 1 (.slice s8 own.length q8)) o
 have x20 : (w9.setCell ⟨w.heap.size, 1, none⟩ (.slice s8 own.length q8)).cell? ⟨w.heap.size, 2, none⟩ = some (.slice sp peer.length cp) := by
  have := set_block hz9 1 (.slice s8 own.length q8); exact cellOf this 2 _ (by simp)
 have y0 := cellOf hzA 0 _ rfl; have y1 := cellOf hzA 1 _ rfl; have y2 := cellOf hzA 2 _ rfl; have y3 := cellOf hzA 3 _ rfl; have y4 := cellOf hzA 4 _ rfl; have y5 := cellOf hzA 5 _ rfl; have y6 := cellOf hzA 6 _ rfl; have y7 := cellOf hzA 7 _ rfl; go_wp2_with fail; have hbw9 : Below w.heap.size w w9 := HW6.out.trans (HB9.out.mono (by omega)); have hWA : Below w.heap.size w ((w9.setCell ⟨w.heap.size, 1, none⟩ (.slice s8 own.length q8)).setCell ⟨w.heap.size, 2, none⟩ (.slice s9 peer.length q9)) := hbw9.trans (KA.out.below hbw9.size (fun g hg he => by have he : g = w.heap.size := he; omega)); have hne : ∀ g, w6.heap.size <= g -> ¬ g = w.heap.size := fun g hg he => by omega
 have rA := (HR6.out.1.below HB9.out).keep KA.out (fun g hg he => by have := HR4.out.2 g hg; have he : g = w.heap.size := he; omega); have rM := (HR6.out.2.below HB9.out).keep KA.out (fun g hg he => by have := HR5.out.2.1 g hg; have he : g = w.heap.size := he; omega); have rO := HR9.out.2.2.keep KA.out (fun g hg he => by have := HR8.out.2 g hg; have he : g = w.heap.size := he; omega); have rP := HR9.out.1.keep KA.out (fun g hg he => by have := HR9.out.2.1 g hg; have he : g = w.heap.size := he; omega); have hsA := KA.out.size; have hszA : ((w9.setCell ⟨w.heap.size, 1, none⟩ (.slice s8 own.length q8)).setCell ⟨w.heap.size, 2, none⟩ (.slice s9 peer.length q9)).heap.size = w9.heap.size := by simp [World.setCell]
 generalize (w9.setCell ⟨w.heap.size, 1, none⟩ (.slice s8 own.length q8)).setCell ⟨w.heap.size, 2, none⟩ (.slice s9 peer.length q9) = wA at *; go_ret2; obtain ⟨c1, c2, c3, c4, c5, c6, c7⟩ := H.out.2.2.1; subst c1 c2 c3 c4 c5 c6 c7; have hbF : Below wA.heap.size wA (wA.alloc (.cells #[.slice s4 ask.length q4, .slice s8 C.own.length q8, .slice s9 C.peer.length q9, .slice s5 C.must.length q5, .int .i64 C.cf, .int .i64 C.tm, .int .i64 C.fl, .int .i64 C.wt, .int .i64 C.cf, .int .i64 C.tm, .int .i64 0, .int .i64 0, .slice s4 ask.length q4, .int .i64 0, .int .i64 0, .int .i64 0, .int .i64 0, .slice none 0 0, .slice none 0 0, .int .i64 0, .int .i64 0, .pointer none] 108 (0, 0))) := b1 wA _; refine ⟨w9.heap.size, rfl, ⟨⟨.slice s4 ask.length q4, .slice s8 C.own.length q8, .slice s9 C.peer.length q9, .slice s5 C.must.length q5, .slice s4 ask.length q4, .slice none 0 0, .slice none 0 0⟩, ?_⟩, hWA.trans (hbF.mono hWA.size)⟩
 exact {
  blk := cell_of_at wA _ _ hszA.symm
  own := rO.below hbF
  peer := rP.below hbF
  must := rM.below hbF
  ask := rA.below hbF
  mine := BRow.nil _ _ _
  theirs := BRow.nil _ _ _
  bk := fun g hg => by
   rcases hg with hg | hg | hg | hg | hg | hg
   . have h1 := HR8.out.2 g hg; have h2 := rO.lt g hg; exact ⟨by omega, by omega⟩
   . have h1 := HR9.out.2.1 g hg; have h2 := rP.lt g hg; exact ⟨by omega, by omega⟩
   . have h1 := HR5.out.2.1 g hg; have h2 := rM.lt g hg; exact ⟨by omega, by omega⟩
   . have h1 := HR4.out.2 g hg; have h2 := rA.lt g hg; exact ⟨by omega, by omega⟩
   . cases hg
   . cases hg
  sb := hbw9.size
  ok := H.out.2.2.2.1
  id := (by decide : (0 : Int) <= 0 /\ (0 : Int) < 256)
  ib := (⟨by decide, by decide⟩ : InB 0)
  ss := (by decide : (0 : Int) <= 0 /\ (0 : Int) <= 9)
  lr := hal3
  lm := Nat.zero_le _
  lt := Nat.zero_le _
  ap := H.out.2.2.2.2 }
theorem bytes9_any (x : Ad) (w : World) : Calls Tryz.prog 178 #[x.v] w fun e w' => e = .returned (.string x.s) /\ Below w.heap.size w w' := by
 have x0 : (w.alloc (.cells x.cs 111 (0, 0))).heap[w.heap.size]? = some (.cells x.cs 111 (0, 0)) := at1 w _; have hcv := conv_ad x w.heap.size _ x0; have HB := H_ (b1 w (.cells x.cs 111 (0, 0))); unfold Ad.v; unfold Ad.cs at hcv HB; generalize x.s = s at *; clear x0; go_enter Tryz.func178, Tryz.ntmps178; go_wp2_with fail; go_ret; exact ⟨rfl, HB.out⟩
theorem valB4 (a b c d : UInt8) : valB [a, b, c, d] = (((a.toNat : Int) * 16777216 + (b.toNat : Int) * 65536) + (c.toNat : Int) * 256) + (d.toNat : Int) := by
 simp only [valB, List.foldl_cons, List.foldl_nil]; omega
theorem addrNum_any (x : Ad) (w : World) : Calls Tryz.prog 238 #[x.v] w fun e w' => e = .returned (.int .i64 (valB [x.a, x.b, x.c, x.d])) /\ Below w.heap.size w w' := by
 rw [valB4]; have HB := H_ (b1 w (.cells x.cs 111 (0, 0))); have l1 := x.a.toNat_lt; have l2 := x.b.toNat_lt; have l3 := x.c.toNat_lt; have l4 := x.d.toNat_lt; unfold Ad.v; unfold Ad.cs at HB; generalize x.a.toNat = a at *; generalize x.b.toNat = b at *; generalize x.c.toNat = c at *; generalize x.d.toNat = d at *; have w1 : wrap64 ((a : Int) * 16777216) = (a : Int) * 16777216 := by unfold wrap64; omega
 have w2 : wrap64 ((b : Int) * 65536) = (b : Int) * 65536 := by unfold wrap64; omega
 have w3 : wrap64 ((c : Int) * 256) = (c : Int) * 256 := by unfold wrap64; omega
 have w4 : wrap64 ((a : Int) * 16777216 + (b : Int) * 65536) = (a : Int) * 16777216 + (b : Int) * 65536 := by unfold wrap64; omega
 have w5 : wrap64 ((a : Int) * 16777216 + (b : Int) * 65536 + (c : Int) * 256) = (a : Int) * 16777216 + (b : Int) * 65536 + (c : Int) * 256 := by unfold wrap64; omega
 have w6 : wrap64 ((a : Int) * 16777216 + (b : Int) * 65536 + (c : Int) * 256 + (d : Int)) = (a : Int) * 16777216 + (b : Int) * 65536 + (c : Int) * 256 + (d : Int) := by unfold wrap64; omega
 go_enter Tryz.func238, Tryz.ntmps238; go_wp2_with fail; go_ret; exact ⟨rfl, HB.out⟩
set_option maxRecDepth 100000 in
theorem just9_any (k : Int) (x : Ad) (w : World) : Calls Tryz.prog 179 #[.int .i64 k, x.v] w fun e w' => e = .returned (.agg #[.int .i64 k, .int .i64 4, .int .i64 (valB [x.a, x.b, x.c, x.d]), .int .i64 (valB [x.a, x.b, x.c, x.d]), .string x.s]) /\ Below w.heap.size w w' := by
 obtain ⟨W, hW, hs, x0, x1⟩ : ∃ W, W = (w.alloc (.cells x.cs 111 (0, 0))).alloc (.cells #[.int .i64 0, .int .i64 0, .int .i64 0, .int .i64 0, .string ⟨#[]⟩] 64 (0, 0)) /\ W.heap.size = w.heap.size + 1 + 1 /\ W.heap[w.heap.size]? = some (.cells x.cs 111 (0, 0)) /\ W.heap[w.heap.size + 1]? = some (.cells #[.int .i64 0, .int .i64 0, .int .i64 0, .int .i64 0, .string ⟨#[]⟩] 64 (0, 0)) := 
  ⟨_, rfl, by rw [alloc1, alloc1], by rw [Below.heap_alloc _ _ _ (by rw [alloc1]; omega)]; exact at1 _ _, by rw [<- alloc1 w (.cells x.cs 111 (0, 0))]; exact at1 _ _⟩
 have HB : Hid (Below w.heap.size w W) := H_ (by rw [hW]; exact ((Below.refl _ _).alloc (Nat.le_refl _) _).alloc (by rw [alloc1]; omega) _); have HN := H_ (fun W => addrNum_any x W); have HY := H_ (fun W => bytes9_any x W); have HX := H_ (A_ x0 (A_ x1 hs)); unfold Ad.v at HN HY ⊢; unfold Ad.cs at hW
 have HSW : Hid (∀ Y, Below W.heap.size W Y -> Y.cell? ⟨w.heap.size, 0, none⟩ = some (.int .u8 (x.a.toNat : Int)) /\ Y.cell? ⟨w.heap.size, 1, none⟩ = some (.int .u8 (x.b.toNat : Int)) /\ Y.cell? ⟨w.heap.size, 2, none⟩ = some (.int .u8 (x.c.toNat : Int)) /\ Y.cell? ⟨w.heap.size, 3, none⟩ = some (.int .u8 (x.d.toNat : Int))) := H_ fun Y hY =>
  have hx := (hY.block w.heap.size (by have := HX.out.2.2; omega)).trans HX.out.1
  ⟨cellOf hx 0 _ rfl, cellOf hx 1 _ rfl, cellOf hx 2 _ rfl, cellOf hx 3 _ rfl⟩
 generalize valB [x.a, x.b, x.c, x.d] = n at *; generalize x.s = s at *; generalize (x.a.toNat : Int) = a at *; generalize (x.b.toNat : Int) = b at *; generalize (x.c.toNat : Int) = c at *; generalize (x.d.toNat : Int) = d at *; clear x0 x1 hs; go_enter Tryz.func179, Tryz.ntmps179; go_wp2_with fail; rw [<- hW]; clear hW; refine wp_region_H (rgH 0 8) (fun Y : World => Y.cell? ⟨w.heap.size, 0, none⟩ = some (.int .u8 a) /\ Y.cell? ⟨w.heap.size, 1, none⟩ = some (.int .u8 b) /\ Y.cell? ⟨w.heap.size, 2, none⟩ = some (.int .u8 c) /\ Y.cell? ⟨w.heap.size, 3, none⟩ = some (.int .u8 d)) (by kernel_rfl) ?_; have HSv := HSW.out W.drew (Below.refl _ _).drew; refine hatH 0 rfl (by rintro W ⟨h0, h1, h2, h3⟩; go_simp; try rfl) HSv ?_; simp only [aZ, aC, aD]; refine hatH 1 rfl (by rintro W ⟨h0, h1, h2, h3⟩; go_simp; try rfl) HSv ?_; simp only [aZ, aC, aD]; refine hatH 3 rfl (by rintro W ⟨h0, h1, h2, h3⟩; go_simp; try rfl) HSv ?_; simp only [aZ, aC, aD]; refine hatH 5 rfl (by rintro W ⟨h0, h1, h2, h3⟩; go_simp; try rfl) HSv ?_; simp only [aZ, aC, aD]; refine hone 2 rfl fun K hK => ?_
 try go_simp
 go_at_call 238; refine (HN.out _).mono ?_; rintro e w1 ⟨rfl, hb1⟩; have hb1' : Below W.heap.size W w1 := Below.trans (Below.refl _ _).drew hb1; have HSv := HSW.out w1 hb1'; have HB1 := H_ hb1'; clear hb1 hb1'; refine hK _ _ (fun _ => HSv) ?_
 try simp only [aZ, aA, aE, aB, aC, aD]
 refine hone 4 rfl fun K hK => ?_
 try go_simp
 go_at_call 238; refine (HN.out _).mono ?_; rintro e w2 ⟨rfl, hb2⟩; have hb2' := HB1.out.trans (hb2.mono HB1.out.size); have HSv := HSW.out w2 hb2'; have HB2 := H_ hb2'; clear hb2 hb2'; refine hK _ _ (fun _ => HSv) ?_
 try simp only [aZ, aA, aE, aB, aC, aD]
 refine hone 6 rfl fun K hK => ?_
 try go_simp
 go_at_call 178; refine (HY.out _).mono ?_; rintro e w3 ⟨rfl, hb3⟩; have hb3' := HB2.out.trans (hb3.mono HB2.out.size); have HSv := HSW.out w3 hb3'; have HB3 := H_ hb3'; have hr3 := (hb3'.block (w.heap.size + 1) (by have := HX.out.2.2; omega)).trans HX.out.2.1; have z1 := fun o => fzOf hr3 o; have y0 : w3.cell? ⟨w.heap.size + 1, 0, none⟩ = some (.int .i64 0) := cellOf hr3 0 _ rfl; have y1 : w3.cell? ⟨w.heap.size + 1, 1, none⟩ = some (.int .i64 0) := cellOf hr3 1 _ rfl; have y2 : w3.cell? ⟨w.heap.size + 1, 2, none⟩ = some (.int .i64 0) := cellOf hr3 2 _ rfl; have y3 : w3.cell? ⟨w.heap.size + 1, 3, none⟩ = some (.int .i64 0) := cellOf hr3 3 _ rfl; have y4 : w3.cell? ⟨w.heap.size + 1, 4, none⟩ = some (.string ⟨#[]⟩) := cellOf hr3 4 _ rfl; clear hb3 hb3'; refine hK _ _ (fun _ => HSv) ?_
 try simp only [aZ, aA, aE, aB, aC, aD]
 refine hone 7 rfl fun K hK => ?_
 try go_simp
 refine hK _ _ (fun _ => HSv) ?_
 try simp only [aZ, aA, aE, aB, aC, aD]
 clear HSv; refine hend 8 ?_; simp only [aF, aG]; go_wp2_with fail; have hf0 := set_block hr3 0 (.int .i64 k); have hf1 := set_block hf0 1 (.int .i64 4); have hf2 := set_block hf1 2 (.int .i64 n); have hf3 := set_block hf2 3 (.int .i64 n); have hf4 := set_block hf3 4 (.string s)
 have KF : Keep (· = w.heap.size + 1) w3 (((((w3.setCell ⟨w.heap.size + 1, 0, none⟩ (.int .i64 k)).setCell ⟨w.heap.size + 1, 1, none⟩ (.int .i64 4)).setCell ⟨w.heap.size + 1, 2, none⟩ (.int .i64 n)).setCell ⟨w.heap.size + 1, 3, none⟩ (.int .i64 n)).setCell ⟨w.heap.size + 1, 4, none⟩ (.string s)) :=
  (((((Keep.refl (· = w.heap.size + 1) w3).setCell ⟨w.heap.size + 1, 0, none⟩ (Or.inr rfl) _).setCell ⟨w.heap.size + 1, 1, none⟩ (Or.inr rfl) _).setCell ⟨w.heap.size + 1, 2, none⟩ (Or.inr rfl) _).setCell ⟨w.heap.size + 1, 3, none⟩ (Or.inr rfl) _).setCell ⟨w.heap.size + 1, 4, none⟩ (Or.inr rfl) _
 refine bodyPost_ret (results_cell_row rfl _ _ (w.heap.size + 1) 64 _ (0, 0) _ rfl (by simpa using hf4) Tryz.underlying64 rfl (by kernel_rfl)) rfl ?_; have hbw := HB.out.trans (HB3.out.mono HB.out.size); exact ⟨rfl, hbw.trans (KF.below hbw.size (fun g hg he => by have he : g = w.heap.size + 1 := he; omega))⟩
theorem numBad_checkE (ask : List Opt) (own peer : List Rl) {cf tm fl wt : Int} (h : numBad cf tm fl wt) : checkE ask own peer cf tm fl wt = 1 := if_pos h
theorem numBad_not {cf tm fl wt : Int} (h : ¬ numBad cf tm fl wt) : inB20 cf = true /\ inB20 tm = true /\ 0 <= fl /\ fl <= 20 /\ 1 <= wt /\ wt <= 100 := by
 unfold numBad at h; simp only [not_or] at h; obtain ⟨a1, a2, a3, a4, a5, a6⟩ := h; exact ⟨by simpa using a1, by simpa using a2, by omega, by omega, by omega, by omega⟩
def NewOr (w w' : World) (v : Value) (ask : List Opt) (own peer : List Rl) (must : List Int) (cf tm fl wt : Int) : Prop :=
 (¬ numBad cf tm fl wt /\ NewAt w w' v ask own peer must cf tm fl wt) \/ (numBad cf tm fl wt /\ v = .tuple #[.pointer none, .int .i64 1] /\ Below w.heap.size w w')
theorem NewOr.form {w w' : World} {v : Value} {ask : List Opt} {own peer : List Rl} {must : List Int} {cf tm fl wt : Int} (h : NewOr w w' v ask own peer must cf tm fl wt) : ∃ a z, v = .tuple #[.pointer a, .int .i64 z] := by
 rcases h with ⟨-, B, jb, rfl, -⟩ | ⟨-, rfl, -⟩
 . exact ⟨_, _, rfl⟩
 . exact ⟨_, _, rfl⟩
theorem NewOr.go {w wr w' : World} {v : Value} {ask : List Opt} {own peer : List Rl} {must : List Int} {cf tm fl wt : Int} (h : NewOr wr w' v ask own peer must cf tm fl wt) (hb : Below w.heap.size w wr) : NewOr w w' v ask own peer must cf tm fl wt := by
 have hsz := hb.size
 rcases h with ⟨hn, B, jb, rfl, h1, h2, h3, h4, h5⟩ | ⟨hn, rfl, h5⟩
 . exact .inl ⟨hn, B, jb, rfl, h1.mono (fun b hb => Nat.le_trans hsz hb), h2, Nat.le_trans hsz h3, h4, hb.trans (h5.mono hsz)⟩
 . exact .inr ⟨hn, rfl, hb.trans (h5.mono hsz)⟩
theorem new_or (ask : List Opt) (own peer : List Rl) (must : List Int) (av ov pv mv : Value) (ok : Nat -> Prop) (cf tm fl wt : Int) (w : World) (ha : Opts w ok av ask) (ho : Rls w ok ov own) (hp : Rls w ok pv peer) (hm : Nums w ok mv must)
 (no : ∀ n c, ov = .slice none n c -> c = 0) (np : ∀ n c, pv = .slice none n c -> c = 0) (lo : own.length <= 1000) (lp : peer.length <= 1000) (lm : must.length <= 1000)
 (hav : ∀ o ∈ ask, o.v.size <= 100000) (hask : putE ask = 0) (htw : twiceP [] ask = false)
 (hrs : ∀ r ∈ own ++ peer, r.s.size <= 100000) (hwr : (own ++ peer).any wrongR = false) :
 Calls Tryz.prog 39 #[.agg #[av, ov, pv, mv, .int .i64 cf, .int .i64 tm, .int .i64 fl, .int .i64 wt]] w fun e w' => ∃ v, e = .returned v /\ NewOr w w' v ask own peer must cf tm fl wt := by
 have hal : ask.length <= 1000 := by
  have h := hask; unfold putE at h
  by_cases h3 : 30 < ask.length
  . rw [if_pos h3] at h; cases h
  . omega
 by_cases hn : numBad cf tm fl wt
 . have he := numBad_checkE ask own peer hn; refine (new_err ask own peer must av ov pv mv ok cf tm fl wt w ha ho hp hm no np lo lp lm hal hav hrs (by rw [he]; decide)).mono ?_; rintro e w' ⟨rfl, hb⟩; rw [he]; exact ⟨_, rfl, .inr ⟨hn, rfl, hb⟩⟩
 . obtain ⟨k1, k2, k3, k4, k5, k6⟩ := numBad_not hn; refine (new_at ask own peer must av ov pv mv ok cf tm fl wt w ha ho hp hm no np lo lp lm k1 k2 k3 k4 k5 k6 hav hask htw hrs hwr).mono ?_; rintro e w' ⟨v, rfl, h⟩; exact ⟨v, rfl, .inl ⟨hn, h⟩⟩
structure Boxes (w W : World) (own peer d1 d2 : Ad) : Prop where
 size : W.heap.size = w.heap.size + 1 + 1 + 1 + 1
 x0 : W.heap[w.heap.size]? = some (.cells own.cs 111 (0, 0))
 x1 : W.heap[w.heap.size + 1]? = some (.cells peer.cs 111 (0, 0))
 x2 : W.heap[w.heap.size + 1 + 1]? = some (.cells d1.cs 111 (0, 0))
 x3 : W.heap[w.heap.size + 1 + 1 + 1]? = some (.cells d2.cs 111 (0, 0))
 bl : Below w.heap.size w W
theorem boxes_at (w : World) (own peer d1 d2 : Ad) : ∃ W, W = (((w.alloc (.cells own.cs 111 (0, 0))).alloc (.cells peer.cs 111 (0, 0))).alloc (.cells d1.cs 111 (0, 0))).alloc (.cells d2.cs 111 (0, 0)) /\ Boxes w W own peer d1 d2 := by
 have e1 := alloc1 w (.cells own.cs 111 (0, 0)); have e2 := alloc1 (w.alloc (.cells own.cs 111 (0, 0))) (.cells peer.cs 111 (0, 0)); have e3 := alloc1 ((w.alloc (.cells own.cs 111 (0, 0))).alloc (.cells peer.cs 111 (0, 0))) (.cells d1.cs 111 (0, 0)); have e4 := alloc1 (((w.alloc (.cells own.cs 111 (0, 0))).alloc (.cells peer.cs 111 (0, 0))).alloc (.cells d1.cs 111 (0, 0))) (.cells d2.cs 111 (0, 0)); refine ⟨_, rfl, by omega, ?_, ?_, ?_, ?_, ((((Below.refl _ _).alloc (Nat.le_refl _) _).alloc (by omega) _).alloc (by omega) _).alloc (by omega) _⟩
 . rw [Below.heap_alloc _ _ _ (by omega), Below.heap_alloc _ _ _ (by omega), Below.heap_alloc _ _ _ (by omega)]; exact at1 _ _
 . rw [Below.heap_alloc _ _ _ (by omega), Below.heap_alloc _ _ _ (by omega), <- e1]; exact at1 _ _
 . rw [Below.heap_alloc _ _ _ (by omega), show w.heap.size + 1 + 1 = ((w.alloc (.cells own.cs 111 (0, 0))).alloc (.cells peer.cs 111 (0, 0))).heap.size by omega]; exact at1 _ _
 . rw [show w.heap.size + 1 + 1 + 1 = (((w.alloc (.cells own.cs 111 (0, 0))).alloc (.cells peer.cs 111 (0, 0))).alloc (.cells d1.cs 111 (0, 0))).heap.size by omega]; exact at1 _ _
def srvR (peer d1 d2 : Ad) : List Rl := [justR 3 peer] ++ (if adE d1 Ad.z then [] else [justR 129 d1]) ++ (if adE d2 Ad.z then [] else [justR 131 d2])
theorem just_fits (k : Int) (x : Ad) : wrongR (justR k x) = false := by
 unfold wrongR justR fitsR; have h1 : x.s.size = 4 := rfl; have h2 : x.s.data.toList.take 7 = [x.a, x.b, x.c, x.d] := rfl; simp [h1, h2]
theorem srvR_ok (peer d1 d2 : Ad) : (srvR peer d1 d2).length <= 3 /\ (∀ r ∈ srvR peer d1 d2, r.s.size <= 100000) /\ (srvR peer d1 d2).any wrongR = false := by
 have h : ∀ r ∈ srvR peer d1 d2, ∃ k x, r = justR k x := by
  intro r hr; unfold srvR at hr; simp only [List.mem_append, List.mem_singleton] at hr
  rcases hr with (rfl | hr) | hr
  . exact ⟨_, _, rfl⟩
  . split at hr
    . cases hr
    . simp only [List.mem_singleton] at hr; exact ⟨_, _, hr⟩
  . split at hr
    . cases hr
    . simp only [List.mem_singleton] at hr; exact ⟨_, _, hr⟩
 refine ⟨?_, fun r hr => ?_, ?_⟩
 . unfold srvR; split <;> split <;> simp
 . obtain ⟨k, x, rfl⟩ := h r hr
   show 4 <= 100000; decide
 . rw [List.any_eq_false]; intro r hr; obtain ⟨k, x, rfl⟩ := h r hr; simp [just_fits]
theorem RRow.nil0 {w : World} {B n c : Nat} {l : List Rl} (h : RRow w B (.slice none n c) l) : c = 0 := by
 obtain ⟨_, h | ⟨g, cap, cur, h, _⟩⟩ := h
 . have := h.1; simp at this; exact this.2
 . cases h
theorem NRow.one {w : World} {g base : Nat} (x : Int) (h : w.heap[g]? = some (.cells #[.int .i64 x] 3 (0, 0))) (hb : base <= g) : NRow w base (.slice (some ⟨g, 0, none⟩) 1 1) [x] :=
 ⟨rfl, Or.inr ⟨g, 1, _, rfl, hb, h, Nat.le_refl _, by unfold maxLen; omega, rfl, rfl⟩⟩
def n4 : ByteArray := ⟨#[0, 0, 0, 0]⟩
def o4 : ByteArray := ⟨#[0, 0, 0, 1]⟩
def cliA (dns : Bool) (k : Nat) : List Opt := match dns, k with
 | true, 2 => [⟨3, n4⟩, ⟨129, n4⟩]
 | true, 3 => [⟨3, n4⟩, ⟨129, n4⟩, ⟨131, n4⟩]
 | _, _ => [⟨3, n4⟩]
def cliO : Nat -> List Rl
 | 0 => []
 | 1 => [spanR 3 1 o4]
 | 2 => [spanR 3 1 o4, spanR 129 1 o4]
 | _ => [spanR 3 1 o4, spanR 129 1 o4, spanR 131 1 o4]
theorem wpl_append_opts9 {B : Nat} {w : World} {ops : Array Oper} {rest : List Oper} {o : Oper} {a : Act} {Q : Exit -> Act -> World -> Prop} {ok : Nat -> Prop} (hgd : o.guard = none) (s x : Operand)
 (ho : o.op = .call { callee := .builtin .append, args := #[s, x], argTypes := #[62, 62] }) (v : Value) (l : List Opt) (hs : a.eval s = v) (hown : ORow w B v l)
 (xv : Value) (l' : List Opt) (hx : a.eval x = xv) (hr : Opts w ok xv l') (hnil : ∀ n c, xv = .slice none n c -> c = 0) (hlen : l.length + l'.length <= 1000000) (hW : B <= w.heap.size)
 (h : ∀ v' w', ORow w' B v' (l ++ l') -> Keep (fun k => v.ownBlock = some k) w w' -> (v'.ownBlock = v.ownBlock \/ v'.ownBlock = some w.heap.size) -> wpList Tryz.prog ops Q rest (a.put o.dst v') w') : wpList Tryz.prog ops Q (o :: rest) a w := by
 obtain ⟨i, z, hi, hz, hsz, hby, hzs⟩ := opt_info; obtain ⟨sa, c, rfl, hc, hm⟩ := hr.form
 cases sa with
 | none =>
  have h0 := hnil _ _ rfl; subst h0; have e : l' = [] := List.eq_nil_of_length_eq_zero (by omega); subst e; refine wpList_append_own_none hgd s x 62 ho B 91 i 2 Tryz.underlying62 hi v l.length (optL l).flatten hs hown hx ?_; exact h v w (by rw [List.append_nil]; exact hown) (Keep.refl _ _) (Or.inl rfl)
 | some ad =>
  have hfl := hr.flat (by decide); have hl2 : (optL l').flatten.length = l'.length * 2 := by rw [flatten_len _ (optL_k l'), optL_len]
  refine wpList_append_own_at (P := Tryz.prog) (w := w) hgd s x 62 ho B 91 i z 2 24 Tryz.underlying62 hi hz hsz hby hzs (by decide) v l.length (optL l).flatten hs hown ad l'.length c (optL l').flatten hx hl2 hfl (opt_bytes l') (by unfold maxLen; omega) (by omega) hW ?_; intro v' w' h1 h2 _ h3; exact h v' w' (by unfold ORow; rw [optL_app, List.length_append]; exact h1) (keep_of_grown h2) h3
structure SI (T : TypeId) (w wr : World) (sb : Nat) (av ov pv mv : Value) (al : List Opt) (ol pl : List Rl) (ml : List Int) (cf tm fl wt : Int) : Prop where
 bl : Below w.heap.size w wr
 sbk : wr.heap[sb]? = some (.cells #[av, ov, pv, mv, .int .i64 cf, .int .i64 tm, .int .i64 fl, .int .i64 wt] T (0, 0))
 hs : w.heap.size <= sb
 ra : ORow wr w.heap.size av al
 ro : RRow wr w.heap.size ov ol
 rp : RRow wr w.heap.size pv pl
 rm : NRow wr w.heap.size mv ml
 da : ∀ k, av.ownBlock = some k -> k ≠ sb /\ ov.ownBlock ≠ some k /\ pv.ownBlock ≠ some k /\ mv.ownBlock ≠ some k
 dO : ∀ k, ov.ownBlock = some k -> k ≠ sb /\ pv.ownBlock ≠ some k /\ mv.ownBlock ≠ some k
 dp : ∀ k, pv.ownBlock = some k -> k ≠ sb /\ mv.ownBlock ≠ some k
 dm : ∀ k, mv.ownBlock = some k -> k ≠ sb
section
variable {T : TypeId} {w wr w' : World} {sb : Nat} {av ov pv mv x : Value} {al al' : List Opt} {ol pl rl' : List Rl} {ml : List Int} {cf tm fl wt : Int}
theorem SI.lt (h : SI T w wr sb av ov pv mv al ol pl ml cf tm fl wt) : sb < wr.heap.size := (Array.getElem?_eq_some_iff.1 h.sbk).1
theorem SI.sz (h : SI T w wr sb av ov pv mv al ol pl ml cf tm fl wt) : w.heap.size <= wr.heap.size := h.bl.size
theorem SI.go (h : SI T w wr sb av ov pv mv al ol pl ml cf tm fl wt) (hb : Below wr.heap.size wr w') : SI T w w' sb av ov pv mv al ol pl ml cf tm fl wt :=
 { h with bl := h.bl.trans (hb.mono h.bl.size), sbk := (hb.block _ h.lt).trans h.sbk, ra := h.ra.below hb, ro := h.ro.below hb, rp := h.rp.below hb, rm := h.rm.below hb }
theorem SI.appA (h : SI T w wr sb av ov pv mv al ol pl ml cf tm fl wt) (hk : Keep (fun k => av.ownBlock = some k) wr w') (hr : ORow w' w.heap.size x al') (ho : x.ownBlock = av.ownBlock \/ x.ownBlock = some wr.heap.size) :
 SI T w (w'.setCell ⟨sb, 0, none⟩ x) sb x ov pv mv al' ol pl ml cf tm fl wt := by
 have hk2 : Keep (fun b => b = sb) w' (w'.setCell ⟨sb, 0, none⟩ x) := (Keep.refl (fun b => b = sb) w').setCell ⟨sb, 0, none⟩ (Or.inr rfl) x; have hlt := h.lt; have hhs := h.hs; have hz := h.bl.size; have hy : w'.heap[sb]? = _ := (hk.block sb hlt (fun he => (h.da sb he).1 rfl)).trans h.sbk
 have hax : ∀ k, x.ownBlock = some k -> k = wr.heap.size \/ av.ownBlock = some k := fun k hk' => by
  rcases ho with ho | ho
  . exact .inr (by rw [<- ho]; exact hk')
  . rw [ho] at hk'; cases hk'; exact .inl rfl
 have la : ∀ k, av.ownBlock = some k -> k ≠ wr.heap.size := fun k hk he => by have := (h.ra.lt k hk).1; omega
 have lo : ∀ k, ov.ownBlock = some k -> k ≠ wr.heap.size := fun k hk he => by have := (h.ro.lt k hk).1; omega
 have lp : ∀ k, pv.ownBlock = some k -> k ≠ wr.heap.size := fun k hk he => by have := (h.rp.lt k hk).1; omega
 have lm : ∀ k, mv.ownBlock = some k -> k ≠ wr.heap.size := fun k hk he => by have := (h.rm.lt k hk).1; omega
 exact {
  bl := h.bl.trans ((hk.below hz (fun k hk he => by have := (h.ra.lt k he).2; omega)).trans (hk2.below (Nat.le_trans hz hk.size) (fun k hk he => by omega)))
  sbk := by have := set_block hy 0 x; simpa using this
  hs := h.hs
  ra := hr.keep hk2 (fun k hk' he => (hax k hk').elim (fun h1 => by omega) (fun h1 => (h.da k h1).1 he))
  ro := (h.ro.keep hk (fun k hk' he => (h.da k he).2.1 hk')).keep hk2 (fun k hk' he => (h.dO k hk').1 he)
  rp := (h.rp.keep hk (fun k hk' he => (h.da k he).2.2.1 hk')).keep hk2 (fun k hk' he => (h.dp k hk').1 he)
  rm := (h.rm.keep hk (fun k hk' he => (h.da k he).2.2.2 hk')).keep hk2 (fun k hk' he => (h.dm k hk') he)
  da := fun k hk' => by
   rcases hax k hk' with he | he
   . exact ⟨by omega, fun e => lo k e he, fun e => lp k e he, fun e => lm k e he⟩
   . exact h.da k he
  dO := h.dO
  dp := h.dp
  dm := h.dm }
theorem SI.appO (h : SI T w wr sb av ov pv mv al ol pl ml cf tm fl wt) (hk : Keep (fun k => ov.ownBlock = some k) wr w') (hr : RRow w' w.heap.size x rl') (ho : x.ownBlock = ov.ownBlock \/ x.ownBlock = some wr.heap.size) :
 SI T w (w'.setCell ⟨sb, 1, none⟩ x) sb av x pv mv al rl' pl ml cf tm fl wt := by
 have hk2 : Keep (fun b => b = sb) w' (w'.setCell ⟨sb, 1, none⟩ x) := (Keep.refl (fun b => b = sb) w').setCell ⟨sb, 1, none⟩ (Or.inr rfl) x; have hlt := h.lt; have hhs := h.hs; have hz := h.bl.size; have hy : w'.heap[sb]? = _ := (hk.block sb hlt (fun he => (h.dO sb he).1 rfl)).trans h.sbk
 have hax : ∀ k, x.ownBlock = some k -> k = wr.heap.size \/ ov.ownBlock = some k := fun k hk' => by
  rcases ho with ho | ho
  . exact .inr (by rw [<- ho]; exact hk')
  . rw [ho] at hk'; cases hk'; exact .inl rfl
 have la : ∀ k, av.ownBlock = some k -> k ≠ wr.heap.size := fun k hk he => by have := (h.ra.lt k hk).1; omega
 have lo : ∀ k, ov.ownBlock = some k -> k ≠ wr.heap.size := fun k hk he => by have := (h.ro.lt k hk).1; omega
 have lp : ∀ k, pv.ownBlock = some k -> k ≠ wr.heap.size := fun k hk he => by have := (h.rp.lt k hk).1; omega
 have lm : ∀ k, mv.ownBlock = some k -> k ≠ wr.heap.size := fun k hk he => by have := (h.rm.lt k hk).1; omega
 exact {
  bl := h.bl.trans ((hk.below hz (fun k hk he => by have := (h.ro.lt k he).2; omega)).trans (hk2.below (Nat.le_trans hz hk.size) (fun k hk he => by omega)))
  sbk := by have := set_block hy 1 x; simpa using this
  hs := h.hs
  ra := (h.ra.keep hk (fun k hk' he => (h.da k hk').2.1 he)).keep hk2 (fun k hk' he => (h.da k hk').1 he)
  ro := hr.keep hk2 (fun k hk' he => (hax k hk').elim (fun h1 => by omega) (fun h1 => (h.dO k h1).1 he))
  rp := (h.rp.keep hk (fun k hk' he => (h.dO k he).2.1 hk')).keep hk2 (fun k hk' he => (h.dp k hk').1 he)
  rm := (h.rm.keep hk (fun k hk' he => (h.dO k he).2.2 hk')).keep hk2 (fun k hk' he => (h.dm k hk') he)
  da := fun k hk' => ⟨(h.da k hk').1, fun e => (hax k e).elim (la k hk') (h.da k hk').2.1, (h.da k hk').2.2⟩
  dO := fun k hk' => by
   rcases hax k hk' with he | he
   . exact ⟨by omega, fun e => lp k e he, fun e => lm k e he⟩
   . exact h.dO k he
  dp := h.dp
  dm := h.dm }
theorem SI.appP (h : SI T w wr sb av ov pv mv al ol pl ml cf tm fl wt) (hk : Keep (fun k => pv.ownBlock = some k) wr w') (hr : RRow w' w.heap.size x rl') (ho : x.ownBlock = pv.ownBlock \/ x.ownBlock = some wr.heap.size) :
 SI T w (w'.setCell ⟨sb, 2, none⟩ x) sb av ov x mv al ol rl' ml cf tm fl wt := by
 have hk2 : Keep (fun b => b = sb) w' (w'.setCell ⟨sb, 2, none⟩ x) := (Keep.refl (fun b => b = sb) w').setCell ⟨sb, 2, none⟩ (Or.inr rfl) x; have hlt := h.lt; have hhs := h.hs; have hz := h.bl.size; have hy : w'.heap[sb]? = _ := (hk.block sb hlt (fun he => (h.dp sb he).1 rfl)).trans h.sbk
 have hax : ∀ k, x.ownBlock = some k -> k = wr.heap.size \/ pv.ownBlock = some k := fun k hk' => by
  rcases ho with ho | ho
  . exact .inr (by rw [<- ho]; exact hk')
  . rw [ho] at hk'; cases hk'; exact .inl rfl
 have la : ∀ k, av.ownBlock = some k -> k ≠ wr.heap.size := fun k hk he => by have := (h.ra.lt k hk).1; omega
 have lo : ∀ k, ov.ownBlock = some k -> k ≠ wr.heap.size := fun k hk he => by have := (h.ro.lt k hk).1; omega
 have lp : ∀ k, pv.ownBlock = some k -> k ≠ wr.heap.size := fun k hk he => by have := (h.rp.lt k hk).1; omega
 have lm : ∀ k, mv.ownBlock = some k -> k ≠ wr.heap.size := fun k hk he => by have := (h.rm.lt k hk).1; omega
 exact {
  bl := h.bl.trans ((hk.below hz (fun k hk he => by have := (h.rp.lt k he).2; omega)).trans (hk2.below (Nat.le_trans hz hk.size) (fun k hk he => by omega)))
  sbk := by have := set_block hy 2 x; simpa using this
  hs := h.hs
  ra := (h.ra.keep hk (fun k hk' he => (h.da k hk').2.2.1 he)).keep hk2 (fun k hk' he => (h.da k hk').1 he)
  ro := (h.ro.keep hk (fun k hk' he => (h.dO k hk').2.1 he)).keep hk2 (fun k hk' he => (h.dO k hk').1 he)
  rp := hr.keep hk2 (fun k hk' he => (hax k hk').elim (fun h1 => by omega) (fun h1 => (h.dp k h1).1 he))
  rm := (h.rm.keep hk (fun k hk' he => (h.dp k he).2 hk')).keep hk2 (fun k hk' he => (h.dm k hk') he)
  da := fun k hk' => ⟨(h.da k hk').1, (h.da k hk').2.1, fun e => (hax k e).elim (la k hk') (h.da k hk').2.2.1, (h.da k hk').2.2.2⟩
  dO := fun k hk' => ⟨(h.dO k hk').1, fun e => (hax k e).elim (lo k hk') (h.dO k hk').2.1, (h.dO k hk').2.2⟩
  dp := fun k hk' => by
   rcases hax k hk' with he | he
   . exact ⟨by omega, fun e => lm k e he⟩
   . exact h.dp k he
  dm := h.dm }
theorem ORow.nil0 {w : World} {B n c : Nat} {l : List Opt} (h : ORow w B (.slice none n c) l) : c = 0 := by
 obtain ⟨_, h | ⟨g, cap, cur, h, _⟩⟩ := h
 . have := h.1; simp at this; exact this.2
 . cases h
theorem NRow.nil0 {w : World} {B n c : Nat} {l : List Int} (h : NRow w B (.slice none n c) l) : c = 0 := by
 obtain ⟨_, h | ⟨g, cap, cur, h, _⟩⟩ := h
 . have := h.1; simp at this; exact this.2
 . cases h
def NewOr9 (w w' : World) (v : Value) (C : NegC) (ask : List Opt) (cf tm fl wt : Int) : Prop :=
 (¬ numBad cf tm fl wt /\ ∃ b, v = .tuple #[.pointer (some ⟨b, 0, none⟩), .int .i64 0] /\ RNV w' (fun g => w.heap.size <= g) b C (st0 ask) /\ Below w.heap.size w w') \/ (numBad cf tm fl wt /\ v = .tuple #[.pointer none, .int .i64 1] /\ Below w.heap.size w w')
theorem NewOr9.form {v : Value} {C : NegC} {ask : List Opt} (h : NewOr9 w w' v C ask cf tm fl wt) : ∃ a z, v = .tuple #[.pointer a, .int .i64 z] := by
 rcases h with ⟨-, b, rfl, -⟩ | ⟨-, rfl, -⟩
 . exact ⟨_, _, rfl⟩
 . exact ⟨_, _, rfl⟩
theorem NewOr9.go {v : Value} {C : NegC} {ask : List Opt} (h : NewOr9 wr w' v C ask cf tm fl wt) (hb : Below w.heap.size w wr) : NewOr9 w w' v C ask cf tm fl wt := by
 have hsz := hb.size
 rcases h with ⟨hn, b, rfl, ⟨X, h1⟩, h5⟩ | ⟨hn, rfl, h5⟩
 . exact .inl ⟨hn, b, rfl, ⟨X, h1.mono (fun g hg => Nat.le_trans hsz hg)⟩, hb.trans (h5.mono hsz)⟩
 . exact .inr ⟨hn, rfl, hb.trans (h5.mono hsz)⟩
def CIs (C : NegC) (own peer : List Rl) (must : List Int) (cf tm fl wt : Int) : Prop := C.own = own /\ C.peer = peer /\ C.must = must /\ C.cf = cf /\ C.tm = tm /\ C.fl = fl /\ C.wt = wt
theorem new9_or (ask : List Opt) (own peer : List Rl) (must : List Int) (C : NegC) (hC : ¬ numBad cf tm fl wt -> CIs C own peer must cf tm fl wt /\ C.Ok) (h : SI 88 w wr sb av ov pv mv ask own peer must cf tm fl wt)
 (lo : own.length <= 1000) (lp : peer.length <= 1000) (lm : must.length <= 1000) (la : ask.length <= 30) (hap : Apart ask) (hav : ∀ o ∈ ask, o.v.size <= 100000) (hask : putE ask = 0) (htw : twiceP [] ask = false)
 (hrs : ∀ r ∈ own ++ peer, r.s.size <= 100000) (hwr : (own ++ peer).any wrongR = false) :
 Calls Tryz.prog 40 #[.agg #[av, ov, pv, mv, .int .i64 cf, .int .i64 tm, .int .i64 fl, .int .i64 wt]] wr fun e w' => ∃ v, e = .returned v /\ NewOr9 w w' v C ask cf tm fl wt := by
 have hA := h.ra.opts (by unfold maxLen; omega); have hO := h.ro.rls (by unfold maxLen; omega); have hP := h.rp.rls (by unfold maxLen; omega); have hM := h.rm.nums (by unfold maxLen; omega); have na : ∀ n c, av = .slice none n c -> c = 0 := fun n c e => by have := h.ra; rw [e] at this; exact this.nil0
 have no : ∀ n c, ov = .slice none n c -> c = 0 := fun n c e => by have := h.ro; rw [e] at this; exact this.nil0
 have np : ∀ n c, pv = .slice none n c -> c = 0 := fun n c e => by have := h.rp; rw [e] at this; exact this.nil0
 have nm : ∀ n c, mv = .slice none n c -> c = 0 := fun n c e => by have := h.rm; rw [e] at this; exact this.nil0
 by_cases hn : numBad cf tm fl wt
 . have he := numBad_checkE ask own peer hn; refine (new9_err ask own peer must av ov pv mv _ cf tm fl wt wr hA hO hP hM na no np nm lo lp lm (by omega) hav hrs (by rw [he]; decide)).mono ?_; rintro e w' ⟨rfl, hb⟩; rw [he]; exact ⟨_, rfl, .inr ⟨hn, rfl, h.bl.trans (hb.mono h.bl.size)⟩⟩
 . have he : checkE ask own peer cf tm fl wt = 0 := by
    unfold checkE; rw [if_neg hn, if_neg (by rw [hask]; decide), if_neg (by rw [htw, hwr]; decide)]
   refine (new9_ok ask own peer must av ov pv mv _ cf tm fl wt wr hA hO hP hM na no np nm lo lp lm (by omega) hav hrs C (hC hn).1 (hC hn).2 hap la he).mono ?_; rintro e w' ⟨b, rfl, ⟨X, hX⟩, hb⟩; exact ⟨_, rfl, .inl ⟨hn, b, rfl, ⟨X, hX.mono (fun g hg => Nat.le_trans h.bl.size hg)⟩, h.bl.trans (hb.mono h.bl.size)⟩⟩
theorem new_si_or (ask : List Opt) (own peer : List Rl) (must : List Int) (h : SI 77 w wr sb av ov pv mv ask own peer must cf tm fl wt)
 (lo : own.length <= 1000) (lp : peer.length <= 1000) (lm : must.length <= 1000) (la : ask.length <= 30) (hav : ∀ o ∈ ask, o.v.size <= 100000) (hask : putE ask = 0) (htw : twiceP [] ask = false)
 (hrs : ∀ r ∈ own ++ peer, r.s.size <= 100000) (hwr : (own ++ peer).any wrongR = false) :
 Calls Tryz.prog 39 #[.agg #[av, ov, pv, mv, .int .i64 cf, .int .i64 tm, .int .i64 fl, .int .i64 wt]] wr fun e w' => ∃ v, e = .returned v /\ NewOr w w' v ask own peer must cf tm fl wt := by
 have hO : Rls wr (fun b => w.heap.size <= b) ov own := h.ro.rls (by unfold maxLen; omega); refine (new_or ask own peer must av ov pv mv (fun b => w.heap.size <= b) cf tm fl wt wr (h.ra.opts (by unfold maxLen; omega)) hO (h.rp.rls (by unfold maxLen; omega)) (h.rm.nums (by unfold maxLen; omega)) (fun n c e => by have := h.ro; rw [e] at this; exact this.nil0) (fun n c e => by have := h.rp; rw [e] at this; exact this.nil0) lo lp lm hav hask htw hrs hwr).mono ?_; rintro e w' ⟨v, rfl, h1⟩; exact ⟨v, rfl, h1.go h.bl⟩
end
end Go.Proofs.YtignponfoheaeaaGreat
