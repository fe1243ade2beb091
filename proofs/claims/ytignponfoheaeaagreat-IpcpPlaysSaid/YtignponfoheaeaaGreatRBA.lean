import Derived.Test.YtignponfoheaeaaGreatRAZ
import Derived.Deep.DeepCutAuto
import Derived.Deep.CutBlock
import Derived.Test.YtignponfoheaeaaGreatRAH
import Derived.Test.YtignponfoheaeaaGreatRAY
set_option linter.unusedVariables false
set_option linter.unusedSimpArgs false
set_option maxHeartbeats 16000000
namespace Go.Proofs.YtignponfoheaeaaGreat
open Go.RowKit Go.Tg Go.Maps
theorem si_client (w : World) (cf tm fl wt : Int) : ∃ W, W = ((w.alloc (.cells #[.int .i64 3, .string ⟨#[0, 0, 0, 0]⟩] 91 (0, 0))).alloc (.cells #[.int .i64 3] 3 (0, 0))).alloc (.cells #[.slice (some ⟨w.heap.size, 0, none⟩) 1 1, .slice none 0 0, .slice none 0 0, .slice (some ⟨w.heap.size + 1, 0, none⟩) 1 1, .int .i64 cf, .int .i64 tm, .int .i64 fl, .int .i64 wt] 88 (0, 0)) /\
 SI 88 w W (w.heap.size + 1 + 1) (.slice (some ⟨w.heap.size, 0, none⟩) 1 1) (.slice none 0 0) (.slice none 0 0) (.slice (some ⟨w.heap.size + 1, 0, none⟩) 1 1) [⟨3, n4⟩] [] [] [3] cf tm fl wt /\ W.heap.size = w.heap.size + 1 + 1 + 1 := by
 have e1 := alloc1 w (.cells #[.int .i64 3, .string ⟨#[0, 0, 0, 0]⟩] 91 (0, 0)); have e2 := alloc1 (w.alloc (.cells #[.int .i64 3, .string ⟨#[0, 0, 0, 0]⟩] 91 (0, 0))) (.cells #[.int .i64 3] 3 (0, 0))
 exact ⟨_, rfl, {
  bl := (((Below.refl _ _).alloc (Nat.le_refl _) _).alloc (by omega) _).alloc (by omega) _
  sbk := by rw [show w.heap.size + 1 + 1 = ((w.alloc (.cells #[.int .i64 3, .string ⟨#[0, 0, 0, 0]⟩] 91 (0, 0))).alloc (.cells #[.int .i64 3] 3 (0, 0))).heap.size by omega]; exact at1 _ _
  hs := by omega
  ra := ORow.one ⟨3, n4⟩ (by rw [Below.heap_alloc _ _ _ (by omega), Below.heap_alloc _ _ _ (by omega)]; exact at1 _ _) (Nat.le_refl _)
  ro := RRow.nil _ _
  rp := RRow.nil _ _
  rm := NRow.one 3 (by rw [Below.heap_alloc _ _ _ (by omega), <- e1]; exact at1 _ _) (by omega)
  da := fun k hk => by
   have hk : w.heap.size = k := by simpa [Value.ownBlock] using hk
   subst hk; exact ⟨by omega, (fun h => by cases h), (fun h => by cases h), fun h => by simp [Value.ownBlock] at h⟩
  dO := fun k hk => by cases hk
  dp := fun k hk => by cases hk
  dm := fun k hk => by
   have hk : w.heap.size + 1 = k := by simpa [Value.ownBlock] using hk
   omega }, by rw [alloc1]; omega⟩
theorem cli_apart (dns : Bool) : Apart (cliA dns 3) := by
 cases dns <;> simp [cliA, Apart]
theorem ORow.two {w : World} {g base : Nat} (x y : Opt) (h : w.heap[g]? = some (.cells #[.int .i64 x.t, .string x.v, .int .i64 y.t, .string y.v] 91 (0, 0))) (hb : base <= g) : ORow w base (.slice (some ⟨g, 0, none⟩) 2 2) [x, y] :=
 ⟨rfl, Or.inr ⟨g, 2, _, rfl, hb, h, Nat.le_refl _, by unfold maxLen; omega, rfl, rfl⟩⟩
def kdA : Nat -> Int
 | 0 => 3
 | 1 => 129
 | _ => 131
theorem kdO {k : Nat} (h : k < 3) : cliO k ++ [⟨kdA k, 4, 1, 4294967295, ⟨#[0, 0, 0, 1]⟩⟩] = cliO (k + 1) := by
 rcases (show k = 0 \/ k = 1 \/ k = 2 by omega) with rfl | rfl | rfl <;> rfl
theorem cliO_len {k : Nat} (h : k <= 3) : (cliO k).length = k := by
 rcases (show k = 0 \/ k = 1 \/ k = 2 \/ k = 3 by omega) with rfl | rfl | rfl | rfl <;> rfl
structure CI9 (T : TypeId) (pv : Value) (pl : List Rl) (w wr : World) (sb ib : Nat) (ov av : Value) (nm : Nat) (al : List Opt) (k : Nat) (cf tm fl wt : Int) : Prop where
 i : SI T w wr sb av ov pv (.slice (some ⟨nm, 0, none⟩) 1 1) al (cliO k) pl [3] cf tm fl wt
 b : wr.heap[ib]? = some (.cells #[.int .i64 3, .int .i64 129, .int .i64 131] 3 (0, 0))
 n : ∀ g, ov.ownBlock = some g -> g ≠ ib
 m : ∀ g, av.ownBlock = some g -> g ≠ ib
 s : ib ≠ sb
theorem CI9.go {T : TypeId} {pv : Value} {pl : List Rl} {w wr w' : World} {sb ib : Nat} {ov av : Value} {nm : Nat} {al : List Opt} {k : Nat} {cf tm fl wt : Int} (h : CI9 T pv pl w wr sb ib ov av nm al k cf tm fl wt) (hb : Below wr.heap.size wr w') : CI9 T pv pl w w' sb ib ov av nm al k cf tm fl wt :=
 ⟨h.i.go hb, (hb.block _ (Array.getElem?_eq_some_iff.1 h.b).1).trans h.b, h.n, h.m, h.s⟩
theorem CI9.app {T : TypeId} {pv : Value} {pl : List Rl} {w wr w' : World} {sb ib : Nat} {ov av x : Value} {nm : Nat} {al : List Opt} {k : Nat} {cf tm fl wt : Int} (h : CI9 T pv pl w wr sb ib ov av nm al k cf tm fl wt) (hk : k < 3) (kp : Keep (fun g => ov.ownBlock = some g) wr w')
 (hr : RRow w' w.heap.size x (cliO k ++ [⟨kdA k, 4, 1, 4294967295, ⟨#[0, 0, 0, 1]⟩⟩])) (ho : x.ownBlock = ov.ownBlock \/ x.ownBlock = some wr.heap.size) : CI9 T pv pl w (w'.setCell ⟨sb, 1, none⟩ x) sb ib x av nm al (k + 1) cf tm fl wt := by
 have l1 := (Array.getElem?_eq_some_iff.1 h.b).1; refine ⟨?_, ?_, fun g hg e => ?_, h.m, h.s⟩
 . have := h.i.appO kp hr ho
   rwa [kdO hk] at this
 . exact (((Keep.refl (fun b => b = sb) w').setCell ⟨sb, 1, none⟩ (Or.inr rfl) x).block _ (Nat.lt_of_lt_of_le l1 kp.size) h.s).trans ((kp.block _ l1 (fun he => h.n _ he rfl)).trans h.b)
 . rcases ho with ho | ho
   . exact h.n g (by rw [<- ho]; exact hg) e
   . rw [ho] at hg; cases hg; omega
theorem CI9.appA {T : TypeId} {pv : Value} {pl : List Rl} {w wr w' : World} {sb ib : Nat} {ov av x : Value} {nm : Nat} {al al' : List Opt} {k : Nat} {cf tm fl wt : Int} (h : CI9 T pv pl w wr sb ib ov av nm al k cf tm fl wt) (kp : Keep (fun g => av.ownBlock = some g) wr w')
 (hr : ORow w' w.heap.size x al') (ho : x.ownBlock = av.ownBlock \/ x.ownBlock = some wr.heap.size) : CI9 T pv pl w (w'.setCell ⟨sb, 0, none⟩ x) sb ib ov x nm al' k cf tm fl wt := by
 have l1 := (Array.getElem?_eq_some_iff.1 h.b).1; refine ⟨h.i.appA kp hr ho, ?_, h.n, fun g hg e => ?_, h.s⟩
 . exact (((Keep.refl (fun b => b = sb) w').setCell ⟨sb, 0, none⟩ (Or.inr rfl) x).block _ (Nat.lt_of_lt_of_le l1 kp.size) h.s).trans ((kp.block _ l1 (fun he => h.m _ he rfl)).trans h.b)
 . rcases ho with ho | ho
   . exact h.m g (by rw [<- ho]; exact hg) e
   . rw [ho] at hg; cases hg; omega
theorem kd_cell {T : TypeId} {pv : Value} {pl : List Rl} {w wr : World} {sb ib : Nat} {ov av : Value} {nm : Nat} {al : List Opt} {k : Nat} {cf tm fl wt : Int} (h : CI9 T pv pl w wr sb ib ov av nm al k cf tm fl wt) (hk : k < 3) : wr.cell? ⟨ib, k, none⟩ = some (.int .i64 (kdA k)) := by
 rcases (show k = 0 \/ k = 1 \/ k = 2 by omega) with rfl | rfl | rfl
 . exact cellOf h.b 0 _ rfl
 . exact cellOf h.b 1 _ rfl
 . exact cellOf h.b 2 _ rfl
set_option maxRecDepth 100000 in
theorem client9_or (cf tm fl wt : Int) (dns : Bool) (C : NegC) (hC : ¬ numBad cf tm fl wt -> CIs C (cliO 3) [spanR 3 0 n4] [3] cf tm fl wt /\ C.Ok) (w : World) :
 Calls Tryz.prog 63 #[.int .i64 cf, .int .i64 tm, .int .i64 fl, .int .i64 wt, .bool dns] w fun e w' => ∃ v, e = .returned v /\ NewOr9 w w' v C (cliA dns 3) cf tm fl wt := by
 obtain ⟨W, hW, hI, hsz⟩ := si_client w cf tm fl wt; have HC := H_ hC; clear hC; go_enter Tryz.func63, Tryz.ntmps63; have HI := H_ hI; clear hI; have HZ := H_ hsz; clear hsz
 go_upto_if 25 with (fail)
 rw [<- hW]; clear hW
 go_cut [] (fun wc => Hid (∃ av, SI 88 w wc (w.heap.size + 1 + 1) av (.slice none 0 0) (.slice none 0 0) (.slice (some ⟨w.heap.size + 1, 0, none⟩) 1 1) (cliA dns 3) [] [] [3] cf tm fl wt))
 case first =>
  cases dns
  . go_wp2_with fail
    go_meet
    exact ⟨_, HI.out⟩
  . have s0 := cellOf HI.out.sbk 0 _ rfl; have fz := fun o => fzOf HI.out.sbk o; have K0 := H_ (HI.out.go ((Below.refl _ _).alloc (Nat.le_refl _) (.cells #[.int .i64 129, .string ⟨#[0, 0, 0, 0]⟩, .int .i64 131, .string ⟨#[0, 0, 0, 0]⟩] 91 (0, 0)))); have HN : Hid ((W.alloc (.cells #[.int .i64 129, .string ⟨#[0, 0, 0, 0]⟩, .int .i64 131, .string ⟨#[0, 0, 0, 0]⟩] 91 (0, 0))).heap[W.heap.size]? = some (.cells #[.int .i64 129, .string ⟨#[0, 0, 0, 0]⟩, .int .i64 131, .string ⟨#[0, 0, 0, 0]⟩] 91 (0, 0))) := H_ (at1 W _)
    go_wp2_with (first
     | (
      at_builtin; refine wpl_append_opts9 rfl _ _ rfl _ [⟨3, n4⟩] rfl K0.out.ra _ [⟨129, n4⟩, ⟨131, n4⟩] rfl ((ORow.two ⟨129, n4⟩ ⟨131, n4⟩ HN.out (Nat.zero_le _)).opts (show 2 <= maxLen by decide)) (by intro n c h; cases h) (by simp) K0.out.sz ?_
      intro x T r5 k5 o5; obtain ⟨xa, xc, rfl⟩ := r5.form; have r5 : ORow T _ (.slice xa 3 xc) [⟨3, n4⟩, ⟨129, n4⟩, ⟨131, n4⟩] := r5; have o5 : (Value.ownBlock (.slice xa 3 xc) = _ \/ _) := o5; have I1 := H_ (K0.out.appA k5 r5 o5); have y4 := (k5.block _ K0.out.lt (fun he => (K0.out.da _ he).1 rfl)).trans K0.out.sbk; have u2 := cellOf y4 0 _ rfl; have f2 := fun o => fzOf y4 o
      clear r5 k5 o5 y4))
    go_meet
    exact ⟨_, I1.out⟩
 case rest =>
  obtain ⟨av, hJ⟩ := hcut.out; have HJ := H_ hJ; clear hJ hcut HI
  go_upto_block 0 with fail
  go_wp2_with fail
  have hCI : CI9 88 (.slice none 0 0) [] w (wc.alloc (.cells #[.int .i64 3, .int .i64 129, .int .i64 131] 3 (0, 0))) (w.heap.size + 1 + 1) wc.heap.size (.slice none 0 0) av (w.heap.size + 1) (cliA dns 3) 0 cf tm fl wt :=
   ⟨HJ.out.go ((Below.refl _ _).alloc (Nat.le_refl _) _), at1 _ _, (by intro g hg; cases hg), (fun g hg e => by have := (HJ.out.ra.lt g hg).1; omega), fun e => by have := HJ.out.lt; omega⟩
  have HCI := H_ hCI; clear hCI HJ; generalize wc.alloc (.cells #[.int .i64 3, .int .i64 129, .int .i64 131] 3 (0, 0)) = wL at *; generalize wc.heap.size = ib at *; generalize w.heap.size + 1 + 1 = sb at *; generalize w.heap.size + 1 = nm at *
  go_loopg [37] 3 (fun x i wr => ∃ k : Nat, k <= 3 /\ x = 3 - k /\ i = .int .i64 k /\ Hid (∃ ov, CI9 88 (.slice none 0 0) [] w wr sb ib ov av nm (cliA dns 3) k cf tm fl wt))
  case atStart => exact ⟨0, by omega, by omega, rfl, _, HCI.out⟩
  case round =>
   obtain ⟨k, hk, rfl, rfl, hK⟩ := hrel; obtain ⟨ov, hI⟩ := hK.out; obtain ⟨oa, oc, rfl⟩ := hI.i.ro.form; rw [cliO_len hk] at hI; have HI := H_ hI; clear hI hK HCI
   by_cases hk3 : k < 3
   . have kc := kd_cell HI.out hk3; have s1 := cellOf HI.out.i.sbk 1 _ rfl; have K1 := H_ (HI.out.go ((Below.refl _ _).alloc (Nat.le_refl _) (.cells #[.int .i64 (kdA k), .int .i64 4, .int .i64 1, .int .i64 4294967295, .string ⟨#[0, 0, 0, 1]⟩] 64 (0, 0)))); have HN := H_ (at1 wr (.cells #[.int .i64 (kdA k), .int .i64 4, .int .i64 1, .int .i64 4294967295, .string ⟨#[0, 0, 0, 1]⟩] 64 (0, 0))); have HKD := H_ hk3
     go_wp2_with (first
      | (
       at_builtin; refine wpl_append_rules rfl _ _ rfl _ (cliO k) rfl K1.out.i.ro _ [⟨kdA k, 4, 1, 4294967295, ⟨#[0, 0, 0, 1]⟩⟩] rfl ((RRow.one ⟨kdA k, 4, 1, 4294967295, ⟨#[0, 0, 0, 1]⟩⟩ HN.out (Nat.le_refl _)).rls (show 1 <= maxLen by decide)) (by intro n c h; cases h) (by rw [cliO_len hk]; simp; omega) K1.out.i.sz ?_
       intro x T r5 k5 o5; obtain ⟨xa, xc, rfl⟩ := r5.form; rw [List.length_append, List.length_singleton] at r5 o5; have I1 := H_ (K1.out.app HKD.out k5 r5 o5); have y4 := (k5.block _ K1.out.i.lt (fun he => (K1.out.i.dO _ he).1 rfl)).trans K1.out.i.sbk; have u2 := cellOf y4 1 _ rfl; have f2 := fun o => fzOf y4 o
       clear r5 k5 o5 y4))
     go_roundg (3 - (k + 1))
     case measure => omega
     case rel => exact ⟨k + 1, by omega, rfl, by go_num, _, I1.out⟩
   . obtain rfl : k = 3 := by omega
     have hI := HI.out.i; have hb := (Below.refl wr.heap.size wr).alloc (Nat.le_refl _) (.cells #[.int .i64 3, .int .i64 4, .int .i64 0, .int .i64 4294967295, .string ⟨#[0, 0, 0, 0]⟩] 64 (0, 0)); have hG := hI.go hb; have hJ := hI.appP (w' := wr.alloc (.cells #[.int .i64 3, .int .i64 4, .int .i64 0, .int .i64 4294967295, .string ⟨#[0, 0, 0, 0]⟩] 64 (0, 0))) (Keep.of_below _ hb) (RRow.one (spanR 3 0 n4) (at1 wr _) hI.sz) (Or.inr rfl); have s0 := cellOf hG.sbk 0 _ rfl; have s1 := cellOf hG.sbk 1 _ rfl; have s2 := cellOf hG.sbk 2 _ rfl; have s3 := cellOf hG.sbk 3 _ rfl; have s4 := cellOf hG.sbk 4 _ rfl; have s5 := cellOf hG.sbk 5 _ rfl; have s6 := cellOf hG.sbk 6 _ rfl; have s7 := cellOf hG.sbk 7 _ rfl; have fz := fun o => fzOf hG.sbk o; have HB := H_ hJ.bl; have HN := H_ (new9_or (cliA dns 3) (cliO 3) [spanR 3 0 n4] [3] C HC.out hJ (by decide) (by decide) (by decide) (by cases dns <;> decide) (cli_apart dns) (by cases dns <;> decide) (by cases dns <;> rfl) (by cases dns <;> rfl) (by decide) (by rfl)); clear hI hG hJ hb HI; go_wp2_with fail; refine HN.out.mono ?_; rintro e w9 ⟨v, rfl, h1⟩; obtain ⟨pa, pz, rfl⟩ := h1.form; have H9 := H_ h1; clear h1; go_wp2_with fail; go_ret2; exact ⟨_, rfl, H9.out⟩
def srvF (B : Nat) (own peer : Ad) (vp cf tm fl wt : Int) (i : Nat) (v : Value) (w : World) : Prop := match i with
 | 0 => v = .agg #[.int .u8 (own.a.toNat : Int), .int .u8 (own.b.toNat : Int), .int .u8 (own.c.toNat : Int), .int .u8 (own.d.toNat : Int)]
 | 1 => v = .string own.s
 | 2 => v = .agg #[.int .i64 3, .string own.s]
 | 3 => ∃ b, v = .slice (some ⟨b, 0, none⟩) 1 1 /\ B <= b /\ w.heap[b]? = some (.cells #[.int .i64 3, .string own.s] 91 (0, 0))
 | 4 => v = .agg #[.int .u8 (peer.a.toNat : Int), .int .u8 (peer.b.toNat : Int), .int .u8 (peer.c.toNat : Int), .int .u8 (peer.d.toNat : Int)]
 | 5 => v = .agg #[.int .i64 3, .int .i64 4, .int .i64 vp, .int .i64 vp, .string peer.s]
 | 6 => ∃ b, v = .slice (some ⟨b, 0, none⟩) 1 1 /\ B <= b /\ w.heap[b]? = some (.cells #[.int .i64 3, .int .i64 4, .int .i64 vp, .int .i64 vp, .string peer.s] 64 (0, 0))
 | 7 => v = .int .i64 cf
 | 8 => v = .int .i64 tm
 | 9 => v = .int .i64 fl
 | 10 => v = .int .i64 wt
 | 11 => ∃ b c, v = .agg #[.slice (some ⟨b, 0, none⟩) 1 1, .slice none 0 0, .slice (some ⟨c, 0, none⟩) 1 1, .slice none 0 0, .int .i64 cf, .int .i64 tm, .int .i64 fl, .int .i64 wt] /\ B <= b /\ w.heap[b]? = some (.cells #[.int .i64 3, .string own.s] 91 (0, 0)) /\ B <= c /\ w.heap[c]? = some (.cells #[.int .i64 3, .int .i64 4, .int .i64 vp, .int .i64 vp, .string peer.s] 64 (0, 0))
 | 12 => ∃ b, v = .pointer (some ⟨b, 0, none⟩) /\ B <= b /\ w.heap[b]? = some (.cells #[.slice none 0 0, .slice none 0 0, .slice none 0 0, .slice none 0 0, .int .i64 0, .int .i64 0, .int .i64 0, .int .i64 0] 88 (0, 0))
 | _ => True
theorem keep_at {w w' : World} {b : Nat} {o : Obj} (hb : Below w.heap.size w w') (h : w.heap[b]? = some o) : w'.heap[b]? = some o := (hb.block _ (Array.getElem?_eq_some_iff.1 h).1).trans h
theorem srvF_keep {B : Nat} {own peer : Ad} {vp cf tm fl wt : Int} (i : Nat) (v : Value) (w w' : World) (h : srvF B own peer vp cf tm fl wt i v w) (hb : Below w.heap.size w w') : srvF B own peer vp cf tm fl wt i v w' := by
 unfold srvF at h ⊢
 split at h <;> first
  | exact h
  | (obtain ⟨b, e, h1, h2⟩ := h; exact ⟨b, e, h1, keep_at hb h2⟩)
  | (obtain ⟨b, c, e, h1, h2, h3, h4⟩ := h; exact ⟨b, c, e, h1, keep_at hb h2, h3, keep_at hb h4⟩)
set_option maxRecDepth 100000 in
theorem server9_or (own peer d1 d2 : Ad) (cf tm fl wt : Int) (C : NegC) (hC : ¬ numBad cf tm fl wt -> CIs C [] (srvR peer d1 d2) [] cf tm fl wt /\ C.Ok) (w : World) :
 Calls Tryz.prog 61 #[own.v, peer.v, d1.v, d2.v, .int .i64 cf, .int .i64 tm, .int .i64 fl, .int .i64 wt] w fun e w' => ∃ v, e = .returned v /\ NewOr9 w w' v C [⟨3, own.s⟩] cf tm fl wt := by
 obtain ⟨W, hW, HX⟩ := boxes_at w own peer d1 d2; have HC := H_ hC; have HY := H_ (fun W => bytes9_any own W); have HJ := H_ (fun W => just9_any 3 peer W); have n1 := adNeq d1 Ad.z; have n2 := adNeq d2 Ad.z; rw [<- adz] at n1 n2; clear hC; have N1 := H_ n1; have N2 := H_ n2; clear n1 n2; unfold Ad.v at HY HJ N1 N2 ⊢; unfold Ad.cs at hW; generalize hvp : valB [peer.a, peer.b, peer.c, peer.d] = vp at *; have HVP := H_ hvp; clear hvp; have HX := H_ HX; go_enter Tryz.func61, Tryz.ntmps61
 go_upto_region 1 with (fail)
 rw [<- hW]; clear hW
 go_cut [18] (fun p wx => Hid (∃ sb av pv, p = .pointer (some ⟨sb, 0, none⟩) /\ SI 88 W wx sb av (.slice none 0 0) pv (.slice none 0 0) [⟨3, own.s⟩] [] [⟨3, 4, vp, vp, peer.s⟩] [] cf tm fl wt))
 case first =>
  refine wp_region_facts 13 (fun w w' => Below w.heap.size w w') (srvF W.heap.size own peer vp cf tm fl wt) (by kernel_rfl) (by kernel_rfl) (fun _ a a' _ e h => by cases a; cases a'; cases e; exact h) (Below.refl _ _) (fun a b c h k => h.trans (k.mono h.size)) (fun i v w w' _ h hb => srvF_keep i v w w' h hb) ?_ ?_
  . refine ⟨?_, ?_, ?_, ?_, ?_, ?_, ?_, ?_, ?_, ?_, ?_, ?_, ?_, trivial⟩
    . intro vals wc hR hF K hK; have y := (hR.block _ (by have := HX.out.size; have hd : W.drew.heap.size = W.heap.size := rfl; omega)).trans (show W.drew.heap[w.heap.size]? = _ from HX.out.x0); have c0 := cellOf y 0 _ rfl; have c1 := cellOf y 1 _ rfl; have c2 := cellOf y 2 _ rfl; have c3 := cellOf y 3 _ rfl; clear y; simp only [Tg.putAll, List.take_succ_cons, List.take_zero, Act.put, List.setIfInBounds_toArray, List.set_cons_zero, List.set_cons_succ] at hK ⊢; clear hF; go_simp; exact hK _ _ (Below.refl _ _) rfl
    . intro vals wc hR hF K hK; have f0 : vals 0 = .agg #[.int .u8 (own.a.toNat : Int), .int .u8 (own.b.toNat : Int), .int .u8 (own.c.toNat : Int), .int .u8 (own.d.toNat : Int)] := hF 0 (by kernel_rfl) (by decide); simp only [Tg.putAll, List.take_succ_cons, List.take_zero, Act.put, List.setIfInBounds_toArray, List.set_cons_zero, List.set_cons_succ, f0] at hK ⊢; clear hF f0; go_simp; go_at_call 178; refine (HY.out _).mono ?_; rintro e w1 ⟨rfl, hb⟩; exact hK _ _ hb rfl
    . intro vals wc hR hF K hK; have f1 : vals 1 = .string own.s := hF 1 (by kernel_rfl) (by decide); simp only [Tg.putAll, List.take_succ_cons, List.take_zero, Act.put, List.setIfInBounds_toArray, List.set_cons_zero, List.set_cons_succ, f1] at hK ⊢; clear hF f1; go_simp; exact hK _ _ (Below.refl _ _) rfl
    . intro vals wc hR hF K hK; have f2 : vals 2 = .agg #[.int .i64 3, .string own.s] := hF 2 (by kernel_rfl) (by decide); simp only [Tg.putAll, List.take_succ_cons, List.take_zero, Act.put, List.setIfInBounds_toArray, List.set_cons_zero, List.set_cons_succ, f2] at hK ⊢; clear hF f2; go_simp; exact hK _ _ ((Below.refl _ _).alloc (Nat.le_refl _) _) ⟨_, rfl, hR.size, at1 _ _⟩
    . intro vals wc hR hF K hK; have y := (hR.block _ (by have := HX.out.size; have hd : W.drew.heap.size = W.heap.size := rfl; omega)).trans (show W.drew.heap[w.heap.size + 1]? = _ from HX.out.x1); have c0 := cellOf y 0 _ rfl; have c1 := cellOf y 1 _ rfl; have c2 := cellOf y 2 _ rfl; have c3 := cellOf y 3 _ rfl; clear y; simp only [Tg.putAll, List.take_succ_cons, List.take_zero, Act.put, List.setIfInBounds_toArray, List.set_cons_zero, List.set_cons_succ] at hK ⊢; clear hF; go_simp; exact hK _ _ (Below.refl _ _) rfl
    . intro vals wc hR hF K hK; have f4 : vals 4 = .agg #[.int .u8 (peer.a.toNat : Int), .int .u8 (peer.b.toNat : Int), .int .u8 (peer.c.toNat : Int), .int .u8 (peer.d.toNat : Int)] := hF 4 (by kernel_rfl) (by decide); simp only [Tg.putAll, List.take_succ_cons, List.take_zero, Act.put, List.setIfInBounds_toArray, List.set_cons_zero, List.set_cons_succ, f4] at hK ⊢; clear hF f4; go_simp; go_at_call 179; refine (HJ.out _).mono ?_; rintro e w1 ⟨rfl, hb⟩; exact hK _ _ hb rfl
    . intro vals wc hR hF K hK; have f5 : vals 5 = .agg #[.int .i64 3, .int .i64 4, .int .i64 vp, .int .i64 vp, .string peer.s] := hF 5 (by kernel_rfl) (by decide); simp only [Tg.putAll, List.take_succ_cons, List.take_zero, Act.put, List.setIfInBounds_toArray, List.set_cons_zero, List.set_cons_succ, f5] at hK ⊢; clear hF f5; go_simp; exact hK _ _ ((Below.refl _ _).alloc (Nat.le_refl _) _) ⟨_, rfl, hR.size, at1 _ _⟩
    . intro vals wc hR hF K hK; simp only [Tg.putAll, List.take_succ_cons, List.take_zero, Act.put, List.setIfInBounds_toArray, List.set_cons_zero, List.set_cons_succ] at hK ⊢; clear hF; go_simp; exact hK _ _ (Below.refl _ _) rfl
    . intro vals wc hR hF K hK; simp only [Tg.putAll, List.take_succ_cons, List.take_zero, Act.put, List.setIfInBounds_toArray, List.set_cons_zero, List.set_cons_succ] at hK ⊢; clear hF; go_simp; exact hK _ _ (Below.refl _ _) rfl
    . intro vals wc hR hF K hK; simp only [Tg.putAll, List.take_succ_cons, List.take_zero, Act.put, List.setIfInBounds_toArray, List.set_cons_zero, List.set_cons_succ] at hK ⊢; clear hF; go_simp; exact hK _ _ (Below.refl _ _) rfl
    . intro vals wc hR hF K hK; simp only [Tg.putAll, List.take_succ_cons, List.take_zero, Act.put, List.setIfInBounds_toArray, List.set_cons_zero, List.set_cons_succ] at hK ⊢; clear hF; go_simp; exact hK _ _ (Below.refl _ _) rfl
    . intro vals wc hR hF K hK; obtain ⟨b3, f3, g3, k3⟩ := hF 3 (by kernel_rfl) (by decide); obtain ⟨b6, f6, g6, k6⟩ := hF 6 (by kernel_rfl) (by decide); have f7 : vals 7 = .int .i64 cf := hF 7 (by kernel_rfl) (by decide); have f8 : vals 8 = .int .i64 tm := hF 8 (by kernel_rfl) (by decide); have f9 : vals 9 = .int .i64 fl := hF 9 (by kernel_rfl) (by decide); have f10 : vals 10 = .int .i64 wt := hF 10 (by kernel_rfl) (by decide); simp only [Tg.putAll, List.take_succ_cons, List.take_zero, Act.put, List.setIfInBounds_toArray, List.set_cons_zero, List.set_cons_succ, f3, f6, f7, f8, f9, f10] at hK ⊢; clear hF f3 f6 f7 f8 f9 f10; go_simp; exact hK _ _ (Below.refl _ _) ⟨b3, b6, rfl, g3, k3, g6, k6⟩
    . intro vals wc hR hF K hK; simp only [Tg.putAll, List.take_succ_cons, List.take_zero, Act.put, List.setIfInBounds_toArray, List.set_cons_zero, List.set_cons_succ] at hK ⊢; clear hF; go_simp; exact hK _ _ ((Below.refl _ _).alloc (Nat.le_refl _) _) ⟨_, rfl, hR.size, at1 _ _⟩
  . intro vals wc hR hF; obtain ⟨b, c, f11, g1, k1, g2, k2⟩ := hF 11 (by decide); obtain ⟨sb, f12, g3, k3⟩ := hF 12 (by decide); simp only [Tg.putAll, List.take_succ_cons, List.take_zero, List.drop_succ_cons, List.drop_zero, Act.put, List.setIfInBounds_toArray, List.set_cons_zero, List.set_cons_succ, f11, f12]; generalize vals 0 = e0 at *; generalize vals 1 = e1 at *; generalize vals 2 = e2 at *; generalize vals 3 = e3 at *; generalize vals 4 = e4 at *; generalize vals 5 = e5 at *; generalize vals 6 = e6 at *; generalize vals 7 = e7 at *; generalize vals 8 = e8 at *; generalize vals 9 = e9 at *; generalize vals 10 = e10 at *; clear hF f11 f12; have ne1 : b ≠ sb := by rintro rfl; have := k1.symm.trans k3; simp at this
    have ne2 : c ≠ sb := by rintro rfl; have := k2.symm.trans k3; simp at this
    have ne3 : b ≠ c := by rintro rfl; have := k1.symm.trans k2; simp at this
    have kk := keep8 wc sb (.slice (some ⟨b, 0, none⟩) 1 1) (.slice none 0 0) (.slice (some ⟨c, 0, none⟩) 1 1) (.slice none 0 0) (.int .i64 cf) (.int .i64 tm) (.int .i64 fl) (.int .i64 wt); have lb := (Array.getElem?_eq_some_iff.1 k1).1; have lc := (Array.getElem?_eq_some_iff.1 k2).1; have hRW : Below W.heap.size W wc := Below.trans (Below.refl _ _).drew hR
    have hSI : SI 88 W ((((((((wc.setCell ⟨sb, 0, none⟩ (.slice (some ⟨b, 0, none⟩) 1 1)).setCell ⟨sb, 1, none⟩ (.slice none 0 0)).setCell ⟨sb, 2, none⟩ (.slice (some ⟨c, 0, none⟩) 1 1)).setCell ⟨sb, 3, none⟩ (.slice none 0 0)).setCell ⟨sb, 4, none⟩ (.int .i64 cf)).setCell ⟨sb, 5, none⟩ (.int .i64 tm)).setCell ⟨sb, 6, none⟩ (.int .i64 fl)).setCell ⟨sb, 7, none⟩ (.int .i64 wt)) sb (.slice (some ⟨b, 0, none⟩) 1 1) (.slice none 0 0) (.slice (some ⟨c, 0, none⟩) 1 1) (.slice none 0 0) [⟨3, own.s⟩] [] [⟨3, 4, vp, vp, peer.s⟩] [] cf tm fl wt := {
     bl := hRW.trans (kk.below hRW.size (fun k hk he => by have : k = sb := he; omega))
     sbk := set8 k3 _ _ _ _ _ _ _ _
     hs := g3
     ra := ORow.one ⟨3, own.s⟩ ((kk.block _ lb ne1).trans k1) g1
     ro := RRow.nil _ _
     rp := RRow.one ⟨3, 4, vp, vp, peer.s⟩ ((kk.block _ lc ne2).trans k2) g2
     rm := NRow.nil _ _
     da := fun k hk => by
      have hk : b = k := by simpa [Value.ownBlock] using hk
      subst hk; exact ⟨ne1, (fun h => by cases h), fun h => ne3 (by simpa [Value.ownBlock] using h.symm), (fun h => by cases h)⟩
     dO := fun k hk => by cases hk
     dp := fun k hk => by
      have hk : c = k := by simpa [Value.ownBlock] using hk
      subst hk; exact ⟨ne2, (fun h => by cases h)⟩
     dm := fun k hk => by cases hk }
    have HS0 := H_ hSI; have fz := fun o => fzOf k3 o; have c0 := cellOf k3 0 _ rfl; have c1 := cellOf k3 1 _ rfl; have c2 := cellOf k3 2 _ rfl; have c3 := cellOf k3 3 _ rfl; have c4 := cellOf k3 4 _ rfl; have c5 := cellOf k3 5 _ rfl; have c6 := cellOf k3 6 _ rfl; have c7 := cellOf k3 7 _ rfl; clear hSI hRW kk hR k1 k2 k3 vals; go_wp2_with fail
    go_meet
    exact ⟨_, _, _, rfl, HS0.out⟩
 case rest =>
  obtain ⟨sb, av, pv0, rfl, hSI⟩ := hcut.out; have HSI : Hid (∃ pv, SI 88 W wc sb av (.slice none 0 0) pv (.slice none 0 0) [⟨3, own.s⟩] [] [⟨3, 4, vp, vp, peer.s⟩] [] cf tm fl wt) := H_ ⟨_, hSI⟩; have HLR : Hid (([⟨3, 4, vp, vp, peer.s⟩] : List Rl).length <= 10) := H_ (by simp); clear hcut hSI pv0 HY; generalize wc = wd at *; generalize hrs : [(⟨3, 4, vp, vp, peer.s⟩ : Rl)] = rs at *; have HRS := H_ hrs; clear hrs; obtain ⟨pv, hI⟩ := HSI.out; obtain ⟨pa, pc, rfl⟩ := hI.rp.form; have HI := H_ hI; have hy := (hI.bl.block (w.heap.size + 1 + 1) (by have := HX.out.size; omega)).trans HX.out.x2; have q0 := cellOf hy 0 (.int .u8 (d1.a.toNat : Int)) rfl; have q1 := cellOf hy 1 (.int .u8 (d1.b.toNat : Int)) rfl; have q2 := cellOf hy 2 (.int .u8 (d1.c.toNat : Int)) rfl; have q3 := cellOf hy 3 (.int .u8 (d1.d.toNat : Int)) rfl; have n1 := N1.out; clear hI HSI hy N1; obtain ⟨y, hy⟩ : ∃ y, y = adE d1 Ad.z := ⟨_, rfl⟩; rw [<- hy] at n1; have HYY := H_ hy; clear hy
  go_upto_if 33 with (fail)
  clear n1
  go_cut [] (fun wx => Hid (∃ pv, SI 88 W wx sb av (.slice none 0 0) pv (.slice none 0 0) [⟨3, own.s⟩] [] (rs ++ (if adE d1 Ad.z then [] else [justR 129 d1])) [] cf tm fl wt))
  case first =>
   cases y
   . have s2 := cellOf HI.out.sbk 2 _ rfl; have HJ1 := H_ (fun W => just9_any 129 d1 W); unfold Ad.v at HJ1; generalize hvq : valB [d1.a, d1.b, d1.c, d1.d] = vq at *; have HVQ := H_ hvq; clear hvq; go_wp2_with fail; refine wp_region_H (rgH 1 5) (fun X : World => X.cell? ⟨sb, 2, none⟩ = some (.slice pa rs.length pc)) (by kernel_rfl) ?_; have HSv : (fun X : World => X.cell? ⟨sb, 2, none⟩ = some (.slice pa rs.length pc)) wd.drew := s2; refine hatP 0 rfl (by intro W _; go_simp; try rfl) ?_; simp only [aZ, aC, aD]; refine hatH 1 rfl (by rintro W h0; go_simp; try rfl) HSv ?_; simp only [aZ, aC, aD]; refine hone 2 rfl fun K hK => ?_
     try go_simp
     refine hK _ _ (fun _ => HSv) ?_
     try simp only [aZ, aA, aE, aB, aC, aD]
     clear HSv s2 q0 q1 q2 q3; refine hone 3 rfl fun K hK => ?_
     try go_simp
     go_at_call 179; refine (HJ1.out _).mono ?_; rintro e U ⟨rfl, hb⟩; have J1 := H_ (HI.out.go (Below.trans (Below.refl _ _).drew hb)); have HSv : (fun X : World => X.cell? ⟨sb, 2, none⟩ = some (.slice pa rs.length pc)) U := cellOf J1.out.sbk 2 _ rfl; clear hb; refine hK _ _ (fun _ => HSv) ?_
     try simp only [aZ, aA, aE, aB, aC, aD]
     refine hone 4 rfl fun K hK => ?_
     try go_simp
     have K1 := H_ (J1.out.go ((Below.refl _ _).alloc (Nat.le_refl _) (.cells #[.int .i64 129, .int .i64 4, .int .i64 vq, .int .i64 vq, .string d1.s] 64 (0, 0)))); have HN1 := H_ (at1 U (.cells #[.int .i64 129, .int .i64 4, .int .i64 vq, .int .i64 vq, .string d1.s] 64 (0, 0))); have HSv : (fun X : World => X.cell? ⟨sb, 2, none⟩ = some (.slice pa rs.length pc)) (U.alloc (.cells #[.int .i64 129, .int .i64 4, .int .i64 vq, .int .i64 vq, .string d1.s] 64 (0, 0))) := cellOf K1.out.sbk 2 _ rfl; refine hK _ _ (fun _ => HSv) ?_
     try simp only [aZ, aA, aE, aB, aC, aD]
     clear HSv; refine hend 5 ?_; simp only [aF, aG]
     go_wp2_with (first
      | (
       at_builtin; refine wpl_append_rules rfl _ _ rfl _ rs rfl K1.out.rp _ [⟨129, 4, vq, vq, d1.s⟩] rfl ((RRow.one ⟨129, 4, vq, vq, d1.s⟩ HN1.out (Nat.le_refl _)).rls (show 1 <= maxLen by decide)) (by intro n c h; cases h) (by have := HLR.out; simp only [List.length_singleton]; omega) K1.out.sz ?_
       intro x T r5 k5 o5; obtain ⟨xa, xc, rfl⟩ := r5.form; rw [List.length_append, List.length_singleton] at r5 o5; have I1 := H_ (K1.out.appP k5 r5 o5); have y4 := (k5.block _ K1.out.lt (fun he => (K1.out.dp _ he).1 rfl)).trans K1.out.sbk; have u2 := cellOf y4 2 _ rfl; have f2 := fun o => fzOf y4 o
       clear r5 k5 o5 y4))
     go_meet
     rw [<- HYY.out, if_neg (by decide), show justR 129 d1 = ⟨129, 4, vq, vq, d1.s⟩ by rw [<- HVQ.out]; rfl]; exact ⟨_, I1.out⟩
   . go_wp2_with fail
     go_meet
     rw [<- HYY.out, if_pos rfl, List.append_nil]; exact ⟨_, HI.out⟩
  case rest =>
  have HSI := hcut; clear hcut HI HYY q0 q1 q2 q3 wd; generalize wc = wd at *; have HLR2 := H_ (show (rs ++ (if adE d1 Ad.z then [] else [justR 129 d1])).length <= 11 from by have := HLR.out; split <;> simp <;> omega); clear HLR; generalize hrs : (rs ++ (if adE d1 Ad.z then [] else [justR 129 d1])) = rt at *; have HRT := H_ hrs; clear hrs; obtain ⟨pv, hI⟩ := HSI.out; obtain ⟨pa, pc, rfl⟩ := hI.rp.form; have HI := H_ hI; have hy := (hI.bl.block (w.heap.size + 1 + 1 + 1) (by have := HX.out.size; omega)).trans HX.out.x3; have q0 := cellOf hy 0 (.int .u8 (d2.a.toNat : Int)) rfl; have q1 := cellOf hy 1 (.int .u8 (d2.b.toNat : Int)) rfl; have q2 := cellOf hy 2 (.int .u8 (d2.c.toNat : Int)) rfl; have q3 := cellOf hy 3 (.int .u8 (d2.d.toNat : Int)) rfl; have n1 := N2.out; clear hI HSI hy N2; obtain ⟨y, hy⟩ : ∃ y, y = adE d2 Ad.z := ⟨_, rfl⟩; rw [<- hy] at n1; have HYY := H_ hy; clear hy
  go_upto_if 43 with (fail)
  clear n1
  go_cut [] (fun wx => Hid (∃ pv, SI 88 W wx sb av (.slice none 0 0) pv (.slice none 0 0) [⟨3, own.s⟩] [] (rt ++ (if adE d2 Ad.z then [] else [justR 131 d2])) [] cf tm fl wt))
  case first =>
   cases y
   . have s2 := cellOf HI.out.sbk 2 _ rfl; have HJ1 := H_ (fun W => just9_any 131 d2 W); unfold Ad.v at HJ1; generalize hvq : valB [d2.a, d2.b, d2.c, d2.d] = vq at *; have HVQ := H_ hvq; clear hvq; go_wp2_with fail; refine wp_region_H (rgH 1 5) (fun X : World => X.cell? ⟨sb, 2, none⟩ = some (.slice pa rt.length pc)) (by kernel_rfl) ?_; have HSv : (fun X : World => X.cell? ⟨sb, 2, none⟩ = some (.slice pa rt.length pc)) wd.drew := s2; refine hatP 0 rfl (by intro W _; go_simp; try rfl) ?_; simp only [aZ, aC, aD]; refine hatH 1 rfl (by rintro W h0; go_simp; try rfl) HSv ?_; simp only [aZ, aC, aD]; refine hone 2 rfl fun K hK => ?_
     try go_simp
     refine hK _ _ (fun _ => HSv) ?_
     try simp only [aZ, aA, aE, aB, aC, aD]
     clear HSv s2 q0 q1 q2 q3; refine hone 3 rfl fun K hK => ?_
     try go_simp
     go_at_call 179; refine (HJ1.out _).mono ?_; rintro e U ⟨rfl, hb⟩; have J1 := H_ (HI.out.go (Below.trans (Below.refl _ _).drew hb)); have HSv : (fun X : World => X.cell? ⟨sb, 2, none⟩ = some (.slice pa rt.length pc)) U := cellOf J1.out.sbk 2 _ rfl; clear hb; refine hK _ _ (fun _ => HSv) ?_
     try simp only [aZ, aA, aE, aB, aC, aD]
     refine hone 4 rfl fun K hK => ?_
     try go_simp
     have K1 := H_ (J1.out.go ((Below.refl _ _).alloc (Nat.le_refl _) (.cells #[.int .i64 131, .int .i64 4, .int .i64 vq, .int .i64 vq, .string d2.s] 64 (0, 0)))); have HN1 := H_ (at1 U (.cells #[.int .i64 131, .int .i64 4, .int .i64 vq, .int .i64 vq, .string d2.s] 64 (0, 0))); have HSv : (fun X : World => X.cell? ⟨sb, 2, none⟩ = some (.slice pa rt.length pc)) (U.alloc (.cells #[.int .i64 131, .int .i64 4, .int .i64 vq, .int .i64 vq, .string d2.s] 64 (0, 0))) := cellOf K1.out.sbk 2 _ rfl; refine hK _ _ (fun _ => HSv) ?_
     try simp only [aZ, aA, aE, aB, aC, aD]
     clear HSv; refine hend 5 ?_; simp only [aF, aG]
     go_wp2_with (first
      | (
       at_builtin; refine wpl_append_rules rfl _ _ rfl _ rt rfl K1.out.rp _ [⟨131, 4, vq, vq, d2.s⟩] rfl ((RRow.one ⟨131, 4, vq, vq, d2.s⟩ HN1.out (Nat.le_refl _)).rls (show 1 <= maxLen by decide)) (by intro n c h; cases h) (by have := HLR2.out; simp only [List.length_singleton]; omega) K1.out.sz ?_
       intro x T r5 k5 o5; obtain ⟨xa, xc, rfl⟩ := r5.form; rw [List.length_append, List.length_singleton] at r5 o5; have I1 := H_ (K1.out.appP k5 r5 o5); have y4 := (k5.block _ K1.out.lt (fun he => (K1.out.dp _ he).1 rfl)).trans K1.out.sbk; have u2 := cellOf y4 2 _ rfl; have f2 := fun o => fzOf y4 o
       clear r5 k5 o5 y4))
     go_meet
     rw [<- HYY.out, if_neg (by decide), show justR 131 d2 = ⟨131, 4, vq, vq, d2.s⟩ by rw [<- HVQ.out]; rfl]; exact ⟨_, I1.out⟩
   . go_wp2_with fail
     go_meet
     rw [<- HYY.out, if_pos rfl, List.append_nil]; exact ⟨_, HI.out⟩
  case rest =>
  obtain ⟨pv, hI⟩ := hcut.out
  have e : rt ++ (if adE d2 Ad.z then [] else [justR 131 d2]) = srvR peer d1 d2 := by
   unfold srvR; rw [<- HRT.out, <- HRS.out, <- HVP.out]; rfl
  rw [e] at hI; clear hcut HI HYY q0 q1 q2 q3 wd e; have s0 := cellOf hI.sbk 0 _ rfl; have s1 := cellOf hI.sbk 1 _ rfl; have s2 := cellOf hI.sbk 2 _ rfl; have s3 := cellOf hI.sbk 3 _ rfl; have s4 := cellOf hI.sbk 4 _ rfl; have s5 := cellOf hI.sbk 5 _ rfl; have s6 := cellOf hI.sbk 6 _ rfl; have s7 := cellOf hI.sbk 7 _ rfl; have hok := srvR_ok peer d1 d2; have HN := H_ (new9_or [⟨3, own.s⟩] [] (srvR peer d1 d2) [] C HC.out hI (by decide) (by omega) (by decide) (by simp) (by simp [Apart]) (fun o ho => by simp only [List.mem_singleton] at ho; subst ho; show 4 <= 100000; decide) rfl rfl (by rw [List.nil_append]; exact hok.2.1) (by rw [List.nil_append]; exact hok.2.2)); clear hI hok; go_wp2_with fail; refine HN.out.mono ?_; rintro e w9 ⟨v, rfl, h1⟩; obtain ⟨pa, pz, rfl⟩ := h1.form; have H9 := H_ h1; clear h1; go_wp2_with fail; go_ret2; exact ⟨_, rfl, H9.out.go HX.out.bl⟩
def srvP (A B : Nat) (own peer : Ad) (vp cf tm fl wt : Int) (i : Nat) (v : Value) (w : World) : Prop := match i with
 | 0 => v = .slice (some ⟨A, 0, none⟩) 4 4
 | 1 => v = .string own.s
 | 2 => v = .agg #[.int .i64 3, .string own.s]
 | 3 => ∃ b, v = .slice (some ⟨b, 0, none⟩) 1 1 /\ B <= b /\ w.heap[b]? = some (.cells #[.int .i64 3, .string own.s] 91 (0, 0))
 | 4 => v = .agg #[.int .u8 (peer.a.toNat : Int), .int .u8 (peer.b.toNat : Int), .int .u8 (peer.c.toNat : Int), .int .u8 (peer.d.toNat : Int)]
 | 5 => v = .agg #[.int .i64 3, .int .i64 4, .int .i64 vp, .int .i64 vp, .string peer.s]
 | 6 => ∃ b, v = .slice (some ⟨b, 0, none⟩) 1 1 /\ B <= b /\ w.heap[b]? = some (.cells #[.int .i64 3, .int .i64 4, .int .i64 vp, .int .i64 vp, .string peer.s] 64 (0, 0))
 | 7 => v = .int .i64 cf
 | 8 => v = .int .i64 tm
 | 9 => v = .int .i64 fl
 | 10 => v = .int .i64 wt
 | 11 => ∃ b c, v = .agg #[.slice (some ⟨b, 0, none⟩) 1 1, .slice none 0 0, .slice (some ⟨c, 0, none⟩) 1 1, .slice none 0 0, .int .i64 cf, .int .i64 tm, .int .i64 fl, .int .i64 wt] /\ B <= b /\ w.heap[b]? = some (.cells #[.int .i64 3, .string own.s] 91 (0, 0)) /\ B <= c /\ w.heap[c]? = some (.cells #[.int .i64 3, .int .i64 4, .int .i64 vp, .int .i64 vp, .string peer.s] 64 (0, 0))
 | 12 => ∃ b, v = .pointer (some ⟨b, 0, none⟩) /\ B <= b /\ w.heap[b]? = some (.cells #[.slice none 0 0, .slice none 0 0, .slice none 0 0, .slice none 0 0, .int .i64 0, .int .i64 0, .int .i64 0, .int .i64 0] 77 (0, 0))
 | _ => True
theorem srvP_keep {A B : Nat} {own peer : Ad} {vp cf tm fl wt : Int} (i : Nat) (v : Value) (w w' : World) (h : srvP A B own peer vp cf tm fl wt i v w) (hb : Below w.heap.size w w') : srvP A B own peer vp cf tm fl wt i v w' := by
 unfold srvP at h ⊢
 split at h <;> first
  | exact h
  | (obtain ⟨b, e, h1, h2⟩ := h; exact ⟨b, e, h1, keep_at hb h2⟩)
  | (obtain ⟨b, c, e, h1, h2, h3, h4⟩ := h; exact ⟨b, c, e, h1, keep_at hb h2, h3, keep_at hb h4⟩)
set_option maxRecDepth 100000 in
theorem server_or (own peer d1 d2 : Ad) (cf tm fl wt : Int) (w : World) :
 Calls Tryz.prog 60 #[own.v, peer.v, d1.v, d2.v, .int .i64 cf, .int .i64 tm, .int .i64 fl, .int .i64 wt] w fun e w' => ∃ v, e = .returned v /\ NewOr w w' v [⟨3, own.s⟩] [] (srvR peer d1 d2) [] cf tm fl wt := by
 obtain ⟨W, hW, HX⟩ := boxes_at w own peer d1 d2; have HJ := H_ (fun W => just_any 3 peer W); have n1 := adNeq d1 Ad.z; have n2 := adNeq d2 Ad.z; rw [<- adz] at n1 n2; have N1 := H_ n1; have N2 := H_ n2; clear n1 n2; unfold Ad.v at HJ N1 N2 ⊢; unfold Ad.cs at hW; generalize hvp : valB [peer.a, peer.b, peer.c, peer.d] = vp at *; have HVP := H_ hvp; clear hvp; have HX := H_ HX; go_enter Tryz.func60, Tryz.ntmps60
 go_upto_region 1 with (fail)
 rw [<- hW]; clear hW
 go_cut [18] (fun p wx => Hid (∃ sb av pv, p = .pointer (some ⟨sb, 0, none⟩) /\ SI 77 W wx sb av (.slice none 0 0) pv (.slice none 0 0) [⟨3, own.s⟩] [] [⟨3, 4, vp, vp, peer.s⟩] [] cf tm fl wt))
 case first =>
  refine wp_region_facts 13 (fun w w' => Below w.heap.size w w') (srvP w.heap.size W.heap.size own peer vp cf tm fl wt) (by kernel_rfl) (by kernel_rfl) (fun _ a a' _ e h => by cases a; cases a'; cases e; exact h) (Below.refl _ _) (fun a b c h k => h.trans (k.mono h.size)) (fun i v w w' _ h hb => srvP_keep i v w w' h hb) ?_ ?_
  . refine ⟨?_, ?_, ?_, ?_, ?_, ?_, ?_, ?_, ?_, ?_, ?_, ?_, ?_, trivial⟩
    . intro vals wc hR hF K hK; have y := (hR.block w.heap.size (by have := HX.out.size; have hd : W.drew.heap.size = W.heap.size := rfl; omega)).trans (show W.drew.heap[w.heap.size]? = _ from HX.out.x0); unfold Ad.cs at y; simp only [Tg.putAll, List.take_succ_cons, List.take_zero, Act.put, List.setIfInBounds_toArray, List.set_cons_zero, List.set_cons_succ] at hK ⊢; clear hF; go_simp; exact hK _ _ (Below.refl _ _) rfl
    . intro vals wc hR hF K hK; have f0 : vals 0 = .slice (some ⟨w.heap.size, 0, none⟩) 4 4 := hF 0 (by kernel_rfl) (by decide); have y := (hR.block w.heap.size (by have := HX.out.size; have hd : W.drew.heap.size = W.heap.size := rfl; omega)).trans (show W.drew.heap[w.heap.size]? = _ from HX.out.x0); have hcv := conv_ad own w.heap.size wc y; clear y; simp only [Tg.putAll, List.take_succ_cons, List.take_zero, Act.put, List.setIfInBounds_toArray, List.set_cons_zero, List.set_cons_succ, f0] at hK ⊢; clear hF f0; go_simp; exact hK _ _ (Below.refl _ _) rfl
    . intro vals wc hR hF K hK; have f1 : vals 1 = .string own.s := hF 1 (by kernel_rfl) (by decide); simp only [Tg.putAll, List.take_succ_cons, List.take_zero, Act.put, List.setIfInBounds_toArray, List.set_cons_zero, List.set_cons_succ, f1] at hK ⊢; clear hF f1; go_simp; exact hK _ _ (Below.refl _ _) rfl
    . intro vals wc hR hF K hK; have f2 : vals 2 = .agg #[.int .i64 3, .string own.s] := hF 2 (by kernel_rfl) (by decide); simp only [Tg.putAll, List.take_succ_cons, List.take_zero, Act.put, List.setIfInBounds_toArray, List.set_cons_zero, List.set_cons_succ, f2] at hK ⊢; clear hF f2; go_simp; exact hK _ _ ((Below.refl _ _).alloc (Nat.le_refl _) _) ⟨_, rfl, hR.size, at1 _ _⟩
    . intro vals wc hR hF K hK; have y := (hR.block _ (by have := HX.out.size; have hd : W.drew.heap.size = W.heap.size := rfl; omega)).trans (show W.drew.heap[w.heap.size + 1]? = _ from HX.out.x1); have c0 := cellOf y 0 _ rfl; have c1 := cellOf y 1 _ rfl; have c2 := cellOf y 2 _ rfl; have c3 := cellOf y 3 _ rfl; clear y; simp only [Tg.putAll, List.take_succ_cons, List.take_zero, Act.put, List.setIfInBounds_toArray, List.set_cons_zero, List.set_cons_succ] at hK ⊢; clear hF; go_simp; exact hK _ _ (Below.refl _ _) rfl
    . intro vals wc hR hF K hK; have f4 : vals 4 = .agg #[.int .u8 (peer.a.toNat : Int), .int .u8 (peer.b.toNat : Int), .int .u8 (peer.c.toNat : Int), .int .u8 (peer.d.toNat : Int)] := hF 4 (by kernel_rfl) (by decide); simp only [Tg.putAll, List.take_succ_cons, List.take_zero, Act.put, List.setIfInBounds_toArray, List.set_cons_zero, List.set_cons_succ, f4] at hK ⊢; clear hF f4; go_simp; go_at_call 177; refine (HJ.out _).mono ?_; rintro e w1 ⟨rfl, hb⟩; exact hK _ _ hb rfl
    . intro vals wc hR hF K hK; have f5 : vals 5 = .agg #[.int .i64 3, .int .i64 4, .int .i64 vp, .int .i64 vp, .string peer.s] := hF 5 (by kernel_rfl) (by decide); simp only [Tg.putAll, List.take_succ_cons, List.take_zero, Act.put, List.setIfInBounds_toArray, List.set_cons_zero, List.set_cons_succ, f5] at hK ⊢; clear hF f5; go_simp; exact hK _ _ ((Below.refl _ _).alloc (Nat.le_refl _) _) ⟨_, rfl, hR.size, at1 _ _⟩
    . intro vals wc hR hF K hK; simp only [Tg.putAll, List.take_succ_cons, List.take_zero, Act.put, List.setIfInBounds_toArray, List.set_cons_zero, List.set_cons_succ] at hK ⊢; clear hF; go_simp; exact hK _ _ (Below.refl _ _) rfl
    . intro vals wc hR hF K hK; simp only [Tg.putAll, List.take_succ_cons, List.take_zero, Act.put, List.setIfInBounds_toArray, List.set_cons_zero, List.set_cons_succ] at hK ⊢; clear hF; go_simp; exact hK _ _ (Below.refl _ _) rfl
    . intro vals wc hR hF K hK; simp only [Tg.putAll, List.take_succ_cons, List.take_zero, Act.put, List.setIfInBounds_toArray, List.set_cons_zero, List.set_cons_succ] at hK ⊢; clear hF; go_simp; exact hK _ _ (Below.refl _ _) rfl
    . intro vals wc hR hF K hK; simp only [Tg.putAll, List.take_succ_cons, List.take_zero, Act.put, List.setIfInBounds_toArray, List.set_cons_zero, List.set_cons_succ] at hK ⊢; clear hF; go_simp; exact hK _ _ (Below.refl _ _) rfl
    . intro vals wc hR hF K hK; obtain ⟨b3, f3, g3, k3⟩ := hF 3 (by kernel_rfl) (by decide); obtain ⟨b6, f6, g6, k6⟩ := hF 6 (by kernel_rfl) (by decide); have f7 : vals 7 = .int .i64 cf := hF 7 (by kernel_rfl) (by decide); have f8 : vals 8 = .int .i64 tm := hF 8 (by kernel_rfl) (by decide); have f9 : vals 9 = .int .i64 fl := hF 9 (by kernel_rfl) (by decide); have f10 : vals 10 = .int .i64 wt := hF 10 (by kernel_rfl) (by decide); simp only [Tg.putAll, List.take_succ_cons, List.take_zero, Act.put, List.setIfInBounds_toArray, List.set_cons_zero, List.set_cons_succ, f3, f6, f7, f8, f9, f10] at hK ⊢; clear hF f3 f6 f7 f8 f9 f10; go_simp; exact hK _ _ (Below.refl _ _) ⟨b3, b6, rfl, g3, k3, g6, k6⟩
    . intro vals wc hR hF K hK; simp only [Tg.putAll, List.take_succ_cons, List.take_zero, Act.put, List.setIfInBounds_toArray, List.set_cons_zero, List.set_cons_succ] at hK ⊢; clear hF; go_simp; exact hK _ _ ((Below.refl _ _).alloc (Nat.le_refl _) _) ⟨_, rfl, hR.size, at1 _ _⟩
  . intro vals wc hR hF; obtain ⟨b, c, f11, g1, k1, g2, k2⟩ := hF 11 (by decide); obtain ⟨sb, f12, g3, k3⟩ := hF 12 (by decide); simp only [Tg.putAll, List.take_succ_cons, List.take_zero, List.drop_succ_cons, List.drop_zero, Act.put, List.setIfInBounds_toArray, List.set_cons_zero, List.set_cons_succ, f11, f12]; generalize vals 0 = e0 at *; generalize vals 1 = e1 at *; generalize vals 2 = e2 at *; generalize vals 3 = e3 at *; generalize vals 4 = e4 at *; generalize vals 5 = e5 at *; generalize vals 6 = e6 at *; generalize vals 7 = e7 at *; generalize vals 8 = e8 at *; generalize vals 9 = e9 at *; generalize vals 10 = e10 at *; clear hF f11 f12; have ne1 : b ≠ sb := by rintro rfl; have := k1.symm.trans k3; simp at this
    have ne2 : c ≠ sb := by rintro rfl; have := k2.symm.trans k3; simp at this
    have ne3 : b ≠ c := by rintro rfl; have := k1.symm.trans k2; simp at this
    have kk := keep8 wc sb (.slice (some ⟨b, 0, none⟩) 1 1) (.slice none 0 0) (.slice (some ⟨c, 0, none⟩) 1 1) (.slice none 0 0) (.int .i64 cf) (.int .i64 tm) (.int .i64 fl) (.int .i64 wt); have lb := (Array.getElem?_eq_some_iff.1 k1).1; have lc := (Array.getElem?_eq_some_iff.1 k2).1; have hRW : Below W.heap.size W wc := Below.trans (Below.refl _ _).drew hR
    have hSI : SI 77 W ((((((((wc.setCell ⟨sb, 0, none⟩ (.slice (some ⟨b, 0, none⟩) 1 1)).setCell ⟨sb, 1, none⟩ (.slice none 0 0)).setCell ⟨sb, 2, none⟩ (.slice (some ⟨c, 0, none⟩) 1 1)).setCell ⟨sb, 3, none⟩ (.slice none 0 0)).setCell ⟨sb, 4, none⟩ (.int .i64 cf)).setCell ⟨sb, 5, none⟩ (.int .i64 tm)).setCell ⟨sb, 6, none⟩ (.int .i64 fl)).setCell ⟨sb, 7, none⟩ (.int .i64 wt)) sb (.slice (some ⟨b, 0, none⟩) 1 1) (.slice none 0 0) (.slice (some ⟨c, 0, none⟩) 1 1) (.slice none 0 0) [⟨3, own.s⟩] [] [⟨3, 4, vp, vp, peer.s⟩] [] cf tm fl wt := {
     bl := hRW.trans (kk.below hRW.size (fun k hk he => by have : k = sb := he; omega))
     sbk := set8 k3 _ _ _ _ _ _ _ _
     hs := g3
     ra := ORow.one ⟨3, own.s⟩ ((kk.block _ lb ne1).trans k1) g1
     ro := RRow.nil _ _
     rp := RRow.one ⟨3, 4, vp, vp, peer.s⟩ ((kk.block _ lc ne2).trans k2) g2
     rm := NRow.nil _ _
     da := fun k hk => by
      have hk : b = k := by simpa [Value.ownBlock] using hk
      subst hk; exact ⟨ne1, (fun h => by cases h), fun h => ne3 (by simpa [Value.ownBlock] using h.symm), (fun h => by cases h)⟩
     dO := fun k hk => by cases hk
     dp := fun k hk => by
      have hk : c = k := by simpa [Value.ownBlock] using hk
      subst hk; exact ⟨ne2, (fun h => by cases h)⟩
     dm := fun k hk => by cases hk }
    have HS0 := H_ hSI; have fz := fun o => fzOf k3 o; have c0 := cellOf k3 0 _ rfl; have c1 := cellOf k3 1 _ rfl; have c2 := cellOf k3 2 _ rfl; have c3 := cellOf k3 3 _ rfl; have c4 := cellOf k3 4 _ rfl; have c5 := cellOf k3 5 _ rfl; have c6 := cellOf k3 6 _ rfl; have c7 := cellOf k3 7 _ rfl; clear hSI hRW kk hR k1 k2 k3 vals; go_wp2_with fail
    go_meet
    exact ⟨_, _, _, rfl, HS0.out⟩
 case rest =>
  obtain ⟨sb, av, pv0, rfl, hSI⟩ := hcut.out; have HSI : Hid (∃ pv, SI 77 W wc sb av (.slice none 0 0) pv (.slice none 0 0) [⟨3, own.s⟩] [] [⟨3, 4, vp, vp, peer.s⟩] [] cf tm fl wt) := H_ ⟨_, hSI⟩; have HLR : Hid (([⟨3, 4, vp, vp, peer.s⟩] : List Rl).length <= 10) := H_ (by simp); clear hcut hSI pv0; generalize wc = wd at *; generalize hrs : [(⟨3, 4, vp, vp, peer.s⟩ : Rl)] = rs at *; have HRS := H_ hrs; clear hrs; obtain ⟨pv, hI⟩ := HSI.out; obtain ⟨pa, pc, rfl⟩ := hI.rp.form; have HI := H_ hI; have hy := (hI.bl.block (w.heap.size + 1 + 1) (by have := HX.out.size; omega)).trans HX.out.x2; have q0 := cellOf hy 0 (.int .u8 (d1.a.toNat : Int)) rfl; have q1 := cellOf hy 1 (.int .u8 (d1.b.toNat : Int)) rfl; have q2 := cellOf hy 2 (.int .u8 (d1.c.toNat : Int)) rfl; have q3 := cellOf hy 3 (.int .u8 (d1.d.toNat : Int)) rfl; have n1 := N1.out; clear hI HSI hy N1; obtain ⟨y, hy⟩ : ∃ y, y = adE d1 Ad.z := ⟨_, rfl⟩; rw [<- hy] at n1; have HYY := H_ hy; clear hy
  go_upto_if 33 with (fail)
  clear n1
  go_cut [] (fun wx => Hid (∃ pv, SI 77 W wx sb av (.slice none 0 0) pv (.slice none 0 0) [⟨3, own.s⟩] [] (rs ++ (if adE d1 Ad.z then [] else [justR 129 d1])) [] cf tm fl wt))
  case first =>
   cases y
   . have s2 := cellOf HI.out.sbk 2 _ rfl; have HJ1 := H_ (fun W => just_any 129 d1 W); unfold Ad.v at HJ1; generalize hvq : valB [d1.a, d1.b, d1.c, d1.d] = vq at *; have HVQ := H_ hvq; clear hvq; go_wp2_with fail; refine wp_region_H (rgH 1 5) (fun X : World => X.cell? ⟨sb, 2, none⟩ = some (.slice pa rs.length pc)) (by kernel_rfl) ?_; have HSv : (fun X : World => X.cell? ⟨sb, 2, none⟩ = some (.slice pa rs.length pc)) wd.drew := s2; refine hatP 0 rfl (by intro W _; go_simp; try rfl) ?_; simp only [aZ, aC, aD]; refine hatH 1 rfl (by rintro W h0; go_simp; try rfl) HSv ?_; simp only [aZ, aC, aD]; refine hone 2 rfl fun K hK => ?_
     try go_simp
     refine hK _ _ (fun _ => HSv) ?_
     try simp only [aZ, aA, aE, aB, aC, aD]
     clear HSv s2 q0 q1 q2 q3; refine hone 3 rfl fun K hK => ?_
     try go_simp
     go_at_call 177; refine (HJ1.out _).mono ?_; rintro e U ⟨rfl, hb⟩; have J1 := H_ (HI.out.go (Below.trans (Below.refl _ _).drew hb)); have HSv : (fun X : World => X.cell? ⟨sb, 2, none⟩ = some (.slice pa rs.length pc)) U := cellOf J1.out.sbk 2 _ rfl; clear hb; refine hK _ _ (fun _ => HSv) ?_
     try simp only [aZ, aA, aE, aB, aC, aD]
     refine hone 4 rfl fun K hK => ?_
     try go_simp
     have K1 := H_ (J1.out.go ((Below.refl _ _).alloc (Nat.le_refl _) (.cells #[.int .i64 129, .int .i64 4, .int .i64 vq, .int .i64 vq, .string d1.s] 64 (0, 0)))); have HN1 := H_ (at1 U (.cells #[.int .i64 129, .int .i64 4, .int .i64 vq, .int .i64 vq, .string d1.s] 64 (0, 0))); have HSv : (fun X : World => X.cell? ⟨sb, 2, none⟩ = some (.slice pa rs.length pc)) (U.alloc (.cells #[.int .i64 129, .int .i64 4, .int .i64 vq, .int .i64 vq, .string d1.s] 64 (0, 0))) := cellOf K1.out.sbk 2 _ rfl; refine hK _ _ (fun _ => HSv) ?_
     try simp only [aZ, aA, aE, aB, aC, aD]
     clear HSv; refine hend 5 ?_; simp only [aF, aG]
     go_wp2_with (first
      | (
       at_builtin; refine wpl_append_rules rfl _ _ rfl _ rs rfl K1.out.rp _ [⟨129, 4, vq, vq, d1.s⟩] rfl ((RRow.one ⟨129, 4, vq, vq, d1.s⟩ HN1.out (Nat.le_refl _)).rls (show 1 <= maxLen by decide)) (by intro n c h; cases h) (by have := HLR.out; simp only [List.length_singleton]; omega) K1.out.sz ?_
       intro x T r5 k5 o5; obtain ⟨xa, xc, rfl⟩ := r5.form; rw [List.length_append, List.length_singleton] at r5 o5; have I1 := H_ (K1.out.appP k5 r5 o5); have y4 := (k5.block _ K1.out.lt (fun he => (K1.out.dp _ he).1 rfl)).trans K1.out.sbk; have u2 := cellOf y4 2 _ rfl; have f2 := fun o => fzOf y4 o
       clear r5 k5 o5 y4))
     go_meet
     rw [<- HYY.out, if_neg (by decide), show justR 129 d1 = ⟨129, 4, vq, vq, d1.s⟩ by rw [<- HVQ.out]; rfl]; exact ⟨_, I1.out⟩
   . go_wp2_with fail
     go_meet
     rw [<- HYY.out, if_pos rfl, List.append_nil]; exact ⟨_, HI.out⟩
  case rest =>
  have HSI := hcut; clear hcut HI HYY q0 q1 q2 q3 wd; generalize wc = wd at *; have HLR2 := H_ (show (rs ++ (if adE d1 Ad.z then [] else [justR 129 d1])).length <= 11 from by have := HLR.out; split <;> simp <;> omega); clear HLR; generalize hrs : (rs ++ (if adE d1 Ad.z then [] else [justR 129 d1])) = rt at *; have HRT := H_ hrs; clear hrs; obtain ⟨pv, hI⟩ := HSI.out; obtain ⟨pa, pc, rfl⟩ := hI.rp.form; have HI := H_ hI; have hy := (hI.bl.block (w.heap.size + 1 + 1 + 1) (by have := HX.out.size; omega)).trans HX.out.x3; have q0 := cellOf hy 0 (.int .u8 (d2.a.toNat : Int)) rfl; have q1 := cellOf hy 1 (.int .u8 (d2.b.toNat : Int)) rfl; have q2 := cellOf hy 2 (.int .u8 (d2.c.toNat : Int)) rfl; have q3 := cellOf hy 3 (.int .u8 (d2.d.toNat : Int)) rfl; have n1 := N2.out; clear hI HSI hy N2; obtain ⟨y, hy⟩ : ∃ y, y = adE d2 Ad.z := ⟨_, rfl⟩; rw [<- hy] at n1; have HYY := H_ hy; clear hy
  go_upto_if 43 with (fail)
  clear n1
  go_cut [] (fun wx => Hid (∃ pv, SI 77 W wx sb av (.slice none 0 0) pv (.slice none 0 0) [⟨3, own.s⟩] [] (rt ++ (if adE d2 Ad.z then [] else [justR 131 d2])) [] cf tm fl wt))
  case first =>
   cases y
   . have s2 := cellOf HI.out.sbk 2 _ rfl; have HJ1 := H_ (fun W => just_any 131 d2 W); unfold Ad.v at HJ1; generalize hvq : valB [d2.a, d2.b, d2.c, d2.d] = vq at *; have HVQ := H_ hvq; clear hvq; go_wp2_with fail; refine wp_region_H (rgH 1 5) (fun X : World => X.cell? ⟨sb, 2, none⟩ = some (.slice pa rt.length pc)) (by kernel_rfl) ?_; have HSv : (fun X : World => X.cell? ⟨sb, 2, none⟩ = some (.slice pa rt.length pc)) wd.drew := s2; refine hatP 0 rfl (by intro W _; go_simp; try rfl) ?_; simp only [aZ, aC, aD]; refine hatH 1 rfl (by rintro W h0; go_simp; try rfl) HSv ?_; simp only [aZ, aC, aD]; refine hone 2 rfl fun K hK => ?_
     try go_simp
     refine hK _ _ (fun _ => HSv) ?_
     try simp only [aZ, aA, aE, aB, aC, aD]
     clear HSv s2 q0 q1 q2 q3; refine hone 3 rfl fun K hK => ?_
     try go_simp
     go_at_call 177; refine (HJ1.out _).mono ?_; rintro e U ⟨rfl, hb⟩; have J1 := H_ (HI.out.go (Below.trans (Below.refl _ _).drew hb)); have HSv : (fun X : World => X.cell? ⟨sb, 2, none⟩ = some (.slice pa rt.length pc)) U := cellOf J1.out.sbk 2 _ rfl; clear hb; refine hK _ _ (fun _ => HSv) ?_
     try simp only [aZ, aA, aE, aB, aC, aD]
     refine hone 4 rfl fun K hK => ?_
     try go_simp
     have K1 := H_ (J1.out.go ((Below.refl _ _).alloc (Nat.le_refl _) (.cells #[.int .i64 131, .int .i64 4, .int .i64 vq, .int .i64 vq, .string d2.s] 64 (0, 0)))); have HN1 := H_ (at1 U (.cells #[.int .i64 131, .int .i64 4, .int .i64 vq, .int .i64 vq, .string d2.s] 64 (0, 0))); have HSv : (fun X : World => X.cell? ⟨sb, 2, none⟩ = some (.slice pa rt.length pc)) (U.alloc (.cells #[.int .i64 131, .int .i64 4, .int .i64 vq, .int .i64 vq, .string d2.s] 64 (0, 0))) := cellOf K1.out.sbk 2 _ rfl; refine hK _ _ (fun _ => HSv) ?_
     try simp only [aZ, aA, aE, aB, aC, aD]
     clear HSv; refine hend 5 ?_; simp only [aF, aG]
     go_wp2_with (first
      | (
       at_builtin; refine wpl_append_rules rfl _ _ rfl _ rt rfl K1.out.rp _ [⟨131, 4, vq, vq, d2.s⟩] rfl ((RRow.one ⟨131, 4, vq, vq, d2.s⟩ HN1.out (Nat.le_refl _)).rls (show 1 <= maxLen by decide)) (by intro n c h; cases h) (by have := HLR2.out; simp only [List.length_singleton]; omega) K1.out.sz ?_
       intro x T r5 k5 o5; obtain ⟨xa, xc, rfl⟩ := r5.form; rw [List.length_append, List.length_singleton] at r5 o5; have I1 := H_ (K1.out.appP k5 r5 o5); have y4 := (k5.block _ K1.out.lt (fun he => (K1.out.dp _ he).1 rfl)).trans K1.out.sbk; have u2 := cellOf y4 2 _ rfl; have f2 := fun o => fzOf y4 o
       clear r5 k5 o5 y4))
     go_meet
     rw [<- HYY.out, if_neg (by decide), show justR 131 d2 = ⟨131, 4, vq, vq, d2.s⟩ by rw [<- HVQ.out]; rfl]; exact ⟨_, I1.out⟩
   . go_wp2_with fail
     go_meet
     rw [<- HYY.out, if_pos rfl, List.append_nil]; exact ⟨_, HI.out⟩
  case rest =>
  obtain ⟨pv, hI⟩ := hcut.out
  have e : rt ++ (if adE d2 Ad.z then [] else [justR 131 d2]) = srvR peer d1 d2 := by
   unfold srvR; rw [<- HRT.out, <- HRS.out, <- HVP.out]; rfl
  rw [e] at hI; clear hcut HI HYY q0 q1 q2 q3 wd e; have s0 := cellOf hI.sbk 0 _ rfl; have s1 := cellOf hI.sbk 1 _ rfl; have s2 := cellOf hI.sbk 2 _ rfl; have s3 := cellOf hI.sbk 3 _ rfl; have s4 := cellOf hI.sbk 4 _ rfl; have s5 := cellOf hI.sbk 5 _ rfl; have s6 := cellOf hI.sbk 6 _ rfl; have s7 := cellOf hI.sbk 7 _ rfl; have hok := srvR_ok peer d1 d2; have HN := H_ (new_si_or [⟨3, own.s⟩] [] (srvR peer d1 d2) [] hI (by decide) (by omega) (by decide) (by simp) (fun o ho => by simp only [List.mem_singleton] at ho; subst ho; show 4 <= 100000; decide) rfl rfl (by rw [List.nil_append]; exact hok.2.1) (by rw [List.nil_append]; exact hok.2.2)); clear hI hok; go_wp2_with fail; refine HN.out.mono ?_; rintro e w9 ⟨v, rfl, h1⟩; obtain ⟨pa, pz, rfl⟩ := h1.form; have H9 := H_ h1; clear h1; go_wp2_with fail; go_ret2; exact ⟨_, rfl, H9.out.go HX.out.bl⟩
theorem cliA_same {dns : Bool} {k : Nat} (h : dns = false \/ k = 0) : cliA dns (k + 1) = cliA dns k := by
 rcases h with rfl | rfl
 . unfold cliA; rfl
 . cases dns <;> rfl
theorem cliA_next {k : Nat} (h0 : 1 <= k) (h : k < 3) : cliA true k ++ [⟨kdA k, n4⟩] = cliA true (k + 1) := by
 rcases (show k = 1 \/ k = 2 by omega) with rfl | rfl <;> rfl
theorem cliA_len (dns : Bool) {k : Nat} (h : k <= 3) : (cliA dns k).length <= 3 := by
 rcases (show k = 0 \/ k = 1 \/ k = 2 \/ k = 3 by omega) with rfl | rfl | rfl | rfl <;> cases dns <;> decide
theorem kdA_3 (k : Nat) : (kdA k = 3) ↔ k = 0 := by
 unfold kdA; split <;> simp <;> omega
set_option maxRecDepth 100000 in
theorem client_or (cf tm fl wt : Int) (dns : Bool) (w : World) :
 Calls Tryz.prog 62 #[.int .i64 cf, .int .i64 tm, .int .i64 fl, .int .i64 wt, .bool dns] w fun e w' => ∃ v, e = .returned v /\ NewOr w w' v (cliA dns 3) (cliO 3) [spanR 3 0 n4] [3] cf tm fl wt := by
 have b1 := (Below.refl w.heap.size w).alloc (Nat.le_refl _) (.cells #[.int .i64 3, .string ⟨#[0, 0, 0, 0]⟩] 91 (0, 0)); have z1 := at1 w (.cells #[.int .i64 3, .string ⟨#[0, 0, 0, 0]⟩] 91 (0, 0)); have H1 := H_ (A_ b1 (A_ z1 (alloc1 w (.cells #[.int .i64 3, .string ⟨#[0, 0, 0, 0]⟩] 91 (0, 0))))); clear b1 z1; go_enter Tryz.func62, Tryz.ntmps62; go_wp2_with fail; refine (span_any 3 0 ⟨#[0, 0, 0, 0]⟩ _).mono ?_; rintro e w1 ⟨rfl, hb⟩; have H2 := H_ (A_ (H1.out.1.trans (hb.mono H1.out.1.size)) (A_ ((hb.block _ (by rw [H1.out.2.2]; omega)).trans H1.out.2.1) (show w.heap.size + 1 <= w1.heap.size by have := hb.size; rw [H1.out.2.2] at this; exact this))); clear hb
 obtain ⟨W, hW, hI, hsz⟩ : ∃ W, W = ((w1.alloc (.cells #[.int .i64 3, .int .i64 4, .int .i64 0, .int .i64 4294967295, .string ⟨#[0, 0, 0, 0]⟩] 64 (0, 0))).alloc (.cells #[.int .i64 3] 3 (0, 0))).alloc (.cells #[.slice (some ⟨w.heap.size, 0, none⟩) 1 1, .slice none 0 0, .slice (some ⟨w1.heap.size, 0, none⟩) 1 1, .slice (some ⟨w1.heap.size + 1, 0, none⟩) 1 1, .int .i64 cf, .int .i64 tm, .int .i64 fl, .int .i64 wt] 77 (0, 0)) /\
  SI 77 w W (w1.heap.size + 1 + 1) (.slice (some ⟨w.heap.size, 0, none⟩) 1 1) (.slice none 0 0) (.slice (some ⟨w1.heap.size, 0, none⟩) 1 1) (.slice (some ⟨w1.heap.size + 1, 0, none⟩) 1 1) [⟨3, n4⟩] [] [spanR 3 0 n4] [3] cf tm fl wt /\ W.heap.size = w1.heap.size + 1 + 1 + 1 := by
  obtain ⟨h1, h2, h3⟩ := H2.out; have e1 := alloc1 w1 (.cells #[.int .i64 3, .int .i64 4, .int .i64 0, .int .i64 4294967295, .string ⟨#[0, 0, 0, 0]⟩] 64 (0, 0)); have e2 := alloc1 (w1.alloc (.cells #[.int .i64 3, .int .i64 4, .int .i64 0, .int .i64 4294967295, .string ⟨#[0, 0, 0, 0]⟩] 64 (0, 0))) (.cells #[.int .i64 3] 3 (0, 0)); have hb : Below w1.heap.size w1 (((w1.alloc (.cells #[.int .i64 3, .int .i64 4, .int .i64 0, .int .i64 4294967295, .string ⟨#[0, 0, 0, 0]⟩] 64 (0, 0))).alloc (.cells #[.int .i64 3] 3 (0, 0))).alloc (.cells #[.slice (some ⟨w.heap.size, 0, none⟩) 1 1, .slice none 0 0, .slice (some ⟨w1.heap.size, 0, none⟩) 1 1, .slice (some ⟨w1.heap.size + 1, 0, none⟩) 1 1, .int .i64 cf, .int .i64 tm, .int .i64 fl, .int .i64 wt] 77 (0, 0))) := (((Below.refl _ _).alloc (Nat.le_refl _) _).alloc (by omega) _).alloc (by omega) _
  exact ⟨_, rfl, {
   bl := h1.trans (hb.mono h1.size)
   sbk := by rw [show w1.heap.size + 1 + 1 = ((w1.alloc (.cells #[.int .i64 3, .int .i64 4, .int .i64 0, .int .i64 4294967295, .string ⟨#[0, 0, 0, 0]⟩] 64 (0, 0))).alloc (.cells #[.int .i64 3] 3 (0, 0))).heap.size by omega]; exact at1 _ _
   hs := by omega
   ra := ORow.one ⟨3, n4⟩ ((hb.block _ (by omega)).trans h2) (Nat.le_refl _)
   ro := RRow.nil _ _
   rp := RRow.one (spanR 3 0 n4) (by rw [Below.heap_alloc _ _ _ (by omega), Below.heap_alloc _ _ _ (by omega)]; exact at1 _ _) (by omega)
   rm := NRow.one 3 (by rw [Below.heap_alloc _ _ _ (by omega), <- e1]; exact at1 _ _) (by omega)
   da := fun k hk => by
    have hk : w.heap.size = k := by simpa [Value.ownBlock] using hk
    subst hk; refine ⟨by omega, (fun h => by cases h), fun h => ?_, fun h => ?_⟩
    . have : w1.heap.size = w.heap.size := by simpa [Value.ownBlock] using h
      omega
    . have : w1.heap.size + 1 = w.heap.size := by simpa [Value.ownBlock] using h
      omega
   dO := fun k hk => by cases hk
   dp := fun k hk => by
    have hk : w1.heap.size = k := by simpa [Value.ownBlock] using hk
    subst hk; exact ⟨by omega, fun h => by simp [Value.ownBlock] at h⟩
   dm := fun k hk => by
    have hk : w1.heap.size + 1 = k := by simpa [Value.ownBlock] using hk
    omega }, by rw [alloc1]; omega⟩
 have HJ := H_ hI; have HZ := H_ hsz; clear hI hsz H1 H2
 go_upto_block 0 with fail
 rw [<- hW]; clear hW; go_wp2_with fail
 have hCI : CI9 77 (.slice (some ⟨w1.heap.size, 0, none⟩) 1 1) [spanR 3 0 n4] w (W.alloc (.cells #[.int .i64 3, .int .i64 129, .int .i64 131] 3 (0, 0))) (w1.heap.size + 1 + 1) (w1.heap.size + 1 + 1 + 1) (.slice none 0 0) (.slice (some ⟨w.heap.size, 0, none⟩) 1 1) (w1.heap.size + 1) (cliA dns 0) 0 cf tm fl wt :=
  ⟨by have := HJ.out.go ((Below.refl _ _).alloc (Nat.le_refl _) (.cells #[.int .i64 3, .int .i64 129, .int .i64 131] 3 (0, 0))); cases dns <;> exact this, by rw [<- HZ.out]; exact at1 _ _, (by intro g hg; cases hg), (fun g hg e => by have := (HJ.out.ra.lt g hg).1; have := HZ.out; omega), fun e => by omega⟩
 have HCI := H_ hCI; clear hCI HJ HZ; generalize W.alloc (.cells #[.int .i64 3, .int .i64 129, .int .i64 131] 3 (0, 0)) = wL at *; generalize w1.heap.size + 1 + 1 + 1 = ib at *; generalize w1.heap.size + 1 + 1 = sb at *; generalize w1.heap.size + 1 = nm at *; generalize (Value.slice (some ⟨w1.heap.size, 0, none⟩) 1 1) = pv at *
 go_loopg [27] 3 (fun x i wr => ∃ k : Nat, k <= 3 /\ x = 3 - k /\ i = .int .i64 k /\ Hid (∃ ov av, CI9 77 pv [spanR 3 0 n4] w wr sb ib ov av nm (cliA dns k) k cf tm fl wt))
 case atStart => exact ⟨0, by omega, by omega, rfl, _, _, HCI.out⟩
 case round =>
  obtain ⟨k, hk, rfl, rfl, hK⟩ := hrel; obtain ⟨ov, av, hI⟩ := hK.out; obtain ⟨oa, oc, rfl⟩ := hI.i.ro.form; rw [cliO_len hk] at hI; have HI := H_ hI; clear hI hK HCI
  by_cases hk3 : k < 3
  . have kc := kd_cell HI.out hk3; have s1 := cellOf HI.out.i.sbk 1 _ rfl; have HKD := H_ hk3; obtain ⟨kd, hkd⟩ : ∃ kd, kd = kdA k := ⟨_, rfl⟩; rw [<- hkd] at kc; have hk0 : (kd = 3) ↔ k = 0 := by rw [hkd]; exact kdA_3 k
    have HKE := H_ hkd; have HK0 := H_ hk0; clear hkd hk0; go_wp2_with fail; refine wp_region_H (rgH 1 5) (fun X : World => X.cell? ⟨sb, 1, none⟩ = some (.slice oa k oc)) (by kernel_rfl) ?_; have HSv : (fun X : World => X.cell? ⟨sb, 1, none⟩ = some (.slice oa k oc)) wr.drew := s1; refine hatP 0 rfl (by intro W _; go_simp; try rfl) ?_; simp only [aZ, aC, aD]; refine hatH 1 rfl (by rintro W h0; go_simp; try rfl) HSv ?_; simp only [aZ, aC, aD]; refine hone 2 rfl fun K hK => ?_
    try go_simp
    refine hK _ _ (fun _ => HSv) ?_
    try simp only [aZ, aA, aE, aB, aC, aD]
    clear HSv s1 kc; refine hone 3 rfl fun K hK => ?_
    try go_simp
    go_at_call 180; refine (span_any kd 1 ⟨#[0, 0, 0, 1]⟩ _).mono ?_; rintro e U ⟨rfl, hb⟩; have J := H_ ((HI.out.go (Below.refl _ _).drew).go hb); have HSv : (fun X : World => X.cell? ⟨sb, 1, none⟩ = some (.slice oa k oc)) U := cellOf J.out.i.sbk 1 _ rfl; clear hb; refine hK _ _ (fun _ => HSv) ?_
    try simp only [aZ, aA, aE, aB, aC, aD]
    refine hone 4 rfl fun K hK => ?_
    try go_simp
    have K1 := H_ (J.out.go ((Below.refl _ _).alloc (Nat.le_refl _) (.cells #[.int .i64 kd, .int .i64 4, .int .i64 1, .int .i64 4294967295, .string ⟨#[0, 0, 0, 1]⟩] 64 (0, 0)))); have HN := H_ (at1 U (.cells #[.int .i64 kd, .int .i64 4, .int .i64 1, .int .i64 4294967295, .string ⟨#[0, 0, 0, 1]⟩] 64 (0, 0))); have HSv : (fun X : World => X.cell? ⟨sb, 1, none⟩ = some (.slice oa k oc)) (U.alloc (.cells #[.int .i64 kd, .int .i64 4, .int .i64 1, .int .i64 4294967295, .string ⟨#[0, 0, 0, 1]⟩] 64 (0, 0))) := cellOf K1.out.i.sbk 1 _ rfl; refine hK _ _ (fun _ => HSv) ?_
    try simp only [aZ, aA, aE, aB, aC, aD]
    clear HSv; refine hend 5 ?_; simp only [aF, aG]
    go_upto_region 6 with (first
     | (
      at_builtin; refine wpl_append_rules rfl _ _ rfl _ (cliO k) rfl K1.out.i.ro _ [⟨kd, 4, 1, 4294967295, ⟨#[0, 0, 0, 1]⟩⟩] rfl ((RRow.one ⟨kd, 4, 1, 4294967295, ⟨#[0, 0, 0, 1]⟩⟩ HN.out (Nat.le_refl _)).rls (show 1 <= maxLen by decide)) (by intro n c h; cases h) (by rw [cliO_len hk]; simp; omega) K1.out.i.sz ?_
      intro x T r5 k5 o5; obtain ⟨xa, xc, rfl⟩ := r5.form; rw [List.length_append, List.length_singleton] at r5 o5; rw [HKE.out] at r5; have I1 := H_ (K1.out.app HKD.out k5 r5 o5); have y4 := (k5.block _ K1.out.i.lt (fun he => (K1.out.i.dO _ he).1 rfl)).trans K1.out.i.sbk; have u2 := cellOf y4 1 _ rfl; have f2 := fun o => fzOf y4 o
      clear r5 k5 o5 y4))
    clear K1 J HN u2 f2; generalize T.setCell ⟨sb, 1, none⟩ (.slice xa ((cliO k).length + 1) xc) = wq at *
    by_cases hc : dns = false \/ k = 0
    . have hs := H_ (cliA_same hc); cases dns
      . clear hc; go_wp2_with fail
        go_roundg (3 - (k + 1))
        case measure => omega
        case rel => exact ⟨k + 1, by omega, rfl, by go_num, _, _, by rw [hs.out]; exact I1.out⟩
      . have hkd3 : kd = 3 := HK0.out.2 (by simpa using hc); clear HKE HK0 hc; subst hkd3; go_wp2_with fail
        go_roundg (3 - (k + 1))
        case measure => omega
        case rel => exact ⟨k + 1, by omega, rfl, by go_num, _, _, by rw [hs.out]; exact I1.out⟩
    . obtain ⟨rfl, hk1⟩ : dns = true /\ 1 <= k := by cases dns <;> simp at hc ⊢; omega
      have hne : ¬ kd = 3 := fun e => by have := HK0.out.1 e; omega
      have e1 : (kd == 3) = false := by simpa using hne
      have e2 : (kd != 3) = true := by simpa using hne
      clear hc HK0; obtain ⟨aa, ac, ea⟩ := I1.out.i.ra.form; subst ea; have s0 := cellOf I1.out.i.sbk 0 _ rfl; have fz := fun o => fzOf I1.out.i.sbk o; have K2 := H_ (I1.out.go ((Below.refl _ _).alloc (Nat.le_refl _) (.cells #[.int .i64 kd, .string ⟨#[0, 0, 0, 0]⟩] 91 (0, 0)))); have HN2 := H_ (at1 wq (.cells #[.int .i64 kd, .string ⟨#[0, 0, 0, 0]⟩] 91 (0, 0))); have HLA := H_ (cliA_len true hk); clear I1
      go_wp2_with (first
       | (
        at_builtin; refine wpl_append_opts9 rfl _ _ rfl _ (cliA true k) rfl K2.out.i.ra _ [⟨kd, n4⟩] rfl ((ORow.one ⟨kd, n4⟩ HN2.out (Nat.le_refl _)).opts (show 1 <= maxLen by decide)) (by intro n c h; cases h) (by have := HLA.out; simp only [List.length_singleton]; omega) K2.out.i.sz ?_
        intro x T2 r6 k6 o6; obtain ⟨ya, yc, rfl⟩ := r6.form; rw [List.length_append, List.length_singleton] at r6 o6; rw [HKE.out, cliA_next hk1 HKD.out] at r6; have I2 := H_ (K2.out.appA k6 r6 o6); have y5 := (k6.block _ K2.out.i.lt (fun he => (K2.out.i.da _ he).1 rfl)).trans K2.out.i.sbk; have u3 := cellOf y5 0 _ rfl; have f3 := fun o => fzOf y5 o
        clear r6 k6 o6 y5))
      go_roundg (3 - (k + 1))
      case measure => omega
      case rel => exact ⟨k + 1, by omega, rfl, by go_num, _, _, I2.out⟩
  . obtain rfl : k = 3 := by omega
    have hI := HI.out.i; have s0 := cellOf hI.sbk 0 _ rfl; have s1 := cellOf hI.sbk 1 _ rfl; have s2 := cellOf hI.sbk 2 _ rfl; have s3 := cellOf hI.sbk 3 _ rfl; have s4 := cellOf hI.sbk 4 _ rfl; have s5 := cellOf hI.sbk 5 _ rfl; have s6 := cellOf hI.sbk 6 _ rfl; have s7 := cellOf hI.sbk 7 _ rfl; have HN := H_ (new_si_or (cliA dns 3) (cliO 3) [spanR 3 0 n4] [3] hI (by decide) (by decide) (by decide) (by cases dns <;> decide) (by cases dns <;> decide) (by cases dns <;> rfl) (by cases dns <;> rfl) (by decide) (by rfl)); clear hI HI; go_wp2_with fail; refine HN.out.mono ?_; rintro e w9 ⟨v, rfl, h1⟩; obtain ⟨pa, pz, rfl⟩ := h1.form; have H9 := H_ h1; clear h1; go_wp2_with fail; go_ret2; exact ⟨_, rfl, H9.out⟩
def adA : Ad := ⟨10, 0, 0, 1⟩
def adB : Ad := ⟨10, 0, 0, 7⟩
def askI : List Opt := [⟨3, adA.s⟩]
def CI (jb : Nat) : NegC := ⟨[], srvR adB Ad.z Ad.z, [], 5, 2, 5, 3, ownJ jb⟩
def sI (s c id asked naks : Int) : NSt := ⟨s, c, id, asked, naks, 0, askI, [], [], 0, 0⟩
theorem eI1 (jb : Nat) : evS noR (CI jb) (st0 askI) 2 noCame = (sI 1 0 0 0 0, []) := by kernel_rfl
theorem eI2 (jb : Nat) : evS noR (CI jb) (sI 1 0 0 0 0) 0 noCame = (sI 6 4 1 1 0, [⟨1, 1, askI, noB⟩]) := by kernel_rfl
theorem eIJ : judgeS (srvR adB Ad.z Ad.z) [⟨3, ⟨#[0, 0, 0, 0]⟩⟩] = (3, [⟨3, adB.s⟩]) := by kernel_rfl
theorem eI3 (jb : Nat) : reqS noR (CI jb) (sI 6 4 1 1 0) ⟨1, 1, [⟨3, ⟨#[0, 0, 0, 0]⟩⟩], noB⟩ (3, [⟨3, adB.s⟩]) = (sI 6 4 1 1 1, [⟨3, 1, [⟨3, adB.s⟩], noB⟩]) := by kernel_rfl
theorem sayAll_less (rej : Pk -> ByteArray) (B : NegB) (C : NegC) (c : Came) (po pa : Value) (xs : List Int) (h : ∀ a ∈ xs, 0 <= a /\ a <= 12 /\ a ≠ 11) : SayAll rej B C c po pa xs :=
 fun a ha ok => say_less rej B C ok c po pa a (h a ha).1 (h a ha).2.1 (h a ha).2.2
theorem nextL_7 : ∀ s ∈ [0, 1, 2, 3, 4, 5, 6, 7, 8, 9], ∀ a ∈ nextL s 7, a ≠ 11 := by decide
theorem sayAll_7 (rej : Pk -> ByteArray) (B : NegB) (C : NegC) (c : Came) (po pa : Value) (s : Int) (hs : 0 <= s /\ s <= 9) : SayAll rej B C c po pa (nextL s 7) := by
 refine sayAll_less rej B C c po pa _ (fun a ha => ?_); have h1 := nextL_bd s 7 a ha; have h2 : s ∈ [0, 1, 2, 3, 4, 5, 6, 7, 8, 9] := by simp only [List.mem_cons, List.not_mem_nil, or_false]; omega
 exact ⟨h1.1, h1.2, nextL_7 s h2 a ha⟩
set_option maxRecDepth 100000 in
theorem alive17_any (w : World) : Calls Tryz.prog 59 #[] w fun e w' => e = .returned (.bool true) /\ Below w.heap.size w w' := by
 have q1 : ∀ w a, (binOp .eql 82 (.pointer (some a)) (.pointer none)).run Tryz.prog w = .ok (.bool false) w := fun w a => by kernel_rfl
 have hS := server_or adA adB Ad.z Ad.z 5 2 5 3 w; rw [show adA.v = .agg #[.int .u8 10, .int .u8 0, .int .u8 0, .int .u8 1] from rfl, show adB.v = .agg #[.int .u8 10, .int .u8 0, .int .u8 0, .int .u8 7] from rfl, <- adz] at hS; have HS := H_ hS; have G1 := H_ (fun w => good_any ⟨1, 0, 0, 0⟩ ⟨1, 0, 0, 0⟩ w); rw [show (Ad.mk 1 0 0 0).v = .agg #[.int .u8 1, .int .u8 0, .int .u8 0, .int .u8 0] from rfl, show goodS ⟨1, 0, 0, 0⟩ ⟨1, 0, 0, 0⟩ = true from rfl] at G1; have G2 := H_ (fun w => good_any Ad.z Ad.z w); rw [<- adz, show goodS Ad.z Ad.z = false from rfl] at G2; clear hS; go_enter Tryz.func59, Tryz.ntmps59; go_wp2_with fail; refine HS.out.mono ?_; rintro e w1 ⟨v, rfl, hor⟩; obtain ⟨B, jb, rfl, hv, hj, hjs, hjt, hb⟩ := hor.elim (fun h => h.2) (fun h => absurd h.1 (by decide)); have h1 : NegP w1 (fun b => w.heap.size <= b) B (CI jb) (st0 askI) jb := ⟨hv, hj, hjt, hjs, rfl⟩; have D1 := H_ (A_ (DoP noR 2 (by decide) h1) (A_ h1 hb)); rw [eI1] at D1; clear hv hj hjs hjt hb h1; go_wp2_with fail; refine D1.out.1.mono ?_; rintro e w2 ⟨v2, rfl, p2, h2, k2⟩; obtain ⟨⟨S2, n2, m2⟩, b2⟩ : NegQ w w2 B (CI jb) (sI 1 0 0 0 0) jb := NegQ.ev D1.out.2.2 (fun b hb => hb) D1.out.2.1 h2 k2; have D2 := H_ (A_ (DoP noR 0 (by decide) n2) (A_ n2 (A_ m2 b2))); rw [eI2] at D2; clear p2 h2 k2 n2 m2 b2; go_wp2_with fail; refine D2.out.1.mono ?_; rintro e w3 ⟨v3, rfl, p3, h3, k3⟩; obtain ⟨⟨S3, n3, m3⟩, b3⟩ : NegQ w w3 B (CI jb) (sI 6 4 1 1 0) jb := NegQ.ev D2.out.2.2.2 D2.out.2.2.1 D2.out.2.1 h3 k3; have b4 : Below w3.heap.size w3 (w3.alloc (.cells #[.int .i64 3, .string ⟨#[0, 0, 0, 0]⟩] 91 (0, 0))) := (Below.refl _ _).alloc (Nat.le_refl _) _; have o4 : Opts (w3.alloc (.cells #[.int .i64 3, .string ⟨#[0, 0, 0, 0]⟩] 91 (0, 0))) (fun b => w3.heap.size <= b) (.slice (some ⟨w3.heap.size, 0, none⟩) 1 1) [⟨3, ⟨#[0, 0, 0, 0]⟩⟩] := (ORow.one ⟨3, ⟨#[0, 0, 0, 0]⟩⟩ (at1 w3 _) (Nat.le_refl _)).opts (show 1 <= maxLen by decide); have n4 := n3.below b4; have T4 := take1P noR ⟨1, 1, [⟨3, ⟨#[0, 0, 0, 0]⟩⟩], noB⟩ _ rfl n4 o4 (fun b hb ht => by have := n3.tlt ht; omega) (show 1 <= 1000000 by decide) (fun o ho => by simp only [List.mem_singleton] at ho; subst ho; show (Lit.int .i64 3).wf = true; decide) (fun o ho => by simp only [List.mem_singleton] at ho; subst ho; show 4 <= 100000; decide) (fun _ pa => sayAll_7 _ _ _ _ _ _ _ (by decide)); rw [show (CI jb).peer = srvR adB Ad.z Ad.z from rfl, eIJ, eI3] at T4; unfold pkV noB at T4; have HB4 := H_ (b3.trans (b4.mono b3.size)); have T := H_ (A_ T4 (A_ n4 m3)); clear p3 h3 k3 n3 m3 b3 b4 o4 n4 T4; go_wp2_with fail; refine T.out.1.mono ?_; rintro e w5 ⟨v5, rfl, p5, h5, k5⟩; have b5 := (NegQ.ev HB4.out T.out.2.2 T.out.2.1 h5 k5).2; obtain ⟨g, cap, po, rfl, g1, g2, g3, g4, x0, x1, x2, x3, xo⟩ := p5.at0; obtain ⟨oa, oc, rfl, -, -⟩ := xo.form; obtain ⟨b, off, rfl, -, -, -, -, -, y0, y1⟩ := xo.at 0 (by decide); simp only [Nat.zero_mul, Nat.add_zero] at y0 y1; rw [show adB.s = ⟨#[10, 0, 0, 7]⟩ from rfl] at y1; have HB5 := H_ b5; clear p5 h5 k5 xo b5
 go_wp2_with (first
  | (go_at_call 176; with_reducible refine (G1.out _).mono ?_; rintro e w6 ⟨rfl, b6⟩; have HB6 := H_ (HB5.out.trans (b6.mono HB5.out.size)); clear b6)
  | (go_at_call 176; with_reducible refine (G2.out _).mono ?_; rintro e w7 ⟨rfl, b7⟩; have HB7 := H_ (HB6.out.trans (b7.mono HB6.out.size)); clear b7))
 go_ret; exact ⟨rfl, HB7.out⟩
end Go.Proofs.YtignponfoheaeaaGreat
