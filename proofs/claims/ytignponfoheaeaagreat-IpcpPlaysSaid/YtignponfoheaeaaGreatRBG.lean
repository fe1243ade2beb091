import Derived.Test.YtignponfoheaeaaGreatRBA
import Derived.Test.YtignponfoheaeaaGreatRBF
import Derived.Test.YtignponfoheaeaaGreatRAW
import Derived.Deep.DeepCutAuto
import Derived.Deep.CutBlock
set_option linter.unusedVariables false
set_option linter.unusedSimpArgs false
set_option maxHeartbeats 16000000
namespace Go.Proofs.YtignponfoheaeaaGreat
open Go.RowKit Go.Tg Go.Maps
structure Bx5 (w W : World) (own peer d1 d2 : Ad) (n0 n1 n2 n3 : Int) : Prop where
 bl : Below w.heap.size w W
 x0 : W.heap[w.heap.size]? = some (.cells own.cs 111 (0, 0))
 x1 : W.heap[w.heap.size + 1]? = some (.cells peer.cs 111 (0, 0))
 x2 : W.heap[w.heap.size + 1 + 1]? = some (.cells d1.cs 111 (0, 0))
 x3 : W.heap[w.heap.size + 1 + 1 + 1]? = some (.cells d2.cs 111 (0, 0))
 x4 : W.heap[w.heap.size + 1 + 1 + 1 + 1]? = some (.cells #[.int .i64 n0, .int .i64 n1, .int .i64 n2, .int .i64 n3] 112 (0, 0))
theorem Bx5.go {w W W' : World} {own peer d1 d2 : Ad} {n0 n1 n2 n3 : Int} (h : Bx5 w W own peer d1 d2 n0 n1 n2 n3) (hb : Below W.heap.size W W') : Bx5 w W' own peer d1 d2 n0 n1 n2 n3 :=
 ⟨h.bl.trans (hb.mono h.bl.size), keep_at hb h.x0, keep_at hb h.x1, keep_at hb h.x2, keep_at hb h.x3, keep_at hb h.x4⟩
theorem bx5_at (w : World) (own peer d1 d2 : Ad) (n0 n1 n2 n3 : Int) : ∃ W, W = ((((w.alloc (.cells own.cs 111 (0, 0))).alloc (.cells peer.cs 111 (0, 0))).alloc (.cells d1.cs 111 (0, 0))).alloc (.cells d2.cs 111 (0, 0))).alloc (.cells #[.int .i64 n0, .int .i64 n1, .int .i64 n2, .int .i64 n3] 112 (0, 0)) /\ Bx5 w W own peer d1 d2 n0 n1 n2 n3 := by
 obtain ⟨V, hV, H⟩ := boxes_at w own peer d1 d2; rw [<- hV]; have hb := (Below.refl V.heap.size V).alloc (Nat.le_refl _) (.cells #[.int .i64 n0, .int .i64 n1, .int .i64 n2, .int .i64 n3] 112 (0, 0)); exact ⟨_, rfl, H.bl.trans (hb.mono H.bl.size), keep_at hb H.x0, keep_at hb H.x1, keep_at hb H.x2, keep_at hb H.x3, by rw [<- H.size]; exact at1 _ _⟩
theorem cell_same {w w' : World} {b : Nat} (h : w'.heap[b]? = w.heap[b]?) (o : Nat) : w'.cell? ⟨b, o, none⟩ = w.cell? ⟨b, o, none⟩ := by
 simp only [World.cell?, h]
structure IpOk (W wL : World) (B : NegB) (rb jb : Nat) (C : NegC) (st : NSt) (wM : World) : Prop where
 neg : NegP wM (fun g => W.heap.size <= g) B C st jb
 ref : RNV wL (fun g => wM.heap.size <= g) rb C st
 t0 : st.ticks = 0
 b1 : Below W.heap.size W wM
 b2 : Below wM.heap.size wM wL
def IpS (W wL : World) (n r e f : Value) : Prop :=
 (e = .int .i64 0 /\ f = .int .i64 0 /\ ∃ B rb jb C st wM, n = .pointer (some ⟨B.nb, 0, none⟩) /\ r = .pointer (some ⟨rb, 0, none⟩) /\ IpOk W wL B rb jb C st wM) \/
 (e = .int .i64 1 /\ f = .int .i64 1 /\ n = .pointer none /\ r = .pointer none /\ Below W.heap.size W wL)
theorem IpS.err {W w1 wL : World} (h1 : Below W.heap.size W w1) (h2 : Below w1.heap.size w1 wL) : IpS W wL (.pointer none) (.pointer none) (.int .i64 1) (.int .i64 1) := .inr ⟨rfl, rfl, rfl, rfl, h1.trans (h2.mono h1.size)⟩
set_option maxRecDepth 100000 in
theorem ipcpPlays_any (own peer d1 d2 : Ad) (n0 n1 n2 n3 : Int) (dns server : Bool) (L : List OpV) (lv : Value) (w : World) (hl : OpsAt w (fun _ => True) lv L) :
 Calls Tryz.prog 7 #[own.v, peer.v, d1.v, d2.v, .agg #[.int .i64 n0, .int .i64 n1, .int .i64 n2, .int .i64 n3], .bool dns, .bool server, lv] w fun e w' => e = .returned (.bool true) /\ Below w.heap.size w w' := by
 obtain ⟨W, hW, hX⟩ := bx5_at w own peer d1 d2 n0 n1 n2 n3; have hO : OpsAt w (fun b => b < w.heap.size) lv L := hl.old; have HM := H_ (fun W (hW : Below w.heap.size w W) => small_any L lv _ W (hO.below hW)); obtain ⟨sl, cl, rfl, hcl, hclm⟩ := hO.form; have HO := H_ hO; obtain ⟨len, hln⟩ : ∃ len, len = L.length := ⟨_, rfl⟩; have HLN := H_ hln; rw [<- hln] at hcl HM HO ⊢; unfold maxLen at hclm; have HX := H_ hX; clear hl hO hln hX; have S1 := H_ (fun Y => server_or own peer d1 d2 n0 n1 n2 n3 Y); have S2 := H_ (fun C hC Y => server9_or own peer d1 d2 n0 n1 n2 n3 C hC Y); have C1 := H_ (fun Y => client_or n0 n1 n2 n3 dns Y); have C2 := H_ (fun C hC Y => client9_or n0 n1 n2 n3 dns C hC Y); unfold Ad.v at S1 S2 ⊢; unfold Ad.cs at hW; go_enter Tryz.func7, Tryz.ntmps7; go_wp2_with fail; rw [<- hW]; clear hW; refine (HM.out W HX.out.bl).mono ?_; rintro e W ⟨⟨y2, rfl, p2⟩, rfl⟩
 cases y2 with
 | false =>
  go_wp2_with fail; refine (alive17_any _).mono ?_; rintro e w2 ⟨rfl, hb2⟩; have HB := H_ (HX.out.bl.trans (hb2.mono HX.out.bl.size)); clear hb2; go_wp2_with fail; go_ret; exact ⟨rfl, HB.out⟩
 | true =>
 have P2 := H_ (p2 rfl); clear p2 HM
 go_upto_if 29 with (fail)
 go_cut [17, 18, 19, 20] (fun n r e f wc => Hid (IpS W wc n r e f))
 case first =>
  as_aux_lemma =>
   cases server
   . as_aux_lemma =>
      have b0 := cellOf HX.out.x4 0 _ rfl; have b1 := cellOf HX.out.x4 1 _ rfl; have b2 := cellOf HX.out.x4 2 _ rfl; have b3 := cellOf HX.out.x4 3 _ rfl; go_wp2_with fail; clear b0 b1 b2 b3; refine (C1.out _).mono ?_; rintro e w1 ⟨v1, rfl, h1⟩
      rcases h1 with ⟨hn, B, jb, rfl, hv, hj, hjs, hjt, hb⟩ | ⟨hn, rfl, hb⟩
      . have H1 := H_ hb; have hneg : NegP w1 (fun g => W.heap.size <= g) B ⟨cliO 3, [spanR 3 0 n4], [3], n0, n1, n2, n3, ownJ jb⟩ (st0 (cliA dns 3)) jb := ⟨hv, hj, hjt, hjs, rfl⟩; have hCok : (⟨cliO 3, [spanR 3 0 n4], [3], n0, n1, n2, n3, ownJ jb⟩ : NegC).Ok := by obtain ⟨X, hX⟩ := hv; exact hX.ok
        have HNG := H_ hneg; have HC2 := H_ (C2.out ⟨cliO 3, [spanR 3 0 n4], [3], n0, n1, n2, n3, ownJ jb⟩ (fun _ => ⟨⟨rfl, rfl, rfl, rfl, rfl, rfl, rfl⟩, hCok⟩)); have HN := H_ hn; have hX := HX.out.go hb; clear hv hj hjs hjt hb hneg hCok hn; have b0 := cellOf hX.x4 0 _ rfl; have b1 := cellOf hX.x4 1 _ rfl; have b2 := cellOf hX.x4 2 _ rfl; have b3 := cellOf hX.x4 3 _ rfl; clear hX; go_wp2_with fail; clear b0 b1 b2 b3; refine (HC2.out _).mono ?_; rintro e w2 ⟨v2, rfl, h2⟩; obtain ⟨rb, rfl, hr, hb2⟩ := h2.elim (fun h => h.2) (fun h => absurd h.1 HN.out); have H2 := H_ (A_ hr hb2); clear hr hb2; go_wp2_with fail
        go_meet
        exact .inl ⟨rfl, rfl, B, rb, jb, _, _, w1, rfl, rfl, HNG.out, H2.out.1, rfl, H1.out, H2.out.2⟩
      . have H1 := H_ hb; have HC2 := H_ (C2.out ⟨[], [], [], 0, 0, 0, 0, ownJ 0⟩ (fun h => absurd hn h)); have HN := H_ hn; have hX := HX.out.go hb; clear hb hn; have b0 := cellOf hX.x4 0 _ rfl; have b1 := cellOf hX.x4 1 _ rfl; have b2 := cellOf hX.x4 2 _ rfl; have b3 := cellOf hX.x4 3 _ rfl; clear hX; go_wp2_with fail; clear b0 b1 b2 b3; refine (HC2.out _).mono ?_; rintro e w2 ⟨v2, rfl, h2⟩; obtain ⟨rfl, hb2⟩ := h2.elim (fun h => absurd HN.out h.1) (fun h => h.2); have H2 := H_ hb2; clear hb2; go_wp2_with fail
        go_meet
        exact IpS.err H1.out H2.out
   . as_aux_lemma =>
      have a00 := cellOf HX.out.x0 0 (.int .u8 (own.a.toNat : Int)) rfl; have a01 := cellOf HX.out.x0 1 (.int .u8 (own.b.toNat : Int)) rfl; have a02 := cellOf HX.out.x0 2 (.int .u8 (own.c.toNat : Int)) rfl; have a03 := cellOf HX.out.x0 3 (.int .u8 (own.d.toNat : Int)) rfl; have a10 := cellOf HX.out.x1 0 (.int .u8 (peer.a.toNat : Int)) rfl; have a11 := cellOf HX.out.x1 1 (.int .u8 (peer.b.toNat : Int)) rfl; have a12 := cellOf HX.out.x1 2 (.int .u8 (peer.c.toNat : Int)) rfl; have a13 := cellOf HX.out.x1 3 (.int .u8 (peer.d.toNat : Int)) rfl; have a20 := cellOf HX.out.x2 0 (.int .u8 (d1.a.toNat : Int)) rfl; have a21 := cellOf HX.out.x2 1 (.int .u8 (d1.b.toNat : Int)) rfl; have a22 := cellOf HX.out.x2 2 (.int .u8 (d1.c.toNat : Int)) rfl; have a23 := cellOf HX.out.x2 3 (.int .u8 (d1.d.toNat : Int)) rfl; have a30 := cellOf HX.out.x3 0 (.int .u8 (d2.a.toNat : Int)) rfl; have a31 := cellOf HX.out.x3 1 (.int .u8 (d2.b.toNat : Int)) rfl; have a32 := cellOf HX.out.x3 2 (.int .u8 (d2.c.toNat : Int)) rfl; have a33 := cellOf HX.out.x3 3 (.int .u8 (d2.d.toNat : Int)) rfl; have b0 := cellOf HX.out.x4 0 _ rfl; have b1 := cellOf HX.out.x4 1 _ rfl; have b2 := cellOf HX.out.x4 2 _ rfl; have b3 := cellOf HX.out.x4 3 _ rfl; go_wp2_with fail; clear a00 a01 a02 a03 a10 a11 a12 a13 a20 a21 a22 a23 a30 a31 a32 a33 b0 b1 b2 b3; refine (S1.out _).mono ?_; rintro e w1 ⟨v1, rfl, h1⟩
      rcases h1 with ⟨hn, B, jb, rfl, hv, hj, hjs, hjt, hb⟩ | ⟨hn, rfl, hb⟩
      . have H1 := H_ hb; have hneg : NegP w1 (fun g => W.heap.size <= g) B ⟨[], (srvR peer d1 d2), [], n0, n1, n2, n3, ownJ jb⟩ (st0 [⟨3, own.s⟩]) jb := ⟨hv, hj, hjt, hjs, rfl⟩; have hCok : (⟨[], (srvR peer d1 d2), [], n0, n1, n2, n3, ownJ jb⟩ : NegC).Ok := by obtain ⟨X, hX⟩ := hv; exact hX.ok
        have HNG := H_ hneg; have HC2 := H_ (S2.out ⟨[], (srvR peer d1 d2), [], n0, n1, n2, n3, ownJ jb⟩ (fun _ => ⟨⟨rfl, rfl, rfl, rfl, rfl, rfl, rfl⟩, hCok⟩)); have HN := H_ hn; have hX := HX.out.go hb; clear hv hj hjs hjt hb hneg hCok hn; have a00 := cellOf hX.x0 0 (.int .u8 (own.a.toNat : Int)) rfl; have a01 := cellOf hX.x0 1 (.int .u8 (own.b.toNat : Int)) rfl; have a02 := cellOf hX.x0 2 (.int .u8 (own.c.toNat : Int)) rfl; have a03 := cellOf hX.x0 3 (.int .u8 (own.d.toNat : Int)) rfl; have a10 := cellOf hX.x1 0 (.int .u8 (peer.a.toNat : Int)) rfl; have a11 := cellOf hX.x1 1 (.int .u8 (peer.b.toNat : Int)) rfl; have a12 := cellOf hX.x1 2 (.int .u8 (peer.c.toNat : Int)) rfl; have a13 := cellOf hX.x1 3 (.int .u8 (peer.d.toNat : Int)) rfl; have a20 := cellOf hX.x2 0 (.int .u8 (d1.a.toNat : Int)) rfl; have a21 := cellOf hX.x2 1 (.int .u8 (d1.b.toNat : Int)) rfl; have a22 := cellOf hX.x2 2 (.int .u8 (d1.c.toNat : Int)) rfl; have a23 := cellOf hX.x2 3 (.int .u8 (d1.d.toNat : Int)) rfl; have a30 := cellOf hX.x3 0 (.int .u8 (d2.a.toNat : Int)) rfl; have a31 := cellOf hX.x3 1 (.int .u8 (d2.b.toNat : Int)) rfl; have a32 := cellOf hX.x3 2 (.int .u8 (d2.c.toNat : Int)) rfl; have a33 := cellOf hX.x3 3 (.int .u8 (d2.d.toNat : Int)) rfl; have b0 := cellOf hX.x4 0 _ rfl; have b1 := cellOf hX.x4 1 _ rfl; have b2 := cellOf hX.x4 2 _ rfl; have b3 := cellOf hX.x4 3 _ rfl; clear hX; go_wp2_with fail; clear a00 a01 a02 a03 a10 a11 a12 a13 a20 a21 a22 a23 a30 a31 a32 a33 b0 b1 b2 b3; refine (HC2.out _).mono ?_; rintro e w2 ⟨v2, rfl, h2⟩; obtain ⟨rb, rfl, hr, hb2⟩ := h2.elim (fun h => h.2) (fun h => absurd h.1 HN.out); have H2 := H_ (A_ hr hb2); clear hr hb2; go_wp2_with fail
        go_meet
        exact .inl ⟨rfl, rfl, B, rb, jb, _, _, w1, rfl, rfl, HNG.out, H2.out.1, rfl, H1.out, H2.out.2⟩
      . have H1 := H_ hb; have HC2 := H_ (S2.out ⟨[], [], [], 0, 0, 0, 0, ownJ 0⟩ (fun h => absurd hn h)); have HN := H_ hn; have hX := HX.out.go hb; clear hb hn; have a00 := cellOf hX.x0 0 (.int .u8 (own.a.toNat : Int)) rfl; have a01 := cellOf hX.x0 1 (.int .u8 (own.b.toNat : Int)) rfl; have a02 := cellOf hX.x0 2 (.int .u8 (own.c.toNat : Int)) rfl; have a03 := cellOf hX.x0 3 (.int .u8 (own.d.toNat : Int)) rfl; have a10 := cellOf hX.x1 0 (.int .u8 (peer.a.toNat : Int)) rfl; have a11 := cellOf hX.x1 1 (.int .u8 (peer.b.toNat : Int)) rfl; have a12 := cellOf hX.x1 2 (.int .u8 (peer.c.toNat : Int)) rfl; have a13 := cellOf hX.x1 3 (.int .u8 (peer.d.toNat : Int)) rfl; have a20 := cellOf hX.x2 0 (.int .u8 (d1.a.toNat : Int)) rfl; have a21 := cellOf hX.x2 1 (.int .u8 (d1.b.toNat : Int)) rfl; have a22 := cellOf hX.x2 2 (.int .u8 (d1.c.toNat : Int)) rfl; have a23 := cellOf hX.x2 3 (.int .u8 (d1.d.toNat : Int)) rfl; have a30 := cellOf hX.x3 0 (.int .u8 (d2.a.toNat : Int)) rfl; have a31 := cellOf hX.x3 1 (.int .u8 (d2.b.toNat : Int)) rfl; have a32 := cellOf hX.x3 2 (.int .u8 (d2.c.toNat : Int)) rfl; have a33 := cellOf hX.x3 3 (.int .u8 (d2.d.toNat : Int)) rfl; have b0 := cellOf hX.x4 0 _ rfl; have b1 := cellOf hX.x4 1 _ rfl; have b2 := cellOf hX.x4 2 _ rfl; have b3 := cellOf hX.x4 3 _ rfl; clear hX; go_wp2_with fail; clear a00 a01 a02 a03 a10 a11 a12 a13 a20 a21 a22 a23 a30 a31 a32 a33 b0 b1 b2 b3; refine (HC2.out _).mono ?_; rintro e w2 ⟨v2, rfl, h2⟩; obtain ⟨rfl, hb2⟩ := h2.elim (fun h => absurd HN.out h.1) (fun h => h.2); have H2 := H_ hb2; clear hb2; go_wp2_with fail
        go_meet
        exact IpS.err H1.out H2.out
 case rest =>
  have HS := hcut; clear hcut S1 S2 C1 C2; generalize wc = wL at *; have q1 : ∀ w a, (binOp .neq 82 (.pointer (some a)) (.pointer none)).run Tryz.prog w = .ok (.bool true) w := fun w a => by kernel_rfl
  have q2 : ∀ w, (binOp .neq 82 (.pointer none) (.pointer none)).run Tryz.prog w = .ok (.bool false) w := fun w => by kernel_rfl
  rcases HS.out with ⟨rfl, rfl, B, rb, jb, CC, st0, wM, rfl, rfl, hok⟩ | ⟨rfl, rfl, rfl, rfl, hb⟩
  case inr =>
   have HB := H_ (HX.out.bl.trans (hb.mono HX.out.bl.size)); clear hb HS; go_wp2_with fail; refine (alive17_any _).mono ?_; rintro e w2 ⟨rfl, hb2⟩; have HB2 := H_ (HB.out.trans (hb2.mono HB.out.size)); clear hb2; go_wp2_with fail; go_ret; exact ⟨rfl, HB2.out⟩
  case inl =>
   have HOK := H_ hok; clear hok HS
   go_wp2_with (refine wpl_newbook rfl ?_)
   clear q1 q2; have hbB := b1 wL (.cells (bookC nilS nilS nilS nilS nilS nilS) 42 (0, 0)); have hzB : (wL.alloc (.cells (bookC nilS nilS nilS nilS nilS nilS) 42 (0, 0))).heap[wL.heap.size]? = some _ := heap_alloc_new wL _; have hsB := balloc1 wL (.cells (bookC nilS nilS nilS nilS nilS nilS) 42 (0, 0)); have hbL := HOK.out.b1.trans (HOK.out.b2.mono HOK.out.b1.size); have hbwL := HX.out.bl.trans (hbL.mono HX.out.bl.size); have hPI := PI.start (w := w) (wN := W) (wM := wM) (wL := wL) (wr := wL.alloc (.cells (bookC nilS nilS nilS nilS nilS nilS) 42 (0, 0))) (G := ⟨wL.heap.size + 1, wL.heap.size, rb, jb, B, CC⟩) (st := st0) HX.out.bl.size HOK.out.neg HOK.out.ref HOK.out.b2 HOK.out.t0 hzB (Nat.le_refl _) rfl (by show wL.heap.size + 1 <= _; omega) (Keep.of_below _ hbB) (hbwL.trans (hbB.mono hbwL.size)); have HPI := H_ hPI; have hwbb : w.heap.size <= wL.heap.size := hbwL.size; clear hPI hbB hzB hsB hbL hbwL HOK HX; generalize wL.alloc (.cells (bookC nilS nilS nilS nilS nilS nilS) 42 (0, 0)) = wB at *; generalize wL.heap.size = bb at *
   go_loopg [22] len (fun y i wr => ∃ n : Nat, n <= len /\ y = len - n /\ i = .int .i64 n /\ Hid (PlayV w wr ⟨bb + 1, bb, rb, jb, B, CC⟩))
   case atStart => exact ⟨0, by omega, by omega, rfl, _, _, _, _, _, _, HPI.out⟩
   case round =>
    obtain ⟨n, hn, rfl, rfl, hK⟩ := hrel; obtain ⟨wA, rfl⟩ : ∃ wA, wA = wr := ⟨_, rfl⟩; obtain ⟨st, sr, D, E, S1, S2, hP⟩ := hK.out; have HP := H_ hP; clear hK hP HPI
    by_cases hnl : n < len
    . have hnL : n < L.length := by have := HLN.out; omega
      obtain ⟨ob, off, rfl, hob, hobw, k0, k1, k2, k3, k4, k5, -, -⟩ := (HO.out.below HP.out.bl).at n hnL; have HXX := H_ (A_ (fun W (hW : Below w.heap.size w W) => (HO.out.below hW).each _ (List.getElem_mem hnL)) (P2.out.2 _ (List.getElem_mem hnL))); generalize L[n] = x at *; obtain ⟨⟨xk, xn, ⟨pc, pid, po, pd⟩, xa, xb⟩, pv, xav, xbv⟩ := x; simp only at k0 k1 k2 k3 k4 k5
      obtain ⟨sp1, cp1, ep, -, -⟩ := (HXX.out.1 wA HP.out.bl).p.form; simp only at ep
      subst ep; have htl : ∀ g, B.t g -> g < wA.heap.size := fun g hg => HP.out.neg.tlt hg; have hot : ∀ g, B.t g -> w.heap.size <= g := fun g hg => (HP.out.o1 g (HP.out.neg.ts hg)).1; have HTL := H_ (A_ htl hot); have hrl : rb < wA.heap.size := by obtain ⟨X, hX⟩ := HP.out.ref; exact hX.blt
      have hrw : w.heap.size <= rb := HP.out.lt.2.2.2.2.1; have hwA : w.heap.size <= wA.heap.size := HP.out.bl.size; have hobw : ob < w.heap.size := hobw; clear htl hot
      go_upto_block 2 with fail
      go_cut [23, 24] (fun a b wc => Hid (MidV w wc ⟨bb + 1, bb, rb, jb, B, CC⟩ a b))
      case first =>
       as_aux_lemma =>
        have HKW : Hid (∀ Y, Keep (fun g => B.t g \/ g = rb) wA.drew Y -> (∀ o, Y.cell? ⟨ob, o, none⟩ = wA.cell? ⟨ob, o, none⟩)) := H_ fun Y hY o => cell_same (hY.block ob (show ob < wA.heap.size by omega) (fun he => he.elim (fun he => by have := HTL.out.2 _ he; omega) (fun he => by omega))) o
        by_cases hx1 : xk = 1
        . as_aux_lemma =>
           subst hx1; go_wp2_with fail; refine wp_region_H (rgH 0 16) (fun Y : World => Y.cell? ⟨ob, off + n * 8 + 1, none⟩ = some (.int .i64 xn)) (by kernel_rfl) ?_; have hbo : Below wA.heap.size wA wA.drew := (Below.refl _ _).drew; have HSv : wA.drew.cell? ⟨ob, off + n * 8 + 1, none⟩ = some (.int .i64 xn) := k1; refine hatH 0 rfl (by rintro W h0; go_simp; try rfl) HSv ?_; simp only [aZ, aC, aD]; refine hatH 1 rfl (by rintro W h0; go_simp; try rfl) HSv ?_; simp only [aZ, aC, aD]; refine hatH 2 rfl (by rintro W h0; go_simp; try rfl) HSv ?_; simp only [aZ, aC, aD]; refine hatH 3 rfl (by rintro W h0; go_simp; try rfl) HSv ?_; simp only [aZ, aC, aD]; refine hatH 4 rfl (by rintro W h0; go_simp; try rfl) HSv ?_; simp only [aZ, aC, aD]; refine hatH 5 rfl (by rintro W h0; go_simp; try rfl) HSv ?_; simp only [aZ, aC, aD]; refine hatH 7 rfl (by rintro W h0; go_simp; try rfl) HSv ?_; simp only [aZ, aC, aD]; refine hatH 8 rfl (by rintro W h0; go_simp; try rfl) HSv ?_; simp only [aZ, aC, aD]; refine hatH 9 rfl (by rintro W h0; go_simp; try rfl) HSv ?_; simp only [aZ, aC, aD]; refine hatH 10 rfl (by rintro W h0; go_simp; try rfl) HSv ?_; simp only [aZ, aC, aD]; refine hatH 11 rfl (by rintro W h0; go_simp; try rfl) HSv ?_; simp only [aZ, aC, aD]; refine hatH 12 rfl (by rintro W h0; go_simp; try rfl) HSv ?_; simp only [aZ, aC, aD]; refine hone 6 rfl fun K hK => ?_
           try go_simp
           go_at_call 43; refine (DoQ xn (HP.out.neg.below hbo)).mono ?_; rintro e w2 h2; have H2 := H_ h2; obtain ⟨v2, rfl, -, -, hk2⟩ := h2; have hk2' : Keep (fun g => B.t g \/ g = rb) wA.drew w2 := Keep.mono hk2 (fun _ _ h => .inl h); have HSv := (HKW.out _ hk2' _).trans k1; obtain ⟨X2, hX2⟩ := HP.out.ref2 hbo hk2; have HX2 := H_ hX2; have HK2 := H_ hk2'; clear hX2 hk2 hk2'; refine hK _ _ (fun _ => HSv) ?_
           try simp only [aZ, aA, aE, aB, aC, aD]
           refine hone 13 rfl fun K hK => ?_
           try go_simp
           go_at_call 44; refine (DoQ9 xn HX2.out).mono ?_; rintro e w3 h3; have H3 := H_ h3; obtain ⟨v3, L3, rfl, -, -, -, hk3⟩ := h3; have HSv := (HKW.out _ (HK2.out.transM hk3 (fun _ _ h => h) (fun _ _ h => .inr h)) _).trans k1; have HBO := H_ hbo; clear hk3 hbo; refine hK _ _ (fun _ => HSv) ?_
           try simp only [aZ, aA, aE, aB, aC, aD]
           refine hatH 14 rfl (by rintro W h0; go_simp; try rfl) HSv ?_; simp only [aZ, aC, aD]; refine hatH 15 rfl (by rintro W h0; go_simp; try rfl) HSv ?_; simp only [aZ, aC, aD]; refine hend 16 ?_; simp only [aF, aG]; go_wp2_with fail
           go_meet
           exact MidV.of HP.out HBO.out H2.out (Below.refl _ _) H3.out (Keep.refl _ _) (do_rel CC st sr xn HP.out.rel) (doS_len _ _ _)
        have e1 : (xk == 1) = false := by simpa using hx1
        clear hx1
        by_cases hx3 : xk = 3
        . as_aux_lemma =>
           subst hx3; clear e1; have hbo : Below wA.heap.size wA wA := Below.refl _ _; go_wp2_with fail; refine (TickP rejS (HP.out.neg.below hbo)).mono ?_; rintro e w2 h2; have H2 := H_ h2; obtain ⟨v2, rfl, -, -, hk2⟩ := h2; obtain ⟨X2, hX2⟩ := HP.out.ref2 hbo hk2; have HX2 := H_ hX2; clear hX2 hk2; go_wp2_with fail; refine (Tick9_at HX2.out).mono ?_; rintro e w3 h3; have H3 := H_ h3; obtain ⟨v3, L3, rfl, -, -, -, hk3⟩ := h3; clear hk3; go_wp2_with fail
           go_meet
           exact MidV.of HP.out hbo H2.out (Below.refl _ _) H3.out (Keep.refl _ _) (tick_rel CC st sr HP.out.rel) (tickS_len _ _ _)
        have e3 : (xk == 3) = false := by simpa using hx3
        clear hx3; have hsp : po.length <= 50 /\ ∀ o ∈ po, o.v.size <= 400 := HXX.out.2.1; have hsd : pd.size <= 2000 := HXX.out.2.2.1; have hbo : Below wA.heap.size wA wA.drew := (Below.refl _ _).drew; have hbw : Below w.heap.size w wA.drew := HP.out.bl.trans (hbo.mono hwA); have hpk : PkOk ⟨pc, pid, po, pd⟩ := ⟨by show po.length <= _; omega, fun o ho => ((HXX.out.1 _ hbw).wf.1 o ho).1, fun o ho => by have := hsp.2 o ho; omega, by show pd.size <= _; omega⟩; have HTK := H_ (TakeP ⟨pc, pid, po, pd⟩ (.slice sp1 po.length cp1) hpk (HP.out.neg.below hbo) (HXX.out.1 _ hbw).p (fun g hg hz => by have := HTL.out.2 _ hz; have hg : g < w.heap.size := hg; omega) (fun _ => False)); have HBW := H_ (A_ hbo hbw)
        have hap : Apart st.req := by
         obtain ⟨X, hX⟩ := HP.out.ref; have := hX.ap; rw [HP.out.rel.s.2.1] at this; exact this
        have HAP := H_ hap; clear hpk hbo hbw hap; go_wp2_with fail; refine wp_region_H (rgH 0 16) (fun Y : World => Y.cell? ⟨ob, off + n * 8 + 2, none⟩ = some (.int .i64 pc) /\ Y.cell? ⟨ob, off + n * 8 + 3, none⟩ = some (.int .i64 pid) /\ Y.cell? ⟨ob, off + n * 8 + 4, none⟩ = some (.slice sp1 po.length cp1) /\ Y.cell? ⟨ob, off + n * 8 + 5, none⟩ = some (.string pd)) (by kernel_rfl) ?_; have HKK := H_ (A_ k2 (A_ k3 (A_ k4 k5))); have HSv : wA.drew.cell? ⟨ob, off + n * 8 + 2, none⟩ = some (.int .i64 pc) /\ wA.drew.cell? ⟨ob, off + n * 8 + 3, none⟩ = some (.int .i64 pid) /\ wA.drew.cell? ⟨ob, off + n * 8 + 4, none⟩ = some (.slice sp1 po.length cp1) /\ wA.drew.cell? ⟨ob, off + n * 8 + 5, none⟩ = some (.string pd) := ⟨k2, k3, k4, k5⟩; clear k0 k1 k2 k3 k4 k5; refine hatH 0 rfl (by rintro W ⟨h0, h1, h2, h3⟩; go_simp; try rfl) HSv ?_; simp only [aZ, aC, aD]; refine hatH 1 rfl (by rintro W ⟨h0, h1, h2, h3⟩; go_simp; try rfl) HSv ?_; simp only [aZ, aC, aD]; refine hatH 2 rfl (by rintro W ⟨h0, h1, h2, h3⟩; go_simp; try rfl) HSv ?_; simp only [aZ, aC, aD]; refine hatH 3 rfl (by rintro W ⟨h0, h1, h2, h3⟩; go_simp; try rfl) HSv ?_; simp only [aZ, aC, aD]; refine hatH 4 rfl (by rintro W ⟨h0, h1, h2, h3⟩; go_simp; try rfl) HSv ?_; simp only [aZ, aC, aD]; refine hatH 5 rfl (by rintro W ⟨h0, h1, h2, h3⟩; go_simp; try rfl) HSv ?_; simp only [aZ, aC, aD]; refine hatH 7 rfl (by rintro W ⟨h0, h1, h2, h3⟩; go_simp; try rfl) HSv ?_; simp only [aZ, aC, aD]; refine hatH 8 rfl (by rintro W ⟨h0, h1, h2, h3⟩; go_simp; try rfl) HSv ?_; simp only [aZ, aC, aD]; refine hatH 9 rfl (by rintro W ⟨h0, h1, h2, h3⟩; go_simp; try rfl) HSv ?_; simp only [aZ, aC, aD]; refine hatH 10 rfl (by rintro W ⟨h0, h1, h2, h3⟩; go_simp; try rfl) HSv ?_; simp only [aZ, aC, aD]; refine hatH 11 rfl (by rintro W ⟨h0, h1, h2, h3⟩; go_simp; try rfl) HSv ?_; simp only [aZ, aC, aD]; refine hatH 12 rfl (by rintro W ⟨h0, h1, h2, h3⟩; go_simp; try rfl) HSv ?_; simp only [aZ, aC, aD]; refine hone 6 rfl fun K hK => ?_
        try go_simp
        go_at_call 49; refine HTK.out.mono ?_; rintro e w2 h2; have H2 := H_ h2; obtain ⟨v2, rfl, -, -, hk2⟩ := h2; obtain ⟨X2, hX2⟩ := HP.out.ref2 HBW.out.1 hk2; have hk2' : Keep (fun g => B.t g \/ g = rb) wA.drew w2 := Keep.mono hk2 (fun _ _ h => .inl h); have HSv := A_ ((HKW.out _ hk2' _).trans HKK.out.1) (A_ ((HKW.out _ hk2' _).trans HKK.out.2.1) (A_ ((HKW.out _ hk2' _).trans HKK.out.2.2.1) ((HKW.out _ hk2' _).trans HKK.out.2.2.2))); have hb2 : Below w.heap.size w w2 := HBW.out.2.trans (hk2.below HBW.out.2.size (fun g hg hz => by have := HTL.out.2 g hz; omega)); have hpi : PkIn w2 rb (fun g => g < w.heap.size) ⟨pc, pid, po, pd⟩ (.slice sp1 po.length cp1) := ⟨(HXX.out.1 _ hb2).p, fun g hg he => by have hg : g < w.heap.size := hg; omega, (HXX.out.1 _ hb2).nil.1, by show po.length <= _; omega, fun o ho => by have := hsp.2 o ho; omega, by show pd.size <= _; omega⟩; have HT9 := H_ (Take9_at ⟨pc, pid, po, pd⟩ (.slice sp1 po.length cp1) hX2 hpi); have HK2 := H_ hk2'; clear hX2 hk2 hk2' hb2 hpi; refine hK _ _ (fun _ => HSv) ?_
        try simp only [aZ, aA, aE, aB, aC, aD]
        refine hone 13 rfl fun K hK => ?_
        try go_simp
        go_at_call 50; refine HT9.out.mono ?_; rintro e w3 h3; have H3 := H_ h3; obtain ⟨v3, L3, rfl, -, -, -, hk3⟩ := h3; have hk3' : Keep (fun g => B.t g \/ g = rb) wA.drew w3 := HK2.out.transM hk3 (fun _ _ h => h) (fun _ _ h => .inr h); have HSv := A_ ((HKW.out _ hk3' _).trans HKK.out.1) (A_ ((HKW.out _ hk3' _).trans HKK.out.2.1) (A_ ((HKW.out _ hk3' _).trans HKK.out.2.2.1) ((HKW.out _ hk3' _).trans HKK.out.2.2.2))); clear hk3 hk3'; refine hK _ _ (fun _ => HSv) ?_
        try simp only [aZ, aA, aE, aB, aC, aD]
        refine hatH 14 rfl (by rintro W ⟨h0, h1, h2, h3⟩; go_simp; try rfl) HSv ?_; simp only [aZ, aC, aD]; refine hatH 15 rfl (by rintro W ⟨h0, h1, h2, h3⟩; go_simp; try rfl) HSv ?_; simp only [aZ, aC, aD]; refine hend 16 ?_; simp only [aF, aG]; go_wp2_with fail
        go_meet
        exact MidV.of HP.out HBW.out.1 H2.out (Below.refl _ _) H3.out (Keep.refl _ _) (take_rel CC st sr ⟨pc, pid, po, pd⟩ HP.out.rel HAP.out) (takeS_len _ _ _)
      case rest =>
       as_aux_lemma =>
        obtain ⟨st', sr', D1, E1, T1, T2, LA, LB, ok2, hI, hT⟩ := hcut.out; have HI := H_ (A_ hI hT); clear hI hT hcut; go_wp2_with fail; refine (HI.out.1.sent HI.out.2).mono ?_; rintro e w5 ⟨⟨r5, rfl⟩, D2, E2, hs5⟩; have H10 := H_ (hs5.below (Below.refl _ _).drew); clear hs5 HI; go_wp2_with fail; have hss : (st'.s != st'.s) = false := by simp
        refine wp_region_H (rgH 0 30) (fun Y : World => Y.cell? ⟨rb, 10, none⟩ = some (.int .i64 st'.s)) (by kernel_rfl) ?_; have HSv : w5.drew.cell? ⟨rb, 10, none⟩ = some (.int .i64 st'.s) := H10.out.i.cells.1; refine hatH 0 rfl (by rintro W h0; go_simp; try rfl) HSv ?_; simp only [aZ, aC, aD]; refine hatH 1 rfl (by rintro W h0; go_simp; try rfl) HSv ?_; simp only [aZ, aC, aD]; refine hone 2 rfl fun K hK => ?_
        try go_simp
        go_at_call 55; refine H10.out.same.mono ?_; rintro e w11 ⟨rfl, hb11⟩; have H11 := H_ (H10.out.i.below hb11); have HSv : w11.cell? ⟨rb, 10, none⟩ = some (.int .i64 st'.s) := H11.out.cells.1; have LEM := H_ H11.out.lens; clear hb11 H10; refine hK _ _ (fun _ => HSv) ?_
        try simp only [aZ, aA, aE, aB, aC, aD]
        refine hatH 3 rfl (by rintro W h0; go_simp; try rfl) HSv ?_; simp only [aZ, aC, aD]; refine hatH 4 rfl (by rintro W h0; go_simp; try rfl) HSv ?_; simp only [aZ, aC, aD]; refine hatH 5 rfl (by rintro W h0; go_simp; try rfl) HSv ?_; simp only [aZ, aC, aD]; refine hatH 7 rfl (by rintro W h0; go_simp; try rfl) HSv ?_; simp only [aZ, aC, aD]; refine hatH 8 rfl (by rintro W h0; go_simp; try rfl) HSv ?_; simp only [aZ, aC, aD]; refine hatH 9 rfl (by rintro W h0; go_simp; try rfl) HSv ?_; simp only [aZ, aC, aD]; refine hatH 10 rfl (by rintro W h0; go_simp; try rfl) HSv ?_; simp only [aZ, aC, aD]; refine hatH 11 rfl (by rintro W h0; go_simp; try rfl) HSv ?_; simp only [aZ, aC, aD]; refine hone 6 rfl fun K hK => ?_
        try go_simp
        go_at_call 56; refine (StateP H11.out.neg).mono ?_; rintro e w12 ⟨rfl, rfl⟩; refine hK _ _ (fun _ => HSv) ?_
        try simp only [aZ, aA, aE, aB, aC, aD]
        refine hatH 12 rfl (by rintro W h0; go_simp; try rfl) HSv ?_; simp only [aZ, aC, aD]; refine hatH 13 rfl (by rintro W h0; go_simp; try rfl) HSv ?_; simp only [aZ, aC, aD]; refine hatH 14 rfl (by rintro W h0; go_simp; try rfl) HSv ?_; simp only [aZ, aC, aD]; refine hatH 15 rfl (by rintro W h0; go_simp; try rfl) HSv ?_; simp only [aZ, aC, aD]; refine hatH 17 rfl (by rintro W h0; go_simp; try rfl) HSv ?_; simp only [aZ, aC, aD]; refine hone 16 rfl fun K hK => ?_
        try go_simp
        go_at_call 52; refine H11.out.mine.mono ?_; rintro e w6 ⟨x, rfl, hx, -, hb6⟩; have H6 := H_ (A_ (H11.out.below hb6) hx); have HSv : w6.cell? ⟨rb, 10, none⟩ = some (.int .i64 st'.s) := H6.out.1.cells.1; clear hx hb6 H11; refine hK _ _ (fun _ => HSv) ?_
        try simp only [aZ, aA, aE, aB, aC, aD]
        refine hone 18 rfl fun K hK => ?_
        try go_simp
        go_at_call 57; refine H6.out.1.mine9.mono ?_; rintro e w12 ⟨v9, rfl, hv9, rfl⟩; have HV9 := H_ hv9; clear hv9; refine hK _ _ (fun _ => HSv) ?_
        try simp only [aZ, aA, aE, aB, aC, aD]
        refine hone 19 rfl fun K hK => ?_
        try go_simp
        go_at_call 30; refine (PI.sameM H6.out.2 LEM.out.1 HV9.out).mono ?_; rintro e w12 ⟨rfl, hb12⟩; have H12 := H_ (H6.out.1.below hb12); have HSv : w12.cell? ⟨rb, 10, none⟩ = some (.int .i64 st'.s) := H12.out.cells.1; clear hb12 H6 HV9; refine hK _ _ (fun _ => HSv) ?_
        try simp only [aZ, aA, aE, aB, aC, aD]
        refine hatH 20 rfl (by rintro W h0; go_simp; try rfl) HSv ?_; simp only [aZ, aC, aD]; refine hatH 21 rfl (by rintro W h0; go_simp; try rfl) HSv ?_; simp only [aZ, aC, aD]; refine hatH 22 rfl (by rintro W h0; go_simp; try rfl) HSv ?_; simp only [aZ, aC, aD]; refine hatH 23 rfl (by rintro W h0; go_simp; try rfl) HSv ?_; simp only [aZ, aC, aD]; refine hatH 25 rfl (by rintro W h0; go_simp; try rfl) HSv ?_; simp only [aZ, aC, aD]; refine hone 24 rfl fun K hK => ?_
        try go_simp
        go_at_call 53; refine H12.out.theirs.mono ?_; rintro e w6 ⟨x, rfl, hx, -, hb6⟩; have H6 := H_ (A_ (H12.out.below hb6) hx); have HSv : w6.cell? ⟨rb, 10, none⟩ = some (.int .i64 st'.s) := H6.out.1.cells.1; clear hx hb6 H12; refine hK _ _ (fun _ => HSv) ?_
        try simp only [aZ, aA, aE, aB, aC, aD]
        refine hone 26 rfl fun K hK => ?_
        try go_simp
        go_at_call 58; refine H6.out.1.theirs9.mono ?_; rintro e w13 ⟨v9, rfl, hv9, rfl⟩; have HV9 := H_ hv9; clear hv9; refine hK _ _ (fun _ => HSv) ?_
        try simp only [aZ, aA, aE, aB, aC, aD]
        refine hone 27 rfl fun K hK => ?_
        try go_simp
        go_at_call 30; refine (PI.sameM H6.out.2 LEM.out.2 HV9.out).mono ?_; rintro e w13 ⟨rfl, hb13⟩; have H13 := H_ (H6.out.1.below hb13); have HSv : w13.cell? ⟨rb, 10, none⟩ = some (.int .i64 st'.s) := H13.out.cells.1; clear hb13 H6 HV9; refine hK _ _ (fun _ => HSv) ?_
        try simp only [aZ, aA, aE, aB, aC, aD]
        refine hatH 28 rfl (by rintro W h0; go_simp; try rfl) HSv ?_; simp only [aZ, aC, aD]; refine hatH 29 rfl (by rintro W h0; go_simp; try rfl) HSv ?_; simp only [aZ, aC, aD]; refine hend 30 ?_; simp only [aF, aG]; go_wp2_with fail
        go_roundg (len - (n + 1))
        case measure => omega
        case rel => exact ⟨n + 1, by omega, rfl, by go_num, _, _, _, _, _, _, H13.out⟩
    . as_aux_lemma =>
       obtain rfl : n = len := by omega
       go_wp2_with fail; refine (alive17_any _).mono ?_; rintro e w4 ⟨rfl, hb4⟩; have H4 := H_ (HP.out.below hb4); clear hb4; go_wp2_with fail; refine (apartP H4.out.bk).mono ?_; rintro e w5 ⟨rfl, hk5⟩
       have HB := H_ (H4.out.bl.trans (hk5.below H4.out.bl.size (fun g hg he => by
        have h1 := H4.out.bk.lo g he; have h3 : bb + 1 <= g := h1
        omega)))
       clear hk5; go_wp2_with fail; go_ret; exact ⟨rfl, HB.out⟩
end Go.Proofs.YtignponfoheaeaaGreat
