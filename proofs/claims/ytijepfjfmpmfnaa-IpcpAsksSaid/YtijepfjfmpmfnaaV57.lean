import Derived.Test.YtijepfjfmpmfnaaV53
import Derived.Test.YtijepfjfmpmfnaaV55
import Derived.Test.YtijepfjfmpmfnaaV56
/- Two negotiations side by side; IpcpAsks. -/
namespace Go.Proofs.Ytijepfjfmpmfnaa
open Go.RowKit Go.Tg Go.Maps

/-- Two negotiations, parted from each other and from what was there. -/
structure Parted (w0 w : World) (S S' : Nat → Prop) (B B' : NegB) : Prop where
  d1 : ∀ b, S b → ¬ B'.t b
  d2 : ∀ b, S' b → ¬ B.t b
  n1 : ∀ b, S b → w0.heap.size ≤ b
  n2 : ∀ b, S' b → w0.heap.size ≤ b
  bl : Below w0.heap.size w0 w
def Two (w0 w : World) (B B' : NegB) (C C' : NegC) (st st' : NSt) (jb jb' : Nat) : Prop :=
  ∃ S S', NegP w S B C st jb ∧ NegP w S' B' C' st' jb' ∧ Parted w0 w S S' B B'
section
variable {w0 w w' : World} {S S' : Nat → Prop} {B B' : NegB} {C C' : NegC} {st st' st1 : NSt} {jb jb' : Nat}
theorem Parted.symm (h : Parted w0 w S S' B B') : Parted w0 w S' S B' B := ⟨h.d2, h.d1, h.n2, h.n1, h.bl⟩
theorem Two.symm (h : Two w0 w B B' C C' st st' jb jb') : Two w0 w B' B C' C st' st jb' jb := by
  obtain ⟨S, S', h1, h2, h3⟩ := h
  exact ⟨S', S, h2, h1, h3.symm⟩
theorem Two.step (h1 : NegP w S B C st jb) (h2 : NegP w S' B' C' st' jb') (hp : Parted w0 w S S' B B') (h : NegP w' (Grow S w) B C st1 jb) (hk : Keep B.t w w') : Two w0 w' B B' C C' st1 st' jb jb' :=
  ⟨_, _, h, h2.keep hk (fun b _ hb => hp.d2 b hb), ⟨fun b hb ht => hb.elim (fun hb => hp.d1 b hb ht) (fun hb => by have := h2.tlt ht; omega), hp.d2, fun b hb => hb.elim (hp.n1 b) (fun hb => Nat.le_trans hp.bl.size hb), hp.n2,
    hp.bl.trans (hk.below hp.bl.size (fun b hb ht => by have := hp.n1 b (h1.ts ht); omega))⟩⟩
theorem Two.below (h : Two w0 w B B' C C' st st' jb jb') (hb : Below w.heap.size w w') : Two w0 w' B B' C C' st st' jb jb' := by
  obtain ⟨S, S', h1, h2, h3⟩ := h
  exact ⟨S, S', h1.below hb, h2.below hb, ⟨h3.d1, h3.d2, h3.n1, h3.n2, h3.bl.trans (hb.mono h3.bl.size)⟩⟩
/-- Two that were made one behind the other. -/
theorem Two.made {w1 w2 : World} (hb : Below w0.heap.size w0 w) (h1 : NegP w1 (fun b => w.heap.size ≤ b) B C st jb) (b1 : Below w.heap.size w w1) (h2 : NegP w2 (fun b => w1.heap.size ≤ b) B' C' st' jb') (b2 : Below w1.heap.size w1 w2) : Two w0 w2 B B' C C' st st' jb jb' := by
  obtain ⟨⟨X, hX⟩, hj1, hj2, hj3, hj4⟩ := h1
  have h1' : NegP w1 (fun b => w.heap.size ≤ b ∧ b < w1.heap.size) B C st jb := ⟨⟨X, hX.old⟩, hj1, hj2, ⟨hj3, hj1.lt⟩, hj4⟩
  have s := hb.size
  have s1 := b1.size
  exact ⟨_, _, h1'.below b2, h2, ⟨fun b hb ht => by have : w1.heap.size ≤ b := h2.ts ht; have := hb.2; omega, fun b hb ht => by have := h1'.tlt ht; have hb : w1.heap.size ≤ b := hb; omega, fun b hb => Nat.le_trans s hb.1, fun b hb => by have hb : w1.heap.size ≤ b := hb; omega, hb.trans ((b1.mono s).trans (b2.mono (by omega)))⟩⟩
end

theorem eK1 (own peer : List Rl) (must : List Int) (cf tm fl wt : Int) (jb : Nat) (ask : List Opt) : evS noR ⟨own, peer, must, cf, tm, fl, wt, ownJ jb⟩ (st0 ask) 2 noCame = (⟨1, 0, 0, 0, 0, 0, ask, [], [], 0, 0⟩, []) := rfl
theorem eK2 (own peer : List Rl) (must : List Int) (jb : Nat) (ask : List Opt) : evS noR ⟨own, peer, must, 5, 2, 5, 3, ownJ jb⟩ ⟨1, 0, 0, 0, 0, 0, ask, [], [], 0, 0⟩ 0 noCame = (⟨6, 4, 1, 1, 0, 0, ask, [], [], 0, 0⟩, [⟨1, 1, ask, noB⟩]) := rfl

theorem cliA_3 (dns : Bool) : adrS (cliA dns 3) 3 = (Ad.z, true) ∧ (adrS (cliA dns 3) 129).2 = dns ∧ (adrS (cliA dns 3) 131).2 = dns ∧ (cliA dns 3).length ≤ 3 ∧ ∀ o ∈ cliA dns 3, o.v.size ≤ 1000000000 := by
  cases dns
  · exact ⟨rfl, rfl, rfl, by decide, by decide⟩
  · exact ⟨rfl, rfl, rfl, by decide, by decide⟩
theorem adr_own (own : Ad) : adrS [⟨3, own.s⟩] 3 = (own, true) := rfl

set_option maxHeartbeats 16000000 in
set_option maxRecDepth 100000 in
theorem ipcpAsks_any (own peer : Ad) (dns : Bool) (w : World) :
    Calls Try.prog 6 #[own.v, peer.v, .bool dns] w fun e w' => e = .returned (.bool true) ∧ Below w.heap.size w w' := by
  have q1 : ∀ w a, (binOp .eql 23 (.pointer (some a)) (.pointer none)).run Try.prog w = .ok (.bool false) w := fun w a => by kernel_rfl
  obtain ⟨W, hW, hs, x0, x1, hb⟩ : ∃ W, W = (w.alloc (.cells own.cs 49 (0, 0))).alloc (.cells peer.cs 49 (0, 0)) ∧ W.heap.size = w.heap.size + 1 + 1 ∧ W.heap[w.heap.size]? = some (.cells own.cs 49 (0, 0)) ∧ W.heap[w.heap.size + 1]? = some (.cells peer.cs 49 (0, 0)) ∧ Below w.heap.size w W :=
    ⟨_, rfl, alloc2 _ _ _, at20 _ _ _, at21 _ _ _, ((Below.refl _ _).alloc (Nat.le_refl _) _).alloc (by rw [alloc1]; omega) _⟩
  have HC := Lib.hid (client_any 5 2 5 3 dns W (by decide) (by decide) (by decide) (by decide))
  have HS := Lib.hid (fun w => server_any own peer Ad.z Ad.z 5 2 5 3 w (by decide) (by decide) (by decide) (by decide))
  have HB := Lib.hid (And.intro hb (And.intro hs (And.intro x0 x1)))
  rw [← adz] at HS
  unfold Ad.v at HS
  unfold Ad.v
  unfold Ad.cs at hW
  clear hb hs x0 x1
  go_enter Try.func6, Try.ntmps6
  go_wp2_with fail
  rw [← hW]
  clear hW
  refine HC.out.mono ?_
  rintro e w1 ⟨v, rfl, B, jb, rfl, hv, hj, hjs, hjt, b1⟩
  have h1 : NegP w1 (fun b => W.heap.size ≤ b) B ⟨cliO 3, [spanR 3 0 n4], [3], 5, 2, 5, 3, ownJ jb⟩ (st0 (cliA dns 3)) jb := ⟨hv, hj, hjt, hjs, rfl⟩
  have y0 := (b1.block _ (by have := HB.out.2.1; omega)).trans HB.out.2.2.1
  have y1 := (b1.block _ (by have := HB.out.2.1; omega)).trans HB.out.2.2.2
  have a0 := cellOf y0 0 (.int .u8 (own.a.toNat : Int)) rfl
  have a1 := cellOf y0 1 (.int .u8 (own.b.toNat : Int)) rfl
  have a2 := cellOf y0 2 (.int .u8 (own.c.toNat : Int)) rfl
  have a3 := cellOf y0 3 (.int .u8 (own.d.toNat : Int)) rfl
  have c0 := cellOf y1 0 (.int .u8 (peer.a.toNat : Int)) rfl
  have c1 := cellOf y1 1 (.int .u8 (peer.b.toNat : Int)) rfl
  have c2 := cellOf y1 2 (.int .u8 (peer.c.toNat : Int)) rfl
  have c3 := cellOf y1 3 (.int .u8 (peer.d.toNat : Int)) rfl
  have H1 := Lib.hid (And.intro h1 (And.intro b1 y0))
  clear hv hj hjs hjt h1 b1 y0 y1
  go_wp2_with fail
  refine (HS.out w1).mono ?_
  rintro e w2 ⟨v, rfl, B', jb', rfl, hv, hj, hjs, hjt, b2⟩
  have h2 : NegP w2 (fun b => w1.heap.size ≤ b) B' ⟨[], srvR peer Ad.z Ad.z, [], 5, 2, 5, 3, ownJ jb'⟩ (st0 [⟨3, own.s⟩]) jb' := ⟨hv, hj, hjt, hjs, rfl⟩
  have T2 := Lib.hid (Two.made (Below.refl W.heap.size W) H1.out.1 H1.out.2.1 h2 b2)
  clear hv hj hjs hjt h2 b2 a0 a1 a2 a3 c0 c1 c2 c3 H1 HC HS
  obtain ⟨S3, S3', n, n', hp⟩ := T2.out
  have D := DoP noR 2 (by decide) n
  rw [eK1] at D
  have P3 := Lib.hid (And.intro D (And.intro n (And.intro n' hp)))
  clear n n' hp D
  go_wp2_with fail
  refine P3.out.1.mono ?_
  rintro e w3 ⟨v3, rfl, p3, h, k⟩
  have hT := Two.step P3.out.2.1 P3.out.2.2.1 P3.out.2.2.2 h k
  have T3 := Lib.hid hT
  clear hT p3 h k
  obtain ⟨S4, S4', n, n', hp⟩ := T3.out.symm
  have D := DoP noR 2 (by decide) n
  rw [eK1] at D
  have P4 := Lib.hid (And.intro D (And.intro n (And.intro n' hp)))
  clear n n' hp D
  go_wp2_with fail
  refine P4.out.1.mono ?_
  rintro e w4 ⟨v4, rfl, p4, h, k⟩
  have hT := Two.step P4.out.2.1 P4.out.2.2.1 P4.out.2.2.2 h k
  have T4 := Lib.hid hT
  clear hT p4 h k
  obtain ⟨S5, S5', n, n', hp⟩ := T4.out.symm
  have D := DoP noR 0 (by decide) n
  rw [eK2] at D
  have P5 := Lib.hid (And.intro D (And.intro n (And.intro n' hp)))
  clear n n' hp D
  go_wp2_with fail
  refine P5.out.1.mono ?_
  rintro e w5 ⟨v5, rfl, p5, h, k⟩
  have hT := Two.step P5.out.2.1 P5.out.2.2.1 P5.out.2.2.2 h k
  obtain ⟨g, cap, po, rfl, g1, g2, -, -, -, -, x2, -, xo⟩ := p5.at0
  have T5 := Lib.hid hT
  have G5 := Lib.hid (And.intro g1 (And.intro g2 (And.intro x2 xo)))
  have s45 := k.size
  clear hT p5 h k g1 g2 x2 xo
  obtain ⟨S6, S6', n, n', hp⟩ := T5.out.symm
  have D := DoP noR 0 (by decide) n
  rw [eK2] at D
  have P6 := Lib.hid (And.intro D (And.intro n (And.intro n' hp)))
  clear n n' hp D
  go_wp2_with fail
  refine P6.out.1.mono ?_
  rintro e w6 ⟨v6, rfl, p6, h, k⟩
  have hT := Two.step P6.out.2.1 P6.out.2.2.1 P6.out.2.2.2 h k
  obtain ⟨g', cap', po', rfl, g1, g2, -, -, -, -, x2, -, xo⟩ := p6.at0
  have hg : ∀ b, w4.heap.size ≤ b → ¬ B'.t b := fun b hb ht => by
    have := P5.out.2.2.1.tlt ht
    omega
  have z2 := (k.block g G5.out.2.1 (hg g G5.out.1))
  have zc : w6.cell? ⟨g, 2, none⟩ = some po := by
    have h2 := G5.out.2.2.1
    simp only [World.cell?] at h2 ⊢
    rw [z2]; exact h2
  have zo : Opts w6 (fun b => w4.heap.size ≤ b) po (cliA dns 3) := Rec.keep (Rec.mono G5.out.2.2.2 (fun b hb => hb.elim False.elim id)) k (fun b _ hb => hg b hb)
  have T6 := Lib.hid hT
  have bl6 := hT.choose_spec.choose_spec.2.2.bl
  obtain ⟨pa, pc, rfl, -, -⟩ := zo.form
  obtain ⟨qa, qc, rfl, -, -⟩ := xo.form
  have hln := (cliA_3 dns).2.2.2.1
  have F1 := Lib.hid (fun W' (h : Below w6.heap.size w6 W') k => adr_any _ _ _ k W' (Opts.below zo h) (by omega) (cliA_3 dns).2.2.2.2)
  have F2 := Lib.hid (fun W' (h : Below w6.heap.size w6 W') k => adr_any _ _ _ k W' (Opts.below xo h) (show 1 ≤ 1000000 by decide) (fun o ho => by simp only [List.mem_singleton] at ho; subst ho; show 4 ≤ 1000000000; decide))
  have G6 := Lib.hid (And.intro zc (And.intro x2 (And.intro (lt_of_heap (w := w6) (k := g) (o := _) (z2.trans (Array.getElem?_eq_getElem G5.out.2.1))) g2)))
  have HB6 := Lib.hid (And.intro (HB.out.1.trans (bl6.mono HB.out.1.size)) ((bl6.block _ (by have := HB.out.2.1; omega)).trans HB.out.2.2.1))
  clear hT p6 h k g1 g2 x2 xo z2 zc zo bl6 hln hg P3 P4 P5 P6 T2 T3 T4 T5 T6 G5
  have u0 := G6.out.1
  go_wp2_with fail
  have A1 := F1.out _ (Below.refl _ _) 3
  rw [(cliA_3 dns).1, show (Ad.z, true).1.v = .agg #[.int .u8 0, .int .u8 0, .int .u8 0, .int .u8 0] from rfl] at A1
  have A1 := Lib.hid A1
  obtain ⟨z2, hz2⟩ : ∃ z2, z2 = (adrS (cliA dns 3) 129).1 := ⟨_, rfl⟩
  obtain ⟨z3, hz3⟩ : ∃ z3, z3 = (adrS (cliA dns 3) 131).1 := ⟨_, rfl⟩
  have F12 := Lib.hid (fun W' h => by
    have := F1.out W' h 129
    rw [← hz2, (cliA_3 dns).2.1] at this
    unfold Ad.v at this
    exact this)
  have F13 := Lib.hid (fun W' h => by
    have := F1.out W' h 131
    rw [← hz3, (cliA_3 dns).2.2.1] at this
    unfold Ad.v at this
    exact this)
  have F24 := Lib.hid (fun W' h => by
    have := F2.out W' h 3
    rw [adr_own own] at this
    unfold Ad.v at this
    exact this)
  clear hz2 hz3 F1 F2
  refine A1.out.mono ?_
  rintro e w7 ⟨rfl, b7⟩
  have H7 := Lib.hid (show Below w6.heap.size w6 (w7.alloc (.cells #[.int .u8 0, .int .u8 0, .int .u8 0, .int .u8 0] 49 (0, 0))) from b7.alloc b7.size _)
  have Z7 := Lib.hid (at1 w7 (.cells #[.int .u8 0, .int .u8 0, .int .u8 0, .int .u8 0] 49 (0, 0)))
  have u1 : (w7.alloc (.cells #[.int .u8 0, .int .u8 0, .int .u8 0, .int .u8 0] 49 (0, 0))).cell? ⟨g, 2, none⟩ = _ := (H7.out.cell (p := ⟨g, 2, none⟩) G6.out.2.2.1).trans G6.out.1
  clear b7 A1 u0
  go_wp2_with fail
  refine (F12.out _ H7.out).mono ?_
  rintro e w8 ⟨rfl, b8⟩
  have H8 := Lib.hid (show Below w6.heap.size w6 (w8.alloc (.cells #[.int .u8 (z2.a.toNat : Int), .int .u8 (z2.b.toNat : Int), .int .u8 (z2.c.toNat : Int), .int .u8 (z2.d.toNat : Int)] 49 (0, 0))) from (H7.out.trans (b8.mono H7.out.size)).alloc (by have := H7.out.size; have := b8.size; omega) _)
  have B8 := Lib.hid (show Below (w7.alloc (.cells #[.int .u8 0, .int .u8 0, .int .u8 0, .int .u8 0] 49 (0, 0))).heap.size (w7.alloc (.cells #[.int .u8 0, .int .u8 0, .int .u8 0, .int .u8 0] 49 (0, 0))) (w8.alloc (.cells #[.int .u8 (z2.a.toNat : Int), .int .u8 (z2.b.toNat : Int), .int .u8 (z2.c.toNat : Int), .int .u8 (z2.d.toNat : Int)] 49 (0, 0))) from b8.alloc b8.size _)
  have u2 : (w8.alloc (.cells #[.int .u8 (z2.a.toNat : Int), .int .u8 (z2.b.toNat : Int), .int .u8 (z2.c.toNat : Int), .int .u8 (z2.d.toNat : Int)] 49 (0, 0))).cell? ⟨g, 2, none⟩ = _ := (H8.out.cell (p := ⟨g, 2, none⟩) G6.out.2.2.1).trans G6.out.1
  clear b8 u1
  go_wp2_with fail
  refine (F13.out _ H8.out).mono ?_
  rintro e w9 ⟨rfl, b9⟩
  have H9 := Lib.hid (show Below w6.heap.size w6 (w9.alloc (.cells #[.int .u8 (z3.a.toNat : Int), .int .u8 (z3.b.toNat : Int), .int .u8 (z3.c.toNat : Int), .int .u8 (z3.d.toNat : Int)] 49 (0, 0))) from (H8.out.trans (b9.mono H8.out.size)).alloc (by have := H8.out.size; have := b9.size; omega) _)
  have B9 := Lib.hid (show Below (w8.alloc (.cells #[.int .u8 (z2.a.toNat : Int), .int .u8 (z2.b.toNat : Int), .int .u8 (z2.c.toNat : Int), .int .u8 (z2.d.toNat : Int)] 49 (0, 0))).heap.size (w8.alloc (.cells #[.int .u8 (z2.a.toNat : Int), .int .u8 (z2.b.toNat : Int), .int .u8 (z2.c.toNat : Int), .int .u8 (z2.d.toNat : Int)] 49 (0, 0))) (w9.alloc (.cells #[.int .u8 (z3.a.toNat : Int), .int .u8 (z3.b.toNat : Int), .int .u8 (z3.c.toNat : Int), .int .u8 (z3.d.toNat : Int)] 49 (0, 0))) from b9.alloc b9.size _)
  have u3 : (w9.alloc (.cells #[.int .u8 (z3.a.toNat : Int), .int .u8 (z3.b.toNat : Int), .int .u8 (z3.c.toNat : Int), .int .u8 (z3.d.toNat : Int)] 49 (0, 0))).cell? ⟨g', 2, none⟩ = _ := (H9.out.cell (p := ⟨g', 2, none⟩) G6.out.2.2.2).trans G6.out.2.1
  clear b9 u2
  go_wp2_with fail
  refine (F24.out _ H9.out).mono ?_
  rintro e w10 ⟨rfl, b10⟩
  have H10 := Lib.hid (show Below w6.heap.size w6 (w10.alloc (.cells #[.int .u8 (own.a.toNat : Int), .int .u8 (own.b.toNat : Int), .int .u8 (own.c.toNat : Int), .int .u8 (own.d.toNat : Int)] 49 (0, 0))) from (H9.out.trans (b10.mono H9.out.size)).alloc (by have := H9.out.size; have := b10.size; omega) _)
  have B10 := Lib.hid (show Below (w9.alloc (.cells #[.int .u8 (z3.a.toNat : Int), .int .u8 (z3.b.toNat : Int), .int .u8 (z3.c.toNat : Int), .int .u8 (z3.d.toNat : Int)] 49 (0, 0))).heap.size (w9.alloc (.cells #[.int .u8 (z3.a.toNat : Int), .int .u8 (z3.b.toNat : Int), .int .u8 (z3.c.toNat : Int), .int .u8 (z3.d.toNat : Int)] 49 (0, 0))) (w10.alloc (.cells #[.int .u8 (own.a.toNat : Int), .int .u8 (own.b.toNat : Int), .int .u8 (own.c.toNat : Int), .int .u8 (own.d.toNat : Int)] 49 (0, 0))) from b10.alloc b10.size _)
  have Z10 := Lib.hid (at1 w10 (.cells #[.int .u8 (own.a.toNat : Int), .int .u8 (own.b.toNat : Int), .int .u8 (own.c.toNat : Int), .int .u8 (own.d.toNat : Int)] 49 (0, 0)))
  clear b10 u3
  go_wp2_with fail
  refine (alive17_any _).mono ?_
  rintro e w11 ⟨rfl, b11⟩
  have H11 := Lib.hid (H10.out.trans (b11.mono H10.out.size))
  have v4 := (b11.block _ (lt_of_heap Z10.out)).trans Z10.out
  have hz7 : (w7.alloc (.cells #[.int .u8 0, .int .u8 0, .int .u8 0, .int .u8 0] 49 (0, 0))).heap.size ≤ (w10.alloc (.cells #[.int .u8 (own.a.toNat : Int), .int .u8 (own.b.toNat : Int), .int .u8 (own.c.toNat : Int), .int .u8 (own.d.toNat : Int)] 49 (0, 0))).heap.size := Nat.le_trans B8.out.size (Nat.le_trans B9.out.size B10.out.size)
  have v1 := ((B8.out.trans ((B9.out.mono B8.out.size).trans (B10.out.mono (Nat.le_trans B8.out.size B9.out.size)))).trans (b11.mono hz7)).block _ (lt_of_heap Z7.out) |>.trans Z7.out
  have v0 := (H11.out.block _ (lt_of_heap HB6.out.2)).trans HB6.out.2
  have r2 : w11.cell? ⟨g', 2, none⟩ = _ := (H11.out.cell (p := ⟨g', 2, none⟩) G6.out.2.2.2).trans G6.out.2.1
  have t0 := cellOf v0 0 (.int .u8 (own.a.toNat : Int)) rfl
  have t1 := cellOf v0 1 (.int .u8 (own.b.toNat : Int)) rfl
  have t2 := cellOf v0 2 (.int .u8 (own.c.toNat : Int)) rfl
  have t3 := cellOf v0 3 (.int .u8 (own.d.toNat : Int)) rfl
  have t4 := cellOf v1 0 (.int .u8 0) rfl
  have t5 := cellOf v1 1 (.int .u8 0) rfl
  have t6 := cellOf v1 2 (.int .u8 0) rfl
  have t7 := cellOf v1 3 (.int .u8 0) rfl
  have t8 := cellOf v4 0 (.int .u8 (own.a.toNat : Int)) rfl
  have t9 := cellOf v4 1 (.int .u8 (own.b.toNat : Int)) rfl
  have t10 := cellOf v4 2 (.int .u8 (own.c.toNat : Int)) rfl
  have t11 := cellOf v4 3 (.int .u8 (own.d.toNat : Int)) rfl
  have e1 := adEql Ad.z Ad.z
  rw [← adz, (adE_iff _ _).2 rfl] at e1
  have e2 := adEql own own
  rw [(adE_iff _ _).2 rfl] at e2
  unfold Ad.v at e2
  have HF := Lib.hid (HB6.out.1.trans (H11.out.mono HB6.out.1.size))
  clear b11 v0 v1 v4 hz7 H7 H8 H9 H10 H11 Z7 Z10 B8 B9 B10 HB6 G6 F12 F13 F24 HB
  cases dns
  · go_wp2_with fail
    go_ret
    exact ⟨rfl, HF.out⟩
  · go_wp2_with fail
    go_ret
    exact ⟨rfl, HF.out⟩
end Go.Proofs.Ytijepfjfmpmfnaa
