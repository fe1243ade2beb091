import Derived.Test.YtijepfjfmpmfnaaV69
import Derived.Test.YtijepfjfmpmfnaaV53
import Derived.Test.YtijepfjfmpmfnaaV55
/- IpcpMeets: a client and a server that hear each other (the walk). -/
namespace Go.Proofs.Ytijepfjfmpmfnaa
open Go.RowKit Go.Tg Go.Maps

theorem adr_one (own : Ad) : adrS [⟨3, own.s⟩] 3 = (own, true) := rfl
theorem ipE1 (p : Ad) (d1 d2 : Ad) (J : Value) (ask : List Opt) : evS noR (CSv p d1 d2 J) (st0 ask) 2 noCame = (⟨1, 0, 0, 0, 0, 0, ask, [], [], 0, 0⟩, []) := rfl
theorem ipE1c (J : Value) (ask : List Opt) : evS noR (CCl J) (st0 ask) 2 noCame = (⟨1, 0, 0, 0, 0, 0, ask, [], [], 0, 0⟩, []) := rfl
theorem ipE2 (p : Ad) (d1 d2 : Ad) (J : Value) (ask : List Opt) : evS noR (CSv p d1 d2 J) ⟨1, 0, 0, 0, 0, 0, ask, [], [], 0, 0⟩ 0 noCame = (nst 6 9 1 0 ask [] [] 0, [⟨1, 1, ask, noB⟩]) := by kernel_rfl
theorem ipE2c (J : Value) (ask : List Opt) : evS noR (CCl J) ⟨1, 0, 0, 0, 0, 0, ask, [], [], 0, 0⟩ 0 noCame = (nst 6 9 1 0 ask [] [] 0, [⟨1, 1, ask, noB⟩]) := by kernel_rfl

theorem goal_ok (p d1 d2 : Ad) (dns : Bool) : (goal p d1 d2 dns).length ≤ 3 ∧ (∀ o ∈ goal p d1 d2 dns, o.v.size ≤ 1000000000) ∧ adrS (goal p d1 d2 dns) 3 = (p, true) ∧
    ((adrS (goal p d1 d2 dns) 129).2 = (dns && !adE d1 Ad.z) ∧ ((dns && !adE d1 Ad.z) = true → (adrS (goal p d1 d2 dns) 129).1 = d1)) ∧ ((adrS (goal p d1 d2 dns) 131).2 = (dns && !adE d2 Ad.z) ∧ ((dns && !adE d2 Ad.z) = true → (adrS (goal p d1 d2 dns) 131).1 = d2)) := by
  unfold goal
  have hall : ∀ l : List Opt, l.all (fun o => o.v.size == 4) = true → ∀ o ∈ l, o.v.size ≤ 1000000000 := fun l h o ho => by
    have := List.all_eq_true.1 h o ho
    rw [beq_iff_eq] at this
    omega
  cases dns <;> cases adE d1 Ad.z <;> cases adE d2 Ad.z <;> refine ⟨Nat.le_of_ble_eq_true rfl, hall _ rfl, rfl, ⟨rfl, fun h => ?_⟩, ⟨rfl, fun h => ?_⟩⟩ <;> first | rfl | (cases h)

set_option maxHeartbeats 16000000 in
set_option maxRecDepth 100000 in
theorem ipcpMeets_any (own peer d1 d2 : Ad) (dns : Bool) (w : World) :
    Calls Try.prog 8 #[own.v, peer.v, d1.v, d2.v, .bool dns] w fun e w' => e = .returned (.bool true) ∧ Below w.heap.size w w' := by
  have q1 : ∀ w a, (binOp .eql 23 (.pointer (some a)) (.pointer none)).run Try.prog w = .ok (.bool false) w := fun w a => by kernel_rfl
  obtain ⟨W, hW, hs, x0, x1, x2, x3, hb⟩ := alloc4 w (.cells own.cs 49 (0, 0)) (.cells peer.cs 49 (0, 0)) (.cells d1.cs 49 (0, 0)) (.cells d2.cs 49 (0, 0))
  have z4 := at1 W (.cells #[.int .u8 0, .int .u8 0, .int .u8 0, .int .u8 0] 49 (0, 0))
  have hb5 : Below w.heap.size w (W.alloc (.cells #[.int .u8 0, .int .u8 0, .int .u8 0, .int .u8 0] 49 (0, 0))) := hb.alloc (by omega) _
  have y1 := (Below.heap_alloc W (.cells #[.int .u8 0, .int .u8 0, .int .u8 0, .int .u8 0] 49 (0, 0)) _ (lt_of_heap x1)).trans x1
  have y0 := (Below.heap_alloc W (.cells #[.int .u8 0, .int .u8 0, .int .u8 0, .int .u8 0] 49 (0, 0)) _ (lt_of_heap x0)).trans x0
  have y2 := (Below.heap_alloc W (.cells #[.int .u8 0, .int .u8 0, .int .u8 0, .int .u8 0] 49 (0, 0)) _ (lt_of_heap x2)).trans x2
  have y3 := (Below.heap_alloc W (.cells #[.int .u8 0, .int .u8 0, .int .u8 0, .int .u8 0] 49 (0, 0)) _ (lt_of_heap x3)).trans x3
  have e1 := adEql peer Ad.z
  rw [← adz] at e1
  unfold Ad.v at e1 ⊢
  unfold Ad.cs at hW
  have a0 := cellOf y1 0 (.int .u8 (peer.a.toNat : Int)) rfl
  have a1 := cellOf y1 1 (.int .u8 (peer.b.toNat : Int)) rfl
  have a2 := cellOf y1 2 (.int .u8 (peer.c.toNat : Int)) rfl
  have a3 := cellOf y1 3 (.int .u8 (peer.d.toNat : Int)) rfl
  have b0 := cellOf z4 0 (.int .u8 0) rfl
  have b1 := cellOf z4 1 (.int .u8 0) rfl
  have b2 := cellOf z4 2 (.int .u8 0) rfl
  have b3 := cellOf z4 3 (.int .u8 0) rfl
  have HB := Lib.hid (And.intro hb5 (And.intro y0 (And.intro y1 (And.intro y2 (And.intro y3 z4)))))
  have HSZ := Lib.hid hs
  clear x0 x1 x2 x3 hb hb5 y0 y1 y2 y3 z4 hs
  cases hz : adE peer Ad.z with
  | true =>
    rw [hz] at e1
    go_enter Try.func8, Try.ntmps8
    go_wp2_with fail
    rw [← hW]
    refine (alive17_any _).mono ?_
    rintro e w1 ⟨rfl, c1⟩
    have HE := Lib.hid (HB.out.1.trans (c1.mono HB.out.1.size))
    clear c1
    go_wp2_with fail
    go_ret
    exact ⟨rfl, HE.out⟩
  | false =>
    rw [hz] at e1
    have hpz : peer ≠ Ad.z := fun h => by rw [(adE_iff peer Ad.z).2 h] at hz; cases hz
    have HPZ := Lib.hid hpz
    have HC := Lib.hid (fun w => client_any 10 2 10 3 dns w (by decide) (by decide) (by decide) (by decide))
    have HS := Lib.hid (fun w => server_any own peer d1 d2 10 2 10 3 w (by decide) (by decide) (by decide) (by decide))
    unfold Ad.v at HS
    clear hz hpz
    go_enter Try.func8, Try.ntmps8
    go_wp2_with fail
    rw [← hW]
    clear hW a0 a1 a2 a3 b0 b1 b2 b3 e1
    refine (HS.out _).mono ?_
    rintro e w2 ⟨v, rfl, B, jb, rfl, hv, hj, hjs, hjt, hb2⟩
    have h1 : NegP w2 (fun b => (W.alloc (.cells #[.int .u8 0, .int .u8 0, .int .u8 0, .int .u8 0] 49 (0, 0))).heap.size ≤ b) B (CSv peer d1 d2 (ownJ jb)) (st0 [⟨3, own.s⟩]) jb := ⟨hv, hj, hjt, hjs, rfl⟩
    have H1 := Lib.hid (And.intro h1 hb2)
    clear hv hj hjs hjt hb2 h1 HS
    go_wp2_with fail
    refine (HC.out _).mono ?_
    rintro e w4 ⟨v, rfl, B', jb', rfl, hv, hj, hjs, hjt, hb4⟩
    have h2 : NegP w4 (fun b => w2.heap.size ≤ b) B' (CCl (ownJ jb')) (st0 (cliA dns 3)) jb' := ⟨hv, hj, hjt, hjs, rfl⟩
    obtain ⟨W5, hW5⟩ : ∃ W5, W5 = W.alloc (.cells #[.int .u8 0, .int .u8 0, .int .u8 0, .int .u8 0] 49 (0, 0)) := ⟨_, rfl⟩
    rw [← hW5] at H1 HB
    have T4 := Lib.hid (Two.made (Below.refl W5.heap.size W5) H1.out.1 H1.out.2 h2 hb4)
    clear hv hj hjs hjt hb4 h2 H1 HC hW5
    obtain ⟨S4, S4', n, n', hp⟩ := T4.out
    have D := DoP noR 2 (by decide) n
    rw [ipE1 peer] at D
    have P5 := Lib.hid (And.intro D (And.intro n (And.intro n' hp)))
    clear n n' hp D
    go_wp2_with fail
    refine P5.out.1.mono ?_
    rintro e w5 ⟨v5, rfl, p5, h, k⟩
    have T5 := Lib.hid (Two.step P5.out.2.1 P5.out.2.2.1 P5.out.2.2.2 h k)
    clear p5 h k
    obtain ⟨S5, S5', n, n', hp⟩ := T5.out.symm
    have D := DoP noR 2 (by decide) n
    rw [ipE1c (ownJ jb')] at D
    have P6 := Lib.hid (And.intro D (And.intro n (And.intro n' hp)))
    clear n n' hp D
    go_wp2_with fail
    refine P6.out.1.mono ?_
    rintro e w6 ⟨v6, rfl, p6, h, k⟩
    have T6 := Lib.hid (Two.step P6.out.2.1 P6.out.2.2.1 P6.out.2.2.2 h k)
    clear p6 h k
    obtain ⟨S6, S6', n, n', hp⟩ := T6.out.symm
    have D := DoP noR 0 (by decide) n
    rw [ipE2 peer] at D
    have P7 := Lib.hid (And.intro D (And.intro n (And.intro n' hp)))
    have HT := Lib.hid (show ∀ b, B.t b ∨ B'.t b → b < w6.heap.size from fun b hb => hb.elim (fun h => n.tlt h) (fun h => n'.tlt h))
    clear n n' hp D
    go_wp2_with fail
    refine P7.out.1.mono ?_
    rintro e w7 ⟨v7, rfl, p7, h, k⟩
    have T7 := Lib.hid (Two.step P7.out.2.1 P7.out.2.2.1 P7.out.2.2.2 h k)
    have G7 := Lib.hid (And.intro (Bag.mk' p7 (Nat.le_refl _) (fun b _ hb => hb.elim False.elim id)) k.size)
    obtain ⟨sp, cp, rfl⟩ := p7.form
    clear p7 h k
    obtain ⟨S7, S7', n, n', hp⟩ := T7.out.symm
    have D := DoP noR 0 (by decide) n
    rw [ipE2c (ownJ jb')] at D
    have P8 := Lib.hid (And.intro D (And.intro n (And.intro n' hp)))
    clear n n' hp D
    go_wp2_with fail
    refine P8.out.1.mono ?_
    rintro e w8 ⟨v8, rfl, p8, h, k⟩
    have T8 := Two.step P8.out.2.1 P8.out.2.2.1 P8.out.2.2.2 h k
    obtain ⟨S8', S8, g1, g2, g3⟩ := T8
    have hM : MtI W5 w8 B B' (CSv peer d1 d2 (ownJ jb)) (CCl (ownJ jb')) jb jb' w6.heap.size (simI own dns) _ v8 := ⟨S8, S8', w7.heap.size, w8.heap.size, g2, g1, g3.symm, G7.out.1.keep k (fun b h1 _ ht => by have := HT.out b (.inr ht); omega), Bag.mk' p8 G7.out.2 (fun b _ hb => hb.elim False.elim (fun hb => Nat.le_trans G7.out.2 hb)), HT.out, Nat.le_trans G7.out.2 k.size, k.size, Nat.le_refl _⟩
    obtain ⟨sq, cq, rfl⟩ := p8.form
    have HM := Lib.hid hM
    have HS := Lib.hid (sims_ipcp (ownJ jb) (ownJ jb') own peer d1 d2 dns HPZ.out)
    clear p8 h k g1 g2 g3 hM P5 P6 P7 P8 T4 T5 T6 T7 G7 HT
    generalize w6.heap.size = m at HM
    generalize hC : CSv peer d1 d2 (ownJ jb) = C at *
    generalize hC' : CCl (ownJ jb') = C' at *
    have LPQ := Lib.hid (show (simI own dns).p.length = 1 ∧ (simI own dns).q.length = 1 from ⟨rfl, rfl⟩)
    generalize hS : simI own dns = s0 at *
    clear hC hC' hS
    go_wp2_with fail
    go_loopg [18, 16, 17] 12 (fun n vi vp vq wr => ∃ (i : Nat) (sp sq : Option Addr) (cp cq : Nat), i ≤ 12 ∧ n = 12 - i ∧ vi = .int .i64 i ∧ vp = .slice sp (sims C C' s0 i).p.length cp ∧ vq = .slice sq (sims C C' s0 i).q.length cq ∧
      Hid (MtI W5 wr B B' C C' jb jb' m (sims C C' s0 i) vp vq))
    case atStart => exact ⟨0, sp, sq, cp, cq, by omega, by omega, rfl, congrArg (fun n => Value.slice sp n cp) LPQ.out.1.symm, congrArg (fun n => Value.slice sq n cq) LPQ.out.2.symm, HM.out⟩
    case round =>
      clear HM
      obtain ⟨i, sp, sq, cp, cq, hi12, rfl, rfl, rfl, rfl, hH⟩ := hrel
      obtain ⟨wA, rfl⟩ : ∃ wA, wA = wr := ⟨_, rfl⟩
      by_cases hlt : i < 12
      · have hltb : decide ((i : Int) < 12) = true := by simp; omega
        have hSN : Hid (sims C C' s0 (i + 1) = xch C C' (sims C C' s0 i)) := Lib.hid rfl
        have hok := HS.out.1 i
        generalize sims C C' s0 i = s at hSN hok hH ⊢
        obtain ⟨x, y, p, q⟩ := s
        obtain ⟨hp, hq, hX⟩ := hH.out.start1
        have hlp : p.length ≤ 100 := hok.1
        have hlq : q.length ≤ 100 := hok.2.1
        have HX := Lib.hid hX
        have HK := Lib.hid hok
        clear hH hX hok
        dsimp only at HX ⊢
        go_wp2_with fail
        go_loopg [21, 19] p.length (fun n vk vu wq => ∃ (k : Nat), k ≤ p.length ∧ n = p.length - k ∧ vk = .int .i64 k ∧
          Hid (Ex1 W5 wq B B' C C' x y jb jb' m hp (.slice sp p.length cp) p hq (.slice sq q.length cq) q wA.heap.size vu k))
        case atStart => exact ⟨0, by omega, by omega, rfl, HX.out⟩
        case round =>
          obtain ⟨k, hk, rfl, rfl, hH⟩ := hrel
          obtain ⟨wq, rfl⟩ : ∃ wq, wq = wr := ⟨_, rfl⟩
          by_cases hkx : k < p.length
          · obtain ⟨b, off, po, rfl, c0, c1, c2, c3, hcall⟩ := hH.out.step hkx hlp HK.out.2.2.1
            have HC := Lib.hid hcall
            clear hH hcall HX
            generalize p[k] = pk at *
            go_wp2_with fail
            refine HC.out.mono ?_
            rintro e w5 ⟨v5, rfl, L, L', r1, r2, hone, hll, hlu, hnext⟩
            have HN := Lib.hid (And.intro r1 (And.intro r2 hnext))
            clear r1 r2 hnext c0 c1 c2 c3
            go_wp2_with (at_builtin; refine wpl_append_pks rfl _ _ rfl _ L rfl HN.out.1 _ L' rfl HN.out.2.1 hone hll hlu ?_; intro v6 w6 h6 k6 o6; have H6 := Lib.hid (HN.out.2.2 v6 w6 h6 k6 o6); clear h6 k6 o6)
            go_roundg (p.length - (k + 1))
            case measure => omega
            case rel => exact ⟨k + 1, by omega, rfl, by go_num, H6.out⟩
          · obtain rfl : k = p.length := by omega
            have HY := Lib.hid hH.out.start2
            clear hH HX
            go_wp2_with fail
            go_loopg [22, 20] q.length (fun n vk vu wz => ∃ (k : Nat), k ≤ q.length ∧ n = q.length - k ∧ vk = .int .i64 k ∧
              Hid (Ex1 W5 wz B' B C' C (takeAll C' y p).1 x jb' jb m hq (.slice sq q.length cq) q wq.heap.size u19 (takeAll C' y p).2 wq.heap.size vu k))
            case atStart => exact ⟨0, by omega, by omega, rfl, HY.out⟩
            case round =>
              obtain ⟨k, hk, rfl, rfl, hH⟩ := hrel
              obtain ⟨wz, rfl⟩ : ∃ wz, wz = wr := ⟨_, rfl⟩
              by_cases hkx : k < q.length
              · obtain ⟨b, off, po, rfl, c0, c1, c2, c3, hcall⟩ := hH.out.step hkx hlq HK.out.2.2.2
                have HC := Lib.hid hcall
                clear hH hcall HY
                generalize q[k] = pk at *
                go_wp2_with fail
                refine HC.out.mono ?_
                rintro e w5 ⟨v5, rfl, L, L', r1, r2, hone, hll, hlu, hnext⟩
                have HN := Lib.hid (And.intro r1 (And.intro r2 hnext))
                clear r1 r2 hnext c0 c1 c2 c3
                go_wp2_with (at_builtin; refine wpl_append_pks rfl _ _ rfl _ L rfl HN.out.1 _ L' rfl HN.out.2.1 hone hll hlu ?_; intro v6 w6 h6 k6 o6; have H6 := Lib.hid (HN.out.2.2 v6 w6 h6 k6 o6); clear h6 k6 o6)
                go_roundg (q.length - (k + 1))
                case measure => omega
                case rel => exact ⟨k + 1, by omega, rfl, by go_num, H6.out⟩
              · obtain rfl : k = q.length := by omega
                have hD : MtI W5 wz B B' C C' jb jb' m (xch C C' ⟨x, y, p, q⟩) u20 u19 := hH.out.done
                obtain ⟨sv, su, cv, cu, rfl, rfl⟩ := hD.form
                have HD := Lib.hid hD
                clear hH hD HY
                go_wp2_with fail
                go_roundg (12 - (i + 1))
                case measure => omega
                case rel => exact ⟨i + 1, sv, su, cv, cu, by omega, rfl, by go_num, by rw [hSN.out], by rw [hSN.out], by rw [hSN.out]; exact HD.out⟩
      · obtain rfl : i = 12 := by omega
        obtain ⟨h1, h2, h3, h4⟩ := HS.out.2
        have hH := hH.out
        generalize sims C C' s0 12 = s at *
        obtain ⟨x, y, p, q⟩ := s
        dsimp only at h1 h2 h3 h4 hH ⊢
        obtain ⟨S, S', -, -, n1, n2, hp, -⟩ := hH
        have E3 := Lib.hid (fun W (hW : Below wA.heap.size wA W) => by
          have := MineP (n2.below hW)
          rw [if_pos h2, h3] at this
          exact this)
        have E4 := Lib.hid (fun W (hW : Below wA.heap.size wA W) => by
          have := TheirsP (n2.below hW)
          rw [if_pos h2, h4] at this
          exact this)
        have ST1 := Lib.hid (fun W (hW : Below wA.heap.size wA W) => by
          have := StateP (n1.below hW)
          rw [h1] at this
          exact this)
        have ST2 := Lib.hid (fun W (hW : Below wA.heap.size wA W) => by
          have := StateP (n2.below hW)
          rw [h2] at this
          exact this)
        have GO := Lib.hid (goal_ok peer d1 d2 dns)
        obtain ⟨z2, hz2⟩ : ∃ z2, z2 = (adrS (goal peer d1 d2 dns) 129).1 := ⟨_, rfl⟩
        obtain ⟨z3, hz3⟩ : ∃ z3, z3 = (adrS (goal peer d1 d2 dns) 131).1 := ⟨_, rfl⟩
        have G2 := Lib.hid (show adrS (goal peer d1 d2 dns) 129 = (z2, (dns && !adE d1 Ad.z)) from Prod.ext hz2.symm GO.out.2.2.2.1.1)
        have G3 := Lib.hid (show adrS (goal peer d1 d2 dns) 131 = (z3, (dns && !adE d2 Ad.z)) from Prod.ext hz3.symm GO.out.2.2.2.2.1)
        have Z2 := Lib.hid (show (dns && !adE d1 Ad.z) = true → z2 = d1 from fun h => hz2.trans (GO.out.2.2.2.1.2 h))
        have Z3 := Lib.hid (show (dns && !adE d2 Ad.z) = true → z3 = d2 from fun h => hz3.trans (GO.out.2.2.2.2.2 h))
        generalize goal peer d1 d2 dns = gl at *
        generalize hf2 : (dns && !adE d1 Ad.z) = f2 at *
        generalize hf3 : (dns && !adE d2 Ad.z) = f3 at *
        have FF := Lib.hid (And.intro hf2 hf3)
        have hL0 : Lay w W5 [(w.heap.size, .cells #[.int .u8 (own.a.toNat : Int), .int .u8 (own.b.toNat : Int), .int .u8 (own.c.toNat : Int), .int .u8 (own.d.toNat : Int)] 49 (0, 0)), (w.heap.size + 1, .cells #[.int .u8 (peer.a.toNat : Int), .int .u8 (peer.b.toNat : Int), .int .u8 (peer.c.toNat : Int), .int .u8 (peer.d.toNat : Int)] 49 (0, 0)), (w.heap.size + 1 + 1, .cells #[.int .u8 (d1.a.toNat : Int), .int .u8 (d1.b.toNat : Int), .int .u8 (d1.c.toNat : Int), .int .u8 (d1.d.toNat : Int)] 49 (0, 0)), (w.heap.size + 1 + 1 + 1, .cells #[.int .u8 (d2.a.toNat : Int), .int .u8 (d2.b.toNat : Int), .int .u8 (d2.c.toNat : Int), .int .u8 (d2.d.toNat : Int)] 49 (0, 0)), (w.heap.size + 1 + 1 + 1 + 1, .cells #[.int .u8 0, .int .u8 0, .int .u8 0, .int .u8 0] 49 (0, 0))] := ⟨HB.out.1, fun p hp => by
          have z4 := HB.out.2.2.2.2.2
          rw [HSZ.out] at z4
          simp only [List.mem_cons, List.not_mem_nil, or_false] at hp
          rcases hp with rfl | rfl | rfl | rfl | rfl
          · exact ⟨Nat.le_refl _, HB.out.2.1⟩
          · exact ⟨by show w.heap.size ≤ w.heap.size + 1; omega, HB.out.2.2.1⟩
          · exact ⟨by show w.heap.size ≤ w.heap.size + 1 + 1; omega, HB.out.2.2.2.1⟩
          · exact ⟨by show w.heap.size ≤ w.heap.size + 1 + 1 + 1; omega, HB.out.2.2.2.2.1⟩
          · exact ⟨by show w.heap.size ≤ w.heap.size + 1 + 1 + 1 + 1; omega, z4⟩⟩
        have L0 := Lib.hid (And.intro (hL0.go hp.bl) (Below.refl wA.heap.size wA))
        clear hL0 hp n1 n2 h1 h2 h3 h4 hz2 hz3 hf2 hf3 HS HB HSZ LPQ HPZ
        go_wp2_with fail
        refine (E3.out _ L0.out.2).mono ?_
        rintro e a1 ⟨v1, rfl, r, b⟩
        have A := adr_any _ _ _ 3 a1 (r.opts (Nat.le_trans GO.out.1 (by decide))) (Nat.le_trans GO.out.1 (by decide)) GO.out.2.1
        rw [GO.out.2.2.1] at A
        unfold Ad.v at A
        have HA := Lib.hid A
        have M1 := Lib.hid (And.intro (L0.out.1.go b) (L0.out.2.trans (b.mono L0.out.2.size)))
        clear r b A L0
        go_wp2_with fail
        refine HA.out.mono ?_
        rintro e c1 ⟨rfl, b⟩
        have K1 := Lib.hid (And.intro ((M1.out.1.go b).alloc (.cells #[.int .u8 (peer.a.toNat : Int), .int .u8 (peer.b.toNat : Int), .int .u8 (peer.c.toNat : Int), .int .u8 (peer.d.toNat : Int)] 49 (0, 0))) ((M1.out.2.trans (b.mono M1.out.2.size)).alloc (Nat.le_trans M1.out.2.size b.size) (.cells #[.int .u8 (peer.a.toNat : Int), .int .u8 (peer.b.toNat : Int), .int .u8 (peer.c.toNat : Int), .int .u8 (peer.d.toNat : Int)] 49 (0, 0))))
        clear b HA M1
        go_wp2_with fail
        refine (E3.out _ K1.out.2).mono ?_
        rintro e a2 ⟨v2, rfl, r, b⟩
        have A := adr_any _ _ _ 129 a2 (r.opts (Nat.le_trans GO.out.1 (by decide))) (Nat.le_trans GO.out.1 (by decide)) GO.out.2.1
        rw [G2.out] at A
        unfold Ad.v at A
        have HA := Lib.hid A
        have M2 := Lib.hid (And.intro (K1.out.1.go b) (K1.out.2.trans (b.mono K1.out.2.size)))
        clear r b A K1
        go_wp2_with fail
        refine HA.out.mono ?_
        rintro e c2 ⟨rfl, b⟩
        have K2 := Lib.hid (And.intro ((M2.out.1.go b).alloc (.cells #[.int .u8 (z2.a.toNat : Int), .int .u8 (z2.b.toNat : Int), .int .u8 (z2.c.toNat : Int), .int .u8 (z2.d.toNat : Int)] 49 (0, 0))) ((M2.out.2.trans (b.mono M2.out.2.size)).alloc (Nat.le_trans M2.out.2.size b.size) (.cells #[.int .u8 (z2.a.toNat : Int), .int .u8 (z2.b.toNat : Int), .int .u8 (z2.c.toNat : Int), .int .u8 (z2.d.toNat : Int)] 49 (0, 0))))
        clear b HA M2
        go_wp2_with fail
        refine (E3.out _ K2.out.2).mono ?_
        rintro e a3 ⟨v3, rfl, r, b⟩
        have A := adr_any _ _ _ 131 a3 (r.opts (Nat.le_trans GO.out.1 (by decide))) (Nat.le_trans GO.out.1 (by decide)) GO.out.2.1
        rw [G3.out] at A
        unfold Ad.v at A
        have HA := Lib.hid A
        have M3 := Lib.hid (And.intro (K2.out.1.go b) (K2.out.2.trans (b.mono K2.out.2.size)))
        clear r b A K2
        go_wp2_with fail
        refine HA.out.mono ?_
        rintro e c3 ⟨rfl, b⟩
        have K3 := Lib.hid (And.intro ((M3.out.1.go b).alloc (.cells #[.int .u8 (z3.a.toNat : Int), .int .u8 (z3.b.toNat : Int), .int .u8 (z3.c.toNat : Int), .int .u8 (z3.d.toNat : Int)] 49 (0, 0))) ((M3.out.2.trans (b.mono M3.out.2.size)).alloc (Nat.le_trans M3.out.2.size b.size) (.cells #[.int .u8 (z3.a.toNat : Int), .int .u8 (z3.b.toNat : Int), .int .u8 (z3.c.toNat : Int), .int .u8 (z3.d.toNat : Int)] 49 (0, 0))))
        clear b HA M3
        go_wp2_with fail
        refine (E4.out _ K3.out.2).mono ?_
        rintro e a4 ⟨v4, rfl, r, b⟩
        have A := adr_any _ _ _ 3 a4 (r.opts (show 1 ≤ maxLen by decide)) (show 1 ≤ 1000000 by decide) (fun o ho => by rw [List.mem_singleton.1 ho]; show 4 ≤ 1000000000; decide)
        rw [adr_one own] at A
        unfold Ad.v at A
        have HA := Lib.hid A
        have M4 := Lib.hid (And.intro (K3.out.1.go b) (K3.out.2.trans (b.mono K3.out.2.size)))
        clear r b A K3
        go_wp2_with fail
        refine HA.out.mono ?_
        rintro e c4 ⟨rfl, b⟩
        have K4 := Lib.hid (And.intro ((M4.out.1.go b).alloc (.cells #[.int .u8 (own.a.toNat : Int), .int .u8 (own.b.toNat : Int), .int .u8 (own.c.toNat : Int), .int .u8 (own.d.toNat : Int)] 49 (0, 0))) ((M4.out.2.trans (b.mono M4.out.2.size)).alloc (Nat.le_trans M4.out.2.size b.size) (.cells #[.int .u8 (own.a.toNat : Int), .int .u8 (own.b.toNat : Int), .int .u8 (own.c.toNat : Int), .int .u8 (own.d.toNat : Int)] 49 (0, 0))))
        clear b HA M4
        go_wp2_with fail
        refine (alive17_any _).mono ?_
        rintro e aw ⟨rfl, b⟩
        have KK := Lib.hid (And.intro (K4.out.1.go b) (K4.out.2.trans (b.mono K4.out.2.size)))
        clear b K4
        go_wp2_with fail
        refine (ST1.out _ KK.out.2).mono ?_
        rintro e a9 ⟨rfl, rfl⟩
        go_wp2_with fail
        refine (ST2.out _ KK.out.2).mono ?_
        rintro e a9 ⟨rfl, rfl⟩
        have y0 := (KK.out.1.get _ (.head _)).2
        have y0a := cellOf y0 0 (.int .u8 (own.a.toNat : Int)) rfl
        have y0b := cellOf y0 1 (.int .u8 (own.b.toNat : Int)) rfl
        have y0c := cellOf y0 2 (.int .u8 (own.c.toNat : Int)) rfl
        have y0d := cellOf y0 3 (.int .u8 (own.d.toNat : Int)) rfl
        clear y0
        have y1 := (KK.out.1.get _ (.tail _ (.head _))).2
        have y1a := cellOf y1 0 (.int .u8 (z3.a.toNat : Int)) rfl
        have y1b := cellOf y1 1 (.int .u8 (z3.b.toNat : Int)) rfl
        have y1c := cellOf y1 2 (.int .u8 (z3.c.toNat : Int)) rfl
        have y1d := cellOf y1 3 (.int .u8 (z3.d.toNat : Int)) rfl
        clear y1
        have y2 := (KK.out.1.get _ (.tail _ (.tail _ (.head _)))).2
        have y2a := cellOf y2 0 (.int .u8 (z2.a.toNat : Int)) rfl
        have y2b := cellOf y2 1 (.int .u8 (z2.b.toNat : Int)) rfl
        have y2c := cellOf y2 2 (.int .u8 (z2.c.toNat : Int)) rfl
        have y2d := cellOf y2 3 (.int .u8 (z2.d.toNat : Int)) rfl
        clear y2
        have y3 := (KK.out.1.get _ (.tail _ (.tail _ (.tail _ (.head _))))).2
        have y3a := cellOf y3 0 (.int .u8 (peer.a.toNat : Int)) rfl
        have y3b := cellOf y3 1 (.int .u8 (peer.b.toNat : Int)) rfl
        have y3c := cellOf y3 2 (.int .u8 (peer.c.toNat : Int)) rfl
        have y3d := cellOf y3 3 (.int .u8 (peer.d.toNat : Int)) rfl
        clear y3
        have y4 := (KK.out.1.get _ (.tail _ (.tail _ (.tail _ (.tail _ (.head _)))))).2
        have y4a := cellOf y4 0 (.int .u8 (own.a.toNat : Int)) rfl
        have y4b := cellOf y4 1 (.int .u8 (own.b.toNat : Int)) rfl
        have y4c := cellOf y4 2 (.int .u8 (own.c.toNat : Int)) rfl
        have y4d := cellOf y4 3 (.int .u8 (own.d.toNat : Int)) rfl
        clear y4
        have y5 := (KK.out.1.get _ (.tail _ (.tail _ (.tail _ (.tail _ (.tail _ (.head _))))))).2
        have y5a := cellOf y5 0 (.int .u8 (peer.a.toNat : Int)) rfl
        have y5b := cellOf y5 1 (.int .u8 (peer.b.toNat : Int)) rfl
        have y5c := cellOf y5 2 (.int .u8 (peer.c.toNat : Int)) rfl
        have y5d := cellOf y5 3 (.int .u8 (peer.d.toNat : Int)) rfl
        clear y5
        have y6 := (KK.out.1.get _ (.tail _ (.tail _ (.tail _ (.tail _ (.tail _ (.tail _ (.head _)))))))).2
        have y6a := cellOf y6 0 (.int .u8 (d1.a.toNat : Int)) rfl
        have y6b := cellOf y6 1 (.int .u8 (d1.b.toNat : Int)) rfl
        have y6c := cellOf y6 2 (.int .u8 (d1.c.toNat : Int)) rfl
        have y6d := cellOf y6 3 (.int .u8 (d1.d.toNat : Int)) rfl
        clear y6
        have y7 := (KK.out.1.get _ (.tail _ (.tail _ (.tail _ (.tail _ (.tail _ (.tail _ (.tail _ (.head _))))))))).2
        have y7a := cellOf y7 0 (.int .u8 (d2.a.toNat : Int)) rfl
        have y7b := cellOf y7 1 (.int .u8 (d2.b.toNat : Int)) rfl
        have y7c := cellOf y7 2 (.int .u8 (d2.c.toNat : Int)) rfl
        have y7d := cellOf y7 3 (.int .u8 (d2.d.toNat : Int)) rfl
        clear y7
        have y8 := (KK.out.1.get _ (.tail _ (.tail _ (.tail _ (.tail _ (.tail _ (.tail _ (.tail _ (.tail _ (.head _)))))))))).2
        have y8a := cellOf y8 0 (.int .u8 0) rfl
        have y8b := cellOf y8 1 (.int .u8 0) rfl
        have y8c := cellOf y8 2 (.int .u8 0) rfl
        have y8d := cellOf y8 3 (.int .u8 0) rfl
        clear y8
        have e1 := adEql peer peer
        rw [(adE_iff _ _).2 rfl] at e1
        have e2 := adEql own own
        rw [(adE_iff _ _).2 rfl] at e2
        have e3 := adEql d1 d1
        rw [(adE_iff _ _).2 rfl] at e3
        have e4 := adEql d2 d2
        rw [(adE_iff _ _).2 rfl] at e4
        have e5 := adNeq d1 Ad.z
        have e6 := adNeq d2 Ad.z
        rw [← adz] at e5 e6
        unfold Ad.v at e1 e2 e3 e4 e5 e6
        have HE := Lib.hid KK.out.1.bl
        clear KK E3 E4 ST1 ST2 G2 G3 GO
        cases dns with
        | false =>
          obtain rfl : false = f2 := FF.out.1
          obtain rfl : false = f3 := FF.out.2
          clear FF Z2 Z3
          go_wp2_with fail
          go_ret
          exact ⟨rfl, HE.out⟩
        | true =>
          cases g1 : adE d1 Ad.z with
          | true =>
            rw [g1] at e5 FF
            obtain rfl : false = f2 := FF.out.1
            cases g2 : adE d2 Ad.z with
            | true =>
              rw [g2] at e6 FF
              obtain rfl : false = f3 := FF.out.2
              clear FF Z2 Z3
              go_wp2_with fail
              go_ret
              exact ⟨rfl, HE.out⟩
            | false =>
              rw [g2] at e6 FF
              obtain rfl : true = f3 := FF.out.2
              obtain rfl := Z3.out rfl
              clear FF Z2 Z3
              go_wp2_with fail
              go_ret
              exact ⟨rfl, HE.out⟩
          | false =>
            rw [g1] at e5 FF
            obtain rfl : true = f2 := FF.out.1
            obtain rfl := Z2.out rfl
            cases g2 : adE d2 Ad.z with
            | true =>
              rw [g2] at e6 FF
              obtain rfl : false = f3 := FF.out.2
              clear FF Z2 Z3
              go_wp2_with fail
              go_ret
              exact ⟨rfl, HE.out⟩
            | false =>
              rw [g2] at e6 FF
              obtain rfl : true = f3 := FF.out.2
              obtain rfl := Z3.out rfl
              clear FF Z2 Z3
              go_wp2_with fail
              go_ret
              exact ⟨rfl, HE.out⟩
end Go.Proofs.Ytijepfjfmpmfnaa
