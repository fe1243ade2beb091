import Derived.Test.YtijepfjfmpmfnaaV74
import Derived.Test.YtijepfjfmpmfnaaV53
import Derived.Test.YtijepfjfmpmfnaaV55
/- IpcpForced: a server acks its own choice alone. -/
namespace Go.Proofs.Ytijepfjfmpmfnaa
open Go.RowKit Go.Tg Go.Maps

theorem vB4 (a b c d : UInt8) : valB [a, b, c, d] = ((((a.toNat : Int) * 256 + b.toNat) * 256 + c.toNat) * 256 + d.toNat) := by
  simp [valB]
theorem vU8 (a : UInt8) : a.toNat < 256 := a.toNat_lt
theorem vInj (x y : Ad) (h : valB [x.a, x.b, x.c, x.d] = valB [y.a, y.b, y.c, y.d]) : x = y := by
  rw [vB4, vB4] at h
  obtain ⟨a, b, c, d⟩ := x
  obtain ⟨a', b', c', d'⟩ := y
  simp only at h
  have := vU8 a; have := vU8 b; have := vU8 c; have := vU8 d
  have := vU8 a'; have := vU8 b'; have := vU8 c'; have := vU8 d'
  have ha : a = a' := UInt8.toNat_inj.1 (by omega)
  have hb : b = b' := UInt8.toNat_inj.1 (by omega)
  have hc : c = c' := UInt8.toNat_inj.1 (by omega)
  have hd : d = d' := UInt8.toNat_inj.1 (by omega)
  subst ha hb hc hd; rfl
theorem just_only (k : Int) (x : Ad) (v : ByteArray) (h : fitsR (justR k x) v = true) : v = x.s := by
  unfold fitsR at h
  simp only [Bool.and_eq_true, decide_eq_true_eq] at h
  obtain ⟨⟨h1, h2⟩, h3⟩ := h
  have h4 : v.size = 4 := by
    have : (v.size : Int) = 4 := h1
    omega
  obtain ⟨y, rfl⟩ := ad_of4 v h4
  have e : y.s.data.toList.take 7 = [y.a, y.b, y.c, y.d] := rfl
  rw [e] at h2 h3
  have h5 : valB [x.a, x.b, x.c, x.d] ≤ valB [y.a, y.b, y.c, y.d] := h2
  have h6 : valB [y.a, y.b, y.c, y.d] ≤ valB [x.a, x.b, x.c, x.d] := h3
  rw [vInj y x (by omega)]
theorem forced (peer : Ad) (l : List Opt) (h : (judgeS (srvR peer Ad.z Ad.z) l).1 = 2) : ∀ o ∈ l, o = ⟨3, peer.s⟩ := fun o ho => by
  have e : srvR peer Ad.z Ad.z = [justR 3 peer] := rfl
  rw [e] at h
  obtain ⟨h1, h2⟩ := judge_rule _ _ h o ho
  have h3 := just_only 3 peer o.v h2
  obtain ⟨t, v⟩ := o
  simp only at h1 h3
  subst h1 h3; rfl

theorem blk_lt {w : World} {k : Nat} {o : Obj} (e : w.heap[k]? = some o) : k < w.heap.size := (Array.getElem?_eq_some_iff.1 e).1
theorem cell_lt {w : World} {b o : Nat} {v : Value} (h : w.cell? ⟨b, o, none⟩ = some v) : b < w.heap.size := by
  unfold World.cell? at h
  by_cases hlt : b < w.heap.size
  · exact hlt
  · have : w.heap[b]? = none := by simp; omega
    simp [this] at h
theorem pkOk_small {x : OpM} (h : SmO x) (hw : ∀ o ∈ x.p.o, I64 o.t ∧ o.v.size ≤ maxLen) : PkOk x.p :=
  ⟨Nat.le_trans h.1.1 (by decide), fun o ho => (hw o ho).1, fun o ho => Nat.le_trans (h.1.2 o ho) (by decide), Nat.le_trans h.2 (by decide)⟩

def CF (peer : Ad) (jb : Nat) : NegC := ⟨[], srvR peer Ad.z Ad.z, [], 10, 2, 3, 3, ownJ jb⟩
theorem fE1 (peer : Ad) (jb : Nat) (ask : List Opt) : evS noR (CF peer jb) (st0 ask) 2 noCame = (⟨1, 0, 0, 0, 0, 0, ask, [], [], 0, 0⟩, []) := rfl

set_option maxHeartbeats 16000000 in
set_option maxRecDepth 100000 in
theorem ipcpForced_any (peer : Ad) (L : List OpV) (lv : Value) (w : World) (hl : OpsAt w (fun _ => True) lv L) :
    Calls Try.prog 5 #[peer.v, lv] w fun e w' => e = .returned (.bool true) ∧ Below w.heap.size w w' := by
  have q1 : ∀ w a, (binOp .eql 23 (.pointer (some a)) (.pointer none)).run Try.prog w = .ok (.bool false) w := fun w a => by kernel_rfl
  obtain ⟨W, hW⟩ : ∃ W, W = w.alloc (.cells peer.cs 49 (0, 0)) := ⟨_, rfl⟩
  have x0 : W.heap[w.heap.size]? = some (.cells peer.cs 49 (0, 0)) := by rw [hW]; exact at1 _ _
  have hs : W.heap.size = w.heap.size + 1 := by rw [hW]; exact alloc1 _ _
  have hb : Below w.heap.size w W := by rw [hW]; exact (Below.refl _ _).alloc (Nat.le_refl _) _
  have hO : OpsAt W (fun b => b < w.heap.size) lv L := hl.old.below hb
  have HM := Lib.hid (small_any L lv _ W hO)
  have HS := server_any ⟨1, 0, 0, 0⟩ peer Ad.z Ad.z 10 2 3 3 W (by decide) (by decide) (by decide) (by decide)
  rw [show (⟨1, 0, 0, 0⟩ : Ad).v = .agg #[.int .u8 1, .int .u8 0, .int .u8 0, .int .u8 0] from rfl, show Ad.z.v = .agg #[.int .u8 0, .int .u8 0, .int .u8 0, .int .u8 0] from rfl] at HS
  unfold Ad.v at HS
  have HS := Lib.hid HS
  have c0 := cellOf x0 0 (.int .u8 (peer.a.toNat : Int)) rfl
  have c1 := cellOf x0 1 (.int .u8 (peer.b.toNat : Int)) rfl
  have c2 := cellOf x0 2 (.int .u8 (peer.c.toNat : Int)) rfl
  have c3 := cellOf x0 3 (.int .u8 (peer.d.toNat : Int)) rfl
  obtain ⟨sa, c, rfl, hc, hcm⟩ := hO.form
  have HB := Lib.hid (And.intro hb (And.intro hs (And.intro x0 hO)))
  obtain ⟨len, hln⟩ : ∃ len, len = L.length := ⟨_, rfl⟩
  have HLN := Lib.hid hln
  rw [← hln] at hc HM HB ⊢
  unfold maxLen at hcm
  unfold Ad.v
  unfold Ad.cs at hW
  clear hb hs x0 hO hln hl
  go_enter Try.func5, Try.ntmps5
  go_wp2_with fail
  rw [← hW]
  clear hW
  refine HM.out.mono ?_
  rintro e w1 ⟨⟨b, rfl, hsm⟩, rfl⟩
  cases b with
  | false =>
    clear hsm
    go_wp2_with fail
    refine (alive17_any _).mono ?_
    rintro e w1 ⟨rfl, b1⟩
    have HE := Lib.hid (HB.out.1.trans (b1.mono HB.out.1.size))
    clear b1
    go_wp2_with fail
    go_ret
    exact ⟨rfl, HE.out⟩
  | true =>
    have HSM := Lib.hid (hsm rfl)
    clear hsm
    go_wp2_with fail
    refine HS.out.mono ?_
    rintro e w2 ⟨v, rfl, B, jb, rfl, hv, hj, hjs, hjt, hb2⟩
    have h1 : NegP w2 (fun b => W.heap.size ≤ b) B (CF peer jb) (st0 [⟨3, (⟨1, 0, 0, 0⟩ : Ad).s⟩]) jb := ⟨hv, hj, hjt, hjs, rfl⟩
    have D1 := Lib.hid (And.intro (DoP noR 2 (by decide) h1) (And.intro h1 hb2))
    rw [fE1] at D1
    clear hv hj hjs hjt hb2 h1 HS HM c0 c1 c2 c3
    go_wp2_with fail
    refine D1.out.1.mono ?_
    rintro e w5 ⟨v5, rfl, p5, h5, k5⟩
    have Q5 := NegQ.ev D1.out.2.2 (fun b hb => hb) D1.out.2.1 h5 k5
    obtain ⟨⟨S5, n5, m5⟩, b5⟩ := Q5
    have D2 := Lib.hid (And.intro (DoP noR 0 (by decide) n5) (And.intro n5 (And.intro m5 b5)))
    clear p5 h5 k5 n5 m5 b5
    go_wp2_with fail
    refine D2.out.1.mono ?_
    rintro e w6 ⟨v6, rfl, p6, h6, k6⟩
    have Q6 := NegQ.ev D2.out.2.2.2 D2.out.2.2.1 D2.out.2.1 h6 k6
    obtain ⟨sa6, sc6, rfl⟩ := p6.form
    have HQ6 := Lib.hid Q6
    clear p6 h6 k6 Q6 D1 D2
    go_wp2_with fail
    go_loopg [7] len (fun x i wr => ∃ k : Nat, k ≤ len ∧ x = len - k ∧ i = .int .i64 k ∧ Hid (∃ st, NegQ W wr B (CF peer jb) st jb))
    case atStart => exact ⟨0, by omega, by omega, rfl, _, HQ6.out⟩
    case round =>
      obtain ⟨k, hk, rfl, rfl, hH⟩ := hrel
      obtain ⟨wA, rfl⟩ : ∃ wA, wA = wr := ⟨_, rfl⟩
      obtain ⟨st, ⟨S, n, m⟩, b⟩ := hH.out
      clear hH HQ6
      have HN := Lib.hid (And.intro n (And.intro m b))
      clear n m b
      by_cases hkl : k < len
      · have hkl' : k < L.length := by have := HLN.out; omega
        have hOA := HB.out.2.2.2.below HN.out.2.2
        obtain ⟨bb, off, rfl, -, -, k0, k1, k2, k3, k4, k5, k6, k7⟩ := hOA.at k hkl'
        have hin := hOA.each _ (List.getElem_mem hkl')
        have hpk := pkOk_small (HSM.out.2 _ (List.getElem_mem hkl')) hin.wf.1
        have hsO := HSM.out.2 _ (List.getElem_mem hkl')
        have HT := TakeP L[k].1.p L[k].2.1 hpk HN.out.1 hin.p (fun b hb ht => by have := HN.out.2.1 b (HN.out.1.ts ht); have := HB.out.2.1; omega)
        obtain ⟨X, hX⟩ := HN.out.1.1
        have hF := takeF (CF peer jb) st L[k].1.p hX.ss
        have hlen := takeS_len (CF peer jb) st L[k].1.p
        have hout : ∀ q ∈ (takeS (CF peer jb) st L[k].1.p).2, q.code = 2 → q.o.length ≤ 50 ∧ ∀ o ∈ q.o, o = ⟨3, peer.s⟩ := fun q hq h2 => by
          obtain ⟨-, hJ, hqe⟩ := hF.ack q hq h2
          subst hqe
          exact ⟨hsO.1.1, forced peer _ hJ⟩
        unfold pkV at HT
        have HT := Lib.hid HT
        have HO := Lib.hid (And.intro hlen hout)
        generalize takeS (CF peer jb) st L[k].1.p = out at *
        generalize L[k] = x at *
        obtain ⟨⟨xk, xn, ⟨pc, pi, po, pd⟩, xa, xb⟩, pv, av, bv⟩ := x
        dsimp only at k0 k1 k2 k3 k4 k5 k6 k7 HT
        clear hOA hin hpk hsO hX hF hlen hout k0 k1 k6 k7
        go_wp2_with fail
        refine HT.out.mono ?_
        rintro e w5 ⟨v5, rfl, p5, h5, g5⟩
        have Q5 := NegQ.ev HN.out.2.2 HN.out.2.1 HN.out.1 h5 g5
        have hB5 := Bag.mk' (m := 0) p5 (Nat.zero_le _) (fun _ _ _ => Nat.zero_le _)
        obtain ⟨so, co, rfl⟩ := p5.form
        obtain ⟨st', out⟩ := out
        dsimp only at Q5 hB5 HO ⊢
        have H5 := Lib.hid (And.intro Q5 hB5)
        clear Q5 hB5 p5 h5 g5 HT k2 k3 k4 k5 HN
        go_wp2_with fail
        go_loopg [9] out.length (fun x i wi => ∃ j : Nat, j ≤ out.length ∧ x = out.length - j ∧ i = .int .i64 j ∧ Hid (Below w5.heap.size w5 wi))
        case atStart => exact ⟨0, by omega, by omega, rfl, Below.refl _ _⟩
        case round =>
          obtain ⟨j, hj, rfl, rfl, hH⟩ := hrel
          obtain ⟨wi, rfl⟩ : ∃ wi, wi = wr := ⟨_, rfl⟩
          have HI := Lib.hid hH.out
          clear hH
          have hl20 := HO.out.1
          by_cases hjl : j < out.length
          · obtain ⟨-, -, -, b', off', po', rfl, d0, -, d2, -, hopt⟩ := (H5.out.2.keep (Keep.of_below (fun _ => False) HI.out) (fun _ _ _ h => h)).at j hjl (by omega)
            have hq := HO.out.2 _ (List.getElem_mem hjl)
            have HQ := Lib.hid (And.intro hq hopt)
            clear hq hopt
            generalize out[j] = q at *
            by_cases hc2 : q.code = 2
            · rw [hc2] at d0
              obtain ⟨hql, hqo⟩ := HQ.out.1 hc2
              obtain ⟨so', co', rfl, hlc, hcm'⟩ := HQ.out.2.form
              have HQO := Lib.hid hqo
              unfold maxLen at hcm'
              clear hqo hc2
              have hbl := cell_lt d2
              go_wp2_with fail
              go_loopg [10] q.o.length (fun x i wj => ∃ t : Nat, t ≤ q.o.length ∧ x = q.o.length - t ∧ i = .int .i64 t ∧ Hid (Below wi.heap.size wi wj))
              case atStart => exact ⟨0, by omega, by omega, rfl, Below.refl _ _⟩
              case round =>
                obtain ⟨t, ht, rfl, rfl, hH⟩ := hrel
                obtain ⟨wj, rfl⟩ : ∃ wj, wj = wr := ⟨_, rfl⟩
                have HJ := Lib.hid hH.out
                clear hH
                have d3 : wj.cell? ⟨b', off' + j * 4 + 2, none⟩ = some (.slice so' q.o.length co') := (HJ.out.cell (p := ⟨b', off' + j * 4 + 2, none⟩) hbl).trans d2
                by_cases htl : t < q.o.length
                · have hsub := HQ.out.2.below HJ.out
                  obtain ⟨bo, oo, rfl, -, -, -, -, -, -, -⟩ := hsub.at t htl
                  have hA := adr_any _ _ _ 3 wj (Opts.one hsub t htl) (show 1 ≤ 1000000 by decide) (fun o ho => by rw [List.mem_singleton.1 ho, HQO.out _ (List.getElem_mem htl)]; show 4 ≤ 1000000000; decide)
                  rw [HQO.out _ (List.getElem_mem htl), show adrS [⟨3, peer.s⟩] 3 = (peer, true) from rfl] at hA
                  unfold Ad.v at hA
                  have HA := Lib.hid hA
                  clear hsub hA
                  go_wp2_with fail
                  refine HA.out.mono ?_
                  rintro e wk ⟨rfl, b7⟩
                  have HL := Lib.hid (show Below wi.heap.size wi (wk.alloc (.cells #[.int .u8 (peer.a.toNat : Int), .int .u8 (peer.b.toNat : Int), .int .u8 (peer.c.toNat : Int), .int .u8 (peer.d.toNat : Int)] 49 (0, 0))) from (HJ.out.trans (b7.mono HJ.out.size)).alloc (Nat.le_trans HJ.out.size b7.size) _)
                  have hall := (H5.out.1.2.trans (HI.out.mono H5.out.1.2.size)).trans (HL.out.mono (Nat.le_trans H5.out.1.2.size HI.out.size))
                  have y1 := (hall.block _ (blk_lt HB.out.2.2.1)).trans HB.out.2.2.1
                  have y2 := at1 wk (.cells #[.int .u8 (peer.a.toNat : Int), .int .u8 (peer.b.toNat : Int), .int .u8 (peer.c.toNat : Int), .int .u8 (peer.d.toNat : Int)] 49 (0, 0))
                  have y1a := cellOf y1 0 (.int .u8 (peer.a.toNat : Int)) rfl
                  have y1b := cellOf y1 1 (.int .u8 (peer.b.toNat : Int)) rfl
                  have y1c := cellOf y1 2 (.int .u8 (peer.c.toNat : Int)) rfl
                  have y1d := cellOf y1 3 (.int .u8 (peer.d.toNat : Int)) rfl
                  have y2a := cellOf y2 0 (.int .u8 (peer.a.toNat : Int)) rfl
                  have y2b := cellOf y2 1 (.int .u8 (peer.b.toNat : Int)) rfl
                  have y2c := cellOf y2 2 (.int .u8 (peer.c.toNat : Int)) rfl
                  have y2d := cellOf y2 3 (.int .u8 (peer.d.toNat : Int)) rfl
                  have e1 := adNeq peer peer
                  rw [(adE_iff _ _).2 rfl] at e1
                  unfold Ad.v at e1
                  clear b7 HA hall y1 y2 d3
                  go_wp2_with fail
                  go_roundg (q.o.length - (t + 1))
                  case measure => omega
                  case rel => exact ⟨t + 1, by omega, rfl, by go_num, HL.out⟩
                · obtain rfl : t = q.o.length := by omega
                  have HI2 := Lib.hid (HI.out.trans (HJ.out.mono HI.out.size))
                  clear HI HJ
                  go_wp2_with fail
                  go_roundg (out.length - (j + 1))
                  case measure => omega
                  case rel => exact ⟨j + 1, by omega, rfl, by go_num, HI2.out⟩
            · have dd : ((q.code : Int) != 2) = true := by simpa using hc2
              clear hc2
              go_wp2_with fail
              go_roundg (out.length - (j + 1))
              case measure => omega
              case rel => exact ⟨j + 1, by omega, rfl, by go_num, HI.out⟩
          · obtain rfl : j = out.length := by omega
            have HQ5 := Lib.hid (show NegQ W wi B (CF peer jb) st' jb from by
              obtain ⟨⟨S', n', m'⟩, b'⟩ := H5.out.1
              exact ⟨⟨S', n'.below HI.out, m'⟩, b'.trans (HI.out.mono b'.size)⟩)
            clear HI H5
            go_wp2_with fail
            go_roundg (len - (k + 1))
            case measure => omega
            case rel => exact ⟨k + 1, by omega, rfl, by go_num, _, HQ5.out⟩
      · obtain rfl : len = k := by omega
        go_wp2_with fail
        refine (alive17_any _).mono ?_
        rintro e w8 ⟨rfl, b8⟩
        have HE := Lib.hid (HB.out.1.trans ((HN.out.2.2.trans (b8.mono HN.out.2.2.size)).mono HB.out.1.size))
        clear b8
        go_wp2_with fail
        go_ret
        exact ⟨rfl, HE.out⟩
end Go.Proofs.Ytijepfjfmpmfnaa
