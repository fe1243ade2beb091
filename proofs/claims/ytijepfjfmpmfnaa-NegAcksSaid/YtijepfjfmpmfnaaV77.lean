import Derived.Test.YtijepfjfmpmfnaaV76
/- NegAcks (the walk). -/
namespace Go.Proofs.Ytijepfjfmpmfnaa
open Go.RowKit Go.Tg Go.Maps

theorem akLt {w : World} {b o : Nat} {v : Value} (h : w.cell? ⟨b, o, none⟩ = some v) : b < w.heap.size := by
  unfold World.cell? at h
  by_cases hlt : b < w.heap.size
  · exact hlt
  · have : w.heap[b]? = none := by simp; omega
    simp [this] at h
theorem akOk {x : OpM} (h : SmO x) (hw : ∀ o ∈ x.p.o, I64 o.t ∧ o.v.size ≤ maxLen) : PkOk x.p :=
  ⟨Nat.le_trans h.1.1 (by decide), fun o ho => (hw o ho).1, fun o ho => Nat.le_trans (h.1.2 o ho) (by decide), Nat.le_trans h.2 (by decide)⟩
def ask5 : ByteArray := ⟨#[5, 0]⟩
theorem akE2 (jb : Nat) (ask : List Opt) : evS noR (CS jb 5 3 2) ⟨1, 0, 0, 0, 0, 0, ask, [], [], 0, 0⟩ 0 noCame = (nst 6 4 1 0 ask [] [] 0, [⟨1, 1, ask, noB⟩]) := by kernel_rfl

set_option maxHeartbeats 16000000 in
set_option maxRecDepth 100000 in
theorem negAcks_any (L : List OpV) (lv : Value) (w : World) (hl : OpsAt w (fun _ => True) lv L) :
    Calls Try.prog 7 #[lv] w fun e w' => e = .returned (.bool true) ∧ Below w.heap.size w w' := by
  have q1 : ∀ w a, (binOp .eql 23 (.pointer (some a)) (.pointer none)).run Try.prog w = .ok (.bool false) w := fun w a => by kernel_rfl
  have hO : OpsAt w (fun b => b < w.heap.size) lv L := hl.old
  have HM := Lib.hid (small_any L lv _ w hO)
  obtain ⟨sa, c, rfl, hc, hcm⟩ := hO.form
  have HO := Lib.hid hO
  obtain ⟨len, hln⟩ : ∃ len, len = L.length := ⟨_, rfl⟩
  have HLN := Lib.hid hln
  rw [← hln] at hc HM HO ⊢
  unfold maxLen at hcm
  clear hO hln hl
  go_enter Try.func7, Try.ntmps7
  go_wp2_with fail
  refine HM.out.mono ?_
  rintro e w1 ⟨⟨b, rfl, hsm⟩, rfl⟩
  cases b with
  | false =>
    clear hsm
    go_wp2_with fail
    refine (alive_any _).mono ?_
    rintro e w1 ⟨rfl, b1⟩
    have HE := Lib.hid b1
    clear b1
    go_wp2_with fail
    go_ret
    exact ⟨rfl, HE.out⟩
  | true =>
    have HSM := Lib.hid (hsm rfl)
    clear hsm
    go_wp2_with fail
    refine (setup_any _ _ _).mono ?_
    rintro e w1 ⟨b0, b1, b2, rfl, hs, hb1⟩
    have HN := Lib.hid (newS w1 _ b0 b1 b2 _ 5 3 2 hs (by decide) (by decide) (by decide) (by decide) (by kernel_rfl))
    have HB1 := Lib.hid hb1
    clear hs hb1
    unfold setV at HN ⊢
    go_wp2_with fail
    refine HN.out.mono ?_
    rintro e w2 ⟨v, rfl, B, jb, rfl, hv, hj, hjs, hjt, hb2⟩
    have h1 : NegP w2 (fun b => w1.heap.size ≤ b) B (CS jb 5 3 2) (st0 [⟨1, ⟨#[5, 0]⟩⟩]) jb := ⟨hv, hj, hjt, hjs, rfl⟩
    have D1 := Lib.hid (And.intro (DoP noR 2 (by decide) h1) (And.intro h1 (HB1.out.trans (hb2.mono HB1.out.size))))
    rw [eQ1] at D1
    clear hv hj hjs hjt hb2 h1 HM HN
    go_wp2_with fail
    refine D1.out.1.mono ?_
    rintro e w5 ⟨v5, rfl, p5, h5, k5⟩
    have Q5 := NegQ.ev D1.out.2.2 (fun b (hb : w1.heap.size ≤ b) => Nat.le_trans HB1.out.size hb) D1.out.2.1 h5 k5
    obtain ⟨⟨S5, n5, m5⟩, b5⟩ := Q5
    have D2 := Lib.hid (And.intro (DoP noR 0 (by decide) n5) (And.intro n5 (And.intro m5 b5)))
    rw [akE2] at D2
    clear p5 h5 k5 n5 m5 b5
    go_wp2_with fail
    refine D2.out.1.mono ?_
    rintro e w6 ⟨v6, rfl, p6, h6, k6⟩
    have hI : AckI w w6 B (CS jb 5 3 2) jb w5.heap.size (0, []) (.slice none 0 0) v6 [⟨1, 1, [⟨1, ⟨#[5, 0]⟩⟩], noB⟩] (nst 6 4 1 0 [⟨1, ⟨#[5, 0]⟩⟩] [] [] 0) := by
      have Q6 := NegQ.ev D2.out.2.2.2 D2.out.2.2.1 D2.out.2.1 h6 k6
      have hT : ∀ b, B.t b → b < w5.heap.size := fun b hb => D2.out.2.1.tlt hb
      exact ⟨Q6, Rec.nil _ _ _, p6.loosen (Nat.le_refl _) (fun b _ hb ht => hb.elim False.elim (fun hb => by have := hT b ht; omega)), Nat.le_of_ble_eq_true rfl, ⟨by show 0 ≤ (6 : Int) ∧ (6 : Int) ≤ 9; decide, fun _ => rfl⟩, ⟨Nat.zero_le _, fun _ h => (by cases h)⟩, hT, k6.size⟩
    obtain ⟨so, co, rfl⟩ := p6.form
    have HI := Lib.hid hI
    clear p6 h6 k6 hI D1 D2 HB1
    generalize w5.heap.size = m at HI
    go_wp2_with fail
    go_loopg [8, 7, 5, 6] len (fun n i ov xv sv wr => ∃ (k : Nat) (x : Int × List Opt) (out : List Pk) (st : NSt) (so ss : Option Addr) (co sn sc : Nat), k ≤ len ∧ n = len - k ∧ i = .int .i64 k ∧ ov = .slice so out.length co ∧ xv = .int .i64 x.1 ∧ sv = .slice ss sn sc ∧ Hid (AckI w wr B (CS jb 5 3 2) jb m x sv ov out st))
    case atStart => exact ⟨0, (0, []), _, _, so, none, co, 0, 0, by omega, by omega, rfl, rfl, rfl, rfl, HI.out⟩
    case round =>
      obtain ⟨k, x, out, st, so, ss, co, sn, sc, hk, rfl, rfl, rfl, rfl, rfl, hH⟩ := hrel
      obtain ⟨wA, rfl⟩ : ∃ wA, wA = wr := ⟨_, rfl⟩
      have HA := Lib.hid hH.out
      clear hH HI
      by_cases hkl : k < len
      · have hln20 := HA.out.ln
        go_wp2_with fail
        go_loopg [9, 5, 6] out.length (fun n kv xv sv wi => ∃ (j : Nat) (y : Int × List Opt) (ss : Option Addr) (sn sc : Nat), j ≤ out.length ∧ n = out.length - j ∧ kv = .int .i64 j ∧ xv = .int .i64 y.1 ∧ sv = .slice ss sn sc ∧ Hid (y = scan x (out.take j) ∧ Opts wi (fun b => ¬ B.t b) sv y.2 ∧ Below wA.heap.size wA wi))
        case atStart => exact ⟨0, x, ss, sn, sc, by omega, by omega, rfl, rfl, rfl, rfl, HA.out.se, Below.refl _ _⟩
        case round =>
          obtain ⟨j, y, ss, sn, sc, hj, rfl, rfl, rfl, rfl, hH⟩ := hrel
          obtain ⟨wi, rfl⟩ : ∃ wi, wi = wr := ⟨_, rfl⟩
          have HY := Lib.hid hH.out
          clear hH
          by_cases hjl : j < out.length
          · obtain ⟨-, -, -, b', off', po', rfl, d0, d1, d2, -, hopt⟩ := (HA.out.ou.below HY.out.2.2).at j hjl (by omega)
            have HSC := Lib.hid (show scan x (out.take (j + 1)) = scan1 (scan x (out.take j)) out[j] from by rw [List.take_succ_eq_append_getElem hjl, scan_app]; rfl)
            obtain ⟨sb, sc', rfl, -, -⟩ := hopt.form
            have HP := Lib.hid hopt
            clear hopt
            generalize out[j] = q at *
            by_cases hq1 : q.code = 1
            · rw [hq1] at d0
              have HSC2 := Lib.hid (show scan x (out.take (j + 1)) = (q.id, q.o) from by rw [HSC.out]; exact if_pos hq1)
              clear hq1 HSC
              go_wp2_with fail
              go_quiet (fail)
              have HY2 := Lib.hid (show Below wi.heap.size wi (wi.drewN nq) from ⟨rfl, rfl, rfl, Nat.le_refl _, fun _ _ => rfl⟩)
              go_wp2_with fail
              go_roundg (out.length - (j + 1))
              case measure => omega
              case rel => exact ⟨j + 1, (q.id, q.o), sb, q.o.length, sc', by omega, rfl, by go_num, rfl, rfl, HSC2.out.symm, HP.out.below HY2.out, HY.out.2.2.trans (HY2.out.mono HY.out.2.2.size)⟩
            · have dd : (q.code == 1) = false := by simpa using hq1
              have HSC2 := Lib.hid (show scan x (out.take (j + 1)) = scan x (out.take j) from by rw [HSC.out]; exact if_neg hq1)
              clear hq1 HSC
              go_wp2_with fail
              go_roundg (out.length - (j + 1))
              case measure => omega
              case rel => exact ⟨j + 1, y, ss, sn, sc, by omega, rfl, by go_num, rfl, rfl, by rw [HSC2.out]; exact HY.out.1, HY.out.2⟩
          · obtain rfl : j = out.length := by omega
            have hA2 : AckI w wi B (CS jb 5 3 2) jb m y (.slice ss sn sc) (.slice none 0 0) [] st := (HA.out.below HY.out.2.2).seen (by rw [HY.out.1, List.take_length]) HY.out.2.1
            obtain ⟨⟨S, n, mS⟩, bQ⟩ := hA2.q
            have ST := Lib.hid (StateP n)
            obtain ⟨X, hX⟩ := n.1
            have hss := hX.ss
            have HA2 := Lib.hid (And.intro hA2 (And.intro n (And.intro mS (And.intro bQ hss))))
            have hkl' : k < L.length := by have := HLN.out; omega
            have hOA := HO.out.below bQ
            obtain ⟨bb, off, rfl, -, -, k0, k1, k2, k3, k4, k5, k6, k7⟩ := hOA.at k hkl'
            have hin := hOA.each _ (List.getElem_mem hkl')
            have hsO := HSM.out.2 _ (List.getElem_mem hkl')
            have hpk := akOk hsO hin.wf.1
            have HP := Lib.hid (And.intro hin (And.intro hsO hpk))
            generalize L[k] = x at *
            obtain ⟨⟨xk, xn, ⟨pc, pi, po, pd⟩, xa, xb⟩, pv, av, bv⟩ := x
            dsimp only at k0 k1 k2 k3 k4 k5 k6 k7 HP
            clear hA2 n mS bQ hX hss hOA hin hsO hpk HA HY k1 k6 k7
            go_wp2_with fail
            refine ST.out.mono ?_
            rintro e w9 ⟨rfl, rfl⟩
            by_cases hk3 : xk = 3
            · subst hk3
              have TI := Lib.hid (TickP rejS HA2.out.2.1)
              clear k2 k3 k4 k5
              go_wp2_with fail
              refine TI.out.mono ?_
              rintro e w5 he
              obtain ⟨v, rfl, hA5, -⟩ := HA2.out.1.ev HA2.out.2.1 HA2.out.2.2.1 (fun _ h => h.elim) he (tickS_len _ _ _) ((tickF rejS _ st HA2.out.2.2.2.2).1 y) (by rw [(tickF rejS _ st HA2.out.2.2.2.2).2]; exact HA2.out.1.th)
              obtain ⟨so', co', rfl⟩ := hA5.ou.form
              have HA5 := Lib.hid hA5
              clear he hA5 TI HA2 HP ST k0
              go_wp2_with fail
              go_roundg (len - (k + 1))
              case measure => omega
              case rel => exact ⟨k + 1, y, _, _, so', ss, co', sn, sc, by omega, rfl, by go_num, rfl, rfl, rfl, HA5.out⟩
            · have d3 : (xk == 3) = false := by simpa using hk3
              have hpo : Opts wi (fun b => b < w.heap.size) pv po := HP.out.1.p
              obtain ⟨pa, pcp, rfl, hpl, hpm⟩ := hpo.form
              clear hpo
              unfold maxLen at hpm
              have hb0 : Below wi.heap.size wi (wi.alloc (.cells #[.int .i64 pc, .int .i64 pi, .slice pa po.length pcp, .string pd] 37 (0, 0))) := (Below.refl _ _).alloc (Nat.le_refl _) _
              have HT := TakeP ⟨pc, pi, po, pd⟩ (.slice pa po.length pcp) HP.out.2.2 (HA2.out.2.1.below hb0) (HP.out.1.p.below hb0) (fun b hb ht => by have := HA2.out.2.2.1 b (HA2.out.2.1.ts ht); omega)
              have hF := takeF (CS jb 5 3 2) st ⟨pc, pi, po, pd⟩ HA2.out.2.2.2.2
              have HF := Lib.hid hF
              unfold pkV at HT
              have HT := Lib.hid HT
              have HA3 := Lib.hid (HA2.out.1.below hb0)
              have hlt := takeS_len (CS jb 5 3 2) st ⟨pc, pi, po, pd⟩
              have HLT := Lib.hid hlt
              generalize takeS (CS jb 5 3 2) st ⟨pc, pi, po, pd⟩ = r at *
              obtain ⟨st', out'⟩ := r
              clear hk3 hF hlt hb0
              go_wp2_with fail
              refine HT.out.mono ?_
              rintro e w5 he
              have hb0 : Below wi.heap.size wi (wi.alloc (.cells #[.int .i64 pc, .int .i64 pi, .slice pa po.length pcp, .string pd] 37 (0, 0))) := (Below.refl _ _).alloc (Nat.le_refl _) _
              obtain ⟨v, rfl, hA5, g5⟩ := HA3.out.ev (HA2.out.2.1.below hb0) HA2.out.2.2.1 (fun _ h => h) he HLT.out (HF.out.inv y) (good_take rfl HF.out HA2.out.1.th HP.out.2.1.1)
              have hz : w5.heap[wi.heap.size]? = some (.cells #[.int .i64 pc, .int .i64 pi, .slice pa po.length pcp, .string pd] 37 (0, 0)) := (g5.block _ (by rw [alloc1]; omega) (fun ht => by have := HA2.out.1.tm _ ht; have := HA2.out.1.ms; omega)).trans (at1 _ _)
              obtain ⟨so', co', rfl⟩ := hA5.ou.form
              dsimp only at hA5 ⊢
              have hpv : Opts w5 (fun b => b < w.heap.size) (.slice pa po.length pcp) po := Rec.keep (HP.out.1.p.below hb0) g5 (fun b _ hb ht => by have := HA2.out.2.2.1 b (HA2.out.2.1.ts ht); omega)
              obtain ⟨⟨S5, n5, m5⟩, b5⟩ := hA5.q
              have HS5 := Lib.hid (StateP n5)
              have HA5 := Lib.hid (And.intro hA5 (And.intro hz hpv))
              have y0 := cellOf hz 0 (.int .i64 pc) rfl
              have y1 := cellOf hz 1 (.int .i64 pi) rfl
              have y2 := cellOf hz 2 (.slice pa po.length pcp) rfl
              clear he hb0 hA5 g5 hz hpv n5 m5 b5 HT HA3 k0 k2 k3 k4 k5 ST
              by_cases h9 : st.s = 9
              · have d9 : (st.s != 9) = false := by simpa using h9
                have HB6 := Lib.hid (Below.refl w5.heap.size w5)
                obtain ⟨w6, hw6⟩ : ∃ w6, w6 = w5 := ⟨_, rfl⟩
                clear h9
                first | subst hw6 | clear hw6
                have HA6 := Lib.hid (HA5.out.1.below HB6.out)
                have HZ6 := Lib.hid ((HB6.out.block _ (Array.getElem?_eq_some_iff.1 HA5.out.2.1).1).trans HA5.out.2.1)
                have HPV := Lib.hid (HA5.out.2.2.below HB6.out)
                go_wp2_with fail
                go_loopg [12] out'.length (fun n i wr => ∃ j : Nat, j ≤ out'.length ∧ n = out'.length - j ∧ i = .int .i64 j ∧ Hid (Below w6.heap.size w6 wr))
                case atStart => exact ⟨0, by omega, by omega, rfl, Below.refl _ _⟩
                case round =>
                  obtain ⟨j, hj, rfl, rfl, hH⟩ := hrel
                  obtain ⟨wv, rfl⟩ : ∃ wv, wv = wr := ⟨_, rfl⟩
                  have HV := Lib.hid hH.out
                  clear hH
                  have hln' : out'.length ≤ 20 := HLT.out
                  by_cases hjl : j < out'.length
                  · obtain ⟨-, -, -, b', off', po', rfl, d0, d1, d2, -, hopt⟩ := (HA6.out.ou.below HV.out).at j hjl (by omega)
                    have hack := HF.out.ack out'[j] (List.getElem_mem hjl)
                    obtain ⟨sb, sbc, rfl, -, -⟩ := hopt.form
                    have hz7 := (HV.out.block _ (Array.getElem?_eq_some_iff.1 HZ6.out).1).trans HZ6.out
                    have z0 := cellOf hz7 0 (.int .i64 pc) rfl
                    have z1 := cellOf hz7 1 (.int .i64 pi) rfl
                    have z2 := cellOf hz7 2 (.slice pa po.length pcp) rfl
                    have z0' := cell_regrown z0
                    have z1' := cell_regrown z1
                    have z2' := cell_regrown z2
                    have HOP := Lib.hid hopt
                    clear hz7 hopt
                    generalize out'[j] = q at *
                    by_cases hq2 : q.code = 2
                    · obtain ⟨c1, -, hqe⟩ := hack hq2
                      have dd1 : (pc != 1) = false := by simpa using c1
                      clear c1 hack hq2
                      subst hqe
                      dsimp only at d0 d1 d2
                      have d0' := cell_regrown d0
                      have d1' := cell_regrown d1
                      have d2' := cell_regrown d2
                      have HS2 := Lib.hid (fun d os => (same_any po po _ _ _ _ (Go.Sort.grow (redrawn wv d) os) (Opts.below HOP.out (below_regrown _ d os)) (Opts.below (HPV.out.below HV.out) (below_regrown _ d os)) (Nat.le_trans HP.out.2.1.1.1 (by decide))).mono (fun e w' he => by
                        obtain ⟨t, e1, e2, e3⟩ := he
                        have : t = true := by first | exact e2.2 rfl | exact e2.2 trivial
                        subst this
                        exact And.intro e1 e3))
                      dsimp only at HS2
                      go_wp2_with fail
                      refine wp_region_quiet_below (by kernel_rfl) (by kernel_rfl) ?_
                      repeat (quiet_step (first | (go_at_call 15; exact Calls.regrown_of (HS2.out _ _))))
                      refine wpQuiet_nil ?_
                      rintro _ ⟨⟨nq, osq⟩, rfl⟩
                      have HV2 := Lib.hid (HV.out.trans ((below_regrown _ nq osq).mono HV.out.size))
                      go_wp2_with fail
                      go_roundg (out'.length - (j + 1))
                      case measure => omega
                      case rel => exact ⟨j + 1, by omega, rfl, by go_num, HV2.out⟩
                    · have dd : (q.code == 2) = false := by simpa using hq2
                      have d0' := cell_regrown d0
                      clear hack hq2
                      go_wp2_with fail
                      go_quiet (fail)
                      have HV2 := Lib.hid (show Below w6.heap.size w6 (wv.drewN nq) from ⟨HV.out.os, HV.out.tape, HV.out.output, HV.out.size, HV.out.block⟩)
                      go_wp2_with fail
                      go_roundg (out'.length - (j + 1))
                      case measure => omega
                      case rel => exact ⟨j + 1, by omega, rfl, by go_num, HV2.out⟩
                  · obtain rfl : j = out'.length := by omega
                    have hA7 := HA6.out.below HV.out
                    obtain ⟨⟨S7, n7, m7⟩, b7⟩ := hA7.q
                    have hth := TheirsP n7
                    obtain ⟨tl, htl⟩ : ∃ tl, tl = (if st'.s = 9 then st'.theirs else []) := ⟨_, rfl⟩
                    have hg : GoodO tl := by
                      rw [htl]
                      split
                      · exact HA6.out.th
                      · exact ⟨Nat.zero_le _, fun _ h => (by cases h)⟩
                    rw [← htl] at hth
                    have HTH := Lib.hid hth
                    have HG := Lib.hid hg
                    clear hA7 n7 m7 b7 hth hg htl
                    go_wp2_with fail
                    refine HTH.out.mono ?_
                    rintro e w7 ⟨v7, rfl, r7, b8⟩
                    obtain ⟨st7, sc7, rfl⟩ := r7.form
                    have H7 := Lib.hid (And.intro (r7.opts (Nat.le_trans HG.out.1 (by decide))) (HV.out.trans (b8.mono HV.out.size)))
                    clear r7 b8 HTH HV
                    go_wp2_with fail
                    go_loopg [14] tl.length (fun n i wr => ∃ t : Nat, t ≤ tl.length ∧ n = tl.length - t ∧ i = .int .i64 t ∧ Hid (Below w7.heap.size w7 wr))
                    case atStart => exact ⟨0, by omega, by omega, rfl, Below.refl _ _⟩
                    case round =>
                      obtain ⟨t, ht, rfl, rfl, hH⟩ := hrel
                      obtain ⟨wt, rfl⟩ : ∃ wt, wt = wr := ⟨_, rfl⟩
                      have HT7 := Lib.hid hH.out
                      clear hH
                      have hl50 := HG.out.1
                      by_cases htl : t < tl.length
                      · obtain ⟨bt, ot, rfl, -, -, -, -, -, e0, e1⟩ := (H7.out.1.below HT7.out).at t htl
                        have hgo := HG.out.2 _ (List.getElem_mem htl)
                        rw [hgo.1] at e0
                        have HFI := Lib.hid (fun W => by
                          have := fits_any rule1 tl[t].v W (Nat.le_trans hgo.2.2 (by decide))
                          rw [hgo.2.1] at this
                          exact this)
                        clear hgo
                        generalize tl[t].v = vk at *
                        have e0' := cell_regrown e0
                        have e1' := cell_regrown e1
                        go_wp2_with fail
                        refine wp_region_quiet_below (by kernel_rfl) (by kernel_rfl) ?_
                        repeat (quiet_step (first | (go_at_call 19; exact Calls.regrown_of (rule_any _)) | (go_at_call 18; exact Calls.regrown_of (HFI.out _))))
                        refine wpQuiet_nil ?_
                        rintro _ ⟨⟨nq, osq⟩, rfl⟩
                        have HT8 := Lib.hid (HT7.out.trans ((below_regrown _ nq osq).mono HT7.out.size))
                        go_wp2_with fail
                        go_roundg (tl.length - (t + 1))
                        case measure => omega
                        case rel => exact ⟨t + 1, by omega, rfl, by go_num, HT8.out⟩
                      · obtain rfl : t = tl.length := by omega
                        have HA8 := Lib.hid (HA6.out.below (H7.out.2.trans (HT7.out.mono H7.out.2.size)))
                        clear H7 HT7 HA6 HZ6 HPV
                        go_wp2_with fail
                        go_roundg (len - (k + 1))
                        case measure => omega
                        case rel => exact ⟨k + 1, y, _, _, so', ss, co', sn, sc, by omega, rfl, by go_num, rfl, rfl, rfl, HA8.out⟩
              · have d9 : (st.s != 9) = true := by simpa using h9
                go_wp2_with fail
                refine HS5.out.mono ?_
                rintro e w10 ⟨rfl, rfl⟩
                by_cases h9' : st'.s = 9
                · rw [h9']
                  by_cases hp2 : pc = 2
                  · have d2 : (pc == 2) = true := by simpa using hp2
                    obtain ⟨i1, i2, i3⟩ := HF.out.opn hp2 h9 h9'
                    have hy : y = (st.asked, st.req) := HA2.out.1.iv.li i3
                    have dI : (pi != y.1) = false := by rw [hy]; simpa using i1
                    have HSA := Lib.hid (same_any po y.2 _ _ _ _ w5 HA5.out.2.2 HA5.out.1.se (Nat.le_trans HP.out.2.1.1.1 (by decide)))
                    have HEQ := Lib.hid (show po = y.2 from by rw [hy]; exact i2)
                    clear h9 h9' i1 i2 i3 hy hp2
                    go_wp2_with fail
                    refine HSA.out.mono ?_
                    rintro e w6 ⟨t, rfl, ht, b6⟩
                    obtain rfl : t = true := by first | exact ht.2 HEQ.out | exact ht.2 trivial
                    have HB6 := Lib.hid b6
                    have hw6 : True := trivial
                    clear ht b6 HSA
                    first | subst hw6 | clear hw6
                    have HA6 := Lib.hid (HA5.out.1.below HB6.out)
                    have HZ6 := Lib.hid ((HB6.out.block _ (Array.getElem?_eq_some_iff.1 HA5.out.2.1).1).trans HA5.out.2.1)
                    have HPV := Lib.hid (HA5.out.2.2.below HB6.out)
                    go_wp2_with fail
                    go_loopg [12] out'.length (fun n i wr => ∃ j : Nat, j ≤ out'.length ∧ n = out'.length - j ∧ i = .int .i64 j ∧ Hid (Below w6.heap.size w6 wr))
                    case atStart => exact ⟨0, by omega, by omega, rfl, Below.refl _ _⟩
                    case round =>
                      obtain ⟨j, hj, rfl, rfl, hH⟩ := hrel
                      obtain ⟨wv, rfl⟩ : ∃ wv, wv = wr := ⟨_, rfl⟩
                      have HV := Lib.hid hH.out
                      clear hH
                      have hln' : out'.length ≤ 20 := HLT.out
                      by_cases hjl : j < out'.length
                      · obtain ⟨-, -, -, b', off', po', rfl, d0, d1, d2, -, hopt⟩ := (HA6.out.ou.below HV.out).at j hjl (by omega)
                        have hack := HF.out.ack out'[j] (List.getElem_mem hjl)
                        obtain ⟨sb, sbc, rfl, -, -⟩ := hopt.form
                        have hz7 := (HV.out.block _ (Array.getElem?_eq_some_iff.1 HZ6.out).1).trans HZ6.out
                        have z0 := cellOf hz7 0 (.int .i64 pc) rfl
                        have z1 := cellOf hz7 1 (.int .i64 pi) rfl
                        have z2 := cellOf hz7 2 (.slice pa po.length pcp) rfl
                        have z0' := cell_regrown z0
                        have z1' := cell_regrown z1
                        have z2' := cell_regrown z2
                        have HOP := Lib.hid hopt
                        clear hz7 hopt
                        generalize out'[j] = q at *
                        by_cases hq2 : q.code = 2
                        · obtain ⟨c1, -, hqe⟩ := hack hq2
                          have dd1 : (pc != 1) = false := by simpa using c1
                          clear c1 hack hq2
                          subst hqe
                          dsimp only at d0 d1 d2
                          have d0' := cell_regrown d0
                          have d1' := cell_regrown d1
                          have d2' := cell_regrown d2
                          have HS2 := Lib.hid (fun d os => (same_any po po _ _ _ _ (Go.Sort.grow (redrawn wv d) os) (Opts.below HOP.out (below_regrown _ d os)) (Opts.below (HPV.out.below HV.out) (below_regrown _ d os)) (Nat.le_trans HP.out.2.1.1.1 (by decide))).mono (fun e w' he => by
                            obtain ⟨t, e1, e2, e3⟩ := he
                            have : t = true := by first | exact e2.2 rfl | exact e2.2 trivial
                            subst this
                            exact And.intro e1 e3))
                          dsimp only at HS2
                          go_wp2_with fail
                          refine wp_region_quiet_below (by kernel_rfl) (by kernel_rfl) ?_
                          repeat (quiet_step (first | (go_at_call 15; exact Calls.regrown_of (HS2.out _ _))))
                          refine wpQuiet_nil ?_
                          rintro _ ⟨⟨nq, osq⟩, rfl⟩
                          have HV2 := Lib.hid (HV.out.trans ((below_regrown _ nq osq).mono HV.out.size))
                          go_wp2_with fail
                          go_roundg (out'.length - (j + 1))
                          case measure => omega
                          case rel => exact ⟨j + 1, by omega, rfl, by go_num, HV2.out⟩
                        · have dd : (q.code == 2) = false := by simpa using hq2
                          have d0' := cell_regrown d0
                          clear hack hq2
                          go_wp2_with fail
                          go_quiet (fail)
                          have HV2 := Lib.hid (show Below w6.heap.size w6 (wv.drewN nq) from ⟨HV.out.os, HV.out.tape, HV.out.output, HV.out.size, HV.out.block⟩)
                          go_wp2_with fail
                          go_roundg (out'.length - (j + 1))
                          case measure => omega
                          case rel => exact ⟨j + 1, by omega, rfl, by go_num, HV2.out⟩
                      · obtain rfl : j = out'.length := by omega
                        have hA7 := HA6.out.below HV.out
                        obtain ⟨⟨S7, n7, m7⟩, b7⟩ := hA7.q
                        have hth := TheirsP n7
                        obtain ⟨tl, htl⟩ : ∃ tl, tl = (if st'.s = 9 then st'.theirs else []) := ⟨_, rfl⟩
                        have hg : GoodO tl := by
                          rw [htl]
                          split
                          · exact HA6.out.th
                          · exact ⟨Nat.zero_le _, fun _ h => (by cases h)⟩
                        rw [← htl] at hth
                        have HTH := Lib.hid hth
                        have HG := Lib.hid hg
                        clear hA7 n7 m7 b7 hth hg htl
                        go_wp2_with fail
                        refine HTH.out.mono ?_
                        rintro e w7 ⟨v7, rfl, r7, b8⟩
                        obtain ⟨st7, sc7, rfl⟩ := r7.form
                        have H7 := Lib.hid (And.intro (r7.opts (Nat.le_trans HG.out.1 (by decide))) (HV.out.trans (b8.mono HV.out.size)))
                        clear r7 b8 HTH HV
                        go_wp2_with fail
                        go_loopg [14] tl.length (fun n i wr => ∃ t : Nat, t ≤ tl.length ∧ n = tl.length - t ∧ i = .int .i64 t ∧ Hid (Below w7.heap.size w7 wr))
                        case atStart => exact ⟨0, by omega, by omega, rfl, Below.refl _ _⟩
                        case round =>
                          obtain ⟨t, ht, rfl, rfl, hH⟩ := hrel
                          obtain ⟨wt, rfl⟩ : ∃ wt, wt = wr := ⟨_, rfl⟩
                          have HT7 := Lib.hid hH.out
                          clear hH
                          have hl50 := HG.out.1
                          by_cases htl : t < tl.length
                          · obtain ⟨bt, ot, rfl, -, -, -, -, -, e0, e1⟩ := (H7.out.1.below HT7.out).at t htl
                            have hgo := HG.out.2 _ (List.getElem_mem htl)
                            rw [hgo.1] at e0
                            have HFI := Lib.hid (fun W => by
                              have := fits_any rule1 tl[t].v W (Nat.le_trans hgo.2.2 (by decide))
                              rw [hgo.2.1] at this
                              exact this)
                            clear hgo
                            generalize tl[t].v = vk at *
                            have e0' := cell_regrown e0
                            have e1' := cell_regrown e1
                            go_wp2_with fail
                            refine wp_region_quiet_below (by kernel_rfl) (by kernel_rfl) ?_
                            repeat (quiet_step (first | (go_at_call 19; exact Calls.regrown_of (rule_any _)) | (go_at_call 18; exact Calls.regrown_of (HFI.out _))))
                            refine wpQuiet_nil ?_
                            rintro _ ⟨⟨nq, osq⟩, rfl⟩
                            have HT8 := Lib.hid (HT7.out.trans ((below_regrown _ nq osq).mono HT7.out.size))
                            go_wp2_with fail
                            go_roundg (tl.length - (t + 1))
                            case measure => omega
                            case rel => exact ⟨t + 1, by omega, rfl, by go_num, HT8.out⟩
                          · obtain rfl : t = tl.length := by omega
                            have HA8 := Lib.hid (HA6.out.below (H7.out.2.trans (HT7.out.mono H7.out.2.size)))
                            clear H7 HT7 HA6 HZ6 HPV
                            go_wp2_with fail
                            go_roundg (len - (k + 1))
                            case measure => omega
                            case rel => exact ⟨k + 1, y, _, _, so', ss, co', sn, sc, by omega, rfl, by go_num, rfl, rfl, rfl, HA8.out⟩
                  · have d2 : (pc == 2) = false := by simpa using hp2
                    have HB6 := Lib.hid (Below.refl w5.heap.size w5)
                    obtain ⟨w6, hw6⟩ : ∃ w6, w6 = w5 := ⟨_, rfl⟩
                    clear h9 h9' hp2
                    first | subst hw6 | clear hw6
                    have HA6 := Lib.hid (HA5.out.1.below HB6.out)
                    have HZ6 := Lib.hid ((HB6.out.block _ (Array.getElem?_eq_some_iff.1 HA5.out.2.1).1).trans HA5.out.2.1)
                    have HPV := Lib.hid (HA5.out.2.2.below HB6.out)
                    go_wp2_with fail
                    go_loopg [12] out'.length (fun n i wr => ∃ j : Nat, j ≤ out'.length ∧ n = out'.length - j ∧ i = .int .i64 j ∧ Hid (Below w6.heap.size w6 wr))
                    case atStart => exact ⟨0, by omega, by omega, rfl, Below.refl _ _⟩
                    case round =>
                      obtain ⟨j, hj, rfl, rfl, hH⟩ := hrel
                      obtain ⟨wv, rfl⟩ : ∃ wv, wv = wr := ⟨_, rfl⟩
                      have HV := Lib.hid hH.out
                      clear hH
                      have hln' : out'.length ≤ 20 := HLT.out
                      by_cases hjl : j < out'.length
                      · obtain ⟨-, -, -, b', off', po', rfl, d0, d1, d2, -, hopt⟩ := (HA6.out.ou.below HV.out).at j hjl (by omega)
                        have hack := HF.out.ack out'[j] (List.getElem_mem hjl)
                        obtain ⟨sb, sbc, rfl, -, -⟩ := hopt.form
                        have hz7 := (HV.out.block _ (Array.getElem?_eq_some_iff.1 HZ6.out).1).trans HZ6.out
                        have z0 := cellOf hz7 0 (.int .i64 pc) rfl
                        have z1 := cellOf hz7 1 (.int .i64 pi) rfl
                        have z2 := cellOf hz7 2 (.slice pa po.length pcp) rfl
                        have z0' := cell_regrown z0
                        have z1' := cell_regrown z1
                        have z2' := cell_regrown z2
                        have HOP := Lib.hid hopt
                        clear hz7 hopt
                        generalize out'[j] = q at *
                        by_cases hq2 : q.code = 2
                        · obtain ⟨c1, -, hqe⟩ := hack hq2
                          have dd1 : (pc != 1) = false := by simpa using c1
                          clear c1 hack hq2
                          subst hqe
                          dsimp only at d0 d1 d2
                          have d0' := cell_regrown d0
                          have d1' := cell_regrown d1
                          have d2' := cell_regrown d2
                          have HS2 := Lib.hid (fun d os => (same_any po po _ _ _ _ (Go.Sort.grow (redrawn wv d) os) (Opts.below HOP.out (below_regrown _ d os)) (Opts.below (HPV.out.below HV.out) (below_regrown _ d os)) (Nat.le_trans HP.out.2.1.1.1 (by decide))).mono (fun e w' he => by
                            obtain ⟨t, e1, e2, e3⟩ := he
                            have : t = true := by first | exact e2.2 rfl | exact e2.2 trivial
                            subst this
                            exact And.intro e1 e3))
                          dsimp only at HS2
                          go_wp2_with fail
                          refine wp_region_quiet_below (by kernel_rfl) (by kernel_rfl) ?_
                          repeat (quiet_step (first | (go_at_call 15; exact Calls.regrown_of (HS2.out _ _))))
                          refine wpQuiet_nil ?_
                          rintro _ ⟨⟨nq, osq⟩, rfl⟩
                          have HV2 := Lib.hid (HV.out.trans ((below_regrown _ nq osq).mono HV.out.size))
                          go_wp2_with fail
                          go_roundg (out'.length - (j + 1))
                          case measure => omega
                          case rel => exact ⟨j + 1, by omega, rfl, by go_num, HV2.out⟩
                        · have dd : (q.code == 2) = false := by simpa using hq2
                          have d0' := cell_regrown d0
                          clear hack hq2
                          go_wp2_with fail
                          go_quiet (fail)
                          have HV2 := Lib.hid (show Below w6.heap.size w6 (wv.drewN nq) from ⟨HV.out.os, HV.out.tape, HV.out.output, HV.out.size, HV.out.block⟩)
                          go_wp2_with fail
                          go_roundg (out'.length - (j + 1))
                          case measure => omega
                          case rel => exact ⟨j + 1, by omega, rfl, by go_num, HV2.out⟩
                      · obtain rfl : j = out'.length := by omega
                        have hA7 := HA6.out.below HV.out
                        obtain ⟨⟨S7, n7, m7⟩, b7⟩ := hA7.q
                        have hth := TheirsP n7
                        obtain ⟨tl, htl⟩ : ∃ tl, tl = (if st'.s = 9 then st'.theirs else []) := ⟨_, rfl⟩
                        have hg : GoodO tl := by
                          rw [htl]
                          split
                          · exact HA6.out.th
                          · exact ⟨Nat.zero_le _, fun _ h => (by cases h)⟩
                        rw [← htl] at hth
                        have HTH := Lib.hid hth
                        have HG := Lib.hid hg
                        clear hA7 n7 m7 b7 hth hg htl
                        go_wp2_with fail
                        refine HTH.out.mono ?_
                        rintro e w7 ⟨v7, rfl, r7, b8⟩
                        obtain ⟨st7, sc7, rfl⟩ := r7.form
                        have H7 := Lib.hid (And.intro (r7.opts (Nat.le_trans HG.out.1 (by decide))) (HV.out.trans (b8.mono HV.out.size)))
                        clear r7 b8 HTH HV
                        go_wp2_with fail
                        go_loopg [14] tl.length (fun n i wr => ∃ t : Nat, t ≤ tl.length ∧ n = tl.length - t ∧ i = .int .i64 t ∧ Hid (Below w7.heap.size w7 wr))
                        case atStart => exact ⟨0, by omega, by omega, rfl, Below.refl _ _⟩
                        case round =>
                          obtain ⟨t, ht, rfl, rfl, hH⟩ := hrel
                          obtain ⟨wt, rfl⟩ : ∃ wt, wt = wr := ⟨_, rfl⟩
                          have HT7 := Lib.hid hH.out
                          clear hH
                          have hl50 := HG.out.1
                          by_cases htl : t < tl.length
                          · obtain ⟨bt, ot, rfl, -, -, -, -, -, e0, e1⟩ := (H7.out.1.below HT7.out).at t htl
                            have hgo := HG.out.2 _ (List.getElem_mem htl)
                            rw [hgo.1] at e0
                            have HFI := Lib.hid (fun W => by
                              have := fits_any rule1 tl[t].v W (Nat.le_trans hgo.2.2 (by decide))
                              rw [hgo.2.1] at this
                              exact this)
                            clear hgo
                            generalize tl[t].v = vk at *
                            have e0' := cell_regrown e0
                            have e1' := cell_regrown e1
                            go_wp2_with fail
                            refine wp_region_quiet_below (by kernel_rfl) (by kernel_rfl) ?_
                            repeat (quiet_step (first | (go_at_call 19; exact Calls.regrown_of (rule_any _)) | (go_at_call 18; exact Calls.regrown_of (HFI.out _))))
                            refine wpQuiet_nil ?_
                            rintro _ ⟨⟨nq, osq⟩, rfl⟩
                            have HT8 := Lib.hid (HT7.out.trans ((below_regrown _ nq osq).mono HT7.out.size))
                            go_wp2_with fail
                            go_roundg (tl.length - (t + 1))
                            case measure => omega
                            case rel => exact ⟨t + 1, by omega, rfl, by go_num, HT8.out⟩
                          · obtain rfl : t = tl.length := by omega
                            have HA8 := Lib.hid (HA6.out.below (H7.out.2.trans (HT7.out.mono H7.out.2.size)))
                            clear H7 HT7 HA6 HZ6 HPV
                            go_wp2_with fail
                            go_roundg (len - (k + 1))
                            case measure => omega
                            case rel => exact ⟨k + 1, y, _, _, so', ss, co', sn, sc, by omega, rfl, by go_num, rfl, rfl, rfl, HA8.out⟩
                · have d9' : (st'.s == 9) = false := by simpa using h9'
                  have HB6 := Lib.hid (Below.refl w5.heap.size w5)
                  obtain ⟨w6, hw6⟩ : ∃ w6, w6 = w5 := ⟨_, rfl⟩
                  clear h9 h9'
                  first | subst hw6 | clear hw6
                  have HA6 := Lib.hid (HA5.out.1.below HB6.out)
                  have HZ6 := Lib.hid ((HB6.out.block _ (Array.getElem?_eq_some_iff.1 HA5.out.2.1).1).trans HA5.out.2.1)
                  have HPV := Lib.hid (HA5.out.2.2.below HB6.out)
                  go_wp2_with fail
                  go_loopg [12] out'.length (fun n i wr => ∃ j : Nat, j ≤ out'.length ∧ n = out'.length - j ∧ i = .int .i64 j ∧ Hid (Below w6.heap.size w6 wr))
                  case atStart => exact ⟨0, by omega, by omega, rfl, Below.refl _ _⟩
                  case round =>
                    obtain ⟨j, hj, rfl, rfl, hH⟩ := hrel
                    obtain ⟨wv, rfl⟩ : ∃ wv, wv = wr := ⟨_, rfl⟩
                    have HV := Lib.hid hH.out
                    clear hH
                    have hln' : out'.length ≤ 20 := HLT.out
                    by_cases hjl : j < out'.length
                    · obtain ⟨-, -, -, b', off', po', rfl, d0, d1, d2, -, hopt⟩ := (HA6.out.ou.below HV.out).at j hjl (by omega)
                      have hack := HF.out.ack out'[j] (List.getElem_mem hjl)
                      obtain ⟨sb, sbc, rfl, -, -⟩ := hopt.form
                      have hz7 := (HV.out.block _ (Array.getElem?_eq_some_iff.1 HZ6.out).1).trans HZ6.out
                      have z0 := cellOf hz7 0 (.int .i64 pc) rfl
                      have z1 := cellOf hz7 1 (.int .i64 pi) rfl
                      have z2 := cellOf hz7 2 (.slice pa po.length pcp) rfl
                      have z0' := cell_regrown z0
                      have z1' := cell_regrown z1
                      have z2' := cell_regrown z2
                      have HOP := Lib.hid hopt
                      clear hz7 hopt
                      generalize out'[j] = q at *
                      by_cases hq2 : q.code = 2
                      · obtain ⟨c1, -, hqe⟩ := hack hq2
                        have dd1 : (pc != 1) = false := by simpa using c1
                        clear c1 hack hq2
                        subst hqe
                        dsimp only at d0 d1 d2
                        have d0' := cell_regrown d0
                        have d1' := cell_regrown d1
                        have d2' := cell_regrown d2
                        have HS2 := Lib.hid (fun d os => (same_any po po _ _ _ _ (Go.Sort.grow (redrawn wv d) os) (Opts.below HOP.out (below_regrown _ d os)) (Opts.below (HPV.out.below HV.out) (below_regrown _ d os)) (Nat.le_trans HP.out.2.1.1.1 (by decide))).mono (fun e w' he => by
                          obtain ⟨t, e1, e2, e3⟩ := he
                          have : t = true := by first | exact e2.2 rfl | exact e2.2 trivial
                          subst this
                          exact And.intro e1 e3))
                        dsimp only at HS2
                        go_wp2_with fail
                        refine wp_region_quiet_below (by kernel_rfl) (by kernel_rfl) ?_
                        repeat (quiet_step (first | (go_at_call 15; exact Calls.regrown_of (HS2.out _ _))))
                        refine wpQuiet_nil ?_
                        rintro _ ⟨⟨nq, osq⟩, rfl⟩
                        have HV2 := Lib.hid (HV.out.trans ((below_regrown _ nq osq).mono HV.out.size))
                        go_wp2_with fail
                        go_roundg (out'.length - (j + 1))
                        case measure => omega
                        case rel => exact ⟨j + 1, by omega, rfl, by go_num, HV2.out⟩
                      · have dd : (q.code == 2) = false := by simpa using hq2
                        have d0' := cell_regrown d0
                        clear hack hq2
                        go_wp2_with fail
                        go_quiet (fail)
                        have HV2 := Lib.hid (show Below w6.heap.size w6 (wv.drewN nq) from ⟨HV.out.os, HV.out.tape, HV.out.output, HV.out.size, HV.out.block⟩)
                        go_wp2_with fail
                        go_roundg (out'.length - (j + 1))
                        case measure => omega
                        case rel => exact ⟨j + 1, by omega, rfl, by go_num, HV2.out⟩
                    · obtain rfl : j = out'.length := by omega
                      have hA7 := HA6.out.below HV.out
                      obtain ⟨⟨S7, n7, m7⟩, b7⟩ := hA7.q
                      have hth := TheirsP n7
                      obtain ⟨tl, htl⟩ : ∃ tl, tl = (if st'.s = 9 then st'.theirs else []) := ⟨_, rfl⟩
                      have hg : GoodO tl := by
                        rw [htl]
                        split
                        · exact HA6.out.th
                        · exact ⟨Nat.zero_le _, fun _ h => (by cases h)⟩
                      rw [← htl] at hth
                      have HTH := Lib.hid hth
                      have HG := Lib.hid hg
                      clear hA7 n7 m7 b7 hth hg htl
                      go_wp2_with fail
                      refine HTH.out.mono ?_
                      rintro e w7 ⟨v7, rfl, r7, b8⟩
                      obtain ⟨st7, sc7, rfl⟩ := r7.form
                      have H7 := Lib.hid (And.intro (r7.opts (Nat.le_trans HG.out.1 (by decide))) (HV.out.trans (b8.mono HV.out.size)))
                      clear r7 b8 HTH HV
                      go_wp2_with fail
                      go_loopg [14] tl.length (fun n i wr => ∃ t : Nat, t ≤ tl.length ∧ n = tl.length - t ∧ i = .int .i64 t ∧ Hid (Below w7.heap.size w7 wr))
                      case atStart => exact ⟨0, by omega, by omega, rfl, Below.refl _ _⟩
                      case round =>
                        obtain ⟨t, ht, rfl, rfl, hH⟩ := hrel
                        obtain ⟨wt, rfl⟩ : ∃ wt, wt = wr := ⟨_, rfl⟩
                        have HT7 := Lib.hid hH.out
                        clear hH
                        have hl50 := HG.out.1
                        by_cases htl : t < tl.length
                        · obtain ⟨bt, ot, rfl, -, -, -, -, -, e0, e1⟩ := (H7.out.1.below HT7.out).at t htl
                          have hgo := HG.out.2 _ (List.getElem_mem htl)
                          rw [hgo.1] at e0
                          have HFI := Lib.hid (fun W => by
                            have := fits_any rule1 tl[t].v W (Nat.le_trans hgo.2.2 (by decide))
                            rw [hgo.2.1] at this
                            exact this)
                          clear hgo
                          generalize tl[t].v = vk at *
                          have e0' := cell_regrown e0
                          have e1' := cell_regrown e1
                          go_wp2_with fail
                          refine wp_region_quiet_below (by kernel_rfl) (by kernel_rfl) ?_
                          repeat (quiet_step (first | (go_at_call 19; exact Calls.regrown_of (rule_any _)) | (go_at_call 18; exact Calls.regrown_of (HFI.out _))))
                          refine wpQuiet_nil ?_
                          rintro _ ⟨⟨nq, osq⟩, rfl⟩
                          have HT8 := Lib.hid (HT7.out.trans ((below_regrown _ nq osq).mono HT7.out.size))
                          go_wp2_with fail
                          go_roundg (tl.length - (t + 1))
                          case measure => omega
                          case rel => exact ⟨t + 1, by omega, rfl, by go_num, HT8.out⟩
                        · obtain rfl : t = tl.length := by omega
                          have HA8 := Lib.hid (HA6.out.below (H7.out.2.trans (HT7.out.mono H7.out.2.size)))
                          clear H7 HT7 HA6 HZ6 HPV
                          go_wp2_with fail
                          go_roundg (len - (k + 1))
                          case measure => omega
                          case rel => exact ⟨k + 1, y, _, _, so', ss, co', sn, sc, by omega, rfl, by go_num, rfl, rfl, rfl, HA8.out⟩
      · obtain rfl : len = k := by omega
        go_wp2_with fail
        refine (alive_any _).mono ?_
        rintro e w8 ⟨rfl, b8⟩
        have HE := Lib.hid (HA.out.q.2.trans (b8.mono HA.out.q.2.size))
        clear b8
        go_wp2_with fail
        go_ret
        exact ⟨rfl, HE.out⟩
end Go.Proofs.Ytijepfjfmpmfnaa
