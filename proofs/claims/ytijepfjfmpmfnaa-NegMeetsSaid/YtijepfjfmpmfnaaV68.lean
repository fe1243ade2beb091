import Derived.Test.YtijepfjfmpmfnaaV67
import Derived.Test.YtijepfjfmpmfnaaV40
/- NegMeets: two negotiations that hear each other (the walk). -/
namespace Go.Proofs.Ytijepfjfmpmfnaa
open Go.RowKit Go.Tg Go.Maps

section
variable {w0 w w' : World} {B B' : NegB} {C C' : NegC} {st st' r : NSt} {jb jb' : Nat} {m hp : Nat} {pv : Value} {ps : List Pk} {ho : Nat} {ov : Value} {os : List Pk} {lu : Nat} {uv uv' : Value}
/-- The next packet is taken. -/
theorem Ex1.step {sa : Option Addr} {n c k : Nat} (h : Ex1 w0 w B B' C C' st st' jb jb' m hp (.slice sa n c) ps ho ov os lu uv k) (hk : k < ps.length) (hl : ps.length ≤ 100) (hok : ∀ p ∈ ps, PkOk p) :
    ∃ b off po, sa = some ⟨b, off, none⟩ ∧ w.cell? ⟨b, off + k * 4, none⟩ = some (.int .i64 ps[k].code) ∧ w.cell? ⟨b, off + k * 4 + 1, none⟩ = some (.int .i64 ps[k].id) ∧ w.cell? ⟨b, off + k * 4 + 2, none⟩ = some po ∧ w.cell? ⟨b, off + k * 4 + 3, none⟩ = some (.string ps[k].d) ∧
      Calls Try.prog 13 #[.pointer (some ⟨B'.nb, 0, none⟩), .agg #[.int .i64 ps[k].code, .int .i64 ps[k].id, po, .string ps[k].d]] w fun e w' => ∃ v, e = .returned v ∧ ∃ L L', PRow w' lu uv L ∧ PRow w' w.heap.size v L' ∧ (∀ q ∈ L', q.2.oneCell' = true) ∧ L.length + L'.length ≤ 1000000 ∧ lu ≤ w'.heap.size ∧
        ∀ uv' w'', PRow w'' lu uv' (L ++ L') → Keep (fun k => uv.ownBlock = some k) w' w'' → (uv'.ownBlock = uv.ownBlock ∨ uv'.ownBlock = some w'.heap.size) → Ex1 w0 w'' B B' C C' st st' jb jb' m hp (.slice sa n c) ps ho ov os lu uv' (k + 1) := by
  obtain ⟨S, S', h⟩ := h
  obtain ⟨-, -, -, b, off, po, e, c0, c1, c2, c3, hpo⟩ := h.bp.at k hk (by omega)
  refine ⟨b, off, po, e, c0, c1, c2, c3, ?_⟩
  refine (h.take ps[k] po (hok _ (List.getElem_mem hk)) hpo).mono ?_
  rintro e w' ⟨v, rfl, ⟨L', hL', hr', hone, ho'⟩, hlu, S'', h2⟩
  obtain ⟨L, hL, hr, hopt⟩ := h2.bu
  have ln1 := congrArg List.length hL
  have ln2 := congrArg List.length hL'
  rw [List.length_map] at ln1 ln2
  have l1 := takeAll_len C' (ps.take k) st'
  have l2 := takeS_len C' (takeAll C' st' (ps.take k)).1 ps[k]
  have l3 := List.length_take_le k ps
  refine ⟨v, rfl, L, L', hr, hr', hone, by omega, hlu, fun uv' w'' g1 g2 g3 => ?_⟩
  unfold Ex1
  rw [List.take_succ_eq_append_getElem hk, takeAll_snoc]
  exact h2.next hL hL' hopt ho' g1 g2 g3
theorem MtI.form {s : Sim} {pv qv : Value} (h : MtI w0 w B B' C C' jb jb' m s pv qv) : ∃ sp sq cp cq, pv = .slice sp s.p.length cp ∧ qv = .slice sq s.q.length cq := by
  obtain ⟨S, S', hp, hq, -, -, -, h4, h5, -⟩ := h
  obtain ⟨sp, cp, e1⟩ := h4.pk.form
  obtain ⟨sq, cq, e2⟩ := h5.pk.form
  exact ⟨sp, sq, cp, cq, e1, e2⟩
end

theorem putE1 (a : ByteArray) (h : a.size = 2) : putE [⟨1, a⟩] = 0 := by
  unfold putE; simp [badO, h]
theorem eM2 (jb : Nat) (f : Int) (ask : List Opt) : evS noR (CS jb 5 f 2) ⟨1, 0, 0, 0, 0, 0, ask, [], [], 0, 0⟩ 0 noCame = (nst 6 4 1 0 ask [] [] 0, [⟨1, 1, ask, noB⟩]) := by kernel_rfl

set_option maxHeartbeats 16000000 in
set_option maxRecDepth 100000 in
theorem negMeets_any (a b : ByteArray) (f : Int) (w : World) : Calls Try.prog 3 #[.string a, .string b, .int .i64 f] w fun e w' => e = .returned (.bool true) ∧ Below w.heap.size w w' := by
  have q1 : ∀ w a, (binOp .eql 23 (.pointer (some a)) (.pointer none)).run Try.prog w = .ok (.bool false) w := fun w a => by kernel_rfl
  by_cases hr : (a.size = 2 ∧ b.size = 2) ∧ (2 ≤ f ∧ f ≤ 10)
  · have d3 : decide (f < 2) = false := by simp; omega
    have d4 : decide ((10 : Int) < f) = false := by simp; omega
    have ha : (a.size : Int) = 2 := by omega
    have hb : (b.size : Int) = 2 := by omega
    have HR := Lib.hid hr
    clear hr
    go_enter Try.func3, Try.ntmps3
    go_wp2_with fail
    refine (setup_any _ _ _).mono ?_
    rintro e w1 ⟨b0, b1, b2, rfl, hs, hb1⟩
    have HN := Lib.hid (newS w1 _ b0 b1 b2 a 5 f 2 hs (by decide) (by have := HR.out.2; omega) (by decide) (by have := HR.out.1; omega) (putE1 a HR.out.1.1))
    have HB1 := Lib.hid hb1
    clear hs hb1
    unfold setV at HN ⊢
    go_wp2_with fail
    refine HN.out.mono ?_
    rintro e w2 ⟨v, rfl, B, jb, rfl, hv, hj, hjs, hjt, hb2⟩
    have h1 : NegP w2 (fun b => w1.heap.size ≤ b) B (CS jb 5 f 2) (st0 [⟨1, a⟩]) jb := ⟨hv, hj, hjt, hjs, rfl⟩
    have H1 := Lib.hid (And.intro h1 hb2)
    clear hv hj hjs hjt hb2 h1 HN
    go_wp2_with fail
    refine (setup_any _ _ _).mono ?_
    rintro e w3 ⟨b0', b1', b2', rfl, hs, hb3⟩
    have HN := Lib.hid (newS w3 _ b0' b1' b2' b 5 f 2 hs (by decide) (by have := HR.out.2; omega) (by decide) (by have := HR.out.1; omega) (putE1 b HR.out.1.2))
    have HB3 := Lib.hid hb3
    clear hs hb3
    unfold setV at HN ⊢
    go_wp2_with fail
    refine HN.out.mono ?_
    rintro e w4 ⟨v, rfl, B', jb', rfl, hv, hj, hjs, hjt, hb4⟩
    have hs3 := HB3.out.size
    have h2 : NegP w4 (fun b => w2.heap.size ≤ b) B' (CS jb' 5 f 2) (st0 [⟨1, b⟩]) jb' := ⟨hv.mono (fun b hb => Nat.le_trans hs3 hb), hj, hjt, Nat.le_trans hs3 hjs, rfl⟩
    have T4 := Lib.hid (Two.made HB1.out H1.out.1 H1.out.2 h2 (HB3.out.trans (hb4.mono hs3)))
    clear hv hj hjs hjt hb4 h2 hs3 HN HB3 H1
    obtain ⟨S4, S4', n, n', hp⟩ := T4.out
    have D := DoP noR 2 (by decide) n
    rw [eQ1] at D
    have P5 := Lib.hid (And.intro D (And.intro n (And.intro n' hp)))
    clear n n' hp D
    go_wp2_with fail
    refine P5.out.1.mono ?_
    rintro e w5 ⟨v5, rfl, p5, h, k⟩
    have T5 := Lib.hid (Two.step P5.out.2.1 P5.out.2.2.1 P5.out.2.2.2 h k)
    clear p5 h k
    obtain ⟨S5, S5', n, n', hp⟩ := T5.out.symm
    have D := DoP noR 2 (by decide) n
    rw [eQ1] at D
    have P6 := Lib.hid (And.intro D (And.intro n (And.intro n' hp)))
    clear n n' hp D
    go_wp2_with fail
    refine P6.out.1.mono ?_
    rintro e w6 ⟨v6, rfl, p6, h, k⟩
    have T6 := Lib.hid (Two.step P6.out.2.1 P6.out.2.2.1 P6.out.2.2.2 h k)
    clear p6 h k
    obtain ⟨S6, S6', n, n', hp⟩ := T6.out.symm
    have D := DoP noR 0 (by decide) n
    rw [eM2] at D
    have P7 := Lib.hid (And.intro D (And.intro n (And.intro n' hp)))
    have HT := Lib.hid (show ∀ b, B.t b ∨ B'.t b → b < w6.heap.size from fun b hb => hb.elim (fun h => n.tlt h) (fun h => n'.tlt h))
    clear n n' hp D
    go_wp2_with fail
    refine P7.out.1.mono ?_
    rintro e w7 ⟨v7, rfl, p7, h, k⟩
    have T7 := Lib.hid (Two.step P7.out.2.1 P7.out.2.2.1 P7.out.2.2.2 h k)
    have G7 := Lib.hid (And.intro (Bag.mk' p7 (Nat.le_refl _) (fun b _ hb => hb.elim False.elim id)) k.size)
    obtain ⟨sp, cp, rfl⟩ := p7.form
    clear p7 h k
    obtain ⟨S7, S7', n, n', hp⟩ := T7.out.symm
    have D := DoP noR 0 (by decide) n
    rw [eM2] at D
    have P8 := Lib.hid (And.intro D (And.intro n (And.intro n' hp)))
    clear n n' hp D
    go_wp2_with fail
    refine P8.out.1.mono ?_
    rintro e w8 ⟨v8, rfl, p8, h, k⟩
    have T8 := Two.step P8.out.2.1 P8.out.2.2.1 P8.out.2.2.2 h k
    obtain ⟨S8', S8, g1, g2, g3⟩ := T8
    have hM : MtI w w8 B B' (CS jb 5 f 2) (CS jb' 5 f 2) jb jb' w6.heap.size (sim0 a b) _ v8 := ⟨S8, S8', w7.heap.size, w8.heap.size, g2, g1, g3.symm, G7.out.1.keep k (fun b h1 _ ht => by have := HT.out b (.inr ht); omega), Bag.mk' p8 G7.out.2 (fun b _ hb => hb.elim False.elim (fun hb => Nat.le_trans G7.out.2 hb)), HT.out, Nat.le_trans G7.out.2 k.size, k.size, Nat.le_refl _⟩
    obtain ⟨sq, cq, rfl⟩ := p8.form
    have HM := Lib.hid hM
    have HS := Lib.hid (sims_meet jb jb' f a b HR.out.2.1 HR.out.1.1 HR.out.1.2)
    clear p8 h k g1 g2 g3 hM P5 P6 P7 P8 T4 T5 T6 T7 G7 HT HR HB1
    generalize w6.heap.size = m at HM
    generalize hC : CS jb 5 f 2 = C at *
    generalize hC' : CS jb' 5 f 2 = C' at *
    have LPQ := Lib.hid (show (sim0 a b).p.length = 1 ∧ (sim0 a b).q.length = 1 from ⟨rfl, rfl⟩)
    generalize hS : sim0 a b = s0 at *
    clear hC hC' hS
    go_wp2_with fail
    go_loopg [13, 11, 12] 10 (fun n vi vp vq wr => ∃ (i : Nat) (sp sq : Option Addr) (cp cq : Nat), i ≤ 10 ∧ n = 10 - i ∧ vi = .int .i64 i ∧ vp = .slice sp (sims C C' s0 i).p.length cp ∧ vq = .slice sq (sims C C' s0 i).q.length cq ∧
      Hid (MtI w wr B B' C C' jb jb' m (sims C C' s0 i) vp vq))
    case atStart => exact ⟨0, sp, sq, cp, cq, by omega, by omega, rfl, congrArg (fun n => Value.slice sp n cp) LPQ.out.1.symm, congrArg (fun n => Value.slice sq n cq) LPQ.out.2.symm, HM.out⟩
    case round =>
      clear HM
      obtain ⟨i, sp, sq, cp, cq, hi10, rfl, rfl, rfl, rfl, hH⟩ := hrel
      obtain ⟨wA, rfl⟩ : ∃ wA, wA = wr := ⟨_, rfl⟩
      by_cases hlt : i < 10
      · have hltb : decide ((i : Int) < 10) = true := by simp; omega
        have hSN : Hid (sims C C' s0 (i + 1) = xch C C' (sims C C' s0 i)) := Lib.hid rfl
        have hok := HS.out.1 i
        generalize sims C C' s0 i = s at hSN hok hH ⊢
        obtain ⟨x, y, p, q⟩ := s
        obtain ⟨hp, hq, hX⟩ := hH.out.start1
        have hlp : p.length ≤ 100 := hok.1
        have hlq : q.length ≤ 100 := hok.2.1
        have HX := Lib.hid hX
        have HK := Lib.hid hok
        clear hH hX hok
        dsimp only at HX ⊢
        go_wp2_with fail
        go_loopg [16, 14] p.length (fun n vk vu wq => ∃ (k : Nat), k ≤ p.length ∧ n = p.length - k ∧ vk = .int .i64 k ∧
          Hid (Ex1 w wq B B' C C' x y jb jb' m hp (.slice sp p.length cp) p hq (.slice sq q.length cq) q wA.heap.size vu k))
        case atStart => exact ⟨0, by omega, by omega, rfl, HX.out⟩
        case round =>
          obtain ⟨k, hk, rfl, rfl, hH⟩ := hrel
          obtain ⟨wq, rfl⟩ : ∃ wq, wq = wr := ⟨_, rfl⟩
          by_cases hkx : k < p.length
          · obtain ⟨b, off, po, rfl, c0, c1, c2, c3, hcall⟩ := hH.out.step hkx hlp HK.out.2.2.1
            have HC := Lib.hid hcall
            clear hH hcall HX
            generalize p[k] = pk at *
            go_wp2_with fail
            refine HC.out.mono ?_
            rintro e w5 ⟨v5, rfl, L, L', r1, r2, hone, hll, hlu, hnext⟩
            have HN := Lib.hid (And.intro r1 (And.intro r2 hnext))
            clear r1 r2 hnext c0 c1 c2 c3
            go_wp2_with (at_builtin; refine wpl_append_pks rfl _ _ rfl _ L rfl HN.out.1 _ L' rfl HN.out.2.1 hone hll hlu ?_; intro v6 w6 h6 k6 o6; have H6 := Lib.hid (HN.out.2.2 v6 w6 h6 k6 o6); clear h6 k6 o6)
            go_roundg (p.length - (k + 1))
            case measure => omega
            case rel => exact ⟨k + 1, by omega, rfl, by go_num, H6.out⟩
          · obtain rfl : k = p.length := by omega
            have HY := Lib.hid hH.out.start2
            clear hH HX
            go_wp2_with fail
            go_loopg [17, 15] q.length (fun n vk vu wz => ∃ (k : Nat), k ≤ q.length ∧ n = q.length - k ∧ vk = .int .i64 k ∧
              Hid (Ex1 w wz B' B C' C (takeAll C' y p).1 x jb' jb m hq (.slice sq q.length cq) q wq.heap.size u14 (takeAll C' y p).2 wq.heap.size vu k))
            case atStart => exact ⟨0, by omega, by omega, rfl, HY.out⟩
            case round =>
              obtain ⟨k, hk, rfl, rfl, hH⟩ := hrel
              obtain ⟨wz, rfl⟩ : ∃ wz, wz = wr := ⟨_, rfl⟩
              by_cases hkx : k < q.length
              · obtain ⟨b, off, po, rfl, c0, c1, c2, c3, hcall⟩ := hH.out.step hkx hlq HK.out.2.2.2
                have HC := Lib.hid hcall
                clear hH hcall HY
                generalize q[k] = pk at *
                go_wp2_with fail
                refine HC.out.mono ?_
                rintro e w5 ⟨v5, rfl, L, L', r1, r2, hone, hll, hlu, hnext⟩
                have HN := Lib.hid (And.intro r1 (And.intro r2 hnext))
                clear r1 r2 hnext c0 c1 c2 c3
                go_wp2_with (at_builtin; refine wpl_append_pks rfl _ _ rfl _ L rfl HN.out.1 _ L' rfl HN.out.2.1 hone hll hlu ?_; intro v6 w6 h6 k6 o6; have H6 := Lib.hid (HN.out.2.2 v6 w6 h6 k6 o6); clear h6 k6 o6)
                go_roundg (q.length - (k + 1))
                case measure => omega
                case rel => exact ⟨k + 1, by omega, rfl, by go_num, H6.out⟩
              · obtain rfl : k = q.length := by omega
                have hD : MtI w wz B B' C C' jb jb' m (xch C C' ⟨x, y, p, q⟩) u15 u14 := hH.out.done
                obtain ⟨sv, su, cv, cu, rfl, rfl⟩ := hD.form
                have HD := Lib.hid hD
                clear hH hD HY
                go_wp2_with fail
                go_roundg (10 - (i + 1))
                case measure => omega
                case rel => exact ⟨i + 1, sv, su, cv, cu, by omega, rfl, by go_num, by rw [hSN.out], by rw [hSN.out], by rw [hSN.out]; exact HD.out⟩
      · obtain rfl : i = 10 := by omega
        obtain ⟨va, vb, hva, hvb, hfa, hfb, h1, h2, h3, h4, h5, h6⟩ := HS.out.2
        have hH := hH.out
        generalize sims C C' s0 10 = s at *
        obtain ⟨x, y, p, q⟩ := s
        dsimp only at h1 h2 h3 h4 h5 h6 hH ⊢
        obtain ⟨S, S', -, -, n1, n2, hp, -⟩ := hH
        have E1 := Lib.hid (fun W (hW : Below wA.heap.size wA W) => by
          have := MineP (n1.below hW)
          rw [if_pos h1, h3] at this
          exact this)
        have E2 := Lib.hid (fun W (hW : Below wA.heap.size wA W) => by
          have := TheirsP (n2.below hW)
          rw [if_pos h2, h4] at this
          exact this)
        have E3 := Lib.hid (fun W (hW : Below wA.heap.size wA W) => by
          have := MineP (n2.below hW)
          rw [if_pos h2, h5] at this
          exact this)
        have E4 := Lib.hid (fun W (hW : Below wA.heap.size wA W) => by
          have := TheirsP (n1.below hW)
          rw [if_pos h1, h6] at this
          exact this)
        have ST1 := StateP n1
        have ST2 := StateP n2
        rw [h1] at ST1
        rw [h2] at ST2
        have ST := Lib.hid (And.intro ST1 ST2)
        have HB := Lib.hid hp.bl
        have hva' : va.size ≤ 100000 := by omega
        have hvb' : vb.size ≤ 100000 := by omega
        have HF := Lib.hid (And.intro hfa hfb)
        clear ST1 ST2 n1 n2 hp h1 h2 h3 h4 h5 h6 hva hvb hfa hfb HS LPQ
        go_wp2_with fail
        refine ST.out.1.mono ?_
        rintro e w9 ⟨rfl, rfl⟩
        go_wp2_with fail
        refine ST.out.2.mono ?_
        rintro e w9 ⟨rfl, rfl⟩
        go_wp2_with fail
        refine (E1.out _ (Below.refl _ _)).mono ?_
        rintro e w9 ⟨v9, rfl, r9, b9⟩
        have K9 := Lib.hid (And.intro r9 b9)
        clear r9 b9
        go_wp2_with fail
        refine (E2.out _ K9.out.2).mono ?_
        rintro e w10 ⟨v10, rfl, r10, b10⟩
        have S10 := same_any _ _ _ _ _ _ w10 ((K9.out.1.below b10).opts (show 1 ≤ maxLen by decide)) (r10.opts (show 1 ≤ maxLen by decide)) (show 1 ≤ 1000000 by decide)
        have K10 := Lib.hid (And.intro S10 (K9.out.2.trans (b10.mono K9.out.2.size)))
        clear r10 b10 S10
        go_wp2_with fail
        refine K10.out.1.mono ?_
        rintro e w11 ⟨t, rfl, ht, b11⟩
        obtain rfl : t = true := by first | exact ht.2 rfl | exact ht.2 trivial
        have K11 := Lib.hid (K10.out.2.trans (b11.mono K10.out.2.size))
        clear ht b11 K9 K10
        go_wp2_with fail
        refine (E3.out _ K11.out).mono ?_
        rintro e w12 ⟨v12, rfl, r12, b12⟩
        have K12 := Lib.hid (And.intro r12 (K11.out.trans (b12.mono K11.out.size)))
        clear r12 b12
        go_wp2_with fail
        refine (E4.out _ K12.out.2).mono ?_
        rintro e w13 ⟨v13, rfl, r13, b13⟩
        have S13 := same_any _ _ _ _ _ _ w13 ((K12.out.1.below b13).opts (show 1 ≤ maxLen by decide)) (r13.opts (show 1 ≤ maxLen by decide)) (show 1 ≤ 1000000 by decide)
        have K13 := Lib.hid (And.intro S13 (K12.out.2.trans (b13.mono K12.out.2.size)))
        clear r13 b13 S13
        go_wp2_with fail
        refine K13.out.1.mono ?_
        rintro e w14 ⟨t, rfl, ht, b14⟩
        obtain rfl : t = true := by first | exact ht.2 rfl | exact ht.2 trivial
        have K14 := Lib.hid (K13.out.2.trans (b14.mono K13.out.2.size))
        clear ht b14 K11 K12 K13
        go_wp2_with fail
        refine (E1.out _ K14.out).mono ?_
        rintro e w15 ⟨v15, rfl, r15, b15⟩
        have s15 := b15.size
        have K15 := Lib.hid (And.intro r15 (K14.out.trans (b15.mono K14.out.size)))
        clear r15 b15
        go_wp2_with fail
        refine (E3.out _ K15.out.2).mono ?_
        rintro e w16 ⟨v16, rfl, r16, b16⟩
        obtain ⟨g16, c16, rfl, -⟩ := r16.at0
        have K16 := Lib.hid (And.intro (K15.out.1.below b16) (And.intro (r16.opts (show 1 ≤ maxLen by decide)) (K15.out.2.trans (b16.mono K15.out.2.size))))
        have hs16 : w14.heap.size ≤ w16.heap.size := Nat.le_trans s15 b16.size
        clear r16 b16
        go_wp2_with (at_builtin; refine wpl_append_opts rfl _ _ rfl _ [⟨1, va⟩] rfl K16.out.1 _ [⟨1, vb⟩] rfl K16.out.2.1 (fun n c h => by cases h) (show 2 ≤ 1000000 by decide) hs16 ?_
                     intro v17 w17 r17 k17 o17
                     have b17 : Below w14.heap.size w16 w17 := k17.below hs16 (fun b hb he => by have := (K16.out.1.lt b he).2; omega)
                     obtain ⟨sl, cl, rfl⟩ := r17.form
                     have K17 := Lib.hid (And.intro r17 (K16.out.2.2.trans (b17.mono K14.out.size)))
                     clear r17 k17 o17 b17)
        have hO17 := Lib.hid (K17.out.1.opts (show 2 ≤ maxLen by decide))
        go_loopg [19] 2 (fun n vi wr => ∃ k : Nat, k ≤ 2 ∧ n = 2 - k ∧ vi = .int .i64 k ∧ Hid (Below w17.heap.size w17 wr))
        case atStart => exact ⟨0, by omega, by omega, rfl, Below.refl _ _⟩
        case round =>
          obtain ⟨k, hk, rfl, rfl, hH⟩ := hrel
          have HH := Lib.hid hH.out
          clear hH
          by_cases hk2 : k < 2
          · obtain ⟨bb, off, rfl, -, -, -, -, -, -, hc⟩ := (hO17.out.below HH.out).at k hk2
            have hc' := cell_regrown hc
            have hx : (([⟨1, va⟩] ++ [⟨1, vb⟩] : List Opt)[k]'hk2).v.size ≤ 100000 ∧ fitsR rule1 (([⟨1, va⟩] ++ [⟨1, vb⟩] : List Opt)[k]'hk2).v = true := by
              obtain rfl | rfl : k = 0 ∨ k = 1 := by omega
              · exact ⟨hva', HF.out.1⟩
              · exact ⟨hvb', HF.out.2⟩
            have HX := Lib.hid hx
            clear hx
            generalize (([⟨1, va⟩] ++ [⟨1, vb⟩] : List Opt)[k]'hk2).v = vk at *
            have HFI := Lib.hid (fun W => by
              have := fits_any rule1 vk W HX.out.1
              rw [HX.out.2] at this
              exact this)
            go_wp2_with fail
            refine wp_region_quiet_below (by kernel_rfl) (by kernel_rfl) ?_
            repeat (quiet_step (first | (go_at_call 19; exact Calls.regrown_of (rule_any _)) | (go_at_call 18; exact Calls.regrown_of (HFI.out _))))
            refine wpQuiet_nil ?_
            rintro _ ⟨⟨nq, osq⟩, rfl⟩
            have HB2 := Lib.hid (HH.out.trans ((below_regrown _ nq osq).mono HH.out.size))
            go_wp2_with fail
            go_roundg (2 - (k + 1))
            case measure => omega
            case rel => exact ⟨k + 1, by omega, rfl, by go_num, HB2.out⟩
          · obtain rfl : k = 2 := by omega
            have hBW := Lib.hid (HB.out.trans ((K17.out.2.trans (HH.out.mono K17.out.2.size)).mono HB.out.size))
            go_wp2_with fail
            refine (alive_any _).mono ?_
            rintro e w20 ⟨rfl, b20⟩
            have HE := Lib.hid (hBW.out.trans (b20.mono hBW.out.size))
            clear b20
            go_wp2_with fail
            go_ret
            exact ⟨rfl, HE.out⟩
  · have HA := Lib.hid (alive_any w)
    by_cases h1 : (a.size : Int) = 2
    · by_cases h2 : (b.size : Int) = 2
      · by_cases h3 : f < 2
        · have d3 : decide (f < 2) = true := by simpa using h3
          clear hr h3
          go_enter Try.func3, Try.ntmps3
          go_wp2_with (go_at_call 9; refine HA.out.mono ?_; rintro e w8 ⟨rfl, b8⟩)
          go_ret
          exact ⟨rfl, b8⟩
        · have d3 : decide (f < 2) = false := by simpa using h3
          have d4 : decide (10 < f) = true := by simp; omega
          clear hr h3
          go_enter Try.func3, Try.ntmps3
          go_wp2_with (go_at_call 9; refine HA.out.mono ?_; rintro e w8 ⟨rfl, b8⟩)
          go_ret
          exact ⟨rfl, b8⟩
      · have d2 : ((b.size : Int) != 2) = true := by simpa using h2
        clear hr h2
        go_enter Try.func3, Try.ntmps3
        go_wp2_with (go_at_call 9; refine HA.out.mono ?_; rintro e w8 ⟨rfl, b8⟩)
        go_ret
        exact ⟨rfl, b8⟩
    · have d1 : ((a.size : Int) != 2) = true := by simpa using h1
      clear hr h1
      go_enter Try.func3, Try.ntmps3
      go_wp2_with (go_at_call 9; refine HA.out.mono ?_; rintro e w8 ⟨rfl, b8⟩)
      go_ret
      exact ⟨rfl, b8⟩
end Go.Proofs.Ytijepfjfmpmfnaa
