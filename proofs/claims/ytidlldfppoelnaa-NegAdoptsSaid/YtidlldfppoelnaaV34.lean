import Derived.Test.YtidlldfppoelnaaV33
namespace Go.Proofs.Ytidlldfppoelnaa
open Go.RowKit Go.Tg Go.Maps

/-- A negotiation of a law's own. -/
def NegQ (w w' : World) (B : NegB) (C : NegC) (st : NSt) (jb : Nat) : Prop := (∃ S, NegP w' S B C st jb ∧ ∀ b, S b → w.heap.size ≤ b) ∧ Below w.heap.size w w'
theorem NegQ.ev {w w1 w2 : World} {B : NegB} {C : NegC} {st : NSt} {jb : Nat} {r : NSt × List Pk} {S : Nat → Prop} (hb : Below w.heap.size w w1) (hS : ∀ b, S b → w.heap.size ≤ b) (h0 : NegP w1 S B C st jb) (h : NegP w2 (Grow S w1) B C r.1 jb) (hk : Keep B.t w1 w2) : NegQ w w2 B C r.1 jb :=
  ⟨⟨_, h, fun b hb' => hb'.elim (hS b) (fun h => Nat.le_trans hb.size h)⟩, hb.trans (hk.below hb.size (fun b hb' ht => by have := hS b (h0.ts ht); omega))⟩

set_option maxHeartbeats 16000000 in
set_option maxRecDepth 100000 in
theorem negQuiet_any (cf wt : Int) (w : World) : Calls Try.prog 6 #[.int .i64 cf, .int .i64 wt] w fun e w' => e = .returned (.bool true) ∧ Below w.heap.size w w' := by
  have q1 : ∀ w a, (binOp .eql 23 (.pointer (some a)) (.pointer none)).run Try.prog w = .ok (.bool false) w := fun w a => by kernel_rfl
  by_cases hr : (1 ≤ cf ∧ cf ≤ 20) ∧ (1 ≤ wt ∧ wt ≤ 20)
  · obtain ⟨c, rfl⟩ : ∃ c : Nat, cf = c := ⟨cf.toNat, by omega⟩
    obtain ⟨d, rfl⟩ : ∃ d : Nat, wt = d := ⟨wt.toNat, by omega⟩
    have d1 : decide ((c : Int) < 1) = false := by simp; omega
    have d2 : decide ((20 : Int) < (c : Int)) = false := by simp; omega
    have d3 : decide ((d : Int) < 1) = false := by simp; omega
    have d4 : decide ((20 : Int) < (d : Int)) = false := by simp; omega
    have HR := Lib.hid hr
    have hcb : 1 ≤ c ∧ c ≤ 20 ∧ 1 ≤ d ∧ d ≤ 20 := by omega
    have hcd : c * d ≤ 400 := Nat.mul_le_mul (show c ≤ 20 by omega) (show d ≤ 20 by omega)
    obtain ⟨n, hn⟩ : ∃ n, n = c * d := ⟨_, rfl⟩
    have hmul : wrap64 ((c : Int) * (d : Int)) = (n : Int) := by
      rw [hn]; rw [show ((c : Int) * (d : Int)) = ((c * d : Nat) : Int) by simp]; unfold wrap64; omega
    have HN := Lib.hid hn
    rw [← hn] at hcd
    clear hr hn
    go_enter Try.func6, Try.ntmps6
    go_wp2_with fail
    refine (setup_any _ _ _).mono ?_
    rintro e w1 ⟨b0, b1, b2, rfl, hs, hb⟩
    unfold setV
    have hb2 : Below w1.heap.size w1 (w1.alloc (.cells #[.slice (some ⟨b0, 0, none⟩) 1 1, .slice (some ⟨b1, 0, none⟩) 1 1, .slice (some ⟨b2, 0, none⟩) 1 1, .slice none 0 0, .int .i64 c, .int .i64 2, .int .i64 3, .int .i64 d] 31 (0, 0))) := (Below.refl _ _).alloc (Nat.le_refl _) _
    have hs2 := And.intro (hs.1.below hb2) (And.intro (hs.2.1.below hb2) (hs.2.2.below hb2))
    have HN2 := Lib.hid (newS _ _ b0 b1 b2 _ c 3 d hs2 HR.out.1 (by decide) (by have := HR.out.2; omega) (by decide) (by kernel_rfl))
    have HB := Lib.hid (hb.trans (hb2.mono hb.size))
    unfold setV at HN2
    clear hs hb hb2 hs2
    go_wp2_with fail
    refine HN2.out.mono ?_
    rintro e w3 ⟨v, rfl, B, jb, rfl, hv, hj, hjs, hjt, hb3⟩
    have hsB := HB.out.size
    have h3 : NegP w3 (fun b => w.heap.size ≤ b) B (CS jb c 3 d) (st0 asks) jb := ⟨hv.mono (fun b hb => Nat.le_trans hsB hb), hj, hjt, Nat.le_trans hsB hjs, rfl⟩
    have HB3 := Lib.hid (HB.out.trans (hb3.mono hsB))
    have D1 := Lib.hid (And.intro (DoP noR 2 (by decide) h3) h3)
    rw [eQ1] at D1
    clear hv hj hjs hjt hb3 h3
    go_wp2_with fail
    refine D1.out.1.mono ?_
    rintro e w5 ⟨v5, rfl, p5, h5, k5⟩
    have Q5 : NegQ w w5 B (CS jb c 3 d) ⟨1, 0, 0, 0, 0, 0, asks, [], [], 0, 0⟩ jb := NegQ.ev HB3.out (fun b hb => hb) D1.out.2 h5 k5
    obtain ⟨⟨S5, n5, m5⟩, b5⟩ := Q5
    have D2 := Lib.hid (And.intro (DoP noR 0 (by decide) n5) (And.intro n5 (And.intro m5 b5)))
    rw [eQ2 jb c 3 d asks (by omega)] at D2
    clear p5 h5 k5 n5 m5 b5
    go_wp2_with fail
    refine D2.out.1.mono ?_
    rintro e w6 ⟨v6, rfl, p6, h6, k6⟩
    have Q6 : NegQ w w6 B (CS jb c 3 d) (sQ ((c : Int) - 1) 0 1 1 asks) jb := NegQ.ev D2.out.2.2.2 D2.out.2.2.1 D2.out.2.1 h6 k6
    obtain ⟨sa6, sc6, rfl⟩ := p6.form
    have HQ6 := Lib.hid Q6
    clear p6 h6 k6 Q6
    go_wp2_with fail
    go_loopg [8, 9] n (fun x a i wr => ∃ (k asked : Nat) (st : NSt), k ≤ n ∧ asked ≤ k + 1 ∧ x = n - k ∧ a = .int .i64 asked ∧ i = .int .i64 k ∧ Hid (NegQ w wr B (CS jb c 3 d) st jb ∧ QS c d st k asked))
    case atStart => exact ⟨0, 1, _, by omega, by omega, by omega, rfl, rfl, HQ6.out, Or.inl ⟨0, 0, 1, 1, by omega, by omega, by omega, rfl, by rw [show ((c : Int) - 1 - ((0 : Nat) : Int)) = (c : Int) - 1 by omega]; rfl⟩⟩
    case round =>
      obtain ⟨k, asked, st, hk, hak, rfl, rfl, rfl, hK⟩ := hrel
      have HK := Lib.hid hK.out
      clear hK
      obtain ⟨⟨S7, n7, m7⟩, b7⟩ := HK.out.1
      by_cases hkn : k < n
      · obtain ⟨hs6, m, hm, hq⟩ := HK.out.2.step (jb := jb) (f := 3) (d := d) (by omega) (by rw [← HN.out]; exact hkn)
        have ST := Lib.hid (StateP n7)
        rw [hs6] at ST
        have TI := Lib.hid (And.intro (TickP noR n7) (And.intro n7 (And.intro m7 b7)))
        have HM := Lib.hid (And.intro hm hq)
        have hm1 : m ≤ 1 := by
          rcases HK.out.2 with ⟨q, r, id, ak, h1, h2, h3, h4, rfl⟩ | ⟨h1, _⟩
          · have := hm
            by_cases hr : (r : Int) + 1 < d
            · rw [tQ1 jb c 3 d _ _ _ _ _ (by omega) hr] at this; simp at this; omega
            · by_cases hc : (0 : Int) < (c : Int) - 1 - q
              · rw [tQ2 jb c 3 d _ _ _ _ _ (by omega) hr hc] at this; simp at this; omega
              · obtain ⟨c', hc'⟩ := tQ3 jb c 3 d _ r id ak asks (by omega) hr hc
                rw [hc'] at this; simp at this; omega
          · rw [← HN.out] at h1; omega
        have hadd : wrap64 ((asked : Int) + (m : Int)) = ((asked + m : Nat) : Int) := by unfold wrap64; omega
        clear hm hq n7 m7 b7 hs6
        go_wp2_with (first
          | (go_at_call 20; refine ST.out.mono ?_; rintro e w8 ⟨rfl, rfl⟩)
          | (go_at_call 25; refine TI.out.1.mono ?_; rintro e w8 ⟨v8, rfl, p8, h8, k8⟩
             have Q8 := NegQ.ev TI.out.2.2.2 TI.out.2.2.1 TI.out.2.1 h8 k8
             obtain ⟨sa8, sc8, rfl⟩ := p8.form
             rw [HM.out.1]
             have HQ8 := Lib.hid Q8
             clear p8 h8 k8 Q8))
        go_roundg (n - (k + 1))
        case measure => omega
        case rel => exact ⟨k + 1, asked + m, _, by omega, by omega, rfl, rfl, by go_num, HQ8.out, HM.out.2⟩
      · obtain rfl : n = k := by omega
        have hq := HK.out.2
        have hfin : asked = c ∧ st.s = 3 := by
          rcases hq with ⟨q, r, id, ak, h1, h2, h3, h4, rfl⟩ | ⟨h1, h2, h3⟩
          · exfalso
            have h5 : (q + 1) * d ≤ c * d := Nat.mul_le_mul_right d h3
            rw [Nat.add_mul] at h5
            have := HN.out
            omega
          · exact ⟨h2, h3⟩
        have n8 := fun (w8 : World) (hb : Below wr.heap.size wr w8) => n7.below hb
        have HN8 := Lib.hid (And.intro n8 b7)
        have HF := Lib.hid (fun b (hb : B.t b) => m7 b (n7.ts hb))
        have hb1 := b7.size
        obtain ⟨hf1, hf2⟩ := hfin
        subst hf1
        have HS3 := Lib.hid hf2
        clear hq n7 m7 b7 n8 hf2
        go_wp2_with (first
          | (go_at_call 10; refine (alive_any _).mono ?_; rintro e w8 ⟨rfl, b8⟩
             have n8 := HN8.out.1 _ b8
             have ST := Lib.hid (StateP n8)
             rw [HS3.out] at ST
             have TI := Lib.hid (TickP noR n8)
             rw [tQ4 jb _ _ _ _ HS3.out] at TI
             have HB8 := Lib.hid (HN8.out.2.trans (b8.mono hb1))
             clear n8 b8)
          | (go_at_call 20; refine ST.out.mono ?_; rintro e w9 ⟨rfl, rfl⟩)
          | (go_at_call 25; refine TI.out.mono ?_; rintro e w9 ⟨v9, rfl, p9, h9, k9⟩
             obtain ⟨sa9, sc9, rfl⟩ := p9.form
             have HK9 := Lib.hid k9
             clear p9 h9 k9))
        go_ret
        exact ⟨rfl, HB8.out.trans (HK9.out.below HB8.out.size (fun b hb ht => by have := HF.out b ht; omega))⟩
  · have HA := Lib.hid (alive_any w)
    by_cases h1 : cf < 1
    · have d1 : decide (cf < 1) = true := by simpa using h1
      clear hr h1
      go_enter Try.func6, Try.ntmps6
      go_wp2_with (go_at_call 10; refine HA.out.mono ?_; rintro e w8 ⟨rfl, b8⟩)
      go_ret
      exact ⟨rfl, b8⟩
    · have d1 : decide (cf < 1) = false := by simpa using h1
      by_cases h2 : 20 < cf
      · have d2 : decide (20 < cf) = true := by simpa using h2
        clear hr h1 h2
        go_enter Try.func6, Try.ntmps6
        go_wp2_with (go_at_call 10; refine HA.out.mono ?_; rintro e w8 ⟨rfl, b8⟩)
        go_ret
        exact ⟨rfl, b8⟩
      · have d2 : decide (20 < cf) = false := by simpa using h2
        by_cases h3 : wt < 1
        · have d3 : decide (wt < 1) = true := by simpa using h3
          clear hr h1 h2 h3
          go_enter Try.func6, Try.ntmps6
          go_wp2_with (go_at_call 10; refine HA.out.mono ?_; rintro e w8 ⟨rfl, b8⟩)
          go_ret
          exact ⟨rfl, b8⟩
        · have d3 : decide (wt < 1) = false := by simpa using h3
          have d4 : decide (20 < wt) = true := by simp; omega
          clear hr h1 h2 h3
          go_enter Try.func6, Try.ntmps6
          go_wp2_with (go_at_call 10; refine HA.out.mono ?_; rintro e w8 ⟨rfl, b8⟩)
          go_ret
          exact ⟨rfl, b8⟩
end Go.Proofs.Ytidlldfppoelnaa
