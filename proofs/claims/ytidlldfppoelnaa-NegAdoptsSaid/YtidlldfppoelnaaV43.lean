import Derived.Test.YtidlldfppoelnaaV42
import Derived.Test.YtidlldfppoelnaaV34
import Derived.Test.YtidlldfppoelnaaO
namespace Go.Proofs.Ytidlldfppoelnaa
open Go.RowKit Go.Tg Go.Maps

theorem eD1 (jb : Nat) (a b : List Opt) : evS noR (CS jb 5 3 2) ⟨9, 0, 0, 0, 0, 0, asks, a, b, 1, 0⟩ 3 noCame = (⟨4, 1, 1, 0, 0, 0, asks, a, b, 1, 1⟩, [⟨5, 1, [], noB⟩]) := by kernel_rfl

set_option maxHeartbeats 16000000 in
set_option maxRecDepth 100000 in
theorem negAdopts_any (a b : List Opt) (av bv : Value) (begun : Bool) (w : World) (ha : Opts w (fun _ => True) av a) (hb : Opts w (fun _ => True) bv b) (has : ∀ o ∈ a, o.v.size ≤ maxLen) (hbs : ∀ o ∈ b, o.v.size ≤ maxLen) :
    Calls Try.prog 8 #[av, bv, .bool begun] w fun e w' => e = .returned (.bool true) ∧ Below w.heap.size w w' := by
  have q1 : ∀ w a, (binOp .eql 23 (.pointer (some a)) (.pointer none)).run Try.prog w = .ok (.bool false) w := fun w a => by kernel_rfl
  have HA := Lib.hid (alive_any w)
  have hoa : Opts w (fun b => b < w.heap.size) av a := Rec.mono (Rec.old ha) (fun _ h => h.2)
  have hob : Opts w (fun b => b < w.heap.size) bv b := Rec.mono (Rec.old hb) (fun _ h => h.2)
  obtain ⟨sa, ca, rfl, -, hma⟩ := ha.form
  obtain ⟨sb, cb, rfl, -, hmb⟩ := hb.form
  clear ha hb
  by_cases h1 : 30 < a.length
  · have d1 : decide ((30 : Int) < (a.length : Int)) = true := by simp; omega
    generalize a.length = na at *
    clear hoa hob has hbs h1
    go_enter Try.func8, Try.ntmps8
    go_wp2_with (go_at_call 10; refine HA.out.mono ?_; rintro e w8 ⟨rfl, b8⟩)
    go_ret
    exact ⟨rfl, b8⟩
  have d1 : decide ((30 : Int) < (a.length : Int)) = false := by simp; omega
  by_cases h2 : 30 < b.length
  · have d2 : decide ((30 : Int) < (b.length : Int)) = true := by simp; omega
    generalize a.length = na at *
    generalize b.length = nb at *
    clear hoa hob has hbs h1 h2
    go_enter Try.func8, Try.ntmps8
    go_wp2_with (go_at_call 10; refine HA.out.mono ?_; rintro e w8 ⟨rfl, b8⟩)
    go_ret
    exact ⟨rfl, b8⟩
  have d2 : decide ((30 : Int) < (b.length : Int)) = false := by simp; omega
  have H := Lib.hid (And.intro hoa (And.intro hob (And.intro has (And.intro hbs (And.intro (show a.length ≤ 1000000 by omega) (show b.length ≤ 1000000 by omega))))))
  have P1 := Lib.hid (put_any' a _ _ w hoa H.out.2.2.2.2.1 has)
  clear hoa hob has hbs h1 h2 HA
  go_enter Try.func8, Try.ntmps8
  go_wp2_with fail
  refine P1.out.mono ?_
  rintro e w1 ⟨rfl, b1⟩
  have P2 := Lib.hid (put_any' b _ _ w1 (H.out.2.1.below b1) H.out.2.2.2.2.2 H.out.2.2.2.1)
  have B1 := Lib.hid b1
  clear b1
  go_wp2_with fail
  refine P2.out.mono ?_
  rintro e w2 ⟨rfl, b2⟩
  have B2 := Lib.hid (B1.out.trans (b2.mono B1.out.size))
  clear b2 P1 P2 B1 d1 d2
  have hx : ∃ x1 x2, x1 = putE a ∧ x2 = putE b := ⟨_, _, rfl, rfl⟩
  obtain ⟨x1, x2, hx1, hx2⟩ := hx
  rw [← hx1, ← hx2]
  have HX := Lib.hid (And.intro hx1 hx2)
  clear hx1 hx2
  generalize putS a = y1
  generalize putS b = y2
  go_wp2_with fail
  refine (setup_any _ _ _).mono ?_
  rintro e w3 ⟨b0, b1, b2, rfl, hs, hb⟩
  have HN2 := Lib.hid (newS _ _ b0 b1 b2 _ 5 3 2 hs (by decide) (by decide) (by decide) (by decide) (by kernel_rfl))
  have HB := Lib.hid (And.intro hb (B2.out.trans (hb.mono B2.out.size)))
  unfold setV at HN2 ⊢
  clear hs hb
  go_wp2_with fail
  refine HN2.out.mono ?_
  rintro e w4 ⟨v, rfl, B, jb, rfl, hv, hj, hjs, hjt, hb4⟩
  have hsB := HB.out.2.size
  have h4 : NegP w4 (fun b => w.heap.size ≤ b) B (CS jb 5 3 2) (st0 asks) jb := ⟨hv.mono (fun b hb => Nat.le_trans hsB hb), hj, hjt, Nat.le_trans hsB hjs, rfl⟩
  have HB4 := Lib.hid (HB.out.2.trans (hb4.mono hsB))
  have H4 := Lib.hid h4
  clear hv hj hjs hjt hb4 h4 hsB HN2
  cases begun with
  | true =>
    have D1 := Lib.hid (DoP noR 2 (by decide) H4.out)
    rw [eQ1] at D1
    go_wp2_with fail
    refine D1.out.mono ?_
    rintro e w5 ⟨v5, rfl, p5, h5, k5⟩
    have Q5 : NegQ w w5 B (CS jb 5 3 2) ⟨1, 0, 0, 0, 0, 0, asks, [], [], 0, 0⟩ jb := NegQ.ev HB4.out (fun b hb => hb) H4.out h5 k5
    obtain ⟨⟨S5, n5, m5⟩, b5⟩ := Q5
    have D2 := Lib.hid (And.intro (DoP noR 0 (by decide) n5) (And.intro n5 (And.intro m5 b5)))
    rw [eQ2 jb 5 3 2 asks (by omega)] at D2
    clear p5 h5 k5 n5 m5 b5
    go_wp2_with fail
    refine D2.out.1.mono ?_
    rintro e w6 ⟨v6, rfl, p6, h6, k6⟩
    have Q6 : NegQ w w6 B (CS jb 5 3 2) (sQ ((5 : Int) - 1) 0 1 1 asks) jb := NegQ.ev D2.out.2.2.2 D2.out.2.2.1 D2.out.2.1 h6 k6
    obtain ⟨⟨S6, n6, m6⟩, b6⟩ := Q6
    have N6 := Lib.hid (And.intro n6 b6)
    clear p6 h6 k6 n6 m6 b6
    go_wp2_with (first
      | (go_at_call 10; refine (alive_any _).mono ?_; rintro e w7 ⟨rfl, b7⟩
         have n7 := N6.out.1.below b7
         have N7 := Lib.hid (And.intro n7 (N6.out.2.trans (b7.mono N6.out.2.size)))
         clear b7 n7)
      | (go_at_call 28; refine (Adopt_late N7.out.1.1.choose_spec (by decide) _ _ _ _ _ _).mono ?_; rintro e w8 ⟨rfl, rfl⟩)
      | (go_at_call 20; refine (StateP N7.out.1).mono ?_; rintro e w8 ⟨rfl, rfl⟩))
    go_ret
    exact ⟨rfl, N7.out.2⟩
  | false =>
    by_cases hok : x1 = 0 ∧ x2 = 0
    · obtain ⟨rfl, rfl⟩ := hok
      obtain ⟨X, hX⟩ := H4.out.1
      have AD := Lib.hid (Adopt_ok hX rfl (by decide) a b _ _ (fun b => b < w.heap.size) (H.out.1.below HB4.out) (H.out.2.1.below HB4.out) H.out.2.2.2.2.1 H.out.2.2.2.2.2 H.out.2.2.1 H.out.2.2.2.1 ⟨HX.out.1.symm, HX.out.2.symm⟩
        (fun b hb ht => by have h1 : w.heap.size ≤ b := H4.out.ts ht; omega))
      clear hX
      go_wp2_with fail
      refine AD.out.mono ?_
      rintro e w5 ⟨rfl, h5, k5⟩
      have n5 : NegP w5 (Grow (fun b => w.heap.size ≤ b) w4) B (CS jb 5 3 2) ⟨9, 0, 0, 0, 0, 0, asks, a, b, 1, 0⟩ jb := ⟨h5, (k5.block _ H4.out.2.1.lt H4.out.2.2.1).trans H4.out.2.1, H4.out.2.2.1, .inl H4.out.2.2.2.1, rfl⟩
      have Q5 := NegQ.ev (r := (⟨9, 0, 0, 0, 0, 0, asks, a, b, 1, 0⟩, [])) HB4.out (fun b hb => hb) H4.out n5 k5
      obtain ⟨⟨S5, m5, l5⟩, b5⟩ := Q5
      have N5 := Lib.hid (And.intro m5 (And.intro l5 b5))
      clear h5 k5 n5 m5 l5 b5 AD
      have UP := Lib.hid (Ups_at N5.out.1.1.choose_spec)
      go_wp2_with fail
      refine UP.out.mono ?_
      rintro e w6 ⟨rfl, b6⟩
      have N6 := Lib.hid (And.intro (N5.out.1.below b6) (And.intro N5.out.2.1 (N5.out.2.2.trans (b6.mono N5.out.2.2.size))))
      clear b6 UP
      go_wp2_with (first
        | (go_at_call 19; refine (same_any b b _ _ (fun b => w8.heap.size ≤ b) (fun b => b < w.heap.size) _ (M9.out.1.opts (by have := H.out.2.2.2.2.2; unfold maxLen; omega)) (H.out.2.1.below M9.out.2.2.2) H.out.2.2.2.2.2).mono ?_; rintro e w10 ⟨z10, rfl, hz10, b10⟩
           obtain rfl : z10 = true := hz10.2 rfl
           have N10 := Lib.hid (And.intro (M9.out.2.1.below b10) (And.intro M9.out.2.2.1 (M9.out.2.2.2.trans (b10.mono M9.out.2.2.2.size))))
           clear b10 hz10)
        | (go_at_call 22; refine (TheirsP N8.out.1).mono ?_; rintro e w9 ⟨v9, rfl, m9, b9⟩
           have m9' : ORow w9 w8.heap.size v9 b := m9
           obtain ⟨ga9, gc9, rfl⟩ := m9'.form
           have M9 := Lib.hid (And.intro m9' (And.intro (N8.out.1.below b9) (And.intro N8.out.2.1 (N8.out.2.2.trans (b9.mono N8.out.2.2.size)))))
           clear m9 m9' b9)
        | (go_at_call 19; refine (same_any a a _ _ (fun b => w6.heap.size ≤ b) (fun b => b < w.heap.size) _ (M7.out.1.opts (by have := H.out.2.2.2.2.1; unfold maxLen; omega)) (H.out.1.below M7.out.2.2.2) H.out.2.2.2.2.1).mono ?_; rintro e w8 ⟨z8, rfl, hz8, b8⟩
           obtain rfl : z8 = true := hz8.2 rfl
           have N8 := Lib.hid (And.intro (M7.out.2.1.below b8) (And.intro M7.out.2.2.1 (M7.out.2.2.2.trans (b8.mono M7.out.2.2.2.size))))
           clear b8 hz8)
        | (go_at_call 20; refine (StateP N6.out.1).mono ?_; rintro e w7 ⟨rfl, rfl⟩)
        | (go_at_call 21; refine (MineP N6.out.1).mono ?_; rintro e w7 ⟨v7, rfl, m7, b7⟩
           have m7' : ORow w7 w6.heap.size v7 a := m7
           obtain ⟨ga7, gc7, rfl⟩ := m7'.form
           have M7 := Lib.hid (And.intro m7' (And.intro (N6.out.1.below b7) (And.intro N6.out.2.1 (N6.out.2.2.trans (b7.mono N6.out.2.2.size)))))
           clear m7 m7' b7))
      have D3 := Lib.hid (DoP noR 3 (by decide) N10.out.1)
      rw [eD1] at D3
      refine D3.out.mono ?_
      rintro e w11 ⟨v11, rfl, p11, h11, k11⟩
      have Q11 := NegQ.ev N10.out.2.2 N10.out.2.1 N10.out.1 h11 k11
      obtain ⟨⟨S11, n11, m11⟩, b11⟩ := Q11
      obtain ⟨gb, cb', po11, rfl, gb1, gb2, gb3, gb4, xb0, -⟩ := p11.at0
      have N11 := Lib.hid (And.intro n11 b11)
      clear p11 h11 k11 n11 m11 b11 D3
      go_wp2_with (first
        | (go_at_call 10; refine (alive_any _).mono ?_; rintro e w12 ⟨rfl, b12⟩
           have z0 := (b12.cell (p := ⟨gb, 0, none⟩) gb2).trans xb0
           have N12 := Lib.hid (And.intro (N11.out.1.below b12) (N11.out.2.trans (b12.mono N11.out.2.size)))
           clear b12)
        | (go_at_call 20; refine (StateP N12.out.1).mono ?_; rintro e w13 ⟨rfl, rfl⟩)
        | (go_at_call 21; refine (MineP N12.out.1).mono ?_; rintro e w13 ⟨v13, rfl, m13, b13⟩
           have m13' : ORow w13 w12.heap.size v13 [] := m13
           obtain ⟨ga13, gc13, rfl⟩ := m13'.form
           have N13 := Lib.hid (N12.out.2.trans (b13.mono N12.out.2.size))
           clear m13 m13' b13))
      go_ret
      exact ⟨rfl, N13.out⟩
    · have hbad : putE a ≠ 0 ∨ putE b ≠ 0 := by have := HX.out.1; have := HX.out.2; omega
      have AD := Lib.hid (Adopt_bad H4.out.1.choose_spec rfl a b _ _ (fun b => b < w.heap.size) (H.out.1.below HB4.out) (H.out.2.1.below HB4.out) H.out.2.2.2.2.1 H.out.2.2.2.2.2 H.out.2.2.1 H.out.2.2.2.1 hbad)
      clear hbad
      go_wp2_with fail
      refine AD.out.mono ?_
      rintro e w5 ⟨⟨x, rfl, hx⟩, b5⟩
      have N5 := Lib.hid (And.intro (H4.out.below b5) (HB4.out.trans (b5.mono HB4.out.size)))
      have dx : (x != 0) = true := by simp [hx]
      have hc : x1 ≠ 0 ∨ (x1 = 0 ∧ x2 ≠ 0) := by omega
      clear b5 hx hok HX AD
      rcases hc with hc | ⟨rfl, hc⟩
      · have d1 : (x1 != 0) = true := by simp [hc]
        clear hc
        go_wp2_with (first
          | (go_at_call 10; refine (alive_any _).mono ?_; rintro e w6 ⟨rfl, b6⟩
             have N6 := Lib.hid (And.intro (N5.out.1.below b6) (N5.out.2.trans (b6.mono N5.out.2.size)))
             clear b6)
          | (go_at_call 20; refine (StateP N6.out.1).mono ?_; rintro e w7 ⟨rfl, rfl⟩))
        go_ret
        exact ⟨rfl, N6.out.2⟩
      · have d1 : (x2 != 0) = true := by simp [hc]
        clear hc
        go_wp2_with (first
          | (go_at_call 10; refine (alive_any _).mono ?_; rintro e w6 ⟨rfl, b6⟩
             have N6 := Lib.hid (And.intro (N5.out.1.below b6) (N5.out.2.trans (b6.mono N5.out.2.size)))
             clear b6)
          | (go_at_call 20; refine (StateP N6.out.1).mono ?_; rintro e w7 ⟨rfl, rfl⟩))
        go_ret
        exact ⟨rfl, N6.out.2⟩
end Go.Proofs.Ytidlldfppoelnaa
