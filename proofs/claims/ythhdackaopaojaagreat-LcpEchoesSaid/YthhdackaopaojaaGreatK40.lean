import Derived.Test.YthhdackaopaojaaGreatK39
/- Echoes: the walk. -/
namespace Go.Proofs.YthhdackaopaojaaGreat
open Go.RowKit Go.Tg Go.Maps

def cfgE (n : Int) : LCfg := ⟨1492, 49699, 7, n, 5, 2, 5, 3⟩
theorem optsE (n : Int) : optsS (cfgE n) = opts12 := by kernel_rfl
theorem syncE (n : Int) (t : TpS) : (lst0 (cfgE n) t).Sync := lst0_sync _ _ (.inr ⟨⟨5, magic7⟩, by rw [optsE]; rfl, by decide, by show valB magic7.data.toList = 7; kernel_rfl⟩)
theorem EInv.le {b : Bool} {E k a : Nat} {s : LSt} (h : EInv b E k a s) (hk : k ≤ 8 * E) (h1 : 1 ≤ E) : a ≤ 8 * E := by
  rcases h with ⟨-, -, j, hj, -⟩ | ⟨-, ha, -, -⟩
  · have : a * 1 ≤ a * E := Nat.mul_le_mul_left a h1
    omega
  · omega
theorem EInv.t9 {E k a : Nat} {s : LSt} (h : EInv true E k a s) : s.st.s = 9 := by
  rcases h with ⟨h, -⟩ | ⟨h, -⟩
  · exact h
  · cases h
theorem EInv.f9 {E k a : Nat} {s : LSt} (h : EInv false E k a s) (_h1 : 1 ≤ E) : (s.st.s = 9 ∧ k < 4 * E) ∨ (s.st.s ≠ 9 ∧ 4 * E ≤ k) := by
  rcases h with ⟨h, -, j, hj, hjE, -, -, ha⟩ | ⟨-, ha, hk, hs⟩
  · left
    refine ⟨h, ?_⟩
    have : a * E ≤ 3 * E := Nat.mul_le_mul_right E (ha rfl)
    omega
  · right
    exact ⟨by omega, hk⟩
theorem EInv.t8 {E a : Nat} {s : LSt} (h : EInv true E (8 * E) a s) (h1 : 1 ≤ E) : a = 8 := by
  rcases h with ⟨-, -, j, hj, hjE, -⟩ | ⟨h, -⟩
  · by_cases h7 : a ≤ 7
    · have : a * E ≤ 7 * E := Nat.mul_le_mul_right E h7
      omega
    · by_cases h9 : 9 ≤ a
      · have : 9 * E ≤ a * E := Nat.mul_le_mul_right E h9
        omega
      · omega
  · cases h
theorem EInv.f3 {E a : Nat} {s : LSt} (h : EInv false E (8 * E) a s) (_h1 : 1 ≤ E) : a = 3 := by
  rcases h with ⟨-, -, j, hj, hjE, -, -, ha⟩ | ⟨-, ha, -⟩
  · have : a * E ≤ 3 * E := Nat.mul_le_mul_right E (ha rfl)
    omega
  · exact ha
theorem LK.Take10 {w0 w : World} {L : LB} {C : NegC} {echo : Int} {s : LSt} (h : LK w0 w L C echo s) (hs : s.st.s = 9) (pi : Int) :
    Calls Tryz.prog 15 #[.pointer (some ⟨L.lb, 0, none⟩), .agg #[.int .i64 10, .int .i64 pi, .slice none 0 0, .string ⟨#[]⟩]] w fun e w' => e = .returned (.slice none 0 0) ∧ LK w0 w' L C echo { s with missed := 0 } := by
  obtain ⟨S, ok, X, hv, hu⟩ := h.v
  refine (LTake10_at hv hs pi).mono ?_
  rintro e w' ⟨h1, h2, h3⟩
  exact ⟨h1, ⟨_, _, _, h2, hu⟩, h.b.trans (h3.below h.b.size (fun b hb he => by have := (h.nt (b := b) (.inr (.inl he))).1; omega))⟩

set_option maxHeartbeats 16000000 in
set_option maxRecDepth 100000 in
theorem lcpEchoes_any (n : Int) (b : Bool) (w : World) :
    Calls Tryz.prog 8 #[.int .i64 n, .bool b] w fun e w' => e = .returned (.bool true) ∧ Below w.heap.size w w' := by
  have q1 : ∀ w a, (binOp .eql 27 (.pointer (some a)) (.pointer none)).run Tryz.prog w = .ok (.bool false) w := fun w a => by kernel_rfl
  have HAL := Lib.hid lalive_any
  by_cases hn1 : n < 1
  · have d1 : decide (n < 1) = true := by simpa using hn1
    clear hn1
    go_enter Tryz.func8, Tryz.ntmps8
    go_wp2_with (go_at_call 11; refine (HAL.out _).mono ?_; rintro e w2 ⟨rfl, b2⟩)
    go_ret
    exact ⟨rfl, b2⟩
  · have d1 : decide (n < 1) = false := by simpa using hn1
    by_cases hn2 : (20 : Int) < n
    · have d2 : decide ((20 : Int) < n) = true := by simpa using hn2
      clear hn1 hn2
      go_enter Tryz.func8, Tryz.ntmps8
      go_wp2_with (go_at_call 11; refine (HAL.out _).mono ?_; rintro e w2 ⟨rfl, b2⟩)
      go_ret
      exact ⟨rfl, b2⟩
    · have d2 : decide ((20 : Int) < n) = false := by simpa using hn2
      obtain ⟨E, rfl⟩ : ∃ E : Nat, n = (E : Int) := ⟨n.toNat, by omega⟩
      have h1 : 1 ≤ E := by omega
      have h20 : E ≤ 20 := by omega
      have hcok : (cfgE (E : Int)).Ok := ⟨by show (64 : Int) ≤ 1492 ∧ (1492 : Int) ≤ 1492; decide, .inr (.inr rfl), by show (0 : Int) ≤ 7 ∧ (7 : Int) ≤ 4294967295; decide, by show (0 : Int) ≤ (E : Int) ∧ (E : Int) ≤ 100; omega, by show inB20 5 = true; decide, by show inB20 2 = true; decide, by show (0 : Int) ≤ 5 ∧ (5 : Int) ≤ 20; decide, by show (1 : Int) ≤ 3 ∧ (3 : Int) ≤ 100; decide⟩
      have hNW : ∀ W, Calls Tryz.prog 12 #[.agg #[.int .i64 1492, .int .i64 49699, .int .i64 7, .int .i64 (E : Int), .int .i64 5, .int .i64 2, .int .i64 5, .int .i64 3], .pointer none] W fun e w' => ∃ L, e = .returned (.tuple #[.pointer (some ⟨L.lb, 0, none⟩), .int .i64 0]) ∧ LK W w' L (CE L.lb) (E : Int) (lst0 (cfgE (E : Int)) ⟨[], 0⟩) := fun W => by
        refine (lnew_nil (cfgE (E : Int)) hcok W).mono ?_
        rintro e w' ⟨tb, okt, g1, g2, g3⟩
        exact LK.made g1 (Below.refl _ _) g2 g3
      have hOE : ∀ W, Calls Tryz.prog 18 #[.agg #[.int .i64 1492, .int .i64 49699, .int .i64 7, .int .i64 (E : Int), .int .i64 5, .int .i64 2, .int .i64 5, .int .i64 3]] W fun e w' => ∃ v, e = .returned v ∧ ORow w' W.heap.size v opts12 ∧ Below W.heap.size W w' := fun W => by
        have := lopts_any (cfgE (E : Int)) W (by show I64 49699; unfold I64; decide)
        rwa [optsE] at this
      have HNW := Lib.hid hNW
      have HOE := Lib.hid hOE
      have hw8 : wrap64 (8 * (E : Int)) = 8 * (E : Int) := by unfold wrap64; omega
      have hw4 : wrap64 (4 * (E : Int)) = 4 * (E : Int) := by unfold wrap64; omega
      clear hn1 hn2 hNW hOE hcok
      cases b with
      | true =>
        go_enter Tryz.func8, Tryz.ntmps8
        go_wp2_with fail
        refine (config_any _).mono ?_
        rintro e w1 ⟨rfl, b1⟩
        have HB1 := Lib.hid b1
        clear b1
        have hb2 : Below w.heap.size w (w1.alloc (.cells #[.int .i64 1492, .int .i64 49699, .int .i64 7, .int .i64 (E : Int), .int .i64 5, .int .i64 2, .int .i64 5, .int .i64 3] 24 (0, 0))) := HB1.out.alloc HB1.out.size _
        have hz2 := at1 w1 (.cells #[.int .i64 1492, .int .i64 49699, .int .i64 7, .int .i64 (E : Int), .int .i64 5, .int .i64 2, .int .i64 5, .int .i64 3] 24 (0, 0))
        have hs2 := alloc1 w1 (.cells #[.int .i64 1492, .int .i64 49699, .int .i64 7, .int .i64 (E : Int), .int .i64 5, .int .i64 2, .int .i64 5, .int .i64 3] 24 (0, 0))
        have HB2 := Lib.hid (And.intro hb2 (And.intro hz2 hs2))
        clear hb2 hz2 hs2
        go_wp2_with fail
        refine (HNW.out _).mono ?_
        rintro e w3 ⟨L, rfl, l3⟩
        have z3 : w3.heap[w1.heap.size]? = some (.cells #[.int .i64 1492, .int .i64 49699, .int .i64 7, .int .i64 (E : Int), .int .i64 5, .int .i64 2, .int .i64 5, .int .i64 3] 24 (0, 0)) := (l3.b.block w1.heap.size (by rw [HB2.out.2.2]; omega)).trans HB2.out.2.1
        have x0 := cellOf z3 0 _ rfl
        have x1 := cellOf z3 1 _ rfl
        have x2 := cellOf z3 2 _ rfl
        have x3 := cellOf z3 3 _ rfl
        have x4 := cellOf z3 4 _ rfl
        have x5 := cellOf z3 5 _ rfl
        have x6 := cellOf z3 6 _ rfl
        have x7 := cellOf z3 7 _ rfl
        have HK3 := Lib.hid (show LK w w3 L (CE L.lb) (E : Int) (lst0 (cfgE (E : Int)) ⟨[], 0⟩) from ⟨l3.v.mono (fun b hb => Nat.le_trans HB2.out.1.size hb), HB2.out.1.trans (l3.b.mono HB2.out.1.size)⟩)
        clear l3 z3
        go_wp2_with fail
        refine (HOE.out _).mono ?_
        rintro e w4 ⟨v4, rfl, r4, b4⟩
        obtain ⟨sa, ca, rfl⟩ := r4.form
        have HAD := Lib.hid ((HK3.out.below b4).Adopt rfl ⟨by show (0 : Int) ≤ 0; decide, by show (0 : Int) ≤ 1000000000; decide⟩ opts12 [] _ (.slice none 0 0) (r4.opts (by unfold maxLen; decide)) (Rec.nil _ _ _) (by decide) (by decide) (by decide) (fun _ h => by cases h) ⟨by decide, by decide⟩ (fun b hb ht => by have := (HK3.out.nt ht).2; omega))
        clear r4 b4 x0 x1 x2 x3 x4 x5 x6 x7
        go_wp2_with fail
        refine HAD.out.mono ?_
        rintro e w5 ⟨rfl, l5, -⟩
        have HI := Lib.hid (show ∃ s, EInv true E 0 0 s ∧ LK w w5 L (CE L.lb) (E : Int) s from ⟨_, .inl ⟨rfl, adoptL_sync (syncE _ _) _ _, 0, by omega, by omega, rfl, rfl, fun _ => by omega⟩, l5⟩)
        clear l5 HAD HK3 HB2
        go_wp2_with fail
        go_loopg [8, 9] (8 * E) (fun x am i wr => ∃ k a : Nat, k ≤ 8 * E ∧ x = 8 * E - k ∧ am = .int .i64 a ∧ i = .int .i64 k ∧ Hid (∃ s, EInv true E k a s ∧ LK w wr L (CE L.lb) (E : Int) s))
        case atStart => exact ⟨0, 0, by omega, by omega, rfl, rfl, HI.out⟩
        case round =>
          obtain ⟨k, a, hk, rfl, rfl, rfl, hK⟩ := hrel
          by_cases hkl : k < 8 * E
          · obtain ⟨s, hI, hL⟩ := hK.out
            have hab : a ≤ 8 * E := EInv.le hI hk h1
            obtain ⟨s', l, hT, hcase⟩ := tickE L.lb true E k a s h1 h20 hI hkl
            have HT := Lib.hid (hT w wr L hL)
            clear hK hI hL hT
            have e8 : decide ((k : Int) < 8 * (E : Int)) = true := by simp; omega
            rcases hcase with ⟨rfl, hI'⟩ | ⟨id, d, rfl, hs9, hI'⟩ | ⟨hb, p, rfl, hp9, hI'⟩
            · have hss : (s').st.s = 9 := EInv.t9 hI'
              have HI2 := Lib.hid hI'
              clear hI'
              go_wp2_with fail
              refine HT.out.mono ?_
              rintro e w2 ⟨v2, rfl, p2, l2, -⟩
              obtain ⟨oa, oc, rfl⟩ := p2.form
              rw [List.length_nil] at *
              have HL2 := Lib.hid l2
              have HST := Lib.hid l2.State
              rw [hss] at HST
              clear p2 l2
              go_wp2_with fail
              refine wp_loop_rounds 1 ?_
              rw [rounds_succ]
              go_wp2_with (go_at_call 16; refine HST.out.mono ?_; rintro e _ ⟨rfl, rfl⟩)
              go_roundg (8 * E - (k + 1))
              case measure => omega
              case rel => exact ⟨k + 1, a, by omega, rfl, rfl, by go_num, _, HI2.out, HL2.out⟩
            · rw [if_pos rfl] at hI'
              have hss : ({ s' with missed := 0 }).st.s = 9 := EInv.t9 hI'
              have HI2 := Lib.hid hI'
              clear hI'
              go_wp2_with fail
              refine HT.out.mono ?_
              rintro e w2 ⟨v2, rfl, p2, l2, -⟩
              obtain ⟨g, cap, po, rfl, -, -, hc1, hc2, z0, z1, -, -, -⟩ := p2.at0
              unfold maxLen at hc2
              rw [List.length_nil] at *
              try dsimp only at z0 z1
              have HTK := Lib.hid (l2.Take10 hs9 id)
              clear p2 l2
              go_wp2_with fail
              refine wp_loop_rounds 2 ?_
              rw [rounds_succ]
              go_wp2_with (go_at_call 15; refine HTK.out.mono ?_; rintro e w3 ⟨rfl, l3⟩
                           have HL2 := Lib.hid l3
                           have HST := Lib.hid l3.State
                           rw [hss] at HST
                           clear l3)
              rw [rounds_succ]
              go_wp2_with (go_at_call 16; refine HST.out.mono ?_; rintro e _ ⟨rfl, rfl⟩)
              go_roundg (8 * E - (k + 1))
              case measure => omega
              case rel => exact ⟨k + 1, (a + 1), by omega, rfl, by go_num, by go_num, _, HI2.out, HL2.out⟩
            · cases hb
          · obtain rfl : k = 8 * E := by omega
            obtain ⟨s, hI, hL⟩ := hK.out
            have ha : a = 8 := EInv.t8 hI h1
            subst ha
            have e8 : decide (((8 * E : Nat) : Int) < 8 * (E : Int)) = false := by simp
            have HL := Lib.hid hL.b
            clear hK hI hL
            go_wp2_with (go_at_call 11; refine (HAL.out _).mono ?_; rintro e w8 ⟨rfl, b8⟩)
            go_ret
            exact ⟨rfl, HL.out.trans (b8.mono HL.out.size)⟩
      | false =>
        go_enter Tryz.func8, Tryz.ntmps8
        go_wp2_with fail
        refine (config_any _).mono ?_
        rintro e w1 ⟨rfl, b1⟩
        have HB1 := Lib.hid b1
        clear b1
        have hb2 : Below w.heap.size w (w1.alloc (.cells #[.int .i64 1492, .int .i64 49699, .int .i64 7, .int .i64 (E : Int), .int .i64 5, .int .i64 2, .int .i64 5, .int .i64 3] 24 (0, 0))) := HB1.out.alloc HB1.out.size _
        have hz2 := at1 w1 (.cells #[.int .i64 1492, .int .i64 49699, .int .i64 7, .int .i64 (E : Int), .int .i64 5, .int .i64 2, .int .i64 5, .int .i64 3] 24 (0, 0))
        have hs2 := alloc1 w1 (.cells #[.int .i64 1492, .int .i64 49699, .int .i64 7, .int .i64 (E : Int), .int .i64 5, .int .i64 2, .int .i64 5, .int .i64 3] 24 (0, 0))
        have HB2 := Lib.hid (And.intro hb2 (And.intro hz2 hs2))
        clear hb2 hz2 hs2
        go_wp2_with fail
        refine (HNW.out _).mono ?_
        rintro e w3 ⟨L, rfl, l3⟩
        have z3 : w3.heap[w1.heap.size]? = some (.cells #[.int .i64 1492, .int .i64 49699, .int .i64 7, .int .i64 (E : Int), .int .i64 5, .int .i64 2, .int .i64 5, .int .i64 3] 24 (0, 0)) := (l3.b.block w1.heap.size (by rw [HB2.out.2.2]; omega)).trans HB2.out.2.1
        have x0 := cellOf z3 0 _ rfl
        have x1 := cellOf z3 1 _ rfl
        have x2 := cellOf z3 2 _ rfl
        have x3 := cellOf z3 3 _ rfl
        have x4 := cellOf z3 4 _ rfl
        have x5 := cellOf z3 5 _ rfl
        have x6 := cellOf z3 6 _ rfl
        have x7 := cellOf z3 7 _ rfl
        have HK3 := Lib.hid (show LK w w3 L (CE L.lb) (E : Int) (lst0 (cfgE (E : Int)) ⟨[], 0⟩) from ⟨l3.v.mono (fun b hb => Nat.le_trans HB2.out.1.size hb), HB2.out.1.trans (l3.b.mono HB2.out.1.size)⟩)
        clear l3 z3
        go_wp2_with fail
        refine (HOE.out _).mono ?_
        rintro e w4 ⟨v4, rfl, r4, b4⟩
        obtain ⟨sa, ca, rfl⟩ := r4.form
        have HAD := Lib.hid ((HK3.out.below b4).Adopt rfl ⟨by show (0 : Int) ≤ 0; decide, by show (0 : Int) ≤ 1000000000; decide⟩ opts12 [] _ (.slice none 0 0) (r4.opts (by unfold maxLen; decide)) (Rec.nil _ _ _) (by decide) (by decide) (by decide) (fun _ h => by cases h) ⟨by decide, by decide⟩ (fun b hb ht => by have := (HK3.out.nt ht).2; omega))
        clear r4 b4 x0 x1 x2 x3 x4 x5 x6 x7
        go_wp2_with fail
        refine HAD.out.mono ?_
        rintro e w5 ⟨rfl, l5, -⟩
        have HI := Lib.hid (show ∃ s, EInv false E 0 0 s ∧ LK w w5 L (CE L.lb) (E : Int) s from ⟨_, .inl ⟨rfl, adoptL_sync (syncE _ _) _ _, 0, by omega, by omega, rfl, rfl, fun _ => by omega⟩, l5⟩)
        clear l5 HAD HK3 HB2
        go_wp2_with fail
        go_loopg [8, 9] (8 * E) (fun x am i wr => ∃ k a : Nat, k ≤ 8 * E ∧ x = 8 * E - k ∧ am = .int .i64 a ∧ i = .int .i64 k ∧ Hid (∃ s, EInv false E k a s ∧ LK w wr L (CE L.lb) (E : Int) s))
        case atStart => exact ⟨0, 0, by omega, by omega, rfl, rfl, HI.out⟩
        case round =>
          obtain ⟨k, a, hk, rfl, rfl, rfl, hK⟩ := hrel
          by_cases hkl : k < 8 * E
          · obtain ⟨s, hI, hL⟩ := hK.out
            have hab : a ≤ 8 * E := EInv.le hI hk h1
            obtain ⟨s', l, hT, hcase⟩ := tickE L.lb false E k a s h1 h20 hI hkl
            have HT := Lib.hid (hT w wr L hL)
            clear hK hI hL hT
            have e8 : decide ((k : Int) < 8 * (E : Int)) = true := by simp; omega
            rcases hcase with ⟨rfl, hI'⟩ | ⟨id, d, rfl, hs9, hI'⟩ | ⟨hb, p, rfl, hp9, hI'⟩
            · have HI2 := Lib.hid hI'
              rcases EInv.f9 hI' h1 with ⟨hss, h4⟩ | ⟨hss, h4⟩
              · have e4 : decide (4 * (E : Int) ≤ (k : Int) + 1) = false := by simp; omega
                have e5 : decide ((k : Int) + 1 < 4 * (E : Int)) = true := by simp; omega
                clear hI' h4
                go_wp2_with fail
                refine HT.out.mono ?_
                rintro e w2 ⟨v2, rfl, p2, l2, -⟩
                obtain ⟨oa, oc, rfl⟩ := p2.form
                rw [List.length_nil] at *
                have HL2 := Lib.hid l2
                have HST := Lib.hid l2.State
                rw [hss] at HST
                clear p2 l2
                go_wp2_with fail
                refine wp_loop_rounds 1 ?_
                rw [rounds_succ]
                go_wp2_with (go_at_call 16; refine HST.out.mono ?_; rintro e _ ⟨rfl, rfl⟩)
                go_roundg (8 * E - (k + 1))
                case measure => omega
                case rel => exact ⟨k + 1, a, by omega, rfl, rfl, by go_num, _, HI2.out, HL2.out⟩
              · have e4 : decide (4 * (E : Int) ≤ (k : Int) + 1) = true := by simp; omega
                have e5 : decide ((k : Int) + 1 < 4 * (E : Int)) = false := by simp; omega
                have e9 : ((s').st.s == 9) = false := by simpa using hss
                clear hI' h4 hss
                obtain ⟨ss, hss⟩ : ∃ ss, (s').st.s = ss := ⟨_, rfl⟩
                rw [hss] at e9
                go_wp2_with fail
                refine HT.out.mono ?_
                rintro e w2 ⟨v2, rfl, p2, l2, -⟩
                obtain ⟨oa, oc, rfl⟩ := p2.form
                rw [List.length_nil] at *
                have HL2 := Lib.hid l2
                have HST := Lib.hid l2.State
                rw [hss] at HST
                clear p2 l2
                go_wp2_with fail
                refine wp_loop_rounds 1 ?_
                rw [rounds_succ]
                go_wp2_with (go_at_call 16; refine HST.out.mono ?_; rintro e _ ⟨rfl, rfl⟩)
                go_roundg (8 * E - (k + 1))
                case measure => omega
                case rel => exact ⟨k + 1, a, by omega, rfl, rfl, by go_num, _, HI2.out, HL2.out⟩
            · rw [if_neg (by decide)] at hI'
              have HI2 := Lib.hid hI'
              rcases EInv.f9 hI' h1 with ⟨hss, h4⟩ | ⟨hss, h4⟩
              · have e4 : decide (4 * (E : Int) ≤ (k : Int) + 1) = false := by simp; omega
                have e5 : decide ((k : Int) + 1 < 4 * (E : Int)) = true := by simp; omega
                clear hI' h4
                go_wp2_with fail
                refine HT.out.mono ?_
                rintro e w2 ⟨v2, rfl, p2, l2, -⟩
                obtain ⟨g, cap, po, rfl, -, -, hc1, hc2, z0, z1, -, -, -⟩ := p2.at0
                unfold maxLen at hc2
                rw [List.length_nil] at *
                try dsimp only at z0 z1
                have HL2 := Lib.hid l2
                have HST := Lib.hid l2.State
                rw [hss] at HST
                clear p2 l2
                go_wp2_with fail
                refine wp_loop_rounds 2 ?_
                rw [rounds_succ]
                go_wp2_with fail
                rw [rounds_succ]
                go_wp2_with (go_at_call 16; refine HST.out.mono ?_; rintro e _ ⟨rfl, rfl⟩)
                go_roundg (8 * E - (k + 1))
                case measure => omega
                case rel => exact ⟨k + 1, (a + 1), by omega, rfl, by go_num, by go_num, _, HI2.out, HL2.out⟩
              · have e4 : decide (4 * (E : Int) ≤ (k : Int) + 1) = true := by simp; omega
                have e5 : decide ((k : Int) + 1 < 4 * (E : Int)) = false := by simp; omega
                have e9 : ((s').st.s == 9) = false := by simpa using hss
                clear hI' h4 hss
                obtain ⟨ss, hss⟩ : ∃ ss, (s').st.s = ss := ⟨_, rfl⟩
                rw [hss] at e9
                go_wp2_with fail
                refine HT.out.mono ?_
                rintro e w2 ⟨v2, rfl, p2, l2, -⟩
                obtain ⟨g, cap, po, rfl, -, -, hc1, hc2, z0, z1, -, -, -⟩ := p2.at0
                unfold maxLen at hc2
                rw [List.length_nil] at *
                try dsimp only at z0 z1
                have HL2 := Lib.hid l2
                have HST := Lib.hid l2.State
                rw [hss] at HST
                clear p2 l2
                go_wp2_with fail
                refine wp_loop_rounds 2 ?_
                rw [rounds_succ]
                go_wp2_with fail
                rw [rounds_succ]
                go_wp2_with (go_at_call 16; refine HST.out.mono ?_; rintro e _ ⟨rfl, rfl⟩)
                go_roundg (8 * E - (k + 1))
                case measure => omega
                case rel => exact ⟨k + 1, (a + 1), by omega, rfl, by go_num, by go_num, _, HI2.out, HL2.out⟩
            · have HI2 := Lib.hid hI'
              rcases EInv.f9 hI' h1 with ⟨hss, h4⟩ | ⟨hss, h4⟩
              · have e4 : decide (4 * (E : Int) ≤ (k : Int) + 1) = false := by simp; omega
                have e5 : decide ((k : Int) + 1 < 4 * (E : Int)) = true := by simp; omega
                clear hI' h4
                go_wp2_with fail
                refine HT.out.mono ?_
                rintro e w2 ⟨v2, rfl, p2, l2, -⟩
                obtain ⟨g, cap, po, rfl, -, -, hc1, hc2, z0, z1, -, -, -⟩ := p2.at0
                unfold maxLen at hc2
                rw [List.length_nil] at *
                try dsimp only at z0 z1
                have HL2 := Lib.hid l2
                have HST := Lib.hid l2.State
                rw [hss] at HST
                clear p2 l2
                have hp9' : (p.code == 9) = false := by simpa using hp9
                clear hp9
                go_wp2_with fail
                refine wp_loop_rounds 2 ?_
                rw [rounds_succ]
                go_wp2_with fail
                rw [rounds_succ]
                go_wp2_with (go_at_call 16; refine HST.out.mono ?_; rintro e _ ⟨rfl, rfl⟩)
                go_roundg (8 * E - (k + 1))
                case measure => omega
                case rel => exact ⟨k + 1, a, by omega, rfl, rfl, by go_num, _, HI2.out, HL2.out⟩
              · have e4 : decide (4 * (E : Int) ≤ (k : Int) + 1) = true := by simp; omega
                have e5 : decide ((k : Int) + 1 < 4 * (E : Int)) = false := by simp; omega
                have e9 : ((s').st.s == 9) = false := by simpa using hss
                clear hI' h4 hss
                obtain ⟨ss, hss⟩ : ∃ ss, (s').st.s = ss := ⟨_, rfl⟩
                rw [hss] at e9
                go_wp2_with fail
                refine HT.out.mono ?_
                rintro e w2 ⟨v2, rfl, p2, l2, -⟩
                obtain ⟨g, cap, po, rfl, -, -, hc1, hc2, z0, z1, -, -, -⟩ := p2.at0
                unfold maxLen at hc2
                rw [List.length_nil] at *
                try dsimp only at z0 z1
                have HL2 := Lib.hid l2
                have HST := Lib.hid l2.State
                rw [hss] at HST
                clear p2 l2
                have hp9' : (p.code == 9) = false := by simpa using hp9
                clear hp9
                go_wp2_with fail
                refine wp_loop_rounds 2 ?_
                rw [rounds_succ]
                go_wp2_with fail
                rw [rounds_succ]
                go_wp2_with (go_at_call 16; refine HST.out.mono ?_; rintro e _ ⟨rfl, rfl⟩)
                go_roundg (8 * E - (k + 1))
                case measure => omega
                case rel => exact ⟨k + 1, a, by omega, rfl, rfl, by go_num, _, HI2.out, HL2.out⟩
          · obtain rfl : k = 8 * E := by omega
            obtain ⟨s, hI, hL⟩ := hK.out
            have ha : a = 3 := EInv.f3 hI h1
            subst ha
            have e8 : decide (((8 * E : Nat) : Int) < 8 * (E : Int)) = false := by simp
            have HL := Lib.hid hL.b
            clear hK hI hL
            go_wp2_with (go_at_call 11; refine (HAL.out _).mono ?_; rintro e w8 ⟨rfl, b8⟩)
            go_ret
            exact ⟨rfl, HL.out.trans (b8.mono HL.out.size)⟩
end Go.Proofs.YthhdackaopaojaaGreat
