import Derived.Test.YtidlldfppoelnaaV40
import Derived.Test.YtidlldfppoelnaaTgHeld
namespace Go.Proofs.Ytidlldfppoelnaa
open Go.RowKit Go.Tg Go.Maps

set_option maxHeartbeats 16000000 in
set_option maxRecDepth 100000 in
theorem negOrder_any (rv lv : Value) (r : List Rl) (l : List Opt) (w : World) (hr : Rls w (fun _ => True) rv r) (hrs : ∀ o ∈ r, o.s.size ≤ maxLen) (hl : Opts w (fun _ => True) lv l) (hls : ∀ o ∈ l, I64 o.t ∧ o.v.size ≤ maxLen) (hnl : ∀ n c, lv = .slice none n c → c = 0) :
    Calls Try.prog 4 #[rv, lv] w fun e w' => e = .returned (.bool true) ∧ Below w.heap.size w w' := by
  obtain ⟨n1, a1, k1, h1, rfl, hk1, hk1'⟩ : ∃ n1 a1 k1, n1 = r.length ∧ rv = .slice a1 n1 k1 ∧ n1 ≤ k1 ∧ k1 ≤ maxLen := by obtain ⟨a1, k1, e, h1, h2⟩ := hr.form'; exact ⟨_, a1, k1, rfl, e, h1, h2⟩
  obtain ⟨n2, a2, k2, h2, rfl, hk2, hk2'⟩ : ∃ n2 a2 k2, n2 = l.length ∧ lv = .slice a2 n2 k2 ∧ n2 ≤ k2 ∧ k2 ≤ maxLen := by obtain ⟨a1, k1, e, h1, h2⟩ := hl.form; exact ⟨_, a1, k1, rfl, e, h1, h2⟩
  have HR := Lib.hid (rules_any r _ _ w hr hrs)
  have HL := Lib.hid (light_any l _ _ w hl (fun o ho => (hls o ho).2))
  have HA := Lib.hid (alive_any w)
  have H := Lib.hid (And.intro hr (And.intro hl (And.intro hls (And.intro hnl (And.intro h1 h2)))))
  unfold maxLen at hk1' hk2'
  clear hr hrs hl hls hnl h1 h2
  go_enter Try.func4, Try.ntmps4
  go_wp2_with fail
  refine HR.out.mono ?_
  rintro e w1 ⟨⟨b, rfl, hb⟩, rfl⟩
  cases b with
  | false =>
    go_wp2_with (go_at_call 10; refine HA.out.mono ?_; rintro e w2 ⟨rfl, b2⟩)
    go_ret
    exact ⟨rfl, b2⟩
  | true =>
    obtain ⟨hrl, -⟩ := hb rfl
    have hn1 : n1 ≤ 40 := by have := H.out.2.2.2.2.1; omega
    clear hb hrl
    go_wp2_with fail
    refine HL.out.mono ?_
    rintro e w1 ⟨⟨b, rfl, hb⟩, rfl⟩
    cases b with
    | false =>
      go_wp2_with (go_at_call 10; refine HA.out.mono ?_; rintro e w2 ⟨rfl, b2⟩)
      go_ret
      exact ⟨rfl, b2⟩
    | true =>
      obtain ⟨hll, hlv⟩ := hb rfl
      have hn2 : n2 ≤ 50 := by have := H.out.2.2.2.2.2; omega
      have HV := Lib.hid (And.intro hlv hll)
      have HJ := Lib.hid (judge_any r _ _ l _ _ w H.out.1 (by have := H.out.2.2.2.2.1; omega) H.out.2.1 (by omega) (fun o ho => (H.out.2.2.1 o ho).1) (fun o ho => by have := hlv o ho; omega))
      have HPF := And.intro (judgeS_len r l) (And.intro (judge_code r l) (And.intro (judge_some r l) (And.intro (judge_ack r l) (And.intro (judge_more r l ⟨250, ⟨#[110, 111, 110, 101]⟩⟩) (judge_sub r l)))))
      generalize judgeS r l = J at HJ HPF
      obtain ⟨c, o⟩ := J
      simp only at HPF HJ
      have HP := Lib.hid HPF
      clear hb hll hlv HPF
      go_wp2_with fail
      refine HJ.out.mono ?_
      rintro e w1 ⟨v1, rfl, hrow, hb1⟩
      obtain ⟨m, g1, c1, hm, rfl⟩ : ∃ m g c', m = o.length ∧ v1 = .slice g m c' := by obtain ⟨g, c', e⟩ := hrow.form; exact ⟨_, g, c', rfl, e⟩
      have hmn : m ≤ n2 := by have := HP.out.1; have := H.out.2.2.2.2.2; omega
      have HO := Lib.hid (And.intro hrow (And.intro hb1 hm))
      have dlt : ¬ n2 < m := by omega
      have hcc := HP.out.2.1
      have hm0 : c ≠ 2 → 0 < m := fun h => by have := HP.out.2.2.1 h; omega
      clear hrow hb1 hm
      rcases hcc with rfl | h34
      · clear hm0
        have HAC := Lib.hid (HP.out.2.2.2.1 rfl)
        have HMO := Lib.hid (fun h => HP.out.2.2.2.2.1 rfl h)
        have hll := HV.out.2
        have hl0 : ([] : List Opt).length + l.length ≤ 1000000 := by rw [List.length_nil]; omega
        have HLW := Lib.hid (Opts.below H.out.2.1 HO.out.2.1)
        go_wp2_with (first
          | (at_builtin; refine wpl_append_opts rfl _ _ rfl _ [] rfl (ORow.nil w1 w1.heap.size) _ l rfl HLW.out H.out.2.2.2.1 hl0 (Nat.le_refl _) ?_
             intro v2 w2 r2 k2' o2
             have hs2 := k2'.size
             have b2 : Below w1.heap.size w1 w2 := k2'.below (Nat.le_refl _) (fun b hb he => by cases he)
             have r3 := r2.below ((Below.refl w2.heap.size w2).alloc (Nat.le_refl _) (.cells #[.int .i64 250, .string ⟨#[110, 111, 110, 101]⟩] 46 (0, 0)))
             have z3 := at1 w2 (.cells #[.int .i64 250, .string ⟨#[110, 111, 110, 101]⟩] 46 (0, 0))
             have H2 := Lib.hid (And.intro b2 (And.intro r3 z3))
             have hs3 : (w2.alloc (.cells #[.int .i64 250, .string ⟨#[110, 111, 110, 101]⟩] 46 (0, 0))).heap.size = w2.heap.size + 1 := alloc1 _ _
             have hW3 : w1.heap.size ≤ (w2.alloc (.cells #[.int .i64 250, .string ⟨#[110, 111, 110, 101]⟩] 46 (0, 0))).heap.size := by omega
             have hl3 : ([] ++ l).length ≤ 1000000 := by rw [List.nil_append]; omega
             clear r2 k2' o2 b2 r3 z3)
          | (at_builtin; refine wpl_append_opt rfl _ _ rfl _ _ rfl H2.out.2.1 _ 1 250 ⟨#[110, 111, 110, 101]⟩ rfl H2.out.2.2 hl3 hW3 ?_
             intro g4 cap4 w4 r4 k4 o4
             have b4 : Below w1.heap.size w1 w4 := (H2.out.1.alloc hs2 _).trans (k4.below hW3 (fun b hb he => by have := (H2.out.2.1.lt b he).2; omega))
             rw [List.nil_append] at r4
             have hln4 : (l ++ [(⟨250, ⟨#[110, 111, 110, 101]⟩⟩ : Opt)]).length = l.length + 1 := by simp
             rw [hln4] at r4
             clear hln4
             have H4 := Lib.hid (And.intro b4 r4)
             clear r4 k4 o4 b4))
        have hb4 := HO.out.2.1.trans (H4.out.1.mono HO.out.2.1.size)
        have HJ2 := Lib.hid (judge_any r _ _ (l ++ [(⟨250, ⟨#[110, 111, 110, 101]⟩⟩ : Opt)]) _ _ w4 (Rls.below H.out.1 hb4) (by have := H.out.2.2.2.2.1; omega) (by
            have h := H4.out.2.opts (by rw [List.length_append]; unfold maxLen; simp; omega)
            exact h) (by rw [List.length_append]; simp; omega) (fun o' ho => by
            rcases List.mem_append.1 ho with h | h
            · exact (H.out.2.2.1 o' h).1
            · simp only [List.mem_singleton] at h; subst h; show (Lit.int .i64 250).wf = true; decide) (fun o' ho => by
            rcases List.mem_append.1 ho with h | h
            · have := HV.out.1 o' h; omega
            · simp only [List.mem_singleton] at h; subst h; decide))
        have HMO2 := HMO.out
        generalize judgeS r (l ++ [(⟨250, ⟨#[110, 111, 110, 101]⟩⟩ : Opt)]) = J2 at HJ2 HMO2
        obtain ⟨d, p2⟩ := J2
        simp only at HJ2 HMO2
        have HMO3 := Lib.hid HMO2
        have HB4 := Lib.hid hb4
        clear HMO HMO2 hb4
        go_wp2_with fail
        refine HJ2.out.mono ?_
        rintro e w5 ⟨v5, rfl, r5, b5⟩
        obtain ⟨q, g5, c5, hq, rfl⟩ : ∃ q g c', q = p2.length ∧ v5 = .slice g q c' := by obtain ⟨g, c', e⟩ := r5.form; exact ⟨_, g, c', rfl, e⟩
        have HB5 := Lib.hid (And.intro (HB4.out.trans (b5.mono HB4.out.size)) (And.intro (show Below w1.heap.size w1 w5 from H4.out.1.trans (b5.mono H4.out.1.size)) hq))
        have HRW := Lib.hid (Rls.below H.out.1 HB5.out.1)
        clear r5 b5 hq
        go_wp2_with fail
        go_loopg [9, 10] n1 (fun x hs i wr => ∃ (k : Nat) (b : Bool), k ≤ n1 ∧ x = n1 - k ∧ hs = .bool b ∧ i = .int .i64 k ∧ Hid ((b = false → ∀ j (h : j < r.length), j < k → r[j].t ≠ 250) ∧ w5 = wr))
        case atStart => exact ⟨0, false, by omega, by omega, rfl, rfl, fun _ j h hj => absurd hj (Nat.not_lt_zero _), rfl⟩
        case round =>
          obtain ⟨k, b, hk, rfl, rfl, rfl, hK⟩ := hrel
          obtain ⟨hA, rfl⟩ := hK.out
          have HK := Lib.hid hA
          clear hK hA
          by_cases hkn : k < n1
          · cases b with
            | true =>
              go_wp2_with fail
              go_roundg (n1 - (k + 1))
              case measure => omega
              case rel => exact ⟨k + 1, true, by omega, rfl, rfl, by go_num, fun h => (by cases h), rfl⟩
            | false =>
              have hkl' : k < r.length := by have := H.out.2.2.2.2.1; omega
              obtain ⟨bb, off, rfl, hbb, -, -, -, -, ch, -, -, -, -⟩ := HRW.out.at k hkl'
              have HS := Lib.hid (show r[k].t ≠ 250 → ∀ j (h : j < r.length), j < k + 1 → r[j].t ≠ 250 from fun hs j h hj => by
                rcases Nat.lt_or_ge j k with h1 | h1
                · exact HK.out rfl j h h1
                · have : j = k := by omega
                  subst this; exact hs)
              generalize r[k].t = tk at ch HS
              by_cases ht : tk = 250
              · subst ht
                go_wp2_with fail
                go_roundg (n1 - (k + 1))
                case measure => omega
                case rel => exact ⟨k + 1, true, by omega, rfl, rfl, by go_num, fun h => (by cases h), rfl⟩
              · have HS2 := Lib.hid (HS.out ht)
                have hte : (tk == 250) = false := by simpa using ht
                go_wp2_with fail
                go_roundg (n1 - (k + 1))
                case measure => omega
                case rel => exact ⟨k + 1, false, by omega, rfl, rfl, by go_num, fun _ => HS2.out, rfl⟩
          · obtain rfl : n1 = k := by omega
            have HAL := Lib.hid (alive_any w5)
            have HSM := Lib.hid (fun W (hW : Below w5.heap.size w5 W) => same_any o l (.slice g1 m c1) (.slice a2 n2 k2) (fun b => w.heap.size ≤ b) (fun _ => True) W (((HO.out.1.below HB5.out.2.1).below hW).opts (by have := HP.out.1; have := HV.out.2; unfold maxLen; omega)) (Opts.below H.out.2.1 (HB5.out.1.trans (hW.mono HB5.out.1.size))) (by have := HP.out.1; have := HV.out.2; omega))
            have hfin : b = false → d = 4 ∧ q = 1 := fun hb => by
              have h1 := HMO3.out (find_none r 250 (fun x hx => by
                obtain ⟨j, hj, rfl⟩ := List.getElem_of_mem hx
                exact HK.out hb j hj (by have := H.out.2.2.2.2.1; omega)))
              exact ⟨h1.1, by rw [HB5.out.2.2]; exact h1.2⟩
            cases b with
            | true =>
              clear hfin
              go_wp2_with (first
                | (go_at_call 10; refine HAL.out.mono ?_; rintro e w6 ⟨rfl, b6⟩; have HB6 := Lib.hid b6; clear b6)
                | (go_at_call 19; refine (HSM.out _ HB6.out).mono ?_; rintro e w7 ⟨b7, rfl, hb7, bel7⟩
                   obtain rfl : b7 = true := hb7.2 HAC.out.1
                   have HB7 := Lib.hid bel7
                   clear hb7 bel7))
              go_ret
              exact ⟨rfl, HB5.out.1.trans ((HB6.out.trans (HB7.out.mono HB6.out.size)).mono HB5.out.1.size)⟩
            | false =>
              obtain ⟨rfl, rfl⟩ := hfin rfl
              go_wp2_with (first
                | (go_at_call 10; refine HAL.out.mono ?_; rintro e w6 ⟨rfl, b6⟩; have HB6 := Lib.hid b6; clear b6)
                | (go_at_call 19; refine (HSM.out _ HB6.out).mono ?_; rintro e w7 ⟨b7, rfl, hb7, bel7⟩
                   obtain rfl : b7 = true := hb7.2 HAC.out.1
                   have HB7 := Lib.hid bel7
                   clear hb7 bel7))
              go_ret
              exact ⟨rfl, HB5.out.1.trans ((HB6.out.trans (HB7.out.mono HB6.out.size)).mono HB5.out.1.size)⟩
      · have hm1 : 0 < m := hm0 (by rcases h34 with rfl | rfl <;> decide)
        rcases h34 with rfl | rfl
        · have HSB := Lib.hid (HP.out.2.2.2.2.2 (by decide))
          clear hm0
          go_wp2_with fail
          clear HR HL HA HJ dlt
          have hmz : (((m : Nat) : Int) == 0) = false := by simp; omega
          try simp only [hmz]
          go_loopg [11, 12] n2 (fun x ar i wr => ∃ (k a : Nat), k ≤ n2 ∧ a ≤ m ∧ x = n2 - k ∧ ar = .int .i64 a ∧ i = .int .i64 k ∧ Hid (Sub (RelO 3) (l.drop k) (o.drop a) ∧ Below w1.heap.size w1 wr))
          case atStart => exact ⟨0, 0, by omega, by omega, by omega, rfl, rfl, HSB.out, Below.refl _ _⟩
          case round =>
            obtain ⟨k, a, hk, ha, rfl, rfl, rfl, hK⟩ := hrel
            have HK := Lib.hid hK.out
            clear hK
            by_cases hkn : k < n2
            · by_cases ham : a < m
              · have hkl' : k < l.length := by have := H.out.2.2.2.2.2; omega
                have hal' : a < o.length := by have := HO.out.2.2; omega
                obtain ⟨bb, off, rfl, hbb, -, -, -, -, e0, e1⟩ := (Opts.below H.out.2.1 (HO.out.2.1.trans (HK.out.2.mono HO.out.2.1.size))).at k hkl'
                obtain ⟨bc, ofc, rfl, hbc, -, -, -, -, f0, f1⟩ := ((HO.out.1.below HK.out.2).opts (by have := HP.out.1; have := HV.out.2; unfold maxLen; omega)).at a hal'
                have hsub := HK.out.1
                rw [List.drop_eq_getElem_cons hkl', List.drop_eq_getElem_cons hal'] at hsub
                have HSH := Lib.hid hsub.hit
                have HSM := Lib.hid (fun hn : ¬ RelO 3 l[k] o[a] => hsub.miss hn)
                rw [← List.drop_eq_getElem_cons hal'] at HSM
                have BQ := Lib.hid (HK.out.2.drew)
                clear hsub
                generalize l[k] = x at *
                generalize o[a] = y at *
                obtain ⟨tx, vx⟩ := x
                obtain ⟨ty, vy⟩ := y
                simp only at e0 e1 f0 f1
                have HSv : (fun W : World => W.cell? ⟨bb, off + k * 2, none⟩ = some (.int .i64 tx) ∧ W.cell? ⟨bb, off + k * 2 + 1, none⟩ = some (.string vx) ∧ W.cell? ⟨bc, ofc + a * 2, none⟩ = some (.int .i64 ty) ∧ W.cell? ⟨bc, ofc + a * 2 + 1, none⟩ = some (.string vy)) wr.drew := ⟨e0, e1, f0, f1⟩
                go_wp2_with fail
                refine wp_region_N 28 (fun W : World => W.cell? ⟨bb, off + k * 2, none⟩ = some (.int .i64 tx) ∧ W.cell? ⟨bb, off + k * 2 + 1, none⟩ = some (.string vx) ∧ W.cell? ⟨bc, ofc + a * 2, none⟩ = some (.int .i64 ty) ∧ W.cell? ⟨bc, ofc + a * 2 + 1, none⟩ = some (.string vy)) (by kernel_rfl) ?_
                refine wpAnyN_take (i := 0) (oi := { dst := some 111, op := Op.move (Operand.tmp 1), type := 27, pos := "outright.go:136", after := #[], guard := none }) (v := .slice (some ⟨bb, off, none⟩) n2 k2) rfl (by kernel_rfl) (by kernel_rfl) (by kernel_rfl) (fun _ _ _ h => h) (Or.inl ⟨by rfl, ?_⟩) HSv ?_
                · intro W hW
                  go_simp
                  try with_reducible rfl
                simp only [Act.put, List.setIfInBounds_toArray, List.set_cons_zero, List.set_cons_succ]
                refine wpAnyN_take (i := 1) (oi := { dst := some 112, op := Op.move (Operand.tmp 12), type := 3, pos := "outright.go:136", after := #[], guard := none }) (v := .int .i64 k) rfl (by kernel_rfl) (by kernel_rfl) (by kernel_rfl) (fun _ _ _ h => h) (Or.inl ⟨by rfl, ?_⟩) HSv ?_
                · intro W hW
                  go_simp
                  try with_reducible rfl
                simp only [Act.put, List.setIfInBounds_toArray, List.set_cons_zero, List.set_cons_succ]
                refine wpAnyN_take (i := 2) (oi := { dst := some 113, op := Op.indexAddr 27 (Operand.tmp 111) (Operand.tmp 112), type := 0, pos := "outright.go:136", after := #[{ on := 0, ground := Ground.data }, { on := 1, ground := Ground.data }], guard := none }) (v := .pointer (some ⟨bb, off + k * 2, none⟩)) rfl (by kernel_rfl) (by kernel_rfl) (by kernel_rfl) (fun _ _ _ h => h) (Or.inl ⟨by rfl, ?_⟩) HSv ?_
                · intro W hW
                  obtain ⟨h1, h2, h3, h4⟩ := hW
                  go_simp
                  try with_reducible rfl
                simp only [Act.put, List.setIfInBounds_toArray, List.set_cons_zero, List.set_cons_succ]
                refine wpAnyN_take (i := 3) (oi := { dst := some 114, op := Op.fieldAddr 46 (Operand.tmp 113) 0, type := 0, pos := "outright.go:136", after := #[{ on := 2, ground := Ground.data }], guard := none }) (v := .pointer (some ⟨bb, off + k * 2, none⟩)) rfl (by kernel_rfl) (by kernel_rfl) (by kernel_rfl) (fun _ _ _ h => h) (Or.inl ⟨by rfl, ?_⟩) HSv ?_
                · intro W hW
                  go_simp
                  try with_reducible rfl
                simp only [Act.put, List.setIfInBounds_toArray, List.set_cons_zero, List.set_cons_succ]
                refine wpAnyN_take (i := 4) (oi := { dst := some 115, op := Op.load 3 (Operand.tmp 114), type := 3, pos := "outright.go:136", after := #[{ on := 3, ground := Ground.data }], guard := none }) (v := .int .i64 tx) rfl (by kernel_rfl) (by kernel_rfl) (by kernel_rfl) (fun _ _ _ h => h) (Or.inl ⟨by rfl, ?_⟩) HSv ?_
                · intro W hW
                  obtain ⟨h1, h2, h3, h4⟩ := hW
                  go_simp
                  try with_reducible rfl
                simp only [Act.put, List.setIfInBounds_toArray, List.set_cons_zero, List.set_cons_succ]
                refine wpAnyN_take (i := 5) (oi := { dst := some 116, op := Op.move (Operand.tmp 6), type := 27, pos := "outright.go:136", after := #[], guard := none }) (v := .slice (some ⟨bc, ofc, none⟩) m c1) rfl (by kernel_rfl) (by kernel_rfl) (by kernel_rfl) (fun _ _ _ h => h) (Or.inl ⟨by rfl, ?_⟩) HSv ?_
                · intro W hW
                  go_simp
                  try with_reducible rfl
                simp only [Act.put, List.setIfInBounds_toArray, List.set_cons_zero, List.set_cons_succ]
                refine wpAnyN_take (i := 6) (oi := { dst := some 117, op := Op.move (Operand.tmp 11), type := 3, pos := "outright.go:136", after := #[], guard := none }) (v := .int .i64 a) rfl (by kernel_rfl) (by kernel_rfl) (by kernel_rfl) (fun _ _ _ h => h) (Or.inl ⟨by rfl, ?_⟩) HSv ?_
                · intro W hW
                  go_simp
                  try with_reducible rfl
                simp only [Act.put, List.setIfInBounds_toArray, List.set_cons_zero, List.set_cons_succ]
                refine wpAnyN_take (i := 7) (oi := { dst := some 118, op := Op.indexAddr 27 (Operand.tmp 116) (Operand.tmp 117), type := 0, pos := "outright.go:136", after := #[{ on := 5, ground := Ground.data }, { on := 6, ground := Ground.data }], guard := none }) (v := .pointer (some ⟨bc, ofc + a * 2, none⟩)) rfl (by kernel_rfl) (by kernel_rfl) (by kernel_rfl) (fun _ _ _ h => h) (Or.inl ⟨by rfl, ?_⟩) HSv ?_
                · intro W hW
                  obtain ⟨h1, h2, h3, h4⟩ := hW
                  go_simp
                  try with_reducible rfl
                simp only [Act.put, List.setIfInBounds_toArray, List.set_cons_zero, List.set_cons_succ]
                refine wpAnyN_take (i := 8) (oi := { dst := some 119, op := Op.fieldAddr 46 (Operand.tmp 118) 0, type := 0, pos := "outright.go:136", after := #[{ on := 7, ground := Ground.data }], guard := none }) (v := .pointer (some ⟨bc, ofc + a * 2, none⟩)) rfl (by kernel_rfl) (by kernel_rfl) (by kernel_rfl) (fun _ _ _ h => h) (Or.inl ⟨by rfl, ?_⟩) HSv ?_
                · intro W hW
                  go_simp
                  try with_reducible rfl
                simp only [Act.put, List.setIfInBounds_toArray, List.set_cons_zero, List.set_cons_succ]
                refine wpAnyN_take (i := 9) (oi := { dst := some 120, op := Op.load 3 (Operand.tmp 119), type := 3, pos := "outright.go:136", after := #[{ on := 8, ground := Ground.data }], guard := none }) (v := .int .i64 ty) rfl (by kernel_rfl) (by kernel_rfl) (by kernel_rfl) (fun _ _ _ h => h) (Or.inl ⟨by rfl, ?_⟩) HSv ?_
                · intro W hW
                  obtain ⟨h1, h2, h3, h4⟩ := hW
                  go_simp
                  try with_reducible rfl
                simp only [Act.put, List.setIfInBounds_toArray, List.set_cons_zero, List.set_cons_succ]
                by_cases ht : tx = ty
                · subst ht
                  refine wpAnyN_take (i := 10) (oi := { dst := some 121, op := Op.binOp BinOp.eql 3 (Operand.tmp 115) (Operand.tmp 120) 3, type := 4, pos := "outright.go:136", after := #[{ on := 4, ground := Ground.data }, { on := 9, ground := Ground.data }], guard := none }) (v := .bool true) rfl (by kernel_rfl) (by kernel_rfl) (by kernel_rfl) (fun _ _ _ h => h) (Or.inl ⟨by rfl, ?_⟩) HSv ?_
                  · intro W hW
                    go_simp
                    try with_reducible rfl
                  simp only [Act.put, List.setIfInBounds_toArray, List.set_cons_zero, List.set_cons_succ]
                  refine wpAnyN_take (i := 11) (oi := { dst := some 122, op := Op.move (Operand.tmp 121), type := 4, pos := "outright.go:136", after := #[{ on := 10, ground := Ground.data }], guard := none }) (v := .bool true) rfl (by kernel_rfl) (by kernel_rfl) (by kernel_rfl) (fun _ _ _ h => h) (Or.inl ⟨by rfl, ?_⟩) HSv ?_
                  · intro W hW
                    go_simp
                    try with_reducible rfl
                  simp only [Act.put, List.setIfInBounds_toArray, List.set_cons_zero, List.set_cons_succ]
                  refine wpAnyN_take (i := 12) (oi := { dst := some 123, op := Op.move (Operand.tmp 5), type := 3, pos := "outright.go:136", after := #[{ on := 11, ground := Ground.guard }], guard := some (11, true) }) (v := .int .i64 3) rfl (by kernel_rfl) (by kernel_rfl) (by kernel_rfl) (fun _ _ _ h => h) (Or.inl ⟨by rfl, ?_⟩) HSv ?_
                  · intro W hW
                    go_simp
                    try with_reducible rfl
                  simp only [Act.put, List.setIfInBounds_toArray, List.set_cons_zero, List.set_cons_succ]
                  refine wpAnyN_take (i := 13) (oi := { dst := some 124, op := Op.binOp BinOp.eql 3 (Operand.tmp 123) (Operand.const (Value.int IntKind.i64 3)) 3, type := 4, pos := "outright.go:136", after := #[{ on := 12, ground := Ground.data }, { on := 11, ground := Ground.guard }], guard := some (11, true) }) (v := .bool true) rfl (by kernel_rfl) (by kernel_rfl) (by kernel_rfl) (fun _ _ _ h => h) (Or.inl ⟨by rfl, ?_⟩) HSv ?_
                  · intro W hW
                    go_simp
                    try with_reducible rfl
                  simp only [Act.put, List.setIfInBounds_toArray, List.set_cons_zero, List.set_cons_succ]
                  refine wpAnyN_take (i := 14) (oi := { dst := some 125, op := Op.move (Operand.tmp 124), type := 4, pos := "outright.go:136", after := #[{ on := 13, ground := Ground.data }, { on := 11, ground := Ground.chain }, { on := 11, ground := Ground.guard }], guard := some (11, true) }) (v := .bool true) rfl (by kernel_rfl) (by kernel_rfl) (by kernel_rfl) (fun _ _ _ h => h) (Or.inl ⟨by rfl, ?_⟩) HSv ?_
                  · intro W hW
                    go_simp
                    try with_reducible rfl
                  simp only [Act.put, List.setIfInBounds_toArray, List.set_cons_zero, List.set_cons_succ]
                  refine wpAnyN_take (i := 15) (oi := { dst := some 126, op := Op.move (Operand.tmp 1), type := 27, pos := "outright.go:136", after := #[{ on := 14, ground := Ground.guard }], guard := some (14, false) }) (v := undef) rfl (by kernel_rfl) (by kernel_rfl) (by kernel_rfl) (fun _ _ _ h => h) (Or.inr ⟨by rfl, rfl⟩) HSv ?_
                  simp only [Act.put, List.setIfInBounds_toArray, List.set_cons_zero, List.set_cons_succ]
                  refine wpAnyN_take (i := 16) (oi := { dst := some 127, op := Op.move (Operand.tmp 12), type := 3, pos := "outright.go:136", after := #[{ on := 14, ground := Ground.guard }], guard := some (14, false) }) (v := undef) rfl (by kernel_rfl) (by kernel_rfl) (by kernel_rfl) (fun _ _ _ h => h) (Or.inr ⟨by rfl, rfl⟩) HSv ?_
                  simp only [Act.put, List.setIfInBounds_toArray, List.set_cons_zero, List.set_cons_succ]
                  refine wpAnyN_take (i := 17) (oi := { dst := some 128, op := Op.indexAddr 27 (Operand.tmp 126) (Operand.tmp 127), type := 0, pos := "outright.go:136", after := #[{ on := 15, ground := Ground.data }, { on := 16, ground := Ground.data }, { on := 14, ground := Ground.guard }], guard := some (14, false) }) (v := undef) rfl (by kernel_rfl) (by kernel_rfl) (by kernel_rfl) (fun _ _ _ h => h) (Or.inr ⟨by rfl, rfl⟩) HSv ?_
                  simp only [Act.put, List.setIfInBounds_toArray, List.set_cons_zero, List.set_cons_succ]
                  refine wpAnyN_take (i := 18) (oi := { dst := some 129, op := Op.fieldAddr 46 (Operand.tmp 128) 1, type := 0, pos := "outright.go:136", after := #[{ on := 17, ground := Ground.data }, { on := 14, ground := Ground.guard }], guard := some (14, false) }) (v := undef) rfl (by kernel_rfl) (by kernel_rfl) (by kernel_rfl) (fun _ _ _ h => h) (Or.inr ⟨by rfl, rfl⟩) HSv ?_
                  simp only [Act.put, List.setIfInBounds_toArray, List.set_cons_zero, List.set_cons_succ]
                  refine wpAnyN_take (i := 19) (oi := { dst := some 130, op := Op.load 9 (Operand.tmp 129), type := 9, pos := "outright.go:136", after := #[{ on := 18, ground := Ground.data }, { on := 14, ground := Ground.guard }], guard := some (14, false) }) (v := undef) rfl (by kernel_rfl) (by kernel_rfl) (by kernel_rfl) (fun _ _ _ h => h) (Or.inr ⟨by rfl, rfl⟩) HSv ?_
                  simp only [Act.put, List.setIfInBounds_toArray, List.set_cons_zero, List.set_cons_succ]
                  refine wpAnyN_take (i := 20) (oi := { dst := some 131, op := Op.move (Operand.tmp 6), type := 27, pos := "outright.go:136", after := #[{ on := 14, ground := Ground.guard }], guard := some (14, false) }) (v := undef) rfl (by kernel_rfl) (by kernel_rfl) (by kernel_rfl) (fun _ _ _ h => h) (Or.inr ⟨by rfl, rfl⟩) HSv ?_
                  simp only [Act.put, List.setIfInBounds_toArray, List.set_cons_zero, List.set_cons_succ]
                  refine wpAnyN_take (i := 21) (oi := { dst := some 132, op := Op.move (Operand.tmp 11), type := 3, pos := "outright.go:136", after := #[{ on := 14, ground := Ground.guard }], guard := some (14, false) }) (v := undef) rfl (by kernel_rfl) (by kernel_rfl) (by kernel_rfl) (fun _ _ _ h => h) (Or.inr ⟨by rfl, rfl⟩) HSv ?_
                  simp only [Act.put, List.setIfInBounds_toArray, List.set_cons_zero, List.set_cons_succ]
                  refine wpAnyN_take (i := 22) (oi := { dst := some 133, op := Op.indexAddr 27 (Operand.tmp 131) (Operand.tmp 132), type := 0, pos := "outright.go:136", after := #[{ on := 20, ground := Ground.data }, { on := 21, ground := Ground.data }, { on := 14, ground := Ground.guard }], guard := some (14, false) }) (v := undef) rfl (by kernel_rfl) (by kernel_rfl) (by kernel_rfl) (fun _ _ _ h => h) (Or.inr ⟨by rfl, rfl⟩) HSv ?_
                  simp only [Act.put, List.setIfInBounds_toArray, List.set_cons_zero, List.set_cons_succ]
                  refine wpAnyN_take (i := 23) (oi := { dst := some 134, op := Op.fieldAddr 46 (Operand.tmp 133) 1, type := 0, pos := "outright.go:136", after := #[{ on := 22, ground := Ground.data }, { on := 14, ground := Ground.guard }], guard := some (14, false) }) (v := undef) rfl (by kernel_rfl) (by kernel_rfl) (by kernel_rfl) (fun _ _ _ h => h) (Or.inr ⟨by rfl, rfl⟩) HSv ?_
                  simp only [Act.put, List.setIfInBounds_toArray, List.set_cons_zero, List.set_cons_succ]
                  refine wpAnyN_take (i := 24) (oi := { dst := some 135, op := Op.load 9 (Operand.tmp 134), type := 9, pos := "outright.go:136", after := #[{ on := 23, ground := Ground.data }, { on := 14, ground := Ground.guard }], guard := some (14, false) }) (v := undef) rfl (by kernel_rfl) (by kernel_rfl) (by kernel_rfl) (fun _ _ _ h => h) (Or.inr ⟨by rfl, rfl⟩) HSv ?_
                  simp only [Act.put, List.setIfInBounds_toArray, List.set_cons_zero, List.set_cons_succ]
                  refine wpAnyN_take (i := 25) (oi := { dst := some 136, op := Op.binOp BinOp.eql 9 (Operand.tmp 130) (Operand.tmp 135) 9, type := 4, pos := "outright.go:136", after := #[{ on := 19, ground := Ground.data }, { on := 24, ground := Ground.data }, { on := 14, ground := Ground.guard }], guard := some (14, false) }) (v := undef) rfl (by kernel_rfl) (by kernel_rfl) (by kernel_rfl) (fun _ _ _ h => h) (Or.inr ⟨by rfl, rfl⟩) HSv ?_
                  simp only [Act.put, List.setIfInBounds_toArray, List.set_cons_zero, List.set_cons_succ]
                  refine wpAnyN_take (i := 26) (oi := { dst := some 137, op := Op.pick (Operand.tmp 125) (Operand.const (Value.bool true)) (Operand.tmp 136), type := 4, pos := "outright.go:136", after := #[{ on := 14, ground := Ground.data }, { on := 25, ground := Ground.data }, { on := 11, ground := Ground.guard }], guard := some (11, true) }) (v := .bool true) rfl (by kernel_rfl) (by kernel_rfl) (by kernel_rfl) (fun _ _ _ h => h) (Or.inl ⟨by rfl, ?_⟩) HSv ?_
                  · intro W hW
                    go_simp
                    try with_reducible rfl
                  simp only [Act.put, List.setIfInBounds_toArray, List.set_cons_zero, List.set_cons_succ]
                  refine wpAnyN_take (i := 27) (oi := { dst := some 138, op := Op.pick (Operand.tmp 122) (Operand.tmp 137) (Operand.const (Value.bool false)), type := 4, pos := "outright.go:136", after := #[{ on := 11, ground := Ground.data }, { on := 26, ground := Ground.data }], guard := none }) (v := .bool true) rfl (by kernel_rfl) (by kernel_rfl) (by kernel_rfl) (fun _ _ _ h => h) (Or.inl ⟨by rfl, ?_⟩) HSv ?_
                  · intro W hW
                    go_simp
                    try with_reducible rfl
                  simp only [Act.put, List.setIfInBounds_toArray, List.set_cons_zero, List.set_cons_succ]
                  refine wpAnyN_end 28 (by decide) rfl (by kernel_rfl) ?_
                  simp only [List.drop_succ_cons, List.drop_zero]
                  go_wp2_with fail
                  go_roundg (n2 - (k + 1))
                  case measure => omega
                  case rel => exact ⟨k + 1, a + 1, by omega, by omega, rfl, by go_num, by go_num, HSH.out, BQ.out⟩
                · have HNR := Lib.hid (show ¬ RelO 3 ⟨tx, vx⟩ ⟨ty, vy⟩ from fun h => ht h.1)
                  refine wpAnyN_take (i := 10) (oi := { dst := some 121, op := Op.binOp BinOp.eql 3 (Operand.tmp 115) (Operand.tmp 120) 3, type := 4, pos := "outright.go:136", after := #[{ on := 4, ground := Ground.data }, { on := 9, ground := Ground.data }], guard := none }) (v := .bool false) rfl (by kernel_rfl) (by kernel_rfl) (by kernel_rfl) (fun _ _ _ h => h) (Or.inl ⟨by rfl, ?_⟩) HSv ?_
                  · intro W hW
                    go_simp
                    try with_reducible rfl
                  simp only [Act.put, List.setIfInBounds_toArray, List.set_cons_zero, List.set_cons_succ]
                  refine wpAnyN_take (i := 11) (oi := { dst := some 122, op := Op.move (Operand.tmp 121), type := 4, pos := "outright.go:136", after := #[{ on := 10, ground := Ground.data }], guard := none }) (v := .bool false) rfl (by kernel_rfl) (by kernel_rfl) (by kernel_rfl) (fun _ _ _ h => h) (Or.inl ⟨by rfl, ?_⟩) HSv ?_
                  · intro W hW
                    go_simp
                    try with_reducible rfl
                  simp only [Act.put, List.setIfInBounds_toArray, List.set_cons_zero, List.set_cons_succ]
                  refine wpAnyN_take (i := 12) (oi := { dst := some 123, op := Op.move (Operand.tmp 5), type := 3, pos := "outright.go:136", after := #[{ on := 11, ground := Ground.guard }], guard := some (11, true) }) (v := undef) rfl (by kernel_rfl) (by kernel_rfl) (by kernel_rfl) (fun _ _ _ h => h) (Or.inr ⟨by rfl, rfl⟩) HSv ?_
                  simp only [Act.put, List.setIfInBounds_toArray, List.set_cons_zero, List.set_cons_succ]
                  refine wpAnyN_take (i := 13) (oi := { dst := some 124, op := Op.binOp BinOp.eql 3 (Operand.tmp 123) (Operand.const (Value.int IntKind.i64 3)) 3, type := 4, pos := "outright.go:136", after := #[{ on := 12, ground := Ground.data }, { on := 11, ground := Ground.guard }], guard := some (11, true) }) (v := undef) rfl (by kernel_rfl) (by kernel_rfl) (by kernel_rfl) (fun _ _ _ h => h) (Or.inr ⟨by rfl, rfl⟩) HSv ?_
                  simp only [Act.put, List.setIfInBounds_toArray, List.set_cons_zero, List.set_cons_succ]
                  refine wpAnyN_take (i := 14) (oi := { dst := some 125, op := Op.move (Operand.tmp 124), type := 4, pos := "outright.go:136", after := #[{ on := 13, ground := Ground.data }, { on := 11, ground := Ground.chain }, { on := 11, ground := Ground.guard }], guard := some (11, true) }) (v := undef) rfl (by kernel_rfl) (by kernel_rfl) (by kernel_rfl) (fun _ _ _ h => h) (Or.inr ⟨by rfl, rfl⟩) HSv ?_
                  simp only [Act.put, List.setIfInBounds_toArray, List.set_cons_zero, List.set_cons_succ]
                  refine wpAnyN_take (i := 15) (oi := { dst := some 126, op := Op.move (Operand.tmp 1), type := 27, pos := "outright.go:136", after := #[{ on := 14, ground := Ground.guard }], guard := some (14, false) }) (v := undef) rfl (by kernel_rfl) (by kernel_rfl) (by kernel_rfl) (fun _ _ _ h => h) (Or.inr ⟨by rfl, rfl⟩) HSv ?_
                  simp only [Act.put, List.setIfInBounds_toArray, List.set_cons_zero, List.set_cons_succ]
                  refine wpAnyN_take (i := 16) (oi := { dst := some 127, op := Op.move (Operand.tmp 12), type := 3, pos := "outright.go:136", after := #[{ on := 14, ground := Ground.guard }], guard := some (14, false) }) (v := undef) rfl (by kernel_rfl) (by kernel_rfl) (by kernel_rfl) (fun _ _ _ h => h) (Or.inr ⟨by rfl, rfl⟩) HSv ?_
                  simp only [Act.put, List.setIfInBounds_toArray, List.set_cons_zero, List.set_cons_succ]
                  refine wpAnyN_take (i := 17) (oi := { dst := some 128, op := Op.indexAddr 27 (Operand.tmp 126) (Operand.tmp 127), type := 0, pos := "outright.go:136", after := #[{ on := 15, ground := Ground.data }, { on := 16, ground := Ground.data }, { on := 14, ground := Ground.guard }], guard := some (14, false) }) (v := undef) rfl (by kernel_rfl) (by kernel_rfl) (by kernel_rfl) (fun _ _ _ h => h) (Or.inr ⟨by rfl, rfl⟩) HSv ?_
                  simp only [Act.put, List.setIfInBounds_toArray, List.set_cons_zero, List.set_cons_succ]
                  refine wpAnyN_take (i := 18) (oi := { dst := some 129, op := Op.fieldAddr 46 (Operand.tmp 128) 1, type := 0, pos := "outright.go:136", after := #[{ on := 17, ground := Ground.data }, { on := 14, ground := Ground.guard }], guard := some (14, false) }) (v := undef) rfl (by kernel_rfl) (by kernel_rfl) (by kernel_rfl) (fun _ _ _ h => h) (Or.inr ⟨by rfl, rfl⟩) HSv ?_
                  simp only [Act.put, List.setIfInBounds_toArray, List.set_cons_zero, List.set_cons_succ]
                  refine wpAnyN_take (i := 19) (oi := { dst := some 130, op := Op.load 9 (Operand.tmp 129), type := 9, pos := "outright.go:136", after := #[{ on := 18, ground := Ground.data }, { on := 14, ground := Ground.guard }], guard := some (14, false) }) (v := undef) rfl (by kernel_rfl) (by kernel_rfl) (by kernel_rfl) (fun _ _ _ h => h) (Or.inr ⟨by rfl, rfl⟩) HSv ?_
                  simp only [Act.put, List.setIfInBounds_toArray, List.set_cons_zero, List.set_cons_succ]
                  refine wpAnyN_take (i := 20) (oi := { dst := some 131, op := Op.move (Operand.tmp 6), type := 27, pos := "outright.go:136", after := #[{ on := 14, ground := Ground.guard }], guard := some (14, false) }) (v := undef) rfl (by kernel_rfl) (by kernel_rfl) (by kernel_rfl) (fun _ _ _ h => h) (Or.inr ⟨by rfl, rfl⟩) HSv ?_
                  simp only [Act.put, List.setIfInBounds_toArray, List.set_cons_zero, List.set_cons_succ]
                  refine wpAnyN_take (i := 21) (oi := { dst := some 132, op := Op.move (Operand.tmp 11), type := 3, pos := "outright.go:136", after := #[{ on := 14, ground := Ground.guard }], guard := some (14, false) }) (v := undef) rfl (by kernel_rfl) (by kernel_rfl) (by kernel_rfl) (fun _ _ _ h => h) (Or.inr ⟨by rfl, rfl⟩) HSv ?_
                  simp only [Act.put, List.setIfInBounds_toArray, List.set_cons_zero, List.set_cons_succ]
                  refine wpAnyN_take (i := 22) (oi := { dst := some 133, op := Op.indexAddr 27 (Operand.tmp 131) (Operand.tmp 132), type := 0, pos := "outright.go:136", after := #[{ on := 20, ground := Ground.data }, { on := 21, ground := Ground.data }, { on := 14, ground := Ground.guard }], guard := some (14, false) }) (v := undef) rfl (by kernel_rfl) (by kernel_rfl) (by kernel_rfl) (fun _ _ _ h => h) (Or.inr ⟨by rfl, rfl⟩) HSv ?_
                  simp only [Act.put, List.setIfInBounds_toArray, List.set_cons_zero, List.set_cons_succ]
                  refine wpAnyN_take (i := 23) (oi := { dst := some 134, op := Op.fieldAddr 46 (Operand.tmp 133) 1, type := 0, pos := "outright.go:136", after := #[{ on := 22, ground := Ground.data }, { on := 14, ground := Ground.guard }], guard := some (14, false) }) (v := undef) rfl (by kernel_rfl) (by kernel_rfl) (by kernel_rfl) (fun _ _ _ h => h) (Or.inr ⟨by rfl, rfl⟩) HSv ?_
                  simp only [Act.put, List.setIfInBounds_toArray, List.set_cons_zero, List.set_cons_succ]
                  refine wpAnyN_take (i := 24) (oi := { dst := some 135, op := Op.load 9 (Operand.tmp 134), type := 9, pos := "outright.go:136", after := #[{ on := 23, ground := Ground.data }, { on := 14, ground := Ground.guard }], guard := some (14, false) }) (v := undef) rfl (by kernel_rfl) (by kernel_rfl) (by kernel_rfl) (fun _ _ _ h => h) (Or.inr ⟨by rfl, rfl⟩) HSv ?_
                  simp only [Act.put, List.setIfInBounds_toArray, List.set_cons_zero, List.set_cons_succ]
                  refine wpAnyN_take (i := 25) (oi := { dst := some 136, op := Op.binOp BinOp.eql 9 (Operand.tmp 130) (Operand.tmp 135) 9, type := 4, pos := "outright.go:136", after := #[{ on := 19, ground := Ground.data }, { on := 24, ground := Ground.data }, { on := 14, ground := Ground.guard }], guard := some (14, false) }) (v := undef) rfl (by kernel_rfl) (by kernel_rfl) (by kernel_rfl) (fun _ _ _ h => h) (Or.inr ⟨by rfl, rfl⟩) HSv ?_
                  simp only [Act.put, List.setIfInBounds_toArray, List.set_cons_zero, List.set_cons_succ]
                  refine wpAnyN_take (i := 26) (oi := { dst := some 137, op := Op.pick (Operand.tmp 125) (Operand.const (Value.bool true)) (Operand.tmp 136), type := 4, pos := "outright.go:136", after := #[{ on := 14, ground := Ground.data }, { on := 25, ground := Ground.data }, { on := 11, ground := Ground.guard }], guard := some (11, true) }) (v := undef) rfl (by kernel_rfl) (by kernel_rfl) (by kernel_rfl) (fun _ _ _ h => h) (Or.inr ⟨by rfl, rfl⟩) HSv ?_
                  simp only [Act.put, List.setIfInBounds_toArray, List.set_cons_zero, List.set_cons_succ]
                  refine wpAnyN_take (i := 27) (oi := { dst := some 138, op := Op.pick (Operand.tmp 122) (Operand.tmp 137) (Operand.const (Value.bool false)), type := 4, pos := "outright.go:136", after := #[{ on := 11, ground := Ground.data }, { on := 26, ground := Ground.data }], guard := none }) (v := .bool false) rfl (by kernel_rfl) (by kernel_rfl) (by kernel_rfl) (fun _ _ _ h => h) (Or.inl ⟨by rfl, ?_⟩) HSv ?_
                  · intro W hW
                    go_simp
                    try with_reducible rfl
                  simp only [Act.put, List.setIfInBounds_toArray, List.set_cons_zero, List.set_cons_succ]
                  refine wpAnyN_end 28 (by decide) rfl (by kernel_rfl) ?_
                  simp only [List.drop_succ_cons, List.drop_zero]
                  go_wp2_with fail
                  go_roundg (n2 - (k + 1))
                  case measure => omega
                  case rel => exact ⟨k + 1, a, by omega, by omega, rfl, rfl, by go_num, HSM.out HNR.out, BQ.out⟩
              · obtain rfl : a = m := by omega
                have HAL := Lib.hid (alive_any wr)
                go_wp2_with (go_at_call 10; refine HAL.out.mono ?_; rintro e w6 ⟨rfl, b6⟩; have HB6 := Lib.hid b6; clear b6)
                go_ret
                exact ⟨rfl, HO.out.2.1.trans ((HK.out.2.trans (HB6.out.mono HK.out.2.size)).mono HO.out.2.1.size)⟩
            · obtain rfl : n2 = k := by omega
              have hd0 : l.drop n2 = [] := by rw [H.out.2.2.2.2.2]; exact List.drop_length
              have hs := HK.out.1
              rw [hd0] at hs
              have h0 := congrArg List.length hs.end'
              rw [List.length_drop, List.length_nil, ← HO.out.2.2] at h0
              obtain rfl : a = m := by omega
              clear hd0 hs h0
              have HAL := Lib.hid (alive_any wr)
              go_wp2_with (go_at_call 10; refine HAL.out.mono ?_; rintro e w6 ⟨rfl, b6⟩; have HB6 := Lib.hid b6; clear b6)
              go_ret
              exact ⟨rfl, HO.out.2.1.trans ((HK.out.2.trans (HB6.out.mono HK.out.2.size)).mono HO.out.2.1.size)⟩
        · have HSB := Lib.hid (HP.out.2.2.2.2.2 (by decide))
          clear hm0
          go_wp2_with fail
          clear HR HL HA HJ dlt
          have hmz : (((m : Nat) : Int) == 0) = false := by simp; omega
          try simp only [hmz]
          go_loopg [11, 12] n2 (fun x ar i wr => ∃ (k a : Nat), k ≤ n2 ∧ a ≤ m ∧ x = n2 - k ∧ ar = .int .i64 a ∧ i = .int .i64 k ∧ Hid (Sub (RelO 4) (l.drop k) (o.drop a) ∧ Below w1.heap.size w1 wr))
          case atStart => exact ⟨0, 0, by omega, by omega, by omega, rfl, rfl, HSB.out, Below.refl _ _⟩
          case round =>
            obtain ⟨k, a, hk, ha, rfl, rfl, rfl, hK⟩ := hrel
            have HK := Lib.hid hK.out
            clear hK
            by_cases hkn : k < n2
            · by_cases ham : a < m
              · have hkl' : k < l.length := by have := H.out.2.2.2.2.2; omega
                have hal' : a < o.length := by have := HO.out.2.2; omega
                obtain ⟨bb, off, rfl, hbb, -, -, -, -, e0, e1⟩ := (Opts.below H.out.2.1 (HO.out.2.1.trans (HK.out.2.mono HO.out.2.1.size))).at k hkl'
                obtain ⟨bc, ofc, rfl, hbc, -, -, -, -, f0, f1⟩ := ((HO.out.1.below HK.out.2).opts (by have := HP.out.1; have := HV.out.2; unfold maxLen; omega)).at a hal'
                have hsub := HK.out.1
                rw [List.drop_eq_getElem_cons hkl', List.drop_eq_getElem_cons hal'] at hsub
                have HSH := Lib.hid hsub.hit
                have HSM := Lib.hid (fun hn : ¬ RelO 4 l[k] o[a] => hsub.miss hn)
                rw [← List.drop_eq_getElem_cons hal'] at HSM
                have BQ := Lib.hid (HK.out.2.drew)
                clear hsub
                generalize l[k] = x at *
                generalize o[a] = y at *
                obtain ⟨tx, vx⟩ := x
                obtain ⟨ty, vy⟩ := y
                simp only at e0 e1 f0 f1
                have HSv : (fun W : World => W.cell? ⟨bb, off + k * 2, none⟩ = some (.int .i64 tx) ∧ W.cell? ⟨bb, off + k * 2 + 1, none⟩ = some (.string vx) ∧ W.cell? ⟨bc, ofc + a * 2, none⟩ = some (.int .i64 ty) ∧ W.cell? ⟨bc, ofc + a * 2 + 1, none⟩ = some (.string vy)) wr.drew := ⟨e0, e1, f0, f1⟩
                go_wp2_with fail
                refine wp_region_N 28 (fun W : World => W.cell? ⟨bb, off + k * 2, none⟩ = some (.int .i64 tx) ∧ W.cell? ⟨bb, off + k * 2 + 1, none⟩ = some (.string vx) ∧ W.cell? ⟨bc, ofc + a * 2, none⟩ = some (.int .i64 ty) ∧ W.cell? ⟨bc, ofc + a * 2 + 1, none⟩ = some (.string vy)) (by kernel_rfl) ?_
                refine wpAnyN_take (i := 0) (oi := { dst := some 111, op := Op.move (Operand.tmp 1), type := 27, pos := "outright.go:136", after := #[], guard := none }) (v := .slice (some ⟨bb, off, none⟩) n2 k2) rfl (by kernel_rfl) (by kernel_rfl) (by kernel_rfl) (fun _ _ _ h => h) (Or.inl ⟨by rfl, ?_⟩) HSv ?_
                · intro W hW
                  go_simp
                  try with_reducible rfl
                simp only [Act.put, List.setIfInBounds_toArray, List.set_cons_zero, List.set_cons_succ]
                refine wpAnyN_take (i := 1) (oi := { dst := some 112, op := Op.move (Operand.tmp 12), type := 3, pos := "outright.go:136", after := #[], guard := none }) (v := .int .i64 k) rfl (by kernel_rfl) (by kernel_rfl) (by kernel_rfl) (fun _ _ _ h => h) (Or.inl ⟨by rfl, ?_⟩) HSv ?_
                · intro W hW
                  go_simp
                  try with_reducible rfl
                simp only [Act.put, List.setIfInBounds_toArray, List.set_cons_zero, List.set_cons_succ]
                refine wpAnyN_take (i := 2) (oi := { dst := some 113, op := Op.indexAddr 27 (Operand.tmp 111) (Operand.tmp 112), type := 0, pos := "outright.go:136", after := #[{ on := 0, ground := Ground.data }, { on := 1, ground := Ground.data }], guard := none }) (v := .pointer (some ⟨bb, off + k * 2, none⟩)) rfl (by kernel_rfl) (by kernel_rfl) (by kernel_rfl) (fun _ _ _ h => h) (Or.inl ⟨by rfl, ?_⟩) HSv ?_
                · intro W hW
                  obtain ⟨h1, h2, h3, h4⟩ := hW
                  go_simp
                  try with_reducible rfl
                simp only [Act.put, List.setIfInBounds_toArray, List.set_cons_zero, List.set_cons_succ]
                refine wpAnyN_take (i := 3) (oi := { dst := some 114, op := Op.fieldAddr 46 (Operand.tmp 113) 0, type := 0, pos := "outright.go:136", after := #[{ on := 2, ground := Ground.data }], guard := none }) (v := .pointer (some ⟨bb, off + k * 2, none⟩)) rfl (by kernel_rfl) (by kernel_rfl) (by kernel_rfl) (fun _ _ _ h => h) (Or.inl ⟨by rfl, ?_⟩) HSv ?_
                · intro W hW
                  go_simp
                  try with_reducible rfl
                simp only [Act.put, List.setIfInBounds_toArray, List.set_cons_zero, List.set_cons_succ]
                refine wpAnyN_take (i := 4) (oi := { dst := some 115, op := Op.load 3 (Operand.tmp 114), type := 3, pos := "outright.go:136", after := #[{ on := 3, ground := Ground.data }], guard := none }) (v := .int .i64 tx) rfl (by kernel_rfl) (by kernel_rfl) (by kernel_rfl) (fun _ _ _ h => h) (Or.inl ⟨by rfl, ?_⟩) HSv ?_
                · intro W hW
                  obtain ⟨h1, h2, h3, h4⟩ := hW
                  go_simp
                  try with_reducible rfl
                simp only [Act.put, List.setIfInBounds_toArray, List.set_cons_zero, List.set_cons_succ]
                refine wpAnyN_take (i := 5) (oi := { dst := some 116, op := Op.move (Operand.tmp 6), type := 27, pos := "outright.go:136", after := #[], guard := none }) (v := .slice (some ⟨bc, ofc, none⟩) m c1) rfl (by kernel_rfl) (by kernel_rfl) (by kernel_rfl) (fun _ _ _ h => h) (Or.inl ⟨by rfl, ?_⟩) HSv ?_
                · intro W hW
                  go_simp
                  try with_reducible rfl
                simp only [Act.put, List.setIfInBounds_toArray, List.set_cons_zero, List.set_cons_succ]
                refine wpAnyN_take (i := 6) (oi := { dst := some 117, op := Op.move (Operand.tmp 11), type := 3, pos := "outright.go:136", after := #[], guard := none }) (v := .int .i64 a) rfl (by kernel_rfl) (by kernel_rfl) (by kernel_rfl) (fun _ _ _ h => h) (Or.inl ⟨by rfl, ?_⟩) HSv ?_
                · intro W hW
                  go_simp
                  try with_reducible rfl
                simp only [Act.put, List.setIfInBounds_toArray, List.set_cons_zero, List.set_cons_succ]
                refine wpAnyN_take (i := 7) (oi := { dst := some 118, op := Op.indexAddr 27 (Operand.tmp 116) (Operand.tmp 117), type := 0, pos := "outright.go:136", after := #[{ on := 5, ground := Ground.data }, { on := 6, ground := Ground.data }], guard := none }) (v := .pointer (some ⟨bc, ofc + a * 2, none⟩)) rfl (by kernel_rfl) (by kernel_rfl) (by kernel_rfl) (fun _ _ _ h => h) (Or.inl ⟨by rfl, ?_⟩) HSv ?_
                · intro W hW
                  obtain ⟨h1, h2, h3, h4⟩ := hW
                  go_simp
                  try with_reducible rfl
                simp only [Act.put, List.setIfInBounds_toArray, List.set_cons_zero, List.set_cons_succ]
                refine wpAnyN_take (i := 8) (oi := { dst := some 119, op := Op.fieldAddr 46 (Operand.tmp 118) 0, type := 0, pos := "outright.go:136", after := #[{ on := 7, ground := Ground.data }], guard := none }) (v := .pointer (some ⟨bc, ofc + a * 2, none⟩)) rfl (by kernel_rfl) (by kernel_rfl) (by kernel_rfl) (fun _ _ _ h => h) (Or.inl ⟨by rfl, ?_⟩) HSv ?_
                · intro W hW
                  go_simp
                  try with_reducible rfl
                simp only [Act.put, List.setIfInBounds_toArray, List.set_cons_zero, List.set_cons_succ]
                refine wpAnyN_take (i := 9) (oi := { dst := some 120, op := Op.load 3 (Operand.tmp 119), type := 3, pos := "outright.go:136", after := #[{ on := 8, ground := Ground.data }], guard := none }) (v := .int .i64 ty) rfl (by kernel_rfl) (by kernel_rfl) (by kernel_rfl) (fun _ _ _ h => h) (Or.inl ⟨by rfl, ?_⟩) HSv ?_
                · intro W hW
                  obtain ⟨h1, h2, h3, h4⟩ := hW
                  go_simp
                  try with_reducible rfl
                simp only [Act.put, List.setIfInBounds_toArray, List.set_cons_zero, List.set_cons_succ]
                by_cases ht : tx = ty
                · subst ht
                  by_cases hv : vx = vy
                  · subst hv
                    refine wpAnyN_take (i := 10) (oi := { dst := some 121, op := Op.binOp BinOp.eql 3 (Operand.tmp 115) (Operand.tmp 120) 3, type := 4, pos := "outright.go:136", after := #[{ on := 4, ground := Ground.data }, { on := 9, ground := Ground.data }], guard := none }) (v := .bool true) rfl (by kernel_rfl) (by kernel_rfl) (by kernel_rfl) (fun _ _ _ h => h) (Or.inl ⟨by rfl, ?_⟩) HSv ?_
                    · intro W hW
                      go_simp
                      try with_reducible rfl
                    simp only [Act.put, List.setIfInBounds_toArray, List.set_cons_zero, List.set_cons_succ]
                    refine wpAnyN_take (i := 11) (oi := { dst := some 122, op := Op.move (Operand.tmp 121), type := 4, pos := "outright.go:136", after := #[{ on := 10, ground := Ground.data }], guard := none }) (v := .bool true) rfl (by kernel_rfl) (by kernel_rfl) (by kernel_rfl) (fun _ _ _ h => h) (Or.inl ⟨by rfl, ?_⟩) HSv ?_
                    · intro W hW
                      go_simp
                      try with_reducible rfl
                    simp only [Act.put, List.setIfInBounds_toArray, List.set_cons_zero, List.set_cons_succ]
                    refine wpAnyN_take (i := 12) (oi := { dst := some 123, op := Op.move (Operand.tmp 5), type := 3, pos := "outright.go:136", after := #[{ on := 11, ground := Ground.guard }], guard := some (11, true) }) (v := .int .i64 4) rfl (by kernel_rfl) (by kernel_rfl) (by kernel_rfl) (fun _ _ _ h => h) (Or.inl ⟨by rfl, ?_⟩) HSv ?_
                    · intro W hW
                      go_simp
                      try with_reducible rfl
                    simp only [Act.put, List.setIfInBounds_toArray, List.set_cons_zero, List.set_cons_succ]
                    refine wpAnyN_take (i := 13) (oi := { dst := some 124, op := Op.binOp BinOp.eql 3 (Operand.tmp 123) (Operand.const (Value.int IntKind.i64 3)) 3, type := 4, pos := "outright.go:136", after := #[{ on := 12, ground := Ground.data }, { on := 11, ground := Ground.guard }], guard := some (11, true) }) (v := .bool false) rfl (by kernel_rfl) (by kernel_rfl) (by kernel_rfl) (fun _ _ _ h => h) (Or.inl ⟨by rfl, ?_⟩) HSv ?_
                    · intro W hW
                      go_simp
                      try with_reducible rfl
                    simp only [Act.put, List.setIfInBounds_toArray, List.set_cons_zero, List.set_cons_succ]
                    refine wpAnyN_take (i := 14) (oi := { dst := some 125, op := Op.move (Operand.tmp 124), type := 4, pos := "outright.go:136", after := #[{ on := 13, ground := Ground.data }, { on := 11, ground := Ground.chain }, { on := 11, ground := Ground.guard }], guard := some (11, true) }) (v := .bool false) rfl (by kernel_rfl) (by kernel_rfl) (by kernel_rfl) (fun _ _ _ h => h) (Or.inl ⟨by rfl, ?_⟩) HSv ?_
                    · intro W hW
                      go_simp
                      try with_reducible rfl
                    simp only [Act.put, List.setIfInBounds_toArray, List.set_cons_zero, List.set_cons_succ]
                    refine wpAnyN_take (i := 15) (oi := { dst := some 126, op := Op.move (Operand.tmp 1), type := 27, pos := "outright.go:136", after := #[{ on := 14, ground := Ground.guard }], guard := some (14, false) }) (v := .slice (some ⟨bb, off, none⟩) n2 k2) rfl (by kernel_rfl) (by kernel_rfl) (by kernel_rfl) (fun _ _ _ h => h) (Or.inl ⟨by rfl, ?_⟩) HSv ?_
                    · intro W hW
                      go_simp
                      try with_reducible rfl
                    simp only [Act.put, List.setIfInBounds_toArray, List.set_cons_zero, List.set_cons_succ]
                    refine wpAnyN_take (i := 16) (oi := { dst := some 127, op := Op.move (Operand.tmp 12), type := 3, pos := "outright.go:136", after := #[{ on := 14, ground := Ground.guard }], guard := some (14, false) }) (v := .int .i64 k) rfl (by kernel_rfl) (by kernel_rfl) (by kernel_rfl) (fun _ _ _ h => h) (Or.inl ⟨by rfl, ?_⟩) HSv ?_
                    · intro W hW
                      go_simp
                      try with_reducible rfl
                    simp only [Act.put, List.setIfInBounds_toArray, List.set_cons_zero, List.set_cons_succ]
                    refine wpAnyN_take (i := 17) (oi := { dst := some 128, op := Op.indexAddr 27 (Operand.tmp 126) (Operand.tmp 127), type := 0, pos := "outright.go:136", after := #[{ on := 15, ground := Ground.data }, { on := 16, ground := Ground.data }, { on := 14, ground := Ground.guard }], guard := some (14, false) }) (v := .pointer (some ⟨bb, off + k * 2, none⟩)) rfl (by kernel_rfl) (by kernel_rfl) (by kernel_rfl) (fun _ _ _ h => h) (Or.inl ⟨by rfl, ?_⟩) HSv ?_
                    · intro W hW
                      obtain ⟨h1, h2, h3, h4⟩ := hW
                      go_simp
                      try with_reducible rfl
                    simp only [Act.put, List.setIfInBounds_toArray, List.set_cons_zero, List.set_cons_succ]
                    refine wpAnyN_take (i := 18) (oi := { dst := some 129, op := Op.fieldAddr 46 (Operand.tmp 128) 1, type := 0, pos := "outright.go:136", after := #[{ on := 17, ground := Ground.data }, { on := 14, ground := Ground.guard }], guard := some (14, false) }) (v := .pointer (some ⟨bb, off + k * 2 + 1, none⟩)) rfl (by kernel_rfl) (by kernel_rfl) (by kernel_rfl) (fun _ _ _ h => h) (Or.inl ⟨by rfl, ?_⟩) HSv ?_
                    · intro W hW
                      go_simp
                      try with_reducible rfl
                    simp only [Act.put, List.setIfInBounds_toArray, List.set_cons_zero, List.set_cons_succ]
                    refine wpAnyN_take (i := 19) (oi := { dst := some 130, op := Op.load 9 (Operand.tmp 129), type := 9, pos := "outright.go:136", after := #[{ on := 18, ground := Ground.data }, { on := 14, ground := Ground.guard }], guard := some (14, false) }) (v := .string vx) rfl (by kernel_rfl) (by kernel_rfl) (by kernel_rfl) (fun _ _ _ h => h) (Or.inl ⟨by rfl, ?_⟩) HSv ?_
                    · intro W hW
                      obtain ⟨h1, h2, h3, h4⟩ := hW
                      go_simp
                      try with_reducible rfl
                    simp only [Act.put, List.setIfInBounds_toArray, List.set_cons_zero, List.set_cons_succ]
                    refine wpAnyN_take (i := 20) (oi := { dst := some 131, op := Op.move (Operand.tmp 6), type := 27, pos := "outright.go:136", after := #[{ on := 14, ground := Ground.guard }], guard := some (14, false) }) (v := .slice (some ⟨bc, ofc, none⟩) m c1) rfl (by kernel_rfl) (by kernel_rfl) (by kernel_rfl) (fun _ _ _ h => h) (Or.inl ⟨by rfl, ?_⟩) HSv ?_
                    · intro W hW
                      go_simp
                      try with_reducible rfl
                    simp only [Act.put, List.setIfInBounds_toArray, List.set_cons_zero, List.set_cons_succ]
                    refine wpAnyN_take (i := 21) (oi := { dst := some 132, op := Op.move (Operand.tmp 11), type := 3, pos := "outright.go:136", after := #[{ on := 14, ground := Ground.guard }], guard := some (14, false) }) (v := .int .i64 a) rfl (by kernel_rfl) (by kernel_rfl) (by kernel_rfl) (fun _ _ _ h => h) (Or.inl ⟨by rfl, ?_⟩) HSv ?_
                    · intro W hW
                      go_simp
                      try with_reducible rfl
                    simp only [Act.put, List.setIfInBounds_toArray, List.set_cons_zero, List.set_cons_succ]
                    refine wpAnyN_take (i := 22) (oi := { dst := some 133, op := Op.indexAddr 27 (Operand.tmp 131) (Operand.tmp 132), type := 0, pos := "outright.go:136", after := #[{ on := 20, ground := Ground.data }, { on := 21, ground := Ground.data }, { on := 14, ground := Ground.guard }], guard := some (14, false) }) (v := .pointer (some ⟨bc, ofc + a * 2, none⟩)) rfl (by kernel_rfl) (by kernel_rfl) (by kernel_rfl) (fun _ _ _ h => h) (Or.inl ⟨by rfl, ?_⟩) HSv ?_
                    · intro W hW
                      obtain ⟨h1, h2, h3, h4⟩ := hW
                      go_simp
                      try with_reducible rfl
                    simp only [Act.put, List.setIfInBounds_toArray, List.set_cons_zero, List.set_cons_succ]
                    refine wpAnyN_take (i := 23) (oi := { dst := some 134, op := Op.fieldAddr 46 (Operand.tmp 133) 1, type := 0, pos := "outright.go:136", after := #[{ on := 22, ground := Ground.data }, { on := 14, ground := Ground.guard }], guard := some (14, false) }) (v := .pointer (some ⟨bc, ofc + a * 2 + 1, none⟩)) rfl (by kernel_rfl) (by kernel_rfl) (by kernel_rfl) (fun _ _ _ h => h) (Or.inl ⟨by rfl, ?_⟩) HSv ?_
                    · intro W hW
                      go_simp
                      try with_reducible rfl
                    simp only [Act.put, List.setIfInBounds_toArray, List.set_cons_zero, List.set_cons_succ]
                    refine wpAnyN_take (i := 24) (oi := { dst := some 135, op := Op.load 9 (Operand.tmp 134), type := 9, pos := "outright.go:136", after := #[{ on := 23, ground := Ground.data }, { on := 14, ground := Ground.guard }], guard := some (14, false) }) (v := .string vx) rfl (by kernel_rfl) (by kernel_rfl) (by kernel_rfl) (fun _ _ _ h => h) (Or.inl ⟨by rfl, ?_⟩) HSv ?_
                    · intro W hW
                      obtain ⟨h1, h2, h3, h4⟩ := hW
                      go_simp
                      try with_reducible rfl
                    simp only [Act.put, List.setIfInBounds_toArray, List.set_cons_zero, List.set_cons_succ]
                    refine wpAnyN_take (i := 25) (oi := { dst := some 136, op := Op.binOp BinOp.eql 9 (Operand.tmp 130) (Operand.tmp 135) 9, type := 4, pos := "outright.go:136", after := #[{ on := 19, ground := Ground.data }, { on := 24, ground := Ground.data }, { on := 14, ground := Ground.guard }], guard := some (14, false) }) (v := .bool true) rfl (by kernel_rfl) (by kernel_rfl) (by kernel_rfl) (fun _ _ _ h => h) (Or.inl ⟨by rfl, ?_⟩) HSv ?_
                    · intro W hW
                      go_simp
                      try with_reducible rfl
                    simp only [Act.put, List.setIfInBounds_toArray, List.set_cons_zero, List.set_cons_succ]
                    refine wpAnyN_take (i := 26) (oi := { dst := some 137, op := Op.pick (Operand.tmp 125) (Operand.const (Value.bool true)) (Operand.tmp 136), type := 4, pos := "outright.go:136", after := #[{ on := 14, ground := Ground.data }, { on := 25, ground := Ground.data }, { on := 11, ground := Ground.guard }], guard := some (11, true) }) (v := .bool true) rfl (by kernel_rfl) (by kernel_rfl) (by kernel_rfl) (fun _ _ _ h => h) (Or.inl ⟨by rfl, ?_⟩) HSv ?_
                    · intro W hW
                      go_simp
                      try with_reducible rfl
                    simp only [Act.put, List.setIfInBounds_toArray, List.set_cons_zero, List.set_cons_succ]
                    refine wpAnyN_take (i := 27) (oi := { dst := some 138, op := Op.pick (Operand.tmp 122) (Operand.tmp 137) (Operand.const (Value.bool false)), type := 4, pos := "outright.go:136", after := #[{ on := 11, ground := Ground.data }, { on := 26, ground := Ground.data }], guard := none }) (v := .bool true) rfl (by kernel_rfl) (by kernel_rfl) (by kernel_rfl) (fun _ _ _ h => h) (Or.inl ⟨by rfl, ?_⟩) HSv ?_
                    · intro W hW
                      go_simp
                      try with_reducible rfl
                    simp only [Act.put, List.setIfInBounds_toArray, List.set_cons_zero, List.set_cons_succ]
                    refine wpAnyN_end 28 (by decide) rfl (by kernel_rfl) ?_
                    simp only [List.drop_succ_cons, List.drop_zero]
                    go_wp2_with fail
                    go_roundg (n2 - (k + 1))
                    case measure => omega
                    case rel => exact ⟨k + 1, a + 1, by omega, by omega, rfl, by go_num, by go_num, HSH.out, BQ.out⟩
                  · have HNR := Lib.hid (show ¬ RelO 4 ⟨tx, vx⟩ ⟨tx, vy⟩ from fun h => h.2.elim (fun h => by cases h) hv)
                    have hvl : ¬ vx.toList = vy.toList := fun h => hv (by rw [ByteArray.toList_eq, ByteArray.toList_eq] at h; exact ByteArray.ext (Array.ext' h))
                    clear hv
                    refine wpAnyN_take (i := 10) (oi := { dst := some 121, op := Op.binOp BinOp.eql 3 (Operand.tmp 115) (Operand.tmp 120) 3, type := 4, pos := "outright.go:136", after := #[{ on := 4, ground := Ground.data }, { on := 9, ground := Ground.data }], guard := none }) (v := .bool true) rfl (by kernel_rfl) (by kernel_rfl) (by kernel_rfl) (fun _ _ _ h => h) (Or.inl ⟨by rfl, ?_⟩) HSv ?_
                    · intro W hW
                      go_simp
                      try with_reducible rfl
                    simp only [Act.put, List.setIfInBounds_toArray, List.set_cons_zero, List.set_cons_succ]
                    refine wpAnyN_take (i := 11) (oi := { dst := some 122, op := Op.move (Operand.tmp 121), type := 4, pos := "outright.go:136", after := #[{ on := 10, ground := Ground.data }], guard := none }) (v := .bool true) rfl (by kernel_rfl) (by kernel_rfl) (by kernel_rfl) (fun _ _ _ h => h) (Or.inl ⟨by rfl, ?_⟩) HSv ?_
                    · intro W hW
                      go_simp
                      try with_reducible rfl
                    simp only [Act.put, List.setIfInBounds_toArray, List.set_cons_zero, List.set_cons_succ]
                    refine wpAnyN_take (i := 12) (oi := { dst := some 123, op := Op.move (Operand.tmp 5), type := 3, pos := "outright.go:136", after := #[{ on := 11, ground := Ground.guard }], guard := some (11, true) }) (v := .int .i64 4) rfl (by kernel_rfl) (by kernel_rfl) (by kernel_rfl) (fun _ _ _ h => h) (Or.inl ⟨by rfl, ?_⟩) HSv ?_
                    · intro W hW
                      go_simp
                      try with_reducible rfl
                    simp only [Act.put, List.setIfInBounds_toArray, List.set_cons_zero, List.set_cons_succ]
                    refine wpAnyN_take (i := 13) (oi := { dst := some 124, op := Op.binOp BinOp.eql 3 (Operand.tmp 123) (Operand.const (Value.int IntKind.i64 3)) 3, type := 4, pos := "outright.go:136", after := #[{ on := 12, ground := Ground.data }, { on := 11, ground := Ground.guard }], guard := some (11, true) }) (v := .bool false) rfl (by kernel_rfl) (by kernel_rfl) (by kernel_rfl) (fun _ _ _ h => h) (Or.inl ⟨by rfl, ?_⟩) HSv ?_
                    · intro W hW
                      go_simp
                      try with_reducible rfl
                    simp only [Act.put, List.setIfInBounds_toArray, List.set_cons_zero, List.set_cons_succ]
                    refine wpAnyN_take (i := 14) (oi := { dst := some 125, op := Op.move (Operand.tmp 124), type := 4, pos := "outright.go:136", after := #[{ on := 13, ground := Ground.data }, { on := 11, ground := Ground.chain }, { on := 11, ground := Ground.guard }], guard := some (11, true) }) (v := .bool false) rfl (by kernel_rfl) (by kernel_rfl) (by kernel_rfl) (fun _ _ _ h => h) (Or.inl ⟨by rfl, ?_⟩) HSv ?_
                    · intro W hW
                      go_simp
                      try with_reducible rfl
                    simp only [Act.put, List.setIfInBounds_toArray, List.set_cons_zero, List.set_cons_succ]
                    refine wpAnyN_take (i := 15) (oi := { dst := some 126, op := Op.move (Operand.tmp 1), type := 27, pos := "outright.go:136", after := #[{ on := 14, ground := Ground.guard }], guard := some (14, false) }) (v := .slice (some ⟨bb, off, none⟩) n2 k2) rfl (by kernel_rfl) (by kernel_rfl) (by kernel_rfl) (fun _ _ _ h => h) (Or.inl ⟨by rfl, ?_⟩) HSv ?_
                    · intro W hW
                      go_simp
                      try with_reducible rfl
                    simp only [Act.put, List.setIfInBounds_toArray, List.set_cons_zero, List.set_cons_succ]
                    refine wpAnyN_take (i := 16) (oi := { dst := some 127, op := Op.move (Operand.tmp 12), type := 3, pos := "outright.go:136", after := #[{ on := 14, ground := Ground.guard }], guard := some (14, false) }) (v := .int .i64 k) rfl (by kernel_rfl) (by kernel_rfl) (by kernel_rfl) (fun _ _ _ h => h) (Or.inl ⟨by rfl, ?_⟩) HSv ?_
                    · intro W hW
                      go_simp
                      try with_reducible rfl
                    simp only [Act.put, List.setIfInBounds_toArray, List.set_cons_zero, List.set_cons_succ]
                    refine wpAnyN_take (i := 17) (oi := { dst := some 128, op := Op.indexAddr 27 (Operand.tmp 126) (Operand.tmp 127), type := 0, pos := "outright.go:136", after := #[{ on := 15, ground := Ground.data }, { on := 16, ground := Ground.data }, { on := 14, ground := Ground.guard }], guard := some (14, false) }) (v := .pointer (some ⟨bb, off + k * 2, none⟩)) rfl (by kernel_rfl) (by kernel_rfl) (by kernel_rfl) (fun _ _ _ h => h) (Or.inl ⟨by rfl, ?_⟩) HSv ?_
                    · intro W hW
                      obtain ⟨h1, h2, h3, h4⟩ := hW
                      go_simp
                      try with_reducible rfl
                    simp only [Act.put, List.setIfInBounds_toArray, List.set_cons_zero, List.set_cons_succ]
                    refine wpAnyN_take (i := 18) (oi := { dst := some 129, op := Op.fieldAddr 46 (Operand.tmp 128) 1, type := 0, pos := "outright.go:136", after := #[{ on := 17, ground := Ground.data }, { on := 14, ground := Ground.guard }], guard := some (14, false) }) (v := .pointer (some ⟨bb, off + k * 2 + 1, none⟩)) rfl (by kernel_rfl) (by kernel_rfl) (by kernel_rfl) (fun _ _ _ h => h) (Or.inl ⟨by rfl, ?_⟩) HSv ?_
                    · intro W hW
                      go_simp
                      try with_reducible rfl
                    simp only [Act.put, List.setIfInBounds_toArray, List.set_cons_zero, List.set_cons_succ]
                    refine wpAnyN_take (i := 19) (oi := { dst := some 130, op := Op.load 9 (Operand.tmp 129), type := 9, pos := "outright.go:136", after := #[{ on := 18, ground := Ground.data }, { on := 14, ground := Ground.guard }], guard := some (14, false) }) (v := .string vx) rfl (by kernel_rfl) (by kernel_rfl) (by kernel_rfl) (fun _ _ _ h => h) (Or.inl ⟨by rfl, ?_⟩) HSv ?_
                    · intro W hW
                      obtain ⟨h1, h2, h3, h4⟩ := hW
                      go_simp
                      try with_reducible rfl
                    simp only [Act.put, List.setIfInBounds_toArray, List.set_cons_zero, List.set_cons_succ]
                    refine wpAnyN_take (i := 20) (oi := { dst := some 131, op := Op.move (Operand.tmp 6), type := 27, pos := "outright.go:136", after := #[{ on := 14, ground := Ground.guard }], guard := some (14, false) }) (v := .slice (some ⟨bc, ofc, none⟩) m c1) rfl (by kernel_rfl) (by kernel_rfl) (by kernel_rfl) (fun _ _ _ h => h) (Or.inl ⟨by rfl, ?_⟩) HSv ?_
                    · intro W hW
                      go_simp
                      try with_reducible rfl
                    simp only [Act.put, List.setIfInBounds_toArray, List.set_cons_zero, List.set_cons_succ]
                    refine wpAnyN_take (i := 21) (oi := { dst := some 132, op := Op.move (Operand.tmp 11), type := 3, pos := "outright.go:136", after := #[{ on := 14, ground := Ground.guard }], guard := some (14, false) }) (v := .int .i64 a) rfl (by kernel_rfl) (by kernel_rfl) (by kernel_rfl) (fun _ _ _ h => h) (Or.inl ⟨by rfl, ?_⟩) HSv ?_
                    · intro W hW
                      go_simp
                      try with_reducible rfl
                    simp only [Act.put, List.setIfInBounds_toArray, List.set_cons_zero, List.set_cons_succ]
                    refine wpAnyN_take (i := 22) (oi := { dst := some 133, op := Op.indexAddr 27 (Operand.tmp 131) (Operand.tmp 132), type := 0, pos := "outright.go:136", after := #[{ on := 20, ground := Ground.data }, { on := 21, ground := Ground.data }, { on := 14, ground := Ground.guard }], guard := some (14, false) }) (v := .pointer (some ⟨bc, ofc + a * 2, none⟩)) rfl (by kernel_rfl) (by kernel_rfl) (by kernel_rfl) (fun _ _ _ h => h) (Or.inl ⟨by rfl, ?_⟩) HSv ?_
                    · intro W hW
                      obtain ⟨h1, h2, h3, h4⟩ := hW
                      go_simp
                      try with_reducible rfl
                    simp only [Act.put, List.setIfInBounds_toArray, List.set_cons_zero, List.set_cons_succ]
                    refine wpAnyN_take (i := 23) (oi := { dst := some 134, op := Op.fieldAddr 46 (Operand.tmp 133) 1, type := 0, pos := "outright.go:136", after := #[{ on := 22, ground := Ground.data }, { on := 14, ground := Ground.guard }], guard := some (14, false) }) (v := .pointer (some ⟨bc, ofc + a * 2 + 1, none⟩)) rfl (by kernel_rfl) (by kernel_rfl) (by kernel_rfl) (fun _ _ _ h => h) (Or.inl ⟨by rfl, ?_⟩) HSv ?_
                    · intro W hW
                      go_simp
                      try with_reducible rfl
                    simp only [Act.put, List.setIfInBounds_toArray, List.set_cons_zero, List.set_cons_succ]
                    refine wpAnyN_take (i := 24) (oi := { dst := some 135, op := Op.load 9 (Operand.tmp 134), type := 9, pos := "outright.go:136", after := #[{ on := 23, ground := Ground.data }, { on := 14, ground := Ground.guard }], guard := some (14, false) }) (v := .string vy) rfl (by kernel_rfl) (by kernel_rfl) (by kernel_rfl) (fun _ _ _ h => h) (Or.inl ⟨by rfl, ?_⟩) HSv ?_
                    · intro W hW
                      obtain ⟨h1, h2, h3, h4⟩ := hW
                      go_simp
                      try with_reducible rfl
                    simp only [Act.put, List.setIfInBounds_toArray, List.set_cons_zero, List.set_cons_succ]
                    refine wpAnyN_take (i := 25) (oi := { dst := some 136, op := Op.binOp BinOp.eql 9 (Operand.tmp 130) (Operand.tmp 135) 9, type := 4, pos := "outright.go:136", after := #[{ on := 19, ground := Ground.data }, { on := 24, ground := Ground.data }, { on := 14, ground := Ground.guard }], guard := some (14, false) }) (v := .bool false) rfl (by kernel_rfl) (by kernel_rfl) (by kernel_rfl) (fun _ _ _ h => h) (Or.inl ⟨by rfl, ?_⟩) HSv ?_
                    · intro W hW
                      go_simp
                      try with_reducible rfl
                    simp only [Act.put, List.setIfInBounds_toArray, List.set_cons_zero, List.set_cons_succ]
                    refine wpAnyN_take (i := 26) (oi := { dst := some 137, op := Op.pick (Operand.tmp 125) (Operand.const (Value.bool true)) (Operand.tmp 136), type := 4, pos := "outright.go:136", after := #[{ on := 14, ground := Ground.data }, { on := 25, ground := Ground.data }, { on := 11, ground := Ground.guard }], guard := some (11, true) }) (v := .bool false) rfl (by kernel_rfl) (by kernel_rfl) (by kernel_rfl) (fun _ _ _ h => h) (Or.inl ⟨by rfl, ?_⟩) HSv ?_
                    · intro W hW
                      go_simp
                      try with_reducible rfl
                    simp only [Act.put, List.setIfInBounds_toArray, List.set_cons_zero, List.set_cons_succ]
                    refine wpAnyN_take (i := 27) (oi := { dst := some 138, op := Op.pick (Operand.tmp 122) (Operand.tmp 137) (Operand.const (Value.bool false)), type := 4, pos := "outright.go:136", after := #[{ on := 11, ground := Ground.data }, { on := 26, ground := Ground.data }], guard := none }) (v := .bool false) rfl (by kernel_rfl) (by kernel_rfl) (by kernel_rfl) (fun _ _ _ h => h) (Or.inl ⟨by rfl, ?_⟩) HSv ?_
                    · intro W hW
                      go_simp
                      try with_reducible rfl
                    simp only [Act.put, List.setIfInBounds_toArray, List.set_cons_zero, List.set_cons_succ]
                    refine wpAnyN_end 28 (by decide) rfl (by kernel_rfl) ?_
                    simp only [List.drop_succ_cons, List.drop_zero]
                    go_wp2_with fail
                    go_roundg (n2 - (k + 1))
                    case measure => omega
                    case rel => exact ⟨k + 1, a, by omega, by omega, rfl, rfl, by go_num, HSM.out HNR.out, BQ.out⟩
                · have HNR := Lib.hid (show ¬ RelO 4 ⟨tx, vx⟩ ⟨ty, vy⟩ from fun h => ht h.1)
                  refine wpAnyN_take (i := 10) (oi := { dst := some 121, op := Op.binOp BinOp.eql 3 (Operand.tmp 115) (Operand.tmp 120) 3, type := 4, pos := "outright.go:136", after := #[{ on := 4, ground := Ground.data }, { on := 9, ground := Ground.data }], guard := none }) (v := .bool false) rfl (by kernel_rfl) (by kernel_rfl) (by kernel_rfl) (fun _ _ _ h => h) (Or.inl ⟨by rfl, ?_⟩) HSv ?_
                  · intro W hW
                    go_simp
                    try with_reducible rfl
                  simp only [Act.put, List.setIfInBounds_toArray, List.set_cons_zero, List.set_cons_succ]
                  refine wpAnyN_take (i := 11) (oi := { dst := some 122, op := Op.move (Operand.tmp 121), type := 4, pos := "outright.go:136", after := #[{ on := 10, ground := Ground.data }], guard := none }) (v := .bool false) rfl (by kernel_rfl) (by kernel_rfl) (by kernel_rfl) (fun _ _ _ h => h) (Or.inl ⟨by rfl, ?_⟩) HSv ?_
                  · intro W hW
                    go_simp
                    try with_reducible rfl
                  simp only [Act.put, List.setIfInBounds_toArray, List.set_cons_zero, List.set_cons_succ]
                  refine wpAnyN_take (i := 12) (oi := { dst := some 123, op := Op.move (Operand.tmp 5), type := 3, pos := "outright.go:136", after := #[{ on := 11, ground := Ground.guard }], guard := some (11, true) }) (v := undef) rfl (by kernel_rfl) (by kernel_rfl) (by kernel_rfl) (fun _ _ _ h => h) (Or.inr ⟨by rfl, rfl⟩) HSv ?_
                  simp only [Act.put, List.setIfInBounds_toArray, List.set_cons_zero, List.set_cons_succ]
                  refine wpAnyN_take (i := 13) (oi := { dst := some 124, op := Op.binOp BinOp.eql 3 (Operand.tmp 123) (Operand.const (Value.int IntKind.i64 3)) 3, type := 4, pos := "outright.go:136", after := #[{ on := 12, ground := Ground.data }, { on := 11, ground := Ground.guard }], guard := some (11, true) }) (v := undef) rfl (by kernel_rfl) (by kernel_rfl) (by kernel_rfl) (fun _ _ _ h => h) (Or.inr ⟨by rfl, rfl⟩) HSv ?_
                  simp only [Act.put, List.setIfInBounds_toArray, List.set_cons_zero, List.set_cons_succ]
                  refine wpAnyN_take (i := 14) (oi := { dst := some 125, op := Op.move (Operand.tmp 124), type := 4, pos := "outright.go:136", after := #[{ on := 13, ground := Ground.data }, { on := 11, ground := Ground.chain }, { on := 11, ground := Ground.guard }], guard := some (11, true) }) (v := undef) rfl (by kernel_rfl) (by kernel_rfl) (by kernel_rfl) (fun _ _ _ h => h) (Or.inr ⟨by rfl, rfl⟩) HSv ?_
                  simp only [Act.put, List.setIfInBounds_toArray, List.set_cons_zero, List.set_cons_succ]
                  refine wpAnyN_take (i := 15) (oi := { dst := some 126, op := Op.move (Operand.tmp 1), type := 27, pos := "outright.go:136", after := #[{ on := 14, ground := Ground.guard }], guard := some (14, false) }) (v := undef) rfl (by kernel_rfl) (by kernel_rfl) (by kernel_rfl) (fun _ _ _ h => h) (Or.inr ⟨by rfl, rfl⟩) HSv ?_
                  simp only [Act.put, List.setIfInBounds_toArray, List.set_cons_zero, List.set_cons_succ]
                  refine wpAnyN_take (i := 16) (oi := { dst := some 127, op := Op.move (Operand.tmp 12), type := 3, pos := "outright.go:136", after := #[{ on := 14, ground := Ground.guard }], guard := some (14, false) }) (v := undef) rfl (by kernel_rfl) (by kernel_rfl) (by kernel_rfl) (fun _ _ _ h => h) (Or.inr ⟨by rfl, rfl⟩) HSv ?_
                  simp only [Act.put, List.setIfInBounds_toArray, List.set_cons_zero, List.set_cons_succ]
                  refine wpAnyN_take (i := 17) (oi := { dst := some 128, op := Op.indexAddr 27 (Operand.tmp 126) (Operand.tmp 127), type := 0, pos := "outright.go:136", after := #[{ on := 15, ground := Ground.data }, { on := 16, ground := Ground.data }, { on := 14, ground := Ground.guard }], guard := some (14, false) }) (v := undef) rfl (by kernel_rfl) (by kernel_rfl) (by kernel_rfl) (fun _ _ _ h => h) (Or.inr ⟨by rfl, rfl⟩) HSv ?_
                  simp only [Act.put, List.setIfInBounds_toArray, List.set_cons_zero, List.set_cons_succ]
                  refine wpAnyN_take (i := 18) (oi := { dst := some 129, op := Op.fieldAddr 46 (Operand.tmp 128) 1, type := 0, pos := "outright.go:136", after := #[{ on := 17, ground := Ground.data }, { on := 14, ground := Ground.guard }], guard := some (14, false) }) (v := undef) rfl (by kernel_rfl) (by kernel_rfl) (by kernel_rfl) (fun _ _ _ h => h) (Or.inr ⟨by rfl, rfl⟩) HSv ?_
                  simp only [Act.put, List.setIfInBounds_toArray, List.set_cons_zero, List.set_cons_succ]
                  refine wpAnyN_take (i := 19) (oi := { dst := some 130, op := Op.load 9 (Operand.tmp 129), type := 9, pos := "outright.go:136", after := #[{ on := 18, ground := Ground.data }, { on := 14, ground := Ground.guard }], guard := some (14, false) }) (v := undef) rfl (by kernel_rfl) (by kernel_rfl) (by kernel_rfl) (fun _ _ _ h => h) (Or.inr ⟨by rfl, rfl⟩) HSv ?_
                  simp only [Act.put, List.setIfInBounds_toArray, List.set_cons_zero, List.set_cons_succ]
                  refine wpAnyN_take (i := 20) (oi := { dst := some 131, op := Op.move (Operand.tmp 6), type := 27, pos := "outright.go:136", after := #[{ on := 14, ground := Ground.guard }], guard := some (14, false) }) (v := undef) rfl (by kernel_rfl) (by kernel_rfl) (by kernel_rfl) (fun _ _ _ h => h) (Or.inr ⟨by rfl, rfl⟩) HSv ?_
                  simp only [Act.put, List.setIfInBounds_toArray, List.set_cons_zero, List.set_cons_succ]
                  refine wpAnyN_take (i := 21) (oi := { dst := some 132, op := Op.move (Operand.tmp 11), type := 3, pos := "outright.go:136", after := #[{ on := 14, ground := Ground.guard }], guard := some (14, false) }) (v := undef) rfl (by kernel_rfl) (by kernel_rfl) (by kernel_rfl) (fun _ _ _ h => h) (Or.inr ⟨by rfl, rfl⟩) HSv ?_
                  simp only [Act.put, List.setIfInBounds_toArray, List.set_cons_zero, List.set_cons_succ]
                  refine wpAnyN_take (i := 22) (oi := { dst := some 133, op := Op.indexAddr 27 (Operand.tmp 131) (Operand.tmp 132), type := 0, pos := "outright.go:136", after := #[{ on := 20, ground := Ground.data }, { on := 21, ground := Ground.data }, { on := 14, ground := Ground.guard }], guard := some (14, false) }) (v := undef) rfl (by kernel_rfl) (by kernel_rfl) (by kernel_rfl) (fun _ _ _ h => h) (Or.inr ⟨by rfl, rfl⟩) HSv ?_
                  simp only [Act.put, List.setIfInBounds_toArray, List.set_cons_zero, List.set_cons_succ]
                  refine wpAnyN_take (i := 23) (oi := { dst := some 134, op := Op.fieldAddr 46 (Operand.tmp 133) 1, type := 0, pos := "outright.go:136", after := #[{ on := 22, ground := Ground.data }, { on := 14, ground := Ground.guard }], guard := some (14, false) }) (v := undef) rfl (by kernel_rfl) (by kernel_rfl) (by kernel_rfl) (fun _ _ _ h => h) (Or.inr ⟨by rfl, rfl⟩) HSv ?_
                  simp only [Act.put, List.setIfInBounds_toArray, List.set_cons_zero, List.set_cons_succ]
                  refine wpAnyN_take (i := 24) (oi := { dst := some 135, op := Op.load 9 (Operand.tmp 134), type := 9, pos := "outright.go:136", after := #[{ on := 23, ground := Ground.data }, { on := 14, ground := Ground.guard }], guard := some (14, false) }) (v := undef) rfl (by kernel_rfl) (by kernel_rfl) (by kernel_rfl) (fun _ _ _ h => h) (Or.inr ⟨by rfl, rfl⟩) HSv ?_
                  simp only [Act.put, List.setIfInBounds_toArray, List.set_cons_zero, List.set_cons_succ]
                  refine wpAnyN_take (i := 25) (oi := { dst := some 136, op := Op.binOp BinOp.eql 9 (Operand.tmp 130) (Operand.tmp 135) 9, type := 4, pos := "outright.go:136", after := #[{ on := 19, ground := Ground.data }, { on := 24, ground := Ground.data }, { on := 14, ground := Ground.guard }], guard := some (14, false) }) (v := undef) rfl (by kernel_rfl) (by kernel_rfl) (by kernel_rfl) (fun _ _ _ h => h) (Or.inr ⟨by rfl, rfl⟩) HSv ?_
                  simp only [Act.put, List.setIfInBounds_toArray, List.set_cons_zero, List.set_cons_succ]
                  refine wpAnyN_take (i := 26) (oi := { dst := some 137, op := Op.pick (Operand.tmp 125) (Operand.const (Value.bool true)) (Operand.tmp 136), type := 4, pos := "outright.go:136", after := #[{ on := 14, ground := Ground.data }, { on := 25, ground := Ground.data }, { on := 11, ground := Ground.guard }], guard := some (11, true) }) (v := undef) rfl (by kernel_rfl) (by kernel_rfl) (by kernel_rfl) (fun _ _ _ h => h) (Or.inr ⟨by rfl, rfl⟩) HSv ?_
                  simp only [Act.put, List.setIfInBounds_toArray, List.set_cons_zero, List.set_cons_succ]
                  refine wpAnyN_take (i := 27) (oi := { dst := some 138, op := Op.pick (Operand.tmp 122) (Operand.tmp 137) (Operand.const (Value.bool false)), type := 4, pos := "outright.go:136", after := #[{ on := 11, ground := Ground.data }, { on := 26, ground := Ground.data }], guard := none }) (v := .bool false) rfl (by kernel_rfl) (by kernel_rfl) (by kernel_rfl) (fun _ _ _ h => h) (Or.inl ⟨by rfl, ?_⟩) HSv ?_
                  · intro W hW
                    go_simp
                    try with_reducible rfl
                  simp only [Act.put, List.setIfInBounds_toArray, List.set_cons_zero, List.set_cons_succ]
                  refine wpAnyN_end 28 (by decide) rfl (by kernel_rfl) ?_
                  simp only [List.drop_succ_cons, List.drop_zero]
                  go_wp2_with fail
                  go_roundg (n2 - (k + 1))
                  case measure => omega
                  case rel => exact ⟨k + 1, a, by omega, by omega, rfl, rfl, by go_num, HSM.out HNR.out, BQ.out⟩
              · obtain rfl : a = m := by omega
                have HAL := Lib.hid (alive_any wr)
                go_wp2_with (go_at_call 10; refine HAL.out.mono ?_; rintro e w6 ⟨rfl, b6⟩; have HB6 := Lib.hid b6; clear b6)
                go_ret
                exact ⟨rfl, HO.out.2.1.trans ((HK.out.2.trans (HB6.out.mono HK.out.2.size)).mono HO.out.2.1.size)⟩
            · obtain rfl : n2 = k := by omega
              have hd0 : l.drop n2 = [] := by rw [H.out.2.2.2.2.2]; exact List.drop_length
              have hs := HK.out.1
              rw [hd0] at hs
              have h0 := congrArg List.length hs.end'
              rw [List.length_drop, List.length_nil, ← HO.out.2.2] at h0
              obtain rfl : a = m := by omega
              clear hd0 hs h0
              have HAL := Lib.hid (alive_any wr)
              go_wp2_with (go_at_call 10; refine HAL.out.mono ?_; rintro e w6 ⟨rfl, b6⟩; have HB6 := Lib.hid b6; clear b6)
              go_ret
              exact ⟨rfl, HO.out.2.1.trans ((HK.out.2.trans (HB6.out.mono HK.out.2.size)).mono HO.out.2.1.size)⟩
end Go.Proofs.Ytidlldfppoelnaa
