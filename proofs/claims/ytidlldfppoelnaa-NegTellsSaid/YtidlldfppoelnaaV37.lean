import Derived.Test.YtidlldfppoelnaaV36
namespace Go.Proofs.Ytidlldfppoelnaa
open Go.RowKit Go.Tg Go.Maps

theorem whole_bytes (s : ByteArray) : s.extract 0 s.size = s := by
  simp

theorem nextL_12 : ∀ s ∈ [0, 1, 2, 3, 4, 5, 6, 7, 8, 9], ∀ a ∈ nextL s 12, a ≠ 8 := by decide
theorem say_no8 (B : NegB) (C : NegC) (ok : Nat → Prop) (c : Came) (po pa : Value) (a : Int) (h0 : 0 ≤ a) (h1 : a ≤ 12) (h8 : a ≠ 8) (hv : ∀ o ∈ c.p.o, o.v.size ≤ 100000) (hd : c.p.d.size ≤ 100000000) : SaySpec rejS B C ok c po pa a := by
  by_cases h11 : a = 11
  · subst h11
    intro w S st X h hc
    exact say11 c po pa h hc hv hd
  · exact say_most rejS B C ok c po pa a h0 h1 h8 h11
theorem sayAll12 (B : NegB) (C : NegC) (c : Came) (po pa : Value) (s : Int) (hs : 0 ≤ s ∧ s ≤ 9) (hv : ∀ o ∈ c.p.o, o.v.size ≤ 100000) (hd : c.p.d.size ≤ 100000000) : SayAll rejS B C c po pa (nextL s 12) := by
  intro a ha ok
  have h1 := nextL_bd s 12 a ha
  have h2 : s ∈ [0, 1, 2, 3, 4, 5, 6, 7, 8, 9] := by simp only [List.mem_cons, List.not_mem_nil, or_false]; omega
  exact say_no8 B C ok c po pa a h1.1 h1.2 (nextL_12 s h2 a ha) hv hd

/-- A packet without options, of a code that has none. -/
theorem putPk_none (c i : Nat) (data : ByteArray) (hc : 8 ≤ c ∧ c ≤ 255) (hi : i ≤ 255) (hd : data.size ≤ 1000) : putPk ⟨c, i, [], data⟩ = (layB c i data, 0) ∧ rejS ⟨c, i, [], data⟩ = layB c i data := by
  have h1 : putPk ⟨c, i, [], data⟩ = (layB c i data, 0) := by
    have hb : putBad ⟨c, i, [], data⟩ = false := by
      have e1 : hasO (c : Int) = false := by unfold hasO; simp; omega
      have e2 : numB ⟨c, i, [], data⟩ = true := by unfold numB; simp; omega
      unfold putBad
      rw [e2]
      simp only [e1]
      simp
    have e3 : putE [] = 0 := by decide
    have e4 : putS [] = noB := by decide
    have e5 : noB ++ data = data := by
      apply ByteArray.ext
      simp [noB, ByteArray.data_append]
    unfold putPk
    rw [hb]
    simp only [e3, e4, e5]
    rw [if_neg (by decide), if_neg (by decide), if_neg (by omega)]
    simp
  refine ⟨h1, ?_⟩
  unfold rejS
  rw [h1, if_pos rfl]
  have hs : (layB c i data).size = 4 + data.size := layB_size _ _ _
  have : (min ((layB c i data).size : Int) 1488).toNat = (layB c i data).size := by omega
  rw [this]
  exact whole_bytes _

theorem eT1 (jb : Nat) (p : Pk) : evS rejS (CS jb 5 3 2) (sQ ((5 : Int) - 1) 0 1 1 asks) 12 ⟨true, p, 0, []⟩ = (sQ 4 0 2 1 asks, [⟨7, 2, [], rejS p⟩]) := by kernel_rfl
theorem eT2 (jb : Nat) (i : Int) : evS noR (CS jb 5 3 2) (sQ 4 0 2 1 asks) 10 ⟨true, ⟨5, i, [], noB⟩, 0, []⟩ = (sQ 4 0 2 1 asks, [⟨6, i, [], noB⟩]) := by kernel_rfl

set_option maxHeartbeats 16000000 in
set_option maxRecDepth 100000 in
theorem negTells_any (code id : Int) (data : ByteArray) (w : World) (hm : data.size ≤ maxLen) : Calls Try.prog 3 #[.int .i64 code, .int .i64 id, .string data] w fun e w' => e = .returned (.bool true) ∧ Below w.heap.size w w' := by
  have q1 : ∀ w a, (binOp .eql 23 (.pointer (some a)) (.pointer none)).run Try.prog w = .ok (.bool false) w := fun w a => by kernel_rfl
  by_cases hr : (8 ≤ code ∧ code ≤ 255) ∧ (0 ≤ id ∧ id ≤ 255) ∧ data.size ≤ 1000
  · obtain ⟨c, rfl⟩ : ∃ c : Nat, code = c := ⟨code.toNat, by omega⟩
    obtain ⟨i, rfl⟩ : ∃ i : Nat, id = i := ⟨id.toNat, by omega⟩
    have d1 : decide ((c : Int) < 8) = false := by simp; omega
    have d2 : decide ((255 : Int) < (c : Int)) = false := by simp; omega
    have d3 : decide ((i : Int) < 0) = false := by simp
    have d4 : decide ((255 : Int) < (i : Int)) = false := by simp; omega
    have d5 : decide ((1000 : Int) < (data.size : Int)) = false := by simp; omega
    have HR := Lib.hid hr
    have HPK := Lib.hid (putPk_none c i data (by omega) (by omega) (by omega))
    clear hr hm
    go_enter Try.func3, Try.ntmps3
    go_wp2_with fail
    refine (setup_any _ _ _).mono ?_
    rintro e w1 ⟨b0, b1, b2, rfl, hs, hb⟩
    have HN2 := Lib.hid (newS _ _ b0 b1 b2 _ 5 3 2 hs (by decide) (by decide) (by decide) (by decide) (by kernel_rfl))
    have HB := Lib.hid hb
    unfold setV at HN2 ⊢
    clear hs hb
    go_wp2_with fail
    refine HN2.out.mono ?_
    rintro e w3 ⟨v, rfl, B, jb, rfl, hv, hj, hjs, hjt, hb3⟩
    have hsB := HB.out.size
    have h3 : NegP w3 (fun b => w.heap.size ≤ b) B (CS jb 5 3 2) (st0 asks) jb := ⟨hv.mono (fun b hb => Nat.le_trans hsB hb), hj, hjt, Nat.le_trans hsB hjs, rfl⟩
    have HB3 := Lib.hid (HB.out.trans (hb3.mono hsB))
    have D1 := Lib.hid (And.intro (DoP noR 2 (by decide) h3) h3)
    rw [eQ1] at D1
    clear hv hj hjs hjt hb3 h3
    go_wp2_with fail
    refine D1.out.1.mono ?_
    rintro e w5 ⟨v5, rfl, p5, h5, k5⟩
    have Q5 : NegQ w w5 B (CS jb 5 3 2) ⟨1, 0, 0, 0, 0, 0, asks, [], [], 0, 0⟩ jb := NegQ.ev HB3.out (fun b hb => hb) D1.out.2 h5 k5
    obtain ⟨⟨S5, n5, m5⟩, b5⟩ := Q5
    have D2 := Lib.hid (And.intro (DoP noR 0 (by decide) n5) (And.intro n5 (And.intro m5 b5)))
    rw [eQ2 jb 5 3 2 asks (by omega)] at D2
    clear p5 h5 k5 n5 m5 b5
    go_wp2_with fail
    refine D2.out.1.mono ?_
    rintro e w6 ⟨v6, rfl, p6, h6, k6⟩
    have Q6 : NegQ w w6 B (CS jb 5 3 2) (sQ ((5 : Int) - 1) 0 1 1 asks) jb := NegQ.ev D2.out.2.2.2 D2.out.2.2.1 D2.out.2.1 h6 k6
    obtain ⟨⟨S6, n6, m6⟩, b6⟩ := Q6
    have b7 : Below w6.heap.size w6 (w6.alloc (.cells #[.int .i64 (c : Int), .int .i64 (i : Int), .slice none 0 0, .string data] 36 (0, 0))) := (Below.refl _ _).alloc (Nat.le_refl _) _
    have n7 := n6.below b7
    have z7 := at1 w6 (.cells #[.int .i64 (c : Int), .int .i64 (i : Int), .slice none 0 0, .string data] 36 (0, 0))
    have PU := Lib.hid (oput_any ⟨c, i, [], data⟩ (.slice none 0 0) (fun _ => False) (w6.alloc (.cells #[.int .i64 (c : Int), .int .i64 (i : Int), .slice none 0 0, .string data] 36 (0, 0))) (Rec.nil _ _ _) (Nat.zero_le _) (fun o ho => by cases ho) (by have := HR.out; show data.size ≤ 100000000; omega))
    rw [HPK.out.1] at PU
    have H7 := Lib.hid (And.intro n7 (And.intro m6 (And.intro (b6.trans (b7.mono b6.size)) z7)))
    unfold pkV at PU
    clear p6 h6 k6 n6 m6 b6 b7 n7 z7
    go_wp2_with fail
    refine PU.out.mono ?_
    rintro e w8 ⟨rfl, b8⟩
    have n8 := H7.out.1.below b8
    have s7 : (w6.alloc (.cells #[.int .i64 (c : Int), .int .i64 (i : Int), .slice none 0 0, .string data] 36 (0, 0))).heap.size = w6.heap.size + 1 := alloc1 _ _
    have z8 := (b8.block w6.heap.size (by omega)).trans H7.out.2.2.2
    have x0 := cellOf z8 0 _ rfl
    have x1 := cellOf z8 1 _ rfl
    have x2 := cellOf z8 2 _ rfl
    have x3 := cellOf z8 3 _ rfl
    have T1 := Lib.hid (And.intro (takeUP rejS ⟨c, i, [], data⟩ (.slice none 0 0) (Or.inr (by have := HR.out; show (7 : Int) < c; omega)) n8 (ok := fun _ => False) (Rec.nil _ _ _) (fun b h => h.elim) (Nat.zero_le _) (fun pa => sayAll12 B _ _ _ _ _ (by decide) (fun o ho => by cases ho) (by have := HR.out; show data.size ≤ 100000000; omega))) (And.intro n8 (H7.out.2.2.1.trans (b8.mono H7.out.2.2.1.size))))
    rw [eT1, HPK.out.2] at T1
    unfold pkV at T1
    clear b8 n8 z8
    go_wp2_with fail
    refine T1.out.1.mono ?_
    rintro e w9 ⟨v9, rfl, p9, h9, k9⟩
    have Q9 : NegQ w w9 B (CS jb 5 3 2) (sQ 4 0 2 1 asks) jb := NegQ.ev T1.out.2.2 H7.out.2.1 T1.out.2.1 h9 k9
    obtain ⟨⟨S9, n9, m9⟩, b9⟩ := Q9
    obtain ⟨ga, ca, po9, rfl, ga1, ga2, ga3, ga4, xa0, -, -, xa3, -⟩ := p9.at0
    have T2 := Lib.hid (And.intro (take5P noR ⟨5, i, [], noB⟩ (.slice none 0 0) rfl n9 (ok := fun _ => False) (Rec.nil _ _ _) (fun b h => h.elim) (Nat.zero_le _)) (And.intro n9 (And.intro m9 b9)))
    rw [eT2] at T2
    have hnt : ∀ b, B.t b → b < w8.heap.size := fun b hb => T1.out.2.1.tlt hb
    have HA9 := Lib.hid (And.intro ga1 (And.intro ga2 (And.intro xa0 xa3)))
    unfold pkV noB at T2
    clear p9 h9 k9 n9 m9 b9 ga1 ga2 ga3 ga4 xa0 xa3
    go_wp2_with fail
    refine T2.out.1.mono ?_
    rintro e w10 ⟨v10, rfl, p10, h10, k10⟩
    obtain ⟨gb, cb, po10, rfl, gb1, gb2, gb3, gb4, xb0, xb1, -⟩ := p10.at0
    have b10 : Below w.heap.size w w10 := (NegQ.ev T2.out.2.2.2 T2.out.2.2.1 T2.out.2.1 h10 k10).2
    have na : ¬ B.t ga := fun ht => by have := hnt _ ht; have := HA9.out.1; omega
    have y0 := (k10.cell (p := ⟨ga, 0, none⟩) HA9.out.2.1 na).trans HA9.out.2.2.1
    have y3 := (k10.cell (p := ⟨ga, 3, none⟩) HA9.out.2.1 na).trans HA9.out.2.2.2
    have hla : ga < w10.heap.size := Nat.lt_of_lt_of_le HA9.out.2.1 k10.size
    have HB10 := Lib.hid b10
    clear p10 h10 k10 gb1 gb3 gb4 b10 na
    go_wp2_with (go_at_call 10; refine (alive_any _).mono ?_; rintro e w11 ⟨rfl, b11⟩
                 have z0 := (b11.cell (p := ⟨ga, 0, none⟩) hla).trans y0
                 have z3 := (b11.cell (p := ⟨ga, 3, none⟩) hla).trans y3
                 have z4 := (b11.cell (p := ⟨gb, 0, none⟩) gb2).trans xb0
                 have z5 := (b11.cell (p := ⟨gb, 1, none⟩) gb2).trans xb1
                 have HB11 := Lib.hid (HB10.out.trans (b11.mono HB10.out.size))
                 clear b11)
    go_ret
    exact ⟨rfl, HB11.out⟩
  · have HA := Lib.hid (alive_any w)
    by_cases h1 : code < 8
    · have d1 : decide (code < 8) = true := by simpa using h1
      clear hr h1
      go_enter Try.func3, Try.ntmps3
      go_wp2_with (go_at_call 10; refine HA.out.mono ?_; rintro e w8 ⟨rfl, b8⟩)
      go_ret
      exact ⟨rfl, b8⟩
    · have d1 : decide (code < 8) = false := by simpa using h1
      by_cases h2 : 255 < code
      · have d2 : decide (255 < code) = true := by simpa using h2
        clear hr h1 h2
        go_enter Try.func3, Try.ntmps3
        go_wp2_with (go_at_call 10; refine HA.out.mono ?_; rintro e w8 ⟨rfl, b8⟩)
        go_ret
        exact ⟨rfl, b8⟩
      · have d2 : decide (255 < code) = false := by simpa using h2
        by_cases h3 : id < 0
        · have d3 : decide (id < 0) = true := by simpa using h3
          clear hr h1 h2 h3
          go_enter Try.func3, Try.ntmps3
          go_wp2_with (go_at_call 10; refine HA.out.mono ?_; rintro e w8 ⟨rfl, b8⟩)
          go_ret
          exact ⟨rfl, b8⟩
        · have d3 : decide (id < 0) = false := by simpa using h3
          by_cases h4 : 255 < id
          · have d4 : decide (255 < id) = true := by simpa using h4
            clear hr h1 h2 h3 h4
            go_enter Try.func3, Try.ntmps3
            go_wp2_with (go_at_call 10; refine HA.out.mono ?_; rintro e w8 ⟨rfl, b8⟩)
            go_ret
            exact ⟨rfl, b8⟩
          · have d4 : decide (255 < id) = false := by simpa using h4
            have d5 : decide ((1000 : Int) < (data.size : Int)) = true := by simp; omega
            clear hr h1 h2 h3 h4
            go_enter Try.func3, Try.ntmps3
            go_wp2_with (go_at_call 10; refine HA.out.mono ?_; rintro e w8 ⟨rfl, b8⟩)
            go_ret
            exact ⟨rfl, b8⟩
end Go.Proofs.Ytidlldfppoelnaa
