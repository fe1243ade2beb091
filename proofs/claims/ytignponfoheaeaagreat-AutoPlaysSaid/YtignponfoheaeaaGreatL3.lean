import Derived.Test.YtignponfoheaeaaGreatL2
/- AutoPlays, walked: the walk. -/
namespace Go.Proofs.YtignponfoheaeaaGreat
open Go.RowKit Go.Tg Go.Maps

set_option maxHeartbeats 16000000 in
set_option maxRecDepth 100000 in
theorem autoPlays_any (cf tm : Int) (la : Option Addr) (len cap : Nat) (zs : Nat → Int) (w : World) (h : ArgI w la len zs) :
    Calls Tryz.prog 4 #[.int .i64 cf, .int .i64 tm, .slice la len cap] w fun en w' => en = .returned (.bool true) ∧ Below w.heap.size w w' := by
  have HEL := Lib.hid h
  clear h
  by_cases hlong : 400 < len
  · have hl2 : (400 : Int) < (len : Int) := by omega
    go_enter Tryz.func4, Tryz.ntmps4
    go_wp2_with fail
    refine (alive9_any _).mono ?_
    rintro en w1 ⟨rfl, hb⟩
    have HB := Lib.hid hb
    clear hb
    go_wp2_with fail
    go_ret
    exact ⟨rfl, HB.out⟩
  have hl2 : ¬ (400 : Int) < (len : Int) := by omega
  by_cases hbad : inB20 cf = false ∨ inB20 tm = false
  · have HBD := Lib.hid hbad
    have hc : cf < 1 ∨ (1 ≤ cf ∧ 20 < cf) ∨ (1 ≤ cf ∧ cf ≤ 20 ∧ tm < 1) ∨ (1 ≤ cf ∧ cf ≤ 20 ∧ 1 ≤ tm ∧ ¬ tm ≤ 20) := by
      rcases hbad with h | h <;> (unfold inB20 at h; simp at h; omega)
    clear hbad
    rcases hc with h1 | ⟨h1, h2⟩ | ⟨h1, h2, h3⟩ | ⟨h1, h2, h3, h4⟩
    · go_enter Tryz.func4, Tryz.ntmps4
      go_wp2_with fail
      refine (new_bad cf tm _ HBD.out).mono ?_
      rintro en w1 ⟨rfl, rfl⟩
      go_wp2_with fail
      refine (alive9_any _).mono ?_
      rintro en w1 ⟨rfl, hb⟩
      have HB := Lib.hid hb
      clear hb
      go_wp2_with fail
      go_ret
      exact ⟨rfl, HB.out⟩
    · go_enter Tryz.func4, Tryz.ntmps4
      go_wp2_with fail
      refine (new_bad cf tm _ HBD.out).mono ?_
      rintro en w1 ⟨rfl, rfl⟩
      go_wp2_with fail
      refine (alive9_any _).mono ?_
      rintro en w1 ⟨rfl, hb⟩
      have HB := Lib.hid hb
      clear hb
      go_wp2_with fail
      go_ret
      exact ⟨rfl, HB.out⟩
    · go_enter Tryz.func4, Tryz.ntmps4
      go_wp2_with fail
      refine (new_bad cf tm _ HBD.out).mono ?_
      rintro en w1 ⟨rfl, rfl⟩
      go_wp2_with fail
      refine (alive9_any _).mono ?_
      rintro en w1 ⟨rfl, hb⟩
      have HB := Lib.hid hb
      clear hb
      go_wp2_with fail
      go_ret
      exact ⟨rfl, HB.out⟩
    · have hq : decide (tm ≤ 20) = false := by simp; omega
      go_enter Tryz.func4, Tryz.ntmps4
      go_wp2_with fail
      refine (new_bad cf tm _ HBD.out).mono ?_
      rintro en w1 ⟨rfl, rfl⟩
      go_wp2_with fail
      refine (alive9_any _).mono ?_
      rintro en w1 ⟨rfl, hb⟩
      have HB := Lib.hid hb
      clear hb
      go_wp2_with fail
      go_ret
      exact ⟨rfl, HB.out⟩
  have hcf : inB20 cf = true := by cases h : inB20 cf <;> simp_all
  have htm : inB20 tm = true := by cases h : inB20 tm <;> simp_all
  obtain ⟨c1, c2⟩ := inB20_true.1 hcf
  obtain ⟨t1, t2⟩ := inB20_true.1 htm
  have HNEW := Lib.hid (new_ok cf tm w hcf htm)
  clear hcf htm hbad
  go_enter Tryz.func4, Tryz.ntmps4
  go_wp2_with fail
  refine HNEW.out.mono ?_
  rintro en w1 ⟨rfl, ha, hk⟩
  have HA := Lib.hid (And.intro ha hk)
  clear ha hk
  have hs1 := HA.out.2.size
  have hlt1 := HA.out.1.lt
  have hI : PlaysI w ((w1.alloc (.cells #[.int .i64 cf, .int .i64 tm, .int .i64 0, .int .i64 0] 56 (0, 0))).alloc (.cells (bookC nilS nilS nilS nilS nilS nilS) 42 (0, 0))) (w1.heap.size + 2) w.heap.size w1.heap.size (w1.heap.size + 1) cf tm 0 0 KD.nil := by
    have b2 := b1 w1 (.cells #[.int .i64 cf, .int .i64 tm, .int .i64 0, .int .i64 0] 56 (0, 0))
    have b3 := b1 (w1.alloc (.cells #[.int .i64 cf, .int .i64 tm, .int .i64 0, .int .i64 0] 56 (0, 0))) (.cells (bookC nilS nilS nilS nilS nilS nilS) 42 (0, 0))
    have s2 := balloc1 w1 (.cells #[.int .i64 cf, .int .i64 tm, .int .i64 0, .int .i64 0] 56 (0, 0))
    have s3 := balloc1 (w1.alloc (.cells #[.int .i64 cf, .int .i64 tm, .int .i64 0, .int .i64 0] 56 (0, 0))) (.cells (bookC nilS nilS nilS nilS nilS nilS) 42 (0, 0))
    have z2 : (w1.alloc (.cells #[.int .i64 cf, .int .i64 tm, .int .i64 0, .int .i64 0] 56 (0, 0))).heap[w1.heap.size]? = some _ := heap_alloc_new w1 _
    exact {
      aut := (HA.out.1.below b2).below b3
      ref := RAt.below z2 b3
      bk := BookI.new (cell_of_at _ _ _ s2.symm)
      hD := fun g hg => by rcases hg with (h | ⟨i, hi, _⟩) | (h | ⟨i, hi, _⟩) <;> first | cases h | exact absurd hi (Nat.not_lt_zero _)
      bl := ((HA.out.2.below (Nat.le_refl _) (by simp)).trans (b2.mono hs1)).trans (b3.mono (by omega))
      lt := by refine ⟨?_, ?_, ?_, ?_, ?_, ?_, ?_, ?_, ?_⟩ <;> omega
      hs := by omega
      ib := ⟨by omega, by omega⟩
      ss := by omega }
  have HI := Lib.hid hI
  clear hI HA
  go_wp2_with (refine wpl_newbook rfl ?_)
  have e2 := balloc1 w1 (.cells #[.int .i64 cf, .int .i64 tm, .int .i64 0, .int .i64 0] 56 (0, 0))
  generalize ((w1.alloc (.cells #[.int .i64 cf, .int .i64 tm, .int .i64 0, .int .i64 0] 56 (0, 0))).alloc (.cells (bookC nilS nilS nilS nilS nilS nilS) 42 (0, 0))) = w3 at *
  go_loopg [12] len (fun y i wr => ∃ k : Nat, k ≤ len ∧ y = len - k ∧ i = .int .i64 k ∧ Hid (∃ s c D, PlaysI w wr (w1.heap.size + 2) w.heap.size w1.heap.size (w1.heap.size + 1) cf tm s c D))
  case atStart => exact ⟨0, by omega, by omega, rfl, 0, 0, KD.nil, HI.out⟩
  case round =>
    obtain ⟨k, hk, rfl, rfl, hK⟩ := hrel
    obtain ⟨s, c, D, hP⟩ := hK.out
    have HP := Lib.hid hP
    clear hK hP
    by_cases hkl : k < len
    · obtain ⟨lb, off, rfl, hlb, hck, hwf⟩ := HEL.out k hkl
      have HW := Lib.hid (And.intro hlb (And.intro hck hwf))
      have dck : ∀ W, Below w.heap.size w W → W.cell? ⟨lb, off + k, none⟩ = some (.int .i64 (zs k)) := fun W hW => (hW.cell (p := ⟨lb, off + k, none⟩) hlb).trans hck
      have DCK := Lib.hid dck
      have d0 := dck wr HP.out.bl
      have hss := HP.out.ss
      clear dck hck hlb hwf
      generalize zs k = x at *
      by_cases h99 : x = 99
      · subst h99
        go_wp2_with fail
        refine (timeout_any _ s c cf tm _ HP.out.aut c1 c2 t1 t2 HP.out.ib (WalkArith.wf_i64 (by omega))).mono ?_
        rintro en w4 ⟨v4, rfl, hv4, ha4, hk4⟩
        have hr4 := HP.out.ref.keep hk4 (fun he => HP.out.lt.2.2.2.2.2.2.1 he.symm)
        have H4 := Lib.hid (And.intro hv4 (And.intro ha4 (And.intro hk4 hr4)))
        clear hv4 ha4 hk4 hr4
        go_wp2_with fail
        refine (rtimeout_any _ s c cf tm _ H4.out.2.2.2 c1 c2 t1 t2 HP.out.ib).mono ?_
        rintro en w5 ⟨v5, rfl, h5⟩
        have H5 := Lib.hid (HP.out.told H4.out.1 H4.out.2.1 H4.out.2.2.1 h5 (doC_bd _ ⟨by omega, c2⟩ ⟨by omega, t2⟩ _ _ HP.out.ib) (tm_bd s c HP.out.ss) (tm_le s c))
        clear h5
        go_wp2_with fail
        clear H4
        obtain ⟨s4, q4, e4, -, -⟩ := H5.out.row.form
        obtain ⟨s5, q5, e5, -, -⟩ := H5.out.ref.form
        subst e4 e5
        have hle := H5.out.le
        generalize tmoS s c = s' at *
        generalize doC cf tm (tmoL s c) (tmoL s c) c = c' at *
        generalize tmoL s c = xs at *
        refine (bookI_add H5.out.i.bk H5.out.row (by omega) H5.out.no (fun hg => by have := H5.out.own0 _ hg; omega)).mono ?_
        rintro en w6 ⟨⟨r6, rfl⟩, D', hadd⟩
        have hsz6 := hadd.kp.size
        have H6 := Lib.hid (And.intro (H5.out.i.add H5.out.own0 hadd) (And.intro (show RowR w6 (.slice s4 xs.length q4) xs.length (iV xs) from H5.out.row.rd.keep hadd.kp (fun g hg he => he.elim (fun he => by have := H5.out.own0 g hg; omega) (H5.out.no g hg))) (H5.out.ref.keep hadd.kp (fun g hg he => he.elim (fun he => by have := (H5.out.rf g hg).1; omega) (H5.out.rf g hg).2))))
        clear hadd H5
        go_wp2_with fail
        have r2 := H6.out.1.ref.c2
        have r3 := H6.out.1.ref.c3
        refine wp_region_H (rgH 0 29) (fun Y : World => Y.cell? ⟨w1.heap.size, 2, none⟩ = some (.int .i64 s') ∧ Y.cell? ⟨w1.heap.size, 3, none⟩ = some (.int .i64 c')) (by kernel_rfl) ?_
        have HSv : (fun Y : World => Y.cell? ⟨w1.heap.size, 2, none⟩ = some (.int .i64 s') ∧ Y.cell? ⟨w1.heap.size, 3, none⟩ = some (.int .i64 c')) w6.drew := ⟨r2, r3⟩
        clear r2 r3
        refine wpAnyH_at 0 (v := ?vv1) rfl (by kernel_rfl) (by kernel_rfl) (by kernel_rfl) (fun _ _ _ h => h) ?hy1 HSv ?hh1
        case hy1 =>
          refine Or.inl ⟨by rfl, ?_⟩
          intro W hW
          obtain ⟨h0, h1⟩ := hW
          go_simp
          try with_reducible rfl
        simp only [Act.put, List.setIfInBounds_toArray, List.set_cons_zero, List.set_cons_succ]
        refine wpAnyH_at 1 (v := ?vv2) rfl (by kernel_rfl) (by kernel_rfl) (by kernel_rfl) (fun _ _ _ h => h) ?hy2 HSv ?hh2
        case hy2 =>
          refine Or.inl ⟨by rfl, ?_⟩
          intro W hW
          obtain ⟨h0, h1⟩ := hW
          go_simp
          try with_reducible rfl
        simp only [Act.put, List.setIfInBounds_toArray, List.set_cons_zero, List.set_cons_succ]
        refine wpAnyH_1 2 rfl (by kernel_rfl) ?_
        intro K hK
        rw [if_pos (by rfl)]
        try go_simp
        go_at_call 10
        refine (sameI_true xs _ _ w6.drew (H6.out.2.1.below (Below.refl _ _).drew) (H6.out.2.2.below (Below.refl _ _).drew) (by omega)).mono ?_
        rintro en w7 ⟨rfl, hb7⟩
        have H7 := Lib.hid (H6.out.1.below (show Below w6.heap.size w6 w7 from Below.trans (Below.refl _ _).drew hb7))
        have HSv : w7.cell? ⟨w1.heap.size, 2, none⟩ = some (.int .i64 s') ∧ w7.cell? ⟨w1.heap.size, 3, none⟩ = some (.int .i64 c') := ⟨H7.out.ref.c2, H7.out.ref.c3⟩
        clear hb7
        refine hK _ _ (fun _ => HSv) ?_
        try simp only [Act.put, List.setIfInBounds_toArray, List.set_cons_zero, List.set_cons_succ]
        refine wpAnyH_at 3 (v := ?vv3) rfl (by kernel_rfl) (by kernel_rfl) (by kernel_rfl) (fun _ _ _ h => h) ?hy3 HSv ?hh3
        case hy3 =>
          refine Or.inl ⟨by rfl, ?_⟩
          intro W hW
          obtain ⟨h0, h1⟩ := hW
          go_simp
          try with_reducible rfl
        simp only [Act.put, List.setIfInBounds_toArray, List.set_cons_zero, List.set_cons_succ]
        refine wpAnyH_at 4 (v := ?vv4) rfl (by kernel_rfl) (by kernel_rfl) (by kernel_rfl) (fun _ _ _ h => h) ?hy4 HSv ?hh4
        case hy4 =>
          refine Or.inl ⟨by rfl, ?_⟩
          intro W hW
          obtain ⟨h0, h1⟩ := hW
          go_simp
          try with_reducible rfl
        simp only [Act.put, List.setIfInBounds_toArray, List.set_cons_zero, List.set_cons_succ]
        refine wpAnyH_at 5 (v := ?vv5) rfl (by kernel_rfl) (by kernel_rfl) (by kernel_rfl) (fun _ _ _ h => h) ?hy5 HSv ?hh5
        case hy5 =>
          refine Or.inl ⟨by rfl, ?_⟩
          intro W hW
          obtain ⟨h0, h1⟩ := hW
          go_simp
          try with_reducible rfl
        simp only [Act.put, List.setIfInBounds_toArray, List.set_cons_zero, List.set_cons_succ]
        refine wpAnyH_at 7 (v := ?vv6) rfl (by kernel_rfl) (by kernel_rfl) (by kernel_rfl) (fun _ _ _ h => h) ?hy6 HSv ?hh6
        case hy6 =>
          refine Or.inl ⟨by rfl, ?_⟩
          intro W hW
          obtain ⟨h0, h1⟩ := hW
          go_simp
          try with_reducible rfl
        simp only [Act.put, List.setIfInBounds_toArray, List.set_cons_zero, List.set_cons_succ]
        refine wpAnyH_at 8 (v := ?vv7) rfl (by kernel_rfl) (by kernel_rfl) (by kernel_rfl) (fun _ _ _ h => h) ?hy7 HSv ?hh7
        case hy7 =>
          refine Or.inl ⟨by rfl, ?_⟩
          intro W hW
          obtain ⟨h0, h1⟩ := hW
          go_simp
          try with_reducible rfl
        simp only [Act.put, List.setIfInBounds_toArray, List.set_cons_zero, List.set_cons_succ]
        refine wpAnyH_at 9 (v := ?vv8) rfl (by kernel_rfl) (by kernel_rfl) (by kernel_rfl) (fun _ _ _ h => h) ?hy8 HSv ?hh8
        case hy8 =>
          refine Or.inl ⟨by rfl, ?_⟩
          intro W hW
          obtain ⟨h0, h1⟩ := hW
          go_simp
          try with_reducible rfl
        simp only [Act.put, List.setIfInBounds_toArray, List.set_cons_zero, List.set_cons_succ]
        refine wpAnyH_at 10 (v := ?vv9) rfl (by kernel_rfl) (by kernel_rfl) (by kernel_rfl) (fun _ _ _ h => h) ?hy9 HSv ?hh9
        case hy9 =>
          refine Or.inl ⟨by rfl, ?_⟩
          intro W hW
          obtain ⟨h0, h1⟩ := hW
          go_simp
          try with_reducible rfl
        simp only [Act.put, List.setIfInBounds_toArray, List.set_cons_zero, List.set_cons_succ]
        refine wpAnyH_1 6 rfl (by kernel_rfl) ?_
        intro K hK
        rw [if_pos (by rfl)]
        try go_simp
        go_at_call 19
        refine (state_some _ _ _ _ _ _ H7.out.aut c1).mono ?_
        rintro en w8 ⟨rfl, rfl⟩
        refine hK _ _ (fun _ => HSv) ?_
        try simp only [Act.put, List.setIfInBounds_toArray, List.set_cons_zero, List.set_cons_succ]
        refine wpAnyH_at 11 (v := ?vv10) rfl (by kernel_rfl) (by kernel_rfl) (by kernel_rfl) (fun _ _ _ h => h) ?hy10 HSv ?hh10
        case hy10 =>
          refine Or.inl ⟨by rfl, ?_⟩
          intro W hW
          obtain ⟨h0, h1⟩ := hW
          go_simp
          try with_reducible rfl
        simp only [Act.put, List.setIfInBounds_toArray, List.set_cons_zero, List.set_cons_succ]
        refine wpAnyH_at 12 (v := ?vv11) rfl (by kernel_rfl) (by kernel_rfl) (by kernel_rfl) (fun _ _ _ h => h) ?hy11 HSv ?hh11
        case hy11 =>
          refine Or.inl ⟨by rfl, ?_⟩
          intro W hW
          obtain ⟨h0, h1⟩ := hW
          go_simp
          try with_reducible rfl
        simp only [Act.put, List.setIfInBounds_toArray, List.set_cons_zero, List.set_cons_succ]
        refine wpAnyH_at 13 (v := ?vv12) rfl (by kernel_rfl) (by kernel_rfl) (by kernel_rfl) (fun _ _ _ h => h) ?hy12 HSv ?hh12
        case hy12 =>
          refine Or.inl ⟨by rfl, ?_⟩
          intro W hW
          obtain ⟨h0, h1⟩ := hW
          go_simp
          try with_reducible rfl
        simp only [Act.put, List.setIfInBounds_toArray, List.set_cons_zero, List.set_cons_succ]
        refine wpAnyH_at 14 (v := ?vv13) rfl (by kernel_rfl) (by kernel_rfl) (by kernel_rfl) (fun _ _ _ h => h) ?hy13 HSv ?hh13
        case hy13 =>
          refine Or.inl ⟨by rfl, ?_⟩
          intro W hW
          obtain ⟨h0, h1⟩ := hW
          go_simp
          try with_reducible rfl
        simp only [Act.put, List.setIfInBounds_toArray, List.set_cons_zero, List.set_cons_succ]
        refine wpAnyH_at 16 (v := ?vv14) rfl (by kernel_rfl) (by kernel_rfl) (by kernel_rfl) (fun _ _ _ h => h) ?hy14 HSv ?hh14
        case hy14 =>
          refine Or.inl ⟨by rfl, ?_⟩
          intro W hW
          obtain ⟨h0, h1⟩ := hW
          go_simp
          try with_reducible rfl
        simp only [Act.put, List.setIfInBounds_toArray, List.set_cons_zero, List.set_cons_succ]
        refine wpAnyH_at 17 (v := ?vv15) rfl (by kernel_rfl) (by kernel_rfl) (by kernel_rfl) (fun _ _ _ h => h) ?hy15 HSv ?hh15
        case hy15 =>
          refine Or.inl ⟨by rfl, ?_⟩
          intro W hW
          obtain ⟨h0, h1⟩ := hW
          go_simp
          try with_reducible rfl
        simp only [Act.put, List.setIfInBounds_toArray, List.set_cons_zero, List.set_cons_succ]
        refine wpAnyH_at 18 (v := ?vv16) rfl (by kernel_rfl) (by kernel_rfl) (by kernel_rfl) (fun _ _ _ h => h) ?hy16 HSv ?hh16
        case hy16 =>
          refine Or.inl ⟨by rfl, ?_⟩
          intro W hW
          obtain ⟨h0, h1⟩ := hW
          go_simp
          try with_reducible rfl
        simp only [Act.put, List.setIfInBounds_toArray, List.set_cons_zero, List.set_cons_succ]
        refine wpAnyH_at 19 (v := ?vv17) rfl (by kernel_rfl) (by kernel_rfl) (by kernel_rfl) (fun _ _ _ h => h) ?hy17 HSv ?hh17
        case hy17 =>
          refine Or.inl ⟨by rfl, ?_⟩
          intro W hW
          obtain ⟨h0, h1⟩ := hW
          go_simp
          try with_reducible rfl
        simp only [Act.put, List.setIfInBounds_toArray, List.set_cons_zero, List.set_cons_succ]
        refine wpAnyH_1 15 rfl (by kernel_rfl) ?_
        intro K hK
        rw [if_pos (by rfl)]
        try go_simp
        go_at_call 20
        refine (count_some _ _ _ _ _ _ H7.out.aut c1).mono ?_
        rintro en w8 ⟨rfl, rfl⟩
        refine hK _ _ (fun _ => HSv) ?_
        try simp only [Act.put, List.setIfInBounds_toArray, List.set_cons_zero, List.set_cons_succ]
        refine wpAnyH_at 20 (v := ?vv18) rfl (by kernel_rfl) (by kernel_rfl) (by kernel_rfl) (fun _ _ _ h => h) ?hy18 HSv ?hh18
        case hy18 =>
          refine Or.inl ⟨by rfl, ?_⟩
          intro W hW
          obtain ⟨h0, h1⟩ := hW
          go_simp
          try with_reducible rfl
        simp only [Act.put, List.setIfInBounds_toArray, List.set_cons_zero, List.set_cons_succ]
        refine wpAnyH_at 21 (v := ?vv19) rfl (by kernel_rfl) (by kernel_rfl) (by kernel_rfl) (fun _ _ _ h => h) ?hy19 HSv ?hh19
        case hy19 =>
          refine Or.inl ⟨by rfl, ?_⟩
          intro W hW
          obtain ⟨h0, h1⟩ := hW
          go_simp
          try with_reducible rfl
        simp only [Act.put, List.setIfInBounds_toArray, List.set_cons_zero, List.set_cons_succ]
        refine wpAnyH_at 22 (v := ?vv20) rfl (by kernel_rfl) (by kernel_rfl) (by kernel_rfl) (fun _ _ _ h => h) ?hy20 HSv ?hh20
        case hy20 =>
          refine Or.inl ⟨by rfl, ?_⟩
          intro W hW
          obtain ⟨h0, h1⟩ := hW
          go_simp
          try with_reducible rfl
        simp only [Act.put, List.setIfInBounds_toArray, List.set_cons_zero, List.set_cons_succ]
        refine wpAnyH_at 23 (v := ?vv21) rfl (by kernel_rfl) (by kernel_rfl) (by kernel_rfl) (fun _ _ _ h => h) ?hy21 HSv ?hh21
        case hy21 =>
          refine Or.inl ⟨by rfl, ?_⟩
          intro W hW
          obtain ⟨h0, h1⟩ := hW
          go_simp
          try with_reducible rfl
        simp only [Act.put, List.setIfInBounds_toArray, List.set_cons_zero, List.set_cons_succ]
        refine wpAnyH_at 25 (v := ?vv22) rfl (by kernel_rfl) (by kernel_rfl) (by kernel_rfl) (fun _ _ _ h => h) ?hy22 HSv ?hh22
        case hy22 =>
          refine Or.inl ⟨by rfl, ?_⟩
          intro W hW
          obtain ⟨h0, h1⟩ := hW
          go_simp
          try with_reducible rfl
        simp only [Act.put, List.setIfInBounds_toArray, List.set_cons_zero, List.set_cons_succ]
        refine wpAnyH_1 24 rfl (by kernel_rfl) ?_
        intro K hK
        rw [if_pos (by rfl)]
        try go_simp
        go_at_call 21
        refine (waits_some _ _ _ _ _ _ H7.out.aut c1).mono ?_
        rintro en w8 ⟨rfl, rfl⟩
        refine hK _ _ (fun _ => HSv) ?_
        try simp only [Act.put, List.setIfInBounds_toArray, List.set_cons_zero, List.set_cons_succ]
        refine wpAnyH_1 26 rfl (by kernel_rfl) ?_
        intro K hK
        rw [if_pos (by rfl)]
        try go_simp
        go_at_call 22
        refine (rwaits_any _ _ _ _ _ _ H7.out.ref).mono ?_
        rintro en w8 ⟨rfl, rfl⟩
        refine hK _ _ (fun _ => HSv) ?_
        try simp only [Act.put, List.setIfInBounds_toArray, List.set_cons_zero, List.set_cons_succ]
        refine wpAnyH_at 27 (v := ?vv23) rfl (by kernel_rfl) (by kernel_rfl) (by kernel_rfl) (fun _ _ _ h => h) ?hy23 HSv ?hh23
        case hy23 =>
          refine Or.inl ⟨by rfl, ?_⟩
          intro W hW
          obtain ⟨h0, h1⟩ := hW
          go_simp
          try with_reducible rfl
        simp only [Act.put, List.setIfInBounds_toArray, List.set_cons_zero, List.set_cons_succ]
        refine wpAnyH_at 28 (v := ?vv24) rfl (by kernel_rfl) (by kernel_rfl) (by kernel_rfl) (fun _ _ _ h => h) ?hy24 HSv ?hh24
        case hy24 =>
          refine Or.inl ⟨by rfl, ?_⟩
          intro W hW
          obtain ⟨h0, h1⟩ := hW
          go_simp
          try with_reducible rfl
        simp only [Act.put, List.setIfInBounds_toArray, List.set_cons_zero, List.set_cons_succ]
        refine wpAnyH_end 29 (fun j hj => rgH_end _ _ j (by omega)) (by rfl) (by kernel_rfl) ?_
        simp only [List.drop_succ_cons, List.drop_zero]
        generalize waitsB s' = wb at *
        go_wp2_with fail
        go_roundg (len - (k + 1))
        case measure => omega
        case rel => exact ⟨k + 1, by omega, rfl, by go_num, s', c', D', H7.out⟩
      · have hx : (x == 99) = false := by simpa using h99
        clear h99
        go_wp2_with fail
        refine wp_region_H (rgH 0 14) (fun Y : World => Y.cell? ⟨lb, off + k, none⟩ = some (.int .i64 x)) (by kernel_rfl) ?_
        have HSv := DCK.out wr.drew (HP.out.bl.drew)
        refine wpAnyH_at 0 (v := ?vv25) rfl (by kernel_rfl) (by kernel_rfl) (by kernel_rfl) (fun _ _ _ h => h) ?hy25 HSv ?hh25
        case hy25 =>
          refine Or.inl ⟨by rfl, ?_⟩
          intro W hW
          obtain h0 := hW
          go_simp
          try with_reducible rfl
        simp only [Act.put, List.setIfInBounds_toArray, List.set_cons_zero, List.set_cons_succ]
        refine wpAnyH_at 1 (v := ?vv26) rfl (by kernel_rfl) (by kernel_rfl) (by kernel_rfl) (fun _ _ _ h => h) ?hy26 HSv ?hh26
        case hy26 =>
          refine Or.inl ⟨by rfl, ?_⟩
          intro W hW
          obtain h0 := hW
          go_simp
          try with_reducible rfl
        simp only [Act.put, List.setIfInBounds_toArray, List.set_cons_zero, List.set_cons_succ]
        refine wpAnyH_at 2 (v := ?vv27) rfl (by kernel_rfl) (by kernel_rfl) (by kernel_rfl) (fun _ _ _ h => h) ?hy27 HSv ?hh27
        case hy27 =>
          refine Or.inl ⟨by rfl, ?_⟩
          intro W hW
          obtain h0 := hW
          go_simp
          try with_reducible rfl
        simp only [Act.put, List.setIfInBounds_toArray, List.set_cons_zero, List.set_cons_succ]
        refine wpAnyH_at 3 (v := ?vv28) rfl (by kernel_rfl) (by kernel_rfl) (by kernel_rfl) (fun _ _ _ h => h) ?hy28 HSv ?hh28
        case hy28 =>
          refine Or.inl ⟨by rfl, ?_⟩
          intro W hW
          obtain h0 := hW
          go_simp
          try with_reducible rfl
        simp only [Act.put, List.setIfInBounds_toArray, List.set_cons_zero, List.set_cons_succ]
        refine wpAnyH_at 4 (v := ?vv29) rfl (by kernel_rfl) (by kernel_rfl) (by kernel_rfl) (fun _ _ _ h => h) ?hy29 HSv ?hh29
        case hy29 =>
          refine Or.inl ⟨by rfl, ?_⟩
          intro W hW
          obtain h0 := hW
          go_simp
          try with_reducible rfl
        simp only [Act.put, List.setIfInBounds_toArray, List.set_cons_zero, List.set_cons_succ]
        refine wpAnyH_at 6 (v := ?vv30) rfl (by kernel_rfl) (by kernel_rfl) (by kernel_rfl) (fun _ _ _ h => h) ?hy30 HSv ?hh30
        case hy30 =>
          refine Or.inl ⟨by rfl, ?_⟩
          intro W hW
          obtain h0 := hW
          go_simp
          try with_reducible rfl
        simp only [Act.put, List.setIfInBounds_toArray, List.set_cons_zero, List.set_cons_succ]
        refine wpAnyH_at 7 (v := ?vv31) rfl (by kernel_rfl) (by kernel_rfl) (by kernel_rfl) (fun _ _ _ h => h) ?hy31 HSv ?hh31
        case hy31 =>
          refine Or.inl ⟨by rfl, ?_⟩
          intro W hW
          obtain h0 := hW
          go_simp
          try with_reducible rfl
        simp only [Act.put, List.setIfInBounds_toArray, List.set_cons_zero, List.set_cons_succ]
        refine wpAnyH_at 8 (v := ?vv32) rfl (by kernel_rfl) (by kernel_rfl) (by kernel_rfl) (fun _ _ _ h => h) ?hy32 HSv ?hh32
        case hy32 =>
          refine Or.inl ⟨by rfl, ?_⟩
          intro W hW
          obtain h0 := hW
          go_simp
          try with_reducible rfl
        simp only [Act.put, List.setIfInBounds_toArray, List.set_cons_zero, List.set_cons_succ]
        refine wpAnyH_at 9 (v := ?vv33) rfl (by kernel_rfl) (by kernel_rfl) (by kernel_rfl) (fun _ _ _ h => h) ?hy33 HSv ?hh33
        case hy33 =>
          refine Or.inl ⟨by rfl, ?_⟩
          intro W hW
          obtain h0 := hW
          go_simp
          try with_reducible rfl
        simp only [Act.put, List.setIfInBounds_toArray, List.set_cons_zero, List.set_cons_succ]
        refine wpAnyH_at 10 (v := ?vv34) rfl (by kernel_rfl) (by kernel_rfl) (by kernel_rfl) (fun _ _ _ h => h) ?hy34 HSv ?hh34
        case hy34 =>
          refine Or.inl ⟨by rfl, ?_⟩
          intro W hW
          obtain h0 := hW
          go_simp
          try with_reducible rfl
        simp only [Act.put, List.setIfInBounds_toArray, List.set_cons_zero, List.set_cons_succ]
        refine wpAnyH_1 5 rfl (by kernel_rfl) ?_
        intro K hK
        rw [if_pos (by rfl)]
        try go_simp
        go_at_call 17
        refine (do_any _ s c cf tm x _ (HP.out.aut.below (Below.refl _ _).drew) c1 c2 t1 t2 HP.out.ib (WalkArith.wf_i64 (by omega)) HW.out.2.2).mono ?_
        rintro en w4 ⟨v4, rfl, hv4, ha4, hk4'⟩
        have hk4 : Keep (· = w.heap.size) wr w4 := (Keep.refl _ wr).drew.trans hk4'
        have hr4 := HP.out.ref.keep hk4 (fun he => HP.out.lt.2.2.2.2.2.2.1 he.symm)
        have hb4 : Below w.heap.size w w4 := HP.out.bl.trans (hk4.below HP.out.bl.size (fun g hg he => by omega))
        have HSv := DCK.out w4 hb4
        have H4 := Lib.hid (And.intro (show IntsAt 3 wr.heap.size w4 v4 (nextL s x) from hv4) (And.intro ha4 (And.intro hk4 (And.intro hr4 hb4))))
        clear hv4 ha4 hk4 hr4 hk4' hb4
        refine hK _ _ (fun _ => HSv) ?_
        try simp only [Act.put, List.setIfInBounds_toArray, List.set_cons_zero, List.set_cons_succ]
        refine wpAnyH_1 11 rfl (by kernel_rfl) ?_
        intro K hK
        rw [if_pos (by rfl)]
        try go_simp
        go_at_call 18
        refine (rdo_any _ s c cf tm x _ H4.out.2.2.2.1 c1 c2 t1 t2 HP.out.ib).mono ?_
        rintro en w5 ⟨v5, rfl, h5⟩
        have H5 := Lib.hid (HP.out.told H4.out.1 H4.out.2.1 H4.out.2.2.1 h5 (doC_bd _ ⟨by omega, c2⟩ ⟨by omega, t2⟩ _ _ HP.out.ib) (nx_bd s x HP.out.ss) (nextL_le s x))
        have HSv := DCK.out w5 H5.out.i.bl
        clear h5
        refine hK _ _ (fun _ => HSv) ?_
        try simp only [Act.put, List.setIfInBounds_toArray, List.set_cons_zero, List.set_cons_succ]
        refine wpAnyH_at 12 (v := ?vv35) rfl (by kernel_rfl) (by kernel_rfl) (by kernel_rfl) (fun _ _ _ h => h) ?hy35 HSv ?hh35
        case hy35 =>
          refine Or.inl ⟨by rfl, ?_⟩
          intro W hW
          obtain h0 := hW
          go_simp
          try with_reducible rfl
        simp only [Act.put, List.setIfInBounds_toArray, List.set_cons_zero, List.set_cons_succ]
        refine wpAnyH_at 13 (v := ?vv36) rfl (by kernel_rfl) (by kernel_rfl) (by kernel_rfl) (fun _ _ _ h => h) ?hy36 HSv ?hh36
        case hy36 =>
          refine Or.inl ⟨by rfl, ?_⟩
          intro W hW
          obtain h0 := hW
          go_simp
          try with_reducible rfl
        simp only [Act.put, List.setIfInBounds_toArray, List.set_cons_zero, List.set_cons_succ]
        refine wpAnyH_end 14 (fun j hj => rgH_end _ _ j (by omega)) (by rfl) (by kernel_rfl) ?_
        simp only [List.drop_succ_cons, List.drop_zero]
        go_wp2_with fail
        clear H4
        obtain ⟨s4, q4, e4, -, -⟩ := H5.out.row.form
        obtain ⟨s5, q5, e5, -, -⟩ := H5.out.ref.form
        subst e4 e5
        have hle := H5.out.le
        generalize nextS s x = s' at *
        generalize doC cf tm (nextL s x) (nextL s x) c = c' at *
        generalize nextL s x = xs at *
        refine (bookI_add H5.out.i.bk H5.out.row (by omega) H5.out.no (fun hg => by have := H5.out.own0 _ hg; omega)).mono ?_
        rintro en w6 ⟨⟨r6, rfl⟩, D', hadd⟩
        have hsz6 := hadd.kp.size
        have H6 := Lib.hid (And.intro (H5.out.i.add H5.out.own0 hadd) (And.intro (show RowR w6 (.slice s4 xs.length q4) xs.length (iV xs) from H5.out.row.rd.keep hadd.kp (fun g hg he => he.elim (fun he => by have := H5.out.own0 g hg; omega) (H5.out.no g hg))) (H5.out.ref.keep hadd.kp (fun g hg he => he.elim (fun he => by have := (H5.out.rf g hg).1; omega) (H5.out.rf g hg).2))))
        clear hadd H5
        go_wp2_with fail
        have r2 := H6.out.1.ref.c2
        have r3 := H6.out.1.ref.c3
        refine wp_region_H (rgH 0 29) (fun Y : World => Y.cell? ⟨w1.heap.size, 2, none⟩ = some (.int .i64 s') ∧ Y.cell? ⟨w1.heap.size, 3, none⟩ = some (.int .i64 c')) (by kernel_rfl) ?_
        have HSv : (fun Y : World => Y.cell? ⟨w1.heap.size, 2, none⟩ = some (.int .i64 s') ∧ Y.cell? ⟨w1.heap.size, 3, none⟩ = some (.int .i64 c')) w6.drew := ⟨r2, r3⟩
        clear r2 r3
        refine wpAnyH_at 0 (v := ?vv37) rfl (by kernel_rfl) (by kernel_rfl) (by kernel_rfl) (fun _ _ _ h => h) ?hy37 HSv ?hh37
        case hy37 =>
          refine Or.inl ⟨by rfl, ?_⟩
          intro W hW
          obtain ⟨h0, h1⟩ := hW
          go_simp
          try with_reducible rfl
        simp only [Act.put, List.setIfInBounds_toArray, List.set_cons_zero, List.set_cons_succ]
        refine wpAnyH_at 1 (v := ?vv38) rfl (by kernel_rfl) (by kernel_rfl) (by kernel_rfl) (fun _ _ _ h => h) ?hy38 HSv ?hh38
        case hy38 =>
          refine Or.inl ⟨by rfl, ?_⟩
          intro W hW
          obtain ⟨h0, h1⟩ := hW
          go_simp
          try with_reducible rfl
        simp only [Act.put, List.setIfInBounds_toArray, List.set_cons_zero, List.set_cons_succ]
        refine wpAnyH_1 2 rfl (by kernel_rfl) ?_
        intro K hK
        rw [if_pos (by rfl)]
        try go_simp
        go_at_call 10
        refine (sameI_true xs _ _ w6.drew (H6.out.2.1.below (Below.refl _ _).drew) (H6.out.2.2.below (Below.refl _ _).drew) (by omega)).mono ?_
        rintro en w7 ⟨rfl, hb7⟩
        have H7 := Lib.hid (H6.out.1.below (show Below w6.heap.size w6 w7 from Below.trans (Below.refl _ _).drew hb7))
        have HSv : w7.cell? ⟨w1.heap.size, 2, none⟩ = some (.int .i64 s') ∧ w7.cell? ⟨w1.heap.size, 3, none⟩ = some (.int .i64 c') := ⟨H7.out.ref.c2, H7.out.ref.c3⟩
        clear hb7
        refine hK _ _ (fun _ => HSv) ?_
        try simp only [Act.put, List.setIfInBounds_toArray, List.set_cons_zero, List.set_cons_succ]
        refine wpAnyH_at 3 (v := ?vv39) rfl (by kernel_rfl) (by kernel_rfl) (by kernel_rfl) (fun _ _ _ h => h) ?hy39 HSv ?hh39
        case hy39 =>
          refine Or.inl ⟨by rfl, ?_⟩
          intro W hW
          obtain ⟨h0, h1⟩ := hW
          go_simp
          try with_reducible rfl
        simp only [Act.put, List.setIfInBounds_toArray, List.set_cons_zero, List.set_cons_succ]
        refine wpAnyH_at 4 (v := ?vv40) rfl (by kernel_rfl) (by kernel_rfl) (by kernel_rfl) (fun _ _ _ h => h) ?hy40 HSv ?hh40
        case hy40 =>
          refine Or.inl ⟨by rfl, ?_⟩
          intro W hW
          obtain ⟨h0, h1⟩ := hW
          go_simp
          try with_reducible rfl
        simp only [Act.put, List.setIfInBounds_toArray, List.set_cons_zero, List.set_cons_succ]
        refine wpAnyH_at 5 (v := ?vv41) rfl (by kernel_rfl) (by kernel_rfl) (by kernel_rfl) (fun _ _ _ h => h) ?hy41 HSv ?hh41
        case hy41 =>
          refine Or.inl ⟨by rfl, ?_⟩
          intro W hW
          obtain ⟨h0, h1⟩ := hW
          go_simp
          try with_reducible rfl
        simp only [Act.put, List.setIfInBounds_toArray, List.set_cons_zero, List.set_cons_succ]
        refine wpAnyH_at 7 (v := ?vv42) rfl (by kernel_rfl) (by kernel_rfl) (by kernel_rfl) (fun _ _ _ h => h) ?hy42 HSv ?hh42
        case hy42 =>
          refine Or.inl ⟨by rfl, ?_⟩
          intro W hW
          obtain ⟨h0, h1⟩ := hW
          go_simp
          try with_reducible rfl
        simp only [Act.put, List.setIfInBounds_toArray, List.set_cons_zero, List.set_cons_succ]
        refine wpAnyH_at 8 (v := ?vv43) rfl (by kernel_rfl) (by kernel_rfl) (by kernel_rfl) (fun _ _ _ h => h) ?hy43 HSv ?hh43
        case hy43 =>
          refine Or.inl ⟨by rfl, ?_⟩
          intro W hW
          obtain ⟨h0, h1⟩ := hW
          go_simp
          try with_reducible rfl
        simp only [Act.put, List.setIfInBounds_toArray, List.set_cons_zero, List.set_cons_succ]
        refine wpAnyH_at 9 (v := ?vv44) rfl (by kernel_rfl) (by kernel_rfl) (by kernel_rfl) (fun _ _ _ h => h) ?hy44 HSv ?hh44
        case hy44 =>
          refine Or.inl ⟨by rfl, ?_⟩
          intro W hW
          obtain ⟨h0, h1⟩ := hW
          go_simp
          try with_reducible rfl
        simp only [Act.put, List.setIfInBounds_toArray, List.set_cons_zero, List.set_cons_succ]
        refine wpAnyH_at 10 (v := ?vv45) rfl (by kernel_rfl) (by kernel_rfl) (by kernel_rfl) (fun _ _ _ h => h) ?hy45 HSv ?hh45
        case hy45 =>
          refine Or.inl ⟨by rfl, ?_⟩
          intro W hW
          obtain ⟨h0, h1⟩ := hW
          go_simp
          try with_reducible rfl
        simp only [Act.put, List.setIfInBounds_toArray, List.set_cons_zero, List.set_cons_succ]
        refine wpAnyH_1 6 rfl (by kernel_rfl) ?_
        intro K hK
        rw [if_pos (by rfl)]
        try go_simp
        go_at_call 19
        refine (state_some _ _ _ _ _ _ H7.out.aut c1).mono ?_
        rintro en w8 ⟨rfl, rfl⟩
        refine hK _ _ (fun _ => HSv) ?_
        try simp only [Act.put, List.setIfInBounds_toArray, List.set_cons_zero, List.set_cons_succ]
        refine wpAnyH_at 11 (v := ?vv46) rfl (by kernel_rfl) (by kernel_rfl) (by kernel_rfl) (fun _ _ _ h => h) ?hy46 HSv ?hh46
        case hy46 =>
          refine Or.inl ⟨by rfl, ?_⟩
          intro W hW
          obtain ⟨h0, h1⟩ := hW
          go_simp
          try with_reducible rfl
        simp only [Act.put, List.setIfInBounds_toArray, List.set_cons_zero, List.set_cons_succ]
        refine wpAnyH_at 12 (v := ?vv47) rfl (by kernel_rfl) (by kernel_rfl) (by kernel_rfl) (fun _ _ _ h => h) ?hy47 HSv ?hh47
        case hy47 =>
          refine Or.inl ⟨by rfl, ?_⟩
          intro W hW
          obtain ⟨h0, h1⟩ := hW
          go_simp
          try with_reducible rfl
        simp only [Act.put, List.setIfInBounds_toArray, List.set_cons_zero, List.set_cons_succ]
        refine wpAnyH_at 13 (v := ?vv48) rfl (by kernel_rfl) (by kernel_rfl) (by kernel_rfl) (fun _ _ _ h => h) ?hy48 HSv ?hh48
        case hy48 =>
          refine Or.inl ⟨by rfl, ?_⟩
          intro W hW
          obtain ⟨h0, h1⟩ := hW
          go_simp
          try with_reducible rfl
        simp only [Act.put, List.setIfInBounds_toArray, List.set_cons_zero, List.set_cons_succ]
        refine wpAnyH_at 14 (v := ?vv49) rfl (by kernel_rfl) (by kernel_rfl) (by kernel_rfl) (fun _ _ _ h => h) ?hy49 HSv ?hh49
        case hy49 =>
          refine Or.inl ⟨by rfl, ?_⟩
          intro W hW
          obtain ⟨h0, h1⟩ := hW
          go_simp
          try with_reducible rfl
        simp only [Act.put, List.setIfInBounds_toArray, List.set_cons_zero, List.set_cons_succ]
        refine wpAnyH_at 16 (v := ?vv50) rfl (by kernel_rfl) (by kernel_rfl) (by kernel_rfl) (fun _ _ _ h => h) ?hy50 HSv ?hh50
        case hy50 =>
          refine Or.inl ⟨by rfl, ?_⟩
          intro W hW
          obtain ⟨h0, h1⟩ := hW
          go_simp
          try with_reducible rfl
        simp only [Act.put, List.setIfInBounds_toArray, List.set_cons_zero, List.set_cons_succ]
        refine wpAnyH_at 17 (v := ?vv51) rfl (by kernel_rfl) (by kernel_rfl) (by kernel_rfl) (fun _ _ _ h => h) ?hy51 HSv ?hh51
        case hy51 =>
          refine Or.inl ⟨by rfl, ?_⟩
          intro W hW
          obtain ⟨h0, h1⟩ := hW
          go_simp
          try with_reducible rfl
        simp only [Act.put, List.setIfInBounds_toArray, List.set_cons_zero, List.set_cons_succ]
        refine wpAnyH_at 18 (v := ?vv52) rfl (by kernel_rfl) (by kernel_rfl) (by kernel_rfl) (fun _ _ _ h => h) ?hy52 HSv ?hh52
        case hy52 =>
          refine Or.inl ⟨by rfl, ?_⟩
          intro W hW
          obtain ⟨h0, h1⟩ := hW
          go_simp
          try with_reducible rfl
        simp only [Act.put, List.setIfInBounds_toArray, List.set_cons_zero, List.set_cons_succ]
        refine wpAnyH_at 19 (v := ?vv53) rfl (by kernel_rfl) (by kernel_rfl) (by kernel_rfl) (fun _ _ _ h => h) ?hy53 HSv ?hh53
        case hy53 =>
          refine Or.inl ⟨by rfl, ?_⟩
          intro W hW
          obtain ⟨h0, h1⟩ := hW
          go_simp
          try with_reducible rfl
        simp only [Act.put, List.setIfInBounds_toArray, List.set_cons_zero, List.set_cons_succ]
        refine wpAnyH_1 15 rfl (by kernel_rfl) ?_
        intro K hK
        rw [if_pos (by rfl)]
        try go_simp
        go_at_call 20
        refine (count_some _ _ _ _ _ _ H7.out.aut c1).mono ?_
        rintro en w8 ⟨rfl, rfl⟩
        refine hK _ _ (fun _ => HSv) ?_
        try simp only [Act.put, List.setIfInBounds_toArray, List.set_cons_zero, List.set_cons_succ]
        refine wpAnyH_at 20 (v := ?vv54) rfl (by kernel_rfl) (by kernel_rfl) (by kernel_rfl) (fun _ _ _ h => h) ?hy54 HSv ?hh54
        case hy54 =>
          refine Or.inl ⟨by rfl, ?_⟩
          intro W hW
          obtain ⟨h0, h1⟩ := hW
          go_simp
          try with_reducible rfl
        simp only [Act.put, List.setIfInBounds_toArray, List.set_cons_zero, List.set_cons_succ]
        refine wpAnyH_at 21 (v := ?vv55) rfl (by kernel_rfl) (by kernel_rfl) (by kernel_rfl) (fun _ _ _ h => h) ?hy55 HSv ?hh55
        case hy55 =>
          refine Or.inl ⟨by rfl, ?_⟩
          intro W hW
          obtain ⟨h0, h1⟩ := hW
          go_simp
          try with_reducible rfl
        simp only [Act.put, List.setIfInBounds_toArray, List.set_cons_zero, List.set_cons_succ]
        refine wpAnyH_at 22 (v := ?vv56) rfl (by kernel_rfl) (by kernel_rfl) (by kernel_rfl) (fun _ _ _ h => h) ?hy56 HSv ?hh56
        case hy56 =>
          refine Or.inl ⟨by rfl, ?_⟩
          intro W hW
          obtain ⟨h0, h1⟩ := hW
          go_simp
          try with_reducible rfl
        simp only [Act.put, List.setIfInBounds_toArray, List.set_cons_zero, List.set_cons_succ]
        refine wpAnyH_at 23 (v := ?vv57) rfl (by kernel_rfl) (by kernel_rfl) (by kernel_rfl) (fun _ _ _ h => h) ?hy57 HSv ?hh57
        case hy57 =>
          refine Or.inl ⟨by rfl, ?_⟩
          intro W hW
          obtain ⟨h0, h1⟩ := hW
          go_simp
          try with_reducible rfl
        simp only [Act.put, List.setIfInBounds_toArray, List.set_cons_zero, List.set_cons_succ]
        refine wpAnyH_at 25 (v := ?vv58) rfl (by kernel_rfl) (by kernel_rfl) (by kernel_rfl) (fun _ _ _ h => h) ?hy58 HSv ?hh58
        case hy58 =>
          refine Or.inl ⟨by rfl, ?_⟩
          intro W hW
          obtain ⟨h0, h1⟩ := hW
          go_simp
          try with_reducible rfl
        simp only [Act.put, List.setIfInBounds_toArray, List.set_cons_zero, List.set_cons_succ]
        refine wpAnyH_1 24 rfl (by kernel_rfl) ?_
        intro K hK
        rw [if_pos (by rfl)]
        try go_simp
        go_at_call 21
        refine (waits_some _ _ _ _ _ _ H7.out.aut c1).mono ?_
        rintro en w8 ⟨rfl, rfl⟩
        refine hK _ _ (fun _ => HSv) ?_
        try simp only [Act.put, List.setIfInBounds_toArray, List.set_cons_zero, List.set_cons_succ]
        refine wpAnyH_1 26 rfl (by kernel_rfl) ?_
        intro K hK
        rw [if_pos (by rfl)]
        try go_simp
        go_at_call 22
        refine (rwaits_any _ _ _ _ _ _ H7.out.ref).mono ?_
        rintro en w8 ⟨rfl, rfl⟩
        refine hK _ _ (fun _ => HSv) ?_
        try simp only [Act.put, List.setIfInBounds_toArray, List.set_cons_zero, List.set_cons_succ]
        refine wpAnyH_at 27 (v := ?vv59) rfl (by kernel_rfl) (by kernel_rfl) (by kernel_rfl) (fun _ _ _ h => h) ?hy59 HSv ?hh59
        case hy59 =>
          refine Or.inl ⟨by rfl, ?_⟩
          intro W hW
          obtain ⟨h0, h1⟩ := hW
          go_simp
          try with_reducible rfl
        simp only [Act.put, List.setIfInBounds_toArray, List.set_cons_zero, List.set_cons_succ]
        refine wpAnyH_at 28 (v := ?vv60) rfl (by kernel_rfl) (by kernel_rfl) (by kernel_rfl) (fun _ _ _ h => h) ?hy60 HSv ?hh60
        case hy60 =>
          refine Or.inl ⟨by rfl, ?_⟩
          intro W hW
          obtain ⟨h0, h1⟩ := hW
          go_simp
          try with_reducible rfl
        simp only [Act.put, List.setIfInBounds_toArray, List.set_cons_zero, List.set_cons_succ]
        refine wpAnyH_end 29 (fun j hj => rgH_end _ _ j (by omega)) (by rfl) (by kernel_rfl) ?_
        simp only [List.drop_succ_cons, List.drop_zero]
        generalize waitsB s' = wb at *
        go_wp2_with fail
        go_roundg (len - (k + 1))
        case measure => omega
        case rel => exact ⟨k + 1, by omega, rfl, by go_num, s', c', D', H7.out⟩
    · have HD := Lib.hid (And.intro HP.out.bk HP.out.hD)
      go_wp2_with fail
      refine (alive9_any _).mono ?_
      rintro en w4 ⟨rfl, hb⟩
      have HB := Lib.hid hb
      clear hb
      go_wp2_with fail
      refine (apartI (HD.out.1.below HB.out)).mono ?_
      rintro en w5 ⟨rfl, hk5⟩
      have HK5 := Lib.hid hk5
      clear hk5
      go_wp2_with fail
      go_ret
      refine ⟨rfl, (HP.out.bl.trans (HB.out.mono HP.out.bl.size)).trans (HK5.out.below (by have := HP.out.bl.size; have := HB.out.size; omega) fun g hg he => ?_)⟩
      have := HD.out.2 g he; omega
end Go.Proofs.YtignponfoheaeaaGreat
