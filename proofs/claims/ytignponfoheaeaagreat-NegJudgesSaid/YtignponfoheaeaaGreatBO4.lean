import Derived.Test.YtignponfoheaeaaGreatBO3
/- Options of a book: one more list; all stand; all are marked; all are grown. -/
namespace Go.Proofs.YtignponfoheaeaaGreat
open Go.RowKit Go.Tg Go.Maps

theorem opts_ne : (62 : TypeId) ≠ 91 := by decide

set_option maxHeartbeats 4000000 in
set_option maxRecDepth 100000 in
theorem stillO_any (D : KD) (bb : Nat) (w : World) (h : ShelfV 91 62 2 w D) (c1 : w.cell? ⟨bb, 8, none⟩ = some D.v1) (c2 : w.cell? ⟨bb, 9, none⟩ = some D.v2) (hbb : bb < w.heap.size)
    (he : ∀ i, i < D.n → ∃ xs : List Opt, xs.length = D.m i ∧ D.cs i = oV xs ∧ D.ds i = oV xs) :
    Calls Tryz.prog 72 #[.pointer (some ⟨bb, 0, none⟩)] w fun e w' => e = .returned (.bool true) ∧ Below w.heap.size w w' := by
  obtain ⟨v1, v2, n, X, Y, m, cs, ds⟩ := D
  simp only at c1 c2 he
  obtain ⟨s1, k1, e1, hc1, hm1⟩ := h.x.r.form
  obtain ⟨s2, k2, e2, hc2, hm2⟩ := h.y.r.form
  simp only at e1 e2 hc1 hc2
  subst e1 e2
  have hn := h.hn
  simp only at hn
  have H := Lib.hid (And.intro h (And.intro c1 (And.intro c2 (And.intro hbb he))))
  clear h hbb he
  go_enter Tryz.func72, Tryz.ntmps72
  go_wp2_with fail
  go_loopg [3] n (fun x i wr => ∃ k : Nat, k ≤ n ∧ x = n - k ∧ i = .int .i64 k ∧ Hid (Below w.heap.size w wr))
  case atStart => exact ⟨0, by omega, by omega, rfl, Below.refl _ _⟩
  case round =>
    obtain ⟨k, hk, rfl, rfl, hK⟩ := hrel
    have HK := Lib.hid hK.out
    clear hK
    have d1 : wr.cell? ⟨bb, 8, none⟩ = _ := (HK.out.cell (p := ⟨bb, 8, none⟩) H.out.2.2.2.1).trans c1
    by_cases hkn : k < n
    · obtain ⟨g, rfl, hg, c0⟩ := H.out.1.x.r.rd.at k (by simpa using hkn)
      obtain ⟨g', rfl, hg', c0'⟩ := H.out.1.y.r.rd.at k (by simpa using hkn)
      simp only [List.getElem_map, List.getElem_range] at c0 c0'
      obtain ⟨xs, hxs, hx1, hx2⟩ := H.out.2.2.2.2 k hkn
      have hr1 := (H.out.1.x.e k hkn).rd
      have hr2 := (H.out.1.y.e k hkn).rd
      have hle := H.out.1.le k hkn
      simp only at hr1 hr2 hle
      rw [hx1] at hr1
      rw [hx2] at hr2
      generalize m k = mk at *
      subst hxs
      generalize hXk : X k = x1 at *
      generalize hYk : Y k = y1 at *
      obtain ⟨sx, cx, rfl, -, -⟩ := hr1.form
      obtain ⟨sy, cy, rfl, -, -⟩ := hr2.form
      have HS : Hid (∀ W, Below wr.heap.size wr W → W.cell? ⟨bb, 8, none⟩ = some (.slice (some ⟨g, 0, none⟩) n k1) ∧ W.cell? ⟨bb, 9, none⟩ = some (.slice (some ⟨g', 0, none⟩) n k2) ∧ W.cell? ⟨g, k, none⟩ = some (.slice sx xs.length cx) ∧ W.cell? ⟨g', k, none⟩ = some (.slice sy xs.length cy)) :=
        Lib.hid fun W hW =>
          have hb := HK.out.trans (hW.mono HK.out.size)
          ⟨(hb.cell (p := ⟨bb, 8, none⟩) H.out.2.2.2.1).trans c1, (hb.cell (p := ⟨bb, 9, none⟩) H.out.2.2.2.1).trans c2, (hb.cell (p := ⟨g, k, none⟩) hg).trans c0, (hb.cell (p := ⟨g', k, none⟩) hg').trans c0'⟩
      have HR := Lib.hid (fun (W : World) (hW : Below wr.heap.size wr W) => sameO_true xs _ _ W ((hr1.below HK.out).below hW) ((hr2.below HK.out).below hW) (by omega))
      clear hr1 hr2 c0 c0' hx1 hx2
      go_wp2_with fail
      refine wp_region_H (rgH 0 16) (fun Y : World => Y.cell? ⟨bb, 8, none⟩ = some (.slice (some ⟨g, 0, none⟩) n k1) ∧ Y.cell? ⟨bb, 9, none⟩ = some (.slice (some ⟨g', 0, none⟩) n k2) ∧ Y.cell? ⟨g, k, none⟩ = some (.slice sx xs.length cx) ∧ Y.cell? ⟨g', k, none⟩ = some (.slice sy xs.length cy)) (by kernel_rfl) ?_
      have HSv := HS.out wr.drew (Below.refl _ _).drew
      refine wpAnyH_at 0 (v := ?vv1) rfl (by kernel_rfl) (by kernel_rfl) (by kernel_rfl) (fun _ _ _ h => h) ?hy1 HSv ?hh1
      case hy1 =>
        refine Or.inl ⟨by rfl, ?_⟩
        intro W hW
        obtain ⟨h0, h1, h2, h3⟩ := hW
        go_simp
        try with_reducible rfl
      simp only [Act.put, List.setIfInBounds_toArray, List.set_cons_zero, List.set_cons_succ]
      refine wpAnyH_at 1 (v := ?vv2) rfl (by kernel_rfl) (by kernel_rfl) (by kernel_rfl) (fun _ _ _ h => h) ?hy2 HSv ?hh2
      case hy2 =>
        refine Or.inl ⟨by rfl, ?_⟩
        intro W hW
        obtain ⟨h0, h1, h2, h3⟩ := hW
        go_simp
        try with_reducible rfl
      simp only [Act.put, List.setIfInBounds_toArray, List.set_cons_zero, List.set_cons_succ]
      refine wpAnyH_at 2 (v := ?vv3) rfl (by kernel_rfl) (by kernel_rfl) (by kernel_rfl) (fun _ _ _ h => h) ?hy3 HSv ?hh3
      case hy3 =>
        refine Or.inl ⟨by rfl, ?_⟩
        intro W hW
        obtain ⟨h0, h1, h2, h3⟩ := hW
        go_simp
        try with_reducible rfl
      simp only [Act.put, List.setIfInBounds_toArray, List.set_cons_zero, List.set_cons_succ]
      refine wpAnyH_at 3 (v := ?vv4) rfl (by kernel_rfl) (by kernel_rfl) (by kernel_rfl) (fun _ _ _ h => h) ?hy4 HSv ?hh4
      case hy4 =>
        refine Or.inl ⟨by rfl, ?_⟩
        intro W hW
        obtain ⟨h0, h1, h2, h3⟩ := hW
        go_simp
        try with_reducible rfl
      simp only [Act.put, List.setIfInBounds_toArray, List.set_cons_zero, List.set_cons_succ]
      refine wpAnyH_at 4 (v := ?vv5) rfl (by kernel_rfl) (by kernel_rfl) (by kernel_rfl) (fun _ _ _ h => h) ?hy5 HSv ?hh5
      case hy5 =>
        refine Or.inl ⟨by rfl, ?_⟩
        intro W hW
        obtain ⟨h0, h1, h2, h3⟩ := hW
        go_simp
        try with_reducible rfl
      simp only [Act.put, List.setIfInBounds_toArray, List.set_cons_zero, List.set_cons_succ]
      refine wpAnyH_at 5 (v := ?vv6) rfl (by kernel_rfl) (by kernel_rfl) (by kernel_rfl) (fun _ _ _ h => h) ?hy6 HSv ?hh6
      case hy6 =>
        refine Or.inl ⟨by rfl, ?_⟩
        intro W hW
        obtain ⟨h0, h1, h2, h3⟩ := hW
        go_simp
        try with_reducible rfl
      simp only [Act.put, List.setIfInBounds_toArray, List.set_cons_zero, List.set_cons_succ]
      refine wpAnyH_at 6 (v := ?vv7) rfl (by kernel_rfl) (by kernel_rfl) (by kernel_rfl) (fun _ _ _ h => h) ?hy7 HSv ?hh7
      case hy7 =>
        refine Or.inl ⟨by rfl, ?_⟩
        intro W hW
        obtain ⟨h0, h1, h2, h3⟩ := hW
        go_simp
        try with_reducible rfl
      simp only [Act.put, List.setIfInBounds_toArray, List.set_cons_zero, List.set_cons_succ]
      refine wpAnyH_at 7 (v := ?vv8) rfl (by kernel_rfl) (by kernel_rfl) (by kernel_rfl) (fun _ _ _ h => h) ?hy8 HSv ?hh8
      case hy8 =>
        refine Or.inl ⟨by rfl, ?_⟩
        intro W hW
        obtain ⟨h0, h1, h2, h3⟩ := hW
        go_simp
        try with_reducible rfl
      simp only [Act.put, List.setIfInBounds_toArray, List.set_cons_zero, List.set_cons_succ]
      refine wpAnyH_at 8 (v := ?vv9) rfl (by kernel_rfl) (by kernel_rfl) (by kernel_rfl) (fun _ _ _ h => h) ?hy9 HSv ?hh9
      case hy9 =>
        refine Or.inl ⟨by rfl, ?_⟩
        intro W hW
        obtain ⟨h0, h1, h2, h3⟩ := hW
        go_simp
        try with_reducible rfl
      simp only [Act.put, List.setIfInBounds_toArray, List.set_cons_zero, List.set_cons_succ]
      refine wpAnyH_at 9 (v := ?vv10) rfl (by kernel_rfl) (by kernel_rfl) (by kernel_rfl) (fun _ _ _ h => h) ?hy10 HSv ?hh10
      case hy10 =>
        refine Or.inl ⟨by rfl, ?_⟩
        intro W hW
        obtain ⟨h0, h1, h2, h3⟩ := hW
        go_simp
        try with_reducible rfl
      simp only [Act.put, List.setIfInBounds_toArray, List.set_cons_zero, List.set_cons_succ]
      refine wpAnyH_at 10 (v := ?vv11) rfl (by kernel_rfl) (by kernel_rfl) (by kernel_rfl) (fun _ _ _ h => h) ?hy11 HSv ?hh11
      case hy11 =>
        refine Or.inl ⟨by rfl, ?_⟩
        intro W hW
        obtain ⟨h0, h1, h2, h3⟩ := hW
        go_simp
        try with_reducible rfl
      simp only [Act.put, List.setIfInBounds_toArray, List.set_cons_zero, List.set_cons_succ]
      refine wpAnyH_at 11 (v := ?vv12) rfl (by kernel_rfl) (by kernel_rfl) (by kernel_rfl) (fun _ _ _ h => h) ?hy12 HSv ?hh12
      case hy12 =>
        refine Or.inl ⟨by rfl, ?_⟩
        intro W hW
        obtain ⟨h0, h1, h2, h3⟩ := hW
        go_simp
        try with_reducible rfl
      simp only [Act.put, List.setIfInBounds_toArray, List.set_cons_zero, List.set_cons_succ]
      refine wpAnyH_at 12 (v := ?vv13) rfl (by kernel_rfl) (by kernel_rfl) (by kernel_rfl) (fun _ _ _ h => h) ?hy13 HSv ?hh13
      case hy13 =>
        refine Or.inl ⟨by rfl, ?_⟩
        intro W hW
        obtain ⟨h0, h1, h2, h3⟩ := hW
        go_simp
        try with_reducible rfl
      simp only [Act.put, List.setIfInBounds_toArray, List.set_cons_zero, List.set_cons_succ]
      refine wpAnyH_at 13 (v := ?vv14) rfl (by kernel_rfl) (by kernel_rfl) (by kernel_rfl) (fun _ _ _ h => h) ?hy14 HSv ?hh14
      case hy14 =>
        refine Or.inl ⟨by rfl, ?_⟩
        intro W hW
        obtain ⟨h0, h1, h2, h3⟩ := hW
        go_simp
        try with_reducible rfl
      simp only [Act.put, List.setIfInBounds_toArray, List.set_cons_zero, List.set_cons_succ]
      refine wpAnyH_1 14 rfl (by kernel_rfl) ?_
      intro K hK
      rw [if_pos (by rfl)]
      try go_simp
      go_at_call 30
      refine (HR.out wr.drew (Below.refl _ _).drew).mono ?_
      rintro e W3 ⟨rfl, hb3⟩
      have HB3 := Lib.hid (show Below wr.heap.size wr W3 from Below.trans (Below.refl _ _).drew hb3)
      have HSv := HS.out W3 HB3.out
      clear hb3
      refine hK _ _ (fun _ => HSv) ?_
      try simp only [Act.put, List.setIfInBounds_toArray, List.set_cons_zero, List.set_cons_succ]
      refine wpAnyH_at 15 (v := ?vv15) rfl (by kernel_rfl) (by kernel_rfl) (by kernel_rfl) (fun _ _ _ h => h) ?hy15 HSv ?hh15
      case hy15 =>
        refine Or.inl ⟨by rfl, ?_⟩
        intro W hW
        obtain ⟨h0, h1, h2, h3⟩ := hW
        go_simp
        try with_reducible rfl
      simp only [Act.put, List.setIfInBounds_toArray, List.set_cons_zero, List.set_cons_succ]
      refine wpAnyH_end 16 (fun j hj => rgH_end _ _ j (by omega)) (by rfl) (by kernel_rfl) ?_
      simp only [List.drop_succ_cons, List.drop_zero]
      go_wp2_with fail
      go_roundg (n - (k + 1))
      case measure => omega
      case rel => exact ⟨k + 1, by omega, rfl, by go_num, HK.out.trans (HB3.out.mono HK.out.size)⟩
    · go_wp2_with fail
      go_ret
      exact ⟨rfl, HK.out⟩
set_option maxHeartbeats 4000000 in
set_option maxRecDepth 100000 in
theorem markedO_any (l : Value) (n : Nat) (G : Nat → Value) (m : Nat → Nat) (w : World) (hl : RowR w l n ((List.range n).map G)) (hn : n ≤ 250) (hG : ∀ i, i < n → RowR w (G i) (m i) (marksC mkO i 0 (m i)) ∧ m i ≤ 200000) :
    Calls Tryz.prog 126 #[l] w fun e w' => e = .returned (.bool true) ∧ Below w.heap.size w w' := by
  obtain ⟨sa, c, rfl, hc, hm⟩ := hl.form
  have H := Lib.hid (And.intro hl hG)
  clear hl hG
  go_enter Tryz.func126, Tryz.ntmps126
  go_wp2_with fail
  go_loopg [3] n (fun x i wr => ∃ k : Nat, k ≤ n ∧ x = n - k ∧ i = .int .i64 k ∧ Hid (Below w.heap.size w wr))
  case atStart => exact ⟨0, by omega, by omega, rfl, Below.refl _ _⟩
  case round =>
    obtain ⟨k, hk, rfl, rfl, hK⟩ := hrel
    have HK := Lib.hid hK.out
    clear hK
    by_cases hkn : k < n
    · obtain ⟨g, rfl, hg, c0⟩ := H.out.1.at k (by simpa using hkn)
      simp only [List.getElem_map, List.getElem_range] at c0
      obtain ⟨hr, hmk⟩ := H.out.2 k hkn
      generalize hGk : G k = x at *
      obtain ⟨sk, ck, rfl, hck, hcm⟩ := hr.form
      have HS : Hid (∀ W, Below wr.heap.size wr W → W.cell? ⟨g, k, none⟩ = some (.slice sk (m k) ck)) := Lib.hid fun W hW => (hW.cell (p := ⟨g, k, none⟩) (Nat.lt_of_lt_of_le hg HK.out.size)).trans ((HK.out.cell (p := ⟨g, k, none⟩) hg).trans c0)
      have HR := Lib.hid (hr.below HK.out)
      clear hr c0
      generalize m k = mk at *
      go_wp2_with fail
      refine wp_region_H (rgH 0 13) (fun Y : World => Y.cell? ⟨g, k, none⟩ = some (.slice sk mk ck)) (by kernel_rfl) ?_
      have HSv := HS.out wr.drew (Below.refl _ _).drew
      refine wpAnyH_at 0 (v := ?vv16) rfl (by kernel_rfl) (by kernel_rfl) (by kernel_rfl) (fun _ _ _ h => h) ?hy16 HSv ?hh16
      case hy16 =>
        refine Or.inl ⟨by rfl, ?_⟩
        intro W hW
        obtain h0 := hW
        go_simp
        try with_reducible rfl
      simp only [Act.put, List.setIfInBounds_toArray, List.set_cons_zero, List.set_cons_succ]
      refine wpAnyH_at 1 (v := ?vv17) rfl (by kernel_rfl) (by kernel_rfl) (by kernel_rfl) (fun _ _ _ h => h) ?hy17 HSv ?hh17
      case hy17 =>
        refine Or.inl ⟨by rfl, ?_⟩
        intro W hW
        obtain h0 := hW
        go_simp
        try with_reducible rfl
      simp only [Act.put, List.setIfInBounds_toArray, List.set_cons_zero, List.set_cons_succ]
      refine wpAnyH_at 2 (v := ?vv18) rfl (by kernel_rfl) (by kernel_rfl) (by kernel_rfl) (fun _ _ _ h => h) ?hy18 HSv ?hh18
      case hy18 =>
        refine Or.inl ⟨by rfl, ?_⟩
        intro W hW
        obtain h0 := hW
        go_simp
        try with_reducible rfl
      simp only [Act.put, List.setIfInBounds_toArray, List.set_cons_zero, List.set_cons_succ]
      refine wpAnyH_at 3 (v := ?vv19) rfl (by kernel_rfl) (by kernel_rfl) (by kernel_rfl) (fun _ _ _ h => h) ?hy19 HSv ?hh19
      case hy19 =>
        refine Or.inl ⟨by rfl, ?_⟩
        intro W hW
        obtain h0 := hW
        go_simp
        try with_reducible rfl
      simp only [Act.put, List.setIfInBounds_toArray, List.set_cons_zero, List.set_cons_succ]
      refine wpAnyH_at 4 (v := ?vv20) rfl (by kernel_rfl) (by kernel_rfl) (by kernel_rfl) (fun _ _ _ h => h) ?hy20 HSv ?hh20
      case hy20 =>
        refine Or.inl ⟨by rfl, ?_⟩
        intro W hW
        obtain h0 := hW
        go_simp
        try with_reducible rfl
      simp only [Act.put, List.setIfInBounds_toArray, List.set_cons_zero, List.set_cons_succ]
      refine wpAnyH_at 5 (v := ?vv21) rfl (by kernel_rfl) (by kernel_rfl) (by kernel_rfl) (fun _ _ _ h => h) ?hy21 HSv ?hh21
      case hy21 =>
        refine Or.inl ⟨by rfl, ?_⟩
        intro W hW
        obtain h0 := hW
        go_simp
        try with_reducible rfl
      simp only [Act.put, List.setIfInBounds_toArray, List.set_cons_zero, List.set_cons_succ]
      refine wpAnyH_at 6 (v := ?vv22) rfl (by kernel_rfl) (by kernel_rfl) (by kernel_rfl) (fun _ _ _ h => h) ?hy22 HSv ?hh22
      case hy22 =>
        refine Or.inl ⟨by rfl, ?_⟩
        intro W hW
        obtain h0 := hW
        go_simp
        try with_reducible rfl
      simp only [Act.put, List.setIfInBounds_toArray, List.set_cons_zero, List.set_cons_succ]
      refine wpAnyH_at 7 (v := ?vv23) rfl (by kernel_rfl) (by kernel_rfl) (by kernel_rfl) (fun _ _ _ h => h) ?hy23 HSv ?hh23
      case hy23 =>
        refine Or.inl ⟨by rfl, ?_⟩
        intro W hW
        obtain h0 := hW
        go_simp
        try with_reducible rfl
      simp only [Act.put, List.setIfInBounds_toArray, List.set_cons_zero, List.set_cons_succ]
      refine wpAnyH_at 8 (v := ?vv24) rfl (by kernel_rfl) (by kernel_rfl) (by kernel_rfl) (fun _ _ _ h => h) ?hy24 HSv ?hh24
      case hy24 =>
        refine Or.inl ⟨by rfl, ?_⟩
        intro W hW
        obtain h0 := hW
        go_simp
        try with_reducible rfl
      simp only [Act.put, List.setIfInBounds_toArray, List.set_cons_zero, List.set_cons_succ]
      refine wpAnyH_at 9 (v := ?vv25) rfl (by kernel_rfl) (by kernel_rfl) (by kernel_rfl) (fun _ _ _ h => h) ?hy25 HSv ?hh25
      case hy25 =>
        refine Or.inl ⟨by rfl, ?_⟩
        intro W hW
        obtain h0 := hW
        go_simp
        try with_reducible rfl
      simp only [Act.put, List.setIfInBounds_toArray, List.set_cons_zero, List.set_cons_succ]
      refine wpAnyH_1 10 rfl (by kernel_rfl) ?_
      intro K hK
      rw [if_pos (by rfl)]
      try go_simp
      go_at_call 207
      refine (markO_any k 0 mk (by omega) (by omega) (by omega) _).mono ?_
      rintro e W2 ⟨v2, rfl, h2⟩
      have HB2 := Lib.hid (show Below wr.heap.size wr W2 from Below.trans (Below.refl _ _).drew h2.b)
      have HSv := HS.out W2 HB2.out
      have H2 := Lib.hid h2.r
      clear h2
      refine hK _ _ (fun _ => HSv) ?_
      try simp only [Act.put, List.setIfInBounds_toArray, List.set_cons_zero, List.set_cons_succ]
      refine wpAnyH_1 11 rfl (by kernel_rfl) ?_
      intro K hK
      rw [if_pos (by rfl)]
      try go_simp
      go_at_call 30
      refine (sameO_true (mlistO k 0 mk) _ _ _ (by rw [mlistO_len, ← mlistO_V]; exact HR.out.below HB2.out) (by rw [mlistO_len, ← mlistO_V]; exact H2.out.rd) (by rw [mlistO_len]; omega)).mono ?_
      rintro e W3 ⟨rfl, hb3⟩
      have HB3 := Lib.hid (HB2.out.trans (hb3.mono HB2.out.size))
      have HSv := HS.out W3 HB3.out
      clear hb3
      refine hK _ _ (fun _ => HSv) ?_
      try simp only [Act.put, List.setIfInBounds_toArray, List.set_cons_zero, List.set_cons_succ]
      refine wpAnyH_at 12 (v := ?vv26) rfl (by kernel_rfl) (by kernel_rfl) (by kernel_rfl) (fun _ _ _ h => h) ?hy26 HSv ?hh26
      case hy26 =>
        refine Or.inl ⟨by rfl, ?_⟩
        intro W hW
        obtain h0 := hW
        go_simp
        try with_reducible rfl
      simp only [Act.put, List.setIfInBounds_toArray, List.set_cons_zero, List.set_cons_succ]
      refine wpAnyH_end 13 (fun j hj => rgH_end _ _ j (by omega)) (by rfl) (by kernel_rfl) ?_
      simp only [List.drop_succ_cons, List.drop_zero]
      go_wp2_with fail
      go_roundg (n - (k + 1))
      case measure => omega
      case rel => exact ⟨k + 1, by omega, rfl, by go_num, HK.out.trans (HB3.out.mono HK.out.size)⟩
    · go_wp2_with fail
      go_ret
      exact ⟨rfl, HK.out⟩
end Go.Proofs.YtignponfoheaeaaGreat
