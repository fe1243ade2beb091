import Derived.Test.YtignponfoheaeaaGreatBO4
import Derived.Test.YtignponfoheaeaaGreatB5
/- Options of a book: all are marked. -/
namespace Go.Proofs.YtignponfoheaeaaGreat
open Go.RowKit Go.Tg Go.Maps

set_option maxHeartbeats 4000000 in
set_option maxRecDepth 100000 in
theorem putO_any (v : Value) (n : Nat) (X : Nat → Value) (m : Nat → Nat) (cs : Nat → List Value) (bb : Nat) (w : World) (h : XV 91 62 2 w v n X m cs) (c1 : w.cell? ⟨bb, 8, none⟩ = some v) (hbb : bb < w.heap.size) (hv : v.ownBlock ≠ some bb) (hne : ∀ i, i < n → (X i).ownBlock ≠ some bb)
    (hn : n ≤ 250) (hm : ∀ i, i < n → m i ≤ 100000) :
    Calls Tryz.prog 94 #[.pointer (some ⟨bb, 0, none⟩)] w fun e w' => (∃ r, e = .returned r) ∧ PutI 91 62 2 mkO w w' v n X m cs n := by
  obtain ⟨s1, k1, e1, hc1, hm1⟩ := h.r.form
  subst e1
  have H := Lib.hid (And.intro h (And.intro c1 (And.intro hbb (And.intro hne hm))))
  clear h hbb hne hm
  go_enter Tryz.func94, Tryz.ntmps94
  go_wp2_with fail
  go_loopg [2] n (fun x i wr => ∃ k : Nat, k ≤ n ∧ x = n - k ∧ i = .int .i64 k ∧ Hid (PutI 91 62 2 mkO w wr (.slice s1 n k1) n X m cs k))
  case atStart => exact ⟨0, by omega, by omega, rfl, ⟨H.out.1.cong (fun i _ => by unfold mixC; rw [if_neg (by omega)]), Keep.refl _ _⟩⟩
  case round =>
    obtain ⟨k, hk, rfl, rfl, hK⟩ := hrel
    have HK := Lib.hid hK.out
    clear hK
    have d1 : wr.cell? ⟨bb, 8, none⟩ = _ := (HK.out.kp.cell (p := ⟨bb, 8, none⟩) H.out.2.2.1 (fun ⟨j, hj, he⟩ => H.out.2.2.2.1 j hj he)).trans c1
    by_cases hkn : k < n
    · obtain ⟨g, rfl, hg, c0⟩ := HK.out.x.r.rd.at k (by simpa using hkn)
      simp only [List.getElem_map, List.getElem_range] at c0
      have hx := HK.out.x.e k hkn
      have hmk := H.out.2.2.2.2 k hkn
      have hgk : (X k).ownBlock ≠ some g := fun he => HK.out.x.rowNe opts_ne k hkn g rfl he
      have hbk := H.out.2.2.2.1 k hkn
      have hgb : g ≠ bb := fun he => hv (by rw [he]; rfl)
      have HX := Lib.hid hx
      obtain ⟨sx, cx, ex, hcx, hcm⟩ := hx.form
      clear hx
      have HEX := Lib.hid ex
      rw [ex] at c0
      generalize hmkk : m k = mk at *
      have HMK := Lib.hid hmkk
      clear hmkk ex
      go_wp2_with (go_at_call 207; refine (markO_any k 0 mk (by omega) (by omega) (by omega) _).mono ?_
                   rintro e w2 ⟨v2, rfl, h2⟩
                   obtain ⟨s2, k2, rfl, hc2, hm2⟩ := h2.r.form
                   have H2 := Lib.hid h2
                   clear h2)
      have HXR := Lib.hid (And.intro d1 (And.intro c0 (And.intro (Nat.lt_of_lt_of_le H.out.2.2.1 HK.out.kp.size) hg)))
      have hgl : g < w2.heap.size := Nat.lt_of_lt_of_le hg H2.out.b.size
      have hbl : bb < w2.heap.size := Nat.lt_of_lt_of_le HXR.out.2.2.1 H2.out.b.size
      clear d1 c0
      go_loopg [4] mk (fun x jj wi => ∃ j : Nat, j ≤ mk ∧ x = mk - j ∧ jj = .int .i64 j ∧ Hid (PutJ 91 2 mkO w2 wi (X k) mk (cs k) k j))
      case atStart => exact ⟨0, by omega, by omega, rfl, ⟨by
        have h := HX.out.below H2.out.b
        unfold mixC at h
        rw [if_neg (Nat.lt_irrefl k)] at h
        exact h, Keep.refl _ _⟩⟩
      case round =>
        obtain ⟨j, hj, rfl, rfl, hJ⟩ := hrel
        have HJ := Lib.hid hJ.out
        clear hJ
        by_cases hjm : j < mk
        · have hrow := HJ.out.row
          have hd1 : wr.cell? ⟨bb, 8, none⟩ = _ := (HJ.out.kp.cell (p := ⟨bb, 8, none⟩) hbl hbk).trans ((H2.out.b.cell (p := ⟨bb, 8, none⟩) HXR.out.2.2.1).trans HXR.out.1)
          have hd2 : wr.cell? ⟨g, k, none⟩ = _ := (HJ.out.kp.cell (p := ⟨g, k, none⟩) hgl hgk).trans ((H2.out.b.cell (p := ⟨g, k, none⟩) HXR.out.2.2.2).trans HXR.out.2.1)
          have hcl : (cs k).length = mk * 2 := by have := HX.out.len; unfold mixC at this; rw [if_neg (Nat.lt_irrefl k)] at this; omega
          have hmr := H2.out.r.rd.keep HJ.out.kp (fun q hq he => by have := H2.out.f q hq; have := HX.out.lt q he; omega)
          have hmu : (marksC mkO k 0 mk)[j * 2]? = some (.int .i64 (-1 - (k : Int))) := by
            have := marksC_get mkO mkO_len k 0 mk j 0 hjm (by decide)
            rw [Nat.add_zero, Nat.zero_add] at this
            exact this
          have hmu2 : (marksC mkO k 0 mk)[j * 2 + 1]? = some (.string (nameS k j)) := by
            have := marksC_get mkO mkO_len k 0 mk j 1 hjm (by decide)
            rw [Nat.zero_add] at this
            exact this
          obtain ⟨g2, rfl, hg2, hd3⟩ := hmr.get hmu
          obtain ⟨g2', e2', hg2', hd3'⟩ := hmr.get hmu2
          cases e2'
          rw [HEX.out] at hrow
          obtain ⟨gx, rfl, hgx, hd4⟩ := hrow.rd.at (j * 2) (by rw [List.length_append, marksC_len mkO mkO_len, List.length_drop]; omega)
          obtain ⟨gx', ex', hgx', hd4'⟩ := hrow.rd.at (j * 2 + 1) (by rw [List.length_append, marksC_len mkO mkO_len, List.length_drop]; omega)
          cases ex'
          have hfz := hrow.fz (j * 2)
          have hfz' := hrow.fz (j * 2 + 1)
          have HROW := Lib.hid (And.intro hrow (And.intro HJ.out.kp hcl))
          have HKX := Lib.hid (show (X k).ownBlock = some gx by rw [HEX.out]; rfl)
          obtain ⟨old, hd5⟩ : ∃ old, wr.cell? ⟨gx, j * 2, none⟩ = some old := ⟨_, hd4⟩
          obtain ⟨old', hd5'⟩ : ∃ old, wr.cell? ⟨gx, j * 2 + 1, none⟩ = some old := ⟨_, hd4'⟩
          have HSv : (fun Y : World => Y.cell? ⟨bb, 8, none⟩ = some (.slice (some ⟨g, 0, none⟩) n k1) ∧ Y.cell? ⟨g, k, none⟩ = some (.slice (some ⟨gx, 0, none⟩) mk cx) ∧ Y.cell? ⟨g2, j * 2, none⟩ = some (.int .i64 (-1 - (k : Int))) ∧ Y.cell? ⟨g2, j * 2 + 1, none⟩ = some (.string (nameS k j))) wr.drew := ⟨hd1, hd2, hd3, hd3'⟩
          clear hrow hmr hmu hmu2 hd4 hd4' hcl
          go_wp2_with fail
          refine wp_region_H (rgH 0 13) (fun Y : World => Y.cell? ⟨bb, 8, none⟩ = some (.slice (some ⟨g, 0, none⟩) n k1) ∧ Y.cell? ⟨g, k, none⟩ = some (.slice (some ⟨gx, 0, none⟩) mk cx) ∧ Y.cell? ⟨g2, j * 2, none⟩ = some (.int .i64 (-1 - (k : Int))) ∧ Y.cell? ⟨g2, j * 2 + 1, none⟩ = some (.string (nameS k j))) (by kernel_rfl) ?_
          refine wpAnyH_at 0 (v := ?vv1) rfl (by kernel_rfl) (by kernel_rfl) (by kernel_rfl) (fun _ _ _ h => h) ?hy1 HSv ?hh1
          case hy1 =>
            refine Or.inl ⟨by rfl, ?_⟩
            intro W hW
            obtain ⟨h0, h1, h2, h3⟩ := hW
            go_simp
            try with_reducible rfl
          simp only [Act.put, List.setIfInBounds_toArray, List.set_cons_zero, List.set_cons_succ]
          refine wpAnyH_at 1 (v := ?vv2) rfl (by kernel_rfl) (by kernel_rfl) (by kernel_rfl) (fun _ _ _ h => h) ?hy2 HSv ?hh2
          case hy2 =>
            refine Or.inl ⟨by rfl, ?_⟩
            intro W hW
            obtain ⟨h0, h1, h2, h3⟩ := hW
            go_simp
            try with_reducible rfl
          simp only [Act.put, List.setIfInBounds_toArray, List.set_cons_zero, List.set_cons_succ]
          refine wpAnyH_at 2 (v := ?vv3) rfl (by kernel_rfl) (by kernel_rfl) (by kernel_rfl) (fun _ _ _ h => h) ?hy3 HSv ?hh3
          case hy3 =>
            refine Or.inl ⟨by rfl, ?_⟩
            intro W hW
            obtain ⟨h0, h1, h2, h3⟩ := hW
            go_simp
            try with_reducible rfl
          simp only [Act.put, List.setIfInBounds_toArray, List.set_cons_zero, List.set_cons_succ]
          refine wpAnyH_at 3 (v := ?vv4) rfl (by kernel_rfl) (by kernel_rfl) (by kernel_rfl) (fun _ _ _ h => h) ?hy4 HSv ?hh4
          case hy4 =>
            refine Or.inl ⟨by rfl, ?_⟩
            intro W hW
            obtain ⟨h0, h1, h2, h3⟩ := hW
            go_simp
            try with_reducible rfl
          simp only [Act.put, List.setIfInBounds_toArray, List.set_cons_zero, List.set_cons_succ]
          refine wpAnyH_at 4 (v := ?vv5) rfl (by kernel_rfl) (by kernel_rfl) (by kernel_rfl) (fun _ _ _ h => h) ?hy5 HSv ?hh5
          case hy5 =>
            refine Or.inl ⟨by rfl, ?_⟩
            intro W hW
            obtain ⟨h0, h1, h2, h3⟩ := hW
            go_simp
            try with_reducible rfl
          simp only [Act.put, List.setIfInBounds_toArray, List.set_cons_zero, List.set_cons_succ]
          refine wpAnyH_at 5 (v := ?vv6) rfl (by kernel_rfl) (by kernel_rfl) (by kernel_rfl) (fun _ _ _ h => h) ?hy6 HSv ?hh6
          case hy6 =>
            refine Or.inl ⟨by rfl, ?_⟩
            intro W hW
            obtain ⟨h0, h1, h2, h3⟩ := hW
            go_simp
            try with_reducible rfl
          simp only [Act.put, List.setIfInBounds_toArray, List.set_cons_zero, List.set_cons_succ]
          refine wpAnyH_at 6 (v := ?vv7) rfl (by kernel_rfl) (by kernel_rfl) (by kernel_rfl) (fun _ _ _ h => h) ?hy7 HSv ?hh7
          case hy7 =>
            refine Or.inl ⟨by rfl, ?_⟩
            intro W hW
            obtain ⟨h0, h1, h2, h3⟩ := hW
            go_simp
            try with_reducible rfl
          simp only [Act.put, List.setIfInBounds_toArray, List.set_cons_zero, List.set_cons_succ]
          refine wpAnyH_at 7 (v := ?vv8) rfl (by kernel_rfl) (by kernel_rfl) (by kernel_rfl) (fun _ _ _ h => h) ?hy8 HSv ?hh8
          case hy8 =>
            refine Or.inl ⟨by rfl, ?_⟩
            intro W hW
            obtain ⟨h0, h1, h2, h3⟩ := hW
            go_simp
            try with_reducible rfl
          simp only [Act.put, List.setIfInBounds_toArray, List.set_cons_zero, List.set_cons_succ]
          refine wpAnyH_at 8 (v := ?vv9) rfl (by kernel_rfl) (by kernel_rfl) (by kernel_rfl) (fun _ _ _ h => h) ?hy9 HSv ?hh9
          case hy9 =>
            refine Or.inl ⟨by rfl, ?_⟩
            intro W hW
            obtain ⟨h0, h1, h2, h3⟩ := hW
            go_simp
            try with_reducible rfl
          simp only [Act.put, List.setIfInBounds_toArray, List.set_cons_zero, List.set_cons_succ]
          refine wpAnyH_at 9 (v := ?vv10) rfl (by kernel_rfl) (by kernel_rfl) (by kernel_rfl) (fun _ _ _ h => h) ?hy10 HSv ?hh10
          case hy10 =>
            refine Or.inl ⟨by rfl, ?_⟩
            intro W hW
            obtain ⟨h0, h1, h2, h3⟩ := hW
            go_simp
            try with_reducible rfl
          simp only [Act.put, List.setIfInBounds_toArray, List.set_cons_zero, List.set_cons_succ]
          refine wpAnyH_at 10 (v := ?vv11) rfl (by kernel_rfl) (by kernel_rfl) (by kernel_rfl) (fun _ _ _ h => h) ?hy11 HSv ?hh11
          case hy11 =>
            refine Or.inl ⟨by rfl, ?_⟩
            intro W hW
            obtain ⟨h0, h1, h2, h3⟩ := hW
            go_simp
            try with_reducible rfl
          simp only [Act.put, List.setIfInBounds_toArray, List.set_cons_zero, List.set_cons_succ]
          refine wpAnyH_at 11 (v := ?vv12) rfl (by kernel_rfl) (by kernel_rfl) (by kernel_rfl) (fun _ _ _ h => h) ?hy12 HSv ?hh12
          case hy12 =>
            refine Or.inl ⟨by rfl, ?_⟩
            intro W hW
            obtain ⟨h0, h1, h2, h3⟩ := hW
            go_simp
            try with_reducible rfl
          simp only [Act.put, List.setIfInBounds_toArray, List.set_cons_zero, List.set_cons_succ]
          refine wpAnyH_at 12 (v := ?vv13) rfl (by kernel_rfl) (by kernel_rfl) (by kernel_rfl) (fun _ _ _ h => h) ?hy13 HSv ?hh13
          case hy13 =>
            refine Or.inl ⟨by rfl, ?_⟩
            intro W hW
            obtain ⟨h0, h1, h2, h3⟩ := hW
            go_simp
            try with_reducible rfl
          simp only [Act.put, List.setIfInBounds_toArray, List.set_cons_zero, List.set_cons_succ]
          refine wpAnyH_end 13 (fun j hj => rgH_end _ _ j (by omega)) (by rfl) (by kernel_rfl) ?_
          simp only [List.drop_succ_cons, List.drop_zero]
          go_wp2_with fail
          go_roundg (mk - (j + 1))
          case measure => omega
          case rel =>
            refine ⟨j + 1, by omega, rfl, by go_num, ?_, ?_⟩
            · have hcl := HROW.out.2.2
              have hb := ((HROW.out.1.keep (Keep.refl (fun _ => False) wr).drew (fun _ _ h => h)).set (j * 2) (.int .i64 (-1 - (k : Int))) (by rw [List.length_append, marksC_len mkO mkO_len, List.length_drop]; omega)).set (j * 2 + 1) (.string (nameS k j)) (by rw [List.length_set, List.length_append, marksC_len mkO mkO_len, List.length_drop]; omega)
              rw [set_mark (by rw [marksC_len mkO mkO_len]) (by omega), set_mark (by rw [List.length_append, marksC_len mkO mkO_len]; rfl) (by omega)] at hb
              rw [marksC_snoc, HEX.out, Nat.add_mul]
              simp only [mkO, Nat.zero_add]
              rw [List.append_assoc (marksC mkO k 0 j)] at hb
              exact hb
            · exact ((HROW.out.2.1.drew).setCell ⟨gx, j * 2, none⟩ (Or.inr HKX.out) _).setCell ⟨gx, j * 2 + 1, none⟩ (Or.inr HKX.out) _
        · obtain rfl : mk = j := by omega
          go_wp2_with fail
          go_roundg (n - (k + 1))
          case measure => omega
          case rel =>
            refine ⟨k + 1, by omega, rfl, by go_num, ?_, ?_⟩
            · have hx := HK.out.x.below H2.out.b
              have hj := HJ.out.row
              rw [List.drop_of_length_le (by have := HX.out.len; unfold mixC at this; rw [if_neg (Nat.lt_irrefl k)] at this; omega), List.append_nil, ← HMK.out] at hj
              exact (hx.turn opts_ne hkn hj HJ.out.kp).cong (fun i _ => mixC_step mkO m cs k i)
            · exact (HK.out.kp.trans (Keep.of_below _ H2.out.b)).transM HJ.out.kp (fun _ _ h => h) (fun i _ he => ⟨k, hkn, he⟩)
    · go_wp2_with fail
      go_end0
      obtain rfl : n = k := by omega
      exact ⟨⟨_, rfl⟩, HK.out⟩
end Go.Proofs.YtignponfoheaeaaGreat
