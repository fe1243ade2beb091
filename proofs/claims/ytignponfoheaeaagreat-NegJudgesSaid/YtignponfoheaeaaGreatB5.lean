import Derived.Test.YtignponfoheaeaaGreatB4
/- Ints of a book: all are marked. -/
namespace Go.Proofs.YtignponfoheaeaaGreat
open Go.RowKit Go.Tg Go.Maps

/-- Lists of which the first ones are marked. -/
def mixC (mk : Nat → Nat → List Value) (m : Nat → Nat) (cs : Nat → List Value) (k : Nat) : Nat → List Value := fun j => if j < k then marksC mk j 0 (m j) else cs j
theorem mixC_step (mk : Nat → Nat → List Value) (m : Nat → Nat) (cs : Nat → List Value) (k : Nat) (i : Nat) : upN (mixC mk m cs k) k (marksC mk k 0 (m k)) i = mixC mk m cs (k + 1) i := by
  unfold mixC
  by_cases h : i = k
  · subst h; rw [upN_same, if_pos (by omega)]
  · rw [upN_ne _ _ h]
    by_cases h2 : i < k
    · rw [if_pos h2, if_pos (by omega)]
    · rw [if_neg h2, if_neg (by omega)]

/-- What a put leaves. -/
structure PutI (T TS : TypeId) (k : Nat) (mk : Nat → Nat → List Value) (w wr : World) (v : Value) (n : Nat) (X : Nat → Value) (m : Nat → Nat) (cs : Nat → List Value) (i : Nat) : Prop where
  x : XV T TS k wr v n X m (mixC mk m cs i)
  kp : Keep (fun g => ∃ j, j < n ∧ (X j).ownBlock = some g) w wr

/-- Within a list. -/
structure PutJ (T : TypeId) (k : Nat) (mk : Nat → Nat → List Value) (w wr : World) (x : Value) (m : Nat) (cs : List Value) (i j : Nat) : Prop where
  row : BRow T k wr x m (marksC mk i 0 j ++ cs.drop (j * k))
  kp : Keep (fun g => x.ownBlock = some g) w wr

theorem set_mark {A l : List Value} {j : Nat} {u : Value} (hA : A.length = j) (hj : j < l.length) : (A ++ l.drop j).set j u = (A ++ [u]) ++ l.drop (j + 1) := by
  subst hA
  rw [List.set_append_right _ _ (Nat.le_refl _), Nat.sub_self, List.drop_eq_getElem_cons hj, List.set_cons_zero, List.append_assoc]
  rfl

set_option maxHeartbeats 4000000 in
set_option maxRecDepth 100000 in
theorem putI_any (v : Value) (n : Nat) (X : Nat → Value) (m : Nat → Nat) (cs : Nat → List Value) (bb : Nat) (w : World) (h : XV 3 43 1 w v n X m cs) (c1 : w.cell? ⟨bb, 2, none⟩ = some v) (hbb : bb < w.heap.size) (hv : v.ownBlock ≠ some bb) (hne : ∀ i, i < n → (X i).ownBlock ≠ some bb)
    (hn : n ≤ 250) (hm : ∀ i, i < n → m i ≤ 100000) :
    Calls Tryz.prog 91 #[.pointer (some ⟨bb, 0, none⟩)] w fun e w' => (∃ r, e = .returned r) ∧ PutI 3 43 1 mkI w w' v n X m cs n := by
  obtain ⟨s1, k1, e1, hc1, hm1⟩ := h.r.form
  subst e1
  have H := Lib.hid (And.intro h (And.intro c1 (And.intro hbb (And.intro hne hm))))
  clear h hbb hne hm
  go_enter Tryz.func91, Tryz.ntmps91
  go_wp2_with fail
  go_loopg [2] n (fun x i wr => ∃ k : Nat, k ≤ n ∧ x = n - k ∧ i = .int .i64 k ∧ Hid (PutI 3 43 1 mkI w wr (.slice s1 n k1) n X m cs k))
  case atStart => exact ⟨0, by omega, by omega, rfl, ⟨H.out.1.cong (fun i _ => by unfold mixC; rw [if_neg (by omega)]), Keep.refl _ _⟩⟩
  case round =>
    obtain ⟨k, hk, rfl, rfl, hK⟩ := hrel
    have HK := Lib.hid hK.out
    clear hK
    have d1 : wr.cell? ⟨bb, 2, none⟩ = _ := (HK.out.kp.cell (p := ⟨bb, 2, none⟩) H.out.2.2.1 (fun ⟨j, hj, he⟩ => H.out.2.2.2.1 j hj he)).trans c1
    by_cases hkn : k < n
    · obtain ⟨g, rfl, hg, c0⟩ := HK.out.x.r.rd.at k (by simpa using hkn)
      simp only [List.getElem_map, List.getElem_range] at c0
      have hx := HK.out.x.e k hkn
      have hmk := H.out.2.2.2.2 k hkn
      have hgk : (X k).ownBlock ≠ some g := fun he => HK.out.x.rowNe ints_ne k hkn g rfl he
      have hbk := H.out.2.2.2.1 k hkn
      have hgb : g ≠ bb := fun he => hv (by rw [he]; rfl)
      have HX := Lib.hid hx
      obtain ⟨sx, cx, ex, hcx, hcm⟩ := hx.form
      clear hx
      have HEX := Lib.hid ex
      rw [ex] at c0
      generalize hmkk : m k = mk at *
      have HMK := Lib.hid hmkk
      clear hmkk ex
      go_wp2_with (go_at_call 204; refine (markI_any k 0 mk (by omega) (by omega) (by omega) _).mono ?_
                   rintro e w2 ⟨v2, rfl, h2⟩
                   obtain ⟨s2, k2, rfl, hc2, hm2⟩ := h2.r.form
                   have H2 := Lib.hid h2
                   clear h2)
      have HXR := Lib.hid (And.intro d1 (And.intro c0 (And.intro (Nat.lt_of_lt_of_le H.out.2.2.1 HK.out.kp.size) hg)))
      have hgl : g < w2.heap.size := Nat.lt_of_lt_of_le hg H2.out.b.size
      have hbl : bb < w2.heap.size := Nat.lt_of_lt_of_le HXR.out.2.2.1 H2.out.b.size
      clear d1 c0
      go_loopg [4] mk (fun x jj wi => ∃ j : Nat, j ≤ mk ∧ x = mk - j ∧ jj = .int .i64 j ∧ Hid (PutJ 3 1 mkI w2 wi (X k) mk (cs k) k j))
      case atStart => exact ⟨0, by omega, by omega, rfl, ⟨by
        have h := HX.out.below H2.out.b
        unfold mixC at h
        rw [if_neg (Nat.lt_irrefl k)] at h
        exact h, Keep.refl _ _⟩⟩
      case round =>
        obtain ⟨j, hj, rfl, rfl, hJ⟩ := hrel
        have HJ := Lib.hid hJ.out
        clear hJ
        by_cases hjm : j < mk
        · have hrow := HJ.out.row
          have hd1 : wr.cell? ⟨bb, 2, none⟩ = _ := (HJ.out.kp.cell (p := ⟨bb, 2, none⟩) hbl hbk).trans ((H2.out.b.cell (p := ⟨bb, 2, none⟩) HXR.out.2.2.1).trans HXR.out.1)
          have hd2 : wr.cell? ⟨g, k, none⟩ = _ := (HJ.out.kp.cell (p := ⟨g, k, none⟩) hgl hgk).trans ((H2.out.b.cell (p := ⟨g, k, none⟩) HXR.out.2.2.2).trans HXR.out.2.1)
          have hcl : (cs k).length = mk := by have := HX.out.len; unfold mixC at this; rw [if_neg (Nat.lt_irrefl k)] at this; omega
          have hmr := H2.out.r.rd.keep HJ.out.kp (fun q hq he => by have := H2.out.f q hq; have := HX.out.lt q he; omega)
          have hmu : (marksC mkI k 0 mk)[j]? = some (.int .i64 (-1000000 * (k : Int) - (j : Int) - 7)) := by
            have := marksC_get mkI mkI_len k 0 mk j 0 hjm (by decide)
            rw [Nat.mul_one, Nat.add_zero, Nat.zero_add] at this
            exact this
          obtain ⟨g2, rfl, hg2, hd3⟩ := hmr.get hmu
          rw [HEX.out] at hrow
          obtain ⟨gx, rfl, hgx, hd4⟩ := hrow.rd.at j (by rw [List.length_append, marksC_len mkI mkI_len, List.length_drop]; omega)
          have hfz := hrow.fz j
          have HROW := Lib.hid (And.intro hrow (And.intro HJ.out.kp hcl))
          have HKX := Lib.hid (show (X k).ownBlock = some gx by rw [HEX.out]; rfl)
          obtain ⟨old, hd5⟩ : ∃ old, wr.cell? ⟨gx, j, none⟩ = some old := ⟨_, hd4⟩
          have HSv : (fun Y : World => Y.cell? ⟨bb, 2, none⟩ = some (.slice (some ⟨g, 0, none⟩) n k1) ∧ Y.cell? ⟨g, k, none⟩ = some (.slice (some ⟨gx, 0, none⟩) mk cx) ∧ Y.cell? ⟨g2, j, none⟩ = some (.int .i64 (-1000000 * (k : Int) - (j : Int) - 7))) wr.drew := ⟨hd1, hd2, hd3⟩
          clear hrow hmr hmu hd4 hcl
          go_wp2_with fail
          refine wp_region_H (rgH 0 13) (fun Y : World => Y.cell? ⟨bb, 2, none⟩ = some (.slice (some ⟨g, 0, none⟩) n k1) ∧ Y.cell? ⟨g, k, none⟩ = some (.slice (some ⟨gx, 0, none⟩) mk cx) ∧ Y.cell? ⟨g2, j, none⟩ = some (.int .i64 (-1000000 * (k : Int) - (j : Int) - 7))) (by kernel_rfl) ?_
          refine wpAnyH_at 0 (v := ?vv27) rfl (by kernel_rfl) (by kernel_rfl) (by kernel_rfl) (fun _ _ _ h => h) ?hy27 HSv ?hh27
          case hy27 =>
            refine Or.inl ⟨by rfl, ?_⟩
            intro W hW
            obtain ⟨h0, h1, h2⟩ := hW
            go_simp
            try with_reducible rfl
          simp only [Act.put, List.setIfInBounds_toArray, List.set_cons_zero, List.set_cons_succ]
          refine wpAnyH_at 1 (v := ?vv28) rfl (by kernel_rfl) (by kernel_rfl) (by kernel_rfl) (fun _ _ _ h => h) ?hy28 HSv ?hh28
          case hy28 =>
            refine Or.inl ⟨by rfl, ?_⟩
            intro W hW
            obtain ⟨h0, h1, h2⟩ := hW
            go_simp
            try with_reducible rfl
          simp only [Act.put, List.setIfInBounds_toArray, List.set_cons_zero, List.set_cons_succ]
          refine wpAnyH_at 2 (v := ?vv29) rfl (by kernel_rfl) (by kernel_rfl) (by kernel_rfl) (fun _ _ _ h => h) ?hy29 HSv ?hh29
          case hy29 =>
            refine Or.inl ⟨by rfl, ?_⟩
            intro W hW
            obtain ⟨h0, h1, h2⟩ := hW
            go_simp
            try with_reducible rfl
          simp only [Act.put, List.setIfInBounds_toArray, List.set_cons_zero, List.set_cons_succ]
          refine wpAnyH_at 3 (v := ?vv30) rfl (by kernel_rfl) (by kernel_rfl) (by kernel_rfl) (fun _ _ _ h => h) ?hy30 HSv ?hh30
          case hy30 =>
            refine Or.inl ⟨by rfl, ?_⟩
            intro W hW
            obtain ⟨h0, h1, h2⟩ := hW
            go_simp
            try with_reducible rfl
          simp only [Act.put, List.setIfInBounds_toArray, List.set_cons_zero, List.set_cons_succ]
          refine wpAnyH_at 4 (v := ?vv31) rfl (by kernel_rfl) (by kernel_rfl) (by kernel_rfl) (fun _ _ _ h => h) ?hy31 HSv ?hh31
          case hy31 =>
            refine Or.inl ⟨by rfl, ?_⟩
            intro W hW
            obtain ⟨h0, h1, h2⟩ := hW
            go_simp
            try with_reducible rfl
          simp only [Act.put, List.setIfInBounds_toArray, List.set_cons_zero, List.set_cons_succ]
          refine wpAnyH_at 5 (v := ?vv32) rfl (by kernel_rfl) (by kernel_rfl) (by kernel_rfl) (fun _ _ _ h => h) ?hy32 HSv ?hh32
          case hy32 =>
            refine Or.inl ⟨by rfl, ?_⟩
            intro W hW
            obtain ⟨h0, h1, h2⟩ := hW
            go_simp
            try with_reducible rfl
          simp only [Act.put, List.setIfInBounds_toArray, List.set_cons_zero, List.set_cons_succ]
          refine wpAnyH_at 6 (v := ?vv33) rfl (by kernel_rfl) (by kernel_rfl) (by kernel_rfl) (fun _ _ _ h => h) ?hy33 HSv ?hh33
          case hy33 =>
            refine Or.inl ⟨by rfl, ?_⟩
            intro W hW
            obtain ⟨h0, h1, h2⟩ := hW
            go_simp
            try with_reducible rfl
          simp only [Act.put, List.setIfInBounds_toArray, List.set_cons_zero, List.set_cons_succ]
          refine wpAnyH_at 7 (v := ?vv34) rfl (by kernel_rfl) (by kernel_rfl) (by kernel_rfl) (fun _ _ _ h => h) ?hy34 HSv ?hh34
          case hy34 =>
            refine Or.inl ⟨by rfl, ?_⟩
            intro W hW
            obtain ⟨h0, h1, h2⟩ := hW
            go_simp
            try with_reducible rfl
          simp only [Act.put, List.setIfInBounds_toArray, List.set_cons_zero, List.set_cons_succ]
          refine wpAnyH_at 8 (v := ?vv35) rfl (by kernel_rfl) (by kernel_rfl) (by kernel_rfl) (fun _ _ _ h => h) ?hy35 HSv ?hh35
          case hy35 =>
            refine Or.inl ⟨by rfl, ?_⟩
            intro W hW
            obtain ⟨h0, h1, h2⟩ := hW
            go_simp
            try with_reducible rfl
          simp only [Act.put, List.setIfInBounds_toArray, List.set_cons_zero, List.set_cons_succ]
          refine wpAnyH_at 9 (v := ?vv36) rfl (by kernel_rfl) (by kernel_rfl) (by kernel_rfl) (fun _ _ _ h => h) ?hy36 HSv ?hh36
          case hy36 =>
            refine Or.inl ⟨by rfl, ?_⟩
            intro W hW
            obtain ⟨h0, h1, h2⟩ := hW
            go_simp
            try with_reducible rfl
          simp only [Act.put, List.setIfInBounds_toArray, List.set_cons_zero, List.set_cons_succ]
          refine wpAnyH_at 10 (v := ?vv37) rfl (by kernel_rfl) (by kernel_rfl) (by kernel_rfl) (fun _ _ _ h => h) ?hy37 HSv ?hh37
          case hy37 =>
            refine Or.inl ⟨by rfl, ?_⟩
            intro W hW
            obtain ⟨h0, h1, h2⟩ := hW
            go_simp
            try with_reducible rfl
          simp only [Act.put, List.setIfInBounds_toArray, List.set_cons_zero, List.set_cons_succ]
          refine wpAnyH_at 11 (v := ?vv38) rfl (by kernel_rfl) (by kernel_rfl) (by kernel_rfl) (fun _ _ _ h => h) ?hy38 HSv ?hh38
          case hy38 =>
            refine Or.inl ⟨by rfl, ?_⟩
            intro W hW
            obtain ⟨h0, h1, h2⟩ := hW
            go_simp
            try with_reducible rfl
          simp only [Act.put, List.setIfInBounds_toArray, List.set_cons_zero, List.set_cons_succ]
          refine wpAnyH_at 12 (v := ?vv39) rfl (by kernel_rfl) (by kernel_rfl) (by kernel_rfl) (fun _ _ _ h => h) ?hy39 HSv ?hh39
          case hy39 =>
            refine Or.inl ⟨by rfl, ?_⟩
            intro W hW
            obtain ⟨h0, h1, h2⟩ := hW
            go_simp
            try with_reducible rfl
          simp only [Act.put, List.setIfInBounds_toArray, List.set_cons_zero, List.set_cons_succ]
          refine wpAnyH_end 13 (fun j hj => rgH_end _ _ j (by omega)) (by rfl) (by kernel_rfl) ?_
          simp only [List.drop_succ_cons, List.drop_zero]
          go_wp2_with fail
          go_roundg (mk - (j + 1))
          case measure => omega
          case rel =>
            refine ⟨j + 1, by omega, rfl, by go_num, ?_, ?_⟩
            · have hcl := HROW.out.2.2
              have hb := (HROW.out.1.keep (Keep.refl (fun _ => False) wr).drew (fun _ _ h => h)).set j (.int .i64 (-1000000 * (k : Int) - (j : Int) - 7)) (by rw [List.length_append, marksC_len mkI mkI_len, List.length_drop]; omega)
              rw [Nat.mul_one, set_mark (by rw [marksC_len mkI mkI_len, Nat.mul_one]) (by omega)] at hb
              rw [marksC_snoc, Nat.mul_one, HEX.out]
              simp only [mkI, Nat.zero_add]
              exact hb
            · exact (HROW.out.2.1.drew).setCell ⟨gx, j, none⟩ (Or.inr HKX.out) _
        · obtain rfl : mk = j := by omega
          go_wp2_with fail
          go_roundg (n - (k + 1))
          case measure => omega
          case rel =>
            refine ⟨k + 1, by omega, rfl, by go_num, ?_, ?_⟩
            · have hx := HK.out.x.below H2.out.b
              have hj := HJ.out.row
              rw [Nat.mul_one, List.drop_of_length_le (by have := HX.out.len; unfold mixC at this; rw [if_neg (Nat.lt_irrefl k)] at this; omega), List.append_nil, ← HMK.out] at hj
              exact (hx.turn ints_ne hkn hj HJ.out.kp).cong (fun i _ => mixC_step mkI m cs k i)
            · exact (HK.out.kp.trans (Keep.of_below _ H2.out.b)).transM HJ.out.kp (fun _ _ h => h) (fun i _ he => ⟨k, hkn, he⟩)
    · go_wp2_with fail
      go_end0
      obtain rfl : n = k := by omega
      exact ⟨⟨_, rfl⟩, HK.out⟩
end Go.Proofs.YtignponfoheaeaaGreat
