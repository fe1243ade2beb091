import Derived.Test.YtignponfoheaeaaGreatB5
import Derived.Test.YtignponfoheaeaaGreatB6
/- Ints of a book: all are grown. -/
namespace Go.Proofs.YtignponfoheaeaaGreat
open Go.RowKit Go.Tg Go.Maps

set_option maxHeartbeats 8000000 in
set_option maxRecDepth 100000 in
theorem growI_any (v : Value) (n : Nat) (X : Nat → Value) (m : Nat → Nat) (bb : Nat) (w : World) (h : XV 3 43 1 w v n X m (fun i => marksC mkI i 0 (m i))) (c1 : w.cell? ⟨bb, 2, none⟩ = some v) (hbb : bb < w.heap.size) (hne : ∀ i, i < n → (X i).ownBlock ≠ some bb)
    (hn : n ≤ 250) (hm : ∀ i, i < n → m i ≤ 100000) :
    Calls Tryz.prog 105 #[.pointer (some ⟨bb, 0, none⟩)] w fun e w' => ∃ out G, e = .returned out ∧ GrowI 3 43 1 mkI w w' out n X m G n := by
  obtain ⟨s1, k1, e1, hc1, hm1⟩ := h.r.form
  subst e1
  have H := Lib.hid (And.intro h (And.intro c1 (And.intro hbb (And.intro hne hm))))
  clear h hbb hne hm
  go_enter Tryz.func105, Tryz.ntmps105
  go_wp2_with fail
  go_loopg [3, 4] n (fun x out i wr => ∃ (k : Nat) (G : Nat → Value), k ≤ n ∧ x = n - k ∧ i = .int .i64 k ∧ Hid (GrowI 3 43 1 mkI w wr out n X m G k))
  case atStart => exact ⟨0, fun _ => nilS, by omega, by omega, rfl, GrowI.start H.out.1⟩
  case round =>
    obtain ⟨k, G, hk, rfl, rfl, hK⟩ := hrel
    have HK := Lib.hid hK.out
    clear hK
    have d1 : wr.cell? ⟨bb, 2, none⟩ = _ := (HK.out.kp.cell (p := ⟨bb, 2, none⟩) H.out.2.2.1 (fun ⟨j, hj, he⟩ => H.out.2.2.2.1 j hj he)).trans c1
    obtain ⟨so, co, eo, -, -⟩ := HK.out.o.form
    subst eo
    by_cases hkn : k < n
    · have hxl : ∀ g, (X k).ownBlock = some g → g < w.heap.size := fun g hg => ((H.out.1.e k hkn).blk hg).1
      obtain ⟨g, rfl, hg, c0⟩ := H.out.1.r.rd.at k (by simpa using hkn)
      simp only [List.getElem_map, List.getElem_range] at c0
      have d0 : wr.cell? ⟨g, k, none⟩ = _ := (HK.out.kp.cell (p := ⟨g, k, none⟩) hg (fun ⟨j, hj, he⟩ => H.out.1.rowNe ints_ne j hj g rfl he)).trans c0
      have hmk := H.out.2.2.2.2 k hkn
      have hy := HK.out.y k (Nat.le_refl _) hkn
      have HST := Lib.hid (GrowJ.start hy)
      have HXL := Lib.hid (fun g hg => Nat.lt_of_lt_of_le (hxl g hg) HK.out.kp.size)
      have HO := Lib.hid (fun (w6 w7 : World) (k6 : Keep (fun g => (X k).ownBlock = some g) wr w6) (b7 : Below w6.heap.size w6 w7) => (HK.out.o.keep k6 (fun q hq he => by have := HK.out.ob q hq; have := hxl q he; omega)).below b7)
      obtain ⟨sx, cx, ex, hcx, hcm⟩ := hy.form
      have HEX := Lib.hid ex
      rw [ex] at d0
      generalize hmkk : m k = mk at *
      have HMK := Lib.hid hmkk
      clear hmkk ex hy c0 hxl
      go_wp2_with fail
      go_loopg [5, 6] (12 : Nat) (fun x l nn wi => ∃ c : Nat, c ≤ 12 ∧ x = 12 - c ∧ nn = .int .i64 c ∧ Hid (GrowJ 3 1 mkI wr wi (X k) l mk k c))
      case atStart => exact ⟨0, by omega, by omega, rfl, by rw [HEX.out] at HST; rw [HEX.out]; exact HST.out⟩
      case round =>
        obtain ⟨c, hc, rfl, rfl, hJ⟩ := hrel
        have HJ := Lib.hid hJ.out
        clear hJ
        obtain ⟨sl, cl, el, hcl, hclm⟩ := HJ.out.lr.form
        subst el
        by_cases hc12 : c < 12
        · go_wp2_with (first
            | (go_at_call 204; refine (markI_any k (mk + c) 1 (by omega) (by omega) (by omega) _).mono ?_
               rintro e w2 ⟨v2, rfl, h2⟩
               have H2 := Lib.hid h2
               clear h2)
            | (at_builtin; refine wpl_append_row int_row rfl _ _ rfl _ (mk + c) _ rfl (HJ.out.lr.below H2.out.b) _ 1 _ rfl H2.out.r.rd H2.out.r.hnil (marksC_len mkI mkI_len _ _ _) (marksC_one mkI mkI_one _ _ _) (by omega) ?_
               intro v6 w6 h6 o6 k6 p6
               have H6 := Lib.hid (HJ.out.step H2.out.b HXL.out h6 o6 k6 p6)
               clear h6 o6 k6 p6))
          go_roundg (12 - (c + 1))
          case measure => omega
          case rel => exact ⟨c + 1, by omega, rfl, by go_num, H6.out⟩
        · obtain rfl : c = 12 := by omega
          go_wp2_with (first
            | (go_at_call 204; refine (markI_any k (mk + 12) 60 (by omega) (by omega) (by omega) _).mono ?_
               rintro e w2 ⟨v2, rfl, h2⟩
               have H2 := Lib.hid h2
               clear h2)
            | (at_builtin; refine wpl_append_row int_row rfl _ _ rfl _ (mk + 12) _ rfl (HJ.out.lr.below H2.out.b) _ 60 _ rfl H2.out.r.rd H2.out.r.hnil (marksC_len mkI mkI_len _ _ _) (marksC_one mkI mkI_one _ _ _) (by omega) ?_
               intro v6 w6 h6 o6 k6 p6
               obtain ⟨s6, q6, rfl, -, -⟩ := h6.form
               have H6 := Lib.hid (HJ.out.step H2.out.b HXL.out h6 o6 k6 p6)
               clear h6 o6 k6 p6)
            | (at_builtin; refine wpl_append_rec ints_row rfl _ _ rfl _ k _ rfl (HO.out _ _ H6.out.kp (b1 _ _)) _ _ [.slice s6 (mk + 12 + 60) q6] rfl (cell_of_at _ _ _ rfl) rfl (fun u hu => by rw [List.mem_singleton.1 hu]; rfl) (by omega) ?_
               intro g8 c8 w8 h8 k8 o8
               have H8 := Lib.hid (And.intro h8 (And.intro k8 o8))
               clear h8 k8 o8))
          go_roundg (n - (k + 1))
          case measure => omega
          case rel =>
            refine ⟨k + 1, upN G k (.slice s6 (mk + 12 + 60) q6), by omega, rfl, by go_num, ?_⟩
            have e := HMK.out
            subst e
            exact GrowI.step H.out.1 ints_ne HK.out hkn H6.out (b1 _ _) H8.out.1 H8.out.2.1 (H8.out.2.2.imp (fun h => h.symm) (fun h => by rw [h]; rfl))
    · go_wp2_with fail
      go_ret
      obtain rfl : n = k := by omega
      exact ⟨_, G, rfl, HK.out⟩
end Go.Proofs.YtignponfoheaeaaGreat
