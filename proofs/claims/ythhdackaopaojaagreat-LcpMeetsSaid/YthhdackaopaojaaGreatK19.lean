import Derived.Test.YthhdackaopaojaaGreatK18
/- It takes a packet. -/
namespace Go.Proofs.YthhdackaopaojaaGreat
open Go.RowKit Go.Tg Go.Maps

def ltakeS (C : NegC) (s : LSt) (p : Pk) : LSt × List Pk :=
  if loopedS s.own p = true then
    if 4 ≤ wrap64 (s.loops + 1) then doL C { s with loops := wrap64 (s.loops + 1) } 3
    else (syncS (anewS s.st.ups (ltakeN C { s with loops := wrap64 (s.loops + 1) } p).1), (ltakeN C { s with loops := wrap64 (s.loops + 1) } p).2)
  else (syncS (anewS s.st.ups (ltakeN C s p).1), (ltakeN C s p).2)
theorem ltakeN_loops (C : NegC) (s : LSt) (p : Pk) (x : Int) : (ltakeN C { s with loops := x } p).1.st = (ltakeN C s p).1.st := by
  unfold ltakeN
  split <;> rfl
theorem anewS_st (u : Int) (s : LSt) : (anewS u s).st = s.st := by
  unfold anewS
  split <;> rfl

section
variable {w : World} {S ok okp U : Nat → Prop} {L : LB} {C : NegC} {echo : Int} {s : LSt} {X : NegX}

set_option maxHeartbeats 8000000 in
set_option maxRecDepth 100000 in
theorem LTake_at (p : Pk) (po : Value) (hp : PkOk p) (hc : p.code ≤ 7) (h : LcpAt w S ok L C echo s X) (hu : ∀ b, S b ∨ ok b ∨ b = L.lb ∨ b = L.tb → U b) (hy : s.Sync) (ho : Opts w okp po p.o) (hok : ∀ b, okp b → ¬ L.t b)
    (h7 : ∀ o, findO (ltakeN C s p).1.st.req 5 = some o → o.v.size ≤ 7) :
    Calls Tryz.prog 15 #[.pointer (some ⟨L.lb, 0, none⟩), pkV p po] w fun e w' => LEv w w' U okp L C echo (ltakeS C s p) e := by
  obtain ⟨pc, pi, pl, pd⟩ := p
  obtain ⟨sa, c, rfl, -, -⟩ := ho.form
  dsimp only at hc ho
  have HP := Lib.hid (And.intro hp hc)
  have HO := Lib.hid (And.intro ho hok)
  have HU2 := Lib.hid hu
  have hnl : ¬ L.t w.heap.size := fun ht => Nat.lt_irrefl _ (h.lt ht)
  have HNB := Lib.hid hnl
  unfold pkV
  dsimp only
  obtain ⟨len, hln⟩ : ∃ len, len = pl.length := ⟨_, rfl⟩
  have HLN := Lib.hid hln
  have hlo := looped_at ⟨pc, pi, pl, pd⟩ (.slice sa pl.length c) hp.len (h.below ((Below.refl w.heap.size w).alloc (Nat.le_refl _) (.cells #[.int .i64 pc, .int .i64 pi, .slice sa pl.length c, .string pd] 38 (0, 0)))) hy (ho.below ((Below.refl w.heap.size w).alloc (Nat.le_refl _) _))
  unfold pkV at hlo
  dsimp only at hlo
  have HE : Hid (ltakeS C s ⟨pc, pi, pl, pd⟩ = if loopedS s.own ⟨pc, pi, pl, pd⟩ = true then
    if 4 ≤ wrap64 (s.loops + 1) then doL C { s with loops := wrap64 (s.loops + 1) } 3
    else (syncS (anewS s.st.ups (ltakeN C { s with loops := wrap64 (s.loops + 1) } ⟨pc, pi, pl, pd⟩).1), (ltakeN C { s with loops := wrap64 (s.loops + 1) } ⟨pc, pi, pl, pd⟩).2)
  else (syncS (anewS s.st.ups (ltakeN C s ⟨pc, pi, pl, pd⟩).1), (ltakeN C s ⟨pc, pi, pl, pd⟩).2)) := Lib.hid rfl
  generalize ltakeS C s ⟨pc, pi, pl, pd⟩ = R at *
  rw [← hln] at hlo ⊢
  have hb1 := (Below.refl w.heap.size w).alloc (Nat.le_refl _) (.cells #[.int .i64 pc, .int .i64 pi, .slice sa len c, .string pd] 38 (0, 0))
  have HB := Lib.hid hb1
  have HW := Lib.hid (And.intro (h.below hb1) (And.intro hy (at1 w (.cells #[.int .i64 pc, .int .i64 pi, .slice sa len c, .string pd] 38 (0, 0)))))
  have HLO := Lib.hid hlo
  have HN0 := Lib.hid (lnone_at (h.below hb1))
  have e9 : (pc == 9) = false := by simp; omega
  have e10 : (pc == 10) = false := by simp; omega
  have e11 : (pc == 11) = false := by simp; omega
  have e8 : (pc == 8) = false := by simp; omega
  clear h hu hy ho hok hp hc hlo hb1 hln hnl
  generalize loopedS s.own ⟨pc, pi, pl, pd⟩ = lo at *
  have HSZ := Lib.hid (alloc1 w (.cells #[.int .i64 pc, .int .i64 pi, .slice sa len c, .string pd] 38 (0, 0)))
  cases lo with
  | false =>
    have HR : Hid (R = (syncS (anewS s.st.ups (ltakeN C s ⟨pc, pi, pl, pd⟩).1), (ltakeN C s ⟨pc, pi, pl, pd⟩).2)) := Lib.hid (by rw [HE.out]; exact if_neg (by decide))
    have H7 : Hid (∀ o, findO (anewS s.st.ups (ltakeN C s ⟨pc, pi, pl, pd⟩).1).st.req 5 = some o → o.v.size ≤ 7) := Lib.hid (by rw [anewS_st]; exact h7)
    have HY1 := Lib.hid HW.out.2.1
    clear HE h7
    go_enter Tryz.func15, Tryz.ntmps15
    go_wp2_with (first
      | (go_at_call 39; refine HN0.out.mono ?_; rintro e w0 ⟨rfl, rfl⟩)
      | (go_at_call 46; refine HLO.out.mono ?_; rintro e w1 ⟨rfl, hb⟩
         have HA := Lib.hid (And.intro (HW.out.1.below hb) (And.intro (Keep.of_below L.t hb) ((hb.block w.heap.size (by rw [HSZ.out]; omega)).trans HW.out.2.2)))
         have g0 : w1.cell? ⟨L.lb, 0, none⟩ = some (.pointer (some ⟨L.B.nb, 0, none⟩)) := HA.out.1.cell 0
         clear hb))
    have HU := Lib.hid (Ups_at HA.out.1.neg)
    go_wp2_with fail
    refine HU.out.mono ?_
    rintro e w2 ⟨rfl, hb2⟩
    have h2 := HA.out.1.below hb2
    have k2 := HA.out.2.1.trans (Keep.of_below L.t hb2)
    have z2 := (hb2.block w.heap.size (lt_of_heap' HA.out.2.2)).trans HA.out.2.2
    have c0 : w2.cell? ⟨L.lb, 0, none⟩ = some (.pointer (some ⟨L.B.nb, 0, none⟩)) := h2.cell 0
    have b0 := cellOf z2 0 _ rfl
    have b1 := cellOf z2 1 _ rfl
    have b2 := cellOf z2 2 _ rfl
    have b3 := cellOf z2 3 _ rfl
    have k2w : Keep L.t w w2 := (Keep.of_below L.t HB.out).trans k2
    have ho2 : Opts w2 okp (.slice sa pl.length c) pl := Rec.keep HO.out.1 k2w (fun b _ hb ht => HO.out.2 b hb ht)
    have HT := Lib.hid (NTake_at ⟨pc, pi, pl, pd⟩ _ HP.out.1 HP.out.2 (h2.below (Below.refl _ _).drew) HY1.out (Opts.below ho2 (Below.refl _ _).drew) HO.out.2)
    have HB2 := Lib.hid (And.intro h2 (And.intro k2w (And.intro z2 k2)))
    have HS2 := Lib.hid (show (fun Y : World => Y.cell? ⟨L.lb, 0, none⟩ = some (.pointer (some ⟨L.B.nb, 0, none⟩)) ∧ Y.cell? ⟨w.heap.size, 0, none⟩ = some (.int .i64 pc) ∧ Y.cell? ⟨w.heap.size, 1, none⟩ = some (.int .i64 pi) ∧ Y.cell? ⟨w.heap.size, 2, none⟩ = some (.slice sa len c) ∧ Y.cell? ⟨w.heap.size, 3, none⟩ = some (.string pd)) w2 from ⟨c0, b0, b1, b2, b3⟩)
    unfold pkV at HT
    rw [show (⟨pc, pi, pl, pd⟩ : Pk).o.length = len from HLN.out.symm] at HT
    dsimp only at HT
    clear hb2 h2 k2 z2 k2w ho2
    go_wp2_with fail
    go_region_held3 (fun Y : World => Y.cell? ⟨L.lb, 0, none⟩ = some (.pointer (some ⟨L.B.nb, 0, none⟩)) ∧ Y.cell? ⟨w.heap.size, 0, none⟩ = some (.int .i64 pc) ∧ Y.cell? ⟨w.heap.size, 1, none⟩ = some (.int .i64 pi) ∧ Y.cell? ⟨w.heap.size, 2, none⟩ = some (.slice sa len c) ∧ Y.cell? ⟨w.heap.size, 3, none⟩ = some (.string pd))
      (first
        | exact HS4.out
        | exact HS3.out
        | exact HS2.out
        | go_keep)
      (first
        | (go_at_call 47; refine HT.out.mono ?_; rintro e w3 ⟨v3, rfl, p3, ⟨X3, h3⟩, k3⟩
           obtain ⟨pa, pz, rfl⟩ := p3.form
           have z3 := (k3.block w.heap.size (lt_of_heap' HB2.out.2.2.1) (fun ht => HNB.out (ht.elim (fun h => .inl h) (fun h => .inr (.inr h))))).trans HB2.out.2.2.1
           have HS3 := Lib.hid (show (fun Y : World => Y.cell? ⟨L.lb, 0, none⟩ = some (.pointer (some ⟨L.B.nb, 0, none⟩)) ∧ Y.cell? ⟨w.heap.size, 0, none⟩ = some (.int .i64 pc) ∧ Y.cell? ⟨w.heap.size, 1, none⟩ = some (.int .i64 pi) ∧ Y.cell? ⟨w.heap.size, 2, none⟩ = some (.slice sa len c) ∧ Y.cell? ⟨w.heap.size, 3, none⟩ = some (.string pd)) w3 from ⟨h3.cell 0, cellOf z3 0 _ rfl, cellOf z3 1 _ rfl, cellOf z3 2 _ rfl, cellOf z3 3 _ rfl⟩)
           have H3 := Lib.hid (And.intro h3 (And.intro p3 (And.intro k3 z3)))
           clear h3 p3 k3 z3)
        | (go_at_call 41; refine (anew_at H3.out.1 s.st.ups pa _ pz).mono ?_; rintro e w4 ⟨rfl, h4, k4⟩
           have z4 := (k4.block w.heap.size (lt_of_heap' H3.out.2.2.2) (fun he => HNB.out (.inr (.inl he)))).trans H3.out.2.2.2
           have HS4 := Lib.hid (show (fun Y : World => Y.cell? ⟨L.lb, 0, none⟩ = some (.pointer (some ⟨L.B.nb, 0, none⟩)) ∧ Y.cell? ⟨w.heap.size, 0, none⟩ = some (.int .i64 pc) ∧ Y.cell? ⟨w.heap.size, 1, none⟩ = some (.int .i64 pi) ∧ Y.cell? ⟨w.heap.size, 2, none⟩ = some (.slice sa len c) ∧ Y.cell? ⟨w.heap.size, 3, none⟩ = some (.string pd)) w4 from ⟨h4.cell 0, cellOf z4 0 _ rfl, cellOf z4 1 _ rfl, cellOf z4 2 _ rfl, cellOf z4 3 _ rfl⟩)
           have H4 := Lib.hid (And.intro h4 k4)
           clear h4 k4 z4))
    go_wp2_with (go_at_call 48; refine (magicT_at H4.out.1 H7.out).mono ?_; rintro e w5 ⟨⟨x5, rfl⟩, h5, k5⟩; have H5 := Lib.hid (And.intro h5 k5); clear h5 k5)
    go_ret
    rw [HR.out]
    have hkl : Keep (fun b => b = L.lb) w3 w5 := H4.out.2.trans H5.out.2
    have hll := HB2.out.1.llt
    have hs2 : w.heap.size ≤ w2.heap.size := HB2.out.2.1.size
    refine ⟨_, rfl, ?_, H5.out.1.fin HU2.out hs2, ?_⟩
    · obtain ⟨K, q1, q2, q3⟩ := H3.out.2.1
      exact ⟨K, q1, (q2.keep hkl (fun k hk he => by have := (q2.lt k hk).2; have h : w2.heap.size ≤ k := this; omega)).base hs2, (q3.keep hkl (fun b _ hb he => by
        rcases hb with hb | hb
        · exact HO.out.2 b hb (.inr (.inl he))
        · have hb : w2.heap.size ≤ b := hb; omega)).mono (fun b hb => hb.imp id (fun hb => Nat.le_trans hs2 hb))⟩
    · exact (HB2.out.2.1.trans ((Keep.of_below L.t (Below.refl _ _).drew).trans (H3.out.2.2.1.mono (fun b _ hb => hb.elim (fun h => .inl h) (fun h => .inr (.inr h)))))).trans (hkl.mono (fun b _ hb => .inr (.inl hb)))
  | true =>
    by_cases h4 : 4 ≤ wrap64 (s.loops + 1)
    · have HR : Hid (R = doL C { s with loops := wrap64 (s.loops + 1) } 3) := Lib.hid (by rw [HE.out, if_pos rfl, if_pos h4])
      have d4 : decide ((4 : Int) ≤ wrap64 (s.loops + 1)) = true := by simpa using h4
      clear HE h7 h4
      go_enter Tryz.func15, Tryz.ntmps15
      go_wp2_with (first
        | (go_at_call 39; refine HN0.out.mono ?_; rintro e w0 ⟨rfl, rfl⟩)
        | (go_at_call 46; refine HLO.out.mono ?_; rintro e w1 ⟨rfl, hb⟩
           have HA := Lib.hid (And.intro (HW.out.1.below hb) hb)
           have g4 : w1.cell? ⟨L.lb, 4, none⟩ = some (.int .i64 s.loops) := HA.out.1.cell 4
           have f4 := HA.out.1.fz 4
           have HD := Lib.hid (LDo_at (U := U) (HA.out.1.cellTurn (s' := { s with loops := wrap64 (s.loops + 1) }) 4 (.int .i64 (wrap64 (s.loops + 1))) rfl ⟨rfl, rfl⟩) HU2.out 3 (by decide))
           clear hb)
        | (go_at_call 14; refine HD.out.mono ?_; rintro e w5 ⟨v5, rfl, h5⟩; have H5 := Lib.hid h5; clear h5))
      go_ret
      rw [HR.out]
      have hkk : Keep L.t w (w1.setCell ⟨L.lb, 4, none⟩ (.int .i64 (wrap64 (s.loops + 1)))) := ((Keep.of_below L.t HB.out).trans (Keep.of_below L.t HA.out.2)).trans ((keepL L w1 4 _).mono (fun b _ hb => .inr (.inl hb)))
      have hsz := hkk.size
      obtain ⟨⟨K, q1, q2, q3⟩, q4, q5⟩ := H5.out
      exact ⟨_, rfl, ⟨K, q1, q2.base hsz, q3.mono (fun b hb => hb.elim (fun h => h.elim) (fun h => .inr (Nat.le_trans hsz h)))⟩, q4.mono (fun b hb => hb.imp id (fun h => Nat.le_trans hsz h)), hkk.trans q5⟩
    · have HR : Hid (R = (syncS (anewS s.st.ups (ltakeN C { s with loops := wrap64 (s.loops + 1) } ⟨pc, pi, pl, pd⟩).1), (ltakeN C { s with loops := wrap64 (s.loops + 1) } ⟨pc, pi, pl, pd⟩).2)) := Lib.hid (by rw [HE.out, if_pos rfl, if_neg h4])
      have d4 : decide ((4 : Int) ≤ wrap64 (s.loops + 1)) = false := by simpa using h4
      have H7 : Hid (∀ o, findO (anewS s.st.ups (ltakeN C { s with loops := wrap64 (s.loops + 1) } ⟨pc, pi, pl, pd⟩).1).st.req 5 = some o → o.v.size ≤ 7) := Lib.hid (by rw [anewS_st, ltakeN_loops]; exact h7)
      have HY1 : Hid (LSt.Sync { s with loops := wrap64 (s.loops + 1) }) := Lib.hid HW.out.2.1
      clear HE h7 h4
      go_enter Tryz.func15, Tryz.ntmps15
      go_wp2_with (first
        | (go_at_call 39; refine HN0.out.mono ?_; rintro e w0 ⟨rfl, rfl⟩)
        | (go_at_call 46; refine HLO.out.mono ?_; rintro e w1 ⟨rfl, hb⟩
           have h1 := HW.out.1.below hb
           have z1 := (hb.block w.heap.size (by rw [HSZ.out]; omega)).trans HW.out.2.2
           have g4 : w1.cell? ⟨L.lb, 4, none⟩ = some (.int .i64 s.loops) := h1.cell 4
           have g0' : w1.cell? ⟨L.lb, 0, none⟩ = some (.pointer (some ⟨L.B.nb, 0, none⟩)) := h1.cell 0
           have f4 := h1.fz 4
           have HA := Lib.hid (And.intro (h1.cellTurn (s' := { s with loops := wrap64 (s.loops + 1) }) 4 (.int .i64 (wrap64 (s.loops + 1))) rfl ⟨rfl, rfl⟩) (And.intro ((Keep.of_below L.t hb).trans ((keepL L w1 4 (.int .i64 (wrap64 (s.loops + 1)))).mono (fun b _ hb => .inr (.inl hb)))) (((keepL L w1 4 (.int .i64 (wrap64 (s.loops + 1)))).block w.heap.size (lt_of_heap' z1) (fun he => HNB.out (.inr (.inl he)))).trans z1)))
           clear hb h1 z1))
      have HU := Lib.hid (Ups_at HA.out.1.neg)
      go_wp2_with fail
      refine HU.out.mono ?_
      rintro e w2 ⟨rfl, hb2⟩
      have h2 := HA.out.1.below hb2
      have k2 := HA.out.2.1.trans (Keep.of_below L.t hb2)
      have z2 := (hb2.block w.heap.size (lt_of_heap' HA.out.2.2)).trans HA.out.2.2
      have c0 : w2.cell? ⟨L.lb, 0, none⟩ = some (.pointer (some ⟨L.B.nb, 0, none⟩)) := h2.cell 0
      have b0 := cellOf z2 0 _ rfl
      have b1 := cellOf z2 1 _ rfl
      have b2 := cellOf z2 2 _ rfl
      have b3 := cellOf z2 3 _ rfl
      have k2w : Keep L.t w w2 := (Keep.of_below L.t HB.out).trans k2
      have ho2 : Opts w2 okp (.slice sa pl.length c) pl := Rec.keep HO.out.1 k2w (fun b _ hb ht => HO.out.2 b hb ht)
      have HT := Lib.hid (NTake_at ⟨pc, pi, pl, pd⟩ _ HP.out.1 HP.out.2 (h2.below (Below.refl _ _).drew) HY1.out (Opts.below ho2 (Below.refl _ _).drew) HO.out.2)
      have HB2 := Lib.hid (And.intro h2 (And.intro k2w (And.intro z2 k2)))
      have HS2 := Lib.hid (show (fun Y : World => Y.cell? ⟨L.lb, 0, none⟩ = some (.pointer (some ⟨L.B.nb, 0, none⟩)) ∧ Y.cell? ⟨w.heap.size, 0, none⟩ = some (.int .i64 pc) ∧ Y.cell? ⟨w.heap.size, 1, none⟩ = some (.int .i64 pi) ∧ Y.cell? ⟨w.heap.size, 2, none⟩ = some (.slice sa len c) ∧ Y.cell? ⟨w.heap.size, 3, none⟩ = some (.string pd)) w2 from ⟨c0, b0, b1, b2, b3⟩)
      unfold pkV at HT
      rw [show (⟨pc, pi, pl, pd⟩ : Pk).o.length = len from HLN.out.symm] at HT
      dsimp only at HT
      clear hb2 h2 k2 z2 k2w ho2
      go_wp2_with fail
      go_region_held3 (fun Y : World => Y.cell? ⟨L.lb, 0, none⟩ = some (.pointer (some ⟨L.B.nb, 0, none⟩)) ∧ Y.cell? ⟨w.heap.size, 0, none⟩ = some (.int .i64 pc) ∧ Y.cell? ⟨w.heap.size, 1, none⟩ = some (.int .i64 pi) ∧ Y.cell? ⟨w.heap.size, 2, none⟩ = some (.slice sa len c) ∧ Y.cell? ⟨w.heap.size, 3, none⟩ = some (.string pd))
        (first
          | exact HS4.out
          | exact HS3.out
          | exact HS2.out
          | go_keep)
        (first
          | (go_at_call 47; refine HT.out.mono ?_; rintro e w3 ⟨v3, rfl, p3, ⟨X3, h3⟩, k3⟩
             obtain ⟨pa, pz, rfl⟩ := p3.form
             have z3 := (k3.block w.heap.size (lt_of_heap' HB2.out.2.2.1) (fun ht => HNB.out (ht.elim (fun h => .inl h) (fun h => .inr (.inr h))))).trans HB2.out.2.2.1
             have HS3 := Lib.hid (show (fun Y : World => Y.cell? ⟨L.lb, 0, none⟩ = some (.pointer (some ⟨L.B.nb, 0, none⟩)) ∧ Y.cell? ⟨w.heap.size, 0, none⟩ = some (.int .i64 pc) ∧ Y.cell? ⟨w.heap.size, 1, none⟩ = some (.int .i64 pi) ∧ Y.cell? ⟨w.heap.size, 2, none⟩ = some (.slice sa len c) ∧ Y.cell? ⟨w.heap.size, 3, none⟩ = some (.string pd)) w3 from ⟨h3.cell 0, cellOf z3 0 _ rfl, cellOf z3 1 _ rfl, cellOf z3 2 _ rfl, cellOf z3 3 _ rfl⟩)
             have H3 := Lib.hid (And.intro h3 (And.intro p3 (And.intro k3 z3)))
             clear h3 p3 k3 z3)
          | (go_at_call 41; refine (anew_at H3.out.1 s.st.ups pa _ pz).mono ?_; rintro e w4 ⟨rfl, h4, k4⟩
             have z4 := (k4.block w.heap.size (lt_of_heap' H3.out.2.2.2) (fun he => HNB.out (.inr (.inl he)))).trans H3.out.2.2.2
             have HS4 := Lib.hid (show (fun Y : World => Y.cell? ⟨L.lb, 0, none⟩ = some (.pointer (some ⟨L.B.nb, 0, none⟩)) ∧ Y.cell? ⟨w.heap.size, 0, none⟩ = some (.int .i64 pc) ∧ Y.cell? ⟨w.heap.size, 1, none⟩ = some (.int .i64 pi) ∧ Y.cell? ⟨w.heap.size, 2, none⟩ = some (.slice sa len c) ∧ Y.cell? ⟨w.heap.size, 3, none⟩ = some (.string pd)) w4 from ⟨h4.cell 0, cellOf z4 0 _ rfl, cellOf z4 1 _ rfl, cellOf z4 2 _ rfl, cellOf z4 3 _ rfl⟩)
             have H4 := Lib.hid (And.intro h4 k4)
             clear h4 k4 z4))
      go_wp2_with (go_at_call 48; refine (magicT_at H4.out.1 H7.out).mono ?_; rintro e w5 ⟨⟨x5, rfl⟩, h5, k5⟩; have H5 := Lib.hid (And.intro h5 k5); clear h5 k5)
      go_ret
      rw [HR.out]
      have hkl : Keep (fun b => b = L.lb) w3 w5 := H4.out.2.trans H5.out.2
      have hll := HB2.out.1.llt
      have hs2 : w.heap.size ≤ w2.heap.size := HB2.out.2.1.size
      refine ⟨_, rfl, ?_, H5.out.1.fin HU2.out hs2, ?_⟩
      · obtain ⟨K, q1, q2, q3⟩ := H3.out.2.1
        exact ⟨K, q1, (q2.keep hkl (fun k hk he => by have := (q2.lt k hk).2; have h : w2.heap.size ≤ k := this; omega)).base hs2, (q3.keep hkl (fun b _ hb he => by
          rcases hb with hb | hb
          · exact HO.out.2 b hb (.inr (.inl he))
          · have hb : w2.heap.size ≤ b := hb; omega)).mono (fun b hb => hb.imp id (fun hb => Nat.le_trans hs2 hb))⟩
      · exact (HB2.out.2.1.trans ((Keep.of_below L.t (Below.refl _ _).drew).trans (H3.out.2.2.1.mono (fun b _ hb => hb.elim (fun h => .inl h) (fun h => .inr (.inr h)))))).trans (hkl.mono (fun b _ hb => .inr (.inl hb)))
end
end Go.Proofs.YthhdackaopaojaaGreat
