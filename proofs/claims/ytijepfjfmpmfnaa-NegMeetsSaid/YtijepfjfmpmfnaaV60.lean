import Derived.Test.YtijepfjfmpmfnaaV59
/- A reject is taken: the walk. -/
namespace Go.Proofs.Ytijepfjfmpmfnaa
open Go.RowKit Go.Tg Go.Maps

section
variable (rej : Pk → ByteArray) {w : World} {S ok : Nat → Prop} {B : NegB} {C : NegC} {st : NSt} {X : NegX}

theorem lt_of_heap' {w : World} {k : Nat} {o : Obj} (e : w.heap[k]? = some o) : k < w.heap.size := (Array.getElem?_eq_some_iff.1 e).1
theorem two_boxes (w : World) (A D : Obj) : ∃ W, W = (w.alloc A).alloc D ∧ W.heap.size = w.heap.size + 1 + 1 ∧ W.heap[w.heap.size]? = some A ∧ W.heap[w.heap.size + 1]? = some D ∧ Below w.heap.size w W :=
  ⟨_, rfl, alloc2 _ _ _, at20 _ _ _, at21 _ _ _, ((Below.refl _ _).alloc (Nat.le_refl _) _).alloc (by rw [alloc1]; omega) _⟩

theorem EvPost.fin {W w' : World} {r : NSt × List Pk} {e : Ending} (h : EvPost W w' (fun b => Grow S w b) ok B C r e) (hk : Keep B.t w W) (hs : w.heap.size ≤ W.heap.size) : EvPost w w' S ok B C r e := by
  obtain ⟨v, he, ⟨L, h2, h3, h4⟩, ⟨X', h5⟩, h6⟩ := h
  exact ⟨v, he, ⟨L, h2, h3.base hs, h4.mono (fun b hb => hb.imp id (fun h => Nat.le_trans hs h))⟩, ⟨X', h5.mono (fun b hb => hb.elim id (fun h => .inr (Nat.le_trans hs h)))⟩, hk.trans h6⟩

set_option maxHeartbeats 8000000 in
set_option maxRecDepth 100000 in
theorem refused_at (p : Pk) (po : Value) (h : NegAt w S B C st X) (ho : Opts w ok po p.o) (hok : ∀ b, ok b → ¬ B.t b) (hlen : p.o.length ≤ 1000000) :
    Calls Try.prog 64 #[.pointer (some ⟨B.nb, 0, none⟩), pkV p po] w fun e w' => EvPost w w' S ok B C (refusedS rej C st p) e := by
  obtain ⟨a1, k1, rfl, hc1, hc2⟩ := ho.form
  obtain ⟨W, hW, hs, x0, x1, hb⟩ := two_boxes w (.cells #[.pointer (some ⟨B.nb, 0, none⟩)] 23 (0, 0)) (.cells #[.int .i64 p.code, .int .i64 p.id, .slice a1 p.o.length k1, .string p.d] 37 (0, 0))
  have h1 : NegAt W (fun b => Grow S w b) B C st X := (h.below hb).mono (fun b hb => .inl hb)
  have ho1 := ho.below hb
  have hbl := h1.nlt
  obtain ⟨qa, qc, hrq⟩ := h1.req.form
  have HS : Hid (∀ Y, Below W.heap.size W Y → Y.cell? ⟨w.heap.size + 1, 2, none⟩ = some (.slice a1 p.o.length k1) ∧ Y.cell? ⟨w.heap.size, 0, none⟩ = some (.pointer (some ⟨B.nb, 0, none⟩)) ∧ Y.cell? ⟨B.nb, 10, none⟩ = some (.slice qa st.req.length qc)) := Lib.hid fun Y hY =>
    ⟨cellOf ((hY.block _ (by omega)).trans x1) 2 _ rfl, cellOf ((hY.block _ (by omega)).trans x0) 0 _ rfl, by rw [hY.cell hbl, ← hrq]; exact h1.cell 10⟩
  have HWI := Lib.hid (fun Y (hY : Below W.heap.size W Y) => within_any p.o st.req _ X.req ok _ Y (ho1.below hY) ((h1.req.below hY).opts (by have := h1.lr; unfold maxLen; omega)) hlen (by have := h1.lr; omega))
  rw [hrq] at HWI
  have HC := Lib.hid (fun Y (hY : Below W.heap.size W Y) => containsO_any p.o _ ok 80 #[.pointer (some ⟨w.heap.size, 0, none⟩)] (fun o => hasB C.must o.t) Y (ho1.below hY) hlen (enters_of Try.func80 (by kernel_rfl) rfl) (fun Z o _ hZ => (refused1_any ((h1.below hY).below hZ) w.heap.size ((hZ.block _ (by have := hY.size; omega)).trans ((hY.block _ (by omega)).trans x0)) o).mono (fun e w' he => ⟨he.1, hZ.trans (he.2.mono hZ.size)⟩)))
  have H := Lib.hid (And.intro h1 (And.intro ho1 (And.intro hb (And.intro hok (And.intro hs (And.intro x0 (And.intro x1 h)))))))
  have HE14 := Lib.hid (fun Y (hY : Below W.heap.size W Y) => Event_at (ok := ok) rej p (.slice a1 p.o.length k1) 14 (by decide) (h1.below hY) (ho1.below hY) hok hlen (fun pa => sayAll_next rej B C _ _ _ _ 14 h1.ss (by decide)))
  unfold pkV at HE14
  have HM := Lib.hid (show refusedS rej C st p = if wB st.req p.o then (if p.o.any (fun o => hasB C.must o.t) then evS rej C st 14 ⟨true, p, 0, []⟩ else evS rej C { st with req := st.req.filter fun o => !(p.o.any (eqB o)) } 9 ⟨true, p, 0, []⟩) else (st, []) from rfl)
  have HDF := Lib.hid (fun Y (hY : Below W.heap.size W Y) => delfunc_any st.req X.req 82 #[.pointer (some ⟨w.heap.size + 1, 0, none⟩)] (fun o => p.o.any (eqB o)) Y (h1.req.below hY) (by have := h1.lr; omega) (enters_of Try.func82 (by kernel_rfl) rfl)
    (fun Z o _ hZ => refused2_any (ok := ok) p _ (w.heap.size + 1) ((hZ.block _ (by have := hY.size; omega) (fun he => by have h1' := h1.rq _ he; have h2' := h.rlt; omega)).trans ((hY.block _ (by omega)).trans x1)) (Rec.keep (ho1.below hY) hZ (fun b _ hb he => hok b hb (.inr (.inr (h1.rq b he))))) hlen o))
  rw [hrq] at HDF
  generalize refusedS rej C st p = R at HM ⊢
  generalize wB st.req p.o = y at HM HWI
  generalize p.o.any (fun o => hasB C.must o.t) = z at HM HC
  have HL := Lib.hid hlen
  have HO := Lib.hid ho
  have HRB := Lib.hid (show (∀ b, (Value.slice qa st.req.length qc).ownBlock = some b → b = B.rb) ∧ X.req = .slice qa st.req.length qc from ⟨by rw [← hrq]; exact h1.rq, hrq⟩)
  unfold pkV
  clear h h1 ho ho1 hok hb hs x0 x1 hlen hrq hbl
  have HSv := HS.out W.drew (Below.refl _ _).drew
  cases y with
  | false =>
    go_enter Try.func64, Try.ntmps64
    go_wp2_with fail
    rw [← hW]
    clear hW
    refine wp_region_H (rgH 1 8) (fun Y : World => Y.cell? ⟨w.heap.size + 1, 2, none⟩ = some (.slice a1 p.o.length k1) ∧ Y.cell? ⟨w.heap.size, 0, none⟩ = some (.pointer (some ⟨B.nb, 0, none⟩)) ∧ Y.cell? ⟨B.nb, 10, none⟩ = some (.slice qa st.req.length qc)) (by kernel_rfl) ?_
    refine wpAnyH_pure 0 (v := ?vv1) rfl (by kernel_rfl) (by kernel_rfl) (by kernel_rfl) (fun _ _ _ h => h) ?hy1 ?hh1
    case hy1 =>
      refine Or.inl ⟨by rfl, ?_⟩
      intro W _
      go_simp
      try with_reducible rfl
    simp only [Act.put, List.setIfInBounds_toArray, List.set_cons_zero, List.set_cons_succ]
    refine wpAnyH_at 1 (v := ?vv2) rfl (by kernel_rfl) (by kernel_rfl) (by kernel_rfl) (fun _ _ _ h => h) ?hy2 HSv ?hh2
    case hy2 =>
      refine Or.inl ⟨by rfl, ?_⟩
      intro W hW
      obtain ⟨h0, h1, h2⟩ := hW
      go_simp
      try with_reducible rfl
    simp only [Act.put, List.setIfInBounds_toArray, List.set_cons_zero, List.set_cons_succ]
    refine wpAnyH_at 2 (v := ?vv3) rfl (by kernel_rfl) (by kernel_rfl) (by kernel_rfl) (fun _ _ _ h => h) ?hy3 HSv ?hh3
    case hy3 =>
      refine Or.inl ⟨by rfl, ?_⟩
      intro W hW
      obtain ⟨h0, h1, h2⟩ := hW
      go_simp
      try with_reducible rfl
    simp only [Act.put, List.setIfInBounds_toArray, List.set_cons_zero, List.set_cons_succ]
    refine wpAnyH_at 3 (v := ?vv4) rfl (by kernel_rfl) (by kernel_rfl) (by kernel_rfl) (fun _ _ _ h => h) ?hy4 HSv ?hh4
    case hy4 =>
      refine Or.inl ⟨by rfl, ?_⟩
      intro W hW
      obtain ⟨h0, h1, h2⟩ := hW
      go_simp
      try with_reducible rfl
    simp only [Act.put, List.setIfInBounds_toArray, List.set_cons_zero, List.set_cons_succ]
    refine wpAnyH_at 4 (v := ?vv5) rfl (by kernel_rfl) (by kernel_rfl) (by kernel_rfl) (fun _ _ _ h => h) ?hy5 HSv ?hh5
    case hy5 =>
      refine Or.inl ⟨by rfl, ?_⟩
      intro W hW
      obtain ⟨h0, h1, h2⟩ := hW
      go_simp
      try with_reducible rfl
    simp only [Act.put, List.setIfInBounds_toArray, List.set_cons_zero, List.set_cons_succ]
    refine wpAnyH_at 5 (v := ?vv6) rfl (by kernel_rfl) (by kernel_rfl) (by kernel_rfl) (fun _ _ _ h => h) ?hy6 HSv ?hh6
    case hy6 =>
      refine Or.inl ⟨by rfl, ?_⟩
      intro W hW
      obtain ⟨h0, h1, h2⟩ := hW
      go_simp
      try with_reducible rfl
    simp only [Act.put, List.setIfInBounds_toArray, List.set_cons_zero, List.set_cons_succ]
    refine wpAnyH_1 6 rfl (by kernel_rfl) ?_
    intro K hK
    rw [if_pos (by rfl)]
    try go_simp
    go_at_call 79
    refine (HWI.out _ (Below.refl _ _).drew).mono ?_
    rintro e w2 ⟨rfl, hb2⟩
    have HB2 := Lib.hid (show Below W.heap.size W w2 from Below.trans (Below.refl _ _).drew hb2)
    have HSv := HS.out w2 HB2.out
    clear hb2
    refine hK _ _ (fun _ => HSv) ?_
    try simp only [Act.put, List.setIfInBounds_toArray, List.set_cons_zero, List.set_cons_succ]
    refine wpAnyH_at 7 (v := ?vv7) rfl (by kernel_rfl) (by kernel_rfl) (by kernel_rfl) (fun _ _ _ h => h) ?hy7 HSv ?hh7
    case hy7 =>
      refine Or.inl ⟨by rfl, ?_⟩
      intro W hW
      obtain ⟨h0, h1, h2⟩ := hW
      go_simp
      try with_reducible rfl
    simp only [Act.put, List.setIfInBounds_toArray, List.set_cons_zero, List.set_cons_succ]
    refine wpAnyH_end 8 (fun j hj => rgH_end _ _ j (by omega)) (by rfl) (by kernel_rfl) ?_
    simp only [List.drop_succ_cons, List.drop_zero]
    go_wp2_with fail
    go_ret
    rw [show R = (st, []) from HM.out]
    have hbw := H.out.2.2.1.trans (HB2.out.mono H.out.2.2.1.size)
    exact EvPost.none' ⟨X, (H.out.2.2.2.2.2.2.2.below hbw).mono (fun b h => .inl h)⟩ (Keep.of_below _ hbw)
  | true =>
    go_enter Try.func64, Try.ntmps64
    go_wp2_with fail
    rw [← hW]
    clear hW
    refine wp_region_H (rgH 1 8) (fun Y : World => Y.cell? ⟨w.heap.size + 1, 2, none⟩ = some (.slice a1 p.o.length k1) ∧ Y.cell? ⟨w.heap.size, 0, none⟩ = some (.pointer (some ⟨B.nb, 0, none⟩)) ∧ Y.cell? ⟨B.nb, 10, none⟩ = some (.slice qa st.req.length qc)) (by kernel_rfl) ?_
    refine wpAnyH_pure 0 (v := ?vv8) rfl (by kernel_rfl) (by kernel_rfl) (by kernel_rfl) (fun _ _ _ h => h) ?hy8 ?hh8
    case hy8 =>
      refine Or.inl ⟨by rfl, ?_⟩
      intro W _
      go_simp
      try with_reducible rfl
    simp only [Act.put, List.setIfInBounds_toArray, List.set_cons_zero, List.set_cons_succ]
    refine wpAnyH_at 1 (v := ?vv9) rfl (by kernel_rfl) (by kernel_rfl) (by kernel_rfl) (fun _ _ _ h => h) ?hy9 HSv ?hh9
    case hy9 =>
      refine Or.inl ⟨by rfl, ?_⟩
      intro W hW
      obtain ⟨h0, h1, h2⟩ := hW
      go_simp
      try with_reducible rfl
    simp only [Act.put, List.setIfInBounds_toArray, List.set_cons_zero, List.set_cons_succ]
    refine wpAnyH_at 2 (v := ?vv10) rfl (by kernel_rfl) (by kernel_rfl) (by kernel_rfl) (fun _ _ _ h => h) ?hy10 HSv ?hh10
    case hy10 =>
      refine Or.inl ⟨by rfl, ?_⟩
      intro W hW
      obtain ⟨h0, h1, h2⟩ := hW
      go_simp
      try with_reducible rfl
    simp only [Act.put, List.setIfInBounds_toArray, List.set_cons_zero, List.set_cons_succ]
    refine wpAnyH_at 3 (v := ?vv11) rfl (by kernel_rfl) (by kernel_rfl) (by kernel_rfl) (fun _ _ _ h => h) ?hy11 HSv ?hh11
    case hy11 =>
      refine Or.inl ⟨by rfl, ?_⟩
      intro W hW
      obtain ⟨h0, h1, h2⟩ := hW
      go_simp
      try with_reducible rfl
    simp only [Act.put, List.setIfInBounds_toArray, List.set_cons_zero, List.set_cons_succ]
    refine wpAnyH_at 4 (v := ?vv12) rfl (by kernel_rfl) (by kernel_rfl) (by kernel_rfl) (fun _ _ _ h => h) ?hy12 HSv ?hh12
    case hy12 =>
      refine Or.inl ⟨by rfl, ?_⟩
      intro W hW
      obtain ⟨h0, h1, h2⟩ := hW
      go_simp
      try with_reducible rfl
    simp only [Act.put, List.setIfInBounds_toArray, List.set_cons_zero, List.set_cons_succ]
    refine wpAnyH_at 5 (v := ?vv13) rfl (by kernel_rfl) (by kernel_rfl) (by kernel_rfl) (fun _ _ _ h => h) ?hy13 HSv ?hh13
    case hy13 =>
      refine Or.inl ⟨by rfl, ?_⟩
      intro W hW
      obtain ⟨h0, h1, h2⟩ := hW
      go_simp
      try with_reducible rfl
    simp only [Act.put, List.setIfInBounds_toArray, List.set_cons_zero, List.set_cons_succ]
    refine wpAnyH_1 6 rfl (by kernel_rfl) ?_
    intro K hK
    rw [if_pos (by rfl)]
    try go_simp
    go_at_call 79
    refine (HWI.out _ (Below.refl _ _).drew).mono ?_
    rintro e w2 ⟨rfl, hb2⟩
    have HB2 := Lib.hid (show Below W.heap.size W w2 from Below.trans (Below.refl _ _).drew hb2)
    have HSv := HS.out w2 HB2.out
    clear hb2
    refine hK _ _ (fun _ => HSv) ?_
    try simp only [Act.put, List.setIfInBounds_toArray, List.set_cons_zero, List.set_cons_succ]
    refine wpAnyH_at 7 (v := ?vv14) rfl (by kernel_rfl) (by kernel_rfl) (by kernel_rfl) (fun _ _ _ h => h) ?hy14 HSv ?hh14
    case hy14 =>
      refine Or.inl ⟨by rfl, ?_⟩
      intro W hW
      obtain ⟨h0, h1, h2⟩ := hW
      go_simp
      try with_reducible rfl
    simp only [Act.put, List.setIfInBounds_toArray, List.set_cons_zero, List.set_cons_succ]
    refine wpAnyH_end 8 (fun j hj => rgH_end _ _ j (by omega)) (by rfl) (by kernel_rfl) ?_
    simp only [List.drop_succ_cons, List.drop_zero]
    obtain ⟨g0, g1, g2⟩ := HSv
    go_wp2_with fail
    refine (HC.out w2 HB2.out).mono ?_
    rintro e w3 ⟨rfl, hb3⟩
    have HB3 := Lib.hid (HB2.out.trans (hb3.mono HB2.out.size))
    clear hb3 g0 g1 g2
    have HX3 : Hid (∀ Y, Below W.heap.size W Y → Y.cell? ⟨w.heap.size, 0, none⟩ = some (.pointer (some ⟨B.nb, 0, none⟩)) ∧ Y.cell? ⟨w.heap.size + 1, 0, none⟩ = some (.int .i64 p.code) ∧ Y.cell? ⟨w.heap.size + 1, 1, none⟩ = some (.int .i64 p.id) ∧ Y.cell? ⟨w.heap.size + 1, 2, none⟩ = some (.slice a1 p.o.length k1) ∧ Y.cell? ⟨w.heap.size + 1, 3, none⟩ = some (.string p.d)) := Lib.hid fun Y hY => by
      have z0 := (hY.block _ (by have := H.out.2.2.2.2.1; omega)).trans H.out.2.2.2.2.2.1
      have z1 := (hY.block _ (by have := H.out.2.2.2.2.1; omega)).trans H.out.2.2.2.2.2.2.1
      exact ⟨cellOf z0 0 _ rfl, cellOf z1 0 _ rfl, cellOf z1 1 _ rfl, cellOf z1 2 _ rfl, cellOf z1 3 _ rfl⟩
    cases z with
    | true =>
      obtain ⟨f0, f1, f2, f3, f4⟩ := HX3.out w3 HB3.out
      go_wp2_with fail
      refine (HE14.out w3 HB3.out).mono ?_
      rintro e w4 ⟨v4, rfl, h4⟩
      go_wp2_with fail
      go_ret
      rw [show R = evS rej C st 14 ⟨true, p, 0, []⟩ from HM.out]
      have hbw := H.out.2.2.1.trans (HB3.out.mono H.out.2.2.1.size)
      exact EvPost.fin ⟨_, rfl, h4⟩ (Keep.of_below _ hbw) hbw.size
    | false =>
      go_wp2_with fail
      refine wp_region_H (rgH 0 7) (fun Y : World => Y.cell? ⟨w.heap.size, 0, none⟩ = some (.pointer (some ⟨B.nb, 0, none⟩)) ∧ Y.cell? ⟨B.nb, 10, none⟩ = some (.slice qa st.req.length qc)) (by kernel_rfl) ?_
      have HSv : (fun Y : World => Y.cell? ⟨w.heap.size, 0, none⟩ = some (.pointer (some ⟨B.nb, 0, none⟩)) ∧ Y.cell? ⟨B.nb, 10, none⟩ = some (.slice qa st.req.length qc)) w3.drew := (HS.out w3.drew HB3.out.drew).2
      refine wpAnyH_at 0 (v := ?vv15) rfl (by kernel_rfl) (by kernel_rfl) (by kernel_rfl) (fun _ _ _ h => h) ?hy15 HSv ?hh15
      case hy15 =>
        refine Or.inl ⟨by rfl, ?_⟩
        intro W hW
        obtain ⟨h0, h1⟩ := hW
        go_simp
        try with_reducible rfl
      simp only [Act.put, List.setIfInBounds_toArray, List.set_cons_zero, List.set_cons_succ]
      refine wpAnyH_at 1 (v := ?vv16) rfl (by kernel_rfl) (by kernel_rfl) (by kernel_rfl) (fun _ _ _ h => h) ?hy16 HSv ?hh16
      case hy16 =>
        refine Or.inl ⟨by rfl, ?_⟩
        intro W hW
        obtain ⟨h0, h1⟩ := hW
        go_simp
        try with_reducible rfl
      simp only [Act.put, List.setIfInBounds_toArray, List.set_cons_zero, List.set_cons_succ]
      refine wpAnyH_at 2 (v := ?vv17) rfl (by kernel_rfl) (by kernel_rfl) (by kernel_rfl) (fun _ _ _ h => h) ?hy17 HSv ?hh17
      case hy17 =>
        refine Or.inl ⟨by rfl, ?_⟩
        intro W hW
        obtain ⟨h0, h1⟩ := hW
        go_simp
        try with_reducible rfl
      simp only [Act.put, List.setIfInBounds_toArray, List.set_cons_zero, List.set_cons_succ]
      refine wpAnyH_at 3 (v := ?vv18) rfl (by kernel_rfl) (by kernel_rfl) (by kernel_rfl) (fun _ _ _ h => h) ?hy18 HSv ?hh18
      case hy18 =>
        refine Or.inl ⟨by rfl, ?_⟩
        intro W hW
        obtain ⟨h0, h1⟩ := hW
        go_simp
        try with_reducible rfl
      simp only [Act.put, List.setIfInBounds_toArray, List.set_cons_zero, List.set_cons_succ]
      refine wpAnyH_at 4 (v := ?vv19) rfl (by kernel_rfl) (by kernel_rfl) (by kernel_rfl) (fun _ _ _ h => h) ?hy19 HSv ?hh19
      case hy19 =>
        refine Or.inl ⟨by rfl, ?_⟩
        intro W hW
        obtain ⟨h0, h1⟩ := hW
        go_simp
        try with_reducible rfl
      simp only [Act.put, List.setIfInBounds_toArray, List.set_cons_zero, List.set_cons_succ]
      refine wpAnyH_at 5 (v := ?vv20) rfl (by kernel_rfl) (by kernel_rfl) (by kernel_rfl) (fun _ _ _ h => h) ?hy20 HSv ?hh20
      case hy20 =>
        refine Or.inl ⟨by rfl, ?_⟩
        intro W hW
        obtain ⟨h0, h1⟩ := hW
        go_simp
        try with_reducible rfl
      simp only [Act.put, List.setIfInBounds_toArray, List.set_cons_zero, List.set_cons_succ]
      refine wpAnyH_1 6 rfl (by kernel_rfl) ?_
      intro K hK
      rw [if_pos (by rfl)]
      try go_simp
      go_at_call 81
      refine (HDF.out w3.drew HB3.out.drew).mono ?_
      rintro e w4 ⟨v4, rfl, r4, ow4, k4⟩
      obtain ⟨qd, qe, rfl⟩ := r4.form
      have hNW := (H.out.1.below HB3.out).below (show Below w3.heap.size w3 w3.drew from (Below.refl _ _).drew)
      have hlr : (st.req.filter fun o => !(p.o.any (eqB o))).length ≤ 30 := Nat.le_trans (List.length_filter_le _ _) H.out.1.lr
      rw [← HRB.out.2] at k4 ow4
      have hnb : ∀ b, X.req.ownBlock = some b → b = B.rb := hNW.rq
      have hN5 := hNW.setReq k4 r4 (fun k hk => by rw [ow4] at hk; exact hnb k hk) hlr
      have y10 := (k4.block B.nb hNW.nlt (fun he => hNW.ne2 (hnb _ he).symm)).trans hNW.blk
      have hlt := H.out.2.2.2.2.2.2.2.rlt
      have z0 := (k4.block w.heap.size (by have := HB3.out.size; have := H.out.2.2.2.2.1; show w.heap.size < w3.heap.size; omega) (fun he => by have := hnb _ he; omega)).trans ((HB3.out.drew.block _ (by have := H.out.2.2.2.2.1; omega)).trans H.out.2.2.2.2.2.1)
      have z1 := (k4.block (w.heap.size + 1) (by have := HB3.out.size; have := H.out.2.2.2.2.1; show w.heap.size + 1 < w3.heap.size; omega) (fun he => by have := hnb _ he; omega)).trans ((HB3.out.drew.block _ (by have := H.out.2.2.2.2.1; omega)).trans H.out.2.2.2.2.2.2.1)
      have HSv : (fun Y : World => Y.cell? ⟨w.heap.size, 0, none⟩ = some (.pointer (some ⟨B.nb, 0, none⟩)) ∧ Y.cell? ⟨B.nb, 10, none⟩ = some (.slice qa st.req.length qc)) w4 := ⟨cellOf z0 0 _ rfl, by rw [← HRB.out.2]; exact cellOf y10 10 _ rfl⟩
      have hbw := H.out.2.2.1.trans (HB3.out.mono H.out.2.2.1.size)
      have hkw : Keep B.t w (w4.setCell ⟨B.nb, 10, none⟩ (.slice qd (st.req.filter fun o => !(p.o.any (eqB o))).length qe)) := (Keep.of_below _ hbw).trans ((Keep.of_below B.t (show Below w3.heap.size w3 w3.drew from (Below.refl _ _).drew)).trans hN5.2)
      have ho5 := Rec.keep HO.out hkw (fun b _ hb ht => H.out.2.2.2.1 b hb ht)
      have HE := Lib.hid (Event_at (ok := ok) rej p (.slice a1 p.o.length k1) 9 (by decide) hN5.1 ho5 H.out.2.2.2.1 HL.out (fun pa => sayAll_next rej B C _ _ _ _ 9 hNW.ss (by decide)))
      unfold pkV at HE
      have k5 := keepC B w4 10 (.slice qd (st.req.filter fun o => !(p.o.any (eqB o))).length qe)
      have hnl := H.out.2.2.2.2.2.2.2.nlt
      have u0 := (k5.block w.heap.size (lt_of_heap' z0) (by omega)).trans z0
      have u1 := (k5.block (w.heap.size + 1) (lt_of_heap' z1) (by omega)).trans z1
      have f10 := fun o => fzOf y10 o
      have HK := Lib.hid (And.intro hkw hbw)
      have t0 := cellOf u0 0 (.pointer (some ⟨B.nb, 0, none⟩)) rfl
      have t1 := cellOf u1 0 (.int .i64 p.code) rfl
      have t2 := cellOf u1 1 (.int .i64 p.id) rfl
      have t3 := cellOf u1 2 (.slice a1 p.o.length k1) rfl
      have t4 := cellOf u1 3 (.string p.d) rfl
      generalize (st.req.filter fun o => !(p.o.any (eqB o))) = fl at *
      clear hNW hlr hnb hN5 z0 z1 y10 r4 ow4 k4 ho5 k5 u0 u1 hkw hbw
      refine hK _ _ (fun _ => HSv) ?_
      try simp only [Act.put, List.setIfInBounds_toArray, List.set_cons_zero, List.set_cons_succ]
      obtain ⟨s0, s1⟩ := HSv
      refine wpAnyH_end 7 (fun j hj => rgH_end _ _ j (by omega)) (by rfl) (by kernel_rfl) ?_
      simp only [List.drop_succ_cons, List.drop_zero]
      go_wp2_with fail
      refine HE.out.mono ?_
      rintro e w6 ⟨v6, rfl, h6⟩
      go_wp2_with fail
      go_ret
      rw [show R = evS rej C { st with req := fl } 9 ⟨true, p, 0, []⟩ from HM.out]
      exact EvPost.fin ⟨_, rfl, h6⟩ HK.out.1 HK.out.1.size
end
end Go.Proofs.Ytijepfjfmpmfnaa
