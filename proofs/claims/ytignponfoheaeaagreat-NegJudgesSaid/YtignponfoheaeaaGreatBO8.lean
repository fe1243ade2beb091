import Derived.Test.YtignponfoheaeaaGreatBO7
import Derived.Test.YtignponfoheaeaaGreatB8
/- Options of a book: one more list. -/
namespace Go.Proofs.YtignponfoheaeaaGreat
open Go.RowKit Go.Tg Go.Maps

set_option maxHeartbeats 8000000 in
set_option maxRecDepth 100000 in
theorem addO_any (D : KD) (x : Value) (mx : Nat) (cx : List Value) (bb : Nat) (bcs : Array Value) (BT : TypeId) (w : World) (h : ShelfV 91 62 2 w D) (hx : BRow 91 2 w x mx cx) (hone : ∀ u ∈ cx, u.oneCell' = true) (hmx : mx ≤ 100000)
    (hxs : ∀ g, x.ownBlock = some g → ¬ D.Has g) (hbk : w.heap[bb]? = some (.cells bcs BT (0, 0))) (hc1 : bcs[8]? = some D.v1) (hc2 : bcs[9]? = some D.v2) (hbn : ¬ D.Has bb) (hbx : x.ownBlock ≠ some bb) (hroom : D.n < 250) :
    Calls Tryz.prog 35 #[.pointer (some ⟨bb, 0, none⟩), x] w fun e w' => (∃ r, e = .returned r) ∧ ∃ v1 v2 y, AddI 91 62 2 bb 8 9 bcs BT w w' D ⟨v1, v2, D.n + 1, upN D.X D.n x, upN D.Y D.n y, upN D.m D.n mx, upN D.cs D.n cx, upN D.ds D.n cx⟩ x := by
  obtain ⟨v1, v2, n, X, Y, m, cs, ds⟩ := D
  simp only at hc1 hc2 hroom ⊢
  have hbb : bb < w.heap.size := (Array.getElem?_eq_some_iff.1 hbk).1
  obtain ⟨s1, k1, e1, hcc1, hm1⟩ := h.x.r.form
  obtain ⟨s2, k2, e2, hcc2, hm2⟩ := h.y.r.form
  obtain ⟨sx, kx, e3, hcc3, hm3⟩ := hx.form
  simp only at e1 e2 hcc1 hcc2
  subst e1 e2 e3
  have c1 := cell_block hbk hc1
  have hv1 : ∀ g, (Value.slice s1 n k1).ownBlock = some g → g ≠ bb := fun g hg he => hbn (.inl (.inl (by rw [← he]; exact hg)))
  have hv2 : ∀ g, (Value.slice s2 n k2).ownBlock = some g → g ≠ bb := fun g hg he => hbn (.inr (.inl (by rw [← he]; exact hg)))
  have H := Lib.hid (And.intro h (And.intro hx (And.intro hxs (And.intro hbb (And.intro hbn (And.intro hone (And.intro hbk (And.intro hc1 (And.intro hc2 hbx)))))))))
  have HV := Lib.hid (And.intro hv1 hv2)
  clear h hx hxs hbb hbn hone hbk hc1 hc2 hbx hv1 hv2
  go_enter Tryz.func35, Tryz.ntmps35
  go_wp2_with (at_builtin; refine wpl_append_rec opts_row rfl _ _ rfl _ n _ rfl (H.out.1.x.r.below (b1 _ _)) _ _ [.slice sx mx kx] rfl (cell_of_at _ _ _ rfl) rfl (fun u hu => by rw [List.mem_singleton.1 hu]; rfl) (by omega) ?_
               intro g3 c3 w3 h3 k3 o3
               have hbb3 : bb < (w.alloc (.cells #[.slice sx mx kx] 62 (0, 0))).heap.size := Nat.lt_of_lt_of_le H.out.2.2.2.1 (b1 _ _).size
               have hk3 : w3.heap[bb]? = some (.cells bcs BT (0, 0)) := (k3.block bb hbb3 (fun he => HV.out.1 bb he rfl)).trans (((b1 w _).block bb H.out.2.2.2.1).trans H.out.2.2.2.2.2.2.1)
               have d2 := cell_block hk3 H.out.2.2.2.2.2.2.2.1
               have f3 := fz_block hk3 8
               have H3 := Lib.hid (And.intro h3 (And.intro k3 (And.intro o3 hk3)))
               clear h3 k3 o3 hk3)
  have hs3 := H3.out.2.1.size
  have hb0 := (b1 w (.cells #[.slice sx mx kx] 62 (0, 0)))
  have hA : Add1 91 62 2 ⟨.slice s1 n k1, .slice s2 n k2, n, X, Y, m, cs, ds⟩ w3 (.slice (some ⟨g3, 0, none⟩) (n + 1) c3) (.slice sx mx kx) mx cx :=
    add1 (H.out.1.below hb0) opts_ne (H.out.2.1.below hb0) H.out.2.2.1 H3.out.1 H3.out.2.1 (H3.out.2.2.1.imp (fun h => h.symm) (fun h => by rw [h]; rfl)) hmx hroom
  have hg3 : g3 ≠ bb := fun he => by
    rcases H3.out.2.2.1 with h | h
    · exact HV.out.1 _ h he
    · have := H.out.2.2.2.1; have := hb0.size; omega
  have hnb : ∀ g, XHas (.slice (some ⟨g3, 0, none⟩) (n + 1) c3) (n + 1) (upN X n (.slice sx mx kx)) g ∨ XHas (.slice s2 n k2) n Y g → ¬ g = bb := by
    intro g hg he
    subst he
    rcases hg with hg | hg
    · rcases hg.up with h | h | h
      · cases h; exact hg3 rfl
      · exact H.out.2.2.2.2.2.2.2.2.2 h
      · exact H.out.2.2.2.2.1 (.inl (.inr h))
    · exact H.out.2.2.2.2.1 (.inr hg)
  have hk4 := (Keep.refl (fun g => g = bb) w3).setCell ⟨bb, 8, none⟩ (Or.inr rfl) (.slice (some ⟨g3, 0, none⟩) (n + 1) c3)
  have hA4 := hA.keep hk4 hnb
  have hbk4 := cell_set H3.out.2.2.2 8 (.slice (some ⟨g3, 0, none⟩) (n + 1) c3)
  have hcc4 : (bcs.setIfInBounds 8 (.slice (some ⟨g3, 0, none⟩) (n + 1) c3))[9]? = some (.slice s2 n k2) := get_set H.out.2.2.2.2.2.2.2.2.1 (by decide)
  have d3 := cell_block hbk4 hcc4
  have hkk : Keep (fun g => g = bb ∨ (Value.slice s1 n k1).ownBlock = some g ∨ (Value.slice s2 n k2).ownBlock = some g) w (w3.setCell ⟨bb, 8, none⟩ (.slice (some ⟨g3, 0, none⟩) (n + 1) c3)) :=
    ((Keep.of_below _ hb0).transM H3.out.2.1 (fun _ _ h => h) (fun g _ h => .inr (.inl h))).transM hk4 (fun _ _ h => h) (fun g _ h => .inl h)
  have hsz4 : w.heap.size < (w3.setCell ⟨bb, 8, none⟩ (.slice (some ⟨g3, 0, none⟩) (n + 1) c3)).heap.size := Nat.lt_of_lt_of_le (by rw [balloc1]; omega) (Nat.le_trans hs3 hk4.size)
  have HA := Lib.hid (And.intro hA4 (And.intro hbk4 (And.intro hcc4 (And.intro hkk (And.intro hnb hsz4)))))
  clear hA hA4 hnb hk4 hb0 d2 f3 hbk4 hcc4 hkk hsz4 hs3
  generalize w3.setCell ⟨bb, 8, none⟩ (.slice (some ⟨g3, 0, none⟩) (n + 1) c3) = w4 at *
  have HS : Hid (∀ W, Keep (fun g => (Value.slice s2 n k2).ownBlock = some g) w4 W → W.heap[bb]? = some (.cells (bcs.setIfInBounds 8 (.slice (some ⟨g3, 0, none⟩) (n + 1) c3)) BT (0, 0))) := Lib.hid fun W hW =>
    (hW.block bb (Array.getElem?_eq_some_iff.1 HA.out.2.1).1 (fun he => HV.out.2 bb he rfl)).trans HA.out.2.1
  have HSv : (fun Y : World => Y.cell? ⟨bb, 9, none⟩ = some (.slice s2 n k2)) w4.drew := d3
  refine wp_region_H (rgH 0 9) (fun Y : World => Y.cell? ⟨bb, 9, none⟩ = some (.slice s2 n k2)) (by kernel_rfl) ?_
  refine wpAnyH_at 0 (v := ?vv1) rfl (by kernel_rfl) (by kernel_rfl) (by kernel_rfl) (fun _ _ _ h => h) ?hy1 HSv ?hh1
  case hy1 =>
    refine Or.inl ⟨by rfl, ?_⟩
    intro W hW
    obtain h0 := hW
    go_simp
    try with_reducible rfl
  simp only [Act.put, List.setIfInBounds_toArray, List.set_cons_zero, List.set_cons_succ]
  refine wpAnyH_at 1 (v := ?vv2) rfl (by kernel_rfl) (by kernel_rfl) (by kernel_rfl) (fun _ _ _ h => h) ?hy2 HSv ?hh2
  case hy2 =>
    refine Or.inl ⟨by rfl, ?_⟩
    intro W hW
    obtain h0 := hW
    go_simp
    try with_reducible rfl
  simp only [Act.put, List.setIfInBounds_toArray, List.set_cons_zero, List.set_cons_succ]
  refine wpAnyH_at 2 (v := ?vv3) rfl (by kernel_rfl) (by kernel_rfl) (by kernel_rfl) (fun _ _ _ h => h) ?hy3 HSv ?hh3
  case hy3 =>
    refine Or.inl ⟨by rfl, ?_⟩
    intro W hW
    obtain h0 := hW
    go_simp
    try with_reducible rfl
  simp only [Act.put, List.setIfInBounds_toArray, List.set_cons_zero, List.set_cons_succ]
  refine wpAnyH_at 3 (v := ?vv4) rfl (by kernel_rfl) (by kernel_rfl) (by kernel_rfl) (fun _ _ _ h => h) ?hy4 HSv ?hh4
  case hy4 =>
    refine Or.inl ⟨by rfl, ?_⟩
    intro W hW
    obtain h0 := hW
    go_simp
    try with_reducible rfl
  simp only [Act.put, List.setIfInBounds_toArray, List.set_cons_zero, List.set_cons_succ]
  refine wpAnyH_at 4 (v := ?vv5) rfl (by kernel_rfl) (by kernel_rfl) (by kernel_rfl) (fun _ _ _ h => h) ?hy5 HSv ?hh5
  case hy5 =>
    refine Or.inl ⟨by rfl, ?_⟩
    intro W hW
    obtain h0 := hW
    go_simp
    try with_reducible rfl
  simp only [Act.put, List.setIfInBounds_toArray, List.set_cons_zero, List.set_cons_succ]
  refine wpAnyH_at 5 (v := ?vv6) rfl (by kernel_rfl) (by kernel_rfl) (by kernel_rfl) (fun _ _ _ h => h) ?hy6 HSv ?hh6
  case hy6 =>
    refine Or.inl ⟨by rfl, ?_⟩
    intro W hW
    obtain h0 := hW
    go_simp
    try with_reducible rfl
  simp only [Act.put, List.setIfInBounds_toArray, List.set_cons_zero, List.set_cons_succ]
  refine wpAnyH_1 6 rfl (by kernel_rfl) ?_
  intro K hK
  rw [if_pos (by rfl)]
  try go_simp
  go_at_call 155
  refine (copyO_any (.slice sx mx kx) mx cx w4.drew (HA.out.1.xr.rd.below (Below.refl _ _).drew) HA.out.1.xr.hnil HA.out.1.xr.len H.out.2.2.2.2.2.1 (by omega)).mono ?_
  rintro e w5 ⟨y, rfl, h5⟩
  have hb5 : Below w4.heap.size w4 w5 := Below.trans (Below.refl _ _).drew h5.b
  have HSv : w5.cell? ⟨bb, 9, none⟩ = some (.slice s2 n k2) := cell_block (HS.out w5 (Keep.of_below _ hb5)) HA.out.2.2.1
  obtain ⟨sy, ky, rfl, -, -⟩ := h5.r.form
  have H5 := Lib.hid (And.intro h5.r (And.intro hb5 h5.f))
  clear hb5 h5
  refine hK _ _ (fun _ => HSv) ?_
  try simp only [Act.put, List.setIfInBounds_toArray, List.set_cons_zero, List.set_cons_succ]
  refine wpAnyH_1 7 rfl (by kernel_rfl) ?_
  intro K hK
  rw [if_pos (by rfl)]
  try go_simp
  have hb6 := b1 w5 (.cells #[.slice sy mx ky] 62 (0, 0))
  have HSv : (w5.alloc (.cells #[.slice sy mx ky] 62 (0, 0))).cell? ⟨bb, 9, none⟩ = some (.slice s2 n k2) := cell_block (HS.out _ ((Keep.of_below _ H5.out.2.1).trans (Keep.of_below _ hb6))) HA.out.2.2.1
  refine hK _ _ (fun _ => HSv) ?_
  try simp only [Act.put, List.setIfInBounds_toArray, List.set_cons_zero, List.set_cons_succ]
  refine wpAnyH_1 8 rfl (by kernel_rfl) ?_
  intro K hK
  refine step_append_rec opts_row rfl _ _ rfl _ n _ rfl (HA.out.1.yv.r.below (Below.trans H5.out.2.1 (hb6.mono H5.out.2.1.size))) _ _ [.slice sy mx ky] rfl (cell_of_at _ _ _ rfl) rfl (fun u hu => by rw [List.mem_singleton.1 hu]; rfl) (by omega) ?_
  intro g7 c7 w7 h7 k7 o7
  have hbk7 := HS.out w7 (((Keep.of_below _ H5.out.2.1).trans (Keep.of_below _ hb6)).trans k7)
  have HSv : w7.cell? ⟨bb, 9, none⟩ = some (.slice s2 n k2) := cell_block hbk7 HA.out.2.2.1
  have f7 := fz_block hbk7 9
  have hS7 : ShelfV 91 62 2 w7 ⟨(.slice (some ⟨g3, 0, none⟩) (n + 1) c3), (.slice (some ⟨g7, 0, none⟩) (n + 1) c7), n + 1, upN X n (.slice sx mx kx), upN Y n (.slice sy mx ky), upN m n mx, upN cs n cx, upN ds n cx⟩ :=
    HA.out.1.add2 opts_ne H5.out.1 H5.out.2.1 H5.out.2.2 hb6 h7 k7 (o7.imp (fun h => h.symm) (fun h => by rw [h]; rfl))
  have hsz7 : (w5.alloc (.cells #[.slice sy mx ky] 62 (0, 0))).heap.size ≤ w7.heap.size := k7.size
  have H7 := Lib.hid (And.intro hS7 (And.intro hbk7 (And.intro o7 (And.intro hsz7 (HA.out.2.2.2.1.trans (((Keep.of_below _ H5.out.2.1).trans (Keep.of_below _ hb6)).transM k7 (fun _ _ h => h) (fun g _ h => .inr (.inr h))))))))
  clear h7 k7 o7 hbk7 hS7 hb6 hsz7
  refine hK _ _ (fun _ => HSv) ?_
  try simp only [Act.put, List.setIfInBounds_toArray, List.set_cons_zero, List.set_cons_succ]
  refine wpAnyH_end 9 (fun j hj => rgH_end _ _ j (by omega)) (by rfl) (by kernel_rfl) ?_
  simp only [List.drop_succ_cons, List.drop_zero]
  go_wp2_with fail
  go_end0
  refine ⟨⟨_, rfl⟩, (.slice (some ⟨g3, 0, none⟩) (n + 1) c3), (.slice (some ⟨g7, 0, none⟩) (n + 1) c7), (.slice sy mx ky), ?_⟩
  have hs5 := H5.out.2.1.size
  have hs6 := balloc1 w5 (.cells #[.slice sy mx ky] 62 (0, 0))
  have hs7 := H7.out.2.2.2.1
  have hk8 := (Keep.refl (fun g => g = bb) w7).setCell ⟨bb, 9, none⟩ (Or.inr rfl) (.slice (some ⟨g7, 0, none⟩) (n + 1) c7)
  have hg7 : g7 ≠ bb := fun he => by
    rcases H7.out.2.2.1 with h | h
    · exact HV.out.2 _ h he
    · have := H.out.2.2.2.1; have := HA.out.2.2.2.2.2; omega
  have hhas : ∀ g, (⟨(.slice (some ⟨g3, 0, none⟩) (n + 1) c3), (.slice (some ⟨g7, 0, none⟩) (n + 1) c7), n + 1, upN X n (.slice sx mx kx), upN Y n (.slice sy mx ky), upN m n mx, upN cs n cx, upN ds n cx⟩ : KD).Has g →
      (⟨.slice s1 n k1, .slice s2 n k2, n, X, Y, m, cs, ds⟩ : KD).Has g ∨ (Value.slice sx mx kx).ownBlock = some g ∨ w.heap.size ≤ g := by
    rintro g (hg | hg)
    · rcases hg.up with h | h | h
      · cases h
        rcases H3.out.2.2.1 with h | h
        · exact .inl (.inl (.inl h))
        · exact .inr (.inr (by show w.heap.size ≤ g3; rw [balloc1] at h; omega))
      · exact .inr (.inl h)
      · exact .inl (.inl (.inr h))
    · rcases hg.up with h | h | h
      · cases h
        rcases H7.out.2.2.1 with h | h
        · exact .inl (.inr (.inl h))
        · exact .inr (.inr (by show w.heap.size ≤ g7; have := HA.out.2.2.2.2.2; omega))
      · exact .inr (.inr (by have h9 : w4.heap.size ≤ g := H5.out.2.2 g h; have := HA.out.2.2.2.2.2; omega))
      · exact .inl (.inr (.inr h))
  have hsf := H7.out.1.keep hk8 (fun g hg he => by
    subst he
    rcases hhas g hg with h | h | h
    · exact H.out.2.2.2.2.1 h
    · exact H.out.2.2.2.2.2.2.2.2.2 h
    · have := H.out.2.2.2.1; omega)
  exact ⟨hsf, cell_set H7.out.2.1 9 _, H7.out.2.2.2.2.transM hk8 (fun _ _ h => h) (fun g _ h => .inl h), fun g hg => (hhas g hg).imp id (fun h => h.imp id (fun h => ⟨h, hsf.lt hg⟩))⟩
end Go.Proofs.YtignponfoheaeaaGreat
