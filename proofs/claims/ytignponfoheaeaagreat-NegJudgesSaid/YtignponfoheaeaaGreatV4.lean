import Derived.Test.YtignponfoheaeaaGreatV3
namespace Go.Proofs.YtignponfoheaeaaGreat
open Go.RowKit Go.Tg Go.Maps

theorem fzOf {w : World} {k : Nat} {cs : Array Value} {T : TypeId} (h : w.heap[k]? = some (.cells cs T (0, 0))) (o : Nat) : w.frozen? ⟨k, o, none⟩ = false := by simp [World.frozen?, h]

theorem set5 {w : World} {b : Nat} {T : TypeId} {a0 a1 a2 a3 a4 : Value} (h : w.heap[b]? = some (.cells #[a0, a1, a2, a3, a4] T (0, 0))) (v0 v1 v2 v3 v4 : Value) :
    (((((w.setCell ⟨b, 0, none⟩ v0).setCell ⟨b, 1, none⟩ v1).setCell ⟨b, 2, none⟩ v2).setCell ⟨b, 3, none⟩ v3).setCell ⟨b, 4, none⟩ v4).heap[b]? = some (.cells #[v0, v1, v2, v3, v4] T (0, 0)) :=
  set_block (set_block (set_block (set_block (set_block h 0 v0) 1 v1) 2 v2) 3 v3) 4 v4
theorem below5 {B : Nat} {w0 w : World} {b : Nat} (h : Below B w0 w) (hb : B ≤ b) (v0 v1 v2 v3 v4 : Value) :
    Below B w0 (((((w.setCell ⟨b, 0, none⟩ v0).setCell ⟨b, 1, none⟩ v1).setCell ⟨b, 2, none⟩ v2).setCell ⟨b, 3, none⟩ v3).setCell ⟨b, 4, none⟩ v4) :=
  ((((h.setCell hb v0).setCell hb v1).setCell hb v2).setCell hb v3).setCell hb v4

set_option maxHeartbeats 4000000 in
set_option maxRecDepth 100000 in
theorem findR_any (l : List Rl) (lv : Value) (ok : Nat → Prop) (k : Int) (w : World) (hl : Rls w ok lv l) (hmax : l.length ≤ 1000000) :
    Calls Tryz.prog 148 #[lv, .int .i64 k] w fun e w' => e = .returned (.tuple #[.agg #[.int .i64 (ruleOf l k).t, .int .i64 (ruleOf l k).len, .int .i64 (ruleOf l k).min, .int .i64 (ruleOf l k).max, .string (ruleOf l k).s], .bool (findR l k).isSome]) ∧ Below w.heap.size w w' := by
  have hb0 : Below w.heap.size w ((w.alloc (.cells #[.int .i64 k] 3 (0, 0))).alloc (.cells #[.int .i64 0, .int .i64 0, .int .i64 0, .int .i64 0, .string ⟨#[]⟩] 64 (0, 0))) :=
    ((Below.refl _ _).alloc (Nat.le_refl _) _).alloc (by rw [alloc1]; omega) _
  have hl0 := hl.below hb0
  obtain ⟨sa, c, rfl, hc, hm⟩ := hl.form
  have HI := Lib.hid (idxR_any l _ ok 219 #[.pointer (some ⟨w.heap.size, 0, none⟩)] (fun o => o.t == k) _ hl0 hmax (enters_of Tryz.func219 (by kernel_rfl) rfl) (fun W o _ hb => by
    refine (findR1 o k w.heap.size W (cellOf ((hb.block _ (by rw [alloc2]; omega)).trans (at20 _ _ _)) 0 _ rfl)).mono ?_
    rintro e w' ⟨rfl, hb'⟩
    exact ⟨rfl, hb.trans (hb'.mono hb.size)⟩))
  have HL := Lib.hid hl
  obtain ⟨len, hln⟩ : ∃ len, len = l.length := ⟨_, rfl⟩
  have HLN := Lib.hid hln
  have HB0 := Lib.hid hb0
  have HX := Lib.hid (at21 w (.cells #[.int .i64 k] 3 (0, 0)) (.cells #[.int .i64 0, .int .i64 0, .int .i64 0, .int .i64 0, .string ⟨#[]⟩] 64 (0, 0)))
  rw [← hln] at hc hmax HI
  unfold maxLen at hm
  clear hl hl0 hb0
  rcases findIdx_cases (fun o : Rl => o.t == k) l with ⟨h1, h2⟩ | ⟨i, hi, h1, h2⟩
  · rw [h1] at HI
    have HF := Lib.hid (show findR l k = none from h2)
    have HG := Lib.hid (show ruleOf l k = ⟨0, 0, 0, 0, ⟨#[]⟩⟩ by unfold ruleOf; rw [show findR l k = none from h2]; rfl)
    rw [← hln]
    rw [HG.out, HF.out]
    clear h1 h2 hln
    go_enter Tryz.func148, Tryz.ntmps148
    go_wp2_with fail
    refine HI.out.mono ?_
    rintro e w' ⟨rfl, hb⟩
    have hx := (hb.block (w.heap.size + 1) (by rw [alloc2]; omega)).trans HX.out
    have x0 : w'.cell? ⟨w.heap.size + 1, 0, none⟩ = some _ := cellOf hx 0 _ rfl
    have x1 : w'.cell? ⟨w.heap.size + 1, 1, none⟩ = some _ := cellOf hx 1 _ rfl
    have x2 : w'.cell? ⟨w.heap.size + 1, 2, none⟩ = some _ := cellOf hx 2 _ rfl
    have x3 : w'.cell? ⟨w.heap.size + 1, 3, none⟩ = some _ := cellOf hx 3 _ rfl
    have x4 : w'.cell? ⟨w.heap.size + 1, 4, none⟩ = some _ := cellOf hx 4 _ rfl
    have y0 := fzOf hx 0
    have y1 := fzOf hx 1
    have y2 := fzOf hx 2
    have y3 := fzOf hx 3
    have y4 := fzOf hx 4
    have HB := Lib.hid (HB0.out.trans (hb.mono (by rw [alloc2]; omega)))
    have HX5 := Lib.hid hx
    clear hb hx
    go_wp2_with fail
    have hF := set5 HX5.out (.int .i64 0) (.int .i64 0) (.int .i64 0) (.int .i64 0) (.string ⟨#[]⟩)
    have hBF := below5 HB.out (Nat.le_succ w.heap.size) (b := w.heap.size + 1) (.int .i64 0) (.int .i64 0) (.int .i64 0) (.int .i64 0) (.string ⟨#[]⟩)
    generalize (((((w'.setCell ⟨w.heap.size + 1, 0, none⟩ (.int .i64 0)).setCell ⟨w.heap.size + 1, 1, none⟩ (.int .i64 0)).setCell ⟨w.heap.size + 1, 2, none⟩ (.int .i64 0)).setCell ⟨w.heap.size + 1, 3, none⟩ (.int .i64 0)).setCell ⟨w.heap.size + 1, 4, none⟩ (.string ⟨#[]⟩)) = WF at *
    have z0 : WF.cell? ⟨w.heap.size + 1, 0, none⟩ = some (.int .i64 0) := cellOf hF 0 _ rfl
    have z1 : WF.cell? ⟨w.heap.size + 1, 1, none⟩ = some (.int .i64 0) := cellOf hF 1 _ rfl
    have z2 : WF.cell? ⟨w.heap.size + 1, 2, none⟩ = some (.int .i64 0) := cellOf hF 2 _ rfl
    have z3 : WF.cell? ⟨w.heap.size + 1, 3, none⟩ = some (.int .i64 0) := cellOf hF 3 _ rfl
    have z4 : WF.cell? ⟨w.heap.size + 1, 4, none⟩ = some (.string ⟨#[]⟩) := cellOf hF 4 _ rfl
    exact bodyPost_ret (v := .tuple #[.agg #[(.int .i64 0), (.int .i64 0), (.int .i64 0), (.int .i64 0), (.string ⟨#[]⟩)], .bool false]) (by simp [results, Tryz.results148, go_sem, z0, z1, z2, z3, z4]) rfl ⟨rfl, hBF⟩
  · rw [h1] at HI
    obtain ⟨b, off, rfl, hb, -, -, -, -, c0, c1, c2, c3, c4⟩ := HL.out.at i hi
    have HF := Lib.hid (show findR l k = some l[i] from h2)
    have HG := Lib.hid (show ruleOf l k = l[i] by unfold ruleOf; rw [show findR l k = some l[i] from h2]; rfl)
    rw [← hln]
    rw [HG.out, HF.out]
    have hil : (i : Int) < (len : Int) := by omega
    have hi0 : (0 : Int) ≤ (i : Int) := by omega
    clear h1 h2 HG HF hln
    generalize l[i] = o at *
    obtain ⟨t, ln, mn, mx, sg⟩ := o
    simp only at c0 c1 c2 c3 c4 ⊢
    go_enter Tryz.func148, Tryz.ntmps148
    go_wp2_with fail
    refine HI.out.mono ?_
    rintro e w' ⟨rfl, hbl⟩
    have hx := (hbl.block (w.heap.size + 1) (by rw [alloc2]; omega)).trans HX.out
    have x0 : w'.cell? ⟨w.heap.size + 1, 0, none⟩ = some _ := cellOf hx 0 _ rfl
    have x1 : w'.cell? ⟨w.heap.size + 1, 1, none⟩ = some _ := cellOf hx 1 _ rfl
    have x2 : w'.cell? ⟨w.heap.size + 1, 2, none⟩ = some _ := cellOf hx 2 _ rfl
    have x3 : w'.cell? ⟨w.heap.size + 1, 3, none⟩ = some _ := cellOf hx 3 _ rfl
    have x4 : w'.cell? ⟨w.heap.size + 1, 4, none⟩ = some _ := cellOf hx 4 _ rfl
    have y0 := fzOf hx 0
    have y1 := fzOf hx 1
    have y2 := fzOf hx 2
    have y3 := fzOf hx 3
    have y4 := fzOf hx 4
    have HB := Lib.hid (HB0.out.trans (hbl.mono (by rw [alloc2]; omega)))
    have d0 : w'.cell? ⟨b, off + i * 5, none⟩ = some (.int .i64 t) := (HB.out.cell (p := ⟨b, off + i * 5, none⟩) hb).trans c0
    have d1 : w'.cell? ⟨b, off + i * 5 + 1, none⟩ = some (.int .i64 ln) := (HB.out.cell (p := ⟨b, off + i * 5 + 1, none⟩) hb).trans c1
    have d2 : w'.cell? ⟨b, off + i * 5 + 2, none⟩ = some (.int .i64 mn) := (HB.out.cell (p := ⟨b, off + i * 5 + 2, none⟩) hb).trans c2
    have d3 : w'.cell? ⟨b, off + i * 5 + 3, none⟩ = some (.int .i64 mx) := (HB.out.cell (p := ⟨b, off + i * 5 + 3, none⟩) hb).trans c3
    have d4 : w'.cell? ⟨b, off + i * 5 + 4, none⟩ = some (.string sg) := (HB.out.cell (p := ⟨b, off + i * 5 + 4, none⟩) hb).trans c4
    clear c0 c1 c2 c3 c4
    have HX5 := Lib.hid hx
    clear hbl hx
    go_wp2_with fail
    have hF := set5 HX5.out (.int .i64 t) (.int .i64 ln) (.int .i64 mn) (.int .i64 mx) (.string sg)
    have hBF := below5 HB.out (Nat.le_succ w.heap.size) (b := w.heap.size + 1) (.int .i64 t) (.int .i64 ln) (.int .i64 mn) (.int .i64 mx) (.string sg)
    generalize (((((w'.setCell ⟨w.heap.size + 1, 0, none⟩ (.int .i64 t)).setCell ⟨w.heap.size + 1, 1, none⟩ (.int .i64 ln)).setCell ⟨w.heap.size + 1, 2, none⟩ (.int .i64 mn)).setCell ⟨w.heap.size + 1, 3, none⟩ (.int .i64 mx)).setCell ⟨w.heap.size + 1, 4, none⟩ (.string sg)) = WF at *
    have z0 : WF.cell? ⟨w.heap.size + 1, 0, none⟩ = some (.int .i64 t) := cellOf hF 0 _ rfl
    have z1 : WF.cell? ⟨w.heap.size + 1, 1, none⟩ = some (.int .i64 ln) := cellOf hF 1 _ rfl
    have z2 : WF.cell? ⟨w.heap.size + 1, 2, none⟩ = some (.int .i64 mn) := cellOf hF 2 _ rfl
    have z3 : WF.cell? ⟨w.heap.size + 1, 3, none⟩ = some (.int .i64 mx) := cellOf hF 3 _ rfl
    have z4 : WF.cell? ⟨w.heap.size + 1, 4, none⟩ = some (.string sg) := cellOf hF 4 _ rfl
    exact bodyPost_ret (v := .tuple #[.agg #[(.int .i64 t), (.int .i64 ln), (.int .i64 mn), (.int .i64 mx), (.string sg)], .bool true]) (by simp [results, Tryz.results148, go_sem, z0, z1, z2, z3, z4]) rfl ⟨rfl, hBF⟩
end Go.Proofs.YtignponfoheaeaaGreat
