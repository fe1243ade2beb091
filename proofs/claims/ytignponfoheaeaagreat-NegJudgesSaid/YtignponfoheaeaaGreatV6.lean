import Derived.Test.YtignponfoheaeaaGreatV5
import Derived.Lib.QuietBelow
namespace Go.Proofs.YtignponfoheaeaaGreat
open Go.RowKit Go.Tg Go.Maps

def Rl.val (r : Rl) : Value := .agg #[.int .i64 r.t, .int .i64 r.len, .int .i64 r.min, .int .i64 r.max, .string r.s]

set_option maxHeartbeats 4000000 in
set_option maxRecDepth 100000 in
/-- The judge's has. -/
theorem hasK_any (l : List Rl) (lv : Value) (ok : Nat → Prop) (k : Int) (rb : Nat) (w : World) (hl : Rls w ok lv l) (hmax : l.length ≤ 1000000) (hr : w.cell? ⟨rb, 0, none⟩ = some lv) :
    Calls Tryz.prog 150 #[.int .i64 k, .pointer (some ⟨rb, 0, none⟩)] w fun e w' => e = .returned (.bool (findR l k).isSome) ∧ Below w.heap.size w w' := by
  have HF := Lib.hid (findR_any l lv ok k w hl hmax)
  generalize ruleOf l k = r at HF
  obtain ⟨t, ln, mn, mx, sg⟩ := r
  simp only at HF
  obtain ⟨sa, c, rfl, hc, hm⟩ := hl.form
  clear hl
  generalize (findR l k).isSome = bb at HF
  go_enter Tryz.func150, Tryz.ntmps150
  go_wp2_with fail
  refine HF.out.mono ?_
  rintro e w' ⟨rfl, hb⟩
  go_wp2_with fail
  go_ret
  exact ⟨rfl, hb.alloc hb.size _⟩

set_option maxHeartbeats 4000000 in
set_option maxRecDepth 100000 in
/-- The judge's of. -/
theorem of_any (l : List Rl) (lv : Value) (ok : Nat → Prop) (k : Int) (rb : Nat) (w : World) (hl : Rls w ok lv l) (hmax : l.length ≤ 1000000) (hr : w.cell? ⟨rb, 0, none⟩ = some lv) (hrb : rb < w.heap.size) :
    Calls Tryz.prog 147 #[.int .i64 k, .pointer (some ⟨rb, 0, none⟩)] w fun e w' => e = .returned (ruleOf l k).val ∧ Below w.heap.size w w' := by
  have hb0 : Below w.heap.size w (w.alloc (.cells #[.int .i64 0, .int .i64 0, .int .i64 0, .int .i64 0, .string ⟨#[]⟩] 64 (0, 0))) := (Below.refl _ _).alloc (Nat.le_refl _) _
  have HF := Lib.hid (findR_any l lv ok k _ (hl.below hb0) hmax)
  have hr' := (hb0.cell (p := ⟨rb, 0, none⟩) hrb).trans hr
  unfold Rl.val
  generalize ruleOf l k = r at HF
  obtain ⟨t, ln, mn, mx, sg⟩ := r
  simp only at HF
  obtain ⟨sa, c, rfl, hc, hm⟩ := hl.form
  generalize (findR l k).isSome = bb at HF
  have HX := Lib.hid (at1 w (.cells #[.int .i64 0, .int .i64 0, .int .i64 0, .int .i64 0, .string ⟨#[]⟩] 64 (0, 0)))
  have HB0 := Lib.hid hb0
  clear hl hb0 hr
  go_enter Tryz.func147, Tryz.ntmps147
  go_wp2_with fail
  refine HF.out.mono ?_
  rintro e w' ⟨rfl, hb⟩
  have hx := (hb.block (w.heap.size) (by rw [alloc1]; omega)).trans HX.out
  have HB := Lib.hid (HB0.out.trans (hb.mono (by rw [alloc1]; omega)))
  have x0 : w'.cell? ⟨w.heap.size, 0, none⟩ = some _ := cellOf hx 0 _ rfl
  have x1 : w'.cell? ⟨w.heap.size, 1, none⟩ = some _ := cellOf hx 1 _ rfl
  have x2 : w'.cell? ⟨w.heap.size, 2, none⟩ = some _ := cellOf hx 2 _ rfl
  have x3 : w'.cell? ⟨w.heap.size, 3, none⟩ = some _ := cellOf hx 3 _ rfl
  have x4 : w'.cell? ⟨w.heap.size, 4, none⟩ = some _ := cellOf hx 4 _ rfl
  have y0 := fzOf hx 0
  have y1 := fzOf hx 1
  have y2 := fzOf hx 2
  have y3 := fzOf hx 3
  have y4 := fzOf hx 4
  have hxa := (Below.heap_alloc w' (.cells #[.int .i64 t, .int .i64 ln, .int .i64 mn, .int .i64 mx, .string sg] 64 (0, 0)) _ (Array.getElem?_eq_some_iff.1 hx).1).trans hx
  have u0 : (w'.alloc (.cells #[.int .i64 t, .int .i64 ln, .int .i64 mn, .int .i64 mx, .string sg] 64 (0, 0))).cell? ⟨w.heap.size, 0, none⟩ = some (.int .i64 0) := cellOf hxa 0 _ rfl
  have v0 : (w'.alloc (.cells #[.int .i64 t, .int .i64 ln, .int .i64 mn, .int .i64 mx, .string sg] 64 (0, 0))).frozen? ⟨w.heap.size, 0, none⟩ = false := fzOf hxa 0
  have u1 : (w'.alloc (.cells #[.int .i64 t, .int .i64 ln, .int .i64 mn, .int .i64 mx, .string sg] 64 (0, 0))).cell? ⟨w.heap.size, 1, none⟩ = some (.int .i64 0) := cellOf hxa 1 _ rfl
  have v1 : (w'.alloc (.cells #[.int .i64 t, .int .i64 ln, .int .i64 mn, .int .i64 mx, .string sg] 64 (0, 0))).frozen? ⟨w.heap.size, 1, none⟩ = false := fzOf hxa 1
  have u2 : (w'.alloc (.cells #[.int .i64 t, .int .i64 ln, .int .i64 mn, .int .i64 mx, .string sg] 64 (0, 0))).cell? ⟨w.heap.size, 2, none⟩ = some (.int .i64 0) := cellOf hxa 2 _ rfl
  have v2 : (w'.alloc (.cells #[.int .i64 t, .int .i64 ln, .int .i64 mn, .int .i64 mx, .string sg] 64 (0, 0))).frozen? ⟨w.heap.size, 2, none⟩ = false := fzOf hxa 2
  have u3 : (w'.alloc (.cells #[.int .i64 t, .int .i64 ln, .int .i64 mn, .int .i64 mx, .string sg] 64 (0, 0))).cell? ⟨w.heap.size, 3, none⟩ = some (.int .i64 0) := cellOf hxa 3 _ rfl
  have v3 : (w'.alloc (.cells #[.int .i64 t, .int .i64 ln, .int .i64 mn, .int .i64 mx, .string sg] 64 (0, 0))).frozen? ⟨w.heap.size, 3, none⟩ = false := fzOf hxa 3
  have u4 : (w'.alloc (.cells #[.int .i64 t, .int .i64 ln, .int .i64 mn, .int .i64 mx, .string sg] 64 (0, 0))).cell? ⟨w.heap.size, 4, none⟩ = some (.string ⟨#[]⟩) := cellOf hxa 4 _ rfl
  have v4 : (w'.alloc (.cells #[.int .i64 t, .int .i64 ln, .int .i64 mn, .int .i64 mx, .string sg] 64 (0, 0))).frozen? ⟨w.heap.size, 4, none⟩ = false := fzOf hxa 4
  have HX2 := Lib.hid hxa
  clear hb hx hxa
  go_wp2_with fail
  have hF2 := set5 HX2.out (.int .i64 t) (.int .i64 ln) (.int .i64 mn) (.int .i64 mx) (.string sg)
  have hG := below5 (HB.out.alloc HB.out.size (.cells #[.int .i64 t, .int .i64 ln, .int .i64 mn, .int .i64 mx, .string sg] 64 (0, 0))) (Nat.le_refl w.heap.size) (b := w.heap.size) (.int .i64 t) (.int .i64 ln) (.int .i64 mn) (.int .i64 mx) (.string sg)
  generalize (((((((w'.alloc (.cells #[.int .i64 t, .int .i64 ln, .int .i64 mn, .int .i64 mx, .string sg] 64 (0, 0))).setCell ⟨w.heap.size, 0, none⟩ (.int .i64 t)).setCell ⟨w.heap.size, 1, none⟩ (.int .i64 ln)).setCell ⟨w.heap.size, 2, none⟩ (.int .i64 mn)).setCell ⟨w.heap.size, 3, none⟩ (.int .i64 mx)).setCell ⟨w.heap.size, 4, none⟩ (.string sg))) = WF at *
  have z0 : WF.cell? ⟨w.heap.size, 0, none⟩ = some (.int .i64 t) := cellOf hF2 0 _ rfl
  have z1 : WF.cell? ⟨w.heap.size, 1, none⟩ = some (.int .i64 ln) := cellOf hF2 1 _ rfl
  have z2 : WF.cell? ⟨w.heap.size, 2, none⟩ = some (.int .i64 mn) := cellOf hF2 2 _ rfl
  have z3 : WF.cell? ⟨w.heap.size, 3, none⟩ = some (.int .i64 mx) := cellOf hF2 3 _ rfl
  have z4 : WF.cell? ⟨w.heap.size, 4, none⟩ = some (.string sg) := cellOf hF2 4 _ rfl
  exact bodyPost_ret (v := .agg #[(.int .i64 t), (.int .i64 ln), (.int .i64 mn), (.int .i64 mx), (.string sg)]) (by simp [results, Tryz.results147, go_sem, z0, z1, z2, z3, z4]) rfl ⟨rfl, hG⟩

set_option maxHeartbeats 4000000 in
set_option maxRecDepth 100000 in
/-- The judge's instead. -/
theorem instead_any (l : List Rl) (lv : Value) (ok : Nat → Prop) (k : Int) (rb ob : Nat) (w : World) (hl : Rls w ok lv l) (hmax : l.length ≤ 1000000) (hr : w.cell? ⟨rb, 0, none⟩ = some lv) (hrb : rb < w.heap.size)
    (ho : w.cell? ⟨ob, 0, none⟩ = some (.func (.func 147) #[] #[.pointer (some ⟨rb, 0, none⟩)])) :
    Calls Tryz.prog 152 #[.int .i64 k, .pointer (some ⟨ob, 0, none⟩)] w fun e w' => e = .returned (.string (ruleOf l k).s) ∧ Below w.heap.size w w' := by
  have HO := Lib.hid (of_any l lv ok k rb w hl hmax hr hrb)
  generalize ruleOf l k = r at HO
  obtain ⟨t, ln, mn, mx, sg⟩ := r
  simp only [Rl.val] at HO ⊢
  have hfld : ∀ w, (Instr.field 64 (.agg #[.int .i64 t, .int .i64 ln, .int .i64 mn, .int .i64 mx, .string sg]) 4).run Tryz.prog w = .ok (.string sg) w := fun _ => rfl
  clear hl hr
  go_enter Tryz.func152, Tryz.ntmps152
  go_wp2_with fail
  refine HO.out.mono ?_
  rintro e w' ⟨rfl, hb⟩
  go_wp2_with fail
  go_ret
  exact ⟨rfl, hb⟩


set_option maxHeartbeats 4000000 in
set_option maxRecDepth 100000 in
/-- The judge's fits. -/
theorem fits3_any (l : List Rl) (lv : Value) (ok : Nat → Prop) (o : Opt) (rb ob : Nat) (w : World) (hl : Rls w ok lv l) (hmax : l.length ≤ 1000000) (hr : w.cell? ⟨rb, 0, none⟩ = some lv) (hrb : rb < w.heap.size)
    (ho : w.cell? ⟨ob, 0, none⟩ = some (.func (.func 147) #[] #[.pointer (some ⟨rb, 0, none⟩)])) (hob : ob < w.heap.size) (hv : o.v.size ≤ 100000) :
    Calls Tryz.prog 151 #[.agg #[.int .i64 o.t, .string o.v], .pointer (some ⟨ob, 0, none⟩)] w fun e w' => e = .returned (.bool (fitsR (ruleOf l o.t) o.v)) ∧ Below w.heap.size w w' := by
  obtain ⟨t, v⟩ := o
  simp only at hv ⊢
  have hb0 : Below w.heap.size w (w.alloc (.cells #[.int .i64 t, .string v] 91 (0, 0))) := (Below.refl _ _).alloc (Nat.le_refl _) _
  have hx := at1 w (.cells #[.int .i64 t, .string v] 91 (0, 0))
  have x0 := cell_regrown (cellOf hx 0 _ rfl)
  have x1 := cell_regrown (cellOf hx 1 _ rfl)
  have x2 := cell_regrown ((hb0.cell (p := ⟨ob, 0, none⟩) hob).trans ho)
  have HO := Lib.hid (fun d os => of_any l lv ok t rb _ (hl.below (hb0.trans ((below_regrown _ d os).mono (by rw [alloc1]; omega)))) hmax ((((below_regrown _ d os).cell (p := ⟨rb, 0, none⟩) (by show rb < _; rw [alloc1]; omega)).trans (hb0.cell (p := ⟨rb, 0, none⟩) hrb)).trans hr) (Nat.lt_of_lt_of_le hrb (hb0.trans ((below_regrown _ d os).mono (by rw [alloc1]; omega))).size))
  generalize ruleOf l t = r at HO ⊢
  have HF := Lib.hid (fun w => fits_any r v w hv)
  obtain ⟨rt, ln, mn, mx, sg⟩ := r
  simp only [Rl.val] at HO HF ⊢
  have HB0 := Lib.hid hb0
  clear hl hr hb0 hx ho
  go_enter Tryz.func151, Tryz.ntmps151
  go_wp2_with fail
  refine wp_region_quiet_below (by kernel_rfl) (by kernel_rfl) ?_
  repeat (quiet_step (first | (go_at_call 147; exact Calls.regrown_of (HO.out _ _)) | (go_at_call 31; exact Calls.regrown_of (HF.out _))))
  refine wpQuiet_nil ?_
  rintro _ ⟨⟨nq, osq⟩, rfl⟩
  have HB := Lib.hid (HB0.out.trans ((below_regrown _ nq osq).mono (by rw [alloc1]; omega)))
  go_wp2_with fail
  go_ret
  exact ⟨rfl, HB.out⟩
end Go.Proofs.YtignponfoheaeaaGreat
