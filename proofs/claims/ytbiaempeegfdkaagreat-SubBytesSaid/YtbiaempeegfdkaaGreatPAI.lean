import Derived.Test.YtbiaempeegfdkaaGreatPAH
import Derived.Deep.RegionHeld3
import Derived.Deep.RegionLaw
set_option linter.unusedVariables false
set_option linter.unusedSimpArgs false
set_option maxHeartbeats 16000000
namespace Go.Proofs.YtbiaempeegfdkaaGreat
open Go.RowKit Go.Tg Go.Maps
theorem alloc2 (w : World) (A B : Obj) : ((w.alloc A).alloc B).heap.size = w.heap.size + 2 := by show (Array.push (Array.push _ _) _).size = _; rw [Array.size_push, Array.size_push]
theorem alloc1 (w : World) (A : Obj) : (w.alloc A).heap.size = w.heap.size + 1 := Array.size_push _
theorem at1 (w : World) (A : Obj) : (w.alloc A).heap[w.heap.size]? = some A := by show (Array.push _ _)[_]? = _; rw [Array.getElem?_push, if_pos rfl]
theorem at20 (w : World) (A B : Obj) : ((w.alloc A).alloc B).heap[w.heap.size]? = some A := by
 rw [Below.heap_alloc _ _ _ (by rw [alloc1]; omega)]; exact at1 w A
theorem at21 (w : World) (A B : Obj) : ((w.alloc A).alloc B).heap[w.heap.size + 1]? = some B := by
 show (Array.push (Array.push _ _) _)[_]? = _; rw [Array.getElem?_push, if_pos (Array.size_push _).symm]
theorem cellOf {w : World} {k : Nat} {cs : Array Value} {T : TypeId} {fz : Nat × Nat} (h : w.heap[k]? = some (.cells cs T fz)) (o : Nat) (v : Value) (hv : cs[o]? = some v) : w.cell? ⟨k, o, none⟩ = some v := by
 simp only [World.cell?, h]
 simpa using hv
theorem findIdx_cases {α : Type} (p : α -> Bool) (l : List α) : (idxP p l = -1 /\ l.find? p = none) \/ ∃ (i : Nat) (h : i < l.length), idxP p l = (i : Int) /\ l.find? p = some l[i] := by
 unfold idxP
 cases hi : l.findIdx? p with
 | none =>
  left
  refine ⟨rfl, ?_⟩; rw [List.find?_eq_none]; intro x hx; rw [List.findIdx?_eq_none_iff] at hi
  simpa using hi x hx
 | some i =>
  right
  rw [List.findIdx?_eq_some_iff_getElem] at hi; obtain ⟨h, h1, h2⟩ := hi; refine ⟨i, h, rfl, ?_⟩; rw [List.find?_eq_some_iff_getElem]; exact ⟨h1, i, h, rfl, fun j hj => by simpa using h2 j hj⟩
theorem findR1 (r : Rl) (k : Int) (kb : Nat) (w : World) (hk : w.cell? ⟨kb, 0, none⟩ = some (.int .i64 k)) :
 Calls Tryz.prog 177 #[.agg #[.int .i64 r.t, .int .i64 r.len, .int .i64 r.min, .int .i64 r.max, .string r.s], .pointer (some ⟨kb, 0, none⟩)] w fun e w' => e = .returned (.bool (r.t == k)) /\ Below w.heap.size w w' := by
 obtain ⟨t, ln, mn, mx, sg⟩ := r; have hk' : (w.alloc (.cells #[.int .i64 t, .int .i64 ln, .int .i64 mn, .int .i64 mx, .string sg] 136 (0, 0))).cell? ⟨kb, 0, none⟩ = some (.int .i64 k) := by go_keep
 clear hk; go_enter Tryz.func177, Tryz.ntmps177; go_wp2_with fail; go_ret; exact ⟨rfl, (Below.refl _ _).alloc (Nat.le_refl _) _⟩
theorem findO1 (o : Opt) (k : Int) (kb : Nat) (w : World) (hk : w.cell? ⟨kb, 0, none⟩ = some (.int .i64 k)) :
 Calls Tryz.prog 97 #[.agg #[.int .i64 o.t, .string o.v], .pointer (some ⟨kb, 0, none⟩)] w fun e w' => e = .returned (.bool (o.t == k)) /\ Below w.heap.size w w' := by
 obtain ⟨t, v⟩ := o; have hk' : (w.alloc (.cells #[.int .i64 t, .string v] 132 (0, 0))).cell? ⟨kb, 0, none⟩ = some (.int .i64 k) := by go_keep
 clear hk; go_enter Tryz.func97, Tryz.ntmps97; go_wp2_with fail; go_ret; exact ⟨rfl, (Below.refl _ _).alloc (Nat.le_refl _) _⟩
set_option maxRecDepth 100000 in
theorem findO_any (l : List Opt) (lv : Value) (ok : Nat -> Prop) (k : Int) (w : World) (hl : Opts w ok lv l) (hmax : l.length <= 1000000) :
 Calls Tryz.prog 53 #[lv, .int .i64 k] w fun e w' => e = .returned (.tuple #[.string ((findO l k).getD default).v, .bool (findO l k).isSome]) /\ Below w.heap.size w w' := by
 have hl0 := hl.below ((Below.refl _ _).alloc (Nat.le_refl _) (.cells #[.int .i64 k] 3 (0, 0))); obtain ⟨sa, c, rfl, hc, hm⟩ := hl.form
 have HI := H_ (idxO_any l _ ok 97 #[.pointer (some ⟨w.heap.size, 0, none⟩)] (fun o => o.t == k) _ hl0 hmax (enters_of Tryz.func97 (by kernel_rfl) rfl) (fun W o _ hb => by
  refine (findO1 o k w.heap.size W (cellOf ((hb.block _ (by rw [alloc1]; omega)).trans (at1 _ _)) 0 _ rfl)).mono ?_; rintro e w' ⟨rfl, hb'⟩
  exact ⟨rfl, hb.trans (hb'.mono hb.size)⟩))
 have HL := H_ hl; obtain ⟨len, hln⟩ : ∃ len, len = l.length := ⟨_, rfl⟩; have HLN := H_ hln; have HB0 := H_ ((Below.refl w.heap.size w).alloc (Nat.le_refl _) (.cells #[.int .i64 k] 3 (0, 0))); rw [<- hln] at hc hmax HI ⊢; unfold maxLen at hm; clear hl hl0 hln
 rcases findIdx_cases (fun o : Opt => o.t == k) l with ⟨h1, h2⟩ | ⟨i, hi, h1, h2⟩
 . rw [h1] at HI; have HF := H_ (show findO l k = none from h2); clear h1 h2; go_enter Tryz.func53, Tryz.ntmps53; go_wp2_with fail; refine HI.out.mono ?_; rintro e w' ⟨rfl, hb⟩; have HB := H_ (HB0.out.trans (hb.mono (by rw [alloc1]; omega))); clear hb; go_wp2_with fail; go_ret2; exact ⟨by rw [HF.out]; rfl, HB.out⟩
 . rw [h1] at HI; have HF := H_ (show findO l k = some l[i] from h2); obtain ⟨b, off, rfl, hb, -, -, -, -, c0, c1⟩ := HL.out.at i hi; have hil : (i : Int) < (len : Int) := by have := HLN.out; omega
   have hi0 : (0 : Int) <= (i : Int) := by omega
   clear h1 h2; generalize l[i] = o at *; obtain ⟨t, v⟩ := o; simp only at c0 c1
   go_enter Tryz.func53, Tryz.ntmps53; go_wp2_with fail; refine HI.out.mono ?_; rintro e w' ⟨rfl, hbl⟩; have HB := H_ (HB0.out.trans (hbl.mono (by rw [alloc1]; omega))); have d1 : w'.cell? ⟨b, off + i * 2 + 1, none⟩ = some (.string v) := (HB.out.cell (p := ⟨b, off + i * 2 + 1, none⟩) hb).trans c1; clear hbl c0 c1; go_wp2_with fail; go_ret2; exact ⟨by rw [HF.out]; rfl, HB.out⟩
theorem fzOf {w : World} {k : Nat} {cs : Array Value} {T : TypeId} (h : w.heap[k]? = some (.cells cs T (0, 0))) (o : Nat) : w.frozen? ⟨k, o, none⟩ = false := by simp [World.frozen?, h]
theorem set5 {w : World} {b : Nat} {T : TypeId} {a0 a1 a2 a3 a4 : Value} (h : w.heap[b]? = some (.cells #[a0, a1, a2, a3, a4] T (0, 0))) (v0 v1 v2 v3 v4 : Value) :
 (((((w.setCell ⟨b, 0, none⟩ v0).setCell ⟨b, 1, none⟩ v1).setCell ⟨b, 2, none⟩ v2).setCell ⟨b, 3, none⟩ v3).setCell ⟨b, 4, none⟩ v4).heap[b]? = some (.cells #[v0, v1, v2, v3, v4] T (0, 0)) :=
 set_block (set_block (set_block (set_block (set_block h 0 v0) 1 v1) 2 v2) 3 v3) 4 v4
theorem below5 {B : Nat} {w0 w : World} {b : Nat} (h : Below B w0 w) (hb : B <= b) (v0 v1 v2 v3 v4 : Value) :
 Below B w0 (((((w.setCell ⟨b, 0, none⟩ v0).setCell ⟨b, 1, none⟩ v1).setCell ⟨b, 2, none⟩ v2).setCell ⟨b, 3, none⟩ v3).setCell ⟨b, 4, none⟩ v4) :=
 ((((h.setCell hb v0).setCell hb v1).setCell hb v2).setCell hb v3).setCell hb v4
set_option maxRecDepth 100000 in
theorem findR_any (l : List Rl) (lv : Value) (ok : Nat -> Prop) (k : Int) (w : World) (hl : Rls w ok lv l) (hmax : l.length <= 1000000) :
 Calls Tryz.prog 160 #[lv, .int .i64 k] w fun e w' => e = .returned (.tuple #[.agg #[.int .i64 (ruleOf l k).t, .int .i64 (ruleOf l k).len, .int .i64 (ruleOf l k).min, .int .i64 (ruleOf l k).max, .string (ruleOf l k).s], .bool (findR l k).isSome]) /\ Below w.heap.size w w' := by
 have hb0 : Below w.heap.size w ((w.alloc (.cells #[.int .i64 k] 3 (0, 0))).alloc (.cells #[.int .i64 0, .int .i64 0, .int .i64 0, .int .i64 0, .string ⟨#[]⟩] 136 (0, 0))) :=
  ((Below.refl _ _).alloc (Nat.le_refl _) _).alloc (by rw [alloc1]; omega) _
 have hl0 := hl.below hb0; obtain ⟨sa, c, rfl, hc, hm⟩ := hl.form
 have HI := H_ (idxR_any l _ ok 177 #[.pointer (some ⟨w.heap.size, 0, none⟩)] (fun o => o.t == k) _ hl0 hmax (enters_of Tryz.func177 (by kernel_rfl) rfl) (fun W o _ hb => by
  refine (findR1 o k w.heap.size W (cellOf ((hb.block _ (by rw [alloc2]; omega)).trans (at20 _ _ _)) 0 _ rfl)).mono ?_; rintro e w' ⟨rfl, hb'⟩
  exact ⟨rfl, hb.trans (hb'.mono hb.size)⟩))
 have HL := H_ hl; obtain ⟨len, hln⟩ : ∃ len, len = l.length := ⟨_, rfl⟩; have HLN := H_ hln; have HB0 := H_ hb0; have HX := H_ (at21 w (.cells #[.int .i64 k] 3 (0, 0)) (.cells #[.int .i64 0, .int .i64 0, .int .i64 0, .int .i64 0, .string ⟨#[]⟩] 136 (0, 0))); rw [<- hln] at hc hmax HI; unfold maxLen at hm; clear hl hl0 hb0
 rcases findIdx_cases (fun o : Rl => o.t == k) l with ⟨h1, h2⟩ | ⟨i, hi, h1, h2⟩
 . rw [h1] at HI; have HF := H_ (show findR l k = none from h2); have HG := H_ (show ruleOf l k = ⟨0, 0, 0, 0, ⟨#[]⟩⟩ by unfold ruleOf; rw [show findR l k = none from h2]; rfl); rw [<- hln]; rw [HG.out, HF.out]; clear h1 h2 hln; go_enter Tryz.func160, Tryz.ntmps160; go_wp2_with fail; refine HI.out.mono ?_; rintro e w' ⟨rfl, hb⟩; have hx := (hb.block (w.heap.size + 1) (by rw [alloc2]; omega)).trans HX.out; have x0 : w'.cell? ⟨w.heap.size + 1, 0, none⟩ = some _ := cellOf hx 0 _ rfl; have x1 : w'.cell? ⟨w.heap.size + 1, 1, none⟩ = some _ := cellOf hx 1 _ rfl; have x2 : w'.cell? ⟨w.heap.size + 1, 2, none⟩ = some _ := cellOf hx 2 _ rfl; have x3 : w'.cell? ⟨w.heap.size + 1, 3, none⟩ = some _ := cellOf hx 3 _ rfl; have x4 : w'.cell? ⟨w.heap.size + 1, 4, none⟩ = some _ := cellOf hx 4 _ rfl; have y0 := fzOf hx 0; have y1 := fzOf hx 1; have y2 := fzOf hx 2; have y3 := fzOf hx 3; have y4 := fzOf hx 4; have HB := H_ (HB0.out.trans (hb.mono (by rw [alloc2]; omega))); have HX5 := H_ hx; clear hb hx; go_wp2_with fail; have hF := set5 HX5.out (.int .i64 0) (.int .i64 0) (.int .i64 0) (.int .i64 0) (.string ⟨#[]⟩); have hBF := below5 HB.out (Nat.le_succ w.heap.size) (b := w.heap.size + 1) (.int .i64 0) (.int .i64 0) (.int .i64 0) (.int .i64 0) (.string ⟨#[]⟩); generalize (((((w'.setCell ⟨w.heap.size + 1, 0, none⟩ (.int .i64 0)).setCell ⟨w.heap.size + 1, 1, none⟩ (.int .i64 0)).setCell ⟨w.heap.size + 1, 2, none⟩ (.int .i64 0)).setCell ⟨w.heap.size + 1, 3, none⟩ (.int .i64 0)).setCell ⟨w.heap.size + 1, 4, none⟩ (.string ⟨#[]⟩)) = WF at *; have z0 : WF.cell? ⟨w.heap.size + 1, 0, none⟩ = some (.int .i64 0) := cellOf hF 0 _ rfl; have z1 : WF.cell? ⟨w.heap.size + 1, 1, none⟩ = some (.int .i64 0) := cellOf hF 1 _ rfl; have z2 : WF.cell? ⟨w.heap.size + 1, 2, none⟩ = some (.int .i64 0) := cellOf hF 2 _ rfl; have z3 : WF.cell? ⟨w.heap.size + 1, 3, none⟩ = some (.int .i64 0) := cellOf hF 3 _ rfl; have z4 : WF.cell? ⟨w.heap.size + 1, 4, none⟩ = some (.string ⟨#[]⟩) := cellOf hF 4 _ rfl; exact bodyPost_ret (v := .tuple #[.agg #[(.int .i64 0), (.int .i64 0), (.int .i64 0), (.int .i64 0), (.string ⟨#[]⟩)], .bool false]) (by simp [results, Tryz.results160, go_sem, z0, z1, z2, z3, z4]) rfl ⟨rfl, hBF⟩
 . rw [h1] at HI; obtain ⟨b, off, rfl, hb, -, -, -, -, c0, c1, c2, c3, c4⟩ := HL.out.at i hi; have HF := H_ (show findR l k = some l[i] from h2); have HG := H_ (show ruleOf l k = l[i] by unfold ruleOf; rw [show findR l k = some l[i] from h2]; rfl); rw [<- hln]; rw [HG.out, HF.out]; have hil : (i : Int) < (len : Int) := by omega
   have hi0 : (0 : Int) <= (i : Int) := by omega
   clear h1 h2 HG HF hln; generalize l[i] = o at *; obtain ⟨t, ln, mn, mx, sg⟩ := o; simp only at c0 c1 c2 c3 c4 ⊢
   go_enter Tryz.func160, Tryz.ntmps160; go_wp2_with fail; refine HI.out.mono ?_; rintro e w' ⟨rfl, hbl⟩; have hx := (hbl.block (w.heap.size + 1) (by rw [alloc2]; omega)).trans HX.out; have x0 : w'.cell? ⟨w.heap.size + 1, 0, none⟩ = some _ := cellOf hx 0 _ rfl; have x1 : w'.cell? ⟨w.heap.size + 1, 1, none⟩ = some _ := cellOf hx 1 _ rfl; have x2 : w'.cell? ⟨w.heap.size + 1, 2, none⟩ = some _ := cellOf hx 2 _ rfl; have x3 : w'.cell? ⟨w.heap.size + 1, 3, none⟩ = some _ := cellOf hx 3 _ rfl; have x4 : w'.cell? ⟨w.heap.size + 1, 4, none⟩ = some _ := cellOf hx 4 _ rfl; have y0 := fzOf hx 0; have y1 := fzOf hx 1; have y2 := fzOf hx 2; have y3 := fzOf hx 3; have y4 := fzOf hx 4; have HB := H_ (HB0.out.trans (hbl.mono (by rw [alloc2]; omega))); have d0 : w'.cell? ⟨b, off + i * 5, none⟩ = some (.int .i64 t) := (HB.out.cell (p := ⟨b, off + i * 5, none⟩) hb).trans c0; have d1 : w'.cell? ⟨b, off + i * 5 + 1, none⟩ = some (.int .i64 ln) := (HB.out.cell (p := ⟨b, off + i * 5 + 1, none⟩) hb).trans c1; have d2 : w'.cell? ⟨b, off + i * 5 + 2, none⟩ = some (.int .i64 mn) := (HB.out.cell (p := ⟨b, off + i * 5 + 2, none⟩) hb).trans c2; have d3 : w'.cell? ⟨b, off + i * 5 + 3, none⟩ = some (.int .i64 mx) := (HB.out.cell (p := ⟨b, off + i * 5 + 3, none⟩) hb).trans c3; have d4 : w'.cell? ⟨b, off + i * 5 + 4, none⟩ = some (.string sg) := (HB.out.cell (p := ⟨b, off + i * 5 + 4, none⟩) hb).trans c4; clear c0 c1 c2 c3 c4; have HX5 := H_ hx; clear hbl hx; go_wp2_with fail; have hF := set5 HX5.out (.int .i64 t) (.int .i64 ln) (.int .i64 mn) (.int .i64 mx) (.string sg); have hBF := below5 HB.out (Nat.le_succ w.heap.size) (b := w.heap.size + 1) (.int .i64 t) (.int .i64 ln) (.int .i64 mn) (.int .i64 mx) (.string sg); generalize (((((w'.setCell ⟨w.heap.size + 1, 0, none⟩ (.int .i64 t)).setCell ⟨w.heap.size + 1, 1, none⟩ (.int .i64 ln)).setCell ⟨w.heap.size + 1, 2, none⟩ (.int .i64 mn)).setCell ⟨w.heap.size + 1, 3, none⟩ (.int .i64 mx)).setCell ⟨w.heap.size + 1, 4, none⟩ (.string sg)) = WF at *; have z0 : WF.cell? ⟨w.heap.size + 1, 0, none⟩ = some (.int .i64 t) := cellOf hF 0 _ rfl; have z1 : WF.cell? ⟨w.heap.size + 1, 1, none⟩ = some (.int .i64 ln) := cellOf hF 1 _ rfl; have z2 : WF.cell? ⟨w.heap.size + 1, 2, none⟩ = some (.int .i64 mn) := cellOf hF 2 _ rfl; have z3 : WF.cell? ⟨w.heap.size + 1, 3, none⟩ = some (.int .i64 mx) := cellOf hF 3 _ rfl; have z4 : WF.cell? ⟨w.heap.size + 1, 4, none⟩ = some (.string sg) := cellOf hF 4 _ rfl; exact bodyPost_ret (v := .tuple #[.agg #[(.int .i64 t), (.int .i64 ln), (.int .i64 mn), (.int .i64 mx), (.string sg)], .bool true]) (by simp [results, Tryz.results160, go_sem, z0, z1, z2, z3, z4]) rfl ⟨rfl, hBF⟩
end Go.Proofs.YtbiaempeegfdkaaGreat
