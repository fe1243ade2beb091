import Derived.Test.YtoblffnlopmebaaGreatQAI
import Derived.Deep.RegionHeld3
import Derived.Deep.RegionLaw
set_option linter.unusedVariables false
set_option linter.unusedSimpArgs false
set_option maxHeartbeats 16000000
namespace Go.Proofs.YtoblffnlopmebaaGreat
open Go.RowKit Go.Tg Go.Maps
theorem alloc1 (w : World) (A : Obj) : (w.alloc A).heap.size = w.heap.size + 1 := Array.size_push _
theorem at1 (w : World) (A : Obj) : (w.alloc A).heap[w.heap.size]? = some A := by show (Array.push _ _)[_]? = _; rw [Array.getElem?_push, if_pos rfl]
theorem at20 (w : World) (A B : Obj) : ((w.alloc A).alloc B).heap[w.heap.size]? = some A := by
 rw [Below.heap_alloc _ _ _ (by rw [alloc1]; omega)]; exact at1 w A
theorem at21 (w : World) (A B : Obj) : ((w.alloc A).alloc B).heap[w.heap.size + 1]? = some B := by
 show (Array.push (Array.push _ _) _)[_]? = _; rw [Array.getElem?_push, if_pos (Array.size_push _).symm]
theorem cellOf {w : World} {k : Nat} {cs : Array Value} {T : TypeId} {fz : Nat × Nat} (h : w.heap[k]? = some (.cells cs T fz)) (o : Nat) (v : Value) (hv : cs[o]? = some v) : w.cell? ⟨k, o, none⟩ = some v := by
 simp only [World.cell?, h]
 simpa using hv
theorem findIdx_cases {α : Type} (p : α -> Bool) (l : List α) : (idxP p l = -1 /\ l.find? p = none) \/ ∃ (i : Nat) (h : i < l.length), idxP p l = (i : Int) /\ l.find? p = some l[i] := by
 unfold idxP
 cases hi : l.findIdx? p with
 | none =>
  left
  refine ⟨rfl, ?_⟩; rw [List.find?_eq_none]; intro x hx; rw [List.findIdx?_eq_none_iff] at hi
  simpa using hi x hx
 | some i =>
  right
  rw [List.findIdx?_eq_some_iff_getElem] at hi; obtain ⟨h, h1, h2⟩ := hi; refine ⟨i, h, rfl, ?_⟩; rw [List.find?_eq_some_iff_getElem]; exact ⟨h1, i, h, rfl, fun j hj => by simpa using h2 j hj⟩
theorem findO1 (o : Opt) (k : Int) (kb : Nat) (w : World) (hk : w.cell? ⟨kb, 0, none⟩ = some (.int .i64 k)) :
 Calls Tryz.prog 199 #[.agg #[.int .i64 o.t, .string o.v], .pointer (some ⟨kb, 0, none⟩)] w fun e w' => e = .returned (.bool (o.t == k)) /\ Below w.heap.size w w' := by
 obtain ⟨t, v⟩ := o; have hk' : (w.alloc (.cells #[.int .i64 t, .string v] 213 (0, 0))).cell? ⟨kb, 0, none⟩ = some (.int .i64 k) := by go_keep
 clear hk; go_enter Tryz.func199, Tryz.ntmps199; go_wp2_with fail; go_ret; exact ⟨rfl, (Below.refl _ _).alloc (Nat.le_refl _) _⟩
set_option maxRecDepth 100000 in
theorem findO_any (l : List Opt) (lv : Value) (ok : Nat -> Prop) (k : Int) (w : World) (hl : Opts w ok lv l) (hmax : l.length <= 1000000) :
 Calls Tryz.prog 148 #[lv, .int .i64 k] w fun e w' => e = .returned (.tuple #[.string ((findO l k).getD default).v, .bool (findO l k).isSome]) /\ Below w.heap.size w w' := by
 have hl0 := hl.below ((Below.refl _ _).alloc (Nat.le_refl _) (.cells #[.int .i64 k] 3 (0, 0))); obtain ⟨sa, c, rfl, hc, hm⟩ := hl.form
 have HI := H_ (idxO_any l _ ok 199 #[.pointer (some ⟨w.heap.size, 0, none⟩)] (fun o => o.t == k) _ hl0 hmax (enters_of Tryz.func199 (by kernel_rfl) rfl) (fun W o _ hb => by
  refine (findO1 o k w.heap.size W (cellOf ((hb.block _ (by rw [alloc1]; omega)).trans (at1 _ _)) 0 _ rfl)).mono ?_; rintro e w' ⟨rfl, hb'⟩
  exact ⟨rfl, hb.trans (hb'.mono hb.size)⟩))
 have HL := H_ hl; obtain ⟨len, hln⟩ : ∃ len, len = l.length := ⟨_, rfl⟩; have HLN := H_ hln; have HB0 := H_ ((Below.refl w.heap.size w).alloc (Nat.le_refl _) (.cells #[.int .i64 k] 3 (0, 0))); rw [<- hln] at hc hmax HI ⊢; unfold maxLen at hm; clear hl hl0 hln
 rcases findIdx_cases (fun o : Opt => o.t == k) l with ⟨h1, h2⟩ | ⟨i, hi, h1, h2⟩
 . rw [h1] at HI; have HF := H_ (show findO l k = none from h2); clear h1 h2; go_enter Tryz.func148, Tryz.ntmps148; go_wp2_with fail; refine HI.out.mono ?_; rintro e w' ⟨rfl, hb⟩; have HB := H_ (HB0.out.trans (hb.mono (by rw [alloc1]; omega))); clear hb; go_wp2_with fail; go_ret2; exact ⟨by rw [HF.out]; rfl, HB.out⟩
 . rw [h1] at HI; have HF := H_ (show findO l k = some l[i] from h2); obtain ⟨b, off, rfl, hb, -, -, -, -, c0, c1⟩ := HL.out.at i hi; have hil : (i : Int) < (len : Int) := by have := HLN.out; omega
   have hi0 : (0 : Int) <= (i : Int) := by omega
   clear h1 h2; generalize l[i] = o at *; obtain ⟨t, v⟩ := o; simp only at c0 c1
   go_enter Tryz.func148, Tryz.ntmps148; go_wp2_with fail; refine HI.out.mono ?_; rintro e w' ⟨rfl, hbl⟩; have HB := H_ (HB0.out.trans (hbl.mono (by rw [alloc1]; omega))); have d1 : w'.cell? ⟨b, off + i * 2 + 1, none⟩ = some (.string v) := (HB.out.cell (p := ⟨b, off + i * 2 + 1, none⟩) hb).trans c1; clear hbl c0 c1; go_wp2_with fail; go_ret2; exact ⟨by rw [HF.out]; rfl, HB.out⟩
theorem fzOf {w : World} {k : Nat} {cs : Array Value} {T : TypeId} (h : w.heap[k]? = some (.cells cs T (0, 0))) (o : Nat) : w.frozen? ⟨k, o, none⟩ = false := by simp [World.frozen?, h]
theorem set5 {w : World} {b : Nat} {T : TypeId} {a0 a1 a2 a3 a4 : Value} (h : w.heap[b]? = some (.cells #[a0, a1, a2, a3, a4] T (0, 0))) (v0 v1 v2 v3 v4 : Value) :
 (((((w.setCell ⟨b, 0, none⟩ v0).setCell ⟨b, 1, none⟩ v1).setCell ⟨b, 2, none⟩ v2).setCell ⟨b, 3, none⟩ v3).setCell ⟨b, 4, none⟩ v4).heap[b]? = some (.cells #[v0, v1, v2, v3, v4] T (0, 0)) :=
 set_block (set_block (set_block (set_block (set_block h 0 v0) 1 v1) 2 v2) 3 v3) 4 v4
theorem below5 {B : Nat} {w0 w : World} {b : Nat} (h : Below B w0 w) (hb : B <= b) (v0 v1 v2 v3 v4 : Value) :
 Below B w0 (((((w.setCell ⟨b, 0, none⟩ v0).setCell ⟨b, 1, none⟩ v1).setCell ⟨b, 2, none⟩ v2).setCell ⟨b, 3, none⟩ v3).setCell ⟨b, 4, none⟩ v4) :=
 ((((h.setCell hb v0).setCell hb v1).setCell hb v2).setCell hb v3).setCell hb v4
end Go.Proofs.YtoblffnlopmebaaGreat
