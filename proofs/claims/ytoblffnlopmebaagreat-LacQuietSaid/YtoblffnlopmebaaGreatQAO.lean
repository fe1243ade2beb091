import Derived.Test.YtoblffnlopmebaaGreatQAM
import Derived.Laws.IdiomCopy
import Derived.Laws.MakeOwn
import Derived.Lib.Strings
import Derived.Lib.BufferWrite
import Derived.Lib.UnsafeStr
import Derived.Deep.RegionLaw
set_option linter.unusedVariables false
set_option linter.unusedSimpArgs false
set_option maxHeartbeats 16000000
namespace Go.Proofs.YtoblffnlopmebaaGreat
open Go.RowKit Go.Tg Go.Maps
theorem u8_info : ∃ i, Tryz.prog.info? 5 = some i /\ i.zero = some (.int .u8 0) /\ i.size = 1 /\ i.bytes = 1 := by
 have h : (Tryz.prog.info? 5).map (fun i => (i.zero, i.size, i.bytes)) = some (some (.int .u8 0), 1, 1) := by kernel_rfl
 obtain ⟨i, hi, he⟩ := Option.map_eq_some_iff.1 h; simp only [Prod.mk.injEq] at he; exact ⟨i, hi, he.1, he.2.1, he.2.2⟩
set_option maxRecDepth 100000 in
theorem slite_clone (s : ByteArray) (w : World) (hlim : s.size <= 140737488355328) :
 Calls Tryz.prog 67 #[.string s] w fun e w' => e = .returned (.string s) /\ Below w.heap.size w w' := by
 by_cases h0 : s.size = 0
 . have hs : s = ⟨#[]⟩ := by
    apply ByteArray.ext
    exact Array.eq_empty_of_size_eq_zero h0
   subst hs; go_enter Tryz.func67, Tryz.ntmps67
   go_wp2
   go_ret; exact ⟨rfl, Below.refl _ _⟩
 . obtain ⟨i0, hi, hz0, hz1, hz2⟩ := u8_info; have hinfo : (Tryz.prog.info? 5).map (·.size) = some 1 := by rw [hi]; simp [hz1]
   have hco : Tryz.prog.cellsOf 5 = 1 := by simp [Program.cellsOf, hi, hz1]
   obtain ⟨M, hM⟩ : ∃ M, M = madeCells (Value.int .u8 0).cells (((s.size : Nat) : Int).toNat * i0.size) := ⟨_, rfl⟩; have hMs : M.size = s.size := by rw [hM, size_madeCells, hz1]; simp
   have hmk : ∀ W : World, (Instr.makeSlice 193 (.int .i64 (s.size : Int)) (.int .i64 (s.size : Int))).run Tryz.prog W = .ok (.slice (some ⟨W.heap.size, 0, none⟩) s.size s.size) (W.alloc (.cells M 5)) := fun W => by
    have h := run_make (P := Tryz.prog) W 193 5 i0 (.int .u8 0) Tryz.underlying193 hi hz0 .i64 .i64 (s.size : Int) (s.size : Int) (by omega) (by omega) (by rw [hz2]; omega) (by omega); rw [<- hM] at h
    simpa using h
   clear hM; have hcp := Lib.run_copy_row_string (P := Tryz.prog) (w.alloc (.cells M 5)) 193 9 3 5 w.heap.size 0 s.size s.size s M 5 Tryz.underlying193 hinfo (heap_alloc_new w _) (Nat.le_refl _) (by omega); obtain ⟨Y, hY⟩ : ∃ Y, Y = (M.toList.take 0 ++ Lib.byteCells s.data.toList ++ M.toList.drop (0 + s.size)).toArray := ⟨_, rfl⟩; rw [<- hY] at hcp
   have hYl : Y.toList = Lib.byteCells s.data.toList := by
    rw [hY, List.toList_toArray, List.take_zero, List.nil_append, List.drop_of_length_le (by rw [Array.length_toList]; omega), List.append_nil]
   have hYs : Y.size = s.size := by rw [<- Array.length_toList, hYl, Lib.byteCells_length, <- Lib.size_eq]
   have hgY : ((w.alloc (.cells M 5)).setRow w.heap.size Y).heap[w.heap.size]? = some (.cells Y 5 (0, 0)) := setRow_heap _ _ M _ 5 (0, 0) (heap_alloc_new w _); have hne : s.data.toList ≠ [] := fun e => h0 (by rw [Lib.size_eq, e]; rfl)
   have hUS := Lib.run_unsafeString_row (P := Tryz.prog) ((w.alloc (.cells M 5)).setRow w.heap.size Y) 200 3 9 5 Tryz.underlying200 hco w.heap.size Y.size (by unfold World.shape?; rw [hgY]) s.data.toList hne (by rw [<- Lib.size_eq]; omega) (by rw [<- Lib.size_eq]; omega)
    (fun j x hx => Lib.cells_of_row hgY Y.size j _ (by rw [List.take_of_length_le (by rw [Array.length_toList]; exact Nat.le_refl _), hYl]; simp [Lib.byteCells, hx]))
   rw [<- Lib.size_eq] at hUS; clear hY; go_enter Tryz.func67, Tryz.ntmps67
   go_wp2
   go_ret; have hb1 : Below w.heap.size w (w.alloc (.cells M 5)) := (Below.refl _ w).alloc (Nat.le_refl _) _; have hb2 : Below w.heap.size (w.alloc (.cells M 5)) ((w.alloc (.cells M 5)).setRow w.heap.size Y) := ⟨rfl, rfl, rfl, by simp, fun k hk => setRow_other _ _ _ _ (by omega)⟩; exact ⟨rfl, Lib.below_freeze (hb1.trans hb2) (p := ⟨w.heap.size, 0, none⟩) (Nat.le_refl _) _⟩
theorem sclone_any (s : ByteArray) (w : World) (hlim : s.size <= 140737488355328) :
 Calls Tryz.prog 35 #[.string s] w fun e w' => e = .returned (.string s) /\ Below w.heap.size w w' := by
 have H := H_ (slite_clone s w hlim); clear hlim; go_enter Tryz.func35, Tryz.ntmps35
 go_wp2_with (go_at_call 67; refine H.out.mono ?_; rintro e w1 ⟨rfl, hb⟩)
 go_ret; exact ⟨rfl, hb⟩
theorem blkSet {w : World} {g i : Nat} {cs : Array Value} {t : TypeId} {v : Value} (h : w.heap[g]? = some (.cells cs t (0, 0))) : (w.setCell ⟨g, i, none⟩ v).heap[g]? = some (.cells (cs.setIfInBounds i v) t (0, 0)) := set_block h i v
def zeroO (m : Nat) : List Value := (Builtin.zeroCells (Value.agg #[.int .i64 0, .string (ByteArray.mk #[])]).cells m).toList
structure DelI (w wr : World) (g cap : Nat) (l kept : List Opt) (k : Nat) : Prop where
 blk : ∃ cur, wr.heap[g]? = some (.cells cur 213 (0, 0)) /\ cur.size = cap * 2 /\ (∀ m, m < kept.length * 2 -> cur[m]? = (optL kept).flatten[m]?) /\ (∀ m, k * 2 <= m -> m < l.length * 2 -> cur[m]? = (optL l).flatten[m]?)
 keep : Keep (· = g) w wr
def flatO (l : List Opt) : List Value := (optL l).flatten
end Go.Proofs.YtoblffnlopmebaaGreat
