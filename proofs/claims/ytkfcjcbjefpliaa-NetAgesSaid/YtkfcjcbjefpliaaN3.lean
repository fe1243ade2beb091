import Derived.Test.YtkfcjcbjefpliaaN2
namespace Go.Proofs.Ytkfcjcbjefpliaa
open Go.RowKit Go.Tg Go.Maps
theorem blk_setCell {w : World} {g i : Nat} {cs : Array Value} {t : TypeId} {v : Value} (h : w.heap[g]? = some (.cells cs t (0, 0))) : (w.setCell ⟨g, i, none⟩ v).heap[g]? = some (.cells (cs.setIfInBounds i v) t (0, 0)) := by
  simp only [World.setCell]
  rw [Array.getElem?_modify]
  simp [h]
theorem sz_setCell (w : World) (a : Addr) (v : Value) : (w.setCell a v).heap.size = w.heap.size := by simp [World.setCell]
set_option maxHeartbeats 1000000 in
set_option maxRecDepth 100000 in
theorem of_new (b m : Nat) (mm : Value → Option Value) (p q : Int) (w : World) (lv cv : Value) (hp : I64 p) (hq : I64 q)
    (hb : w.heap[b]? = some (.cells #[lv, .map (some m), cv] 52 (0, 0))) (hm : MapAt Try.prog 39 w m mm) (hk : mm (pairV p q) = none) :
    Calls Try.prog 22 #[.pointer (some ⟨b, 0, none⟩), .agg #[.int .i64 p, .int .i64 q]] w fun e w' => ∃ lc, e = .returned (.pointer (some ⟨lc, 0, none⟩)) ∧ w.heap.size ≤ lc ∧ w'.heap[lc]? = some (.cells #[.int .i64 0, .int .i64 0] 57 (0, 0)) ∧
      MapAt Try.prog 39 w' m (upd mm (pairV p q) (.pointer (some ⟨lc, 0, none⟩))) ∧ Keep (· = m) w w' := by
  have hc1 : w.cell? ⟨b, 1, none⟩ = some (.map (some m)) := by simp [World.cell?, hb]
  have hbl : b < w.heap.size := (Array.getElem?_eq_some_iff.1 hb).1
  have hmc : w.heap.size ≠ m := by have := hm.lt; omega
  have hmb : b ≠ m := by
    rintro rfl
    obtain ⟨es, cl, h, _⟩ := hm
    rw [hb] at h; cases h
  have HK := Lib.hid ((Keep.refl (· = m) w).alloc (.cells #[.int .i64 p, .int .i64 q] 39))
  replace hm := hm.same (Below.heap_alloc w (.cells #[.int .i64 p, .int .i64 q] 39) m hm.lt)
  have heq := eql_map49 m
  have HB := Lib.hid hb
  clear hb
  go_enter Try.func22, Try.ntmps22
  go_wp2_with fail
  obtain ⟨V, hV⟩ : ∃ V, V = w.alloc (.cells #[.int .i64 p, .int .i64 q] 39) := ⟨_, rfl⟩
  have hV1 : V.cell? ⟨b, 1, none⟩ = some (.map (some m)) := by subst hV; go_keep
  have hV2 : V.cell? ⟨w.heap.size, 0, none⟩ = some (.int .i64 p) := by subst hV; go_keep
  have hV3 : V.cell? ⟨w.heap.size, 1, none⟩ = some (.int .i64 q) := by subst hV; go_keep
  have hVs : V.heap.size = w.heap.size + 1 := by subst hV; exact Array.size_push _
  rw [← hV] at hm HK ⊢
  clear hV hc1
  have hz : ∀ w, (zeroValue 54).run Try.prog w = .ok (.pointer none) w := fun w => by kernel_rfl
  have hl1 : ∀ n, (Instr.lookup 49 (.map (some m)) (.agg #[.int .i64 p, .int .i64 q]) false).run Try.prog (V.drewN n) = .ok (.pointer none) (V.drewN n) := by
    intro n
    have := (hm.same (show (V.drewN n).heap[m]? = V.heap[m]? from rfl)).run_lookup keyed39 Try.underlying49 (kv39 p q hp hq) (hz _) false
    rw [show mm (.agg #[.int .i64 p, .int .i64 q]) = none from hk] at this
    exact this
  have hlt := hm.lt
  obtain ⟨f, hf⟩ := MapAt.update_fun (fun n => ((V.drewN n).alloc (.cells #[.int .i64 0, .int .i64 0] 57))) keyed39 Try.underlying49 (fun n => hm.same (Below.heap_alloc _ _ _ hlt)) (kv39 p q hp hq) (.pointer (some ⟨w.heap.size + 1, 0, none⟩))
  have HF := Lib.hid (fun n => (hf n).2)
  have hup : ∀ n, (Instr.mapUpdate 49 (.map (some m)) (.agg #[.int .i64 p, .int .i64 q]) (.pointer (some ⟨w.heap.size + 1, 0, none⟩))).run Try.prog ((V.drewN n).alloc (.cells #[.int .i64 0, .int .i64 0] 57)) = _ := fun n => (hf n).1
  have HKV := Lib.hid (kv39 p q hp hq)
  clear hz hm hk hf
  have hpn : ∀ w, (binOp .eql 54 (.pointer none) (.pointer none)).run Try.prog w = .ok (.bool true) w := fun w => by kernel_rfl
  go_quiet (fail)
  go_wp2_with fail
  go_region_held3 (fun w' => w'.cell? ⟨b, 1, none⟩ = some (.map (some m)) ∧ w'.cell? ⟨w.heap.size, 0, none⟩ = some (.int .i64 p) ∧ w'.cell? ⟨w.heap.size, 1, none⟩ = some (.int .i64 q))
    (first
      | go_keep
      | (go_split_ands
         refine ⟨?_, ?_, ?_⟩
         · (rw [cell?_setBlock_other _ _ _ _ (by exact hmb)]; assumption)
         · (rw [cell?_setBlock_other _ _ _ _ (by exact hmc)]; assumption)
         · (rw [cell?_setBlock_other _ _ _ _ (by exact hmc)]; assumption)))
    (fail)
  go_wp2_with fail
  have hl3 : ∀ n k, (Instr.lookup 49 (.map (some m)) (.agg #[.int .i64 p, .int .i64 q]) false).run Try.prog ((ChangeMaps.setBlock ((V.drewN n).alloc (.cells #[.int .i64 0, .int .i64 0] 57)) m (f n)).drewN k) = .ok (.pointer (some ⟨w.heap.size + 1, 0, none⟩)) ((ChangeMaps.setBlock ((V.drewN n).alloc (.cells #[.int .i64 0, .int .i64 0] 57)) m (f n)).drewN k) := by
    intro n k
    have hz : ∀ w, (zeroValue 54).run Try.prog w = .ok (.pointer none) w := fun w => by kernel_rfl
    have := ((HF.out n).same (show (World.drewN (ChangeMaps.setBlock ((V.drewN n).alloc (.cells #[.int .i64 0, .int .i64 0] 57)) m (f n)) k).heap[m]? = _ from rfl)).run_lookup keyed39 Try.underlying49 HKV.out (hz _) false
    simpa [upd] using this
  go_quiet (fail)
  go_wp2_with fail
  go_ret
  refine ⟨w.heap.size + 1, rfl, by omega, ?_, ?_, ?_⟩
  · show (ChangeMaps.setBlock _ _ _).heap[_]? = _
    rw [setBlock_other _ _ _ _ (by omega)]
    show (Array.push V.heap _)[_]? = _
    rw [Array.getElem?_push, if_pos hVs.symm]
  · exact (HF.out _).same rfl
  · exact Keep.drewN (Keep.setBlock (Keep.alloc (Keep.drewN HK.out _) _) m (Or.inr (by exact rfl)) _) _

set_option maxHeartbeats 1000000 in
set_option maxRecDepth 100000 in
theorem of_nil (b : Nat) (p q : Int) (w : World) (lv cv : Value) (hp : I64 p) (hq : I64 q)
    (hb : w.heap[b]? = some (.cells #[lv, .map none, cv] 52 (0, 0))) :
    Calls Try.prog 22 #[.pointer (some ⟨b, 0, none⟩), .agg #[.int .i64 p, .int .i64 q]] w fun e w' => ∃ lc m, e = .returned (.pointer (some ⟨lc, 0, none⟩)) ∧ w.heap.size ≤ m ∧ w.heap.size ≤ lc ∧ lc ≠ m ∧ w'.heap[lc]? = some (.cells #[.int .i64 0, .int .i64 0] 57 (0, 0)) ∧
      w'.heap[b]? = some (.cells #[lv, .map (some m), cv] 52 (0, 0)) ∧
      MapAt Try.prog 39 w' m (upd (fun _ => none) (pairV p q) (.pointer (some ⟨lc, 0, none⟩))) ∧ Keep (· = b) w w' := by
  have hc1 : w.cell? ⟨b, 1, none⟩ = some (.map none) := by simp [World.cell?, hb]
  have hbl : b < w.heap.size := (Array.getElem?_eq_some_iff.1 hb).1
  have heq0 := eql_map49n
  have hmk := fun W => run_makeMap (P := Try.prog) 49 W
  obtain ⟨m, hmd⟩ : ∃ m, m = w.heap.size + 1 := ⟨_, rfl⟩
  have hmc : w.heap.size ≠ m := by omega
  have hmb : b ≠ m := by omega
  have heq := eql_map49 m
  have HB := Lib.hid hb
  have hfz : w.frozen? ⟨b, 1, none⟩ = false := by simp [World.frozen?, hb]
  clear hb
  go_enter Try.func22, Try.ntmps22
  go_wp2_with fail
  obtain ⟨V, hV⟩ : ∃ V, V = ((w.setCell ⟨b, 1, none⟩ (.map (some (w.heap.size + 1)))).alloc (.cells #[.int .i64 p, .int .i64 q] 39)).alloc (.map #[] 0) := ⟨_, rfl⟩
  have HK : Hid (Keep (· = b) w V) := Lib.hid (by subst hV; exact (((Keep.refl (· = b) w).setB _ _).alloc _).alloc _)
  have hbs : Hid (V.heap[b]? = some (.cells #[lv, .map (some m), cv] 52 (0, 0))) := Lib.hid (by
    subst hV
    rw [Below.heap_alloc _ _ _ (by show b < (Array.push _ _).size; rw [Array.size_push, sz_setCell]; omega), Below.heap_alloc _ _ _ (by rw [sz_setCell]; omega)]
    rw [blk_setCell HB.out, hmd]; rfl)
  have hV1 : V.cell? ⟨b, 1, none⟩ = some (.map (some m)) := by have := hbs.out; simp [World.cell?, this]
  have hbx : V.heap[w.heap.size]? = some (.cells #[.int .i64 p, .int .i64 q] 39 (0, 0)) := by
    subst hV
    rw [Below.heap_alloc _ _ _ (by show w.heap.size < (Array.push _ _).size; rw [Array.size_push, sz_setCell]; omega)]
    show (Array.push _ _)[_]? = _
    rw [Array.getElem?_push, if_pos (sz_setCell _ _ _).symm]
  have hV2 : V.cell? ⟨w.heap.size, 0, none⟩ = some (.int .i64 p) := by simp [World.cell?, hbx]
  have hV3 : V.cell? ⟨w.heap.size, 1, none⟩ = some (.int .i64 q) := by simp [World.cell?, hbx]
  clear hbx
  have hVs : V.heap.size = w.heap.size + 2 := by subst hV; show (Array.push (Array.push _ _) _).size = _; rw [Array.size_push, Array.size_push, sz_setCell]
  have hm : MapAt Try.prog 39 V m (fun _ => none) := by
    subst hV
    have := MapAt.empty (P := Try.prog) (K := 39) ((w.setCell ⟨b, 1, none⟩ (.map (some (w.heap.size + 1)))).alloc (.cells #[.int .i64 p, .int .i64 q] 39))
    rwa [show ((w.setCell ⟨b, 1, none⟩ (.map (some (w.heap.size + 1)))).alloc (.cells #[.int .i64 p, .int .i64 q] 39)).heap.size = m from by show (Array.push _ _).size = _; rw [Array.size_push, sz_setCell]; omega] at this
  rw [← hV]
  rw [← hmd]
  have HMD := Lib.hid hmd
  clear hmd
  obtain ⟨mm, hmm⟩ : ∃ mm : Value → Option Value, mm = fun _ => none := ⟨_, rfl⟩
  rw [← hmm] at hm
  have hk : mm (.agg #[.int .i64 p, .int .i64 q]) = none := by rw [hmm]
  have HM := Lib.hid hmm
  clear hV hc1 hmm
  have hz : ∀ w, (zeroValue 54).run Try.prog w = .ok (.pointer none) w := fun w => by kernel_rfl
  have hl1 : ∀ n, (Instr.lookup 49 (.map (some m)) (.agg #[.int .i64 p, .int .i64 q]) false).run Try.prog (V.drewN n) = .ok (.pointer none) (V.drewN n) := by
    intro n
    have := (hm.same (show (V.drewN n).heap[m]? = V.heap[m]? from rfl)).run_lookup keyed39 Try.underlying49 (kv39 p q hp hq) (hz _) false
    rw [show mm (.agg #[.int .i64 p, .int .i64 q]) = none from hk] at this
    exact this
  have hlt := hm.lt
  obtain ⟨f, hf⟩ := MapAt.update_fun (fun n => ((V.drewN n).alloc (.cells #[.int .i64 0, .int .i64 0] 57))) keyed39 Try.underlying49 (fun n => hm.same (Below.heap_alloc _ _ _ hlt)) (kv39 p q hp hq) (.pointer (some ⟨w.heap.size + 2, 0, none⟩))
  have HF := Lib.hid (fun n => (hf n).2)
  have hup : ∀ n, (Instr.mapUpdate 49 (.map (some m)) (.agg #[.int .i64 p, .int .i64 q]) (.pointer (some ⟨w.heap.size + 2, 0, none⟩))).run Try.prog ((V.drewN n).alloc (.cells #[.int .i64 0, .int .i64 0] 57)) = _ := fun n => (hf n).1
  have HKV := Lib.hid (kv39 p q hp hq)
  clear hz hm hk hf
  have hpn : ∀ w, (binOp .eql 54 (.pointer none) (.pointer none)).run Try.prog w = .ok (.bool true) w := fun w => by kernel_rfl
  go_quiet (fail)
  go_wp2_with fail
  go_region_held3 (fun w' => w'.cell? ⟨b, 1, none⟩ = some (.map (some m)) ∧ w'.cell? ⟨w.heap.size, 0, none⟩ = some (.int .i64 p) ∧ w'.cell? ⟨w.heap.size, 1, none⟩ = some (.int .i64 q))
    (first
      | go_keep
      | (go_split_ands
         refine ⟨?_, ?_, ?_⟩
         · (rw [cell?_setBlock_other _ _ _ _ (by exact hmb)]; assumption)
         · (rw [cell?_setBlock_other _ _ _ _ (by exact hmc)]; assumption)
         · (rw [cell?_setBlock_other _ _ _ _ (by exact hmc)]; assumption)))
    (fail)
  go_wp2_with fail
  have hl3 : ∀ n k, (Instr.lookup 49 (.map (some m)) (.agg #[.int .i64 p, .int .i64 q]) false).run Try.prog ((ChangeMaps.setBlock ((V.drewN n).alloc (.cells #[.int .i64 0, .int .i64 0] 57)) m (f n)).drewN k) = .ok (.pointer (some ⟨w.heap.size + 2, 0, none⟩)) ((ChangeMaps.setBlock ((V.drewN n).alloc (.cells #[.int .i64 0, .int .i64 0] 57)) m (f n)).drewN k) := by
    intro n k
    have hz : ∀ w, (zeroValue 54).run Try.prog w = .ok (.pointer none) w := fun w => by kernel_rfl
    have := ((HF.out n).same (show (World.drewN (ChangeMaps.setBlock ((V.drewN n).alloc (.cells #[.int .i64 0, .int .i64 0] 57)) m (f n)) k).heap[m]? = _ from rfl)).run_lookup keyed39 Try.underlying49 HKV.out (hz _) false
    simpa [upd] using this
  go_quiet (fail)
  go_wp2_with fail
  go_ret
  have hmd := HMD.out
  refine ⟨w.heap.size + 2, m, rfl, by omega, by omega, by omega, ?_, ?_, ?_, ?_⟩
  · show (ChangeMaps.setBlock _ _ _).heap[_]? = _
    rw [setBlock_other _ _ _ _ (by omega)]
    show (Array.push V.heap _)[_]? = _
    rw [Array.getElem?_push, if_pos hVs.symm]
  · show (ChangeMaps.setBlock _ _ _).heap[_]? = _
    rw [setBlock_other _ _ _ _ (by omega)]
    rw [Below.heap_alloc _ _ _ (by show b < V.heap.size; omega)]
    exact hbs.out
  · rw [← HM.out]
    exact (HF.out _).same rfl
  · exact Keep.drewN (Keep.setBlock (Keep.alloc (Keep.drewN HK.out _) _) m (Or.inl (by omega)) _) _
end Go.Proofs.Ytkfcjcbjefpliaa
