import Derived.Test.YtkfcjcbjefpliaaN10
namespace Go.Proofs.Ytkfcjcbjefpliaa
open Go.RowKit Go.Tg Go.Maps Go.Sort

theorem zero54 (w : World) : (zeroValue 54).run Try.prog w = .ok (.pointer none) w := by kernel_rfl
theorem cell_of {w : World} {k : Nat} {cs : Array Value} {T : TypeId} {fz : Nat × Nat} (h : w.heap[k]? = some (.cells cs T fz)) (o : Nat) (v : Value) (hv : cs[o]? = some v) : w.cell? ⟨k, o, none⟩ = some v := by
  simp only [World.cell?, h]
  simpa using hv
theorem eql54n (w : World) : (binOp .eql 54 (.pointer none) (.pointer none)).run Try.prog w = .ok (.bool true) w := by kernel_rfl
theorem eql54s (a : Addr) (w : World) : (binOp .eql 54 (.pointer (some a)) (.pointer none)).run Try.prog w = .ok (.bool false) w := by kernel_rfl

theorem NetV.mapVal {w : World} {S : Nat → Prop} {b : Nat} {st : NetS} {loc : Int → Int → Nat} {lv av cv : Value} (h : NetV w S b st loc lv av cv) : ∃ mo, av = .map mo := by
  rcases h.cnt with ⟨h, _⟩ | ⟨m, mm, h, _⟩
  · exact ⟨_, h⟩
  · exact ⟨_, h⟩

theorem NetV.lookNone {w : World} {S : Nat → Prop} {b : Nat} {st : NetS} {loc : Int → Int → Nat} {lv av cv : Value} (h : NetV w S b st loc lv av cv) (f t : Int) (hf : I64 f) (ht : I64 t) (hat : st.at' f t = none) (w' : World)
    (hw : ∀ k, S k → k < w.heap.size → w'.heap[k]? = w.heap[k]?) : (Instr.lookup 49 av (.agg #[.int .i64 f, .int .i64 t]) false).run Try.prog w' = .ok (.pointer none) w' := by
  rcases h.cnt with ⟨rfl, hn⟩ | ⟨m, mm, rfl, hSm, hm, hno, _⟩
  · rw [run_lookup_nil w' Try.underlying49 keyed39 (kv39 f t hf ht) (zero54 w') false]
    rfl
  · have := (hm.same (hw m hSm hm.lt)).run_lookup keyed39 Try.underlying49 (kv39 f t hf ht) (zero54 w') false
    rw [this, show mm (.agg #[.int .i64 f, .int .i64 t]) = none from hno f t hat]
    rfl
theorem NetV.lookSome {w : World} {S : Nat → Prop} {b : Nat} {st : NetS} {loc : Int → Int → Nat} {lv av cv : Value} (h : NetV w S b st loc lv av cv) (f t : Int) (hf : I64 f) (ht : I64 t) {s l : Int} (hat : st.at' f t = some (s, l)) (w' : World)
    (hw : ∀ k, S k → k < w.heap.size → w'.heap[k]? = w.heap[k]?) : (Instr.lookup 49 av (.agg #[.int .i64 f, .int .i64 t]) false).run Try.prog w' = .ok (.pointer (some ⟨loc f t, 0, none⟩)) w' := by
  rcases h.cnt with ⟨rfl, hn⟩ | ⟨m, mm, rfl, hSm, hm, _, hso, _⟩
  · rw [hn] at hat; cases hat
  · have := (hm.same (hw m hSm hm.lt)).run_lookup keyed39 Try.underlying49 (kv39 f t hf ht) (zero54 w') false
    rw [this, show mm (.agg #[.int .i64 f, .int .i64 t]) = _ from (hso f t s l hat).1]
    rfl

set_option maxHeartbeats 1000000 in
set_option maxRecDepth 100000 in
theorem sent_any {w : World} {S : Nat → Prop} {b : Nat} {st : NetS} {loc : Int → Int → Nat} {lv av cv : Value} (h : NetV w S b st loc lv av cv) (p q : Int) (hp : I64 p) (hq : I64 q) :
    Calls Try.prog 15 #[.pointer (some ⟨b, 0, none⟩), .agg #[.int .i64 p, .int .i64 q]] w fun e w' => e = .returned (.int .i64 ((st.at' p q).getD (0, 0)).1) ∧ Keep (fun _ => False) w w' := by
  obtain ⟨mo, rfl⟩ := h.mapVal
  have hc1 : w.cell? ⟨b, 1, none⟩ = some (.map mo) := by simp [World.cell?, h.blk]
  have hbl : b < w.heap.size := (Array.getElem?_eq_some_iff.1 h.blk).1
  have heq := eql24a
  have hen := eql54n
  have hes := eql54s
  cases hat : st.at' p q with
  | none =>
    have hl1 : ∀ n, (Instr.lookup 49 (.map mo) (.agg #[.int .i64 p, .int .i64 q]) false).run Try.prog ((w.alloc (.cells #[.int .i64 p, .int .i64 q] 39)).drewN n) = .ok (.pointer none) ((w.alloc (.cells #[.int .i64 p, .int .i64 q] 39)).drewN n) :=
      fun n => h.lookNone p q hp hq hat _ (fun k _ hk => Below.heap_alloc _ _ _ hk)
    clear h
    go_enter Try.func15, Try.ntmps15
    go_wp2_with fail
    go_quiet (fail)
    go_wp2_with fail
    go_ret
    exact ⟨rfl, ((Keep.refl _ _).alloc _).drewN _⟩
  | some v =>
    obtain ⟨s, l⟩ := v
    have hl1 : ∀ n, (Instr.lookup 49 (.map mo) (.agg #[.int .i64 p, .int .i64 q]) false).run Try.prog ((w.alloc (.cells #[.int .i64 p, .int .i64 q] 39)).drewN n) = .ok (.pointer (some ⟨loc p q, 0, none⟩)) ((w.alloc (.cells #[.int .i64 p, .int .i64 q] 39)).drewN n) :=
      fun n => h.lookSome p q hp hq hat _ (fun k _ hk => Below.heap_alloc _ _ _ hk)
    have hl2 : ∀ a n, (Instr.lookup 49 (.map mo) (.agg #[.int .i64 p, .int .i64 q]) false).run Try.prog (((w.alloc (.cells #[.int .i64 p, .int .i64 q] 39)).drewN a).drewN n) = .ok (.pointer (some ⟨loc p q, 0, none⟩)) (((w.alloc (.cells #[.int .i64 p, .int .i64 q] 39)).drewN a).drewN n) :=
      fun a n => h.lookSome p q hp hq hat _ (fun k _ hk => Below.heap_alloc _ _ _ hk)
    have hcs := (h.cntAt hat).1
    have hc0 : w.cell? ⟨loc p q, 0, none⟩ = some (.int .i64 s) := by simp [World.cell?, hcs]
    have hcl : loc p q < w.heap.size := (Array.getElem?_eq_some_iff.1 hcs).1
    clear h hcs
    go_enter Try.func15, Try.ntmps15
    go_wp2_with fail
    go_quiet (fail)
    go_wp2_with fail
    go_quiet (fail)
    go_wp2_with fail
    go_ret
    exact ⟨rfl, (((Keep.refl _ _).alloc _).drewN _).drewN _⟩

set_option maxHeartbeats 1000000 in
set_option maxRecDepth 100000 in
theorem lost_any {w : World} {S : Nat → Prop} {b : Nat} {st : NetS} {loc : Int → Int → Nat} {lv av cv : Value} (h : NetV w S b st loc lv av cv) (p q : Int) (hp : I64 p) (hq : I64 q) :
    Calls Try.prog 16 #[.pointer (some ⟨b, 0, none⟩), .agg #[.int .i64 p, .int .i64 q]] w fun e w' => e = .returned (.int .i64 ((st.at' p q).getD (0, 0)).2) ∧ Keep (fun _ => False) w w' := by
  obtain ⟨mo, rfl⟩ := h.mapVal
  have hc1 : w.cell? ⟨b, 1, none⟩ = some (.map mo) := by simp [World.cell?, h.blk]
  have hbl : b < w.heap.size := (Array.getElem?_eq_some_iff.1 h.blk).1
  have heq := eql24a
  have hen := eql54n
  have hes := eql54s
  cases hat : st.at' p q with
  | none =>
    have hl1 : ∀ n, (Instr.lookup 49 (.map mo) (.agg #[.int .i64 p, .int .i64 q]) false).run Try.prog ((w.alloc (.cells #[.int .i64 p, .int .i64 q] 39)).drewN n) = .ok (.pointer none) ((w.alloc (.cells #[.int .i64 p, .int .i64 q] 39)).drewN n) :=
      fun n => h.lookNone p q hp hq hat _ (fun k _ hk => Below.heap_alloc _ _ _ hk)
    clear h
    go_enter Try.func16, Try.ntmps16
    go_wp2_with fail
    go_quiet (fail)
    go_wp2_with fail
    go_ret
    exact ⟨rfl, ((Keep.refl _ _).alloc _).drewN _⟩
  | some v =>
    obtain ⟨s, l⟩ := v
    have hl1 : ∀ n, (Instr.lookup 49 (.map mo) (.agg #[.int .i64 p, .int .i64 q]) false).run Try.prog ((w.alloc (.cells #[.int .i64 p, .int .i64 q] 39)).drewN n) = .ok (.pointer (some ⟨loc p q, 0, none⟩)) ((w.alloc (.cells #[.int .i64 p, .int .i64 q] 39)).drewN n) :=
      fun n => h.lookSome p q hp hq hat _ (fun k _ hk => Below.heap_alloc _ _ _ hk)
    have hl2 : ∀ a n, (Instr.lookup 49 (.map mo) (.agg #[.int .i64 p, .int .i64 q]) false).run Try.prog (((w.alloc (.cells #[.int .i64 p, .int .i64 q] 39)).drewN a).drewN n) = .ok (.pointer (some ⟨loc p q, 0, none⟩)) (((w.alloc (.cells #[.int .i64 p, .int .i64 q] 39)).drewN a).drewN n) :=
      fun a n => h.lookSome p q hp hq hat _ (fun k _ hk => Below.heap_alloc _ _ _ hk)
    have hcs := (h.cntAt hat).1
    have hc0 : w.cell? ⟨loc p q, 1, none⟩ = some (.int .i64 l) := by simp [World.cell?, hcs]
    have hcl : loc p q < w.heap.size := (Array.getElem?_eq_some_iff.1 hcs).1
    clear h hcs
    go_enter Try.func16, Try.ntmps16
    go_wp2_with fail
    go_quiet (fail)
    go_wp2_with fail
    go_quiet (fail)
    go_wp2_with fail
    go_ret
    exact ⟨rfl, (((Keep.refl _ _).alloc _).drewN _).drewN _⟩
end Go.Proofs.Ytkfcjcbjefpliaa
