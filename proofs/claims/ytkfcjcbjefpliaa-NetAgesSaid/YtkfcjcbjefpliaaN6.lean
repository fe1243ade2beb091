import Derived.Test.YtkfcjcbjefpliaaN5
import Derived.Test.YtkfcjcbjefpliaaTgGrown
import Derived.Laws.StructEq
namespace Go.Proofs.Ytkfcjcbjefpliaa
open Go.RowKit Go.Tg Go.Maps Go.Sort

set_option maxHeartbeats 400000 in
theorem pair_grow (f t : Int) (d : ByteArray) (w : World) :
    Calls Try.prog 21 #[.agg #[.int .i64 f, .int .i64 t, .string d]] w fun e w' => e = .returned (.agg #[.int .i64 f, .int .i64 t]) ∧ ∃ os, w' = grow w os := by
  go_enter Try.func21, Try.ntmps21
  go_wp2
  refine bodyPost_ret (v := .agg #[.int .i64 f, .int .i64 t]) (by simp [results, Try.results21, go_sem]) rfl ⟨rfl, #[.cells #[.int .i64 f, .int .i64 t, .string d] 29 (0, 0), .cells #[.int .i64 f, .int .i64 t] 39 (0, 0)], ?_⟩
  rw [alloc_eq_grow, alloc_eq_grow, grow_grow]
  rfl

theorem eql39 (a b p q : Int) (w : World) : (binOp .eql 39 (.agg #[.int .i64 a, .int .i64 b]) (.agg #[.int .i64 p, .int .i64 q])).run Try.prog w = .ok (.bool (a == p && b == q)) w := by
  have u3 := Try.underlying3
  have a3 := Try.isAgg3
  have z3 := Try.sizeOf3
  have hS : Try.prog.underlying 39 = some (.struct (Try.prog.fieldsOf 39)) := by kernel_rfl
  have hp : Try.prog.stoodInHeld 39 = false := by kernel_rfl
  rw [run_eql_struct, show (10000 : Nat) = 9999 + 1 from rfl, run_equalIn_agg w 9999 39 _ _ hS hp]
  simp only [Program.fieldsOf, Try.underlying39]
  go_simp
  by_cases h1 : a = p <;> by_cases h2 : b = q <;> simp [h1, h2]

set_option maxHeartbeats 2000000 in
set_option maxRecDepth 100000 in
theorem young_any (f t : Int) (d : ByteArray) (n : Int) (p q sent : Int) (bp bs bw : Nat) (w : World) (h1 : w.cell? ⟨bp, 0, none⟩ = some (.int .i64 p)) (h2 : w.cell? ⟨bp, 1, none⟩ = some (.int .i64 q)) (h3 : w.cell? ⟨bs, 0, none⟩ = some (.int .i64 sent))
    (hs0 : 0 ≤ sent) (hs1 : sent ≤ 9223372036854775807) (hn : 0 ≤ n) (hn1 : n ≤ 9223372036854775807) (hy : f = p → t = q → sent - n < 20000) :
    Calls Try.prog 29 #[.agg #[.int .i64 f, .int .i64 t, .string d, .int .i64 n], .pointer (some ⟨bp, 0, none⟩), .pointer (some ⟨bs, 0, none⟩), .pointer (some ⟨bw, 0, none⟩)] w fun e w' => e = .returned (.bool false) ∧ Keep (fun _ => False) w w' := by
  have l1 : ∀ k os, (grow ((w.alloc (.cells #[.int .i64 f, .int .i64 t, .string d, .int .i64 n] 63)).drewN k) os).cell? ⟨bp, 0, none⟩ = some (.int .i64 p) := fun k os => grown_cell (by go_keep) k os
  have l2 : ∀ k os, (grow ((w.alloc (.cells #[.int .i64 f, .int .i64 t, .string d, .int .i64 n] 63)).drewN k) os).cell? ⟨bp, 1, none⟩ = some (.int .i64 q) := fun k os => grown_cell (by go_keep) k os
  have l3 : ∀ k os, (grow ((w.alloc (.cells #[.int .i64 f, .int .i64 t, .string d, .int .i64 n] 63)).drewN k) os).cell? ⟨bs, 0, none⟩ = some (.int .i64 sent) := fun k os => grown_cell (by go_keep) k os
  have g0 : ∀ k os, (grow ((w.alloc (.cells #[.int .i64 f, .int .i64 t, .string d, .int .i64 n] 63)).drewN k) os).cell? ⟨w.heap.size, 0, none⟩ = some (.int .i64 f) := fun k os => grown_cell (by go_keep) k os
  have g1 : ∀ k os, (grow ((w.alloc (.cells #[.int .i64 f, .int .i64 t, .string d, .int .i64 n] 63)).drewN k) os).cell? ⟨w.heap.size, 1, none⟩ = some (.int .i64 t) := fun k os => grown_cell (by go_keep) k os
  have g2 : ∀ k os, (grow ((w.alloc (.cells #[.int .i64 f, .int .i64 t, .string d, .int .i64 n] 63)).drewN k) os).cell? ⟨w.heap.size, 2, none⟩ = some (.string d) := fun k os => grown_cell (by go_keep) k os
  have g3 : ∀ k os, (grow ((w.alloc (.cells #[.int .i64 f, .int .i64 t, .string d, .int .i64 n] 63)).drewN k) os).cell? ⟨w.heap.size, 3, none⟩ = some (.int .i64 n) := fun k os => grown_cell (by go_keep) k os
  have heq := eql39
  clear h1 h2 h3
  by_cases hpq : (f == p && t == q) = true
  · have hd : decide (20000 ≤ sent - n) = false := by
      simp at hpq
      simpa using hy hpq.1 hpq.2
    have HD := Lib.hid hd
    clear hd
    go_enter Try.func29, Try.ntmps29
    go_wp2_with fail
    refine wp_region_grown (by kernel_rfl) (by kernel_rfl) ?_
    repeat (quiet_step (first | (go_at_call 21; exact grown_call (pair_grow _ _ _ _))))
    refine wpQuiet_nil ?_
    rintro _ ⟨⟨nq, osq⟩, rfl⟩
    rw [show IntKind.i64.wrap (sent - n) = sent - n from IntWalk.i64_in _ (by omega), HD.out]
    go_wp2_with fail
    go_ret
    exact ⟨rfl, ((Keep.refl _ _).alloc _).trans (grown_keep _ _ _ _)⟩
  · have hpq' : (f == p && t == q) = false := by simpa using hpq
    go_enter Try.func29, Try.ntmps29
    go_wp2_with fail
    refine wp_region_grown (by kernel_rfl) (by kernel_rfl) ?_
    repeat (quiet_step (first | (go_at_call 21; exact grown_call (pair_grow _ _ _ _))))
    refine wpQuiet_nil ?_
    rintro _ ⟨⟨nq, osq⟩, rfl⟩
    go_wp2_with fail
    go_ret
    exact ⟨rfl, ((Keep.refl _ _).alloc _).trans (grown_keep _ _ _ _)⟩
end Go.Proofs.Ytkfcjcbjefpliaa
