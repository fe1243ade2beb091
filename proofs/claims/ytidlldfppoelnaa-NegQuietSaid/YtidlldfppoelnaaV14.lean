import Derived.Test.YtidlldfppoelnaaV13
import Derived.Lib.AppendZerosOnto
import Derived.Shelf.Spec.SlicesGrow
namespace Go.Proofs.Ytidlldfppoelnaa
open Go.RowKit Go.Tg Go.Maps

set_option maxHeartbeats 4000000 in
set_option maxRecDepth 100000 in
/-- slices.Grow of nothing. -/
theorem growR_nil (n : Nat) (w : World) (hn : n ≤ 1000000) :
    Calls Try.prog 75 #[.slice none 0 0, .int .i64 n] w fun e w' => ∃ v, e = .returned v ∧ RRow w' w.heap.size v [] ∧ Below w.heap.size w w' := by
  cases n with
  | zero =>
    go_enter Try.func75, Try.ntmps75
    go_wp2
    go_ret
    exact ⟨_, rfl, RRow.nil _ _, Below.refl _ _⟩
  | succ n =>
    obtain ⟨i0, z, hi, hz0, hz1, hz2, hzs⟩ := rl_info
    have h4 : ((n + 1 : Nat) : Int) > 0 := by omega
    have z25 : ∀ w, (Go.sizeOf 48).run Try.prog w = .ok 5 w := fun w => by kernel_rfl
    have hrz : ∀ ty, (Builtin.append_ #[28, 3] ty #[.slice none 0 0, .int .i64 ((n + 1 : Nat) : Int)]).run Try.prog w =
        .ok (.slice (some ⟨w.heap.size, 0, none⟩) (n + 1) (grownCap w (n + 1) 0 48)) (w.drew.alloc (.cells (#[] ++ Builtin.zeroCells z.cells (n + 1) ++ Builtin.zeroCells z.cells (grownCap w (n + 1) 0 48 - (n + 1))) 48)) := fun ty => by
      have h := Lib.run_append_grow_zeros w 28 3 ty 48 i0 z .i64 .i64 Try.underlying28 Try.underlying3 hi hz0 none 0 0 [] (run_firstCells_none w.drew i0.size 0 0 0) (n + 1) (by omega) (by omega) (by omega) (by omega)
        (by rw [hz2]; omega) (by rw [Nat.zero_add]; exact growslice_fits (by omega) (by rw [hz2]; omega))
      rw [Nat.zero_add] at h
      exact h
    have hGn : n + 1 ≤ grownCap w (n + 1) 0 48 := grownCap_ge w _ _ _
    have hG63 := grownCap_le_maxLen w (n + 1) 0 48 (by unfold maxLen; omega)
    generalize grownCap w (n + 1) 0 48 = G at hrz hGn hG63
    generalize z.cells = zc at hrz hzs
    have HG := Lib.hid hG63
    unfold maxLen at hG63
    clear hi
    go_enter Try.func75, Try.ntmps75
    go_wp2_with (at_builtin; refine Lib.wpList_append_run _ rfl _ _ _ _ rfl _ _ rfl rfl _ _ (hrz _) ?_)
    all_goals (
      go_ret
      refine ⟨_, rfl, ⟨rfl, Or.inr ⟨w.heap.size, G, _, rfl, Nat.le_refl _, at1 w.drew _, Nat.zero_le _, HG.out, ?_, by simp [rlL]⟩⟩, (Below.refl _ w).drew.alloc (Nat.le_refl _) _⟩
      simp only [Array.size_append, size_zeroCells, hzs, Array.size_empty, List.size_toArray, List.length_nil]
      omega)
end Go.Proofs.Ytidlldfppoelnaa
