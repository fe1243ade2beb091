import Derived.Test.YtignponfoheaeaaGreatW2
namespace Go.Proofs.YtignponfoheaeaaGreat
open Go.RowKit Go.Tg Go.Maps

def inB20 (n : Int) : Bool := decide (1 ≤ n) && decide (n ≤ 20)
theorem inB20_true {n : Int} : inB20 n = true ↔ 1 ≤ n ∧ n ≤ 20 := by simp [inB20]

set_option maxHeartbeats 400000 in
theorem new1_any (n : Int) (w : World) : Calls Tryz.prog 140 #[.int .i64 n] w fun e w' => e = .returned (.bool (inB20 n)) ∧ w = w' := by
  by_cases h1 : 1 ≤ n
  · by_cases h2 : n ≤ 20
    · go_enter Tryz.func140, Tryz.ntmps140
      go_wp2
      go_ret
      exact ⟨by simp [inB20, h1, h2], rfl⟩
    · go_enter Tryz.func140, Tryz.ntmps140
      go_wp2
      go_ret
      exact ⟨by simp [inB20, h1]; omega, rfl⟩
  · go_enter Tryz.func140, Tryz.ntmps140
    go_wp2
    go_ret
    exact ⟨by simp [inB20]; omega, rfl⟩

set_option maxHeartbeats 400000 in
theorem new_ok (c t : Int) (w : World) (hc : inB20 c = true) (ht : inB20 t = true) :
    Calls Tryz.prog 14 #[.int .i64 c, .int .i64 t] w fun e w' => e = .returned (.tuple #[.pointer (some ⟨w.heap.size, 0, none⟩), .int .i64 0]) ∧ AutoAt w' w.heap.size 0 0 c t ∧ Keep (fun _ => False) w w' := by
  go_enter Tryz.func14, Tryz.ntmps14
  go_wp2_with fail
  refine (new1_any _ _).mono ?_
  rintro en w0 ⟨rfl, rfl⟩
  go_wp2_with fail
  refine (new1_any _ _).mono ?_
  rintro en w0 ⟨rfl, rfl⟩
  go_wp2_with fail
  go_ret2
  exact ⟨rfl, by show (w.heap.push _)[_]? = _; simp, (Keep.refl _ _).alloc _⟩

set_option maxHeartbeats 400000 in
theorem new_bad (c t : Int) (w : World) (h : inB20 c = false ∨ inB20 t = false) :
    Calls Tryz.prog 14 #[.int .i64 c, .int .i64 t] w fun e w' => e = .returned (.tuple #[.pointer none, .int .i64 1]) ∧ w = w' := by
  cases hc : inB20 c with
  | false =>
    clear h
    go_enter Tryz.func14, Tryz.ntmps14
    go_wp2_with fail
    refine (new1_any _ _).mono ?_
    rintro en w0 ⟨rfl, rfl⟩
    go_wp2_with fail
    go_ret2
    exact ⟨rfl, rfl⟩
  | true =>
    have ht : inB20 t = false := by rcases h with h | h; rw [hc] at h; cases h; exact h
    clear h
    go_enter Tryz.func14, Tryz.ntmps14
    go_wp2_with fail
    refine (new1_any _ _).mono ?_
    rintro en w0 ⟨rfl, rfl⟩
    go_wp2_with fail
    refine (new1_any _ _).mono ?_
    rintro en w0 ⟨rfl, rfl⟩
    go_wp2_with fail
    go_ret2
    exact ⟨rfl, rfl⟩

end Go.Proofs.YtignponfoheaeaaGreat
