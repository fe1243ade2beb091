import Derived.Test.YtgoahafndefhgaaGreatQAL
import Derived.Test.YtgoahafndefhgaaGreatTAA
set_option linter.unusedVariables false
set_option linter.unusedSimpArgs false
set_option maxHeartbeats 16000000
namespace Go.Proofs.YtgoahafndefhgaaGreat
open Go.RowKit Go.Tg Go.Maps
theorem seenF_nil : seenF [] = fun _ => none := by funext x; simp [seenF]
theorem seenF_snoc (pre : List Opt) (o : Opt) (x : Value) : seenF (pre ++ [o]) x = upd (seenF pre) (.int .i64 o.t) (.agg #[]) x := by
 by_cases hx : x = .int .i64 o.t
 . subst hx; rw [upd_same]; unfold seenF; rw [if_pos ⟨o, by simp, rfl⟩]
 . rw [upd_other _ _ hx]; unfold seenF
   congr 1
   simp only [List.mem_append, List.mem_singleton, eq_iff_iff]
   constructor
   . rintro ⟨y, hy | rfl, h⟩
     . exact ⟨y, hy, h⟩
     . exact absurd h hx
   . rintro ⟨y, hy, h⟩; exact ⟨y, Or.inl hy, h⟩
theorem seenF_at (pre : List Opt) (k : Int) : seenF pre (.int .i64 k) = if pre.any (fun x => x.t == k) then some (.agg #[]) else none := by
 unfold seenF
 congr 1
 simp only [List.any_eq_true, beq_iff_eq, eq_iff_iff, Value.int.injEq, true_and]
 constructor
 . rintro ⟨y, hy, h⟩; exact ⟨y, hy, h.symm⟩
 . rintro ⟨y, hy, h⟩; exact ⟨y, hy, h.symm⟩
end Go.Proofs.YtgoahafndefhgaaGreat
