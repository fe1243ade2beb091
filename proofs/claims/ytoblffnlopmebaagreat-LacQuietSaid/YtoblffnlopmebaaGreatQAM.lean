import Derived.Test.YtoblffnlopmebaaGreatQAL
import Derived.Lib.QuietBelow
set_option linter.unusedVariables false
set_option linter.unusedSimpArgs false
set_option maxHeartbeats 16000000
namespace Go.Proofs.YtoblffnlopmebaaGreat
open Go.RowKit Go.Tg Go.Maps
def Rl.val (r : Rl) : Value := .agg #[.int .i64 r.t, .int .i64 r.len, .int .i64 r.min, .int .i64 r.max, .string r.s]
def I64 (n : Int) : Prop := (Lit.int .i64 n).wf = true
theorem kvI {t : Int} (h : I64 t) : KV Tryz.prog 3 (.int .i64 t) := ⟨_, keyOf_int_mk Tryz.underlying3 h⟩
theorem keyedI : Keyed Tryz.prog 3 := int_keyed Tryz.underlying3
open Classical in
noncomputable def seenF (pre : List Opt) : Value -> Option Value := fun x => if ∃ o ∈ pre, x = .int .i64 o.t then some (.agg #[]) else none
theorem seenF_nil : seenF [] = fun _ => none := by funext x; simp [seenF]
theorem seenF_snoc (pre : List Opt) (o : Opt) (x : Value) : seenF (pre ++ [o]) x = upd (seenF pre) (.int .i64 o.t) (.agg #[]) x := by
 by_cases hx : x = .int .i64 o.t
 . subst hx; rw [upd_same]; unfold seenF; rw [if_pos ⟨o, by simp, rfl⟩]
 . rw [upd_other _ _ hx]; unfold seenF
   congr 1
   simp only [List.mem_append, List.mem_singleton, eq_iff_iff]
   constructor
   . rintro ⟨y, hy | rfl, h⟩
     . exact ⟨y, hy, h⟩
     . exact absurd h hx
   . rintro ⟨y, hy, h⟩; exact ⟨y, Or.inl hy, h⟩
theorem seenF_at (pre : List Opt) (k : Int) : seenF pre (.int .i64 k) = if pre.any (fun x => x.t == k) then some (.agg #[]) else none := by
 unfold seenF
 congr 1
 simp only [List.any_eq_true, beq_iff_eq, eq_iff_iff, Value.int.injEq, true_and]
 constructor
 . rintro ⟨y, hy, h⟩; exact ⟨y, hy, h.symm⟩
 . rintro ⟨y, hy, h⟩; exact ⟨y, hy, h.symm⟩
def AnsI (w W : World) (r : Value) (row pre : List Opt) : Prop := ORow W w.heap.size r row /\ MapAt Tryz.prog 3 W w.heap.size (seenF pre) /\ (∀ b, r.ownBlock = some b -> w.heap.size < b) /\ Below w.heap.size w W
section
variable {σ : Type}
def nakQ (fits : Opt -> Bool) (inst : σ -> Int -> ByteArray × σ) (s : σ) (l : List Opt) : List Opt × σ :=
 l.foldl (fun a o => if fits o then a else (a.1 ++ [⟨o.t, (inst a.2 o.t).1⟩], (inst a.2 o.t).2)) ([], s)
def answerQ (has : Int -> Bool) (fits : Opt -> Bool) (inst : σ -> Int -> ByteArray × σ) (s : σ) (l : List Opt) : (Int × List Opt) × σ :=
 if (rejP has [] l).length ≠ 0 then ((4, rejP has [] l), s) else if (nakQ fits inst s l).1.length ≠ 0 then ((3, (nakQ fits inst s l).1), (nakQ fits inst s l).2) else ((2, l), (nakQ fits inst s l).2)
end
end Go.Proofs.YtoblffnlopmebaaGreat
