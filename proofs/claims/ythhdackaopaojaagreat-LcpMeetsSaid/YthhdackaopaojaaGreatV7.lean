import Derived.Test.YthhdackaopaojaaGreatV6
namespace Go.Proofs.YthhdackaopaojaaGreat
open Go.RowKit Go.Tg Go.Maps

def I64 (n : Int) : Prop := (Lit.int .i64 n).wf = true
theorem kvI {t : Int} (h : I64 t) : KV Tryz.prog 3 (.int .i64 t) := ⟨_, keyOf_int_mk Tryz.underlying3 h⟩
theorem keyedI : Keyed Tryz.prog 3 := int_keyed Tryz.underlying3

open Classical in
noncomputable def seenF (pre : List Opt) : Value → Option Value := fun x => if ∃ o ∈ pre, x = .int .i64 o.t then some (.agg #[]) else none
theorem seenF_nil : seenF [] = fun _ => none := by funext x; simp [seenF]
theorem seenF_snoc (pre : List Opt) (o : Opt) (x : Value) : seenF (pre ++ [o]) x = upd (seenF pre) (.int .i64 o.t) (.agg #[]) x := by
  by_cases hx : x = .int .i64 o.t
  · subst hx
    rw [upd_same]
    unfold seenF
    rw [if_pos ⟨o, by simp, rfl⟩]
  · rw [upd_other _ _ hx]
    unfold seenF
    congr 1
    simp only [List.mem_append, List.mem_singleton, eq_iff_iff]
    constructor
    · rintro ⟨y, hy | rfl, h⟩
      · exact ⟨y, hy, h⟩
      · exact absurd h hx
    · rintro ⟨y, hy, h⟩
      exact ⟨y, Or.inl hy, h⟩
theorem seenF_at (pre : List Opt) (k : Int) : seenF pre (.int .i64 k) = if pre.any (fun x => x.t == k) then some (.agg #[]) else none := by
  unfold seenF
  congr 1
  simp only [List.any_eq_true, beq_iff_eq, eq_iff_iff, Value.int.injEq, true_and]
  constructor
  · rintro ⟨y, hy, h⟩; exact ⟨y, hy, h.symm⟩
  · rintro ⟨y, hy, h⟩; exact ⟨y, hy, h.symm⟩

/-- What holds in the rounds of Answer's first loop. -/
def AnsI (w W : World) (r : Value) (row pre : List Opt) : Prop := ORow W w.heap.size r row ∧ MapAt Tryz.prog 3 W w.heap.size (seenF pre) ∧ (∀ b, r.ownBlock = some b → w.heap.size < b) ∧ Below w.heap.size w W
theorem AnsI.below {w W W' : World} {r : Value} {row pre : List Opt} (h : AnsI w W r row pre) (hb : Below W.heap.size W W') : AnsI w W' r row pre :=
  ⟨h.1.below hb, h.2.1.same (hb.block _ h.2.1.lt), h.2.2.1, h.2.2.2.trans (hb.mono h.2.2.2.size)⟩
theorem AnsI.app {w W W' : World} {r : Value} {row row' pre : List Opt} {g n cap : Nat} (h : AnsI w W r row pre) (hrow : ORow W' w.heap.size (.slice (some ⟨g, 0, none⟩) n cap) row') (hk : Keep (fun k => r.ownBlock = some k) W W')
    (hg : r.ownBlock = some g ∨ g = W.heap.size) : AnsI w W' (.slice (some ⟨g, 0, none⟩) n cap) row' pre := by
  refine ⟨hrow, h.2.1.keep hk (fun e => Nat.lt_irrefl _ (h.2.2.1 _ e)), ?_, h.2.2.2.trans (hk.below h.2.2.2.size (fun k hk e => Nat.lt_asymm hk (h.2.2.1 _ e)))⟩
  intro b hb
  obtain rfl : g = b := by simpa [Value.ownBlock] using hb
  rcases hg with hg | hg
  · exact h.2.2.1 _ hg
  · have := h.2.1.lt
    omega
theorem AnsI.upd {w W : World} {r : Value} {row pre : List Opt} (h : AnsI w W r row pre) (o : Opt) (ho : I64 o.t) :
    ∃ ob, (Instr.mapUpdate 125 (.map (some w.heap.size)) (.int .i64 o.t) (.agg #[])).run Tryz.prog W = .ok () (ChangeMaps.setBlock W w.heap.size ob) ∧ AnsI w (ChangeMaps.setBlock W w.heap.size ob) r row (pre ++ [o]) := by
  obtain ⟨es, cl, h1, h2⟩ := h.2.1.run_update keyedI Tryz.underlying125 (kvI ho) (.agg #[])
  have hk : Keep (· = w.heap.size) W (ChangeMaps.setBlock W w.heap.size (.map es cl)) := (Keep.refl (· = w.heap.size) W).setBlock w.heap.size (Or.inr rfl) _
  refine ⟨_, h1, h.1.keep hk ?_, h2.congr (fun k => seenF_snoc _ _ _), h.2.2.1, h.2.2.2.trans (hk.below h.2.2.2.size (fun k hk e => by omega))⟩
  rintro k e rfl
  exact Nat.lt_irrefl _ (h.2.2.1 _ e)

end Go.Proofs.YthhdackaopaojaaGreat
