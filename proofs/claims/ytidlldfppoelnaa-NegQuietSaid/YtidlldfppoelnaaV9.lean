import Derived.Test.YtidlldfppoelnaaV8
namespace Go.Proofs.Ytidlldfppoelnaa
open Go.RowKit Go.Tg Go.Maps

/-- A row of options of the call's own. -/
def RRow (w : World) (B : Nat) (v : Value) (l : List Rl) : Prop := w.ownsRow B 48 5 v l.length (rlL l).flatten
theorem RRow.nil (w : World) (B : Nat) : RRow w B (.slice none 0 0) [] := World.ownsRow_nil _ _ _ _
theorem RRow.keep {w w' : World} {B : Nat} {v : Value} {l : List Rl} {T : Nat → Prop} (h : RRow w B v l) (hk : Keep T w w') (hT : ∀ k, v.ownBlock = some k → ¬ T k) : RRow w' B v l := by
  obtain ⟨h0, h | ⟨g, cap, cur, hv, h1, h2, h3⟩⟩ := h
  · exact ⟨h0, Or.inl h⟩
  · have hlt := (Array.getElem?_eq_some_iff.1 h2).1
    exact ⟨h0, Or.inr ⟨g, cap, cur, hv, h1, (hk.block g hlt (hT g (by rw [hv]; rfl))).trans h2, h3⟩⟩
theorem RRow.below {w w' : World} {B : Nat} {v : Value} {l : List Rl} (h : RRow w B v l) (hb : Below w.heap.size w w') : RRow w' B v l := h.keep (Keep.of_below (fun _ => False) hb) (fun _ _ h => h)
theorem RRow.lt {w : World} {B : Nat} {v : Value} {l : List Rl} (h : RRow w B v l) : ∀ k, v.ownBlock = some k → k < w.heap.size ∧ B ≤ k := by
  intro k hk
  have := World.ownsRow.lt h k hk
  exact ⟨this.2, this.1⟩
theorem RRow.base {w : World} {B B' : Nat} {v : Value} {l : List Rl} (h : RRow w B v l) (hB : B' ≤ B) : RRow w B' v l := by
  obtain ⟨h0, h | ⟨g, cap, cur, hv, h1, h3⟩⟩ := h
  · exact ⟨h0, Or.inl h⟩
  · exact ⟨h0, Or.inr ⟨g, cap, cur, hv, Nat.le_trans hB h1, h3⟩⟩
theorem RRow.form {w : World} {B : Nat} {v : Value} {l : List Rl} (h : RRow w B v l) : ∃ sa sc, v = .slice sa l.length sc := by
  obtain ⟨_, ⟨h, hn⟩ | ⟨g, cp, cur, hv, _⟩⟩ := h
  · exact ⟨none, 0, by rw [h, hn]⟩
  · exact ⟨_, _, hv⟩
theorem RRow.rls {w : World} {B : Nat} {v : Value} {l : List Rl} (h : RRow w B v l) (hm : l.length ≤ maxLen) : Rls w (fun b => B ≤ b) v l :=
  Rec.of_owns h (rlL_len l).symm (rlL_k l) hm
theorem rlL_app (a b : List Rl) : (rlL (a ++ b)).flatten = (rlL a).flatten ++ (rlL b).flatten := by simp [rlL]

theorem rl_info : ∃ i z, Try.prog.info? 48 = some i ∧ i.zero = some z ∧ i.size = 5 ∧ i.bytes = 48 ∧ z.cells.size = 5 := by
  have h : (Try.prog.info? 48).map (fun i => (i.zero, i.size, i.bytes)) = some (some (.agg #[.int .i64 0, .int .i64 0, .int .i64 0, .int .i64 0, .string ⟨#[]⟩]), 5, 48) := by kernel_rfl
  obtain ⟨i, hi, he⟩ := Option.map_eq_some_iff.1 h
  simp only [Prod.mk.injEq] at he
  exact ⟨i, _, hi, he.1, he.2.1, he.2.2, rfl⟩

theorem rl_one (o : Rl) : ∀ u ∈ o.cells, u.oneCell' = true := by
  intro u hu
  simp [Rl.cells] at hu
  rcases hu with rfl | rfl | rfl | rfl | rfl <;> rfl

theorem rl_bytes : ∀ (l : List Rl), ∀ u ∈ (rlL l).flatten, u.oneCell' = true := by
  intro l u hu
  simp only [List.mem_flatten, rlL, List.mem_map] at hu
  obtain ⟨_, ⟨o, _, rfl⟩, hu⟩ := hu
  exact rl_one o u hu

set_option maxHeartbeats 2000000 in
set_option maxRecDepth 100000 in
/-- slices.Clone of options. -/
theorem cloneR_any (l : List Rl) (lv : Value) (ok : Nat → Prop) (w : World) (hl : Rls w ok lv l) (hmax : l.length ≤ 1000000) :
    Calls Try.prog 61 #[lv] w fun e w' => ∃ v, e = .returned v ∧ RRow w' w.heap.size v l ∧ Below w.heap.size w w' := by
  obtain ⟨sa, c, rfl, hc, hm⟩ := hl.form
  have q22 : ∀ (w : World) (a : Option Addr) (n c n' c' : Nat), (binOp .eql 28 (.slice a n c) (.slice none n' c')).run Try.prog w = .ok (.bool a.isNone) w := fun w a n c n' c' => Lib.run_eql_slice_nil w _ _ a n c n' c' Try.underlying28
  cases sa with
  | none =>
    go_enter Try.func61, Try.ntmps61
    go_wp2
    go_ret
    have e : l = [] := by
      obtain ⟨_, _, _, hv, _, _, h | ⟨_, _, hs, _⟩⟩ := hl
      · exact List.map_eq_nil_iff.1 h
      · have := (Value.slice.inj hv).1
        rw [hs] at this
        cases this
    subst e
    exact ⟨_, rfl, RRow.nil _ _, Below.refl _ _⟩
  | some ad =>
    obtain ⟨i0, z, hi, hz0, hz1, hz2, hzs⟩ := rl_info
    have hfl := hl.flat (by decide)
    have hlen : (rlL l).flatten.length = l.length * 5 := by rw [flatten_len _ (rlL_k l), rlL_len]
    have A : Aside (∀ j u, (rlL l).flatten[j]? = some u → w.cell? (ad.add j) = some u) := hfl
    clear hfl
    go_enter Try.func61, Try.ntmps61
    go_wp2_with (at_builtin; refine wpList_append_own _ rfl _ _ 28 rfl w.heap.size 48 i0 z 5 48 Try.underlying28 hi hz0 hz1 hz2 hzs (by decide) _ _ _ rfl (World.ownsRow_made w #[] 0 (Nat.le_refl _) (Nat.zero_le _) (by simp)) ad l.length c (rlL l).flatten rfl ?qc1 ?qc2 ?qc3 ?qc4 ?qc5 ?qc6 ?_)
    case qc1 => exact hlen
    case qc2 =>
      intro j u hj
      exact Lib.cell?_alloc_some _ (A.out j u hj)
    case qc3 => exact rl_bytes l
    case qc4 => rw [Nat.zero_add]; unfold maxLen; omega
    case qc5 => rw [Nat.zero_add]; omega
    case qc6 => simp
    intro v' w1 hown hgrow hnil
    go_wp2
    go_ret
    refine ⟨v', rfl, by simpa [RRow] using hown, ?_⟩
    exact ((Below.refl _ w).alloc (Nat.le_refl _) _).grown hgrow (by simp) (by intro k hk; simp [Value.ownBlock] at hk; omega)
end Go.Proofs.Ytidlldfppoelnaa
