import Derived.Test.YtidlldfppoelnaaV9
namespace Go.Proofs.Ytidlldfppoelnaa
open Go.RowKit Go.Tg Go.Maps

def intL (l : List Int) : List (List Value) := l.map fun x => [.int .i64 x]
theorem intL_k (l : List Int) : ∀ x ∈ intL l, x.length = 1 := by
  intro x hx; simp only [intL, List.mem_map] at hx; obtain ⟨o, _, rfl⟩ := hx; rfl
theorem intL_len (l : List Int) : (intL l).length = l.length := by simp [intL]
/-- Numbers in memory. -/
def Nums (w : World) (ok : Nat → Prop) (v : Value) (l : List Int) : Prop := Rec 1 w ok v (intL l)
theorem Nums.form {w : World} {ok : Nat → Prop} {v : Value} {l : List Int} (h : Nums w ok v l) : ∃ sa c, v = .slice sa l.length c ∧ l.length ≤ c ∧ c ≤ maxLen := by
  have := Rec.form h
  rwa [intL_len] at this
theorem Nums.below {w w' : World} {ok : Nat → Prop} {v : Value} {l : List Int} (h : Nums w ok v l) (hb : Below w.heap.size w w') : Nums w' ok v l := Rec.keep h (Keep.of_below (fun _ => False) hb) (fun _ _ _ h => h)

/-- A row of options of the call's own. -/
def NRow (w : World) (B : Nat) (v : Value) (l : List Int) : Prop := w.ownsRow B 3 1 v l.length (intL l).flatten
theorem NRow.nil (w : World) (B : Nat) : NRow w B (.slice none 0 0) [] := World.ownsRow_nil _ _ _ _
theorem NRow.keep {w w' : World} {B : Nat} {v : Value} {l : List Int} {T : Nat → Prop} (h : NRow w B v l) (hk : Keep T w w') (hT : ∀ k, v.ownBlock = some k → ¬ T k) : NRow w' B v l := by
  obtain ⟨h0, h | ⟨g, cap, cur, hv, h1, h2, h3⟩⟩ := h
  · exact ⟨h0, Or.inl h⟩
  · have hlt := (Array.getElem?_eq_some_iff.1 h2).1
    exact ⟨h0, Or.inr ⟨g, cap, cur, hv, h1, (hk.block g hlt (hT g (by rw [hv]; rfl))).trans h2, h3⟩⟩
theorem NRow.below {w w' : World} {B : Nat} {v : Value} {l : List Int} (h : NRow w B v l) (hb : Below w.heap.size w w') : NRow w' B v l := h.keep (Keep.of_below (fun _ => False) hb) (fun _ _ h => h)
theorem NRow.lt {w : World} {B : Nat} {v : Value} {l : List Int} (h : NRow w B v l) : ∀ k, v.ownBlock = some k → k < w.heap.size ∧ B ≤ k := by
  intro k hk
  have := World.ownsRow.lt h k hk
  exact ⟨this.2, this.1⟩
theorem NRow.base {w : World} {B B' : Nat} {v : Value} {l : List Int} (h : NRow w B v l) (hB : B' ≤ B) : NRow w B' v l := by
  obtain ⟨h0, h | ⟨g, cap, cur, hv, h1, h3⟩⟩ := h
  · exact ⟨h0, Or.inl h⟩
  · exact ⟨h0, Or.inr ⟨g, cap, cur, hv, Nat.le_trans hB h1, h3⟩⟩
theorem NRow.form {w : World} {B : Nat} {v : Value} {l : List Int} (h : NRow w B v l) : ∃ sa sc, v = .slice sa l.length sc := by
  obtain ⟨_, ⟨h, hn⟩ | ⟨g, cp, cur, hv, _⟩⟩ := h
  · exact ⟨none, 0, by rw [h, hn]⟩
  · exact ⟨_, _, hv⟩
theorem NRow.nums {w : World} {B : Nat} {v : Value} {l : List Int} (h : NRow w B v l) (hm : l.length ≤ maxLen) : Nums w (fun b => B ≤ b) v l :=
  Rec.of_owns h (intL_len l).symm (intL_k l) hm
theorem intL_app (a b : List Int) : (intL (a ++ b)).flatten = (intL a).flatten ++ (intL b).flatten := by simp [intL]

theorem int_info : ∃ i z, Try.prog.info? 3 = some i ∧ i.zero = some z ∧ i.size = 1 ∧ i.bytes = 8 ∧ z.cells.size = 1 := by
  have h : (Try.prog.info? 3).map (fun i => (i.zero, i.size, i.bytes)) = some (some (.int .i64 0), 1, 8) := by kernel_rfl
  obtain ⟨i, hi, he⟩ := Option.map_eq_some_iff.1 h
  simp only [Prod.mk.injEq] at he
  exact ⟨i, _, hi, he.1, he.2.1, he.2.2, rfl⟩

theorem int_bytes : ∀ (l : List Int), ∀ u ∈ (intL l).flatten, u.oneCell' = true := by
  intro l u hu
  simp only [List.mem_flatten, intL, List.mem_map] at hu
  obtain ⟨_, ⟨o, _, rfl⟩, hu⟩ := hu
  obtain rfl := List.mem_singleton.1 hu
  rfl

set_option maxHeartbeats 2000000 in
set_option maxRecDepth 100000 in
/-- slices.Clone of options. -/
theorem cloneN_any (l : List Int) (lv : Value) (ok : Nat → Prop) (w : World) (hl : Nums w ok lv l) (hmax : l.length ≤ 1000000) :
    Calls Try.prog 62 #[lv] w fun e w' => ∃ v, e = .returned v ∧ NRow w' w.heap.size v l ∧ Below w.heap.size w w' := by
  obtain ⟨sa, c, rfl, hc, hm⟩ := hl.form
  have q22 : ∀ (w : World) (a : Option Addr) (n c n' c' : Nat), (binOp .eql 29 (.slice a n c) (.slice none n' c')).run Try.prog w = .ok (.bool a.isNone) w := fun w a n c n' c' => Lib.run_eql_slice_nil w _ _ a n c n' c' Try.underlying29
  cases sa with
  | none =>
    go_enter Try.func62, Try.ntmps62
    go_wp2
    go_ret
    have e : l = [] := by
      obtain ⟨_, _, _, hv, _, _, h | ⟨_, _, hs, _⟩⟩ := hl
      · exact List.map_eq_nil_iff.1 h
      · have := (Value.slice.inj hv).1
        rw [hs] at this
        cases this
    subst e
    exact ⟨_, rfl, NRow.nil _ _, Below.refl _ _⟩
  | some ad =>
    obtain ⟨i0, z, hi, hz0, hz1, hz2, hzs⟩ := int_info
    have hfl := hl.flat (by decide)
    have hlen : (intL l).flatten.length = l.length * 1 := by rw [flatten_len _ (intL_k l), intL_len]
    have A : Aside (∀ j u, (intL l).flatten[j]? = some u → w.cell? (ad.add j) = some u) := hfl
    clear hfl
    go_enter Try.func62, Try.ntmps62
    go_wp2_with (at_builtin; refine wpList_append_own _ rfl _ _ 29 rfl w.heap.size 3 i0 z 1 8 Try.underlying29 hi hz0 hz1 hz2 hzs (by decide) _ _ _ rfl (World.ownsRow_made w #[] 0 (Nat.le_refl _) (Nat.zero_le _) (by simp)) ad l.length c (intL l).flatten rfl ?qc1 ?qc2 ?qc3 ?qc4 ?qc5 ?qc6 ?_)
    case qc1 => exact hlen
    case qc2 =>
      intro j u hj
      exact Lib.cell?_alloc_some _ (A.out j u hj)
    case qc3 => exact int_bytes l
    case qc4 => rw [Nat.zero_add]; unfold maxLen; omega
    case qc5 => rw [Nat.zero_add]; omega
    case qc6 => simp
    intro v' w1 hown hgrow hnil
    go_wp2
    go_ret
    refine ⟨v', rfl, by simpa [NRow] using hown, ?_⟩
    exact ((Below.refl _ w).alloc (Nat.le_refl _) _).grown hgrow (by simp) (by intro k hk; simp [Value.ownBlock] at hk; omega)
end Go.Proofs.Ytidlldfppoelnaa
