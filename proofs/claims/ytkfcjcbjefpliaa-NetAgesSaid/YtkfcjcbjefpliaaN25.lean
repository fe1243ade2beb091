import Derived.Test.YtkfcjcbjefpliaaN23
namespace Go.Tg
open Go Go.RowKit Go.Maps Go.MapKept
open Go.ChangeMaps (setBlock)

open Classical in
noncomputable def del (m : Value → Option Value) (k : Value) : Value → Option Value := fun k' => if k' = k then none else m k'
theorem del_same (m : Value → Option Value) (k : Value) : del m k k = none := by simp [del]
theorem del_other (m : Value → Option Value) {k k' : Value} (h : k' ≠ k) : del m k k' = m k' := by simp [del, h]

variable {P : Program} {K E T : TypeId} {w : World} {b : Nat} {m : Value → Option Value}

theorem MapAt.run_delete (Kd : Keyed P K) (ht : P.underlying T = some (.map K E)) (h : MapAt P K w b m) {k : Value} (hk : KV P K k) (kt ty : TypeId) :
    ∃ es' clock', (Builtin.delete_ #[T, kt] ty #[.map (some b), k]).run P w = .ok (.tuple #[]) (setBlock w b (.map es' clock')) ∧ MapAt P K (setBlock w b (.map es' clock')) b (del m k) := by
  have hsz : b < w.heap.size := by
    obtain ⟨es, clock, hb, _⟩ := h
    exact (Array.getElem?_eq_some_iff.1 hb).1
  have hself : ∀ o, (setBlock w b o).heap[b]? = some o := fun o => by simp [setBlock, hsz]
  have hm := h
  obtain ⟨es, clock, hb, r, hr, hrm, hkeys, hs, h1, h2⟩ := h.find Kd hk
  obtain ⟨es0, clock0, hb0, hs0, hkeys0, hm⟩ := hm
  rw [hb] at hb0
  cases hb0
  obtain ⟨l, hl⟩ := hk
  cases r with
  | none =>
    have hne := h2 rfl
    refine ⟨es, clock, ?_, _, _, hself _, hs, hkeys, ?_⟩
    · simp [Builtin.delete_, run_underlying ht, MapKept.run_getObj_map hb, Kd.check w es.isEmpty hl, hr, MapKept.run_setObj_map _ hb, Result.andThen, setBlock]
    · intro k' v'
      by_cases hkk : k' = k
      · subst hkk
        rw [del_same]
        constructor
        · intro h; cases h
        · rintro ⟨e, he, h3, _⟩; exact absurd h3 (hne e he)
      · rw [del_other _ hkk, hm]
  | some x =>
    obtain ⟨i, v0⟩ := x
    obtain ⟨e0, he0, hek⟩ := h1 i v0 rfl
    have hi : i < es.size := (Array.getElem?_eq_some_iff.1 he0).1
    have hlist : (es.eraseIdxIfInBounds i).toList = es.toList.eraseIdx i := by
      unfold Array.eraseIdxIfInBounds
      simp [hi]
    have hdist := ((stamped_iff es clock).1 hs).2.2
    have hother : ∀ (j : Nat) (e : MapEntry), es.toList[j]? = some e → j ≠ i → e.key ≠ k := by
      intro j e hj hne heq
      have hj' : j < es.toList.length := (List.getElem?_eq_some_iff.1 hj).1
      have hi' : i < es.toList.length := by simpa using hi
      have hje : es.toList[j] = e := by rw [List.getElem?_eq_getElem hj'] at hj; exact Option.some.inj hj
      have hie : es.toList[i] = e0 := by
        have : es[i] = e0 := by simpa [hi] using he0
        simpa using this
      rw [List.pairwise_iff_getElem] at hdist
      rcases Nat.lt_or_gt_of_ne hne with hlt | hlt
      · have := hdist j i hj' hi' hlt
        rw [hje, hie, hek, heq] at this
        exact this rfl
      · have := hdist i j hi' hj' hlt
        rw [hje, hie, hek, heq] at this
        exact this rfl
    refine ⟨es.eraseIdxIfInBounds i, clock, ?_, _, _, hself _, stamped_erase hs i, ?_, ?_⟩
    · simp [Builtin.delete_, run_underlying ht, MapKept.run_getObj_map hb, Kd.check w es.isEmpty hl, hr, MapKept.run_setObj_map _ hb, Result.andThen, setBlock]
    · intro e he
      rw [hlist] at he
      exact hkeys e (List.mem_of_mem_eraseIdx he)
    · intro k' v'
      rw [hlist]
      by_cases hkk : k' = k
      · subst hkk
        rw [del_same]
        constructor
        · intro h; cases h
        · rintro ⟨e, he, h3, _⟩
          obtain ⟨j, hj⟩ := List.mem_iff_getElem?.1 he
          rw [List.getElem?_eraseIdx] at hj
          split at hj
          · exact absurd h3 (hother j e hj (by omega))
          · exact absurd h3 (hother (j + 1) e hj (by omega))
      · rw [del_other _ hkk, hm]
        constructor
        · rintro ⟨e, he, h3, h4⟩
          obtain ⟨j, hj⟩ := List.mem_iff_getElem?.1 he
          have hji : j ≠ i := by
            rintro rfl
            have : e = e0 := by
              have h7 : es.toList[j]? = some e0 := by simpa using he0
              rw [h7] at hj
              exact (Option.some.inj hj).symm
            rw [this, hek] at h3
            exact hkk h3.symm
          refine ⟨e, ?_, h3, h4⟩
          by_cases hlt : j < i
          · exact List.mem_iff_getElem?.2 ⟨j, by rw [List.getElem?_eraseIdx, if_pos hlt]; exact hj⟩
          · exact List.mem_iff_getElem?.2 ⟨j - 1, by rw [List.getElem?_eraseIdx, if_neg (by omega), show j - 1 + 1 = j from by omega]; exact hj⟩
        · rintro ⟨e, he, h3, h4⟩
          exact ⟨e, List.mem_of_mem_eraseIdx he, h3, h4⟩

/-- 'delete(m, k)' as one step of a region that draws its order. -/
theorem step_delete {ops : Array Oper} {o : Oper} {a : Act} {K' : Act → World → Prop} {Q : Exit → Act → World → Prop} {E0 : Prop} (hg : o.guard = none) (x k : Operand) (T K E kt : TypeId) (hop : o.op = .call { callee := .builtin .delete, args := #[x, k], argTypes := #[T, kt] })
    (Kd : Keyed P K) (ht : P.underlying T = some (.map K E)) (b : Nat) (m : Value → Option Value) (hx : a.eval x = .map (some b)) (kv : Value) (hk : a.eval k = kv) (hkv : KV P K kv) (h : MapAt P K w b m)
    (hK : ∀ w', MapAt P K w' b (del m kv) → Keep (· = b) w w' → w'.heap.size = w.heap.size → K' (a.put o.dst (.tuple #[])) w') :
    if Region.wanted o (yielded ops a.tmps) = true then Oper.wp P o a w K' Q else E0 := by
  have hw : Region.wanted o (yielded ops a.tmps) = true := by simp [Region.wanted, hg]
  rw [if_pos hw]
  subst hk
  obtain ⟨es', clock', hrun, hm⟩ := h.run_delete Kd ht hkv kt o.type
  unfold Oper.wp execOp
  simp only [hop, resolve, invoke, builtin, Sem.run_bind, Sem.run_pure, Result.andThen_ok, List.map_toArray, List.map_cons, List.map_nil, hx, hrun]
  exact hK _ hm ((Keep.refl (· = b) w).setBlock b (Or.inr rfl) _) (setBlock_size _ _ _)
end Go.Tg
