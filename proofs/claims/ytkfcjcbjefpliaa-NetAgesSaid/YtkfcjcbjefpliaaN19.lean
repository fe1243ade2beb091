import Derived.Test.YtkfcjcbjefpliaaN18
import Derived.Shelf.Spec.SlicesInsertGrow
namespace Go.Proofs.Ytkfcjcbjefpliaa
open Go.RowKit Go.Tg Go.Maps Go.Sort

theorem run_copy_gram (w : World) (ty : TypeId) (b o dLen dCap : Nat) (a : Addr) (sLen sCap : Nat) (cs : List Value) (hn : cs.length = Nat.min sLen dLen * 4)
    (hsrc : ∀ j v, cs[j]? = some v → w.cell? (a.add j) = some v) (hc : ∀ j, j < cs.length → (w.cell? ⟨b, o + j, none⟩).isSome = true) (hf : ∀ j, j < cs.length → w.frozen? ⟨b, o + j, none⟩ = false) (h1 : ∀ v ∈ cs, v.oneCell' = true) :
    (Builtin.copy_ #[48, 48] ty #[.slice (some ⟨b, o, none⟩) dLen dCap, .slice (some a) sLen sCap]).run Try.prog w = .ok (goInt (Nat.min sLen dLen)) (w.setCells b o cs) := by
  have hl := run_loadCells_list (P := Try.prog) w a cs hsrc
  have hst := run_storeCells_cells (P := Try.prog) b o cs 0 w (by simpa using hc) (by simpa using hf) h1
  obtain ⟨i, hi, his⟩ := gram_inf
  simp [Builtin.copy_, run_underlying Try.underlying48, Builtin.lenOf, Builtin.firstCells, sizeOf, typeInfo, hi, his, ← hn, hl, hst]

theorem three_rows (A B X : List Value) (ROW cur2 cur3 : Array Value) (G : Nat) (hA : A.length = 4) (hB : B.length = 4) (hX : X.length = 4) (hRs : ROW.size = G * 4) (hRA : ∀ j, j < 4 → ROW[j]? = A[j]?)
    (hs2 : cur2.size = ROW.size) (hg2 : ∀ j, j < ROW.size → cur2[j]? = if 4 ≤ j ∧ j < 4 + X.length then X[j - 4]? else ROW[j]?) (hs3 : cur3.size = cur2.size)
    (hg3 : ∀ j, j < cur2.size → cur3[j]? = if 8 ≤ j ∧ j < 8 + B.length then B[j - 8]? else cur2[j]?) (hG : 3 ≤ G) : cur3.toList.take (3 * 4) = A ++ X ++ B := by
  apply List.ext_getElem?
  intro j
  by_cases hj : j < 12
  · rw [List.getElem?_take_of_lt (by omega), Array.getElem?_toList, hg3 j (by omega), hB]
    by_cases h8 : 8 ≤ j
    · rw [if_pos (by omega), List.getElem?_append_right (by rw [List.length_append]; omega), List.length_append]
      congr 1
      omega
    · rw [if_neg (by omega), hg2 j (by omega), hX, List.getElem?_append_left (by rw [List.length_append]; omega)]
      by_cases h4 : 4 ≤ j
      · rw [if_pos (by omega), List.getElem?_append_right (by omega), hA]
      · rw [if_neg (by omega), List.getElem?_append_left (by omega)]
        exact hRA j (by omega)
  · rw [List.getElem?_eq_none (by rw [List.length_take]; omega), List.getElem?_eq_none (by rw [List.length_append, List.length_append]; omega)]

def one4 (A : List Value) : Prop := A.length = 4 ∧ ∀ v ∈ A, v.oneCell' = true

set_option maxHeartbeats 4000000 in
set_option maxRecDepth 100000 in
theorem insert_grow (g c bx : Nat) (A B X : List Value) (cur : Array Value) (w : World) (hA : one4 A) (hB : one4 B) (hX : one4 X)
    (hb : w.heap[g]? = some (.cells cur 63 (0, 0))) (hsz : cur.size = 8) (htk : cur.toList.take 8 = A ++ B) (hx : w.heap[bx]? = some (.cells X.toArray 63 (0, 0))) :
    Calls Try.prog 27 #[.slice (some ⟨g, 0, none⟩) 2 2, .int .i64 1, .slice (some ⟨bx, 0, none⟩) 1 c] w fun e w' => ∃ v, e = .returned v ∧
      w'.ownsRow 0 63 4 v 3 (A ++ X ++ B) ∧ v.ownBlock = some w.heap.size ∧ Keep (fun _ => False) w w' := by
  obtain ⟨i0, hi, hz, hsi, hby⟩ := gram_info
  have hcs : ∀ j v, (A ++ B)[j]? = some v → w.cell? ⟨g, j, none⟩ = some v := by
    intro j v hj
    have hl := (List.getElem?_eq_some_iff.1 hj).1
    rw [cells_at (cap := 0) hb htk j (by rw [List.length_append, hA.1, hB.1] at hl; omega)]
    exact hj
  have hvs : ∀ j v, X[j]? = some v → w.cell? ⟨bx, j, none⟩ = some v := by
    intro j v hj
    simp only [World.cell?, hx]
    simpa using hj
  have hgl : g < w.heap.size := (Array.getElem?_eq_some_iff.1 hb).1
  have hxl : bx < w.heap.size := (Array.getElem?_eq_some_iff.1 hx).1
  have hold : (Builtin.firstCells i0.size 1 (.slice (some ⟨g, 0, none⟩) 1 2)).run Try.prog w.drew = .ok A.toArray w.drew := by
    rw [hsi]
    exact run_firstCells_some w.drew 4 1 ⟨g, 0, none⟩ 1 2 A (by rw [hA.1]) (fun j v hj => by
      rw [Addr.add_lit, Nat.zero_add]
      exact hcs j v (by rw [List.getElem?_append_left (List.getElem?_eq_some_iff.1 hj).1]; exact hj))
  obtain ⟨z, hzd⟩ : ∃ z : Value, z = .agg #[.int .i64 0, .int .i64 0, .string ByteArray.empty, .int .i64 0] := ⟨_, rfl⟩
  have hzc : z.cells.size = 4 := by rw [hzd]; rfl
  rw [← hzd] at hz
  clear hzd
  obtain ⟨G, hG⟩ : ∃ G, G = grownCap w 3 2 63 := ⟨_, rfl⟩
  obtain ⟨ROW, hROW⟩ : ∃ ROW : Array Value, ROW = A.toArray ++ Builtin.zeroCells z.cells 2 ++ Builtin.zeroCells z.cells (G - 3) := ⟨_, rfl⟩
  have hrz : ∀ ty, (Builtin.append_ #[48, 3] ty #[.slice (some ⟨g, 0, none⟩) 1 2, .int .i64 2]).run Try.prog w = .ok (.slice (some ⟨w.heap.size, 0, none⟩) 3 G) (w.alloc (.cells ROW 63)).drew := by
    intro ty
    have h := Lib.run_append_grow_zeros (P := Try.prog) w 48 3 ty 63 i0 z .i64 .i64 Try.underlying48 Try.underlying3 hi hz (some ⟨g, 0, none⟩) 1 2 A hold 2 (by omega) (by omega) (by omega) (by omega) (by rw [hby]; omega) (by rw [hby]; exact growslice_fits (by omega) (by omega))
    rw [hROW, hG]
    exact h
  have hGn : 3 ≤ G := by rw [hG]; exact grownCap_ge w _ _ _
  have hG63 : G ≤ maxLen := by rw [hG]; exact grownCap_le_maxLen w 3 2 63 (by unfold maxLen; omega)
  have hRs : ROW.size = G * 4 := by
    rw [hROW]
    simp only [Array.size_append, size_zeroCells, hzc, List.size_toArray, hA.1]
    omega
  have hRA : ∀ j, j < 4 → ROW[j]? = A[j]? := by
    intro j hj
    rw [hROW, Array.append_assoc, Array.getElem?_append_left (by simp [hA.1]; omega)]
    simp
  clear hG hROW hold hz hi hsi hby hzc
  obtain ⟨W1, hW1⟩ : ∃ W1, W1 = (w.alloc (.cells ROW 63)).drew := ⟨_, rfl⟩
  rw [← hW1] at hrz
  have hN1 : W1.heap[w.heap.size]? = some (.cells ROW 63 (0, 0)) := by rw [hW1]; exact get1 w _
  have hk1 : Keep (fun _ => False) w W1 := by rw [hW1]; exact ((Keep.refl _ _).alloc _).drew
  have hc1 : ∀ ty dc, (Builtin.copy_ #[48, 48] ty #[.slice (some ⟨w.heap.size, 4, none⟩) 2 dc, .slice (some ⟨bx, 0, none⟩) 1 c]).run Try.prog W1 = .ok (goInt 1) (W1.setCells w.heap.size 4 X) := by
    intro ty dc
    exact run_copy_gram W1 ty w.heap.size 4 2 dc ⟨bx, 0, none⟩ 1 c X (by rw [hX.1]; rfl) (fun j v hj => by
      rw [Addr.add_lit, Nat.zero_add, hk1.cell (p := ⟨bx, j, none⟩) hxl (by simp)]; exact hvs j v hj)
      (fun j hj => by simp only [World.cell?, hN1]; simp [hRs]; rw [hX.1] at hj; omega) (fun j hj => by simp [World.frozen?, hN1]) hX.2
  obtain ⟨cur2, hN2, hs2, hg2⟩ := setCells_blk (g := w.heap.size) X 4 W1 ROW hN1
  obtain ⟨W2, hW2⟩ : ∃ W2, W2 = W1.setCells w.heap.size 4 X := ⟨_, rfl⟩
  have hk2 : Keep (· = w.heap.size) W1 W2 := by rw [hW2]; exact setCells_keep _ _ _
  rw [← hW2] at hc1 hN2
  have hc2 : ∀ ty dc sc, (Builtin.copy_ #[48, 48] ty #[.slice (some ⟨w.heap.size, 8, none⟩) 1 dc, .slice (some ⟨g, 4, none⟩) 1 sc]).run Try.prog W2.drew = .ok (goInt 1) (W2.drew.setCells w.heap.size 8 B) := by
    intro ty dc sc
    exact run_copy_gram W2.drew ty w.heap.size 8 1 dc ⟨g, 4, none⟩ 1 sc B (by rw [hB.1]; rfl) (fun j v hj => by
      rw [Addr.add_lit]
      show W2.cell? _ = _
      rw [hk2.cell (p := ⟨g, 4 + j, none⟩) (by show g < W1.heap.size; have := hk1.size; omega) (by show g ≠ _; omega), hk1.cell (p := ⟨g, 4 + j, none⟩) hgl (by simp)]
      refine hcs _ v ?_
      rw [List.getElem?_append_right (by rw [hA.1]; omega), hA.1, Nat.add_sub_cancel_left]; exact hj)
      (fun j hj => by show (W2.cell? _).isSome = _; simp only [World.cell?, hN2]; simp [hs2, hRs]; rw [hB.1] at hj; omega) (fun j hj => by show W2.frozen? _ = _; simp [World.frozen?, hN2]) hB.2
  obtain ⟨cur3, hN3, hs3, hg3⟩ := setCells_blk (g := w.heap.size) B 8 W2.drew cur2 hN2
  have hk3 : Keep (· = w.heap.size) W2 (W2.drew.setCells w.heap.size 8 B) := ((Keep.refl _ _).drew).trans (setCells_keep _ _ _)
  have HALL := Lib.hid (And.intro hN3 (And.intro hs3 (And.intro hg3 (And.intro hs2 (And.intro hg2 (And.intro hRs (And.intro hRA (And.intro hGn (And.intro hG63 (And.intro hk1 (And.intro hk2 hk3)))))))))))
  have hG1 : ¬ G = 1 := by omega
  have hG2 : ¬ G = 2 := by omega
  unfold maxLen at hG63
  clear hN3 hs3 hg3 hs2 hg2 hRs hRA hk1 hk2 hk3 hN1 hN2 hcs hvs htk hb hx hsz
  have HA := Lib.hid (And.intro hA (And.intro hB hX))
  clear hA hB hX
  subst hW2
  subst hW1
  go_enter Try.func27, Try.ntmps27
  go_wp2_with (first
    | (at_builtin; refine Lib.wpList_append_run _ rfl _ _ _ _ rfl _ _ rfl rfl _ _ (hrz _) ?_)
    | (at_builtin; refine wpList_copy_runI _ rfl _ _ 48 48 rfl _ _ rfl rfl (hc1 _ _) ?_))
  have hw2 : IntKind.i64.wrap 2 = 2 := by decide
  go_region_law (refine step_copy_runI rfl _ _ 48 48 rfl (.slice (some ⟨w.heap.size, 8, none⟩) 1 (G - 2)) (.slice (some ⟨g, 4, none⟩) 1 1) (by simp [Act.eval, Act.put]) (by simp [Act.eval, Act.put]) (hc2 3 (G - 2) 1) ?_)
  go_wp2_with fail
  go_ret
  obtain ⟨hN3, hs3, hg3, hs2, hg2, hRs, hRA, hGn, hG63, hk1, hk2, hk3⟩ := HALL.out
  obtain ⟨hA, hB, hX⟩ := HA.out
  have hk12 : Keep (fun _ => False) w ((w.alloc (.cells ROW 63)).drew.setCells w.heap.size 4 X) := hk1.transM hk2 (fun _ _ h => h) (fun k hk e => by omega)
  refine ⟨_, rfl, ⟨by simp [hA.1, hB.1, hX.1], Or.inr ⟨w.heap.size, G, cur3, rfl, Nat.zero_le _, hN3, hGn, hG63, by omega, ?_⟩⟩, rfl, hk12.transM hk3 (fun _ _ h => h) (fun k hk e => by omega)⟩
  exact three_rows A B X ROW cur2 cur3 G hA.1 hB.1 hX.1 hRs hRA hs2 hg2 hs3 hg3 hGn
end Go.Proofs.Ytkfcjcbjefpliaa
