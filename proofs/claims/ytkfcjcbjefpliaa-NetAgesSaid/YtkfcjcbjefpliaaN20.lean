import Derived.Test.YtkfcjcbjefpliaaN19
namespace Go.Proofs.Ytkfcjcbjefpliaa
open Go.RowKit Go.Tg Go.Maps Go.Sort

theorem three_in (A B X : List Value) (cur cur2 cur3 : Array Value) (G : Nat) (hA : A.length = 4) (hB : B.length = 4) (hX : X.length = 4) (hRs : cur.size = G * 4) (hRA : cur.toList.take 8 = A ++ B)
    (hs2 : cur2.size = cur.size) (hg2 : ∀ j, j < cur.size → cur2[j]? = if 8 ≤ j ∧ j < 8 + B.length then B[j - 8]? else cur[j]?) (hs3 : cur3.size = cur2.size)
    (hg3 : ∀ j, j < cur2.size → cur3[j]? = if 4 ≤ j ∧ j < 4 + X.length then X[j - 4]? else cur2[j]?) (hG : 3 ≤ G) : cur3.toList.take (3 * 4) = A ++ X ++ B := by
  apply List.ext_getElem?
  intro j
  by_cases hj : j < 12
  · rw [List.getElem?_take_of_lt (by omega), Array.getElem?_toList, hg3 j (by omega), hX]
    by_cases h8 : 8 ≤ j
    · rw [if_neg (by omega), hg2 j (by omega), hB, if_pos (by omega), List.getElem?_append_right (by rw [List.length_append]; omega), List.length_append]
      congr 1
      omega
    · rw [List.getElem?_append_left (by rw [List.length_append]; omega)]
      by_cases h4 : 4 ≤ j
      · rw [if_pos (by omega), List.getElem?_append_right (by omega), hA]
      · rw [if_neg (by omega), hg2 j (by omega), if_neg (by omega), List.getElem?_append_left (by omega)]
        have : (cur.toList.take 8)[j]? = (A ++ B)[j]? := by rw [hRA]
        rw [List.getElem?_take_of_lt (by omega), Array.getElem?_toList, List.getElem?_append_left (by omega)] at this
        exact this
  · rw [List.getElem?_eq_none (by rw [List.length_take]; omega), List.getElem?_eq_none (by rw [List.length_append, List.length_append]; omega)]

set_option maxHeartbeats 4000000 in
set_option maxRecDepth 100000 in
theorem insert_room (g c bx cap : Nat) (A B X : List Value) (cur : Array Value) (w : World) (hA : one4 A) (hB : one4 B) (hX : one4 X)
    (hb : w.heap[g]? = some (.cells cur 63 (0, 0))) (hsz : cur.size = cap * 4) (hcap : 3 ≤ cap) (hmax : cap ≤ maxLen) (htk : cur.toList.take 8 = A ++ B) (hx : w.heap[bx]? = some (.cells X.toArray 63 (0, 0))) (hne : bx ≠ g) :
    Calls Try.prog 27 #[.slice (some ⟨g, 0, none⟩) 2 cap, .int .i64 1, .slice (some ⟨bx, 0, none⟩) 1 c] w fun e w' => ∃ v, e = .returned v ∧
      w'.ownsRow 0 63 4 v 3 (A ++ X ++ B) ∧ v.ownBlock = some g ∧ Keep (· = g) w w' := by
  have hcs : ∀ j v, (A ++ B)[j]? = some v → w.cell? ⟨g, j, none⟩ = some v := by
    intro j v hj
    have hl := (List.getElem?_eq_some_iff.1 hj).1
    rw [cells_at (cap := 0) hb htk j (by rw [List.length_append, hA.1, hB.1] at hl; omega)]
    exact hj
  have hvs : ∀ j v, X[j]? = some v → w.cell? ⟨bx, j, none⟩ = some v := by
    intro j v hj
    simp only [World.cell?, hx]
    simpa using hj
  have hgl : g < w.heap.size := (Array.getElem?_eq_some_iff.1 hb).1
  have hxl : bx < w.heap.size := (Array.getElem?_eq_some_iff.1 hx).1
  have hov : ∀ lb cb, (callFunc 30 #[.slice (some ⟨bx, 0, none⟩) 1 c, .slice (some ⟨g, 8, none⟩) lb cb]).run Try.prog w = .ok (.value (.bool false)) w := fun lb cb => by
    rw [run_callFunc_extern Try.func30 (by kernel_rfl) (by kernel_rfl) (by kernel_rfl) (e := Extern.SlicesOverlaps.overlaps #[48, 48] #[4]) (by kernel_rfl),
      Lib.run_overlaps_apart w 48 4 63 Try.underlying48 4 Try.sizeOf63 ⟨bx, 0, none⟩ ⟨g, 8, none⟩ 1 c lb cb hne 63 63 X.toArray.size cur.size (by simp [World.shape?, hx]) (by simp [World.shape?, hb]) (by omega) (by simp [World.frozen?, hx]) (by simp [World.frozen?, hx])]
    rfl
  have hc1 : ∀ ty dc sc, (Builtin.copy_ #[48, 48] ty #[.slice (some ⟨g, 8, none⟩) 1 dc, .slice (some ⟨g, 4, none⟩) 2 sc]).run Try.prog w.drew = .ok (goInt 1) (w.drew.setCells g 8 B) := by
    intro ty dc sc
    exact run_copy_gram w.drew ty g 8 1 dc ⟨g, 4, none⟩ 2 sc B (by rw [hB.1]; rfl) (fun j v hj => by
      rw [Addr.add_lit]
      show w.cell? _ = _
      refine hcs _ v ?_
      rw [List.getElem?_append_right (by rw [hA.1]; omega), hA.1, Nat.add_sub_cancel_left]; exact hj)
      (fun j hj => by show (w.cell? _).isSome = _; simp only [World.cell?, hb]; simp [hsz]; rw [hB.1] at hj; omega) (fun j hj => by show w.frozen? _ = _; simp [World.frozen?, hb]) hB.2
  obtain ⟨cur2, hN2, hs2, hg2⟩ := setCells_blk (g := g) B 8 w.drew cur hb
  obtain ⟨W2, hW2⟩ : ∃ W2, W2 = w.drew.setCells g 8 B := ⟨_, rfl⟩
  have hk2 : Keep (· = g) w W2 := by rw [hW2]; exact ((Keep.refl _ _).drew).trans (setCells_keep _ _ _)
  rw [← hW2] at hc1 hN2
  have hc2 : ∀ ty dc, (Builtin.copy_ #[48, 48] ty #[.slice (some ⟨g, 4, none⟩) 2 dc, .slice (some ⟨bx, 0, none⟩) 1 c]).run Try.prog W2 = .ok (goInt 1) (W2.setCells g 4 X) := by
    intro ty dc
    exact run_copy_gram W2 ty g 4 2 dc ⟨bx, 0, none⟩ 1 c X (by rw [hX.1]; rfl) (fun j v hj => by
      rw [Addr.add_lit, Nat.zero_add, hk2.cell (p := ⟨bx, j, none⟩) hxl hne]; exact hvs j v hj)
      (fun j hj => by simp only [World.cell?, hN2]; simp [hs2, hsz]; rw [hX.1] at hj; omega) (fun j hj => by simp [World.frozen?, hN2]) hX.2
  obtain ⟨cur3, hN3, hs3, hg3⟩ := setCells_blk (g := g) X 4 W2 cur2 hN2
  have hk3 : Keep (· = g) W2 (W2.setCells g 4 X) := setCells_keep _ _ _
  have HALL := Lib.hid (And.intro hN3 (And.intro hs3 (And.intro hg3 (And.intro hs2 (And.intro hg2 (And.intro hsz (And.intro htk (And.intro hk2 hk3))))))))
  have HM := Lib.hid hmax
  have hG1 : ¬ cap = 1 := by omega
  have hG2 : ¬ cap = 2 := by omega
  unfold maxLen at hmax
  have hw2 : IntKind.i64.wrap 2 = 2 := by decide
  have hw3 : IntKind.i64.wrap 3 = 3 := by decide
  have hgt : decide ((cap : Int) < 3) = false := by simp; omega
  clear hN3 hs3 hg3 hs2 hg2 hk2 hk3 hN2 hcs hvs htk hb hx hsz
  have HA := Lib.hid (And.intro hA (And.intro hB hX))
  clear hA hB hX
  subst hW2
  go_enter Try.func27, Try.ntmps27
  go_wp2_with (simp only [hov])
  go_region_law (refine step_copy_runI rfl _ _ 48 48 rfl (.slice (some ⟨g, 8, none⟩) 1 (cap - 2)) (.slice (some ⟨g, 4, none⟩) 2 (cap - 1)) (by simp [Act.eval, Act.put]) (by simp [Act.eval, Act.put]) (hc1 3 (cap - 2) (cap - 1)) ?_)
  go_wp2_with (at_builtin; refine wpList_copy_runI _ rfl _ _ 48 48 rfl _ _ rfl rfl (hc2 _ _) ?_)
  go_ret
  obtain ⟨hN3, hs3, hg3, hs2, hg2, hsz, htk, hk2, hk3⟩ := HALL.out
  obtain ⟨hA, hB, hX⟩ := HA.out
  refine ⟨_, rfl, ⟨by simp [hA.1, hB.1, hX.1], Or.inr ⟨g, cap, cur3, rfl, Nat.zero_le _, hN3, hcap, HM.out, by omega, ?_⟩⟩, rfl, hk2.trans hk3⟩
  exact three_in A B X cur cur2 cur3 cap hA.1 hB.1 hX.1 hsz htk hs2 hg2 hs3 hg3 hcap
end Go.Proofs.Ytkfcjcbjefpliaa
