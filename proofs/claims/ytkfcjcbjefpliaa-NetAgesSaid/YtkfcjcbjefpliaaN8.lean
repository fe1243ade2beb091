import Derived.Test.YtkfcjcbjefpliaaN7
namespace Go.Proofs.Ytkfcjcbjefpliaa
open Go.RowKit Go.Tg Go.Maps Go.Sort

set_option maxHeartbeats 1000000 in
set_option maxRecDepth 100000 in
theorem del_none (l : List Gram) (lv : Value) (p q sent : Int) (bp bs bw : Nat) (w : World) (hrow : w.ownsRow 0 63 4 lv l.length (flat l)) (h1 : w.cell? ⟨bp, 0, none⟩ = some (.int .i64 p)) (h2 : w.cell? ⟨bp, 1, none⟩ = some (.int .i64 q)) (h3 : w.cell? ⟨bs, 0, none⟩ = some (.int .i64 sent))
    (hs0 : 0 ≤ sent) (hs1 : sent ≤ 9223372036854775807) (hy : Young l p q sent) :
    Calls Try.prog 28 #[lv, .func (.func 29) #[] #[.pointer (some ⟨bp, 0, none⟩), .pointer (some ⟨bs, 0, none⟩), .pointer (some ⟨bw, 0, none⟩)]] w fun e w' => e = .returned lv ∧ Keep (fun _ => False) w w' := by
  have hc := idx_none l lv p q sent bp bs bw w hrow h1 h2 h3 hs0 hs1 hy
  clear hrow h1 h2 h3 hy
  go_enter Try.func28, Try.ntmps28
  go_wp2_with (go_at_call 32; refine hc.mono ?_; rintro e w' ⟨rfl, hk⟩)
  go_ret
  exact ⟨rfl, hk⟩

theorem row_slice {w : World} {v : Value} {n : Nat} {xs : List Value} (h : w.ownsRow 0 63 4 v n xs) : ∃ sa sn sc, v = .slice sa sn sc := by
  obtain ⟨_, ⟨h, _⟩ | ⟨g, cp, cur, hv, _⟩⟩ := h
  · exact ⟨_, _, _, h⟩
  · exact ⟨_, _, _, hv⟩
theorem size2 (w : World) (A B : Obj) : ((w.alloc A).alloc B).heap.size = w.heap.size + 2 := by show (Array.push (Array.push _ _) _).size = _; rw [Array.size_push, Array.size_push]
theorem get1 (w : World) (A : Obj) : (w.alloc A).heap[w.heap.size]? = some A := by show (Array.push _ _)[_]? = _; rw [Array.getElem?_push, if_pos rfl]
theorem get20 (w : World) (A B : Obj) : ((w.alloc A).alloc B).heap[w.heap.size]? = some A := by
  rw [Below.heap_alloc _ _ _ (by show w.heap.size < (Array.push _ _).size; rw [Array.size_push]; omega)]; exact get1 w A
theorem get21 (w : World) (A B : Obj) : ((w.alloc A).alloc B).heap[w.heap.size + 1]? = some B := by
  show (Array.push (Array.push _ _) _)[_]? = _; rw [Array.getElem?_push, if_pos (Array.size_push _).symm]

theorem of_known {w : World} {S : Nat → Prop} {b : Nat} {st : NetS} {loc : Int → Int → Nat} {lv av cv : Value} (h : NetV w S b st loc lv av cv) (p q : Int) (hp : I64 p) (hq : I64 q) {s l : Int} (hat : st.at' p q = some (s, l)) :
    Calls Try.prog 22 #[.pointer (some ⟨b, 0, none⟩), .agg #[.int .i64 p, .int .i64 q]] w fun e w' => e = .returned (.pointer (some ⟨loc p q, 0, none⟩)) ∧ Keep (fun _ => False) w w' := by
  rcases h.cnt with ⟨rfl, hn⟩ | ⟨m, mm, rfl, hSm, hm, hno, hso, hinj⟩
  · rw [hn] at hat; cases hat
  · exact of_there b 0 m mm p q w lv cv (loc p q) hp hq h.blk hm (hso p q s l hat).1

theorem NetV.setL {w w' : World} {S T : Nat → Prop} {b : Nat} {st : NetS} {loc : Int → Int → Nat} {lv av cv lv' : Value} {l' : List Gram} (h : NetV w S b st loc lv av cv) (hk : Keep T w w')
    (hT : ∀ k, T k → k < w.heap.size → k = b ∨ ∃ cur, w.heap[k]? = some (.cells cur 63 (0, 0))) (hb' : w'.heap[b]? = some (.cells #[lv', av, cv] 52 (0, 0))) (hrow : w'.ownsRow 0 63 4 lv' l'.length (flat l'))
    (hS : ∀ k, lv'.ownBlock = some k → S k) : NetV w' S b { st with l := l' } loc lv' av cv := by
  have hmap : ∀ {m mm}, MapAt Try.prog 39 w m mm → ¬ T m := by
    intro m mm hm hTm
    rcases hT m hTm hm.lt with rfl | ⟨cur, hc⟩
    · exact map_ne hm h.blk rfl
    · exact map_ne hm hc rfl
  refine ⟨hb', h.hb, hrow, hS, ?_, ?_, h.ne⟩
  · rcases h.cnt with h' | ⟨m, mm, h1, h2, h3, h4, h5, h6⟩
    · exact Or.inl h'
    · refine Or.inr ⟨m, mm, h1, h2, map_keep h3 hk (hmap h3), h4, fun a c s l hac => ?_, h6⟩
      obtain ⟨p1, p2, p3⟩ := h5 a c s l hac
      have hlt := (Array.getElem?_eq_some_iff.1 p3).1
      refine ⟨p1, p2, (hk.block _ hlt (fun hTk => ?_)).trans p3⟩
      rcases hT _ hTk hlt with e | ⟨cur, hc⟩
      · rw [e, h.blk] at p3; cases p3
      · rw [hc] at p3; cases p3
  · rcases h.cut with h' | ⟨m, mm, h1, h2, h3, h4⟩
    · exact Or.inl h'
    · exact Or.inr ⟨m, mm, h1, h2, map_keep h3 hk (hmap h3), h4⟩

set_option maxHeartbeats 2000000 in
set_option maxRecDepth 100000 in
theorem grow_none {w : World} {S : Nat → Prop} {b : Nat} {st : NetS} {loc : Int → Int → Nat} {lv av cv : Value} (h : NetV w S b st loc lv av cv) (p q : Int) (hp : I64 p) (hq : I64 q) (sent lost : Int) (hat : st.at' p q = some (sent, lost))
    (hs0 : 0 ≤ sent) (hs1 : sent ≤ 9223372036854775807) (hy : Young st.l p q sent) :
    Calls Try.prog 23 #[.pointer (some ⟨b, 0, none⟩), .agg #[.int .i64 p, .int .i64 q]] w fun e w' => e = .returned (.tuple #[]) ∧ NetV w' S b st loc lv av cv ∧ Keep S w w' := by
  obtain ⟨sa, sn, sc, rfl⟩ := row_slice h.row
  have H0 := Lib.hid (h.keep (T := fun _ => False) (((Keep.refl _ _).alloc (.cells #[.pointer (some ⟨b, 0, none⟩)] 24)).alloc (.cells #[.int .i64 p, .int .i64 q] 39)) (by intro k _ _ hk; exact hk))
  have HLT := Lib.hid (Array.getElem?_eq_some_iff.1 h.blk).1
  have HSB := Lib.hid h.hb
  clear h
  go_enter Try.func23, Try.ntmps23
  go_wp2_with fail
  refine (of_known H0.out p q hp hq hat).mono ?_
  rintro e w1 ⟨rfl, hk1⟩
  have h1 := H0.out.keep hk1 (by intro k _ _ hk; exact hk)
  have hcs := (h1.cntAt hat).1
  have hc0 : w1.cell? ⟨loc p q, 0, none⟩ = some (.int .i64 sent) := by simp [World.cell?, hcs]
  have hsz : w.heap.size + 2 ≤ w1.heap.size := by
    have := hk1.size
    rwa [size2] at this
  have hxb : w1.heap[w.heap.size]? = some (.cells #[.pointer (some ⟨b, 0, none⟩)] 24 (0, 0)) := by
    rw [hk1.block _ (by rw [size2]; omega) (by simp)]; exact get20 _ _ _
  have hxp : w1.heap[w.heap.size + 1]? = some (.cells #[.int .i64 p, .int .i64 q] 39 (0, 0)) := by
    rw [hk1.block _ (by rw [size2]; omega) (by simp)]; exact get21 _ _ _
  have hcs' := hcs
  obtain ⟨W, hW⟩ : ∃ W, W = w1.alloc (.cells #[.int .i64 sent] 3 (0, 0)) := ⟨_, rfl⟩
  have hWk : Keep (fun _ => False) w1 W := by rw [hW]; exact (Keep.refl _ _).alloc _
  have hlb : b < w.heap.size := HLT.out
  have CB := Lib.hid (fun n => show (W.drewN n).cell? ⟨w.heap.size, 0, none⟩ = some (.pointer (some ⟨b, 0, none⟩)) from (hWk.cell (p := ⟨w.heap.size, 0, none⟩) (by simp; omega) (by simp)).trans (by simp [World.cell?, hxb]))
  have CP := Lib.hid (fun n => show (W.drewN n).cell? ⟨w.heap.size + 1, 0, none⟩ = some (.int .i64 p) from (hWk.cell (p := ⟨w.heap.size + 1, 0, none⟩) (by simp; omega) (by simp)).trans (by simp [World.cell?, hxp]))
  have CQ := Lib.hid (fun n => show (W.drewN n).cell? ⟨w.heap.size + 1, 1, none⟩ = some (.int .i64 q) from (hWk.cell (p := ⟨w.heap.size + 1, 1, none⟩) (by simp; omega) (by simp)).trans (by simp [World.cell?, hxp]))
  have CS := Lib.hid (fun n => show (W.drewN n).cell? ⟨w1.heap.size, 0, none⟩ = some (.int .i64 sent) from by
    have : W.heap[w1.heap.size]? = some (.cells #[.int .i64 sent] 3 (0, 0)) := by rw [hW]; exact get1 _ _
    show W.cell? _ = _
    simp [World.cell?, this])
  have hWb : W.heap[b]? = some (.cells #[.slice sa sn sc, av, cv] 52 (0, 0)) := by rw [hWk.block b (by omega) (by simp)]; exact h1.blk
  have CL := Lib.hid (fun n => show (W.drewN n).cell? ⟨b, 0, none⟩ = some (.slice sa sn sc) from by show W.cell? _ = _; simp [World.cell?, hWb])
  have CF := Lib.hid (fun n => show (W.drewN n).frozen? ⟨b, 0, none⟩ = false from by show W.frozen? _ = _; simp [World.frozen?, hWb])
  have HR := Lib.hid (fun n => show (W.drewN n).ownsRow 0 63 4 (.slice sa sn sc) st.l.length (flat st.l) from (h1.keep hWk (by intro k _ _ hk; exact hk)).row)
  have HK1 : Hid (Keep (fun _ => False) w W) := Lib.hid (((((Keep.refl _ _).alloc _).alloc _).trans hk1).trans hWk)
  have H1 := Lib.hid (h1.keep hWk (by intro k _ _ hk; exact hk))
  have HY := Lib.hid hy
  have hWs : W.heap.size = w1.heap.size + 1 := by rw [hW]; exact Array.size_push _
  clear hk1 h1 hcs hxb hxp H0 hy hWk hWb hcs'
  go_wp2_with fail
  rw [← hW]
  have hW0 := Lib.hid hW
  clear hW
  have cb0 := CB.out 0
  have cl0 := CL.out 0
  have cf0 := CF.out 0
  simp only [World.drewN_zero] at cb0 cl0 cf0
  have KP : Hid (∀ n w', Keep (fun _ => False) (W.drewN n) w' → w'.cell? ⟨w.heap.size, 0, none⟩ = some (.pointer (some ⟨b, 0, none⟩)) ∧ w'.cell? ⟨b, 0, none⟩ = some (.slice sa sn sc) ∧ w'.frozen? ⟨b, 0, none⟩ = false) := Lib.hid fun n w' hk =>
    ⟨(hk.cell (p := ⟨w.heap.size, 0, none⟩) (by show w.heap.size < W.heap.size; omega) (by simp)).trans (CB.out _),
     (hk.cell (p := ⟨b, 0, none⟩) (by show b < W.heap.size; omega) (by simp)).trans (CL.out _),
     (hk.frozen (p := ⟨b, 0, none⟩) (by show b < W.heap.size; omega) (by simp)).trans (CF.out _)⟩
  have KP2 : Hid (∀ n w', Keep (fun _ => False) (W.drewN n) w' → (w'.setCell ⟨b, 0, none⟩ (.slice sa sn sc)).cell? ⟨w.heap.size, 0, none⟩ = some (.pointer (some ⟨b, 0, none⟩)) ∧ (w'.setCell ⟨b, 0, none⟩ (.slice sa sn sc)).cell? ⟨b, 0, none⟩ = some (.slice sa sn sc) ∧ (w'.setCell ⟨b, 0, none⟩ (.slice sa sn sc)).frozen? ⟨b, 0, none⟩ = false) := Lib.hid fun n w' hk => by
    obtain ⟨e1, e2, e3⟩ := KP.out n w' hk
    refine ⟨?_, ?_, ?_⟩
    · rw [World.cell?_setCell_far _ _ _ _ (by show b ≠ w.heap.size; omega)]; exact e1
    · exact World.cell?_setCell_same' _ _ _ (by rw [e2]; rfl)
    · go_keep
  go_region_held3 (fun w' => w'.cell? ⟨w.heap.size, 0, none⟩ = some (.pointer (some ⟨b, 0, none⟩)) ∧ w'.cell? ⟨b, 0, none⟩ = some (.slice sa sn sc) ∧ w'.frozen? ⟨b, 0, none⟩ = false)
    (first
      | exact KP.out _ _ hk
      | exact KP2.out _ _ hk
      | go_keep)
    (first
      | (go_at_call 28; refine (del_none st.l (.slice sa sn sc) p q sent _ _ _ _ (HR.out _) (CP.out _) (CQ.out _) (CS.out _) hs0 hs1 HY.out).mono ?_; rintro e w' ⟨rfl, hk⟩))
  go_end0
  have hkW : Keep (fun _ => False) W w' := ((Keep.refl _ _).drewN 1).trans hk
  have h3 := H1.out.keep hkW (by intro k _ _ hk; exact hk)
  refine ⟨rfl, ?_, ?_⟩
  · exact h3.setL (T := (· = b)) ((Keep.refl _ _).setB _ _) (fun k hk _ => Or.inl hk) (blk_setCell h3.blk) (row_keep h3.row ((Keep.refl _ _).setB (b := b) _ _) (by rintro k ⟨cur, hc⟩ rfl; rw [h3.blk] at hc; cases hc)) h3.hrow
  · exact ((HK1.out.trans hkW).mono (fun k _ h => h.elim)).setCell _ (Or.inr HSB.out) _
end Go.Proofs.Ytkfcjcbjefpliaa
