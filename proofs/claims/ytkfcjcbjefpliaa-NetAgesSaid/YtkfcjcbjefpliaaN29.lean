import Derived.Test.YtkfcjcbjefpliaaN26
import Derived.Test.YtkfcjcbjefpliaaN14
namespace Go.Proofs.Ytkfcjcbjefpliaa
open Go.RowKit Go.Tg Go.Maps Go.Sort

set_option maxHeartbeats 2000000 in
set_option maxRecDepth 100000 in
theorem old_any (f t : Int) (d : ByteArray) (n sent : Int) (bp bs bw : Nat) {w : World} {S : Nat → Prop} {b : Nat} {st : NetS} {loc : Int → Int → Nat} {lv av cv : Value} (h : NetV w S b st loc lv av cv)
    (h1 : w.cell? ⟨bp, 0, none⟩ = some (.int .i64 f)) (h2 : w.cell? ⟨bp, 1, none⟩ = some (.int .i64 t)) (h3 : w.cell? ⟨bs, 0, none⟩ = some (.int .i64 sent)) (h4 : w.cell? ⟨bw, 0, none⟩ = some (.pointer (some ⟨b, 0, none⟩)))
    (hs0 : 0 ≤ sent) (hs1 : sent ≤ 9223372036854775807) (hn : 0 ≤ n) (hn1 : n ≤ 9223372036854775807) (hy : 20000 ≤ sent - n) (hf : I64 f) (ht : I64 t)
    (hl0 : 0 ≤ ((st.at' f t).getD (0, 0)).2) (hl : ((st.at' f t).getD (0, 0)).2 < 9223372036854775807) :
    Calls Try.prog 29 #[.agg #[.int .i64 f, .int .i64 t, .string d, .int .i64 n], .pointer (some ⟨bp, 0, none⟩), .pointer (some ⟨bs, 0, none⟩), .pointer (some ⟨bw, 0, none⟩)] w fun e w' =>
      ∃ loc' av', e = .returned (.bool true) ∧ NetV w' (Grow S w) b { st with at' := lostAt st.at' f t } loc' lv av' cv ∧ Keep S w w' := by
  have l1 : ∀ k os, (grow ((w.alloc (.cells #[.int .i64 f, .int .i64 t, .string d, .int .i64 n] 63)).drewN k) os).cell? ⟨bp, 0, none⟩ = some (.int .i64 f) := fun k os => grown_cell (by go_keep) k os
  have l2 : ∀ k os, (grow ((w.alloc (.cells #[.int .i64 f, .int .i64 t, .string d, .int .i64 n] 63)).drewN k) os).cell? ⟨bp, 1, none⟩ = some (.int .i64 t) := fun k os => grown_cell (by go_keep) k os
  have l3 : ∀ k os, (grow ((w.alloc (.cells #[.int .i64 f, .int .i64 t, .string d, .int .i64 n] 63)).drewN k) os).cell? ⟨bs, 0, none⟩ = some (.int .i64 sent) := fun k os => grown_cell (by go_keep) k os
  have l4 : ∀ k os, (grow ((w.alloc (.cells #[.int .i64 f, .int .i64 t, .string d, .int .i64 n] 63)).drewN k) os).cell? ⟨bw, 0, none⟩ = some (.pointer (some ⟨b, 0, none⟩)) := fun k os => grown_cell (by go_keep) k os
  have g0 : ∀ k os, (grow ((w.alloc (.cells #[.int .i64 f, .int .i64 t, .string d, .int .i64 n] 63)).drewN k) os).cell? ⟨w.heap.size, 0, none⟩ = some (.int .i64 f) := fun k os => grown_cell (by go_keep) k os
  have g1 : ∀ k os, (grow ((w.alloc (.cells #[.int .i64 f, .int .i64 t, .string d, .int .i64 n] 63)).drewN k) os).cell? ⟨w.heap.size, 1, none⟩ = some (.int .i64 t) := fun k os => grown_cell (by go_keep) k os
  have g2 : ∀ k os, (grow ((w.alloc (.cells #[.int .i64 f, .int .i64 t, .string d, .int .i64 n] 63)).drewN k) os).cell? ⟨w.heap.size, 2, none⟩ = some (.string d) := fun k os => grown_cell (by go_keep) k os
  have g3 : ∀ k os, (grow ((w.alloc (.cells #[.int .i64 f, .int .i64 t, .string d, .int .i64 n] 63)).drewN k) os).cell? ⟨w.heap.size, 3, none⟩ = some (.int .i64 n) := fun k os => grown_cell (by go_keep) k os
  have heq := eql39
  have HK : Hid (∀ k os, Keep (fun _ => False) w (grow ((w.alloc (.cells #[.int .i64 f, .int .i64 t, .string d, .int .i64 n] 63)).drewN k) os)) := Lib.hid (fun k os => ((Keep.refl _ _).alloc _).trans (grown_keep _ _ _ _))
  have HL := Lib.hid (fun k os => lose_any (h.keep (HK.out k os) (fun _ _ _ h => h)) f t d hf ht hl0 hl)
  have hpq : (f == f && t == t) = true := by simp
  have hd : decide (20000 ≤ sent - n) = true := by simpa using hy
  have HD := Lib.hid hd
  clear hd h1 h2 h3 h4 h hl0 hl
  go_enter Try.func29, Try.ntmps29
  go_wp2_with fail
  refine wp_region_grown (by kernel_rfl) (by kernel_rfl) ?_
  repeat (quiet_step (first | (go_at_call 21; exact grown_call (pair_grow _ _ _ _))))
  refine wpQuiet_nil ?_
  rintro _ ⟨⟨nq, osq⟩, rfl⟩
  rw [show IntKind.i64.wrap (sent - n) = sent - n from IntWalk.i64_in _ (by omega), HD.out]
  go_wp2_with fail
  refine (HL.out nq osq).mono ?_
  rintro e w2 ⟨loc2, av2, rfl, hh, hk⟩
  have H2 := Lib.hid (And.intro hh hk)
  clear hh hk
  go_wp2_with fail
  go_ret
  exact ⟨loc2, av2, rfl, H2.out.1.mono (fun k hk => hk.imp id (fun h => Nat.le_trans (HK.out nq osq).size h)), ((HK.out nq osq).mono (fun _ _ h => h.elim)).trans H2.out.2⟩

set_option maxHeartbeats 2000000 in
set_option maxRecDepth 100000 in
/-- IndexFunc over one datagram, which is too old: 0; it is counted as lost. -/
theorem idx_old (f t : Int) (d : ByteArray) (n sent : Int) (bp bs bw g cap : Nat) {w : World} {S : Nat → Prop} {b : Nat} {st : NetS} {loc : Int → Int → Nat} {av cv : Value} (h : NetV w S b st loc (.slice (some ⟨g, 0, none⟩) 1 cap) av cv) (hl : st.l = [Gram.mk f t d n])
    (h1 : w.cell? ⟨bp, 0, none⟩ = some (.int .i64 f)) (h2 : w.cell? ⟨bp, 1, none⟩ = some (.int .i64 t)) (h3 : w.cell? ⟨bs, 0, none⟩ = some (.int .i64 sent)) (h4 : w.cell? ⟨bw, 0, none⟩ = some (.pointer (some ⟨b, 0, none⟩)))
    (hs0 : 0 ≤ sent) (hs1 : sent ≤ 9223372036854775807) (hn : 0 ≤ n) (hn1 : n ≤ 9223372036854775807) (hy : 20000 ≤ sent - n) (hf : I64 f) (ht : I64 t)
    (hl0 : 0 ≤ ((st.at' f t).getD (0, 0)).2) (hlm : ((st.at' f t).getD (0, 0)).2 < 9223372036854775807) :
    Calls Try.prog 32 #[.slice (some ⟨g, 0, none⟩) 1 cap, .func (.func 29) #[] #[.pointer (some ⟨bp, 0, none⟩), .pointer (some ⟨bs, 0, none⟩), .pointer (some ⟨bw, 0, none⟩)]] w fun e w' =>
      ∃ loc' av', e = .returned (.int .i64 0) ∧ NetV w' (Grow S w) b { st with at' := lostAt st.at' f t } loc' (.slice (some ⟨g, 0, none⟩) 1 cap) av' cv ∧ Keep S w w' := by
  have HO := Lib.hid (old_any f t d n sent bp bs bw h h1 h2 h3 h4 hs0 hs1 hn hn1 hy hf ht hl0 hlm)
  have hrow := h.row
  rw [hl] at hrow
  obtain ⟨g', hg, hlt, -, hcap, hmax, hcells⟩ := row_cells hrow
  cases hg
  obtain ⟨c0, c1, c2, c3⟩ := hcells 0 (Nat.zero_lt_one)
  simp only [Nat.zero_mul, Nat.zero_add, List.getElem_cons_zero] at c0 c1 c2 c3
  unfold maxLen at hmax
  clear hcells hrow h h1 h2 h3 h4 hl0 hlm hy
  go_enter Try.func32, Try.ntmps32
  go_wp2_with fail
  go_loopg [8] 1 (fun n i wr => i = .int .i64 0 ∧ wr = w ∧ n = 1)
  case atStart => exact ⟨rfl, rfl, rfl⟩
  case round =>
    obtain ⟨rfl, rfl, rfl⟩ := hrel
    go_wp2_with fail
    refine HO.out.mono ?_
    rintro e w2 ⟨loc2, av2, rfl, hh, hk⟩
    have H2 := Lib.hid (And.intro hh hk)
    clear hh hk
    go_wp2_with fail
    go_ret
    exact ⟨loc2, av2, rfl, H2.out.1, H2.out.2⟩

set_option maxHeartbeats 2000000 in
set_option maxRecDepth 100000 in
/-- DeleteFunc over one datagram, which is too old: it is struck out. -/
theorem del_old (f t : Int) (d : ByteArray) (n sent : Int) (bp bs bw g cap : Nat) {w : World} {S : Nat → Prop} {b : Nat} {st : NetS} {loc : Int → Int → Nat} {av cv : Value} (h : NetV w S b st loc (.slice (some ⟨g, 0, none⟩) 1 cap) av cv) (hl : st.l = [Gram.mk f t d n])
    (h1 : w.cell? ⟨bp, 0, none⟩ = some (.int .i64 f)) (h2 : w.cell? ⟨bp, 1, none⟩ = some (.int .i64 t)) (h3 : w.cell? ⟨bs, 0, none⟩ = some (.int .i64 sent)) (h4 : w.cell? ⟨bw, 0, none⟩ = some (.pointer (some ⟨b, 0, none⟩)))
    (hs0 : 0 ≤ sent) (hs1 : sent ≤ 9223372036854775807) (hn : 0 ≤ n) (hn1 : n ≤ 9223372036854775807) (hy : 20000 ≤ sent - n) (hf : I64 f) (ht : I64 t)
    (hl0 : 0 ≤ ((st.at' f t).getD (0, 0)).2) (hlm : ((st.at' f t).getD (0, 0)).2 < 9223372036854775807) :
    Calls Try.prog 28 #[.slice (some ⟨g, 0, none⟩) 1 cap, .func (.func 29) #[] #[.pointer (some ⟨bp, 0, none⟩), .pointer (some ⟨bs, 0, none⟩), .pointer (some ⟨bw, 0, none⟩)]] w fun e w' =>
      ∃ loc' av' w1, e = .returned (.slice (some ⟨g, 0, none⟩) 0 cap) ∧ NetV w1 (Grow S w) b { st with at' := lostAt st.at' f t } loc' (.slice (some ⟨g, 0, none⟩) 1 cap) av' cv ∧ Keep S w w1 ∧
        w' = w1.setCells g 0 [.int .i64 0, .int .i64 0, .string (ByteArray.mk #[]), .int .i64 0] := by
  have HO := Lib.hid (idx_old f t d n sent bp bs bw g cap h hl h1 h2 h3 h4 hs0 hs1 hn hn1 hy hf ht hl0 hlm)
  clear h h1 h2 h3 h4 hl0 hlm hy
  go_enter Try.func28, Try.ntmps28
  go_wp2_with fail
  refine HO.out.mono ?_
  rintro e w2 ⟨loc2, av2, rfl, hh, hk⟩
  have hrow := hh.row
  rw [show ({ st with at' := lostAt st.at' f t } : NetS).l = [Gram.mk f t d n] from hl] at hrow
  obtain ⟨cur, hc, hc1, hmax, hsize⟩ : ∃ cur, w2.heap[g]? = some (.cells cur 63 (0, 0)) ∧ 1 ≤ cap ∧ cap ≤ maxLen ∧ cur.size = cap * 4 := by
    obtain ⟨_, ⟨hv, _⟩ | ⟨g1, c1, cur, hv, _, q2, q3, q4, q5, _⟩⟩ := hrow
    · cases hv
    · cases hv; exact ⟨cur, q2, q3, q4, q5⟩
  have hz := fun c => run_clear_gram w2 0 g 0 c (fun j hj => by simp only [World.cell?, hc]; simp; omega) (fun j hj => by simp [World.frozen?, hc])
  have H2 := Lib.hid (And.intro hh hk)
  unfold maxLen at hmax
  have f2 : ¬ cap = 0 := by omega
  clear hh hk hrow hc hl
  go_wp2_with fail
  go_loopg [5, 6] 1 (fun n i j wr => i = .int .i64 0 ∧ j = .int .i64 1 ∧ w2 = wr ∧ n = 1)
  case atStart => exact ⟨rfl, rfl, rfl, rfl⟩
  case round =>
    obtain ⟨rfl, rfl, rfl, rfl⟩ := hrel
    go_wp2_with fail
    go_ret
    exact ⟨loc2, av2, w2, rfl, H2.out.1, H2.out.2, rfl⟩

theorem setCells_other3 (w : World) (g b : Nat) (vs : List Value) (hgb : b ≠ g) : (w.setCells g 0 vs).heap[b]? = w.heap[b]? := by
  generalize (0 : Nat) = o
  induction vs generalizing o w with
  | nil => rfl
  | cons v vs ih =>
    show ((w.setCell ⟨g, o, none⟩ v).setCells g (o + 1) vs).heap[b]? = _
    rw [ih]
    exact Below.heap_setCell _ _ _ _ hgb

theorem old_end {w3 : World} {S' : Nat → Prop} {b g cap : Nat} {st : NetS} {loc : Int → Int → Nat} {av cv : Value} (zs : List Value) (h : NetV w3 S' b st loc (.slice (some ⟨g, 0, none⟩) 1 cap) av cv) (hl : st.l.length = 1) :
    NetV ((w3.setCells g 0 zs).setCell ⟨b, 0, none⟩ (.slice (some ⟨g, 0, none⟩) 0 cap)) S' b { st with l := [] } loc (.slice (some ⟨g, 0, none⟩) 0 cap) av cv ∧
      Keep (fun k => k = b ∨ k = g) w3 ((w3.setCells g 0 zs).setCell ⟨b, 0, none⟩ (.slice (some ⟨g, 0, none⟩) 0 cap)) := by
  have hgb : b ≠ g := by
    rintro rfl
    exact row_ne h.row h.blk rfl
  obtain ⟨cur, hc, hcap, hmax, hsz⟩ : ∃ cur, w3.heap[g]? = some (.cells cur 63 (0, 0)) ∧ 1 ≤ cap ∧ cap ≤ maxLen ∧ cur.size = cap * 4 := by
    have hr := h.row
    rw [hl] at hr
    obtain ⟨_, ⟨hv, _⟩ | ⟨g1, c1, cur, hv, _, q2, q3, q4, q5, _⟩⟩ := hr
    · cases hv
    · cases hv; exact ⟨cur, q2, q3, q4, q5⟩
  have hk : Keep (fun k => k = b ∨ k = g) w3 ((w3.setCells g 0 zs).setCell ⟨b, 0, none⟩ (.slice (some ⟨g, 0, none⟩) 0 cap)) :=
    ((setCells_keep zs 0 w3).mono (S' := fun k => k = b ∨ k = g) (fun _ _ h => Or.inr h)).setCell ⟨b, 0, none⟩ (Or.inr (Or.inl rfl)) _
  obtain ⟨cur', hc', hs', -⟩ := setCells_blk zs 0 w3 cur hc
  refine ⟨h.setL (l' := []) hk ?_ (blk_setCell ((setCells_other3 w3 g b zs hgb).trans h.blk)) ?_ h.hrow, hk⟩
  · rintro k (rfl | rfl) _
    · exact Or.inl rfl
    · exact Or.inr ⟨cur, hc⟩
  · exact ⟨rfl, Or.inr ⟨g, cap, cur', rfl, Nat.zero_le _, (Below.heap_setCell _ _ _ _ (Ne.symm hgb)).trans hc', Nat.zero_le _, hmax, by rw [hs', hsz], rfl⟩⟩

set_option maxHeartbeats 4000000 in
set_option maxRecDepth 100000 in
/-- growOld where the one datagram on its way is too old. -/
theorem grow_old {w : World} {S : Nat → Prop} {b : Nat} {st : NetS} {loc : Int → Int → Nat} {lv av cv : Value} (h : NetV w S b st loc lv av cv) (f t : Int) (d : ByteArray) (n : Int) (hl : st.l = [Gram.mk f t d n]) (hf : I64 f) (ht : I64 t) (sent lost : Int) (hat : st.at' f t = some (sent, lost))
    (hs0 : 0 ≤ sent) (hs1 : sent ≤ 9223372036854775807) (hn : 0 ≤ n) (hn1 : n ≤ 9223372036854775807) (hy : 20000 ≤ sent - n) (hl0 : 0 ≤ lost) (hl1 : lost < 9223372036854775807) :
    Calls Try.prog 23 #[.pointer (some ⟨b, 0, none⟩), .agg #[.int .i64 f, .int .i64 t]] w fun e w' => ∃ loc' lv' av', e = .returned (.tuple #[]) ∧ NetV w' (Grow S w) b { st with l := [], at' := setAt st.at' f t (sent, lost + 1) } loc' lv' av' cv ∧ Keep S w w' := by
  replace h := h.cap
  obtain ⟨S0, hS0⟩ : ∃ S0 : Nat → Prop, S0 = fun k => S k ∧ k < w.heap.size := ⟨_, rfl⟩
  rw [← hS0] at h
  have HS0 : Hid (∀ k, S0 k → S k ∧ k < w.heap.size) := Lib.hid (fun k hk => by rw [hS0] at hk; exact hk)
  clear hS0
  obtain ⟨g, cap, rfl⟩ : ∃ g cap, lv = .slice (some ⟨g, 0, none⟩) 1 cap := by
    have hr := h.row
    rw [hl] at hr
    obtain ⟨_, ⟨_, hn⟩ | ⟨g, cap, cur, hv, _⟩⟩ := hr
    · cases hn
    · exact ⟨g, cap, hv⟩
  have H0 := Lib.hid (h.keep (T := fun _ => False) (((Keep.refl _ _).alloc (.cells #[.pointer (some ⟨b, 0, none⟩)] 24)).alloc (.cells #[.int .i64 f, .int .i64 t] 39)) (by intro k _ _ hk; exact hk))
  have HLT := Lib.hid (Array.getElem?_eq_some_iff.1 h.blk).1
  have HSB := Lib.hid h.hb
  have HSG := Lib.hid (h.hrow g rfl)
  have HHL := Lib.hid hl
  have HAT := Lib.hid hat
  clear h hl
  go_enter Try.func23, Try.ntmps23
  go_wp2_with fail
  refine (of_known H0.out f t hf ht hat).mono ?_
  rintro e w1 ⟨rfl, hk1⟩
  have h1 := H0.out.keep hk1 (by intro k _ _ hk; exact hk)
  have hcs := (h1.cntAt hat).1
  have hc0 : w1.cell? ⟨loc f t, 0, none⟩ = some (.int .i64 sent) := by simp [World.cell?, hcs]
  have hsz : w.heap.size + 2 ≤ w1.heap.size := by
    have := hk1.size
    rwa [size2] at this
  have hxb : w1.heap[w.heap.size]? = some (.cells #[.pointer (some ⟨b, 0, none⟩)] 24 (0, 0)) := by
    rw [hk1.block _ (by rw [size2]; omega) (by simp)]; exact get20 _ _ _
  have hxp : w1.heap[w.heap.size + 1]? = some (.cells #[.int .i64 f, .int .i64 t] 39 (0, 0)) := by
    rw [hk1.block _ (by rw [size2]; omega) (by simp)]; exact get21 _ _ _
  obtain ⟨W, hW⟩ : ∃ W, W = w1.alloc (.cells #[.int .i64 sent] 3 (0, 0)) := ⟨_, rfl⟩
  have hWk : Keep (fun _ => False) w1 W := by rw [hW]; exact (Keep.refl _ _).alloc _
  have hlb : b < w.heap.size := HLT.out
  have cB : W.cell? ⟨w.heap.size, 0, none⟩ = some (.pointer (some ⟨b, 0, none⟩)) := (hWk.cell (p := ⟨w.heap.size, 0, none⟩) (by simp; omega) (by simp)).trans (by simp [World.cell?, hxb])
  have cP : W.cell? ⟨w.heap.size + 1, 0, none⟩ = some (.int .i64 f) := (hWk.cell (p := ⟨w.heap.size + 1, 0, none⟩) (by simp; omega) (by simp)).trans (by simp [World.cell?, hxp])
  have cQ : W.cell? ⟨w.heap.size + 1, 1, none⟩ = some (.int .i64 t) := (hWk.cell (p := ⟨w.heap.size + 1, 1, none⟩) (by simp; omega) (by simp)).trans (by simp [World.cell?, hxp])
  have cS : W.cell? ⟨w1.heap.size, 0, none⟩ = some (.int .i64 sent) := by
    have : W.heap[w1.heap.size]? = some (.cells #[.int .i64 sent] 3 (0, 0)) := by rw [hW]; exact get1 _ _
    simp [World.cell?, this]
  have hvW := h1.keep hWk (by intro k _ _ hk; exact hk)
  have hWb := hvW.blk
  have cL : W.cell? ⟨b, 0, none⟩ = some (.slice (some ⟨g, 0, none⟩) 1 cap) := cell_of hWb 0 _ rfl
  have hWs : W.heap.size = w1.heap.size + 1 := by rw [hW]; exact Array.size_push _
  have hDW : NetV W.drew S0 b st loc (.slice (some ⟨g, 0, none⟩) 1 cap) av cv := hvW.keep ((Keep.refl (fun _ => False) _).drew) (fun _ _ _ h => h)
  have HD0 := del_old f t d n sent (w.heap.size + 1) w1.heap.size w.heap.size g cap hDW HHL.out cP cQ cS cB hs0 hs1 hn hn1 hy hf ht (by rw [HAT.out]; exact hl0) (by rw [HAT.out]; exact hl1)
  have HD : Hid (Calls Try.prog 28 #[.slice (some ⟨g, 0, none⟩) 1 cap, .func (.func 29) #[] #[.pointer (some ⟨w.heap.size + 1, 0, none⟩), .pointer (some ⟨w1.heap.size, 0, none⟩), .pointer (some ⟨w.heap.size, 0, none⟩)]] W.drew fun e w' =>
      e = .returned (.slice (some ⟨g, 0, none⟩) 0 cap) ∧ (∃ loc' av' w3, NetV w3 (Grow S0 W.drew) b { st with at' := lostAt st.at' f t } loc' (.slice (some ⟨g, 0, none⟩) 1 cap) av' cv ∧ Keep S0 W.drew w3 ∧
        w' = w3.setCells g 0 [.int .i64 0, .int .i64 0, .string (ByteArray.mk #[]), .int .i64 0]) ∧ w'.cell? ⟨w.heap.size, 0, none⟩ = some (.pointer (some ⟨b, 0, none⟩)) ∧ w'.cell? ⟨b, 0, none⟩ = some (.slice (some ⟨g, 0, none⟩) 1 cap) ∧ w'.frozen? ⟨b, 0, none⟩ = false) := Lib.hid (by
    refine HD0.mono ?_
    rintro e w' ⟨loc', av', w3, rfl, hv, hk, rfl⟩
    have hgb : b ≠ g := by
      rintro rfl
      exact row_ne hv.row hv.blk rfl
    have hgx : w.heap.size ≠ g := by have := (HS0.out g HSG.out).2; omega
    have e1 := (setCells_other3 w3 g b [.int .i64 0, .int .i64 0, .string (ByteArray.mk #[]), .int .i64 0] hgb).trans hv.blk
    have e2 := (setCells_other3 w3 g w.heap.size [.int .i64 0, .int .i64 0, .string (ByteArray.mk #[]), .int .i64 0] hgx).trans ((hk.block w.heap.size (by show w.heap.size < W.heap.size; omega) (by intro hs; have := (HS0.out _ hs).2; omega)).trans ((hWk.block w.heap.size (by omega) (by simp)).trans hxb))
    exact ⟨rfl, ⟨loc', av', w3, hv, hk, rfl⟩, cell_of e2 0 _ rfl, cell_of e1 0 _ rfl, fz_of e1 0⟩)
  clear HD0
  have HK1 : Hid (Keep (fun _ => False) w W) := Lib.hid (((((Keep.refl _ _).alloc _).alloc _).trans hk1).trans hWk)
  have HV := Lib.hid hvW
  clear hk1 h1 hcs hxb hxp H0 hy hWk hWb hvW hDW cP cQ cS
  go_wp2_with fail
  rw [← hW]
  have hW0 := Lib.hid hW
  clear hW
  go_region_law (first
    | (go_simp; go_at_call 28; refine HD.out.mono ?_; rintro e w2 ⟨rfl, hP, d0, d1, d2⟩; have HP := Lib.hid hP; clear hP))
  all_goals (
    go_end0
    obtain ⟨loc', av', w3, hv, hk, rfl⟩ := HP.out
    have e : lostAt st.at' f t = setAt st.at' f t (sent, lost + 1) := by unfold lostAt; rw [HAT.out]; rfl
    rw [e] at hv
    obtain ⟨h1, h2⟩ := old_end [.int .i64 0, .int .i64 0,   .string (ByteArray.mk #[]), .int .i64 0] hv (by show st.l.length = 1; rw [HHL.out]; rfl)
    refine ⟨loc', _, av', rfl, h1.mono (fun k hk => hk.imp (fun h => (HS0.out k h).1) (fun h => Nat.le_trans HK1.out.size h)), ?_⟩
    refine ((HK1.out.drew.transM (S := S) hk (fun _ _ h => h.elim) (fun k _ h => (HS0.out k h).1)).transM h2 (fun _ _ h => h) ?_)
    rintro k _ (rfl | rfl)
    · exact (HS0.out _ HSB.out).1
    · exact (HS0.out _ HSG.out).1)
end Go.Proofs.Ytkfcjcbjefpliaa
