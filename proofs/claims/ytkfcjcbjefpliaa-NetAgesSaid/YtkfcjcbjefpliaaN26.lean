import Derived.Test.YtkfcjcbjefpliaaN25
import Derived.Test.YtkfcjcbjefpliaaN9
namespace Go.Proofs.Ytkfcjcbjefpliaa
open Go.RowKit Go.Tg Go.Maps Go.Sort

def setCut (c : Int → Int → Bool) (p q : Int) (on : Bool) : Int → Int → Bool := fun a b => if a = p ∧ b = q then on else c a b

theorem eql_map50 (m : Nat) (w : World) : (binOp .eql 50 (.map (some m)) (.map none)).run Try.prog w = .ok (.bool false) w := by kernel_rfl
theorem eql_map50n (w : World) : (binOp .eql 50 (.map none) (.map none)).run Try.prog w = .ok (.bool true) w := by kernel_rfl

/-- The map of the cuts is another one, or turned. -/
theorem NetV.setC {w w' : World} {S T : Nat → Prop} {b : Nat} {st : NetS} {loc : Int → Int → Nat} {lv av cv : Value} (h : NetV w S b st loc lv av cv) (hk : Keep T w w') (m' : Nat)
    (hT : ∀ k, T k → k < w.heap.size → k = b ∨ k = m') (hb' : w'.heap[b]? = some (.cells #[lv, av, .map (some m')] 52 (0, 0))) {S' : Nat → Prop} (hS : ∀ k, S k → S' k) {cut' : Int → Int → Bool}
    (hc : CutS w' S' (.map (some m')) cut') (hne : av ≠ .map (some m')) (hm : m' < w.heap.size → cv = .map (some m')) : NetV w' S' b { st with cut := cut' } loc lv av (.map (some m')) := by
  have hcells : ∀ {k : Nat} {cur : Array Value} {t : TypeId}, w.heap[k]? = some (.cells cur t (0, 0)) → k ≠ b → w'.heap[k]? = some (.cells cur t (0, 0)) := by
    intro k cur t hkc hkb
    have hlt := (Array.getElem?_eq_some_iff.1 hkc).1
    refine (hk.block k hlt (fun hTk => ?_)).trans hkc
    rcases hT k hTk hlt with e | e
    · exact hkb e
    · have := hm (by omega)
      rcases h.cut with ⟨h1, _⟩ | ⟨m, mm, h1, _, h3, _⟩
      · rw [this] at h1; cases h1
      · rw [this] at h1; cases h1; rw [e] at hkc; exact map_ne h3 hkc rfl
  refine ⟨hb', hS _ h.hb, ?_, fun k hk => hS _ (h.hrow k hk), ?_, hc, fun m hm hm' => hne (by rw [hm, hm'])⟩
  · obtain ⟨h0, h' | ⟨g, cap, cur, hv, h1, h2, h3⟩⟩ := h.row
    · exact ⟨h0, Or.inl h'⟩
    · exact ⟨h0, Or.inr ⟨g, cap, cur, hv, h1, hcells h2 (by rintro rfl; rw [h.blk] at h2; cases h2), h3⟩⟩
  · rcases h.cnt with h' | ⟨m, mm, h1, h2, h3, h4, h5, h6⟩
    · exact Or.inl h'
    · refine Or.inr ⟨m, mm, h1, hS _ h2, map_keep h3 hk (fun hTm => ?_), h4, fun a c s l hac => ?_, h6⟩
      · rcases hT m hTm h3.lt with e | e
        · rw [e] at h3; exact map_ne h3 h.blk rfl
        · exact hne (by rw [h1, e])
      · obtain ⟨p1, p2, p3⟩ := h5 a c s l hac
        exact ⟨p1, hS _ p2, hcells p3 (by intro e; rw [e, h.blk] at p3; cases p3)⟩

theorem cutS_of {w : World} {S : Nat → Prop} {m : Nat} {mm mm' : Value → Option Value} {cut : Int → Int → Bool} {p q : Int} {on : Bool} (hS : S m) (hm : MapAt Try.prog 39 w m mm') (hc : ∀ a b, cut a b = (mm (pairV a b)).isSome) (hv : ∀ k v, mm k = some v → v = .agg #[])
    (h1 : mm' (pairV p q) = if on then some (.agg #[]) else none) (h2 : ∀ k, k ≠ pairV p q → mm' k = mm k) : CutS w S (.map (some m)) (setCut cut p q on) := by
  refine Or.inr ⟨m, mm', rfl, hS, hm, ?_, ?_⟩
  · intro a b
    unfold setCut
    by_cases e : a = p ∧ b = q
    · rw [if_pos e, e.1, e.2, h1]
      cases on <;> rfl
    · rw [if_neg e, h2 _ (fun h => e (pairV_inj h)), hc]
  · intro k v hk
    by_cases e : k = pairV p q
    · rw [e, h1] at hk
      cases on
      · cases hk
      · cases hk; rfl
    · rw [h2 _ e] at hk
      exact hv k v hk

set_option maxHeartbeats 4000000 in
set_option maxRecDepth 100000 in
theorem cut_some {w : World} {S : Nat → Prop} {b : Nat} {st : NetS} {loc : Int → Int → Nat} {lv av : Value} {m : Nat} (h : NetV w S b st loc lv av (.map (some m))) (p q : Int) (hp : I64 p) (hq : I64 q) (on : Bool) :
    Calls Try.prog 17 #[.pointer (some ⟨b, 0, none⟩), .agg #[.int .i64 p, .int .i64 q], .bool on] w fun e w' => e = .returned (.tuple #[]) ∧ NetV w' S b { st with cut := setCut st.cut p q on } loc lv av (.map (some m)) ∧ Keep S w w' := by
  obtain ⟨mm, hSm, hm, hc, hv⟩ : ∃ mm, S m ∧ MapAt Try.prog 39 w m mm ∧ (∀ a b, st.cut a b = (mm (pairV a b)).isSome) ∧ ∀ k v, mm k = some v → v = .agg #[] := by
    rcases h.cut with ⟨h1, _⟩ | ⟨m', mm, h1, h2, h3, h4, h5⟩
    · cases h1
    · cases h1; exact ⟨mm, h2, h3, h4, h5⟩
  have hml := hm.lt
  have hbl : b < w.heap.size := (Array.getElem?_eq_some_iff.1 h.blk).1
  have hbm : b ≠ m := fun e => map_ne hm h.blk e.symm
  have cb : w.cell? ⟨b, 2, none⟩ = some (.map (some m)) := cell_of h.blk 2 _ rfl
  have heq := eql24
  have heq2 := eql_map50
  have hx0 := get1 w (.cells #[.int .i64 p, .int .i64 q] 39)
  have hz0 : (w.alloc (.cells #[.int .i64 p, .int .i64 q] 39)).heap.size = w.heap.size + 1 := Array.size_push _
  have hm0 : MapAt Try.prog 39 (w.alloc (.cells #[.int .i64 p, .int .i64 q] 39)).drew m mm := hm.same (Below.heap_alloc _ _ _ hml)
  have hk0 : Keep (· = m) w (w.alloc (.cells #[.int .i64 p, .int .i64 q] 39)).drew := ((Keep.refl _ _).alloc _).drew
  have H := Lib.hid h
  have HM := Lib.hid (And.intro hm0 (And.intro hSm (And.intro hc (And.intro hv (And.intro hk0 hx0)))))
  have HW : Hid (∀ w', Keep (· = m) (w.alloc (.cells #[.int .i64 p, .int .i64 q] 39)).drew w' → w'.cell? ⟨b, 2, none⟩ = some (.map (some m)) ∧ w'.cell? ⟨w.heap.size, 0, none⟩ = some (.int .i64 p) ∧ w'.cell? ⟨w.heap.size, 1, none⟩ = some (.int .i64 q)) := Lib.hid (by
    intro w' hk
    have hb' := (hk0.trans hk).block b hbl hbm
    have hx' := (hk.block w.heap.size (by show w.heap.size < (Array.push _ _).size; rw [Array.size_push]; omega) (by show w.heap.size ≠ m; omega)).trans hx0
    exact ⟨cell_of (hb'.trans h.blk) 2 _ rfl, cell_of hx' 0 _ rfl, cell_of hx' 1 _ rfl⟩)
  clear h hm0 hSm hc hv hk0 hx0 hm
  go_enter Try.func17, Try.ntmps17
  go_wp2_with fail
  go_region_law (first
    | (refine step_delete rfl (.tmp 20) (.tmp 21) 50 39 59 39 rfl keyed39 Try.underlying50 m mm rfl (.agg #[.int .i64 p, .int .i64 q]) rfl (kv39 p q hp hq) HM.out.1 ?_; intro w2 hm2 hk2 hz2))
  all_goals (
    obtain ⟨c1, c2, c3⟩ := HW.out w2 hk2
    have H2 := Lib.hid (And.intro hm2 (And.intro hk2 hz2))
    clear hm2 hk2 hz2
    cases on
    · go_wp2_with fail
      go_end0
      have hk := HM.out.2.2.2.2.1.trans H2.out.2.1
      refine ⟨rfl, ?_, hk.mono (by rintro k _ rfl; exact HM.out.2.1)⟩
      refine H.out.setC hk m (by rintro k rfl _; exact Or.inr rfl) ((hk.block b hbl hbm).trans H.out.blk) (fun _ h => h) ?_ (fun e => H.out.ne m e rfl) (fun _ => rfl)
      exact cutS_of HM.out.2.1 H2.out.1 HM.out.2.2.1 HM.out.2.2.2.1 (by rw [if_neg (by simp)]; exact del_same _ _) (fun k hk => del_other _ hk)
    · obtain ⟨fo, hfo⟩ := MapAt.update_fun (fun _ : Unit => w2.drew) keyed39 Try.underlying50 (fun _ => H2.out.1.same rfl) (kv39 p q hp hq) (.agg #[])
      have hup := (hfo ()).1
      have HU := Lib.hid (hfo ()).2
      generalize fo () = ob at hup HU
      clear hfo
      have hkU : Keep (· = m) w2 (ChangeMaps.setBlock w2.drew m ob) := ((Keep.refl (· = m) w2).drew).setBlock m (Or.inr rfl) _
      have KP := Lib.hid (HW.out _ (H2.out.2.1.trans hkU))
      have HKU := Lib.hid hkU
      clear hkU
      go_wp2_with fail
      go_region_held3 (fun w' => w'.cell? ⟨b, 2, none⟩ = some (.map (some m)) ∧ w'.cell? ⟨w.heap.size, 0, none⟩ = some (.int .i64 p) ∧ w'.cell? ⟨w.heap.size, 1, none⟩ = some (.int .i64 q))
        (first | exact KP.out | go_keep)
        (fail)
      all_goals (
        go_end0
        have hk := (HM.out.2.2.2.2.1.trans H2.out.2.1).trans HKU.out
        refine ⟨rfl, ?_, hk.mono (by rintro k _ rfl; exact HM.out.2.1)⟩
        refine H.out.setC hk m (by rintro k rfl _; exact Or.inr rfl) ((hk.block b hbl hbm).trans H.out.blk) (fun _ h => h) ?_ (fun e => H.out.ne m e rfl) (fun _ => rfl)
        exact cutS_of HM.out.2.1 HU.out HM.out.2.2.1 HM.out.2.2.2.1 (by rw [if_pos rfl]; exact upd_same _ _ _) (fun k hk => (upd_other _ _ hk).trans (del_other _ hk))))

set_option maxHeartbeats 4000000 in
set_option maxRecDepth 100000 in
theorem cut_none {w : World} {S : Nat → Prop} {b : Nat} {st : NetS} {loc : Int → Int → Nat} {lv av : Value} (h : NetV w S b st loc lv av (.map none)) (p q : Int) (hp : I64 p) (hq : I64 q) (on : Bool) :
    Calls Try.prog 17 #[.pointer (some ⟨b, 0, none⟩), .agg #[.int .i64 p, .int .i64 q], .bool on] w fun e w' => ∃ m, e = .returned (.tuple #[]) ∧ NetV w' (Grow S w) b { st with cut := setCut st.cut p q on } loc lv av (.map (some m)) ∧ Keep S w w' := by
  have hc : ∀ a b, st.cut a b = ((fun _ => none : Value → Option Value) (pairV a b)).isSome := by
    rcases h.cut with ⟨_, h2⟩ | ⟨m', mm, h1, _⟩
    · exact h2
    · cases h1
  have hbl : b < w.heap.size := (Array.getElem?_eq_some_iff.1 h.blk).1
  have cb : w.cell? ⟨b, 2, none⟩ = some (.map none) := cell_of h.blk 2 _ rfl
  have fb : w.frozen? ⟨b, 2, none⟩ = false := fz_of h.blk 2
  have heq := eql24
  have heq2 := eql_map50n
  have hmm := @run_makeMap Try.prog
  obtain ⟨m, hme⟩ : ∃ m, m = w.heap.size + 1 := ⟨_, rfl⟩
  have hz0 : (w.alloc (.cells #[.int .i64 p, .int .i64 q] 39)).heap.size = w.heap.size + 1 := Array.size_push _
  have hzs : (w.setCell ⟨b, 2, none⟩ (.map (some m))).heap.size = w.heap.size := sz_setCell _ _ _
  obtain ⟨W1, hW1⟩ : ∃ W1, W1 = ((w.setCell ⟨b, 2, none⟩ (.map (some m))).alloc (.cells #[.int .i64 p, .int .i64 q] 39)).alloc (.map #[] 0) := ⟨_, rfl⟩
  have hz1 : W1.heap.size = w.heap.size + 2 := by rw [hW1, size2, hzs]
  have hm1 : MapAt Try.prog 39 W1 m (fun _ => none) := by
    have hX : ((w.setCell ⟨b, 2, none⟩ (.map (some m))).alloc (.cells #[.int .i64 p, .int .i64 q] 39)).heap.size = m := by
      rw [show ((w.setCell ⟨b, 2, none⟩ (.map (some m))).alloc (.cells #[.int .i64 p, .int .i64 q] 39)).heap.size = (w.setCell ⟨b, 2, none⟩ (.map (some m))).heap.size + 1 from Array.size_push _, hzs, hme]
    have h0 : MapAt Try.prog 39 _ _ (fun _ => none) := MapAt.empty ((w.setCell ⟨b, 2, none⟩ (.map (some m))).alloc (.cells #[.int .i64 p, .int .i64 q] 39))
    rw [hX] at h0
    rw [hW1]
    exact h0
  have hx1 : W1.heap[w.heap.size]? = some (.cells #[.int .i64 p, .int .i64 q] 39 (0, 0)) := by
    have := get20 (w.setCell ⟨b, 2, none⟩ (.map (some m))) (.cells #[.int .i64 p, .int .i64 q] 39) (.map #[] 0)
    rw [hzs] at this
    rw [hW1]
    exact this
  have hk1 : Keep (· = b) w W1 := by
    rw [hW1]
    exact (((Keep.refl _ _).setB _ _).alloc _).alloc _
  have hb1 : W1.heap[b]? = some (.cells #[lv, av, .map (some m)] 52 (0, 0)) := by
    rw [hW1, Below.heap_alloc _ _ _ (by show b < (Array.push _ _).size; rw [Array.size_push]; rw [hzs]; omega), Below.heap_alloc _ _ _ (by rw [hzs]; exact hbl)]
    exact blk_setCell (i := 2) (v := .map (some m)) (cs := #[lv, av, .map none]) h.blk
  have H := Lib.hid h
  have HM := Lib.hid (And.intro hm1 (And.intro hc (And.intro hk1 (And.intro hx1 hb1))))
  have HW : Hid (∀ w', Keep (· = m) W1.drew w' → w'.cell? ⟨b, 2, none⟩ = some (.map (some m)) ∧ w'.cell? ⟨w.heap.size, 0, none⟩ = some (.int .i64 p) ∧ w'.cell? ⟨w.heap.size, 1, none⟩ = some (.int .i64 q)) := Lib.hid (by
    intro w' hk
    have hb' := (hk.block b (by show b < W1.heap.size; omega) (by omega)).trans hb1
    have hx' := (hk.block w.heap.size (by show w.heap.size < W1.heap.size; omega) (by omega)).trans hx1
    exact ⟨cell_of hb' 2 _ rfl, cell_of hx' 0 _ rfl, cell_of hx' 1 _ rfl⟩)
  have c10 : W1.cell? ⟨b, 2, none⟩ = some (.map (some m)) := cell_of hb1 2 _ rfl
  have c11 : W1.cell? ⟨w.heap.size, 0, none⟩ = some (.int .i64 p) := cell_of hx1 0 _ rfl
  have c12 : W1.cell? ⟨w.heap.size, 1, none⟩ = some (.int .i64 q) := cell_of hx1 1 _ rfl
  have HZ1 := Lib.hid hz1
  have HME := Lib.hid hme
  have HW1 := Lib.hid hW1
  clear h hc hm1 hx1 hk1 hb1 hW1 hme hz1
  go_enter Try.func17, Try.ntmps17
  go_wp2_with fail
  rw [← HME.out, ← HW1.out]
  go_region_law (first
    | (refine step_delete rfl (.tmp 20) (.tmp 21) 50 39 59 39 rfl keyed39 Try.underlying50 m (fun _ => none) rfl (.agg #[.int .i64 p, .int .i64 q]) rfl (kv39 p q hp hq) (HM.out.1.same rfl) ?_; intro w2 hm2 hk2 hz2))
  all_goals (
    obtain ⟨c1, c2, c3⟩ := HW.out w2 hk2
    have hm1 : w2.heap.size = w.heap.size + 2 := hz2.trans HZ1.out
    have H2 := Lib.hid (And.intro hm2 (And.intro hk2 hm1))
    clear hm2 hk2 hz2 hm1
    have hbm : b ≠ m := by have := HME.out; omega
    cases on
    · go_wp2_with fail
      go_end0
      have hkA : Keep (fun k => k = b ∨ k = m) w w2 := (HM.out.2.2.1.drew).transM H2.out.2.1 (fun _ _ h => Or.inl h) (fun _ _ h => Or.inr h)
      refine ⟨m, rfl, ?_, hkA.mono ?_⟩
      · refine H.out.setC hkA m (fun k hk _ => hk) ((H2.out.2.1.block b (by show b < W1.heap.size; have := HZ1.out; omega) hbm).trans HM.out.2.2.2.2) Grow.le ?_ ?_ ?_
        · exact cutS_of (Or.inr (by have := HME.out; omega)) H2.out.1 HM.out.2.1 (by intro k v h; cases h) (by rw [if_neg (by simp)]; exact del_same _ _) (fun k hk => del_other _ hk)
        · intro e
          rcases H.out.cnt with ⟨h1, _⟩ | ⟨m', mm, h1, _, h3, _⟩
          · rw [e] at h1; cases h1
          · rw [e] at h1; cases h1; have := h3.lt; have := HME.out; omega
        · intro hlt; have := HME.out; omega
      · rintro k hkl (rfl | rfl)
        · exact H.out.hb
        · have := HME.out; omega
    · obtain ⟨fo, hfo⟩ := MapAt.update_fun (fun _ : Unit => w2.drew) keyed39 Try.underlying50 (fun _ => H2.out.1.same rfl) (kv39 p q hp hq) (.agg #[])
      have hup := (hfo ()).1
      have HU := Lib.hid (hfo ()).2
      generalize fo () = ob at hup HU
      clear hfo
      have hkU : Keep (· = m) w2 (ChangeMaps.setBlock w2.drew m ob) := ((Keep.refl (· = m) w2).drew).setBlock m (Or.inr rfl) _
      have KP := Lib.hid (HW.out _ (H2.out.2.1.trans hkU))
      have HKU := Lib.hid hkU
      clear hkU c10 c11 c12
      go_wp2_with fail
      go_region_held3 (fun w' => w'.cell? ⟨b, 2, none⟩ = some (.map (some m)) ∧ w'.cell? ⟨w.heap.size, 0, none⟩ = some (.int .i64 p) ∧ w'.cell? ⟨w.heap.size, 1, none⟩ = some (.int .i64 q))
        (first | exact KP.out | go_keep)
        (fail)
      all_goals (
        go_end0
        have hk2 := H2.out.2.1.trans HKU.out
        have hkA : Keep (fun k => k = b ∨ k = m) w (ChangeMaps.setBlock w2.drew m ob) := (HM.out.2.2.1.drew).transM hk2 (fun _ _ h => Or.inl h) (fun _ _ h => Or.inr h)
        refine ⟨m, rfl, ?_, hkA.mono ?_⟩
        · refine H.out.setC hkA m (fun k hk _ => hk) ((hk2.block b (by show b < W1.heap.size; have := HZ1.out; omega) hbm).trans HM.out.2.2.2.2) Grow.le ?_ ?_ ?_
          · exact cutS_of (Or.inr (by have := HME.out; omega)) HU.out HM.out.2.1 (by intro k v h; cases h) (by rw [if_pos rfl]; exact upd_same _ _ _) (fun k hk => (upd_other _ _ hk).trans (del_other _ hk))
          · intro e
            rcases H.out.cnt with ⟨h1, _⟩ | ⟨m', mm, h1, _, h3, _⟩
            · rw [e] at h1; cases h1
            · rw [e] at h1; cases h1; have := h3.lt; have := HME.out; omega
          · intro hlt; have := HME.out; omega
        · rintro k hkl (rfl | rfl)
          · exact H.out.hb
          · have := HME.out; omega))

theorem NetI.cutIt {W w : World} {N : Nat → Prop} {b : Nat} {st : NetS} (h : NetI W N b st w) (p q : Int) (hp : I64 p) (hq : I64 q) (on : Bool) :
    Calls Try.prog 17 #[.pointer (some ⟨b, 0, none⟩), .agg #[.int .i64 p, .int .i64 q], .bool on] w fun e w' => e = .returned (.tuple #[]) ∧ NetI W N b { st with cut := setCut st.cut p q on } w' ∧ Kp W N w w' := by
  obtain ⟨S, loc, lv, av, cv, hv, hS⟩ := h.ex
  obtain ⟨mo, rfl⟩ := hv.cutVal
  cases mo with
  | none =>
    refine (cut_none hv p q hp hq on).mono ?_
    rintro e w' ⟨m, rfl, h', hk⟩
    exact ⟨rfl, h.step hS h' hk⟩
  | some m =>
    refine (cut_some hv p q hp hq on).mono ?_
    rintro e w' ⟨rfl, h', hk⟩
    exact ⟨rfl, h.step hS (h'.mono Grow.le) hk⟩
end Go.Proofs.Ytkfcjcbjefpliaa
