import Derived.Test.YtignponfoheaeaaGreatJ4
import Derived.Test.YtignponfoheaeaaGreatV38s
/- NegJudges, walked. -/
namespace Go.Proofs.YtignponfoheaeaaGreat
open Go.RowKit Go.Tg Go.Maps

theorem build_book (w : World) : (Instr.build 42 #[]).run Tryz.prog w = .ok (.agg (bookC nilS nilS nilS nilS nilS nilS)) w := by kernel_rfl
theorem box_book (w : World) : (Instr.box 42 (.agg (bookC nilS nilS nilS nilS nilS nilS))).run Tryz.prog w = .ok (.pointer (some ⟨w.heap.size, 0, none⟩)) (w.alloc (.cells (bookC nilS nilS nilS nilS nilS nilS) 42 (0, 0))) := by kernel_rfl
/-- '&Book{}'. -/
theorem wpl_newbook {ops : Array Oper} {rest : List Oper} {Q : Exit → Act → World → Prop} {a : Act} {w : World} {d1 d2 : Tmp} {t1 t2 : TypeId} {p1 p2 : String} {f1 f2 : Array Edge}
    (hx : (a.put (some d1) (.agg (bookC nilS nilS nilS nilS nilS nilS))).eval (.tmp d1) = .agg (bookC nilS nilS nilS nilS nilS nilS))
    (h : wpList Tryz.prog ops Q rest ((a.put (some d1) (.agg (bookC nilS nilS nilS nilS nilS nilS))).put (some d2) (.pointer (some ⟨w.heap.size, 0, none⟩))) (w.alloc (.cells (bookC nilS nilS nilS nilS nilS nilS) 42 (0, 0)))) :
    wpList Tryz.prog ops Q ({ dst := some d1, op := .build 42 #[], type := t1, pos := p1, after := f1, guard := none } :: { dst := some d2, op := .box 42 (.tmp d1), type := t2, pos := p2, after := f2, guard := none } :: rest) a w := by
  refine step_val (v := .agg (bookC nilS nilS nilS nilS nilS nilS)) (w' := w) rfl ?_ ?_
  · simp only [execOp, Array.map_empty, Sem.run_bind, build_book, Result.andThen_ok, Sem.run_pure, List.map_toArray, List.map_nil]
  · refine step_val (v := .pointer (some ⟨w.heap.size, 0, none⟩)) (w' := w.alloc (.cells (bookC nilS nilS nilS nilS nilS nilS) 42 (0, 0))) rfl ?_ h
    simp only [execOp, hx, Sem.run_bind, box_book, Result.andThen_ok, Sem.run_pure]

theorem alive11_below {w0 w : World} (h : Below w0.heap.size w0 w) : Calls Tryz.prog 25 #[] w fun e w' => e = .returned (.bool true) ∧ Below w.heap.size w w' ∧ Below w0.heap.size w0 w' :=
  (alive_any w).mono fun _ _ h' => ⟨h'.1, h'.2, h.trans (h'.2.mono h.size)⟩

structure NJ (w wr : World) (h0 bb rb : Nat) (want : Value) (wl : List Opt) (rc : Array Value) : Prop where
  bk : ∃ D, BookO wr bb D ∧ ∀ g, D.Has g → h0 ≤ g
  wt : BRow 91 2 wr want wl.length (oV wl)
  wb : ∀ g, want.ownBlock = some g → g < h0 ∧ g ≠ bb
  rl : wr.heap[rb]? = some (.cells rc 64 (0, 0))
  bl : Below w.heap.size w wr
  lt : rb < h0 ∧ rb ≠ bb ∧ bb < h0 ∧ w.heap.size ≤ rb ∧ w.heap.size ≤ bb
  hs : h0 ≤ wr.heap.size
theorem NJ.below {w wr w' : World} {h0 bb rb : Nat} {want : Value} {wl : List Opt} {rc : Array Value} (h : NJ w wr h0 bb rb want wl rc) (hb : Below wr.heap.size wr w') : NJ w w' h0 bb rb want wl rc where
  bk := by obtain ⟨D, h1, h2⟩ := h.bk; exact ⟨D, h1.below hb, h2⟩
  wt := h.wt.below hb
  wb := h.wb
  rl := (hb.block rb (Array.getElem?_eq_some_iff.1 h.rl).1).trans h.rl
  bl := h.bl.trans (hb.mono h.bl.size)
  lt := h.lt
  hs := Nat.le_trans h.hs hb.size
theorem NJ.add {w wr w' : World} {h0 bb rb : Nat} {want x : Value} {wl : List Opt} {rc : Array Value} {D D' : KD} (h : NJ w wr h0 bb rb want wl rc) (hD : ∀ g, D.Has g → h0 ≤ g) (ha : BookAddO wr w' bb D D' x) (hx : ∀ g, x.ownBlock = some g → h0 ≤ g) : NJ w w' h0 bb rb want wl rc := by
  obtain ⟨l1, l2, l3, l4, l5⟩ := h.lt
  have hhs := h.hs
  have hbs := h.bl.size
  refine { wb := h.wb, lt := h.lt, hs := Nat.le_trans h.hs ha.kp.size, bk := ⟨D', ha.b, fun g hg => ?_⟩, wt := h.wt.keep ha.kp fun g hg he => ?_, rl := (ha.kp.block rb (Array.getElem?_eq_some_iff.1 h.rl).1 ?_).trans h.rl, bl := h.bl.trans (ha.kp.below h.bl.size fun g hg he => ?_) }
  · rcases ha.has g hg with h1 | h1 | h1
    · exact hD g h1
    · exact hx g h1
    · omega
  · rcases he with he | he
    · exact (h.wb g hg).2 he
    · have := hD g he; have := (h.wb g hg).1; omega
  · rintro (he | he)
    · exact l2 he
    · have := hD _ he; omega
  · rcases he with he | he
    · omega
    · have := hD g he; omega

set_option maxHeartbeats 16000000 in
set_option maxRecDepth 100000 in
theorem negJudges_any (rs : List Rl) (rv : Value) (okr : Nat → Prop) (l : List Opt) (lv : Value) (ok : Nat → Prop) (r : Rl) (v : ByteArray) (w : World) (hr : Rls w okr rv rs) (hrm : ∀ o ∈ rs, o.s.size ≤ maxLen) (hrn : ∀ n c, rv = .slice none n c → c = 0)
    (hl : Opts w ok lv l) (hlm : ∀ o ∈ l, I64 o.t ∧ o.v.size ≤ maxLen) (hln : ∀ n c, lv = .slice none n c → c = 0) (hvm : v.size ≤ maxLen) :
    Calls Tryz.prog 5 #[rv, lv, .agg #[.int .i64 r.t, .int .i64 r.len, .int .i64 r.min, .int .i64 r.max, .string r.s], .string v] w fun e w' => e = .returned (.bool true) ∧ Below w.heap.size w w' := by
  obtain ⟨r1, r2, r3, r4, r5⟩ := r
  simp only
  have hb0 := b1 w (.cells #[.int .i64 r1, .int .i64 r2, .int .i64 r3, .int .i64 r4, .string r5] 64 (0, 0))
  have hz0 : (w.alloc (.cells #[.int .i64 r1, .int .i64 r2, .int .i64 r3, .int .i64 r4, .string r5] 64 (0, 0))).heap[w.heap.size]? = some _ := heap_alloc_new w _
  have hsz0 := balloc1 w (.cells #[.int .i64 r1, .int .i64 r2, .int .i64 r3, .int .i64 r4, .string r5] 64 (0, 0))
  have HRU := Lib.hid (rules_any rs rv okr _ (hr.below hb0) hrm)
  have HLI := Lib.hid (light_any l lv ok _ (hl.below hb0) (fun o ho => (hlm o ho).2))
  have H := Lib.hid (And.intro hr (And.intro hl (And.intro hlm (And.intro hrn hln))))
  obtain ⟨sr, cr, rfl, -, -⟩ := hr.form
  obtain ⟨sl, cl, rfl, -, -⟩ := hl.form
  have H0 := Lib.hid (And.intro hb0 (And.intro hz0 hsz0))
  clear hr hrm hrn hl hlm hln hb0 hz0 hsz0
  unfold maxLen at hvm
  go_enter Tryz.func5, Tryz.ntmps5
  go_wp2_with fail
  generalize w.alloc (.cells #[.int .i64 r1, .int .i64 r2, .int .i64 r3, .int .i64 r4, .string r5] 64 (0, 0)) = w0 at *
  refine HRU.out.mono ?_
  rintro e w1 ⟨⟨b1', rfl, hB1⟩, rfl⟩
  cases b1' with
  | false =>
    go_wp2_with fail
    refine (alive_any _).mono ?_
    rintro e w2 ⟨rfl, hb2⟩
    have HB := Lib.hid (H0.out.1.trans (hb2.mono H0.out.1.size))
    clear hb2
    go_wp2_with fail
    go_ret
    exact ⟨rfl, HB.out⟩
  | true =>
  go_wp2_with fail
  refine HLI.out.mono ?_
  rintro e w1 ⟨⟨b2', rfl, hB2⟩, rfl⟩
  cases b2' with
  | false =>
    go_wp2_with fail
    refine (alive_any _).mono ?_
    rintro e w2 ⟨rfl, hb2⟩
    have HB := Lib.hid (H0.out.1.trans (hb2.mono H0.out.1.size))
    clear hb2
    go_wp2_with fail
    go_ret
    exact ⟨rfl, HB.out⟩
  | true =>
  by_cases hv4 : 400 < v.size
  · have hq : (400 : Int) < (v.size : Int) := by omega
    go_wp2_with fail
    refine (alive_any _).mono ?_
    rintro e w2 ⟨rfl, hb2⟩
    have HB := Lib.hid (H0.out.1.trans (hb2.mono H0.out.1.size))
    clear hb2
    go_wp2_with fail
    go_ret
    exact ⟨rfl, HB.out⟩
  obtain ⟨hr40, -⟩ := hB1 (by first | exact trivial | rfl)
  obtain ⟨hl50, hl400⟩ := hB2 (by first | exact trivial | rfl)
  have hq : ¬ (400 : Int) < (v.size : Int) := by omega
  clear hB1 hB2
  go_wp2_with (refine wpl_newbook rfl ?_)
  have hbB := b1 w0 (.cells (bookC nilS nilS nilS nilS nilS nilS) 42 (0, 0))
  have hzB : (w0.alloc (.cells (bookC nilS nilS nilS nilS nilS nilS) 42 (0, 0))).heap[w0.heap.size]? = some _ := heap_alloc_new w0 _
  have hsB := balloc1 w0 (.cells (bookC nilS nilS nilS nilS nilS nilS) 42 (0, 0))
  have HBB := Lib.hid (And.intro hbB (And.intro hzB hsB))
  clear hbB hzB hsB
  generalize w0.alloc (.cells (bookC nilS nilS nilS nilS nilS nilS) 42 (0, 0)) = wB at *
  have hBl : Below w.heap.size w wB := H0.out.1.trans (HBB.out.1.mono H0.out.1.size)
  refine (judge9_any rs _ okr l _ ok wB (H.out.1.below hBl) (by omega) (H.out.2.1.below hBl) (by omega) H.out.2.2.2.2 (fun o ho => by have := hl400 o ho; omega)).mono ?_
  rintro e w2 ⟨want, rfl, hL⟩
  obtain ⟨sw, cw, rfl, -, -⟩ := hL.r.form
  have HI := Lib.hid (show NJ w w2 w2.heap.size w0.heap.size w.heap.size (.slice sw (judgeS rs l).2.length cw) (judgeS rs l).2 #[.int .i64 r1, .int .i64 r2, .int .i64 r3, .int .i64 r4, .string r5] from {
    bk := ⟨KD.nil, (BookO.new HBB.out.2.1).below hL.b, fun g hg => by rcases hg with (h | ⟨i, hi, _⟩) | (h | ⟨i, hi, _⟩) <;> first | cases h | exact absurd hi (Nat.not_lt_zero _)⟩
    wt := hL.r
    wb := fun g hg => ⟨(hL.r.blk hg).1, by have := hL.f g hg; have := HBB.out.2.2; omega⟩
    rl := ((hL.b.block _ (by have := HBB.out.1.size; have := H0.out.2.2; omega)).trans (HBB.out.1.block _ (by have := H0.out.2.2; omega))).trans H0.out.2.1
    bl := hBl.trans (hL.b.mono hBl.size)
    lt := by have := HBB.out.2.2; have := H0.out.2.2; have := hL.b.size; refine ⟨?_, ?_, ?_, ?_, ?_⟩ <;> omega
    hs := Nat.le_refl _ })
  have HJ := Lib.hid (rfl : judgeS rs l = judgeS rs l)
  have HJU := Lib.hid (fun (rv : Value) (okr : Nat → Prop) (lv : Value) (ok : Nat → Prop) (W : World) (h1 : Rls W okr rv rs) (h2 : Opts W ok lv l) => judge_any rs rv okr l lv ok W h1 (by omega) h2 (by omega) (fun o ho => (H.out.2.2.1 o ho).1) (fun o ho => by have := hl400 o ho; omega))
  have hjl : (judgeS rs l).2.length ≤ 1000 := by
    have h1 := rejP_len (fun k => (findR rs k).isSome) l []
    have h2 := nakP_len (fun o => fitsR (ruleOf rs o.t) o.v) (fun k => (ruleOf rs k).s) l
    unfold judgeS answerS
    split
    · simp only; omega
    · split
      · simp only; omega
      · simp only; omega
  generalize hj1 : (judgeS rs l).1 = jd at *
  generalize hj2 : (judgeS rs l).2 = wl at *
  clear hL hBl hj1 hj2 HJ
  go_wp2_with fail
  go_loopg [12] (2 : Nat) (fun y i wr => ∃ k : Nat, k ≤ 2 ∧ y = 2 - k ∧ i = .int .i64 k ∧ Hid (NJ w wr w2.heap.size w0.heap.size w.heap.size (.slice sw wl.length cw) wl #[.int .i64 r1, .int .i64 r2, .int .i64 r3, .int .i64 r4, .string r5]))
  case atStart => exact ⟨0, by omega, by omega, rfl, HI.out⟩
  case round =>
    obtain ⟨k, hk, rfl, rfl, hK⟩ := hrel
    have HK := Lib.hid hK.out
    clear hK
    by_cases hk2 : k < 2
    · go_wp2_with fail
      refine (lentR_any rs _ okr wr (H.out.1.below HK.out.bl) H.out.2.2.2.1 (by omega)).mono ?_
      rintro e w3 ⟨rv', rfl, hLR⟩
      have HLR := Lib.hid hLR
      obtain ⟨g3, c3, rfl, -, -, -, -⟩ := hLR.ex
      clear hLR
      go_wp2_with fail
      refine (lentO_any l _ ok w3 (H.out.2.1.below (HK.out.bl.trans (HLR.out.b.mono HK.out.bl.size))) H.out.2.2.2.2 (by omega)).mono ?_
      rintro e w4 ⟨lv', rfl, hLO⟩
      have HLO := Lib.hid hLO
      obtain ⟨g4, c4, rfl, -, -, -, -⟩ := hLO.ex
      clear hLO
      have HLR4 := Lib.hid (HLR.out.below HLO.out.b)
      have HK4 := Lib.hid ((HK.out.below HLR.out.b).below HLO.out.b)
      obtain ⟨_, _, -, -, -, hrr, -⟩ := HLR4.out.all (by omega)
      obtain ⟨_, _, -, -, -, hoo, -⟩ := HLO.out.all (by omega)
      have HJ4 := Lib.hid (HJU.out _ _ _ _ w4 hrr hoo)
      clear hrr hoo
      go_wp2_with fail
      refine HJ4.out.mono ?_
      rintro e w5 ⟨v5, rfl, hO5, hb5⟩
      have hbr5 : BRow 91 2 w5 v5 wl.length (oV wl) := BRow.base hO5
      have hf5 : ∀ g, v5.ownBlock = some g → w4.heap.size ≤ g := fun g hg => (ORow.lt hO5 g hg).2
      obtain ⟨s5, c5, rfl, -, -⟩ := hbr5.form
      have H5 := Lib.hid (And.intro hbr5 (And.intro hf5 (And.intro (HK4.out.below hb5) (And.intro (HLR4.out.below hb5) (And.intro (HLO.out.below hb5) hb5)))))
      clear hbr5 hf5 hO5 hb5
      go_wp2_with fail
      have HSW : Hid (∀ W, Below w5.heap.size w5 W → W.cell? ⟨w.heap.size, 0, none⟩ = some (.int .i64 r1) ∧ W.cell? ⟨w.heap.size, 1, none⟩ = some (.int .i64 r2) ∧ W.cell? ⟨w.heap.size, 2, none⟩ = some (.int .i64 r3) ∧ W.cell? ⟨w.heap.size, 3, none⟩ = some (.int .i64 r4) ∧ W.cell? ⟨w.heap.size, 4, none⟩ = some (.string r5)) := Lib.hid fun W hW =>
        have hx := (H5.out.2.2.1.below hW).rl
        ⟨cellOf hx 0 _ rfl, cellOf hx 1 _ rfl, cellOf hx 2 _ rfl, cellOf hx 3 _ rfl, cellOf hx 4 _ rfl⟩
      refine wp_region_H (rgH 0 30) (fun Y : World => Y.cell? ⟨w.heap.size, 0, none⟩ = some (.int .i64 r1) ∧ Y.cell? ⟨w.heap.size, 1, none⟩ = some (.int .i64 r2) ∧ Y.cell? ⟨w.heap.size, 2, none⟩ = some (.int .i64 r3) ∧ Y.cell? ⟨w.heap.size, 3, none⟩ = some (.int .i64 r4) ∧ Y.cell? ⟨w.heap.size, 4, none⟩ = some (.string r5)) (by kernel_rfl) ?_
      have HSv := HSW.out w5.drew (Below.refl _ _).drew
      refine wpAnyH_at 0 (v := ?vv1) rfl (by kernel_rfl) (by kernel_rfl) (by kernel_rfl) (fun _ _ _ h => h) ?hy1 HSv ?hh1
      case hy1 =>
        refine Or.inl ⟨by rfl, ?_⟩
        intro W hW
        obtain ⟨h0, h1, h2, h3, h4⟩ := hW
        go_simp
        try with_reducible rfl
      simp only [Act.put, List.setIfInBounds_toArray, List.set_cons_zero, List.set_cons_succ]
      refine wpAnyH_at 1 (v := ?vv2) rfl (by kernel_rfl) (by kernel_rfl) (by kernel_rfl) (fun _ _ _ h => h) ?hy2 HSv ?hh2
      case hy2 =>
        refine Or.inl ⟨by rfl, ?_⟩
        intro W hW
        obtain ⟨h0, h1, h2, h3, h4⟩ := hW
        go_simp
        try with_reducible rfl
      simp only [Act.put, List.setIfInBounds_toArray, List.set_cons_zero, List.set_cons_succ]
      refine wpAnyH_at 2 (v := ?vv3) rfl (by kernel_rfl) (by kernel_rfl) (by kernel_rfl) (fun _ _ _ h => h) ?hy3 HSv ?hh3
      case hy3 =>
        refine Or.inl ⟨by rfl, ?_⟩
        intro W hW
        obtain ⟨h0, h1, h2, h3, h4⟩ := hW
        go_simp
        try with_reducible rfl
      simp only [Act.put, List.setIfInBounds_toArray, List.set_cons_zero, List.set_cons_succ]
      refine wpAnyH_at 3 (v := ?vv4) rfl (by kernel_rfl) (by kernel_rfl) (by kernel_rfl) (fun _ _ _ h => h) ?hy4 HSv ?hh4
      case hy4 =>
        refine Or.inl ⟨by rfl, ?_⟩
        intro W hW
        obtain ⟨h0, h1, h2, h3, h4⟩ := hW
        go_simp
        try with_reducible rfl
      simp only [Act.put, List.setIfInBounds_toArray, List.set_cons_zero, List.set_cons_succ]
      refine wpAnyH_at 4 (v := ?vv5) rfl (by kernel_rfl) (by kernel_rfl) (by kernel_rfl) (fun _ _ _ h => h) ?hy5 HSv ?hh5
      case hy5 =>
        refine Or.inl ⟨by rfl, ?_⟩
        intro W hW
        obtain ⟨h0, h1, h2, h3, h4⟩ := hW
        go_simp
        try with_reducible rfl
      simp only [Act.put, List.setIfInBounds_toArray, List.set_cons_zero, List.set_cons_succ]
      refine wpAnyH_at 5 (v := ?vv6) rfl (by kernel_rfl) (by kernel_rfl) (by kernel_rfl) (fun _ _ _ h => h) ?hy6 HSv ?hh6
      case hy6 =>
        refine Or.inl ⟨by rfl, ?_⟩
        intro W hW
        obtain ⟨h0, h1, h2, h3, h4⟩ := hW
        go_simp
        try with_reducible rfl
      simp only [Act.put, List.setIfInBounds_toArray, List.set_cons_zero, List.set_cons_succ]
      refine wpAnyH_1 6 rfl (by kernel_rfl) ?_
      intro K hK
      rw [if_pos (by rfl)]
      try go_simp
      go_at_call 30
      refine (sameP_any wl wl _ _ _ _ w5.drew ((ORow.opts (B := 0) H5.out.1 (by unfold maxLen; omega)).below (Below.refl _ _).drew) ((ORow.opts (B := 0) H5.out.2.2.1.wt (by unfold maxLen; omega)).below (Below.refl _ _).drew) (by omega) (by omega)).mono ?_
      rintro e w6 ⟨⟨y6, rfl, hy6⟩, hb6⟩
      obtain rfl : y6 = true := hy6.2 (by first | exact trivial | rfl)
      have hb6 : Below w5.heap.size w5 w6 := Below.trans (Below.refl _ _).drew hb6
      have HSv := HSW.out w6 hb6
      have HB6 := Lib.hid hb6
      clear hb6 hy6
      refine hK _ _ (fun _ => HSv) ?_
      try simp only [Act.put, List.setIfInBounds_toArray, List.set_cons_zero, List.set_cons_succ]
      refine wpAnyH_at 7 (v := ?vv7) rfl (by kernel_rfl) (by kernel_rfl) (by kernel_rfl) (fun _ _ _ h => h) ?hy7 HSv ?hh7
      case hy7 =>
        refine Or.inl ⟨by rfl, ?_⟩
        intro W hW
        obtain ⟨h0, h1, h2, h3, h4⟩ := hW
        go_simp
        try with_reducible rfl
      simp only [Act.put, List.setIfInBounds_toArray, List.set_cons_zero, List.set_cons_succ]
      refine wpAnyH_at 8 (v := ?vv8) rfl (by kernel_rfl) (by kernel_rfl) (by kernel_rfl) (fun _ _ _ h => h) ?hy8 HSv ?hh8
      case hy8 =>
        refine Or.inl ⟨by rfl, ?_⟩
        intro W hW
        obtain ⟨h0, h1, h2, h3, h4⟩ := hW
        go_simp
        try with_reducible rfl
      simp only [Act.put, List.setIfInBounds_toArray, List.set_cons_zero, List.set_cons_succ]
      refine wpAnyH_at 9 (v := ?vv9) rfl (by kernel_rfl) (by kernel_rfl) (by kernel_rfl) (fun _ _ _ h => h) ?hy9 HSv ?hh9
      case hy9 =>
        refine Or.inl ⟨by rfl, ?_⟩
        intro W hW
        obtain ⟨h0, h1, h2, h3, h4⟩ := hW
        go_simp
        try with_reducible rfl
      simp only [Act.put, List.setIfInBounds_toArray, List.set_cons_zero, List.set_cons_succ]
      refine wpAnyH_at 10 (v := ?vv10) rfl (by kernel_rfl) (by kernel_rfl) (by kernel_rfl) (fun _ _ _ h => h) ?hy10 HSv ?hh10
      case hy10 =>
        refine Or.inl ⟨by rfl, ?_⟩
        intro W hW
        obtain ⟨h0, h1, h2, h3, h4⟩ := hW
        go_simp
        try with_reducible rfl
      simp only [Act.put, List.setIfInBounds_toArray, List.set_cons_zero, List.set_cons_succ]
      refine wpAnyH_at 11 (v := ?vv11) rfl (by kernel_rfl) (by kernel_rfl) (by kernel_rfl) (fun _ _ _ h => h) ?hy11 HSv ?hh11
      case hy11 =>
        refine Or.inl ⟨by rfl, ?_⟩
        intro W hW
        obtain ⟨h0, h1, h2, h3, h4⟩ := hW
        go_simp
        try with_reducible rfl
      simp only [Act.put, List.setIfInBounds_toArray, List.set_cons_zero, List.set_cons_succ]
      refine wpAnyH_at 13 (v := ?vv12) rfl (by kernel_rfl) (by kernel_rfl) (by kernel_rfl) (fun _ _ _ h => h) ?hy12 HSv ?hh12
      case hy12 =>
        refine Or.inl ⟨by rfl, ?_⟩
        intro W hW
        obtain ⟨h0, h1, h2, h3, h4⟩ := hW
        go_simp
        try with_reducible rfl
      simp only [Act.put, List.setIfInBounds_toArray, List.set_cons_zero, List.set_cons_succ]
      refine wpAnyH_at 14 (v := ?vv13) rfl (by kernel_rfl) (by kernel_rfl) (by kernel_rfl) (fun _ _ _ h => h) ?hy13 HSv ?hh13
      case hy13 =>
        refine Or.inl ⟨by rfl, ?_⟩
        intro W hW
        obtain ⟨h0, h1, h2, h3, h4⟩ := hW
        go_simp
        try with_reducible rfl
      simp only [Act.put, List.setIfInBounds_toArray, List.set_cons_zero, List.set_cons_succ]
      refine wpAnyH_1 12 rfl (by kernel_rfl) ?_
      intro K hK
      rw [if_pos (by rfl)]
      try go_simp
      go_at_call 31
      refine (fits_any ⟨r1, r2, r3, r4, r5⟩ v w6 (by omega)).mono ?_
      rintro e w7 ⟨rfl, hb7⟩
      have hb7' := HB6.out.trans (hb7.mono HB6.out.size)
      have HSv := HSW.out w7 hb7'
      have HB7 := Lib.hid hb7'
      clear hb7 hb7'
      refine hK _ _ (fun _ => HSv) ?_
      try simp only [Act.put, List.setIfInBounds_toArray, List.set_cons_zero, List.set_cons_succ]
      refine wpAnyH_1 15 rfl (by kernel_rfl) ?_
      intro K hK
      rw [if_pos (by rfl)]
      try go_simp
      go_at_call 32
      refine (fits9_any ⟨r1, r2, r3, r4, r5⟩ v w7 (by omega)).mono ?_
      rintro e w8 ⟨rfl, hb8⟩
      have hb8' := HB7.out.trans (hb8.mono HB7.out.size)
      have HSv := HSW.out w8 hb8'
      have HB8 := Lib.hid hb8'
      clear hb8 hb8'
      generalize fitsR ⟨r1, r2, r3, r4, r5⟩ v = fb at *
      have hfb : (fb != fb) = false := by simp
      refine hK _ _ (fun _ => HSv) ?_
      try simp only [Act.put, List.setIfInBounds_toArray, List.set_cons_zero, List.set_cons_succ]
      refine wpAnyH_at 16 (v := ?vv14) rfl (by kernel_rfl) (by kernel_rfl) (by kernel_rfl) (fun _ _ _ h => h) ?hy14 HSv ?hh14
      case hy14 =>
        refine Or.inl ⟨by rfl, ?_⟩
        intro W hW
        obtain ⟨h0, h1, h2, h3, h4⟩ := hW
        go_simp
        try with_reducible rfl
      simp only [Act.put, List.setIfInBounds_toArray, List.set_cons_zero, List.set_cons_succ]
      refine wpAnyH_at 17 (v := ?vv15) rfl (by kernel_rfl) (by kernel_rfl) (by kernel_rfl) (fun _ _ _ h => h) ?hy15 HSv ?hh15
      case hy15 =>
        refine Or.inl ⟨by rfl, ?_⟩
        intro W hW
        obtain ⟨h0, h1, h2, h3, h4⟩ := hW
        go_simp
        try with_reducible rfl
      simp only [Act.put, List.setIfInBounds_toArray, List.set_cons_zero, List.set_cons_succ]
      refine wpAnyH_at 18 (v := ?vv16) rfl (by kernel_rfl) (by kernel_rfl) (by kernel_rfl) (fun _ _ _ h => h) ?hy16 HSv ?hh16
      case hy16 =>
        refine Or.inl ⟨by rfl, ?_⟩
        intro W hW
        obtain ⟨h0, h1, h2, h3, h4⟩ := hW
        go_simp
        try with_reducible rfl
      simp only [Act.put, List.setIfInBounds_toArray, List.set_cons_zero, List.set_cons_succ]
      refine wpAnyH_at 19 (v := ?vv17) rfl (by kernel_rfl) (by kernel_rfl) (by kernel_rfl) (fun _ _ _ h => h) ?hy17 HSv ?hh17
      case hy17 =>
        refine Or.inl ⟨by rfl, ?_⟩
        intro W hW
        obtain ⟨h0, h1, h2, h3, h4⟩ := hW
        go_simp
        try with_reducible rfl
      simp only [Act.put, List.setIfInBounds_toArray, List.set_cons_zero, List.set_cons_succ]
      refine wpAnyH_at 20 (v := ?vv18) rfl (by kernel_rfl) (by kernel_rfl) (by kernel_rfl) (fun _ _ _ h => h) ?hy18 HSv ?hh18
      case hy18 =>
        refine Or.inl ⟨by rfl, ?_⟩
        intro W hW
        obtain ⟨h0, h1, h2, h3, h4⟩ := hW
        go_simp
        try with_reducible rfl
      simp only [Act.put, List.setIfInBounds_toArray, List.set_cons_zero, List.set_cons_succ]
      refine wpAnyH_1 21 rfl (by kernel_rfl) ?_
      intro K hK
      rw [if_pos (by rfl)]
      try go_simp
      go_at_call 33
      refine (staysR_any rs _ _ okr wr w8 (H5.out.2.2.2.1.below HB8.out) (H.out.1.below (H5.out.2.2.1.below HB8.out).bl) (by omega)).mono ?_
      rintro e w9 ⟨rfl, hb9⟩
      have hb9' := HB8.out.trans (hb9.mono HB8.out.size)
      have HSv := HSW.out w9 hb9'
      have HB9 := Lib.hid hb9'
      clear hb9 hb9'
      refine hK _ _ (fun _ => HSv) ?_
      try simp only [Act.put, List.setIfInBounds_toArray, List.set_cons_zero, List.set_cons_succ]
      refine wpAnyH_at 22 (v := ?vv19) rfl (by kernel_rfl) (by kernel_rfl) (by kernel_rfl) (fun _ _ _ h => h) ?hy19 HSv ?hh19
      case hy19 =>
        refine Or.inl ⟨by rfl, ?_⟩
        intro W hW
        obtain ⟨h0, h1, h2, h3, h4⟩ := hW
        go_simp
        try with_reducible rfl
      simp only [Act.put, List.setIfInBounds_toArray, List.set_cons_zero, List.set_cons_succ]
      refine wpAnyH_at 23 (v := ?vv20) rfl (by kernel_rfl) (by kernel_rfl) (by kernel_rfl) (fun _ _ _ h => h) ?hy20 HSv ?hh20
      case hy20 =>
        refine Or.inl ⟨by rfl, ?_⟩
        intro W hW
        obtain ⟨h0, h1, h2, h3, h4⟩ := hW
        go_simp
        try with_reducible rfl
      simp only [Act.put, List.setIfInBounds_toArray, List.set_cons_zero, List.set_cons_succ]
      refine wpAnyH_at 24 (v := ?vv21) rfl (by kernel_rfl) (by kernel_rfl) (by kernel_rfl) (fun _ _ _ h => h) ?hy21 HSv ?hh21
      case hy21 =>
        refine Or.inl ⟨by rfl, ?_⟩
        intro W hW
        obtain ⟨h0, h1, h2, h3, h4⟩ := hW
        go_simp
        try with_reducible rfl
      simp only [Act.put, List.setIfInBounds_toArray, List.set_cons_zero, List.set_cons_succ]
      refine wpAnyH_at 25 (v := ?vv22) rfl (by kernel_rfl) (by kernel_rfl) (by kernel_rfl) (fun _ _ _ h => h) ?hy22 HSv ?hh22
      case hy22 =>
        refine Or.inl ⟨by rfl, ?_⟩
        intro W hW
        obtain ⟨h0, h1, h2, h3, h4⟩ := hW
        go_simp
        try with_reducible rfl
      simp only [Act.put, List.setIfInBounds_toArray, List.set_cons_zero, List.set_cons_succ]
      refine wpAnyH_at 26 (v := ?vv23) rfl (by kernel_rfl) (by kernel_rfl) (by kernel_rfl) (fun _ _ _ h => h) ?hy23 HSv ?hh23
      case hy23 =>
        refine Or.inl ⟨by rfl, ?_⟩
        intro W hW
        obtain ⟨h0, h1, h2, h3, h4⟩ := hW
        go_simp
        try with_reducible rfl
      simp only [Act.put, List.setIfInBounds_toArray, List.set_cons_zero, List.set_cons_succ]
      refine wpAnyH_1 27 rfl (by kernel_rfl) ?_
      intro K hK
      rw [if_pos (by rfl)]
      try go_simp
      go_at_call 34
      refine (staysO_any l _ _ ok w3 w9 (H5.out.2.2.2.2.1.below HB9.out) (H.out.2.1.below (H5.out.2.2.1.below HB9.out).bl) (by omega)).mono ?_
      rintro e w10 ⟨rfl, hb10⟩
      have hb10' := HB9.out.trans (hb10.mono HB9.out.size)
      have HSv := HSW.out w10 hb10'
      have HB10 := Lib.hid hb10'
      clear hb10 hb10'
      refine hK _ _ (fun _ => HSv) ?_
      try simp only [Act.put, List.setIfInBounds_toArray, List.set_cons_zero, List.set_cons_succ]
      refine wpAnyH_at 28 (v := ?vv24) rfl (by kernel_rfl) (by kernel_rfl) (by kernel_rfl) (fun _ _ _ h => h) ?hy24 HSv ?hh24
      case hy24 =>
        refine Or.inl ⟨by rfl, ?_⟩
        intro W hW
        obtain ⟨h0, h1, h2, h3, h4⟩ := hW
        go_simp
        try with_reducible rfl
      simp only [Act.put, List.setIfInBounds_toArray, List.set_cons_zero, List.set_cons_succ]
      refine wpAnyH_at 29 (v := ?vv25) rfl (by kernel_rfl) (by kernel_rfl) (by kernel_rfl) (fun _ _ _ h => h) ?hy25 HSv ?hh25
      case hy25 =>
        refine Or.inl ⟨by rfl, ?_⟩
        intro W hW
        obtain ⟨h0, h1, h2, h3, h4⟩ := hW
        go_simp
        try with_reducible rfl
      simp only [Act.put, List.setIfInBounds_toArray, List.set_cons_zero, List.set_cons_succ]
      refine wpAnyH_end 30 (fun j hj => rgH_end _ _ j (by omega)) (by rfl) (by kernel_rfl) ?_
      simp only [List.drop_succ_cons, List.drop_zero]
      have HN := Lib.hid (H5.out.2.2.1.below HB10.out)
      obtain ⟨D, hD, hDh⟩ := HK.out.bk
      have hb34 := HLR.out.b.trans (HLO.out.b.mono HLR.out.b.size)
      have hb5 := hb34.trans (H5.out.2.2.2.2.2.mono hb34.size)
      have HX : Hid (∀ g, (Value.slice s5 wl.length c5).ownBlock = some g → w2.heap.size ≤ g ∧ ¬ D.Has g ∧ g ≠ w0.heap.size) := Lib.hid fun g hg => by
        have h1 := H5.out.2.1 g hg
        have h2 := HK4.out.hs
        have h3 := HK4.out.lt
        have h4 := hb34.size
        exact ⟨by omega, fun hh => by have := hD.i.lt hh; omega, by omega⟩
      have HD := Lib.hid (And.intro (hD.below (hb5.trans (HB10.out.mono hb5.size))) hDh)
      clear hD hDh hb34 hb5
      go_wp2_with fail
      refine (bookO_add HD.out.1 (H5.out.1.below HB10.out) (by omega) (fun g hg => (HX.out g hg).2.1) (fun hg => (HX.out _ hg).2.2 rfl)).mono ?_
      rintro e w11 ⟨⟨r11, rfl⟩, D', hadd⟩
      have HA := Lib.hid (HN.out.add HD.out.2 hadd (fun g hg => (HX.out g hg).1))
      clear hadd
      go_wp2_with fail
      go_roundg (2 - (k + 1))
      case measure => omega
      case rel => exact ⟨k + 1, by omega, rfl, by go_num, HA.out⟩
    · obtain ⟨D, hD, hDh⟩ := HK.out.bk
      have HD := Lib.hid (And.intro hD hDh)
      clear hD hDh
      go_wp2_with fail
      refine (alive_any _).mono ?_
      rintro en w3 ⟨rfl, hb3⟩
      have HB3 := Lib.hid hb3
      clear hb3
      go_wp2_with fail
      refine (apartO (HD.out.1.below HB3.out)).mono ?_
      rintro en w4 ⟨rfl, hk4⟩
      have HK4 := Lib.hid hk4
      clear hk4
      go_wp2_with fail
      go_ret
      refine ⟨rfl, (HK.out.bl.trans (HB3.out.mono HK.out.bl.size)).trans (HK4.out.below (by have := HK.out.bl.size; have := HB3.out.size; omega) fun g hg he => ?_)⟩
      have := HD.out.2 g he; have := HK.out.lt; omega
end Go.Proofs.YtignponfoheaeaaGreat
