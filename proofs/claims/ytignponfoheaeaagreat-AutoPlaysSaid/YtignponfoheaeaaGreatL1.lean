import Derived.Test.YtignponfoheaeaaGreatR5
import Derived.Test.YtignponfoheaeaaGreatAl9
/- AutoNext, walked. -/
namespace Go.Proofs.YtignponfoheaeaaGreat
open Go.RowKit Go.Tg Go.Maps

theorem alive_below {w0 w : World} (h : Below w0.heap.size w0 w) : Calls Tryz.prog 12 #[] w fun e w' => e = .returned (.bool true) ∧ Below w.heap.size w w' ∧ Below w0.heap.size w0 w' :=
  (alive9_any w).mono fun _ _ h' => ⟨h'.1, h'.2, h.trans (h'.2.mono h.size)⟩

theorem build_book (w : World) : (Instr.build 42 #[]).run Tryz.prog w = .ok (.agg (bookC nilS nilS nilS nilS nilS nilS)) w := by kernel_rfl
theorem box_book (w : World) : (Instr.box 42 (.agg (bookC nilS nilS nilS nilS nilS nilS))).run Tryz.prog w = .ok (.pointer (some ⟨w.heap.size, 0, none⟩)) (w.alloc (.cells (bookC nilS nilS nilS nilS nilS nilS) 42 (0, 0))) := by kernel_rfl
/-- '&Book{}'. -/
theorem wpl_newbook {ops : Array Oper} {rest : List Oper} {Q : Exit → Act → World → Prop} {a : Act} {w : World} {d1 d2 : Tmp} {t1 t2 : TypeId} {p1 p2 : String} {f1 f2 : Array Edge}
    (hx : (a.put (some d1) (.agg (bookC nilS nilS nilS nilS nilS nilS))).eval (.tmp d1) = .agg (bookC nilS nilS nilS nilS nilS nilS))
    (h : wpList Tryz.prog ops Q rest ((a.put (some d1) (.agg (bookC nilS nilS nilS nilS nilS nilS))).put (some d2) (.pointer (some ⟨w.heap.size, 0, none⟩))) (w.alloc (.cells (bookC nilS nilS nilS nilS nilS nilS) 42 (0, 0)))) :
    wpList Tryz.prog ops Q ({ dst := some d1, op := .build 42 #[], type := t1, pos := p1, after := f1, guard := none } :: { dst := some d2, op := .box 42 (.tmp d1), type := t2, pos := p2, after := f2, guard := none } :: rest) a w := by
  refine step_val (v := .agg (bookC nilS nilS nilS nilS nilS nilS)) (w' := w) rfl ?_ ?_
  · simp only [execOp, Array.map_empty, Sem.run_bind, build_book, Result.andThen_ok, Sem.run_pure, List.map_toArray, List.map_nil]
  · refine step_val (v := .pointer (some ⟨w.heap.size, 0, none⟩)) (w' := w.alloc (.cells (bookC nilS nilS nilS nilS nilS nilS) 42 (0, 0))) rfl ?_ h
    simp only [execOp, hx, Sem.run_bind, box_book, Result.andThen_ok, Sem.run_pure]

/-- The book in the loop. -/
structure NextI (w wr : World) (h0 bb : Nat) (wv : Value) (xs : List Int) : Prop where
  bk : ∃ D, BookI wr bb D ∧ ∀ g, D.Has g → h0 ≤ g
  row : RowR wr wv xs.length (iV xs)
  wb : ∀ g, wv.ownBlock = some g → g < h0 ∧ g ≠ bb
  bl : Below w.heap.size w wr
  hb : bb < h0
  hs : h0 ≤ wr.heap.size

set_option maxHeartbeats 4000000 in
set_option maxRecDepth 100000 in
theorem autoNext_any (s e : Int) (hs : (Lit.int .i64 s).wf = true) (he : (Lit.int .i64 e).wf = true) (w : World) :
    Calls Tryz.prog 3 #[.int .i64 s, .int .i64 e] w fun en w' => en = .returned (.bool true) ∧ Below w.heap.size w w' := by
  have hb0 := b1 w (.cells (bookC nilS nilS nilS nilS nilS nilS) 42 (0, 0))
  have hz : (w.alloc (.cells (bookC nilS nilS nilS nilS nilS nilS) 42 (0, 0))).heap[w.heap.size]? = some _ := heap_alloc_new w _
  have hsz := balloc1 w (.cells (bookC nilS nilS nilS nilS nilS nilS) 42 (0, 0))
  have HB := Lib.hid (And.intro hb0 (And.intro (BookI.new hz) hsz))
  have HN := Lib.hid (fun W => next_any s e hs he W)
  have HR := Lib.hid (fun W => rnext_any s e W)
  have hll := nextL_le s e
  clear hb0 hz hsz hs he
  generalize nextS s e = ns at *
  generalize nextL s e = xs at *
  go_enter Tryz.func3, Tryz.ntmps3
  go_wp2_with (refine wpl_newbook rfl ?_)
  generalize w.alloc (.cells (bookC nilS nilS nilS nilS nilS nilS) 42 (0, 0)) = w0 at *
  refine (HR.out w0).mono ?_
  rintro en w1 ⟨wv, rfl, hw⟩
  obtain ⟨sw, cw, rfl, -, -⟩ := hw.r.form
  have hs1 := hw.b.size
  have hI : NextI w w1 w1.heap.size w.heap.size (.slice sw xs.length cw) xs := {
    bk := ⟨KD.nil, HB.out.2.1.below hw.b, fun g hg => by rcases hg with (h | ⟨i, hi, _⟩) | (h | ⟨i, hi, _⟩) <;> first | cases h | exact absurd hi (Nat.not_lt_zero _)⟩
    row := hw.r.rd
    wb := fun g hg => ⟨(hw.r.blk hg).1, by have := hw.f g hg; have := HB.out.2.2; omega⟩
    bl := HB.out.1.trans (hw.b.mono HB.out.1.size)
    hb := by have := HB.out.2.2; omega
    hs := Nat.le_refl _ }
  have HI := Lib.hid hI
  clear hw hI hs1
  go_wp2_with fail
  go_loopg [8] (2 : Nat) (fun y i wr => ∃ k : Nat, k ≤ 2 ∧ y = 2 - k ∧ i = .int .i64 k ∧ Hid (NextI w wr w1.heap.size w.heap.size (.slice sw xs.length cw) xs))
  case atStart => exact ⟨0, by omega, by omega, rfl, HI.out⟩
  case round =>
    obtain ⟨k, hk, rfl, rfl, hK⟩ := hrel
    have HK := Lib.hid hK.out
    clear hK
    by_cases hk2 : k < 2
    · go_wp2_with fail
      refine (HN.out wr).mono ?_
      rintro en w2 ⟨v, rfl, hv, hb2⟩
      have hbr := brow_of_ints hv (by omega)
      have hown := own_of_ints hv
      obtain ⟨sv, cv, rfl, -, -⟩ := hbr.form
      have H2 := Lib.hid (And.intro hbr (And.intro hown hb2))
      clear hbr hown hb2 hv
      go_wp2_with fail
      refine (sameI_true xs _ _ _ H2.out.1.rd (HK.out.row.below H2.out.2.2) (by omega)).mono ?_
      rintro en w3 ⟨rfl, hb3⟩
      have HB3 := Lib.hid hb3
      clear hb3
      obtain ⟨D, hD, hDh⟩ := HK.out.bk
      have HD := Lib.hid (And.intro hD hDh)
      clear hD hDh
      go_wp2_with fail
      have hq : ∀ g, (Value.slice sv xs.length cv).ownBlock = some g → wr.heap.size ≤ g := H2.out.2.1
      refine (bookI_add ((HD.out.1.below H2.out.2.2).below HB3.out) (H2.out.1.below HB3.out) (by omega) (fun g hg hh => by have := hq g hg; have := HD.out.1.i.lt hh; omega) (fun hg => by have := hq _ hg; have := HK.out.hb; have := HK.out.hs; omega)).mono ?_
      rintro en w4 ⟨⟨r, rfl⟩, D', hadd⟩
      have HA := Lib.hid hadd
      clear hadd hq
      go_wp2_with fail
      go_roundg (2 - (k + 1))
      case measure => omega
      case rel =>
        have hs2 := H2.out.2.2.size
        have hs3 := HB3.out.size
        have hs4 := HA.out.kp.size
        have hhs := HK.out.hs
        refine ⟨k + 1, by omega, rfl, by go_num, ⟨D', HA.out.b, fun g hg => ?_⟩, ?_, HK.out.wb, ?_, HK.out.hb, by omega⟩
        · rcases HA.out.has g hg with h | h | h
          · exact HD.out.2 g h
          · have := H2.out.2.1 g h; omega
          · omega
        · refine ((HK.out.row.below H2.out.2.2).below HB3.out).keep HA.out.kp fun g hg he => ?_
          rcases he with he | he
          · exact (HK.out.wb g hg).2 he
          · have := HD.out.2 g he; have := (HK.out.wb g hg).1; omega
        · refine ((HK.out.bl.trans (H2.out.2.2.mono HK.out.bl.size)).trans (HB3.out.mono (Nat.le_trans HK.out.bl.size hs2))).trans (HA.out.kp.below (by have := HK.out.bl.size; omega) fun g hg he => ?_)
          have := HB.out.1.size
          rcases he with he | he
          · omega
          · have := HD.out.2 g he; have := HK.out.hb; omega
    · obtain ⟨D, hD, hDh⟩ := HK.out.bk
      have HD := Lib.hid (And.intro hD hDh)
      clear hD hDh
      go_wp2_with fail
      refine (alive9_any _).mono ?_
      rintro en w2 ⟨rfl, hb2⟩
      have HB2 := Lib.hid hb2
      clear hb2
      go_wp2_with fail
      refine (apartI (HD.out.1.below HB2.out)).mono ?_
      rintro en w3 ⟨rfl, hk3⟩
      have HK3 := Lib.hid hk3
      clear hk3
      go_wp2_with fail
      go_ret
      refine ⟨rfl, (HK.out.bl.trans (HB2.out.mono HK.out.bl.size)).trans (HK3.out.below (by have := HK.out.bl.size; have := HB2.out.size; omega) fun g hg he => ?_)⟩
      have := HD.out.2 g he; have := HK.out.hb; omega
end Go.Proofs.YtignponfoheaeaaGreat
