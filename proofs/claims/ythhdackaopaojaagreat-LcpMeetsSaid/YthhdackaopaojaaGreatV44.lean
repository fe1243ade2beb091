import Derived.Test.YthhdackaopaojaaGreatV36
import Derived.Test.YthhdackaopaojaaGreatTgHeld2
namespace Go.Proofs.YthhdackaopaojaaGreat
open Go.RowKit Go.Tg Go.Maps

theorem alloc3 (w : World) (A B C : Obj) : ∃ W, W = ((w.alloc A).alloc B).alloc C ∧ W.heap.size = w.heap.size + 3 ∧ W.heap[w.heap.size]? = some A ∧ W.heap[w.heap.size + 1]? = some B ∧ W.heap[w.heap.size + 1 + 1]? = some C ∧ Below w.heap.size w W := by
  have e1 := alloc1 w A
  have e2 := alloc1 (w.alloc A) B
  have e3 := alloc1 ((w.alloc A).alloc B) C
  refine ⟨_, rfl, by omega, ?_, ?_, ?_, (((Below.refl _ _).alloc (Nat.le_refl _) _).alloc (by omega) _).alloc (by omega) _⟩
  · rw [Below.heap_alloc _ _ _ (by omega), Below.heap_alloc _ _ _ (by omega)]; exact at1 _ _
  · rw [Below.heap_alloc _ _ _ (by omega), ← e1]; exact at1 _ _
  · rw [show w.heap.size + 1 + 1 = ((w.alloc A).alloc B).heap.size by omega]; exact at1 _ _

theorem set4 {w : World} {b : Nat} {T : TypeId} {a0 a1 a2 a3 : Value} (h : w.heap[b]? = some (.cells #[a0, a1, a2, a3] T (0, 0))) (v0 v1 v2 v3 : Value) :
    ((((w.setCell ⟨b, 0, none⟩ v0).setCell ⟨b, 1, none⟩ v1).setCell ⟨b, 2, none⟩ v2).setCell ⟨b, 3, none⟩ v3).heap[b]? = some (.cells #[v0, v1, v2, v3] T (0, 0)) := by
  have := set_block (set_block (set_block (set_block h 0 v0) 1 v1) 2 v2) 3 v3
  simpa using this
theorem pk_cells : (Tryz.prog.info? 38).map (·.size) = some 4 := by kernel_rfl


def RefPost (w w' : World) (S ok : Nat → Prop) (B : NegB) (C : NegC) (r : NSt × Pk) (e : Ending) : Prop :=
  ∃ vo, e = .returned (pkV r.2 vo) ∧ Opts w' (Grow ok w) vo r.2.o ∧ NegV w' (Grow S w) B C r.1 ∧ Keep (fun b => b = B.nb) w w'

/-- A packet comes back from its box. -/
theorem RefPost.fin {w W W' : World} {S ok : Nat → Prop} {B : NegB} {C : NegC} {st' : NSt} {p : Pk} {vo : Value} (h : NegV W (fun b => S b ∧ b < w.heap.size) B C st') (hk : Keep (fun b => b = B.nb) w W) (hk' : Keep (fun b => b = w.heap.size + 1) W W')
    (ho : Opts W' (Grow ok w) vo p.o) (_hd : p.d = noB) (e : Ending) (he : e = .returned (pkV p vo)) : RefPost w W' S ok B C (st', p) e := by
  refine ⟨vo, he, ho, (h.keep hk' (fun b _ hb he => by have := hb.2; omega)).mono (fun b hb => .inl hb.1), ?_⟩
  exact ⟨hk'.os.trans hk.os, hk'.tape.trans hk.tape, hk'.output.trans hk.output, Nat.le_trans hk.size hk'.size, fun b hb hn => (hk'.block b (Nat.lt_of_lt_of_le hb hk.size) (by omega)).trans (hk.block b hb hn)⟩

/-- The options that are named again, as they are laid. -/
structure RefI (w wr : World) (c0 c1 : Array Value) (pi : Int) (v : Value) (kept : List Opt) : Prop where
  below : Below w.heap.size w wr
  x0 : wr.heap[w.heap.size]? = some (.cells c0 113 (0, 0))
  x1 : wr.heap[w.heap.size + 1]? = some (.cells c1 38 (0, 0))
  x2 : wr.heap[w.heap.size + 1 + 1]? = some (.cells #[.int .i64 4, .int .i64 pi, v, .string ⟨#[]⟩] 38 (0, 0))
  row : ORow wr (w.heap.size + 1 + 1 + 1) v kept
theorem RefI.sz {w wr : World} {c0 c1 : Array Value} {pi : Int} {v : Value} {kept : List Opt} (h : RefI w wr c0 c1 pi v kept) : w.heap.size + 1 + 1 + 1 ≤ wr.heap.size := (Array.getElem?_eq_some_iff.1 h.x2).1
theorem RefI.go {w wr w' : World} {c0 c1 : Array Value} {pi : Int} {v : Value} {kept : List Opt} (h : RefI w wr c0 c1 pi v kept) (hb : Below wr.heap.size wr w') : RefI w w' c0 c1 pi v kept := by
  have := h.sz
  exact ⟨h.below.trans (hb.mono h.below.size), (hb.block _ (by omega)).trans h.x0, (hb.block _ (by omega)).trans h.x1, (hb.block _ (by omega)).trans h.x2, h.row.below hb⟩
theorem RefI.app {w wr w' : World} {c0 c1 : Array Value} {pi : Int} {v v' : Value} {kept kept' : List Opt} (h : RefI w wr c0 c1 pi v kept) (hk : Keep (fun k => v.ownBlock = some k) wr w') (hr : ORow w' (w.heap.size + 1 + 1 + 1) v' kept') :
    RefI w (w'.setCell ⟨w.heap.size + 1 + 1, 2, none⟩ v') c0 c1 pi v' kept' := by
  have hs := h.sz
  have hn : ∀ k, k < w.heap.size + 1 + 1 + 1 → ¬ v.ownBlock = some k := fun k hk he => by have := (h.row.lt k he).2; omega
  have y0 := (hk.block _ (by omega) (hn _ (by omega))).trans h.x0
  have y1 := (hk.block _ (by omega) (hn _ (by omega))).trans h.x1
  have y2 := (hk.block _ (by omega) (hn _ (by omega))).trans h.x2
  have hk2 : Keep (fun b => b = w.heap.size + 1 + 1) w' (w'.setCell ⟨w.heap.size + 1 + 1, 2, none⟩ v') := (Keep.refl (fun b => b = w.heap.size + 1 + 1) w').setCell ⟨w.heap.size + 1 + 1, 2, none⟩ (Or.inr rfl) v'
  have hs' := hk.size
  have hbs := h.below.size
  refine ⟨h.below.trans ((hk.below hbs (fun k hk => hn k (by omega))).trans (hk2.below (by omega) (fun k hk he => by omega))), (hk2.block _ (by omega) (by omega)).trans y0, (hk2.block _ (by omega) (by omega)).trans y1, ?_, hr.keep hk2 (fun k hk he => by have := (hr.lt k hk).2; omega)⟩
  have := set_block y2 2 v'
  simpa using this

section
variable {w : World} {S ok : Nat → Prop} {B : NegB} {C : NegC} {st : NSt} {X : NegX} (c : Came) (po pa : Value)

set_option maxHeartbeats 4000000 in
set_option maxRecDepth 100000 in
theorem refuse_at (h : NegAt w S B C st X) (hc : CameAt w B ok c po pa) :
    Calls Tryz.prog 117 #[.pointer (some ⟨B.nb, 0, none⟩), cameV c po pa] w fun e w' => RefPost w w' S ok B C (refuseS C st c) e := by
  obtain ⟨a1, k1, rfl, hc1, hc2⟩ := hc.1.form
  obtain ⟨a2, k2, rfl, hc3, hc4⟩ := hc.2.1.form
  have H := Lib.hid (And.intro h hc)
  obtain ⟨is, ⟨pc, pi, pl, pd⟩, cc, ca⟩ := c
  unfold cameV
  clear h hc
  by_cases h3 : cc = 3
  · subst h3
    obtain ⟨W, hW, hs, x0, x1, x2, hb⟩ := alloc3 w (.cells #[.bool is, .int .i64 pc, .int .i64 pi, .slice a1 pl.length k1, .string pd, .int .i64 3, .slice a2 ca.length k2] 113 (0, 0)) (.cells #[.int .i64 0, .int .i64 0, .slice none 0 0, .string ⟨#[]⟩] 38 (0, 0)) (.cells #[.int .i64 3, .int .i64 pi, .slice a2 ca.length k2, .string ⟨#[]⟩] 38 (0, 0))
    have h1 := H.out.1.old.below hb
    have g7 : W.cell? ⟨B.nb, 7, none⟩ = some (.int .i64 C.fl) := h1.cell 7
    have g13 : W.cell? ⟨B.nb, 13, none⟩ = some (.int .i64 st.naks) := h1.cell 13
    have HSv : (fun W : World => W.cell? ⟨B.nb, 7, none⟩ = some (.int .i64 C.fl) ∧ W.cell? ⟨B.nb, 13, none⟩ = some (.int .i64 st.naks)) W.drew := ⟨g7, g13⟩
    have HB := Lib.hid (And.intro hb (And.intro h1 (And.intro x0 (And.intro x1 (And.intro x2 hs)))))
    have c20 : W.cell? ⟨w.heap.size + 1 + 1, 0, none⟩ = some (.int .i64 3) := cellOf x2 0 _ rfl
    have c21 : W.cell? ⟨w.heap.size + 1 + 1, 1, none⟩ = some (.int .i64 pi) := cellOf x2 1 _ rfl
    have c22 : W.cell? ⟨w.heap.size + 1 + 1, 2, none⟩ = some (.slice a2 ca.length k2) := cellOf x2 2 _ rfl
    have c23 : W.cell? ⟨w.heap.size + 1 + 1, 3, none⟩ = some (.string ⟨#[]⟩) := cellOf x2 3 _ rfl
    have c10 : W.cell? ⟨w.heap.size + 1, 0, none⟩ = some (.int .i64 0) := cellOf x1 0 _ rfl
    have c11 : W.cell? ⟨w.heap.size + 1, 1, none⟩ = some (.int .i64 0) := cellOf x1 1 _ rfl
    have c12 : W.cell? ⟨w.heap.size + 1, 2, none⟩ = some (.slice none 0 0) := cellOf x1 2 _ rfl
    have c13 : W.cell? ⟨w.heap.size + 1, 3, none⟩ = some (.string ⟨#[]⟩) := cellOf x1 3 _ rfl
    have c06 : W.cell? ⟨w.heap.size, 6, none⟩ = some (.slice a2 ca.length k2) := cellOf x0 6 _ rfl
    have c03 : W.cell? ⟨w.heap.size, 3, none⟩ = some (.slice a1 pl.length k1) := cellOf x0 3 _ rfl
    have z1 := fun o => fzOf x1 o
    have z2 := fun o => fzOf x2 o
    have zn := fun o => h1.fz o
    have hne : B.nb < w.heap.size := H.out.1.nlt
    clear hb h1 x0 x1 x2 hs
    go_enter Tryz.func117, Tryz.ntmps117
    go_wp2_with fail
    rw [← hW]
    clear hW
    refine wp_region_N 18 (fun W : World => W.cell? ⟨B.nb, 7, none⟩ = some (.int .i64 C.fl) ∧ W.cell? ⟨B.nb, 13, none⟩ = some (.int .i64 st.naks)) (by kernel_rfl) ?_
    by_cases hf : 0 < C.fl
    · have df : decide (0 < C.fl) = true := by simpa using hf
      by_cases hn : C.fl ≤ st.naks
      · have dn : decide (C.fl ≤ st.naks) = true := by simpa using hn
        have HQ := Lib.hid (show 0 < C.fl ∧ C.fl ≤ st.naks from ⟨hf, hn⟩)
        obtain ⟨len, hln⟩ : ∃ len, len = pl.length := ⟨_, rfl⟩
        have HLN := Lib.hid hln
        rw [← hln]
        rw [← hln] at c03 hc1
        have hlen : len ≤ 1000000 := by have := H.out.2.2.2.2.1; simp only at this; omega
        have hpo := H.out.2.1
        have hpa := H.out.2.2.1
        have hla := H.out.2.2.2.2.2
        simp only at hpo hpa hla
        rw [← hln] at hpo
        have HP := Lib.hid (And.intro hpo (And.intro hpa hla))
        have HI0 : RefI w ((W.setCell ⟨w.heap.size + 1 + 1, 0, none⟩ (.int .i64 4)).setCell ⟨w.heap.size + 1 + 1, 2, none⟩ (.slice none 0 0)).drew (cameCells ⟨is, ⟨pc, pi, pl, pd⟩, 3, ca⟩ (.slice a1 len k1) (.slice a2 ca.length k2)) #[.int .i64 0, .int .i64 0, .slice none 0 0, .string ⟨#[]⟩] pi (.slice none 0 0) [] := by
          have hs := HB.out.2.2.2.2.2
          have kk := (((Keep.refl (fun b => b = w.heap.size + 1 + 1) W).setCell ⟨w.heap.size + 1 + 1, 0, none⟩ (Or.inr rfl) (.int .i64 4)).setCell ⟨w.heap.size + 1 + 1, 2, none⟩ (Or.inr rfl) (.slice none 0 0)).drew
          have yy : ((W.setCell ⟨w.heap.size + 1 + 1, 0, none⟩ (.int .i64 4)).setCell ⟨w.heap.size + 1 + 1, 2, none⟩ (.slice none 0 0)).heap[w.heap.size + 1 + 1]? = some (.cells #[.int .i64 4, .int .i64 pi, .slice none 0 0, .string ⟨#[]⟩] 38 (0, 0)) := by
            have := set_block (set_block HB.out.2.2.2.2.1 0 (.int .i64 4)) 2 (.slice none 0 0)
            simpa using this
          have xx := HB.out.2.2.1
          rw [← hln] at xx
          refine ⟨HB.out.1.trans (kk.below (by omega) (fun k hk he => by omega)), (kk.block _ (by omega) (by omega)).trans xx, (kk.block _ (by omega) (by omega)).trans HB.out.2.2.2.1, yy, ORow.nil _ _⟩
        have HI0 := Lib.hid HI0
        clear hf hn hln hpo hpa hla
        refine wpAnyN_at 0 (v := ?vv1) rfl (by kernel_rfl) (by kernel_rfl) (by kernel_rfl) (fun _ _ _ h => h) ?hy1 HSv ?hh1
        case hy1 =>
          refine Or.inl ⟨by rfl, ?_⟩
          intro W hW
          obtain ⟨h1, h2⟩ := hW
          go_simp
          try with_reducible rfl
        simp only [Act.put, List.setIfInBounds_toArray, List.set_cons_zero, List.set_cons_succ]
        refine wpAnyN_at 1 (v := ?vv2) rfl (by kernel_rfl) (by kernel_rfl) (by kernel_rfl) (fun _ _ _ h => h) ?hy2 HSv ?hh2
        case hy2 =>
          refine Or.inl ⟨by rfl, ?_⟩
          intro W hW
          obtain ⟨h1, h2⟩ := hW
          go_simp
          try with_reducible rfl
        simp only [Act.put, List.setIfInBounds_toArray, List.set_cons_zero, List.set_cons_succ]
        refine wpAnyN_at 2 (v := ?vv3) rfl (by kernel_rfl) (by kernel_rfl) (by kernel_rfl) (fun _ _ _ h => h) ?hy3 HSv ?hh3
        case hy3 =>
          refine Or.inl ⟨by rfl, ?_⟩
          intro W hW
          obtain ⟨h1, h2⟩ := hW
          go_simp
          try with_reducible rfl
        simp only [Act.put, List.setIfInBounds_toArray, List.set_cons_zero, List.set_cons_succ]
        refine wpAnyN_at 3 (v := ?vv4) rfl (by kernel_rfl) (by kernel_rfl) (by kernel_rfl) (fun _ _ _ h => h) ?hy4 HSv ?hh4
        case hy4 =>
          refine Or.inl ⟨by rfl, ?_⟩
          intro W hW
          obtain ⟨h1, h2⟩ := hW
          go_simp
          try with_reducible rfl
        simp only [Act.put, List.setIfInBounds_toArray, List.set_cons_zero, List.set_cons_succ]
        refine wpAnyN_at 4 (v := ?vv5) rfl (by kernel_rfl) (by kernel_rfl) (by kernel_rfl) (fun _ _ _ h => h) ?hy5 HSv ?hh5
        case hy5 =>
          refine Or.inl ⟨by rfl, ?_⟩
          intro W hW
          obtain ⟨h1, h2⟩ := hW
          go_simp
          try with_reducible rfl
        simp only [Act.put, List.setIfInBounds_toArray, List.set_cons_zero, List.set_cons_succ]
        refine wpAnyN_at 5 (v := ?vv6) rfl (by kernel_rfl) (by kernel_rfl) (by kernel_rfl) (fun _ _ _ h => h) ?hy6 HSv ?hh6
        case hy6 =>
          refine Or.inl ⟨by rfl, ?_⟩
          intro W hW
          obtain ⟨h1, h2⟩ := hW
          go_simp
          try with_reducible rfl
        simp only [Act.put, List.setIfInBounds_toArray, List.set_cons_zero, List.set_cons_succ]
        refine wpAnyN_at 6 (v := ?vv7) rfl (by kernel_rfl) (by kernel_rfl) (by kernel_rfl) (fun _ _ _ h => h) ?hy7 HSv ?hh7
        case hy7 =>
          refine Or.inl ⟨by rfl, ?_⟩
          intro W hW
          obtain ⟨h1, h2⟩ := hW
          go_simp
          try with_reducible rfl
        simp only [Act.put, List.setIfInBounds_toArray, List.set_cons_zero, List.set_cons_succ]
        refine wpAnyN_at 7 (v := ?vv8) rfl (by kernel_rfl) (by kernel_rfl) (by kernel_rfl) (fun _ _ _ h => h) ?hy8 HSv ?hh8
        case hy8 =>
          refine Or.inl ⟨by rfl, ?_⟩
          intro W hW
          obtain ⟨h1, h2⟩ := hW
          go_simp
          try with_reducible rfl
        simp only [Act.put, List.setIfInBounds_toArray, List.set_cons_zero, List.set_cons_succ]
        refine wpAnyN_at 8 (v := ?vv9) rfl (by kernel_rfl) (by kernel_rfl) (by kernel_rfl) (fun _ _ _ h => h) ?hy9 HSv ?hh9
        case hy9 =>
          refine Or.inl ⟨by rfl, ?_⟩
          intro W hW
          obtain ⟨h1, h2⟩ := hW
          go_simp
          try with_reducible rfl
        simp only [Act.put, List.setIfInBounds_toArray, List.set_cons_zero, List.set_cons_succ]
        refine wpAnyN_at 9 (v := ?vv10) rfl (by kernel_rfl) (by kernel_rfl) (by kernel_rfl) (fun _ _ _ h => h) ?hy10 HSv ?hh10
        case hy10 =>
          refine Or.inl ⟨by rfl, ?_⟩
          intro W hW
          obtain ⟨h1, h2⟩ := hW
          go_simp
          try with_reducible rfl
        simp only [Act.put, List.setIfInBounds_toArray, List.set_cons_zero, List.set_cons_succ]
        refine wpAnyN_at 10 (v := ?vv11) rfl (by kernel_rfl) (by kernel_rfl) (by kernel_rfl) (fun _ _ _ h => h) ?hy11 HSv ?hh11
        case hy11 =>
          refine Or.inl ⟨by rfl, ?_⟩
          intro W hW
          obtain ⟨h1, h2⟩ := hW
          go_simp
          try with_reducible rfl
        simp only [Act.put, List.setIfInBounds_toArray, List.set_cons_zero, List.set_cons_succ]
        refine wpAnyN_at 11 (v := ?vv12) rfl (by kernel_rfl) (by kernel_rfl) (by kernel_rfl) (fun _ _ _ h => h) ?hy12 HSv ?hh12
        case hy12 =>
          refine Or.inl ⟨by rfl, ?_⟩
          intro W hW
          obtain ⟨h1, h2⟩ := hW
          go_simp
          try with_reducible rfl
        simp only [Act.put, List.setIfInBounds_toArray, List.set_cons_zero, List.set_cons_succ]
        refine wpAnyN_at 12 (v := ?vv13) rfl (by kernel_rfl) (by kernel_rfl) (by kernel_rfl) (fun _ _ _ h => h) ?hy13 HSv ?hh13
        case hy13 =>
          refine Or.inl ⟨by rfl, ?_⟩
          intro W hW
          obtain ⟨h1, h2⟩ := hW
          go_simp
          try with_reducible rfl
        simp only [Act.put, List.setIfInBounds_toArray, List.set_cons_zero, List.set_cons_succ]
        refine wpAnyN_at 13 (v := ?vv14) rfl (by kernel_rfl) (by kernel_rfl) (by kernel_rfl) (fun _ _ _ h => h) ?hy14 HSv ?hh14
        case hy14 =>
          refine Or.inl ⟨by rfl, ?_⟩
          intro W hW
          obtain ⟨h1, h2⟩ := hW
          go_simp
          try with_reducible rfl
        simp only [Act.put, List.setIfInBounds_toArray, List.set_cons_zero, List.set_cons_succ]
        refine wpAnyN_at 14 (v := ?vv15) rfl (by kernel_rfl) (by kernel_rfl) (by kernel_rfl) (fun _ _ _ h => h) ?hy15 HSv ?hh15
        case hy15 =>
          refine Or.inl ⟨by rfl, ?_⟩
          intro W hW
          obtain ⟨h1, h2⟩ := hW
          go_simp
          try with_reducible rfl
        simp only [Act.put, List.setIfInBounds_toArray, List.set_cons_zero, List.set_cons_succ]
        refine wpAnyN_at 15 (v := ?vv16) rfl (by kernel_rfl) (by kernel_rfl) (by kernel_rfl) (fun _ _ _ h => h) ?hy16 HSv ?hh16
        case hy16 =>
          refine Or.inl ⟨by rfl, ?_⟩
          intro W hW
          obtain ⟨h1, h2⟩ := hW
          go_simp
          try with_reducible rfl
        simp only [Act.put, List.setIfInBounds_toArray, List.set_cons_zero, List.set_cons_succ]
        refine wpAnyN_at 16 (v := ?vv17) rfl (by kernel_rfl) (by kernel_rfl) (by kernel_rfl) (fun _ _ _ h => h) ?hy17 HSv ?hh17
        case hy17 =>
          refine Or.inl ⟨by rfl, ?_⟩
          intro W hW
          obtain ⟨h1, h2⟩ := hW
          go_simp
          try with_reducible rfl
        simp only [Act.put, List.setIfInBounds_toArray, List.set_cons_zero, List.set_cons_succ]
        refine wpAnyN_at 17 (v := ?vv18) rfl (by kernel_rfl) (by kernel_rfl) (by kernel_rfl) (fun _ _ _ h => h) ?hy18 HSv ?hh18
        case hy18 =>
          refine Or.inl ⟨by rfl, ?_⟩
          intro W hW
          obtain ⟨h1, h2⟩ := hW
          go_simp
          try with_reducible rfl
        simp only [Act.put, List.setIfInBounds_toArray, List.set_cons_zero, List.set_cons_succ]
        refine wpAnyN_end 18 (by decide) rfl (by kernel_rfl) ?_
        simp only [List.drop_succ_cons, List.drop_zero]
        go_wp2_with fail
        clear c20 c21 c22 c23 c10 c11 c12 c13 c06 c03 z1 z2 zn g7 g13 HSv df dn hne
        go_loopg [46] len (fun x i wr => ∃ k : Nat, k ≤ len ∧ x = len - k ∧ i = .int .i64 k ∧ Hid (∃ v, RefI w wr (cameCells ⟨is, ⟨pc, pi, pl, pd⟩, 3, ca⟩ (.slice a1 len k1) (.slice a2 ca.length k2)) #[.int .i64 0, .int .i64 0, .slice none 0 0, .string ⟨#[]⟩] pi v ((pl.take k).filter fun o => (findO ca o.t).isSome)))
        case atStart => exact ⟨0, by omega, by omega, rfl, _, HI0.out⟩
        case round =>
          obtain ⟨k, hk, rfl, rfl, hK⟩ := hrel
          obtain ⟨va, hva⟩ := hK.out
          have HK := Lib.hid hva
          obtain ⟨ra, rc, rfl⟩ := hva.row.form
          clear hK hva
          by_cases hkl : k < len
          · have hkl' : k < pl.length := by have := HLN.out; omega
            obtain ⟨b, off, rfl, hb, -, -, -, -, c0, c1⟩ := HP.out.1.at k hkl'
            have d0 : wr.cell? ⟨b, off + k * 2, none⟩ = _ := (HK.out.below.cell (p := ⟨b, off + k * 2, none⟩) hb).trans c0
            have d1 : wr.cell? ⟨b, off + k * 2 + 1, none⟩ = _ := (HK.out.below.cell (p := ⟨b, off + k * 2 + 1, none⟩) hb).trans c1
            have HS := Lib.hid (show (pl.take (k + 1)).filter (fun o => (findO ca o.t).isSome) = (pl.take k).filter (fun o => (findO ca o.t).isSome) ++ (if (findO ca pl[k].t).isSome then [pl[k]] else []) from by
              rw [List.take_succ_eq_append_getElem hkl', List.filter_append]
              congr 1
              cases h : (findO ca pl[k].t).isSome <;> simp [h])
            have hkept : ((pl.take k).filter fun o => (findO ca o.t).isSome).length ≤ 1000000 := Nat.le_trans (List.length_filter_le _ _) (by rw [List.length_take]; omega)
            generalize (pl.take k).filter (fun o => (findO ca o.t).isSome) = kept at HK HS hkept ⊢
            generalize pl[k] = o at c0 c1 d0 d1 HS
            obtain ⟨t, v⟩ := o
            simp only at d0 d1 HS
            have hb1 := (Below.refl wr.heap.size wr).alloc (Nat.le_refl _) (.cells #[.int .i64 t, .string v] 67 (0, 0))
            have HX := Lib.hid (at1 wr (.cells #[.int .i64 t, .string v] 67 (0, 0)))
            have HKA := Lib.hid (HK.out.go hb1)
            have HF := Lib.hid (findO_any ca _ ok t _ (Opts.below HP.out.2.1 (HK.out.below.trans (hb1.mono HK.out.below.size))) HP.out.2.2)
            have c6 : (wr.alloc (.cells #[.int .i64 t, .string v] 67 (0, 0))).cell? ⟨w.heap.size, 6, none⟩ = some (.slice a2 ca.length k2) := cellOf HKA.out.x0 6 _ rfl
            generalize ((findO ca t).getD default).v = sv at HF
            generalize (findO ca t).isSome = y at HF HS
            clear c0 c1 hb1
            cases y with
            | false =>
              go_wp2_with (go_at_call 20; refine HF.out.mono ?_; rintro e w2 ⟨rfl, hb2⟩)
              go_roundg (len - (k + 1))
              case measure => omega
              case rel => exact ⟨k + 1, by omega, rfl, by go_num, _, by rw [show _ = kept from HS.out.trans (List.append_nil kept)]; exact HKA.out.go hb2⟩
            | true =>
              go_wp2_with (first
                | (go_at_call 20; refine HF.out.mono ?_; rintro e w2 ⟨rfl, hb2⟩
                   have H2 := Lib.hid (HKA.out.go hb2)
                   have xb := (hb2.block wr.heap.size (by rw [alloc1]; omega)).trans HX.out
                   have e0 : w2.cell? ⟨wr.heap.size, 0, none⟩ = some (.int .i64 t) := cellOf xb 0 _ rfl
                   have e1 : w2.cell? ⟨wr.heap.size, 1, none⟩ = some (.string v) := cellOf xb 1 _ rfl
                   have e2 : w2.cell? ⟨w.heap.size + 1 + 1, 2, none⟩ = some (.slice ra kept.length rc) := cellOf H2.out.x2 2 _ rfl
                   have H3 := Lib.hid (H2.out.go ((Below.refl _ _).alloc (Nat.le_refl _) (.cells #[.int .i64 t, .string v] 67 (0, 0))))
                   have HX3 := Lib.hid (at1 w2 (.cells #[.int .i64 t, .string v] 67 (0, 0)))
                   clear xb hb2)
                | (at_builtin; refine wpl_append_opt rfl _ _ rfl _ _ rfl H3.out.row _ 1 t v rfl HX3.out hkept H3.out.sz ?_
                   intro g4 cap4 w4 r4 k4 o4
                   have y2 := (k4.block (w.heap.size + 1 + 1) (by have := H3.out.sz; omega) (fun he => by have := (H3.out.row.lt _ he).2; omega)).trans H3.out.x2
                   have e5 : w4.cell? ⟨w.heap.size + 1 + 1, 2, none⟩ = some (.slice ra kept.length rc) := cellOf y2 2 _ rfl
                   have f5 := fun o => fzOf y2 o
                   have hl4 : (kept ++ [(⟨t, v⟩ : Opt)]).length = kept.length + 1 := by simp
                   rw [hl4] at r4
                   have H4 := Lib.hid (H3.out.app k4 r4)
                   clear r4 k4 o4 y2 hl4))
              go_roundg (len - (k + 1))
              case measure => omega
              case rel => exact ⟨k + 1, by omega, rfl, by go_num, _, by rw [show _ = kept ++ [⟨t, v⟩] from HS.out]; exact H4.out⟩
          · obtain rfl : len = k := by omega
            rw [show pl.take len = pl from by rw [HLN.out, List.take_length]] at HK
            have y1 := HK.out.x1
            have y2 := HK.out.x2
            have e20 : wr.cell? ⟨w.heap.size + 1 + 1, 0, none⟩ = some (.int .i64 4) := cellOf y2 0 _ rfl
            have e21 : wr.cell? ⟨w.heap.size + 1 + 1, 1, none⟩ = some (.int .i64 pi) := cellOf y2 1 _ rfl
            have e22 := cellOf y2 2 _ rfl
            have e23 : wr.cell? ⟨w.heap.size + 1 + 1, 3, none⟩ = some (.string ⟨#[]⟩) := cellOf y2 3 _ rfl
            have e10 : wr.cell? ⟨w.heap.size + 1, 0, none⟩ = some (.int .i64 0) := cellOf y1 0 _ rfl
            have e11 : wr.cell? ⟨w.heap.size + 1, 1, none⟩ = some (.int .i64 0) := cellOf y1 1 _ rfl
            have e12 : wr.cell? ⟨w.heap.size + 1, 2, none⟩ = some (.slice none 0 0) := cellOf y1 2 _ rfl
            have e13 : wr.cell? ⟨w.heap.size + 1, 3, none⟩ = some (.string ⟨#[]⟩) := cellOf y1 3 _ rfl
            have f1 := fun o => fzOf y1 o
            have HY := Lib.hid y1
            have e : refuseS C st ⟨is, ⟨pc, pi, pl, pd⟩, 3, ca⟩ = (st, ⟨4, pi, pl.filter fun o => (findO ca o.t).isSome, noB⟩) := by
              unfold refuseS; rw [if_neg (by simp), if_pos HQ.out]
            have HE := Lib.hid e
            have hkept : (pl.filter fun o => (findO ca o.t).isSome).length ≤ 1000000 := Nat.le_trans (List.length_filter_le _ _) (by have := HLN.out; omega)
            generalize pl.filter (fun o => (findO ca o.t).isSome) = kept at HK hkept e22 HE
            clear y1 y2 e
            go_wp2_with fail
            rw [HE.out]
            refine bodyPost_ret (results_cell_row rfl _ _ (w.heap.size + 1) 38 _ (0, 0) _ rfl (set4 HY.out _ _ _ _) Tryz.underlying38 rfl pk_cells) rfl ?_
            have hk4 := keep4 wr (w.heap.size + 1) (.int .i64 4) (.int .i64 pi) (.slice ra kept.length rc) (.string ⟨#[]⟩)
            refine RefPost.fin ⟨X, H.out.1.old.below HK.out.below⟩ (Keep.of_below _ HK.out.below) hk4 (vo := .slice ra kept.length rc) ?_ rfl _ rfl
            exact Rec.mono (Rec.keep (HK.out.row.opts (by unfold maxLen; omega)) hk4 (fun b _ hb he => by omega)) (fun b hb => .inr (by have hb : w.heap.size + 1 + 1 + 1 ≤ b := hb; omega))
      · have dn : decide (C.fl ≤ st.naks) = false := by simpa using hn
        have HQ := Lib.hid (show ¬ (0 < C.fl ∧ C.fl ≤ st.naks) from fun h => hn h.2)
        clear hf hn
        refine wpAnyN_at 0 (v := ?vv19) rfl (by kernel_rfl) (by kernel_rfl) (by kernel_rfl) (fun _ _ _ h => h) ?hy19 HSv ?hh19
        case hy19 =>
          refine Or.inl ⟨by rfl, ?_⟩
          intro W hW
          obtain ⟨h1, h2⟩ := hW
          go_simp
          try with_reducible rfl
        simp only [Act.put, List.setIfInBounds_toArray, List.set_cons_zero, List.set_cons_succ]
        refine wpAnyN_at 1 (v := ?vv20) rfl (by kernel_rfl) (by kernel_rfl) (by kernel_rfl) (fun _ _ _ h => h) ?hy20 HSv ?hh20
        case hy20 =>
          refine Or.inl ⟨by rfl, ?_⟩
          intro W hW
          obtain ⟨h1, h2⟩ := hW
          go_simp
          try with_reducible rfl
        simp only [Act.put, List.setIfInBounds_toArray, List.set_cons_zero, List.set_cons_succ]
        refine wpAnyN_at 2 (v := ?vv21) rfl (by kernel_rfl) (by kernel_rfl) (by kernel_rfl) (fun _ _ _ h => h) ?hy21 HSv ?hh21
        case hy21 =>
          refine Or.inl ⟨by rfl, ?_⟩
          intro W hW
          obtain ⟨h1, h2⟩ := hW
          go_simp
          try with_reducible rfl
        simp only [Act.put, List.setIfInBounds_toArray, List.set_cons_zero, List.set_cons_succ]
        refine wpAnyN_at 3 (v := ?vv22) rfl (by kernel_rfl) (by kernel_rfl) (by kernel_rfl) (fun _ _ _ h => h) ?hy22 HSv ?hh22
        case hy22 =>
          refine Or.inl ⟨by rfl, ?_⟩
          intro W hW
          obtain ⟨h1, h2⟩ := hW
          go_simp
          try with_reducible rfl
        simp only [Act.put, List.setIfInBounds_toArray, List.set_cons_zero, List.set_cons_succ]
        refine wpAnyN_at 4 (v := ?vv23) rfl (by kernel_rfl) (by kernel_rfl) (by kernel_rfl) (fun _ _ _ h => h) ?hy23 HSv ?hh23
        case hy23 =>
          refine Or.inl ⟨by rfl, ?_⟩
          intro W hW
          obtain ⟨h1, h2⟩ := hW
          go_simp
          try with_reducible rfl
        simp only [Act.put, List.setIfInBounds_toArray, List.set_cons_zero, List.set_cons_succ]
        refine wpAnyN_at 5 (v := ?vv24) rfl (by kernel_rfl) (by kernel_rfl) (by kernel_rfl) (fun _ _ _ h => h) ?hy24 HSv ?hh24
        case hy24 =>
          refine Or.inl ⟨by rfl, ?_⟩
          intro W hW
          obtain ⟨h1, h2⟩ := hW
          go_simp
          try with_reducible rfl
        simp only [Act.put, List.setIfInBounds_toArray, List.set_cons_zero, List.set_cons_succ]
        refine wpAnyN_at 6 (v := ?vv25) rfl (by kernel_rfl) (by kernel_rfl) (by kernel_rfl) (fun _ _ _ h => h) ?hy25 HSv ?hh25
        case hy25 =>
          refine Or.inl ⟨by rfl, ?_⟩
          intro W hW
          obtain ⟨h1, h2⟩ := hW
          go_simp
          try with_reducible rfl
        simp only [Act.put, List.setIfInBounds_toArray, List.set_cons_zero, List.set_cons_succ]
        refine wpAnyN_at 7 (v := ?vv26) rfl (by kernel_rfl) (by kernel_rfl) (by kernel_rfl) (fun _ _ _ h => h) ?hy26 HSv ?hh26
        case hy26 =>
          refine Or.inl ⟨by rfl, ?_⟩
          intro W hW
          obtain ⟨h1, h2⟩ := hW
          go_simp
          try with_reducible rfl
        simp only [Act.put, List.setIfInBounds_toArray, List.set_cons_zero, List.set_cons_succ]
        refine wpAnyN_at 8 (v := ?vv27) rfl (by kernel_rfl) (by kernel_rfl) (by kernel_rfl) (fun _ _ _ h => h) ?hy27 HSv ?hh27
        case hy27 =>
          refine Or.inl ⟨by rfl, ?_⟩
          intro W hW
          obtain ⟨h1, h2⟩ := hW
          go_simp
          try with_reducible rfl
        simp only [Act.put, List.setIfInBounds_toArray, List.set_cons_zero, List.set_cons_succ]
        refine wpAnyN_at 9 (v := ?vv28) rfl (by kernel_rfl) (by kernel_rfl) (by kernel_rfl) (fun _ _ _ h => h) ?hy28 HSv ?hh28
        case hy28 =>
          refine Or.inl ⟨by rfl, ?_⟩
          intro W hW
          obtain ⟨h1, h2⟩ := hW
          go_simp
          try with_reducible rfl
        simp only [Act.put, List.setIfInBounds_toArray, List.set_cons_zero, List.set_cons_succ]
        refine wpAnyN_at 10 (v := ?vv29) rfl (by kernel_rfl) (by kernel_rfl) (by kernel_rfl) (fun _ _ _ h => h) ?hy29 HSv ?hh29
        case hy29 =>
          refine Or.inl ⟨by rfl, ?_⟩
          intro W hW
          obtain ⟨h1, h2⟩ := hW
          go_simp
          try with_reducible rfl
        simp only [Act.put, List.setIfInBounds_toArray, List.set_cons_zero, List.set_cons_succ]
        refine wpAnyN_at 11 (v := ?vv30) rfl (by kernel_rfl) (by kernel_rfl) (by kernel_rfl) (fun _ _ _ h => h) ?hy30 HSv ?hh30
        case hy30 =>
          refine Or.inl ⟨by rfl, ?_⟩
          intro W hW
          obtain ⟨h1, h2⟩ := hW
          go_simp
          try with_reducible rfl
        simp only [Act.put, List.setIfInBounds_toArray, List.set_cons_zero, List.set_cons_succ]
        refine wpAnyN_at 12 (v := ?vv31) rfl (by kernel_rfl) (by kernel_rfl) (by kernel_rfl) (fun _ _ _ h => h) ?hy31 HSv ?hh31
        case hy31 =>
          refine Or.inl ⟨by rfl, ?_⟩
          intro W hW
          obtain ⟨h1, h2⟩ := hW
          go_simp
          try with_reducible rfl
        simp only [Act.put, List.setIfInBounds_toArray, List.set_cons_zero, List.set_cons_succ]
        refine wpAnyN_at 13 (v := ?vv32) rfl (by kernel_rfl) (by kernel_rfl) (by kernel_rfl) (fun _ _ _ h => h) ?hy32 HSv ?hh32
        case hy32 =>
          refine Or.inl ⟨by rfl, ?_⟩
          intro W hW
          obtain ⟨h1, h2⟩ := hW
          go_simp
          try with_reducible rfl
        simp only [Act.put, List.setIfInBounds_toArray, List.set_cons_zero, List.set_cons_succ]
        refine wpAnyN_at 14 (v := ?vv33) rfl (by kernel_rfl) (by kernel_rfl) (by kernel_rfl) (fun _ _ _ h => h) ?hy33 HSv ?hh33
        case hy33 =>
          refine Or.inl ⟨by rfl, ?_⟩
          intro W hW
          obtain ⟨h1, h2⟩ := hW
          go_simp
          try with_reducible rfl
        simp only [Act.put, List.setIfInBounds_toArray, List.set_cons_zero, List.set_cons_succ]
        refine wpAnyN_at 15 (v := ?vv34) rfl (by kernel_rfl) (by kernel_rfl) (by kernel_rfl) (fun _ _ _ h => h) ?hy34 HSv ?hh34
        case hy34 =>
          refine Or.inl ⟨by rfl, ?_⟩
          intro W hW
          obtain ⟨h1, h2⟩ := hW
          go_simp
          try with_reducible rfl
        simp only [Act.put, List.setIfInBounds_toArray, List.set_cons_zero, List.set_cons_succ]
        refine wpAnyN_at 16 (v := ?vv35) rfl (by kernel_rfl) (by kernel_rfl) (by kernel_rfl) (fun _ _ _ h => h) ?hy35 HSv ?hh35
        case hy35 =>
          refine Or.inl ⟨by rfl, ?_⟩
          intro W hW
          obtain ⟨h1, h2⟩ := hW
          go_simp
          try with_reducible rfl
        simp only [Act.put, List.setIfInBounds_toArray, List.set_cons_zero, List.set_cons_succ]
        refine wpAnyN_at 17 (v := ?vv36) rfl (by kernel_rfl) (by kernel_rfl) (by kernel_rfl) (fun _ _ _ h => h) ?hy36 HSv ?hh36
        case hy36 =>
          refine Or.inl ⟨by rfl, ?_⟩
          intro W hW
          obtain ⟨h1, h2⟩ := hW
          go_simp
          try with_reducible rfl
        simp only [Act.put, List.setIfInBounds_toArray, List.set_cons_zero, List.set_cons_succ]
        refine wpAnyN_end 18 (by decide) rfl (by kernel_rfl) ?_
        simp only [List.drop_succ_cons, List.drop_zero]
        go_wp2_with fail
        have k1 := keepC B W 13 (.int .i64 (wrap64 (st.naks + 1)))
        have h13 : NegAt (W.setCell ⟨B.nb, 13, none⟩ (.int .i64 (wrap64 (st.naks + 1)))) _ B C { st with naks := wrap64 (st.naks + 1) } X := HB.out.2.1.setC 13 _ rfl ⟨rfl, rfl, rfl, rfl, rfl⟩ HB.out.2.1.id
        have y1 := (k1.block (w.heap.size + 1) (by have := HB.out.2.2.2.2.2; omega) (by omega)).trans HB.out.2.2.2.1
        refine bodyPost_ret (results_cell_row rfl _ _ (w.heap.size + 1) 38 _ (0, 0) _ rfl (set4 y1 _ _ _ _) Tryz.underlying38 rfl pk_cells) rfl ?_
        have hk4 := (keep4 (W.setCell ⟨B.nb, 13, none⟩ (.int .i64 (wrap64 (st.naks + 1)))) (w.heap.size + 1) (.int .i64 3) (.int .i64 pi) (.slice a2 ca.length k2) (.string ⟨#[]⟩)).drew
        have e : refuseS C st ⟨is, ⟨pc, pi, pl, pd⟩, 3, ca⟩ = ({ st with naks := wrap64 (st.naks + 1) }, ⟨3, pi, ca, noB⟩) := by
          unfold refuseS; rw [if_neg (by simp), if_neg HQ.out]
        rw [e]
        have hkw := (Keep.of_below (fun b => b = B.nb) HB.out.1).trans k1
        refine RefPost.fin ⟨X, h13⟩ hkw hk4 (vo := .slice a2 ca.length k2) ?_ rfl _ rfl
        have hop : Opts w (fun b => ok b ∧ b < w.heap.size) (.slice a2 ca.length k2) ca := Rec.old H.out.2.2.1
        have hop2 := Rec.keep (Rec.keep hop hkw (fun b _ hb he => H.out.2.2.2.1 b hb.1 (.inl he))) hk4 (fun b _ hb he => by have := hb.2; omega)
        exact Rec.mono hop2 (fun b hb => .inl hb.1)
    · have df : decide (0 < C.fl) = false := by simpa using hf
      have HQ := Lib.hid (show ¬ (0 < C.fl ∧ C.fl ≤ st.naks) from fun h => hf h.1)
      clear hf
      refine wpAnyN_at 0 (v := ?vv37) rfl (by kernel_rfl) (by kernel_rfl) (by kernel_rfl) (fun _ _ _ h => h) ?hy37 HSv ?hh37
      case hy37 =>
        refine Or.inl ⟨by rfl, ?_⟩
        intro W hW
        obtain ⟨h1, h2⟩ := hW
        go_simp
        try with_reducible rfl
      simp only [Act.put, List.setIfInBounds_toArray, List.set_cons_zero, List.set_cons_succ]
      refine wpAnyN_at 1 (v := ?vv38) rfl (by kernel_rfl) (by kernel_rfl) (by kernel_rfl) (fun _ _ _ h => h) ?hy38 HSv ?hh38
      case hy38 =>
        refine Or.inl ⟨by rfl, ?_⟩
        intro W hW
        obtain ⟨h1, h2⟩ := hW
        go_simp
        try with_reducible rfl
      simp only [Act.put, List.setIfInBounds_toArray, List.set_cons_zero, List.set_cons_succ]
      refine wpAnyN_at 2 (v := ?vv39) rfl (by kernel_rfl) (by kernel_rfl) (by kernel_rfl) (fun _ _ _ h => h) ?hy39 HSv ?hh39
      case hy39 =>
        refine Or.inl ⟨by rfl, ?_⟩
        intro W hW
        obtain ⟨h1, h2⟩ := hW
        go_simp
        try with_reducible rfl
      simp only [Act.put, List.setIfInBounds_toArray, List.set_cons_zero, List.set_cons_succ]
      refine wpAnyN_at 3 (v := ?vv40) rfl (by kernel_rfl) (by kernel_rfl) (by kernel_rfl) (fun _ _ _ h => h) ?hy40 HSv ?hh40
      case hy40 =>
        refine Or.inl ⟨by rfl, ?_⟩
        intro W hW
        obtain ⟨h1, h2⟩ := hW
        go_simp
        try with_reducible rfl
      simp only [Act.put, List.setIfInBounds_toArray, List.set_cons_zero, List.set_cons_succ]
      refine wpAnyN_at 4 (v := ?vv41) rfl (by kernel_rfl) (by kernel_rfl) (by kernel_rfl) (fun _ _ _ h => h) ?hy41 HSv ?hh41
      case hy41 =>
        refine Or.inl ⟨by rfl, ?_⟩
        intro W hW
        obtain ⟨h1, h2⟩ := hW
        go_simp
        try with_reducible rfl
      simp only [Act.put, List.setIfInBounds_toArray, List.set_cons_zero, List.set_cons_succ]
      refine wpAnyN_at 5 (v := ?vv42) rfl (by kernel_rfl) (by kernel_rfl) (by kernel_rfl) (fun _ _ _ h => h) ?hy42 HSv ?hh42
      case hy42 =>
        refine Or.inl ⟨by rfl, ?_⟩
        intro W hW
        obtain ⟨h1, h2⟩ := hW
        go_simp
        try with_reducible rfl
      simp only [Act.put, List.setIfInBounds_toArray, List.set_cons_zero, List.set_cons_succ]
      refine wpAnyN_at 6 (v := ?vv43) rfl (by kernel_rfl) (by kernel_rfl) (by kernel_rfl) (fun _ _ _ h => h) ?hy43 HSv ?hh43
      case hy43 =>
        refine Or.inl ⟨by rfl, ?_⟩
        intro W hW
        obtain ⟨h1, h2⟩ := hW
        go_simp
        try with_reducible rfl
      simp only [Act.put, List.setIfInBounds_toArray, List.set_cons_zero, List.set_cons_succ]
      refine wpAnyN_at 7 (v := undef) rfl (by kernel_rfl) (by kernel_rfl) (by kernel_rfl) (fun _ _ _ h => h) (Or.inr ⟨by rfl, rfl⟩) HSv ?_
      simp only [Act.put, List.setIfInBounds_toArray, List.set_cons_zero, List.set_cons_succ]
      refine wpAnyN_at 8 (v := undef) rfl (by kernel_rfl) (by kernel_rfl) (by kernel_rfl) (fun _ _ _ h => h) (Or.inr ⟨by rfl, rfl⟩) HSv ?_
      simp only [Act.put, List.setIfInBounds_toArray, List.set_cons_zero, List.set_cons_succ]
      refine wpAnyN_at 9 (v := undef) rfl (by kernel_rfl) (by kernel_rfl) (by kernel_rfl) (fun _ _ _ h => h) (Or.inr ⟨by rfl, rfl⟩) HSv ?_
      simp only [Act.put, List.setIfInBounds_toArray, List.set_cons_zero, List.set_cons_succ]
      refine wpAnyN_at 10 (v := undef) rfl (by kernel_rfl) (by kernel_rfl) (by kernel_rfl) (fun _ _ _ h => h) (Or.inr ⟨by rfl, rfl⟩) HSv ?_
      simp only [Act.put, List.setIfInBounds_toArray, List.set_cons_zero, List.set_cons_succ]
      refine wpAnyN_at 11 (v := undef) rfl (by kernel_rfl) (by kernel_rfl) (by kernel_rfl) (fun _ _ _ h => h) (Or.inr ⟨by rfl, rfl⟩) HSv ?_
      simp only [Act.put, List.setIfInBounds_toArray, List.set_cons_zero, List.set_cons_succ]
      refine wpAnyN_at 12 (v := undef) rfl (by kernel_rfl) (by kernel_rfl) (by kernel_rfl) (fun _ _ _ h => h) (Or.inr ⟨by rfl, rfl⟩) HSv ?_
      simp only [Act.put, List.setIfInBounds_toArray, List.set_cons_zero, List.set_cons_succ]
      refine wpAnyN_at 13 (v := undef) rfl (by kernel_rfl) (by kernel_rfl) (by kernel_rfl) (fun _ _ _ h => h) (Or.inr ⟨by rfl, rfl⟩) HSv ?_
      simp only [Act.put, List.setIfInBounds_toArray, List.set_cons_zero, List.set_cons_succ]
      refine wpAnyN_at 14 (v := undef) rfl (by kernel_rfl) (by kernel_rfl) (by kernel_rfl) (fun _ _ _ h => h) (Or.inr ⟨by rfl, rfl⟩) HSv ?_
      simp only [Act.put, List.setIfInBounds_toArray, List.set_cons_zero, List.set_cons_succ]
      refine wpAnyN_at 15 (v := undef) rfl (by kernel_rfl) (by kernel_rfl) (by kernel_rfl) (fun _ _ _ h => h) (Or.inr ⟨by rfl, rfl⟩) HSv ?_
      simp only [Act.put, List.setIfInBounds_toArray, List.set_cons_zero, List.set_cons_succ]
      refine wpAnyN_at 16 (v := undef) rfl (by kernel_rfl) (by kernel_rfl) (by kernel_rfl) (fun _ _ _ h => h) (Or.inr ⟨by rfl, rfl⟩) HSv ?_
      simp only [Act.put, List.setIfInBounds_toArray, List.set_cons_zero, List.set_cons_succ]
      refine wpAnyN_at 17 (v := ?vv44) rfl (by kernel_rfl) (by kernel_rfl) (by kernel_rfl) (fun _ _ _ h => h) ?hy44 HSv ?hh44
      case hy44 =>
        refine Or.inl ⟨by rfl, ?_⟩
        intro W hW
        obtain ⟨h1, h2⟩ := hW
        go_simp
        try with_reducible rfl
      simp only [Act.put, List.setIfInBounds_toArray, List.set_cons_zero, List.set_cons_succ]
      refine wpAnyN_end 18 (by decide) rfl (by kernel_rfl) ?_
      simp only [List.drop_succ_cons, List.drop_zero]
      go_wp2_with fail
      have k1 := keepC B W 13 (.int .i64 (wrap64 (st.naks + 1)))
      have h13 : NegAt (W.setCell ⟨B.nb, 13, none⟩ (.int .i64 (wrap64 (st.naks + 1)))) _ B C { st with naks := wrap64 (st.naks + 1) } X := HB.out.2.1.setC 13 _ rfl ⟨rfl, rfl, rfl, rfl, rfl⟩ HB.out.2.1.id
      have y1 := (k1.block (w.heap.size + 1) (by have := HB.out.2.2.2.2.2; omega) (by omega)).trans HB.out.2.2.2.1
      refine bodyPost_ret (results_cell_row rfl _ _ (w.heap.size + 1) 38 _ (0, 0) _ rfl (set4 y1 _ _ _ _) Tryz.underlying38 rfl pk_cells) rfl ?_
      have hk4 := (keep4 (W.setCell ⟨B.nb, 13, none⟩ (.int .i64 (wrap64 (st.naks + 1)))) (w.heap.size + 1) (.int .i64 3) (.int .i64 pi) (.slice a2 ca.length k2) (.string ⟨#[]⟩)).drew
      have e : refuseS C st ⟨is, ⟨pc, pi, pl, pd⟩, 3, ca⟩ = ({ st with naks := wrap64 (st.naks + 1) }, ⟨3, pi, ca, noB⟩) := by
        unfold refuseS; rw [if_neg (by simp), if_neg HQ.out]
      rw [e]
      have hkw := (Keep.of_below (fun b => b = B.nb) HB.out.1).trans k1
      refine RefPost.fin ⟨X, h13⟩ hkw hk4 (vo := .slice a2 ca.length k2) ?_ rfl _ rfl
      have hop : Opts w (fun b => ok b ∧ b < w.heap.size) (.slice a2 ca.length k2) ca := Rec.old H.out.2.2.1
      have hop2 := Rec.keep (Rec.keep hop hkw (fun b _ hb he => H.out.2.2.2.1 b hb.1 (.inl he))) hk4 (fun b _ hb he => by have := hb.2; omega)
      exact Rec.mono hop2 (fun b hb => .inl hb.1)
  · have d1 : (cc != 3) = true := by simp [h3]
    obtain ⟨W, hW, hs, x0, x1, x2, hb⟩ := alloc3 w (.cells #[.bool is, .int .i64 pc, .int .i64 pi, .slice a1 pl.length k1, .string pd, .int .i64 cc, .slice a2 ca.length k2] 113 (0, 0)) (.cells #[.int .i64 cc, .int .i64 pi, .slice a2 ca.length k2, .string ⟨#[]⟩] 38 (0, 0)) (.cells #[.int .i64 cc, .int .i64 pi, .slice a2 ca.length k2, .string ⟨#[]⟩] 38 (0, 0))
    have HB := Lib.hid (And.intro hb (And.intro (H.out.1.old.below hb) (And.intro x1 (And.intro x2 hs))))
    have HQ := Lib.hid (show refuseS C st ⟨is, ⟨pc, pi, pl, pd⟩, cc, ca⟩ = (st, ⟨cc, pi, ca, noB⟩) from if_pos h3)
    clear h3 hs x0 x1 x2 hb
    go_enter Tryz.func117, Tryz.ntmps117
    go_wp2_with fail
    rw [← hW]
    clear hW
    refine bodyPost_ret (results_cell_row rfl _ _ (w.heap.size + 1) 38 _ (0, 0) _ rfl HB.out.2.2.1 Tryz.underlying38 rfl pk_cells) rfl ?_
    have hk4 := Keep.refl (fun b => b = w.heap.size + 1) W
    rw [HQ.out]
    have hkw := (Keep.of_below (fun b => b = B.nb) HB.out.1)
    refine RefPost.fin ⟨X, HB.out.2.1⟩ hkw hk4 (vo := .slice a2 ca.length k2) ?_ rfl _ rfl
    have hop : Opts w (fun b => ok b ∧ b < w.heap.size) (.slice a2 ca.length k2) ca := Rec.old H.out.2.2.1
    have hop2 := Rec.keep (Rec.keep hop hkw (fun b _ hb he => H.out.2.2.2.1 b hb.1 (.inl he))) hk4 (fun b _ hb he => by have := hb.2; omega)
    exact Rec.mono hop2 (fun b hb => .inl hb.1)
end
end Go.Proofs.YthhdackaopaojaaGreat
