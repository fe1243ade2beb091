import Derived.Test.YtidlldfppoelnaaV18
namespace Go.Proofs.Ytidlldfppoelnaa
open Go.RowKit Go.Tg Go.Maps

section
variable (rej : Pk → ByteArray) {w : World} {S ok : Nat → Prop} {B : NegB} {C : NegC} {st : NSt} {X : NegX} (c : Came) (po pa : Value)

set_option maxHeartbeats 4000000 in
set_option maxRecDepth 100000 in
theorem say7 (h : NegAt w S B C st X) (hc : CameAt w B ok c po pa) :
    Calls Try.prog 71 #[.pointer (some ⟨B.nb, 0, none⟩), .int .i64 7, cameV c po pa] w fun e w' => SayPost w w' S ok B C (sayS rej C st 7 c) e := by
  obtain ⟨sa, sc, rfl, hc1, hc2⟩ := hc.1.form
  have hb1 : Below w.heap.size w (w.alloc (.cells #[.bool c.is, .int .i64 c.p.code, .int .i64 c.p.id, (.slice sa c.p.o.length sc), .string c.p.d, .int .i64 c.code, pa] 76 (0, 0))) := (Below.refl _ _).alloc (Nat.le_refl _) _
  have h1 := h.below hb1
  have hz := at1 w (.cells #[.bool c.is, .int .i64 c.p.code, .int .i64 c.p.id, (.slice sa c.p.o.length sc), .string c.p.d, .int .i64 c.code, pa] 76 (0, 0))
  have hC1 := hc.below hb1
  have HC := Lib.hid (clone_any c.p.o _ ok _ hC1.1 hc.2.2.2.1)
  have HB := Lib.hid (And.intro hb1 (And.intro h1 (And.intro hC1 (And.intro hz h.nlt))))
  have es : sayS rej C st 7 c = ({ st with theirs := c.p.o }, [⟨2, c.p.id, c.p.o, noB⟩]) := rfl
  rw [es]
  unfold cameV
  clear hb1 h h1 es hc hC1 hz
  go_enter Try.func71, Try.ntmps71
  go_wp2_with fail
  refine HC.out.mono ?_
  rintro e w2 ⟨v, rfl, hr, hb⟩
  obtain ⟨qa, qc, rfl⟩ := hr.form
  have h2 := HB.out.2.1.below hb
  have f2 := h2.fz 16
  have f3 : w2.cell? ⟨B.nb, 16, none⟩ = some X.theirs := h2.cell 16
  have H2 := Lib.hid (And.intro hr (And.intro hb h2))
  clear hr hb h2
  go_wp2_with fail
  have hk3 := (Keep.of_below (fun b => b = B.nb) H2.out.2.1).trans (keepC B w2 16 (.slice qa c.p.o.length qc))
  have hC3 := HB.out.2.2.1.keep hk3 (fun b hb => .inl hb)
  have hlt : w.heap.size < (w.alloc (.cells #[.bool c.is, .int .i64 c.p.code, .int .i64 c.p.id, (.slice sa c.p.o.length sc), .string c.p.d, .int .i64 c.code, pa] 76 (0, 0))).heap.size := by rw [alloc1]; omega
  have hz3 := (hk3.block w.heap.size hlt (fun he => by have := HB.out.2.2.2.2; omega)).trans HB.out.2.2.2.1
  have hr3 : ORow (w2.setCell ⟨B.nb, 16, none⟩ (.slice qa c.p.o.length qc)) (w.heap.size + 1) (.slice qa c.p.o.length qc) c.p.o := (H2.out.1.keep (keepC B w2 16 (.slice qa c.p.o.length qc)) (fun k hk he => by have := (H2.out.1.lt k hk).2; rw [alloc1] at this; have := HB.out.2.2.2.2; omega)).base (by rw [alloc1]; omega)
  have hb3 := (keepC B w2 16 (.slice qa c.p.o.length qc))
  have hz4 : (w2.setCell ⟨B.nb, 16, none⟩ (.slice qa c.p.o.length qc)).heap[B.nb]? = _ := set_block H2.out.2.2.blk 16 (.slice qa c.p.o.length qc)
  generalize hw3 : w2.setCell ⟨B.nb, 16, none⟩ (.slice qa c.p.o.length qc) = w3 at hk3 hC3 hz3 hr3 hb3 hz4 ⊢
  have hlt3 : w.heap.size < w3.heap.size := (Array.getElem?_eq_some_iff.1 hz3).1
  have H3 := Lib.hid (And.intro hk3 (And.intro hr3 (And.intro hb3 hz4)))
  have HS : Hid (∀ W, Below w3.heap.size w3 W → W.cell? ⟨w.heap.size, 2, none⟩ = some (.int .i64 c.p.id) ∧ W.cell? ⟨w.heap.size, 3, none⟩ = some (.slice sa c.p.o.length sc)) := Lib.hid fun W hW =>
    ⟨cellOf ((hW.block _ hlt3).trans hz3) 2 _ rfl, cellOf ((hW.block _ hlt3).trans hz3) 3 _ rfl⟩
  have HC3 := Lib.hid (fun W (hW : Below w3.heap.size w3 W) => clone_any c.p.o _ ok W (hC3.below hW).1 hC3.2.2.2.1)
  obtain ⟨y1, y2⟩ := HS.out w3.drew (Below.refl _ _).drew
  clear hk3 hC3 hz3 hr3 hb3 hz4 HC f2 f3
  go_region_held3 (fun W => W.cell? ⟨w.heap.size, 2, none⟩ = some (.int .i64 c.p.id) ∧ W.cell? ⟨w.heap.size, 3, none⟩ = some (.slice sa c.p.o.length sc))
    (first
      | exact HS.out _ H4.out.2
      | exact HS.out _ (H4.out.2.alloc H4.out.2.size _)
      | go_keep)
    (first
      | (go_at_call 47; refine (HC3.out _ (Below.refl _ _).drew).mono ?_; rintro e w4 ⟨v4, rfl, hr4, hb4⟩; obtain ⟨q4, k4, rfl⟩ := hr4.form; have H4 := Lib.hid (And.intro hr4 (show Below w3.heap.size w3 w4 from Below.trans (Below.refl _ _).drew hb4)); clear hr4 hb4))
  go_wp2_with fail
  go_ret
  have hs1 : (w.alloc (.cells #[.bool c.is, .int .i64 c.p.code, .int .i64 c.p.id, (.slice sa c.p.o.length sc), .string c.p.d, .int .i64 c.code, pa] 76 (0, 0))).heap.size = w.heap.size + 1 := alloc1 _ _
  have hs3 := H3.out.1.size
  have hs4 := H4.out.2.size
  have hlo := HB.out.2.2.1.2.2.2.1
  have ht : Opts w3 (B.r (Grow S (w.alloc (.cells #[.bool c.is, .int .i64 c.p.code, .int .i64 c.p.id, (.slice sa c.p.o.length sc), .string c.p.d, .int .i64 c.code, pa] 76 (0, 0))))) (.slice qa c.p.o.length qc) c.p.o := Rec.mono (H3.out.2.1.opts (by unfold maxLen; omega)) (fun b hb => ⟨.inr (by omega), fun ht => by have := HB.out.2.1.tlt ht; omega⟩)
  have h3 : NegAt w3 (Grow S (w.alloc (.cells #[.bool c.is, .int .i64 c.p.code, .int .i64 c.p.id, (.slice sa c.p.o.length sc), .string c.p.d, .int .i64 c.code, pa] 76 (0, 0)))) B C { st with theirs := c.p.o } { X with theirs := .slice qa c.p.o.length qc } :=
    NegAt.turn HB.out.2.1 H3.out.1 H3.out.2.2.2 ⟨rfl, rfl, rfl, rfl⟩ ⟨rfl, rfl, rfl⟩ HB.out.2.1.id (HB.out.2.1.mine' H3.out.1) ht HB.out.2.1.lm hlo
  refine ⟨_, rfl, PksAt.one ⟨2, c.p.id, c.p.o, noB⟩ _ (at1 w4 _) (by omega) ?_, ⟨_, ((h3.below H4.out.2).below ((Below.refl _ _).alloc (Nat.le_refl _) _)).mono (fun b hb => hb.elim .inl (fun h => .inr (by omega)))⟩, ?_⟩
  · exact Rec.mono (Opts.below (H4.out.1.opts (by unfold maxLen; omega)) ((Below.refl _ _).alloc (Nat.le_refl _) _)) (fun b hb => .inr (show w.heap.size ≤ b by have hb : w3.heap.size ≤ b := hb; omega))
  · exact ((((Keep.of_below _ HB.out.1).trans H3.out.1)).trans (Keep.of_below _ H4.out.2)).alloc _
end
end Go.Proofs.Ytidlldfppoelnaa
