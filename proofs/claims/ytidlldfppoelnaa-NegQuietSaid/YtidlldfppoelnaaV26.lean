import Derived.Test.YtidlldfppoelnaaV25
namespace Go.Proofs.Ytidlldfppoelnaa
open Go.RowKit Go.Tg Go.Maps

instance : DecidableEq Opt := fun a b =>
  if h : a.t = b.t ∧ a.v = b.v then .isTrue (by obtain ⟨t, v⟩ := a; obtain ⟨t', v'⟩ := b; obtain ⟨h1, h2⟩ := h; simp only at h1 h2; subst h1 h2; rfl) else .isFalse (fun e => h (by subst e; exact ⟨rfl, rfl⟩))

/-- An ack is taken. -/
def ackS (rej : Pk → ByteArray) (C : NegC) (st : NSt) (p : Pk) : NSt × List Pk :=
  if p.id = st.asked then if p.o = st.req then evS rej C { st with mine := st.req } 8 ⟨true, p, 0, []⟩ else (st, []) else (st, [])

section
variable (rej : Pk → ByteArray) {w : World} {S ok : Nat → Prop} {B : NegB} {C : NegC} {st : NSt} {X : NegX}

set_option maxHeartbeats 8000000 in
set_option maxRecDepth 100000 in
theorem acked_at (p : Pk) (po : Value) (hcode : p.code = 2) (h : NegAt w S B C st X) (ho : Opts w ok po p.o) (hok : ∀ b, ok b → ¬ B.t b) (hlen : p.o.length ≤ 1000000) :
    Calls Try.prog 37 #[.pointer (some ⟨B.nb, 0, none⟩), pkV p po] w fun e w' => EvPost w w' S ok B C (ackS rej C st p) e := by
  obtain ⟨pc, pi, pl, pd⟩ := p
  simp only at hcode ho hlen
  subst hcode
  obtain ⟨a1, k1, rfl, hc1, hc2⟩ := ho.form
  have hb1 : Below w.heap.size w (w.alloc (.cells #[.int .i64 2, .int .i64 pi, (.slice a1 pl.length k1), .string pd] 36 (0, 0))) := (Below.refl _ _).alloc (Nat.le_refl _) _
  have hz := at1 w (.cells #[.int .i64 2, .int .i64 pi, (.slice a1 pl.length k1), .string pd] 36 (0, 0))
  have h1 := h.below hb1
  have g0 : (w.alloc (.cells #[.int .i64 2, .int .i64 pi, (.slice a1 pl.length k1), .string pd] 36 (0, 0))).cell? ⟨B.nb, 12, none⟩ = some (.int .u8 st.asked) := h1.cell 12
  have g1 : (w.alloc (.cells #[.int .i64 2, .int .i64 pi, (.slice a1 pl.length k1), .string pd] 36 (0, 0))).cell? ⟨w.heap.size, 1, none⟩ = some (.int .i64 pi) := cellOf hz 1 _ rfl
  have ew : wrap64 st.asked = st.asked := by have := h.ak; unfold wrap64; omega
  have H := Lib.hid (And.intro h (And.intro h1 (And.intro ho (And.intro hb1 (And.intro hok hz)))))
  unfold pkV
  clear h ho hok hb1 hz h1
  by_cases hid : pi = st.asked
  · subst hid
    have hq : ∀ n, Below (w.alloc (.cells #[.int .i64 2, .int .i64 st.asked, (.slice a1 pl.length k1), .string pd] 36 (0, 0))).heap.size (w.alloc (.cells #[.int .i64 2, .int .i64 st.asked, (.slice a1 pl.length k1), .string pd] 36 (0, 0))) ((w.alloc (.cells #[.int .i64 2, .int .i64 st.asked, (.slice a1 pl.length k1), .string pd] 36 (0, 0))).drewN n) := fun n => ⟨rfl, rfl, rfl, Nat.le_refl _, fun _ _ => rfl⟩
    have hlt : w.heap.size < (w.alloc (.cells #[.int .i64 2, .int .i64 st.asked, (.slice a1 pl.length k1), .string pd] 36 (0, 0))).heap.size := by rw [alloc1]; omega
    have hsz1 : (w.alloc (.cells #[.int .i64 2, .int .i64 st.asked, (.slice a1 pl.length k1), .string pd] 36 (0, 0))).heap.size = w.heap.size + 1 := alloc1 _ _
    have hbl := H.out.1.nlt
    obtain ⟨qa, qc, hrq⟩ := H.out.1.req.form
    have HS : Hid (∀ W, Below (w.alloc (.cells #[.int .i64 2, .int .i64 st.asked, (.slice a1 pl.length k1), .string pd] 36 (0, 0))).heap.size (w.alloc (.cells #[.int .i64 2, .int .i64 st.asked, (.slice a1 pl.length k1), .string pd] 36 (0, 0))) W → W.cell? ⟨B.nb, 10, none⟩ = some (.slice qa st.req.length qc) ∧ W.cell? ⟨w.heap.size, 0, none⟩ = some (.int .i64 2) ∧ W.cell? ⟨w.heap.size, 1, none⟩ = some (.int .i64 st.asked) ∧ W.cell? ⟨w.heap.size, 2, none⟩ = some (.slice a1 pl.length k1) ∧ W.cell? ⟨w.heap.size, 3, none⟩ = some (.string pd)) := Lib.hid fun W hW =>
      ⟨by rw [hW.cell H.out.2.1.nlt, ← hrq]; exact H.out.2.1.cell 10, cellOf ((hW.block _ hlt).trans H.out.2.2.2.2.2) 0 _ rfl, cellOf ((hW.block _ hlt).trans H.out.2.2.2.2.2) 1 _ rfl, cellOf ((hW.block _ hlt).trans H.out.2.2.2.2.2) 2 _ rfl, cellOf ((hW.block _ hlt).trans H.out.2.2.2.2.2) 3 _ rfl⟩
    have HSA := Lib.hid (fun W (hW : Below (w.alloc (.cells #[.int .i64 2, .int .i64 st.asked, (.slice a1 pl.length k1), .string pd] 36 (0, 0))).heap.size (w.alloc (.cells #[.int .i64 2, .int .i64 st.asked, (.slice a1 pl.length k1), .string pd] 36 (0, 0))) W) => same_any pl st.req (.slice a1 pl.length k1) X.req ok (fun b => 0 ≤ b) W (H.out.2.2.1.below (H.out.2.2.2.1.trans (hW.mono (by omega)))) ((H.out.2.1.req.below hW).opts (by have := H.out.1.lr; unfold maxLen; omega)) hlen)
    rw [hrq] at HSA
    obtain ⟨y0, y1, y2, y3, y4⟩ := HS.out _ (Below.refl _ _)
    go_enter Try.func37, Try.ntmps37
    go_wp2_with fail
    go_quiet (fail)
    go_wp2_with fail
    have hqq := hq nq
    go_region_held3 (fun W => W.cell? ⟨B.nb, 10, none⟩ = some (.slice qa st.req.length qc) ∧ W.cell? ⟨w.heap.size, 0, none⟩ = some (.int .i64 2) ∧ W.cell? ⟨w.heap.size, 1, none⟩ = some (.int .i64 st.asked) ∧ W.cell? ⟨w.heap.size, 2, none⟩ = some (.slice a1 pl.length k1) ∧ W.cell? ⟨w.heap.size, 3, none⟩ = some (.string pd))
      (first
        | exact HS.out _ H2.out.2
        | exact HS.out _ hqq.drew
        | go_keep)
      (first
        | (go_at_call 19; refine (HSA.out _ hqq.drew).mono ?_; rintro e w2 ⟨b, rfl, hb1, hb2⟩; have H2 := Lib.hid (And.intro hb1 (show Below (w.alloc (.cells #[.int .i64 2, .int .i64 st.asked, (.slice a1 pl.length k1), .string pd] 36 (0, 0))).heap.size (w.alloc (.cells #[.int .i64 2, .int .i64 st.asked, (.slice a1 pl.length k1), .string pd] 36 (0, 0))) w2 from Below.trans hqq.drew hb2)); clear hb1 hb2))
    have hs2 := H2.out.2.size
    have hbw := H.out.2.2.2.1.trans (H2.out.2.mono (show w.heap.size ≤ (w.alloc (.cells #[.int .i64 2, .int .i64 st.asked, (.slice a1 pl.length k1), .string pd] 36 (0, 0))).heap.size by omega))
    obtain ⟨x0, x1, x2, x3, x4⟩ := HS.out _ H2.out.2
    cases b with
    | false =>
      go_wp2_with fail
      go_ret
      have hne : ¬ pl = st.req := fun he => by have := H2.out.1.2 he; cases this
      have es : ackS rej C st ⟨2, st.asked, pl, pd⟩ = (st, []) := by unfold ackS; rw [if_pos rfl]; exact if_neg hne
      rw [es]
      exact EvPost.none' ⟨X, (H.out.1.below hbw).mono (fun b h => .inl h)⟩ (Keep.of_below _ hbw)
    | true =>
      have heq : pl = st.req := H2.out.1.1 rfl
      have HES := Lib.hid (show ackS rej C st ⟨2, st.asked, pl, pd⟩ = evS rej C { st with mine := st.req } 8 ⟨true, ⟨2, st.asked, pl, pd⟩, 0, []⟩ from by unfold ackS; rw [if_pos rfl]; exact if_pos heq)
      have HCL := Lib.hid (clone_any st.req X.req (fun b => 0 ≤ b) w2 ((H.out.2.1.req.below H2.out.2).opts (by have := H.out.1.lr; unfold maxLen; omega)) (by have := H.out.1.lr; omega))
      rw [hrq] at HCL
      clear heq
      go_wp2_with fail
      refine HCL.out.mono ?_
      rintro e w3 ⟨v3, rfl, hr3, hb3⟩
      obtain ⟨q3, k3, rfl⟩ := hr3.form
      have hn3 := (H.out.2.1.below H2.out.2).below hb3
      have f15 := hn3.fz 15
      have g15 : w3.cell? ⟨B.nb, 15, none⟩ = some X.mine := hn3.cell 15
      have hk4 := (Keep.of_below (fun b => b = B.nb) (hbw.trans (hb3.mono (by omega)))).trans (keepC B w3 15 (.slice q3 st.req.length k3))
      have hz4 := ((keepC B w3 15 (.slice q3 st.req.length k3)).block w.heap.size (by have := hb3.size; omega) (by omega)).trans ((hb3.block _ (by omega)).trans ((H2.out.2.block _ hlt).trans H.out.2.2.2.2.2))
      have u0 : (w3.setCell ⟨B.nb, 15, none⟩ (.slice q3 st.req.length k3)).cell? ⟨w.heap.size, 0, none⟩ = some _ := cellOf hz4 0 _ rfl
      have u1 : (w3.setCell ⟨B.nb, 15, none⟩ (.slice q3 st.req.length k3)).cell? ⟨w.heap.size, 1, none⟩ = some _ := cellOf hz4 1 _ rfl
      have u2 : (w3.setCell ⟨B.nb, 15, none⟩ (.slice q3 st.req.length k3)).cell? ⟨w.heap.size, 2, none⟩ = some _ := cellOf hz4 2 _ rfl
      have u3 : (w3.setCell ⟨B.nb, 15, none⟩ (.slice q3 st.req.length k3)).cell? ⟨w.heap.size, 3, none⟩ = some _ := cellOf hz4 3 _ rfl
      have hr4 : ORow (w3.setCell ⟨B.nb, 15, none⟩ (.slice q3 st.req.length k3)) w2.heap.size (.slice q3 st.req.length k3) st.req := hr3.keep (keepC B w3 15 _) (fun k hk he => by have := (hr3.lt k hk).2; omega)
      have ht : Opts (w3.setCell ⟨B.nb, 15, none⟩ (.slice q3 st.req.length k3)) (B.r (Grow S w)) (.slice q3 st.req.length k3) st.req := Rec.mono (hr4.opts (by have := H.out.1.lr; unfold maxLen; omega)) (fun b hb => ⟨.inr (by omega), fun ht => by have := H.out.1.tlt ht; omega⟩)
      have hblk : (w3.setCell ⟨B.nb, 15, none⟩ (.slice q3 st.req.length k3)).heap[B.nb]? = some (.cells (negCells B C { st with mine := st.req } { X with mine := .slice q3 st.req.length k3 }) 71 (0, 0)) := set_block hn3.blk 15 _
      have hn4 : NegAt _ (Grow S w) B C { st with mine := st.req } { X with mine := .slice q3 st.req.length k3 } :=
        NegAt.turn H.out.1 hk4 hblk ⟨rfl, rfl, rfl, rfl⟩ ⟨rfl, rfl, rfl⟩ H.out.1.id ht (H.out.1.theirs' hk4) (by have := H.out.1.lr; show st.req.length ≤ 1000000; omega) H.out.1.lt
      have HE := Lib.hid (And.intro (Event_at (ok := ok) rej ⟨2, st.asked, pl, pd⟩ (.slice a1 pl.length k1) 8 (by decide) hn4 (Rec.keep H.out.2.2.1 hk4 (fun b _ hb he => H.out.2.2.2.2.1 b hb (.inl he))) H.out.2.2.2.2.1 hlen (fun pa => sayAll_next rej B C _ _ _ _ 8 hn4.ss (by decide))) hk4)
      unfold pkV at HE
      clear hn3 hk4 hz4 hr4 ht hblk hn4 hr3 hb3
      go_wp2_with fail
      refine HE.out.1.mono ?_
      rintro e w5 ⟨v5, rfl, ⟨L, l1, l2, l3⟩, ⟨X5, n5⟩, k5⟩
      have H5 := Lib.hid (And.intro l1 (And.intro l2 (And.intro l3 (And.intro n5 k5))))
      clear l1 l2 l3 n5 k5
      go_wp2_with fail
      go_ret
      have hs4 := HE.out.2.size
      rw [HES.out]
      refine ⟨_, rfl, ⟨L, H5.out.1, H5.out.2.1.base (by omega), H5.out.2.2.1.mono (fun b hb => hb.imp id (fun h => by omega))⟩, ⟨X5, H5.out.2.2.2.1.mono (fun b hb => hb.elim id (fun h => .inr (by omega)))⟩, ?_⟩
      exact (HE.out.2.mono (fun b _ hb => Or.inl hb)).trans H5.out.2.2.2.2
  · have HID := Lib.hid hid
    go_enter Try.func37, Try.ntmps37
    go_wp2_with fail
    go_quiet (fail)
    go_wp2_with fail
    go_ret
    have es : ackS rej C st ⟨2, pi, pl, pd⟩ = (st, []) := by unfold ackS; exact if_neg HID.out
    rw [es]
    have hbq : Below w.heap.size w ((w.alloc (.cells #[.int .i64 2, .int .i64 pi, (.slice a1 pl.length k1), .string pd] 36 (0, 0))).drewN nq) := ⟨H.out.2.2.2.1.os, H.out.2.2.2.1.tape, H.out.2.2.2.1.output, H.out.2.2.2.1.size, H.out.2.2.2.1.block⟩
    exact EvPost.none' ⟨X, (H.out.1.below hbq).mono (fun b h => .inl h)⟩ (Keep.of_below _ hbq)
end
end Go.Proofs.Ytidlldfppoelnaa
