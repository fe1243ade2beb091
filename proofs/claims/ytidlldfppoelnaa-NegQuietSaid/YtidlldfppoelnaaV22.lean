import Derived.Test.YtidlldfppoelnaaV21
namespace Go.Proofs.Ytidlldfppoelnaa
open Go.RowKit Go.Tg Go.Maps

theorem lookup_all (P : Int × List Int → Prop) (l : List Row) (hl : ∀ r ∈ l, P r.2.2) (s e : Int) : ∀ y, lookupL l s e = some y → P y := by
  induction l with
  | nil => intro y h; cases h
  | cons r l ih =>
    intro y hy
    simp only [lookupL, List.foldr_cons, Tab.put] at hy
    split at hy
    · cases hy; exact hl r (by simp)
    · exact ih (fun r' h' => hl r' (by simp [h'])) y hy
theorem next_all (P : Int × List Int → Prop) (h1 : ∀ r ∈ answeredL, P r.2.2) (h2 : ∀ r ∈ calledL, P r.2.2) (s e : Int) : ∀ y, nextF s e = some y → P y := by
  intro y hf
  unfold nextF at hf
  cases ha : lookupL answeredL s e with
  | some y2 => rw [ha] at hf; simp at hf; subst hf; exact lookup_all P _ h1 s e _ ha
  | none => rw [ha] at hf; simp at hf; exact lookup_all P _ h2 s e _ hf
theorem nextS_bd (s e : Int) (hs : 0 ≤ s ∧ s ≤ 9) : 0 ≤ nextS s e ∧ nextS s e ≤ 9 := by
  unfold nextS
  cases hf : nextF s e with
  | none => exact hs
  | some y => exact next_all (fun y => 0 ≤ y.1 ∧ y.1 ≤ 9) (by decide) (by decide) s e y hf
theorem nextL_bd (s e : Int) : ∀ a ∈ nextL s e, 0 ≤ a ∧ a ≤ 12 := by
  unfold nextL
  cases hf : nextF s e with
  | none => intro a ha; cases ha
  | some y => exact next_all (fun y => ∀ a ∈ y.2, 0 ≤ a ∧ a ≤ 12) (by decide) (by decide) s e y hf
/-- Which events say neither 8 nor 11. -/
theorem nextL_no : ∀ e ∈ [0, 1, 2, 3, 4, 5, 6, 8, 9, 10, 11, 13, 14], ∀ s ∈ [0, 1, 2, 3, 4, 5, 6, 7, 8, 9], ∀ a ∈ nextL s e, a ≠ 8 ∧ a ≠ 11 := by decide

/-- What an action wants to be said. -/
def SayAll (rej : Pk → ByteArray) (B : NegB) (C : NegC) (c : Came) (po pa : Value) (xs : List Int) : Prop := ∀ a ∈ xs, ∀ ok, SaySpec rej B C ok c po pa a
theorem sayAll_next (rej : Pk → ByteArray) (B : NegB) (C : NegC) (c : Came) (po pa : Value) (s e : Int) (hs : 0 ≤ s ∧ s ≤ 9) (he : e ∈ [0, 1, 2, 3, 4, 5, 6, 8, 9, 10, 11, 13, 14]) : SayAll rej B C c po pa (nextL s e) := by
  intro a ha ok
  have h1 := nextL_bd s e a ha
  have h2 : s ∈ [0, 1, 2, 3, 4, 5, 6, 7, 8, 9] := by simp only [List.mem_cons, List.not_mem_nil, or_false]; omega
  have h3 := nextL_no e he s h2 a ha
  exact say_most rej B C ok c po pa a h1.1 h1.2 h3.1 h3.2

section
variable (rej : Pk → ByteArray) {w : World} {S ok : Nat → Prop} {B : NegB} {C : NegC} {st : NSt} {X : NegX} (c : Came) (po pa : Value)

def EvPost (w w' : World) (S ok : Nat → Prop) (B : NegB) (C : NegC) (r : NSt × List Pk) (e : Ending) : Prop :=
  ∃ v, e = .returned v ∧ PksAt w' (Grow ok w) w.heap.size v r.2 ∧ NegV w' (Grow S w) B C r.1 ∧ Keep B.t w w'

set_option maxHeartbeats 8000000 in
set_option maxRecDepth 100000 in
theorem ndo_at (ev : Int) (hev : (Lit.int .i64 ev).wf = true) (h : NegAt w S B C st X) (hc : CameAt w B ok c po pa) (hs : SayAll rej B C c po pa (nextL st.s ev)) :
    Calls Try.prog 32 #[.pointer (some ⟨B.nb, 0, none⟩), .int .i64 ev, cameV c po pa] w fun e w' => EvPost w w' S ok B C (evS rej C st ev c) e := by
  obtain ⟨a1, k1, rfl, hc1, hc2⟩ := hc.1.form
  obtain ⟨a2, k2, rfl, hc3, hc4⟩ := hc.2.1.form
  have hb1 : Below w.heap.size w (w.alloc (.cells #[.bool c.is, .int .i64 c.p.code, .int .i64 c.p.id, (.slice a1 c.p.o.length k1), .string c.p.d, .int .i64 c.code, (.slice a2 c.ans.length k2)] 76 (0, 0))) := (Below.refl _ _).alloc (Nat.le_refl _) _
  have hz := at1 w (.cells #[.bool c.is, .int .i64 c.p.code, .int .i64 c.p.id, (.slice a1 c.p.o.length k1), .string c.p.d, .int .i64 c.code, (.slice a2 c.ans.length k2)] 76 (0, 0))
  have hss : (Lit.int .i64 st.s).wf = true := by
    have := h.ss
    simp only [Lit.wf, IntKind.min, IntKind.max, IntKind.signed, IntKind.bits, Bool.and_eq_true, decide_eq_true_eq, if_true]
    omega
  have H := Lib.hid (And.intro (h.below hb1) (And.intro (hc.below hb1) (And.intro hs (And.intro hb1 hz))))
  have hne1 := h.ne1
  have hnl := h.nlt
  have hal := h.alt
  have HD := Lib.hid (do_any B.ab st.s st.c C.cf C.tm ev _ ((h.below hb1).below (Below.refl _ _).drew).aut h.ok.cf.1 h.ok.cf.2 h.ok.tm.1 h.ok.tm.2 h.ib hss hev)
  have hid := h.ss
  have HI := Lib.hid (doC_bd (nextL st.s ev) (show InB C.cf from ⟨by have := h.ok.cf; omega, h.ok.cf.2⟩) (show InB C.tm from ⟨by have := h.ok.tm; omega, h.ok.tm.2⟩) (nextL st.s ev) st.c h.ib)
  have g0 : (w.alloc (.cells #[.bool c.is, .int .i64 c.p.code, .int .i64 c.p.id, (.slice a1 c.p.o.length k1), .string c.p.d, .int .i64 c.code, (.slice a2 c.ans.length k2)] 76 (0, 0))).cell? ⟨B.nb, 0, none⟩ = some (.pointer (some ⟨B.ab, 0, none⟩)) := (h.below hb1).cell 0
  have HS : Hid (∀ W : World, W.heap[w.heap.size]? = some (.cells #[.bool c.is, .int .i64 c.p.code, .int .i64 c.p.id, (.slice a1 c.p.o.length k1), .string c.p.d, .int .i64 c.code, (.slice a2 c.ans.length k2)] 76 (0, 0)) → W.cell? ⟨B.nb, 0, none⟩ = some (.pointer (some ⟨B.ab, 0, none⟩)) → W.cell? ⟨B.nb, 0, none⟩ = some (.pointer (some ⟨B.ab, 0, none⟩)) ∧ W.cell? ⟨w.heap.size, 0, none⟩ = some (.bool c.is) ∧ W.cell? ⟨w.heap.size, 1, none⟩ = some (.int .i64 c.p.code) ∧ W.cell? ⟨w.heap.size, 2, none⟩ = some (.int .i64 c.p.id) ∧
      W.cell? ⟨w.heap.size, 3, none⟩ = some (.slice a1 c.p.o.length k1) ∧ W.cell? ⟨w.heap.size, 4, none⟩ = some (.string c.p.d) ∧ W.cell? ⟨w.heap.size, 5, none⟩ = some (.int .i64 c.code) ∧ W.cell? ⟨w.heap.size, 6, none⟩ = some (.slice a2 c.ans.length k2)) := Lib.hid fun W hz hg =>
    ⟨hg, cellOf hz 0 _ rfl, cellOf hz 1 _ rfl, cellOf hz 2 _ rfl, cellOf hz 3 _ rfl, cellOf hz 4 _ rfl, cellOf hz 5 _ rfl, cellOf hz 6 _ rfl⟩
  have HG := Lib.hid g0
  obtain ⟨-, e0, e1, e2, e3, e4, e5, e6⟩ := HS.out _ hz g0
  unfold cameV
  clear h hc hs hb1 hz
  go_enter Try.func32, Try.ntmps32
  go_wp2_with fail
  go_region_held3 (fun W => W.cell? ⟨B.nb, 0, none⟩ = some (.pointer (some ⟨B.ab, 0, none⟩)) ∧ W.cell? ⟨w.heap.size, 0, none⟩ = some (.bool c.is) ∧ W.cell? ⟨w.heap.size, 1, none⟩ = some (.int .i64 c.p.code) ∧ W.cell? ⟨w.heap.size, 2, none⟩ = some (.int .i64 c.p.id) ∧
      W.cell? ⟨w.heap.size, 3, none⟩ = some (.slice a1 c.p.o.length k1) ∧ W.cell? ⟨w.heap.size, 4, none⟩ = some (.string c.p.d) ∧ W.cell? ⟨w.heap.size, 5, none⟩ = some (.int .i64 c.code) ∧ W.cell? ⟨w.heap.size, 6, none⟩ = some (.slice a2 c.ans.length k2))
    (first
      | exact HS.out _ H3.out.2.1 H3.out.2.2
      | exact HS.out _ H2.out.2.2.1 H2.out.2.2.2.1
      | go_keep)
    (first
      | (go_at_call 64; refine HD.out.mono ?_; rintro e w2 ⟨v2, rfl, hi2, ha2, hk2⟩
         have hz2 := (hk2.block w.heap.size (show w.heap.size < (w.alloc (.cells #[.bool c.is, .int .i64 c.p.code, .int .i64 c.p.id, (.slice a1 c.p.o.length k1), .string c.p.d, .int .i64 c.code, (.slice a2 c.ans.length k2)] 76 (0, 0))).heap.size by rw [alloc1]; omega) (by omega)).trans H.out.2.2.2.2
         have hn2 := NegAt.auto (H.out.1.below (Below.refl _ _).drew) hk2 _ _ ha2 HI.out (nextS_bd _ _ hid)
         have hg2 : w2.cell? ⟨B.nb, 0, none⟩ = some (.pointer (some ⟨B.ab, 0, none⟩)) := hn2.cell 0
         have hc2 := (H.out.2.1.below (Below.refl _ _).drew).keep hk2 (fun b hb => Or.inr (Or.inl hb))
         have hto := told_at rej c (.slice a1 c.p.o.length k1) (.slice a2 c.ans.length k2) (nextL st.s ev) v2 _ hi2 (show B.nb < (w.alloc (.cells #[.bool c.is, .int .i64 c.p.code, .int .i64 c.p.id, (.slice a1 c.p.o.length k1), .string c.p.d, .int .i64 c.code, (.slice a2 c.ans.length k2)] 76 (0, 0))).heap.size by rw [alloc1]; omega) (Nat.le_trans (nextL_le _ _) (by omega)) hn2 hc2 H.out.2.2.1
         unfold cameV at hto
         have H2 := Lib.hid (And.intro hn2 (And.intro hk2 (And.intro hz2 (And.intro hg2 hto))))
         have hsz2 : w.heap.size < w2.heap.size := (Array.getElem?_eq_some_iff.1 hz2).1
         clear hi2 ha2 hk2 hz2 hn2 hg2 hc2 hto)
      | (go_at_call 50; refine H2.out.2.2.2.2.mono ?_; rintro e w3 ⟨v3, rfl, hp3, ⟨X3, hn3⟩, hk3⟩
         have hz3 := (hk3.block w.heap.size hsz2 (by omega)).trans H2.out.2.2.1
         have hg3 : w3.cell? ⟨B.nb, 0, none⟩ = some (.pointer (some ⟨B.ab, 0, none⟩)) := hn3.cell 0
         have H3 := Lib.hid (And.intro (And.intro hp3 (And.intro hn3 hk3)) (And.intro hz3 hg3))
         clear hp3 hn3 hk3 hz3 hg3))
  go_wp2_with fail
  go_ret
  have hsz : (w.alloc (.cells #[.bool c.is, .int .i64 c.p.code, .int .i64 c.p.id, (.slice a1 c.p.o.length k1), .string c.p.d, .int .i64 c.code, (.slice a2 c.ans.length k2)] 76 (0, 0))).heap.size = w.heap.size + 1 := alloc1 _ _
  have hs2 := H2.out.2.1.size
  have hs1 : (w.alloc (.cells #[.bool c.is, .int .i64 c.p.code, .int .i64 c.p.id, (.slice a1 c.p.o.length k1), .string c.p.d, .int .i64 c.code, (.slice a2 c.ans.length k2)] 76 (0, 0))).drew.heap.size = w.heap.size + 1 := alloc1 _ _
  obtain ⟨L, h1, h2, h3⟩ := H3.out.1.1
  refine ⟨_, rfl, ⟨L, h1, h2.base (by omega), h3.mono (fun b hb => hb.imp id (fun h => by omega))⟩, ⟨_, H3.out.1.2.1.mono (fun b hb => hb.imp id (fun h => by omega))⟩, ?_⟩
  exact ((Keep.of_below B.t H.out.2.2.2.1).drew.trans (H2.out.2.1.mono (fun b _ hb => Or.inr (Or.inl hb)))).trans (H3.out.1.2.2.mono (fun b _ hb => Or.inl hb))
end
end Go.Proofs.Ytidlldfppoelnaa
