import Derived.Test.YtijepfjfmpmfnaaV62
import Derived.Test.YtijepfjfmpmfnaaV36
/- Take, for every packet. -/
namespace Go.Proofs.Ytijepfjfmpmfnaa
open Go.RowKit Go.Tg Go.Maps

section
variable (rej : Pk → ByteArray) {w : World} {S ok : Nat → Prop} {B : NegB} {C : NegC} {st : NSt} {X : NegX}

set_option maxHeartbeats 8000000 in
set_option maxRecDepth 100000 in
theorem answered4_at (p : Pk) (po : Value) (hcode : p.code = 4) (h : NegAt w S B C st X) (ho : Opts w ok po p.o) (hok : ∀ b, ok b → ¬ B.t b) (hlen : p.o.length ≤ 1000000) :
    Calls Try.prog 35 #[.pointer (some ⟨B.nb, 0, none⟩), pkV p po] w fun e w' => EvPost w w' S ok B C (if p.id = st.asked then refusedS rej C st p else (st, [])) e := by
  obtain ⟨pc, pi, pl, pd⟩ := p
  simp only at hcode ho hlen
  subst hcode
  obtain ⟨a1, k1, rfl, hc1, hc2⟩ := ho.form
  have hb1 : Below w.heap.size w (w.alloc (.cells #[.int .i64 4, .int .i64 pi, (.slice a1 pl.length k1), .string pd] 37 (0, 0))) := (Below.refl _ _).alloc (Nat.le_refl _) _
  have hz := at1 w (.cells #[.int .i64 4, .int .i64 pi, (.slice a1 pl.length k1), .string pd] 37 (0, 0))
  have h1 := h.below hb1
  have g0 : (w.alloc (.cells #[.int .i64 4, .int .i64 pi, (.slice a1 pl.length k1), .string pd] 37 (0, 0))).cell? ⟨B.nb, 12, none⟩ = some (.int .u8 st.asked) := h1.cell 12
  have g1 : (w.alloc (.cells #[.int .i64 4, .int .i64 pi, (.slice a1 pl.length k1), .string pd] 37 (0, 0))).cell? ⟨w.heap.size, 1, none⟩ = some (.int .i64 pi) := cellOf hz 1 _ rfl
  have ew : wrap64 st.asked = st.asked := by have := h.ak; unfold wrap64; omega
  have hq : ∀ n, Below (w.alloc (.cells #[.int .i64 4, .int .i64 pi, (.slice a1 pl.length k1), .string pd] 37 (0, 0))).heap.size (w.alloc (.cells #[.int .i64 4, .int .i64 pi, (.slice a1 pl.length k1), .string pd] 37 (0, 0))) ((w.alloc (.cells #[.int .i64 4, .int .i64 pi, (.slice a1 pl.length k1), .string pd] 37 (0, 0))).drewN n) := fun n => ⟨rfl, rfl, rfl, Nat.le_refl _, fun _ _ => rfl⟩
  have HR := Lib.hid (fun n => refused_at (ok := ok) rej ⟨4, pi, pl, pd⟩ (.slice a1 pl.length k1) (h1.below (hq n)) ((ho.below hb1).below (hq n)) hok hlen)
  unfold pkV at HR
  have H := Lib.hid (And.intro h (And.intro h1 (And.intro ho (And.intro hb1 (And.intro hok hz)))))
  unfold pkV
  clear h ho hok hb1 hz h1 hq
  by_cases hid : pi = st.asked
  · subst hid
    go_enter Try.func35, Try.ntmps35
    go_wp2_with fail
    go_quiet (fail)
    go_wp2_with (go_at_call 64; refine (HR.out _).mono ?_; rintro e w2 ⟨v2, rfl, h2⟩)
    go_ret
    exact EvPost.of_box ⟨_, rfl, h2⟩ (belowN H.out.2.2.2.1 _)
  · have HID := Lib.hid hid
    go_enter Try.func35, Try.ntmps35
    go_wp2_with fail
    go_quiet (fail)
    go_wp2_with fail
    go_ret
    exact EvPost.none' ⟨X, (H.out.1.below (belowN H.out.2.2.2.1 nq)).mono (fun b h => .inl h)⟩ (Keep.of_below _ (belowN H.out.2.2.2.1 nq))

set_option maxHeartbeats 8000000 in
set_option maxRecDepth 100000 in
theorem answered3_at (p : Pk) (po : Value) (hcode : p.code = 3) (h : NegAt w S B C st X) (ho : Opts w ok po p.o) (hok : ∀ b, ok b → ¬ B.t b) (hlen : p.o.length ≤ 1000000) (hv : ∀ o ∈ p.o, o.v.size ≤ 100000) :
    Calls Try.prog 35 #[.pointer (some ⟨B.nb, 0, none⟩), pkV p po] w fun e w' => EvPost w w' S ok B C (if p.id = st.asked then namedS rej C st p else (st, [])) e := by
  obtain ⟨pc, pi, pl, pd⟩ := p
  simp only at hcode ho hlen hv
  subst hcode
  obtain ⟨a1, k1, rfl, hc1, hc2⟩ := ho.form
  have hb1 : Below w.heap.size w (w.alloc (.cells #[.int .i64 3, .int .i64 pi, (.slice a1 pl.length k1), .string pd] 37 (0, 0))) := (Below.refl _ _).alloc (Nat.le_refl _) _
  have hz := at1 w (.cells #[.int .i64 3, .int .i64 pi, (.slice a1 pl.length k1), .string pd] 37 (0, 0))
  have h1 := h.below hb1
  have g0 : (w.alloc (.cells #[.int .i64 3, .int .i64 pi, (.slice a1 pl.length k1), .string pd] 37 (0, 0))).cell? ⟨B.nb, 12, none⟩ = some (.int .u8 st.asked) := h1.cell 12
  have g1 : (w.alloc (.cells #[.int .i64 3, .int .i64 pi, (.slice a1 pl.length k1), .string pd] 37 (0, 0))).cell? ⟨w.heap.size, 1, none⟩ = some (.int .i64 pi) := cellOf hz 1 _ rfl
  have ew : wrap64 st.asked = st.asked := by have := h.ak; unfold wrap64; omega
  have hq : ∀ n, Below (w.alloc (.cells #[.int .i64 3, .int .i64 pi, (.slice a1 pl.length k1), .string pd] 37 (0, 0))).heap.size (w.alloc (.cells #[.int .i64 3, .int .i64 pi, (.slice a1 pl.length k1), .string pd] 37 (0, 0))) ((w.alloc (.cells #[.int .i64 3, .int .i64 pi, (.slice a1 pl.length k1), .string pd] 37 (0, 0))).drewN n) := fun n => ⟨rfl, rfl, rfl, Nat.le_refl _, fun _ _ => rfl⟩
  have HR := Lib.hid (fun n => named_at (ok := ok) rej ⟨3, pi, pl, pd⟩ (.slice a1 pl.length k1) (h1.below (hq n)) ((ho.below hb1).below (hq n)) hok hlen hv)
  unfold pkV at HR
  have H := Lib.hid (And.intro h (And.intro h1 (And.intro ho (And.intro hb1 (And.intro hok hz)))))
  unfold pkV
  clear h ho hok hb1 hz h1 hq hv
  by_cases hid : pi = st.asked
  · subst hid
    go_enter Try.func35, Try.ntmps35
    go_wp2_with fail
    go_quiet (fail)
    go_wp2_with (go_at_call 65; refine (HR.out _).mono ?_; rintro e w2 ⟨v2, rfl, h2⟩)
    go_ret
    exact EvPost.of_box ⟨_, rfl, h2⟩ (belowN H.out.2.2.2.1 _)
  · have HID := Lib.hid hid
    go_enter Try.func35, Try.ntmps35
    go_wp2_with fail
    go_quiet (fail)
    go_wp2_with fail
    go_ret
    exact EvPost.none' ⟨X, (H.out.1.below (belowN H.out.2.2.2.1 nq)).mono (fun b h => .inl h)⟩ (Keep.of_below _ (belowN H.out.2.2.2.1 nq))

set_option maxHeartbeats 4000000 in
set_option maxRecDepth 100000 in
theorem take34 (p : Pk) (po : Value) (hcode : p.code = 3 ∨ p.code = 4) (h : NegAt w S B C st X) (ho : Opts w ok po p.o) (hok : ∀ b, ok b → ¬ B.t b) (hlen : p.o.length ≤ 1000000) (hv : ∀ o ∈ p.o, o.v.size ≤ 100000) :
    Calls Try.prog 13 #[.pointer (some ⟨B.nb, 0, none⟩), pkV p po] w fun e w' => EvPost w w' S ok B C (if p.id = st.asked then (if p.code = 3 then namedS rej C st p else refusedS rej C st p) else (st, [])) e := by
  obtain ⟨a1, k1, rfl, hc1, hc2⟩ := ho.form
  have hb1 : Below w.heap.size w (w.alloc (.cells #[.int .i64 p.code, .int .i64 p.id, (.slice a1 p.o.length k1), .string p.d] 37 (0, 0))) := (Below.refl _ _).alloc (Nat.le_refl _) _
  have HX := Lib.hid (And.intro (h.below hb1) hb1)
  have hC : Calls Try.prog 35 #[.pointer (some ⟨B.nb, 0, none⟩), pkV p (.slice a1 p.o.length k1)] (w.alloc (.cells #[.int .i64 p.code, .int .i64 p.id, (.slice a1 p.o.length k1), .string p.d] 37 (0, 0))) fun e w' => EvPost (w.alloc (.cells #[.int .i64 p.code, .int .i64 p.id, (.slice a1 p.o.length k1), .string p.d] 37 (0, 0))) w' S ok B C (if p.id = st.asked then (if p.code = 3 then namedS rej C st p else refusedS rej C st p) else (st, [])) e := by
    rcases hcode with hc | hc
    · have := answered3_at rej p _ hc (h.below hb1) (ho.below hb1) hok hlen hv
      rwa [← if_pos (c := p.code = 3) (t := namedS rej C st p) (e := refusedS rej C st p) hc] at this
    · have := answered4_at rej p _ hc (h.below hb1) (ho.below hb1) hok hlen
      rwa [← if_neg (c := p.code = 3) (t := namedS rej C st p) (e := refusedS rej C st p) (by omega)] at this
  have HC := Lib.hid hC
  generalize (if p.id = st.asked then (if p.code = 3 then namedS rej C st p else refusedS rej C st p) else (st, [])) = R at HC ⊢
  unfold pkV at HC ⊢
  clear h ho hok hb1 hC hv
  obtain ⟨pc, pi, pl, pd⟩ := p
  simp only at hcode
  rcases hcode with rfl | rfl
  all_goals
    go_enter Try.func13, Try.ntmps13
    go_wp2_with (first
      | (go_at_call 32; refine (nnone_at HX.out.1).mono ?_; rintro e w1 ⟨rfl, rfl⟩)
      | (go_at_call 35; refine HC.out.mono ?_; rintro e w5 ⟨v5, rfl, h5⟩))
    go_ret
    exact EvPost.of_box ⟨_, rfl, h5⟩ HX.out.2
end
end Go.Proofs.Ytijepfjfmpmfnaa
