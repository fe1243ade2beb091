import Derived.Test.YtidlldfppoelnaaV26
namespace Go.Proofs.Ytidlldfppoelnaa
open Go.RowKit Go.Tg Go.Maps

section
variable (rej : Pk → ByteArray) {w : World} {S ok : Nat → Prop} {B : NegB} {C : NegC} {st : NSt} {X : NegX}

/-- From the world behind the packet's box back to the call's own. -/
theorem EvPost.of_box {w w1 w' : World} {S ok : Nat → Prop} {B : NegB} {C : NegC} {r : NSt × List Pk} {e : Ending} (h : EvPost w1 w' S ok B C r e) (hb : Below w.heap.size w w1) : EvPost w w' S ok B C r e := by
  obtain ⟨v, he, ⟨L, h2, h3, h4⟩, ⟨X', h5⟩, h6⟩ := h
  have hsz := hb.size
  exact ⟨v, he, ⟨L, h2, h3.base hsz, h4.mono (fun b hb => hb.imp id (fun h => Nat.le_trans hsz h))⟩, ⟨X', h5.mono (fun b hb => hb.imp id (fun h => Nat.le_trans hsz h))⟩, (Keep.of_below _ hb).trans h6⟩

set_option maxHeartbeats 4000000 in
set_option maxRecDepth 100000 in
theorem take1 (p : Pk) (po : Value) (hcode : p.code = 1) (J : Int × List Opt) (g : Nat) (bs : Array Value) (hj : C.judge = .func (.func g) #[] bs) (hJ : ∀ W, Below w.heap.size w W → JudgeOk g bs W ok p.o po J) (hJl : J.2.length ≤ 1000000) (h : NegAt w S B C st X) (ho : Opts w ok po p.o) (hok : ∀ b, ok b → ¬ B.t b) (hlen : p.o.length ≤ 1000000) (hs : J.1 ≠ 2 → ∀ pa, SayAll rej B C ⟨true, p, J.1, J.2⟩ po pa (nextL st.s 7)) :
    Calls Try.prog 15 #[.pointer (some ⟨B.nb, 0, none⟩), pkV p po] w fun e w' => EvPost w w' S ok B C (reqS rej C st p J) e := by
  obtain ⟨a1, k1, rfl, hc1, hc2⟩ := ho.form
  have hb1 : Below w.heap.size w (w.alloc (.cells #[.int .i64 p.code, .int .i64 p.id, (.slice a1 p.o.length k1), .string p.d] 36 (0, 0))) := (Below.refl _ _).alloc (Nat.le_refl _) _
  have HX := Lib.hid (And.intro (h.below hb1) hb1)
  have HC := Lib.hid (requested_at rej p _ J g bs hj (hJ _ hb1) hJl (h.below hb1) (ho.below hb1) hok hlen hs)
  unfold pkV at HC ⊢
  clear h ho hok hb1
  obtain ⟨pc, pi, pl, pd⟩ := p
  simp only at hcode
  subst hcode
  go_enter Try.func15, Try.ntmps15
  go_wp2_with (first
    | (go_at_call 31; refine (nnone_at HX.out.1).mono ?_; rintro e w1 ⟨rfl, rfl⟩)
    | (go_at_call 36; refine HC.out.mono ?_; rintro e w5 ⟨v5, rfl, h5⟩))
  go_ret
  exact EvPost.of_box ⟨_, rfl, h5⟩ HX.out.2

set_option maxHeartbeats 4000000 in
set_option maxRecDepth 100000 in
theorem take2 (p : Pk) (po : Value) (hcode : p.code = 2) (h : NegAt w S B C st X) (ho : Opts w ok po p.o) (hok : ∀ b, ok b → ¬ B.t b) (hlen : p.o.length ≤ 1000000) :
    Calls Try.prog 15 #[.pointer (some ⟨B.nb, 0, none⟩), pkV p po] w fun e w' => EvPost w w' S ok B C (ackS rej C st p) e := by
  obtain ⟨a1, k1, rfl, hc1, hc2⟩ := ho.form
  have hb1 : Below w.heap.size w (w.alloc (.cells #[.int .i64 p.code, .int .i64 p.id, (.slice a1 p.o.length k1), .string p.d] 36 (0, 0))) := (Below.refl _ _).alloc (Nat.le_refl _) _
  have HX := Lib.hid (And.intro (h.below hb1) hb1)
  have HC := Lib.hid (acked_at rej p _ hcode (h.below hb1) (ho.below hb1) hok hlen)
  unfold pkV at HC ⊢
  clear h ho hok hb1
  obtain ⟨pc, pi, pl, pd⟩ := p
  simp only at hcode
  subst hcode
  go_enter Try.func15, Try.ntmps15
  go_wp2_with (first
    | (go_at_call 31; refine (nnone_at HX.out.1).mono ?_; rintro e w1 ⟨rfl, rfl⟩)
    | (go_at_call 37; refine HC.out.mono ?_; rintro e w5 ⟨v5, rfl, h5⟩))
  go_ret
  exact EvPost.of_box ⟨_, rfl, h5⟩ HX.out.2

set_option maxHeartbeats 4000000 in
set_option maxRecDepth 100000 in
theorem take5 (p : Pk) (po : Value) (hcode : p.code = 5) (h : NegAt w S B C st X) (ho : Opts w ok po p.o) (hok : ∀ b, ok b → ¬ B.t b) (hlen : p.o.length ≤ 1000000) :
    Calls Try.prog 15 #[.pointer (some ⟨B.nb, 0, none⟩), pkV p po] w fun e w' => EvPost w w' S ok B C (evS rej C st 10 ⟨true, p, 0, []⟩) e := by
  obtain ⟨a1, k1, rfl, hc1, hc2⟩ := ho.form
  have hb1 : Below w.heap.size w (w.alloc (.cells #[.int .i64 p.code, .int .i64 p.id, (.slice a1 p.o.length k1), .string p.d] 36 (0, 0))) := (Below.refl _ _).alloc (Nat.le_refl _) _
  have HX := Lib.hid (And.intro (h.below hb1) hb1)
  have HC := Lib.hid (Event_at rej p _ 10 (by decide) (h.below hb1) (ho.below hb1) hok hlen (fun pa => sayAll_next rej B C _ _ _ _ 10 h.ss (by decide)))
  unfold pkV at HC ⊢
  clear h ho hok hb1
  obtain ⟨pc, pi, pl, pd⟩ := p
  simp only at hcode
  subst hcode
  go_enter Try.func15, Try.ntmps15
  go_wp2_with (first
    | (go_at_call 31; refine (nnone_at HX.out.1).mono ?_; rintro e w1 ⟨rfl, rfl⟩)
    | (go_at_call 38; refine HC.out.mono ?_; rintro e w5 ⟨v5, rfl, h5⟩))
  go_ret
  exact EvPost.of_box ⟨_, rfl, h5⟩ HX.out.2

set_option maxHeartbeats 4000000 in
set_option maxRecDepth 100000 in
theorem take6 (p : Pk) (po : Value) (hcode : p.code = 6) (h : NegAt w S B C st X) (ho : Opts w ok po p.o) (hok : ∀ b, ok b → ¬ B.t b) (hlen : p.o.length ≤ 1000000) :
    Calls Try.prog 15 #[.pointer (some ⟨B.nb, 0, none⟩), pkV p po] w fun e w' => EvPost w w' S ok B C (evS rej C st 11 ⟨true, p, 0, []⟩) e := by
  obtain ⟨a1, k1, rfl, hc1, hc2⟩ := ho.form
  have hb1 : Below w.heap.size w (w.alloc (.cells #[.int .i64 p.code, .int .i64 p.id, (.slice a1 p.o.length k1), .string p.d] 36 (0, 0))) := (Below.refl _ _).alloc (Nat.le_refl _) _
  have HX := Lib.hid (And.intro (h.below hb1) hb1)
  have HC := Lib.hid (Event_at rej p _ 11 (by decide) (h.below hb1) (ho.below hb1) hok hlen (fun pa => sayAll_next rej B C _ _ _ _ 11 h.ss (by decide)))
  unfold pkV at HC ⊢
  clear h ho hok hb1
  obtain ⟨pc, pi, pl, pd⟩ := p
  simp only at hcode
  subst hcode
  go_enter Try.func15, Try.ntmps15
  go_wp2_with (first
    | (go_at_call 31; refine (nnone_at HX.out.1).mono ?_; rintro e w1 ⟨rfl, rfl⟩)
    | (go_at_call 38; refine HC.out.mono ?_; rintro e w5 ⟨v5, rfl, h5⟩))
  go_ret
  exact EvPost.of_box ⟨_, rfl, h5⟩ HX.out.2

set_option maxHeartbeats 4000000 in
set_option maxRecDepth 100000 in
theorem takeU (p : Pk) (po : Value) (hcode : p.code < 1 ∨ 7 < p.code) (h : NegAt w S B C st X) (ho : Opts w ok po p.o) (hok : ∀ b, ok b → ¬ B.t b) (hlen : p.o.length ≤ 1000000) (hs : ∀ pa, SayAll rej B C ⟨true, p, 0, []⟩ po pa (nextL st.s 12)) :
    Calls Try.prog 15 #[.pointer (some ⟨B.nb, 0, none⟩), pkV p po] w fun e w' => EvPost w w' S ok B C (evS rej C st 12 ⟨true, p, 0, []⟩) e := by
  obtain ⟨a1, k1, rfl, hc1, hc2⟩ := ho.form
  have hb1 : Below w.heap.size w (w.alloc (.cells #[.int .i64 p.code, .int .i64 p.id, (.slice a1 p.o.length k1), .string p.d] 36 (0, 0))) := (Below.refl _ _).alloc (Nat.le_refl _) _
  have HX := Lib.hid (And.intro (h.below hb1) hb1)
  have HC := Lib.hid (Event_at rej p _ 12 (by decide) (h.below hb1) (ho.below hb1) hok hlen hs)
  unfold pkV at HC ⊢
  clear h ho hok hb1
  have d1 : ¬ (p.code = 1) := by omega
  have d2 : ¬ (p.code = 2) := by omega
  have d3 : ¬ (p.code = 3) := by omega
  have d4 : ¬ (p.code = 4) := by omega
  have d5 : ¬ (p.code = 5) := by omega
  have d6 : ¬ (p.code = 6) := by omega
  have d7 : ¬ (p.code = 7) := by omega
  clear hcode
  go_enter Try.func15, Try.ntmps15
  go_wp2_with (first
    | (go_at_call 31; refine (nnone_at HX.out.1).mono ?_; rintro e w1 ⟨rfl, rfl⟩)
    | (go_at_call 38; refine HC.out.mono ?_; rintro e w5 ⟨v5, rfl, h5⟩))
  go_ret
  exact EvPost.of_box ⟨_, rfl, h5⟩ HX.out.2
end
end Go.Proofs.Ytidlldfppoelnaa
