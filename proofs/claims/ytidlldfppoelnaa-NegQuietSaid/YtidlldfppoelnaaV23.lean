import Derived.Test.YtidlldfppoelnaaV22
namespace Go.Proofs.Ytidlldfppoelnaa
open Go.RowKit Go.Tg Go.Maps

section
variable (rej : Pk → ByteArray) {w : World} {S ok : Nat → Prop} {B : NegB} {C : NegC} {st : NSt} {X : NegX} (c : Came) (po pa : Value)

theorem EvPost.none' {w w' : World} {S ok : Nat → Prop} {B : NegB} {C : NegC} {st : NSt} (h : NegV w' (Grow S w) B C st) (hk : Keep B.t w w') : EvPost w w' S ok B C (st, []) (.returned (.slice none 0 0)) := ⟨_, rfl, PksAt.nil _ _ _, h, hk⟩
theorem noCame_at (w : World) (B : NegB) : CameAt w B (fun _ => False) noCame (.slice none 0 0) (.slice none 0 0) := ⟨Rec.nil _ _ _, Rec.nil _ _ _, fun _ h => h.elim, Nat.zero_le _, Nat.zero_le _⟩
theorem EvPost.okm {w w' : World} {S ok ok' : Nat → Prop} {B : NegB} {C : NegC} {r : NSt × List Pk} {e : Ending} (h : EvPost w w' S ok B C r e) (ho : ∀ b, ok b → ok' b) : EvPost w w' S ok' B C r e := by
  obtain ⟨v, he, ⟨L, h1, h2, h3⟩, h4⟩ := h
  exact ⟨v, he, ⟨L, h1, h2, h3.mono (fun b hb => hb.imp (ho b) id)⟩, h4⟩

set_option maxHeartbeats 4000000 in
theorem Do_at (ev : Int) (hev : 0 ≤ ev ∧ ev ≤ 3) (h : NegAt w S B C st X) :
    Calls Try.prog 13 #[.pointer (some ⟨B.nb, 0, none⟩), .int .i64 ev] w fun e w' => EvPost w w' S (fun _ => False) B C (evS rej C st ev noCame) e := by
  have hev' : ev = 0 ∨ ev = 1 ∨ ev = 2 ∨ ev = 3 := by omega
  have hw : (Lit.int .i64 ev).wf = true := by rcases hev' with rfl | rfl | rfl | rfl <;> decide
  have hm : ev ∈ [(0 : Int), 1, 2, 3, 4, 5, 6, 8, 9, 10, 11, 13, 14] := by rcases hev' with rfl | rfl | rfl | rfl <;> decide
  have H := Lib.hid (And.intro h (ndo_at rej noCame _ _ ev hw h (noCame_at w B) (sayAll_next rej B C noCame _ _ st.s ev h.ss hm)))
  unfold cameV noCame noB at H
  have d1 : decide (ev < 0) = false := by simp; omega
  have d2 : decide (3 < ev) = false := by simp; omega
  clear h hev hev' hw hm
  go_enter Try.func13, Try.ntmps13
  go_wp2_with (first
    | (go_at_call 31; refine (nnone_at H.out.1).mono ?_; rintro e w1 ⟨rfl, rfl⟩)
    | (go_at_call 32; refine H.out.2.mono ?_; rintro e w1 ⟨v, rfl, h1⟩))
  go_ret
  exact ⟨_, rfl, h1⟩

set_option maxHeartbeats 4000000 in
theorem Event_at (p : Pk) (po : Value) (ev : Int) (hw : (Lit.int .i64 ev).wf = true) (h : NegAt w S B C st X) (ho : Opts w ok po p.o) (hok : ∀ b, ok b → ¬ B.t b) (hlen : p.o.length ≤ 1000000) (hs : ∀ pa, SayAll rej B C ⟨true, p, 0, []⟩ po pa (nextL st.s ev)) :
    Calls Try.prog 38 #[.pointer (some ⟨B.nb, 0, none⟩), .int .i64 ev, pkV p po] w fun e w' => EvPost w w' S ok B C (evS rej C st ev ⟨true, p, 0, []⟩) e := by
  obtain ⟨a1, k1, rfl, hc1, hc2⟩ := ho.form
  have hb1 : Below w.heap.size w (w.alloc (.cells #[.int .i64 p.code, .int .i64 p.id, (.slice a1 p.o.length k1), .string p.d] 36 (0, 0))) := (Below.refl _ _).alloc (Nat.le_refl _) _
  have H := Lib.hid (And.intro (h.below hb1) (And.intro hb1 (ndo_at (ok := ok) rej ⟨true, p, 0, []⟩ (.slice a1 p.o.length k1) (.slice none 0 0) ev hw (h.below hb1) ⟨ho.below hb1, Rec.nil _ _ _, hok, hlen, Nat.zero_le _⟩ (hs _))))
  unfold cameV at H
  unfold pkV
  clear h ho hok hb1 hs
  go_enter Try.func38, Try.ntmps38
  go_wp2_with (first
    | (go_at_call 31; refine (nnone_at H.out.1).mono ?_; rintro e w1 ⟨rfl, rfl⟩)
    | (go_at_call 32; refine H.out.2.2.mono ?_; rintro e w1 ⟨v, rfl, h1⟩))
  go_ret
  obtain ⟨⟨L, h2, h3, h4⟩, ⟨X', h5⟩, h6⟩ := h1
  have hsz : (w.alloc (.cells #[.int .i64 p.code, .int .i64 p.id, (.slice a1 p.o.length k1), .string p.d] 36 (0, 0))).heap.size = w.heap.size + 1 := alloc1 _ _
  exact ⟨_, rfl, ⟨L, h2, h3.base (by omega), h4.mono (fun b hb => hb.imp id (fun h => by omega))⟩, ⟨X', h5.mono (fun b hb => hb.imp id (fun h => by omega))⟩, (Keep.of_below _ H.out.2.1).trans h6⟩

set_option maxHeartbeats 4000000 in
theorem State_at (h : NegAt w S B C st X) :
    Calls Try.prog 20 #[.pointer (some ⟨B.nb, 0, none⟩)] w fun e w' => e = .returned (.int .i64 st.s) ∧ w = w' := by
  have g0 : w.cell? ⟨B.nb, 0, none⟩ = some (.pointer (some ⟨B.ab, 0, none⟩)) := h.cell 0
  have H := Lib.hid (And.intro h (state_some B.ab st.s st.c C.cf C.tm w h.aut h.ok.cf.1))
  clear h
  go_enter Try.func20, Try.ntmps20
  go_wp2_with (first
    | (go_at_call 31; refine (nnone_at H.out.1).mono ?_; rintro e w1 ⟨rfl, rfl⟩)
    | (go_at_call 46; refine H.out.2.mono ?_; rintro e w1 ⟨rfl, rfl⟩))
  go_ret
  exact ⟨rfl, rfl⟩

set_option maxHeartbeats 4000000 in
theorem Mine_at (h : NegAt w S B C st X) :
    Calls Try.prog 21 #[.pointer (some ⟨B.nb, 0, none⟩)] w fun e w' => ∃ v, e = .returned v ∧ ORow w' w.heap.size v (if st.s = 9 then st.mine else []) ∧ Below w.heap.size w w' := by
  have g0 : w.cell? ⟨B.nb, 15, none⟩ = some X.mine := h.cell 15
  have H := Lib.hid (And.intro (State_at h) (clone_any st.mine X.mine (B.r S) w h.mine h.lm))
  clear h
  by_cases hs : st.s = 9
  · go_enter Try.func21, Try.ntmps21
    go_wp2_with (first
      | (go_at_call 20; refine H.out.1.mono ?_; rintro e w1 ⟨rfl, rfl⟩)
      | (go_at_call 47; refine H.out.2.mono ?_; rintro e w1 ⟨v, rfl, hr, hb⟩; have HR := Lib.hid (And.intro hr hb); clear hr hb))
    go_ret
    exact ⟨_, rfl, HR.out⟩
  · go_enter Try.func21, Try.ntmps21
    go_wp2_with (first
      | (go_at_call 20; refine H.out.1.mono ?_; rintro e w1 ⟨rfl, rfl⟩))
    go_ret
    exact ⟨_, rfl, ORow.nil _ _, Below.refl _ _⟩

set_option maxHeartbeats 4000000 in
theorem Theirs_at (h : NegAt w S B C st X) :
    Calls Try.prog 22 #[.pointer (some ⟨B.nb, 0, none⟩)] w fun e w' => ∃ v, e = .returned v ∧ ORow w' w.heap.size v (if st.s = 9 then st.theirs else []) ∧ Below w.heap.size w w' := by
  have g0 : w.cell? ⟨B.nb, 16, none⟩ = some X.theirs := h.cell 16
  have H := Lib.hid (And.intro (State_at h) (clone_any st.theirs X.theirs (B.r S) w h.theirs h.lt))
  clear h
  by_cases hs : st.s = 9
  · go_enter Try.func22, Try.ntmps22
    go_wp2_with (first
      | (go_at_call 20; refine H.out.1.mono ?_; rintro e w1 ⟨rfl, rfl⟩)
      | (go_at_call 47; refine H.out.2.mono ?_; rintro e w1 ⟨v, rfl, hr, hb⟩; have HR := Lib.hid (And.intro hr hb); clear hr hb))
    go_ret
    exact ⟨_, rfl, HR.out⟩
  · go_enter Try.func22, Try.ntmps22
    go_wp2_with (first
      | (go_at_call 20; refine H.out.1.mono ?_; rintro e w1 ⟨rfl, rfl⟩))
    go_ret
    exact ⟨_, rfl, ORow.nil _ _, Below.refl _ _⟩
end
end Go.Proofs.Ytidlldfppoelnaa
