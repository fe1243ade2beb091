import Derived.Test.YtidlldfppoelnaaV24
import Derived.Laws.EntriesVeiled
namespace Go.Proofs.Ytidlldfppoelnaa
open Go.RowKit Go.Tg Go.Maps

theorem Opts.bd {w : World} {ok : Nat → Prop} {v : Value} {l : List Opt} (h : Opts w ok v l) : l.length ≤ maxLen := by
  have := Rec.max h
  rwa [optL_len] at this

set_option maxHeartbeats 4000000 in
set_option maxRecDepth 100000 in
/-- The judge that NewBy makes of its own. -/
theorem ownJ_any (l : List Opt) (lv : Value) (ok : Nat → Prop) {w : World} {S : Nat → Prop} {B : NegB} {C : NegC} {st : NSt} {X : NegX} (h : NegAt w S B C st X) (jb : Nat) (hj : JAt w jb B.nb) (hl : Opts w ok lv l) (hmax : l.length ≤ 1000000)
    (hwf : ∀ o ∈ l, I64 o.t) (hv : ∀ o ∈ l, o.v.size ≤ 100000) :
    Calls Try.prog 63 #[lv, .pointer (some ⟨jb, 0, none⟩)] w fun e w' => ∃ v, e = .returned (.tuple #[.int .i64 (judgeS C.peer l).1, v]) ∧ ORow w' w.heap.size v (judgeS C.peer l).2 ∧ Below w.heap.size w w' := by
  have c0 : w.cell? ⟨jb, 0, none⟩ = some (.pointer (some ⟨B.nb, 0, none⟩)) := cellOf hj 0 _ rfl
  have c1 : w.cell? ⟨B.nb, 3, none⟩ = some X.peer := h.cell 3
  have H := Lib.hid (judge_any C.peer X.peer (B.r S) l lv ok w h.peer (by have := h.ok.peer; omega) hl hmax hwf hv)
  obtain ⟨sa, sc, rfl, -, -⟩ := hl.form
  obtain ⟨sp, spc, hsp, -, -⟩ := Rls.form' h.peer
  rw [hsp] at c1 H
  clear h hj hl hwf hv hsp
  go_enter Try.func63, Try.ntmps63
  go_wp2_with fail
  refine H.out.mono ?_
  rintro e w1 ⟨v, rfl, hr, hb⟩
  have HR := Lib.hid (And.intro hr hb)
  clear hr hb
  go_wp2_with fail
  go_ret2
  exact ⟨_, rfl, HR.out⟩

/-- What a negotiation asks of its judge: the answer 'J' to the options l. -/
def JudgeOk (g : Nat) (bs : Array Value) (w : World) (ok : Nat → Prop) (l : List Opt) (lv : Value) (J : Int × List Opt) : Prop :=
  (∀ args w, (callFunc g args).run Try.prog w = .ok (.enter g args) w) ∧
  ∀ W, Below w.heap.size w W → Opts W ok lv l → Calls Try.prog g (#[lv] ++ bs) W fun e w' => ∃ v, e = .returned (.tuple #[.int .i64 J.1, v]) ∧ ORow w' W.heap.size v J.2 ∧ Below W.heap.size W w'

section
variable (rej : Pk → ByteArray) {w : World} {S ok : Nat → Prop} {B : NegB} {C : NegC} {st : NSt} {X : NegX}

/-- A request is taken. -/
def reqS (rej : Pk → ByteArray) (C : NegC) (st : NSt) (p : Pk) (J : Int × List Opt) : NSt × List Pk :=
  if J.1 = 2 then evS rej C { st with naks := 0 } 6 ⟨true, p, J.1, J.2⟩ else evS rej C st 7 ⟨true, p, J.1, J.2⟩

set_option maxHeartbeats 8000000 in
set_option maxRecDepth 100000 in
theorem requested_at (p : Pk) (po : Value) (J : Int × List Opt) (g : Nat) (bs : Array Value) (hj : C.judge = .func (.func g) #[] bs) (hJ : JudgeOk g bs w ok p.o po J) (hJl : J.2.length ≤ 1000000) (h : NegAt w S B C st X) (ho : Opts w ok po p.o)
    (hok : ∀ b, ok b → ¬ B.t b) (hlen : p.o.length ≤ 1000000) (hs : J.1 ≠ 2 → ∀ pa, SayAll rej B C ⟨true, p, J.1, J.2⟩ po pa (nextL st.s 7)) :
    Calls Try.prog 36 #[.pointer (some ⟨B.nb, 0, none⟩), pkV p po] w fun e w' => EvPost w w' S ok B C (reqS rej C st p J) e := by
  obtain ⟨j1, j2⟩ := J
  simp only at hJl hs
  obtain ⟨a1, k1, rfl, hc1, hc2⟩ := ho.form
  have hb1 : Below w.heap.size w (w.alloc (.cells #[.int .i64 p.code, .int .i64 p.id, (.slice a1 p.o.length k1), .string p.d] 36 (0, 0))) := (Below.refl _ _).alloc (Nat.le_refl _) _
  have hz := at1 w (.cells #[.int .i64 p.code, .int .i64 p.id, (.slice a1 p.o.length k1), .string p.d] 36 (0, 0))
  have hlt : w.heap.size < (w.alloc (.cells #[.int .i64 p.code, .int .i64 p.id, (.slice a1 p.o.length k1), .string p.d] 36 (0, 0))).heap.size := by rw [alloc1]; omega
  have h1 := h.below hb1
  have j0 : (w.alloc (.cells #[.int .i64 p.code, .int .i64 p.id, (.slice a1 p.o.length k1), .string p.d] 36 (0, 0))).cell? ⟨B.nb, 9, none⟩ = some (.func (.func g) #[] bs) := by rw [← hj]; exact h1.cell 9
  have eg := hJ.1
  have HS : Hid (∀ W, Below (w.alloc (.cells #[.int .i64 p.code, .int .i64 p.id, (.slice a1 p.o.length k1), .string p.d] 36 (0, 0))).heap.size (w.alloc (.cells #[.int .i64 p.code, .int .i64 p.id, (.slice a1 p.o.length k1), .string p.d] 36 (0, 0))) W → W.cell? ⟨B.nb, 9, none⟩ = some (.func (.func g) #[] bs) ∧ W.cell? ⟨w.heap.size, 0, none⟩ = some (.int .i64 p.code) ∧ W.cell? ⟨w.heap.size, 1, none⟩ = some (.int .i64 p.id) ∧ W.cell? ⟨w.heap.size, 2, none⟩ = some (.slice a1 p.o.length k1) ∧ W.cell? ⟨w.heap.size, 3, none⟩ = some (.string p.d)) := Lib.hid fun W hW =>
    ⟨by rw [hW.cell h1.nlt]; exact j0, cellOf ((hW.block _ hlt).trans hz) 0 _ rfl, cellOf ((hW.block _ hlt).trans hz) 1 _ rfl, cellOf ((hW.block _ hlt).trans hz) 2 _ rfl, cellOf ((hW.block _ hlt).trans hz) 3 _ rfl⟩
  have H := Lib.hid (And.intro h (And.intro h1 (And.intro ho (And.intro hb1 (And.intro hok hs)))))
  have HJ := Lib.hid (hJ.2 (w.alloc (.cells #[.int .i64 p.code, .int .i64 p.id, (.slice a1 p.o.length k1), .string p.d] 36 (0, 0))).drew hb1.drew (ho.below hb1.drew))
  obtain ⟨g0, g1, g2, g3, g4⟩ := HS.out _ (Below.refl _ _)
  unfold pkV
  clear hj hJ h ho hok hs hb1 hz h1 j0
  go_enter Try.func36, Try.ntmps36
  go_wp2_with fail
  go_region_held3 (fun W => W.cell? ⟨B.nb, 9, none⟩ = some (.func (.func g) #[] bs) ∧ W.cell? ⟨w.heap.size, 0, none⟩ = some (.int .i64 p.code) ∧ W.cell? ⟨w.heap.size, 1, none⟩ = some (.int .i64 p.id) ∧ W.cell? ⟨w.heap.size, 2, none⟩ = some (.slice a1 p.o.length k1) ∧ W.cell? ⟨w.heap.size, 3, none⟩ = some (.string p.d))
    (first
      | exact HS.out _ H2.out.2
      | go_keep)
    (first
      | (go_simp; go_at_fn g; refine HJ.out.mono ?_; rintro e w2 ⟨v2, rfl, hr2, hb2⟩; obtain ⟨a2, k2, rfl⟩ := hr2.form; have H2 := Lib.hid (And.intro hr2 (show Below (w.alloc (.cells #[.int .i64 p.code, .int .i64 p.id, (.slice a1 p.o.length k1), .string p.d] 36 (0, 0))).heap.size (w.alloc (.cells #[.int .i64 p.code, .int .i64 p.id, (.slice a1 p.o.length k1), .string p.d] 36 (0, 0))) w2 from Below.trans (Below.refl _ _).drew hb2)); clear hr2 hb2)
      | (go_at_fn g; refine HJ.out.mono ?_; rintro e w2 ⟨v2, rfl, hr2, hb2⟩; obtain ⟨a2, k2, rfl⟩ := hr2.form; have H2 := Lib.hid (And.intro hr2 (show Below (w.alloc (.cells #[.int .i64 p.code, .int .i64 p.id, (.slice a1 p.o.length k1), .string p.d] 36 (0, 0))).heap.size (w.alloc (.cells #[.int .i64 p.code, .int .i64 p.id, (.slice a1 p.o.length k1), .string p.d] 36 (0, 0))) w2 from Below.trans (Below.refl _ _).drew hb2)); clear hr2 hb2))
  obtain ⟨y0, y1, y2, y3, y4⟩ := HS.out _ H2.out.2
  have hs1 : (w.alloc (.cells #[.int .i64 p.code, .int .i64 p.id, (.slice a1 p.o.length k1), .string p.d] 36 (0, 0))).heap.size = w.heap.size + 1 := alloc1 _ _
  have hs2 := H2.out.2.size
  have hb3 : Below w2.heap.size w2 (w2.alloc (.cells #[.bool true, .int .i64 p.code, .int .i64 p.id, (.slice a1 p.o.length k1), .string p.d, .int .i64 j1, (.slice a2 j2.length k2)] 76 (0, 0))) := (Below.refl _ _).alloc (Nat.le_refl _) _
  have hn3 := (H.out.2.1.below H2.out.2).below hb3
  have hz3 := at1 w2 (.cells #[.bool true, .int .i64 p.code, .int .i64 p.id, (.slice a1 p.o.length k1), .string p.d, .int .i64 j1, (.slice a2 j2.length k2)] 76 (0, 0))
  have hs3 : (w2.alloc (.cells #[.bool true, .int .i64 p.code, .int .i64 p.id, (.slice a1 p.o.length k1), .string p.d, .int .i64 j1, (.slice a2 j2.length k2)] 76 (0, 0))).heap.size = w2.heap.size + 1 := alloc1 _ _
  have hnl := H.out.1.nlt
  have hw3 : Below w.heap.size w (w2.alloc (.cells #[.bool true, .int .i64 p.code, .int .i64 p.id, (.slice a1 p.o.length k1), .string p.d, .int .i64 j1, (.slice a2 j2.length k2)] 76 (0, 0))) := H.out.2.2.2.1.trans ((H2.out.2.mono (by omega)).trans (hb3.mono (by omega)))
  have hc3 : CameAt (w2.alloc (.cells #[.bool true, .int .i64 p.code, .int .i64 p.id, (.slice a1 p.o.length k1), .string p.d, .int .i64 j1, (.slice a2 j2.length k2)] 76 (0, 0))) B (Grow ok w) ⟨true, p, j1, j2⟩ (.slice a1 p.o.length k1) (.slice a2 j2.length k2) :=
    ⟨Rec.mono (Opts.below H.out.2.2.1 hw3) (fun b hb => .inl hb), Rec.mono (Opts.below (H2.out.1.opts (by unfold maxLen; omega)) hb3) (fun b hb => .inr (by have h1 : (w.alloc (.cells #[.int .i64 p.code, .int .i64 p.id, (.slice a1 p.o.length k1), .string p.d] 36 (0, 0))).drew.heap.size ≤ b := hb; have h2 : (w.alloc (.cells #[.int .i64 p.code, .int .i64 p.id, (.slice a1 p.o.length k1), .string p.d] 36 (0, 0))).drew.heap.size = w.heap.size + 1 := hs1; omega)),
      fun b hb ht => hb.elim (fun h => H.out.2.2.2.2.1 b h ht) (fun h => by have := H.out.1.tlt ht; omega), hlen, hJl⟩
  have H3 := Lib.hid (And.intro hn3 (And.intro hw3 (And.intro hc3 hz3)))
  clear hb3 hn3 hz3 hw3 hc3
  by_cases hq : j1 = 2
  · have HQ := Lib.hid (show reqS rej C st p (j1, j2) = evS rej C { st with naks := 0 } 6 ⟨true, p, j1, j2⟩ from by unfold reqS; exact if_pos hq)
    have f13 := H3.out.1.fz 13
    have g13 : (w2.alloc (.cells #[.bool true, .int .i64 p.code, .int .i64 p.id, (.slice a1 p.o.length k1), .string p.d, .int .i64 j1, (.slice a2 j2.length k2)] 76 (0, 0))).cell? ⟨B.nb, 13, none⟩ = some (.int .i64 st.naks) := H3.out.1.cell 13
    have hn4 := NegAt.setC (st' := { st with naks := 0 }) H3.out.1 13 (.int .i64 0) rfl ⟨rfl, rfl, rfl, rfl, rfl⟩ H3.out.1.id
    have hk4 := keepC B (w2.alloc (.cells #[.bool true, .int .i64 p.code, .int .i64 p.id, (.slice a1 p.o.length k1), .string p.d, .int .i64 j1, (.slice a2 j2.length k2)] 76 (0, 0))) 13 (.int .i64 0)
    have hz4 := (hk4.block w2.heap.size (by omega) (by omega)).trans H3.out.2.2.2
    have z0 : ((w2.alloc (.cells #[.bool true, .int .i64 p.code, .int .i64 p.id, (.slice a1 p.o.length k1), .string p.d, .int .i64 j1, (.slice a2 j2.length k2)] 76 (0, 0))).setCell ⟨B.nb, 13, none⟩ (.int .i64 0)).cell? ⟨w2.heap.size, 0, none⟩ = some _ := cellOf hz4 0 _ rfl
    have z1 : ((w2.alloc (.cells #[.bool true, .int .i64 p.code, .int .i64 p.id, (.slice a1 p.o.length k1), .string p.d, .int .i64 j1, (.slice a2 j2.length k2)] 76 (0, 0))).setCell ⟨B.nb, 13, none⟩ (.int .i64 0)).cell? ⟨w2.heap.size, 1, none⟩ = some _ := cellOf hz4 1 _ rfl
    have z2 : ((w2.alloc (.cells #[.bool true, .int .i64 p.code, .int .i64 p.id, (.slice a1 p.o.length k1), .string p.d, .int .i64 j1, (.slice a2 j2.length k2)] 76 (0, 0))).setCell ⟨B.nb, 13, none⟩ (.int .i64 0)).cell? ⟨w2.heap.size, 2, none⟩ = some _ := cellOf hz4 2 _ rfl
    have z3 : ((w2.alloc (.cells #[.bool true, .int .i64 p.code, .int .i64 p.id, (.slice a1 p.o.length k1), .string p.d, .int .i64 j1, (.slice a2 j2.length k2)] 76 (0, 0))).setCell ⟨B.nb, 13, none⟩ (.int .i64 0)).cell? ⟨w2.heap.size, 3, none⟩ = some _ := cellOf hz4 3 _ rfl
    have z4 : ((w2.alloc (.cells #[.bool true, .int .i64 p.code, .int .i64 p.id, (.slice a1 p.o.length k1), .string p.d, .int .i64 j1, (.slice a2 j2.length k2)] 76 (0, 0))).setCell ⟨B.nb, 13, none⟩ (.int .i64 0)).cell? ⟨w2.heap.size, 4, none⟩ = some _ := cellOf hz4 4 _ rfl
    have z5 : ((w2.alloc (.cells #[.bool true, .int .i64 p.code, .int .i64 p.id, (.slice a1 p.o.length k1), .string p.d, .int .i64 j1, (.slice a2 j2.length k2)] 76 (0, 0))).setCell ⟨B.nb, 13, none⟩ (.int .i64 0)).cell? ⟨w2.heap.size, 5, none⟩ = some _ := cellOf hz4 5 _ rfl
    have z6 : ((w2.alloc (.cells #[.bool true, .int .i64 p.code, .int .i64 p.id, (.slice a1 p.o.length k1), .string p.d, .int .i64 j1, (.slice a2 j2.length k2)] 76 (0, 0))).setCell ⟨B.nb, 13, none⟩ (.int .i64 0)).cell? ⟨w2.heap.size, 6, none⟩ = some _ := cellOf hz4 6 _ rfl
    have HE := Lib.hid (And.intro (ndo_at rej ⟨true, p, j1, j2⟩ _ _ 6 (by decide) hn4 (H3.out.2.2.1.keep hk4 (fun b hb => .inl hb)) (sayAll_next rej B C _ _ _ _ 6 hn4.ss (by decide))) hk4)
    unfold cameV at HE
    clear hn4 hk4 hz4
    subst hq
    go_wp2_with fail
    refine HE.out.1.mono ?_
    rintro e w5 ⟨v5, rfl, ⟨L, l1, l2, l3⟩, ⟨X5, n5⟩, k5⟩
    have H5 := Lib.hid (And.intro l1 (And.intro l2 (And.intro l3 (And.intro n5 k5))))
    clear l1 l2 l3 n5 k5
    go_wp2_with fail
    go_ret
    have hs4 := HE.out.2.size
    rw [HQ.out]
    refine ⟨_, rfl, ⟨L, H5.out.1, H5.out.2.1.base (by omega), H5.out.2.2.1.mono (fun b hb => hb.elim id (fun h => .inr (by omega)))⟩, ⟨X5, H5.out.2.2.2.1.mono (fun b hb => hb.imp id (fun h => by omega))⟩, ?_⟩
    exact ((Keep.of_below B.t H3.out.2.1).trans (HE.out.2.mono (fun b _ hb => Or.inl hb))).trans H5.out.2.2.2.2
  · have HQ := Lib.hid (show reqS rej C st p (j1, j2) = evS rej C st 7 ⟨true, p, j1, j2⟩ from by unfold reqS; exact if_neg hq)
    have z0 : (w2.alloc (.cells #[.bool true, .int .i64 p.code, .int .i64 p.id, (.slice a1 p.o.length k1), .string p.d, .int .i64 j1, (.slice a2 j2.length k2)] 76 (0, 0))).cell? ⟨w2.heap.size, 0, none⟩ = some _ := cellOf H3.out.2.2.2 0 _ rfl
    have z1 : (w2.alloc (.cells #[.bool true, .int .i64 p.code, .int .i64 p.id, (.slice a1 p.o.length k1), .string p.d, .int .i64 j1, (.slice a2 j2.length k2)] 76 (0, 0))).cell? ⟨w2.heap.size, 1, none⟩ = some _ := cellOf H3.out.2.2.2 1 _ rfl
    have z2 : (w2.alloc (.cells #[.bool true, .int .i64 p.code, .int .i64 p.id, (.slice a1 p.o.length k1), .string p.d, .int .i64 j1, (.slice a2 j2.length k2)] 76 (0, 0))).cell? ⟨w2.heap.size, 2, none⟩ = some _ := cellOf H3.out.2.2.2 2 _ rfl
    have z3 : (w2.alloc (.cells #[.bool true, .int .i64 p.code, .int .i64 p.id, (.slice a1 p.o.length k1), .string p.d, .int .i64 j1, (.slice a2 j2.length k2)] 76 (0, 0))).cell? ⟨w2.heap.size, 3, none⟩ = some _ := cellOf H3.out.2.2.2 3 _ rfl
    have z4 : (w2.alloc (.cells #[.bool true, .int .i64 p.code, .int .i64 p.id, (.slice a1 p.o.length k1), .string p.d, .int .i64 j1, (.slice a2 j2.length k2)] 76 (0, 0))).cell? ⟨w2.heap.size, 4, none⟩ = some _ := cellOf H3.out.2.2.2 4 _ rfl
    have z5 : (w2.alloc (.cells #[.bool true, .int .i64 p.code, .int .i64 p.id, (.slice a1 p.o.length k1), .string p.d, .int .i64 j1, (.slice a2 j2.length k2)] 76 (0, 0))).cell? ⟨w2.heap.size, 5, none⟩ = some _ := cellOf H3.out.2.2.2 5 _ rfl
    have z6 : (w2.alloc (.cells #[.bool true, .int .i64 p.code, .int .i64 p.id, (.slice a1 p.o.length k1), .string p.d, .int .i64 j1, (.slice a2 j2.length k2)] 76 (0, 0))).cell? ⟨w2.heap.size, 6, none⟩ = some _ := cellOf H3.out.2.2.2 6 _ rfl
    have HE := Lib.hid (ndo_at rej ⟨true, p, j1, j2⟩ _ _ 7 (by decide) H3.out.1 H3.out.2.2.1 (H.out.2.2.2.2.2 hq _))
    unfold cameV at HE
    go_wp2_with fail
    refine HE.out.mono ?_
    rintro e w5 ⟨v5, rfl, ⟨L, l1, l2, l3⟩, ⟨X5, n5⟩, k5⟩
    have H5 := Lib.hid (And.intro l1 (And.intro l2 (And.intro l3 (And.intro n5 k5))))
    clear l1 l2 l3 n5 k5
    go_wp2_with fail
    go_ret
    rw [HQ.out]
    refine ⟨_, rfl, ⟨L, H5.out.1, H5.out.2.1.base (by omega), H5.out.2.2.1.mono (fun b hb => hb.elim id (fun h => .inr (by omega)))⟩, ⟨X5, H5.out.2.2.2.1.mono (fun b hb => hb.imp id (fun h => by omega))⟩, ?_⟩
    exact (Keep.of_below B.t H3.out.2.1).trans H5.out.2.2.2.2
end
end Go.Proofs.Ytidlldfppoelnaa
