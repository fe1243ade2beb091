import Derived.Test.YthhdackaopaojaaGreatV62
import Derived.Test.YthhdackaopaojaaGreatV36
import Derived.Test.YthhdackaopaojaaGreatV57b
/- Take, for every packet. -/
namespace Go.Proofs.YthhdackaopaojaaGreat
open Go.RowKit Go.Tg Go.Maps

section
variable (rej : Pk → ByteArray) {w : World} {S ok : Nat → Prop} {B : NegB} {C : NegC} {st : NSt} {X : NegX}

set_option maxHeartbeats 8000000 in
set_option maxRecDepth 100000 in
theorem answered4_at (p : Pk) (po : Value) (hcode : p.code = 4) (h : NegAt w S B C st X) (ho : Opts w ok po p.o) (hok : ∀ b, ok b → ¬ B.t b) (hlen : p.o.length ≤ 1000000) :
    Calls Tryz.prog 81 #[.pointer (some ⟨B.nb, 0, none⟩), pkV p po] w fun e w' => EvPost w w' S ok B C (if p.id = st.asked then refusedS rej C st p else (st, [])) e := by
  obtain ⟨pc, pi, pl, pd⟩ := p
  simp only at hcode ho hlen
  subst hcode
  obtain ⟨a1, k1, rfl, hc1, hc2⟩ := ho.form
  have hb1 : Below w.heap.size w (w.alloc (.cells #[.int .i64 4, .int .i64 pi, (.slice a1 pl.length k1), .string pd] 38 (0, 0))) := (Below.refl _ _).alloc (Nat.le_refl _) _
  have hz := at1 w (.cells #[.int .i64 4, .int .i64 pi, (.slice a1 pl.length k1), .string pd] 38 (0, 0))
  have h1 := h.below hb1
  have g0 : (w.alloc (.cells #[.int .i64 4, .int .i64 pi, (.slice a1 pl.length k1), .string pd] 38 (0, 0))).cell? ⟨B.nb, 12, none⟩ = some (.int .u8 st.asked) := h1.cell 12
  have g1 : (w.alloc (.cells #[.int .i64 4, .int .i64 pi, (.slice a1 pl.length k1), .string pd] 38 (0, 0))).cell? ⟨w.heap.size, 1, none⟩ = some (.int .i64 pi) := cellOf hz 1 _ rfl
  have ew : wrap64 st.asked = st.asked := by have := h.ak; unfold wrap64; omega
  have hq : ∀ n, Below (w.alloc (.cells #[.int .i64 4, .int .i64 pi, (.slice a1 pl.length k1), .string pd] 38 (0, 0))).heap.size (w.alloc (.cells #[.int .i64 4, .int .i64 pi, (.slice a1 pl.length k1), .string pd] 38 (0, 0))) ((w.alloc (.cells #[.int .i64 4, .int .i64 pi, (.slice a1 pl.length k1), .string pd] 38 (0, 0))).drewN n) := fun n => ⟨rfl, rfl, rfl, Nat.le_refl _, fun _ _ => rfl⟩
  have HR := Lib.hid (fun n => refused_at (ok := ok) rej ⟨4, pi, pl, pd⟩ (.slice a1 pl.length k1) (h1.below (hq n)) ((ho.below hb1).below (hq n)) hok hlen)
  unfold pkV at HR
  have H := Lib.hid (And.intro h (And.intro h1 (And.intro ho (And.intro hb1 (And.intro hok hz)))))
  unfold pkV
  clear h ho hok hb1 hz h1 hq
  by_cases hid : pi = st.asked
  · subst hid
    go_enter Tryz.func81, Tryz.ntmps81
    go_wp2_with fail
    go_quiet (fail)
    go_wp2_with (go_at_call 100; refine (HR.out _).mono ?_; rintro e w2 ⟨v2, rfl, h2⟩)
    go_ret
    exact EvPost.of_box ⟨_, rfl, h2⟩ (belowN H.out.2.2.2.1 _)
  · have HID := Lib.hid hid
    go_enter Tryz.func81, Tryz.ntmps81
    go_wp2_with fail
    go_quiet (fail)
    go_wp2_with fail
    go_ret
    exact EvPost.none' ⟨X, (H.out.1.below (belowN H.out.2.2.2.1 nq)).mono (fun b h => .inl h)⟩ (Keep.of_below _ (belowN H.out.2.2.2.1 nq))

set_option maxHeartbeats 8000000 in
set_option maxRecDepth 100000 in
theorem answered3_at (p : Pk) (po : Value) (hcode : p.code = 3) (h : NegAt w S B C st X) (ho : Opts w ok po p.o) (hok : ∀ b, ok b → ¬ B.t b) (hlen : p.o.length ≤ 1000000) (hv : ∀ o ∈ p.o, o.v.size ≤ 100000) :
    Calls Tryz.prog 81 #[.pointer (some ⟨B.nb, 0, none⟩), pkV p po] w fun e w' => EvPost w w' S ok B C (if p.id = st.asked then namedS rej C st p else (st, [])) e := by
  obtain ⟨pc, pi, pl, pd⟩ := p
  simp only at hcode ho hlen hv
  subst hcode
  obtain ⟨a1, k1, rfl, hc1, hc2⟩ := ho.form
  have hb1 : Below w.heap.size w (w.alloc (.cells #[.int .i64 3, .int .i64 pi, (.slice a1 pl.length k1), .string pd] 38 (0, 0))) := (Below.refl _ _).alloc (Nat.le_refl _) _
  have hz := at1 w (.cells #[.int .i64 3, .int .i64 pi, (.slice a1 pl.length k1), .string pd] 38 (0, 0))
  have h1 := h.below hb1
  have g0 : (w.alloc (.cells #[.int .i64 3, .int .i64 pi, (.slice a1 pl.length k1), .string pd] 38 (0, 0))).cell? ⟨B.nb, 12, none⟩ = some (.int .u8 st.asked) := h1.cell 12
  have g1 : (w.alloc (.cells #[.int .i64 3, .int .i64 pi, (.slice a1 pl.length k1), .string pd] 38 (0, 0))).cell? ⟨w.heap.size, 1, none⟩ = some (.int .i64 pi) := cellOf hz 1 _ rfl
  have ew : wrap64 st.asked = st.asked := by have := h.ak; unfold wrap64; omega
  have hq : ∀ n, Below (w.alloc (.cells #[.int .i64 3, .int .i64 pi, (.slice a1 pl.length k1), .string pd] 38 (0, 0))).heap.size (w.alloc (.cells #[.int .i64 3, .int .i64 pi, (.slice a1 pl.length k1), .string pd] 38 (0, 0))) ((w.alloc (.cells #[.int .i64 3, .int .i64 pi, (.slice a1 pl.length k1), .string pd] 38 (0, 0))).drewN n) := fun n => ⟨rfl, rfl, rfl, Nat.le_refl _, fun _ _ => rfl⟩
  have HR := Lib.hid (fun n => named_at (ok := ok) rej ⟨3, pi, pl, pd⟩ (.slice a1 pl.length k1) (h1.below (hq n)) ((ho.below hb1).below (hq n)) hok hlen hv)
  unfold pkV at HR
  have H := Lib.hid (And.intro h (And.intro h1 (And.intro ho (And.intro hb1 (And.intro hok hz)))))
  unfold pkV
  clear h ho hok hb1 hz h1 hq hv
  by_cases hid : pi = st.asked
  · subst hid
    go_enter Tryz.func81, Tryz.ntmps81
    go_wp2_with fail
    go_quiet (fail)
    go_wp2_with (go_at_call 101; refine (HR.out _).mono ?_; rintro e w2 ⟨v2, rfl, h2⟩)
    go_ret
    exact EvPost.of_box ⟨_, rfl, h2⟩ (belowN H.out.2.2.2.1 _)
  · have HID := Lib.hid hid
    go_enter Tryz.func81, Tryz.ntmps81
    go_wp2_with fail
    go_quiet (fail)
    go_wp2_with fail
    go_ret
    exact EvPost.none' ⟨X, (H.out.1.below (belowN H.out.2.2.2.1 nq)).mono (fun b h => .inl h)⟩ (Keep.of_below _ (belowN H.out.2.2.2.1 nq))

set_option maxHeartbeats 4000000 in
set_option maxRecDepth 100000 in
theorem take34 (p : Pk) (po : Value) (hcode : p.code = 3 ∨ p.code = 4) (h : NegAt w S B C st X) (ho : Opts w ok po p.o) (hok : ∀ b, ok b → ¬ B.t b) (hlen : p.o.length ≤ 1000000) (hv : ∀ o ∈ p.o, o.v.size ≤ 100000) :
    Calls Tryz.prog 47 #[.pointer (some ⟨B.nb, 0, none⟩), pkV p po] w fun e w' => EvPost w w' S ok B C (if p.id = st.asked then (if p.code = 3 then namedS rej C st p else refusedS rej C st p) else (st, [])) e := by
  obtain ⟨a1, k1, rfl, hc1, hc2⟩ := ho.form
  have hb1 : Below w.heap.size w (w.alloc (.cells #[.int .i64 p.code, .int .i64 p.id, (.slice a1 p.o.length k1), .string p.d] 38 (0, 0))) := (Below.refl _ _).alloc (Nat.le_refl _) _
  have HX := Lib.hid (And.intro (h.below hb1) hb1)
  have hC : Calls Tryz.prog 81 #[.pointer (some ⟨B.nb, 0, none⟩), pkV p (.slice a1 p.o.length k1)] (w.alloc (.cells #[.int .i64 p.code, .int .i64 p.id, (.slice a1 p.o.length k1), .string p.d] 38 (0, 0))) fun e w' => EvPost (w.alloc (.cells #[.int .i64 p.code, .int .i64 p.id, (.slice a1 p.o.length k1), .string p.d] 38 (0, 0))) w' S ok B C (if p.id = st.asked then (if p.code = 3 then namedS rej C st p else refusedS rej C st p) else (st, [])) e := by
    rcases hcode with hc | hc
    · have := answered3_at rej p _ hc (h.below hb1) (ho.below hb1) hok hlen hv
      rwa [← if_pos (c := p.code = 3) (t := namedS rej C st p) (e := refusedS rej C st p) hc] at this
    · have := answered4_at rej p _ hc (h.below hb1) (ho.below hb1) hok hlen
      rwa [← if_neg (c := p.code = 3) (t := namedS rej C st p) (e := refusedS rej C st p) (by omega)] at this
  have HC := Lib.hid hC
  generalize (if p.id = st.asked then (if p.code = 3 then namedS rej C st p else refusedS rej C st p) else (st, [])) = R at HC ⊢
  unfold pkV at HC ⊢
  clear h ho hok hb1 hC hv
  obtain ⟨pc, pi, pl, pd⟩ := p
  simp only at hcode
  rcases hcode with rfl | rfl
  all_goals
    go_enter Tryz.func47, Tryz.ntmps47
    go_wp2_with (first
      | (go_at_call 77; refine (nnone_at HX.out.1).mono ?_; rintro e w1 ⟨rfl, rfl⟩)
      | (go_at_call 81; refine HC.out.mono ?_; rintro e w5 ⟨v5, rfl, h5⟩))
    go_ret
    exact EvPost.of_box ⟨_, rfl, h5⟩ HX.out.2
end
end Go.Proofs.YthhdackaopaojaaGreat

/- Take, for every packet: its model. -/
namespace Go.Proofs.YthhdackaopaojaaGreat
open Go.RowKit Go.Tg Go.Maps

theorem say_every (B : NegB) (C : NegC) (ok : Nat → Prop) (c : Came) (po pa : Value) (a : Int) (h0 : 0 ≤ a) (h1 : a ≤ 12) (hv : ∀ o ∈ c.p.o, o.v.size ≤ 100000) (hd : c.p.d.size ≤ 100000000) : SaySpec rejS B C ok c po pa a := by
  by_cases h : a = 11
  · subst h
    intro w S st X h hc
    exact say11 c po pa h hc hv hd
  · exact say_less rejS B C ok c po pa a h0 h1 h
theorem sayAll_every (B : NegB) (C : NegC) (c : Came) (po pa : Value) (s e : Int) (hv : ∀ o ∈ c.p.o, o.v.size ≤ 100000) (hd : c.p.d.size ≤ 100000000) : SayAll rejS B C c po pa (nextL s e) :=
  fun a ha ok => say_every B C ok c po pa a (nextL_bd s e a ha).1 (nextL_bd s e a ha).2 hv hd

/-- What a code reject says. -/
def code7S (rej : Pk → ByteArray) (C : NegC) (st : NSt) (p : Pk) : NSt × List Pk :=
  if p.d.size = 0 then (st, []) else evS rej C st (if 1 ≤ (p.d.data.getD 0 0).toNat ∧ (p.d.data.getD 0 0).toNat ≤ 7 then 14 else 13) ⟨true, p, 0, []⟩

section
variable (rej : Pk → ByteArray) {w : World} {S ok : Nat → Prop} {B : NegB} {C : NegC} {st : NSt} {X : NegX}
set_option maxHeartbeats 4000000 in
set_option maxRecDepth 100000 in
theorem take7 (p : Pk) (po : Value) (hcode : p.code = 7) (h : NegAt w S B C st X) (ho : Opts w ok po p.o) (hok : ∀ b, ok b → ¬ B.t b) (hlen : p.o.length ≤ 1000000) (hd : p.d.size ≤ 100000000) :
    Calls Tryz.prog 47 #[.pointer (some ⟨B.nb, 0, none⟩), pkV p po] w fun e w' => EvPost w w' S ok B C (code7S rej C st p) e := by
  obtain ⟨a1, k1, rfl, hc1, hc2⟩ := ho.form
  have hb1 : Below w.heap.size w (w.alloc (.cells #[.int .i64 p.code, .int .i64 p.id, (.slice a1 p.o.length k1), .string p.d] 38 (0, 0))) := (Below.refl _ _).alloc (Nat.le_refl _) _
  have HX := Lib.hid (And.intro (h.below hb1) (And.intro hb1 h))
  have HE := Lib.hid (fun ev (hw : (Lit.int .i64 ev).wf = true) (hm : ev ∈ [0, 1, 2, 3, 4, 5, 6, 8, 9, 10, 11, 13, 14]) => Event_at (ok := ok) rej p _ ev hw (h.below hb1) (ho.below hb1) hok hlen (fun pa => sayAll_next rej B C _ _ _ _ ev h.ss hm))
  unfold pkV at HE ⊢
  have HM := Lib.hid (show code7S rej C st p = if p.d.size = 0 then (st, []) else evS rej C st (if 1 ≤ (p.d.data.getD 0 0).toNat ∧ (p.d.data.getD 0 0).toNat ≤ 7 then 14 else 13) ⟨true, p, 0, []⟩ from rfl)
  generalize code7S rej C st p = R at HM ⊢
  obtain ⟨pc, pi, pl, pd⟩ := p
  simp only at hcode hd
  subst hcode
  clear h ho hok hb1 hlen
  by_cases h0 : pd.size = 0
  · have : pd = ⟨#[]⟩ := by
      apply ByteArray.ext
      exact Array.eq_empty_of_size_eq_zero h0
    subst this
    go_enter Tryz.func47, Tryz.ntmps47
    go_wp2_with (go_at_call 77; refine (nnone_at HX.out.1).mono ?_; rintro e w1 ⟨rfl, rfl⟩)
    go_ret
    rw [show R = (st, []) from HM.out]
    exact EvPost.none' ⟨X, (HX.out.2.2.below HX.out.2.1).mono (fun b h => .inl h)⟩ (Keep.of_below _ HX.out.2.1)
  · have hne : ¬ pd = ⟨#[]⟩ := fun h => h0 (by rw [h]; rfl)
    obtain ⟨b, hb⟩ : ∃ b : UInt8, b = pd.data.getD 0 0 := ⟨_, rfl⟩
    have hlt : 0 < pd.size := by omega
    have hix : ∀ h, pd[0]'h = b := fun h => by
      have h' : 0 < pd.data.size := h
      rw [hb, Array.getD_eq_getD_getElem?, Array.getElem?_eq_getElem h']; rfl
    have HM2 : Hid (R = evS rej C st (if 1 ≤ b.toNat ∧ b.toNat ≤ 7 then 14 else 13) ⟨true, ⟨7, pi, pl, pd⟩, 0, []⟩) := Lib.hid (by rw [HM.out, if_neg h0, hb])
    clear HM hb
    have hd1 : pd.toList.isEmpty = false := by rw [isE]; simp [h0]
    by_cases c1 : 1 ≤ b.toNat
    · have e1 : decide ((1 : Int) ≤ (b.toNat : Int)) = true := by simp; omega
      by_cases c2 : b.toNat ≤ 7
      · have e2 : decide ((b.toNat : Int) ≤ 7) = true := by simp; omega
        have HM3 : Hid (R = evS rej C st 14 ⟨true, ⟨7, pi, pl, pd⟩, 0, []⟩) := Lib.hid (by rw [HM2.out, if_pos ⟨c1, c2⟩])
        clear c1 c2 HM2 h0 hne
        go_enter Tryz.func47, Tryz.ntmps47
        go_wp2_with (first
          | (go_at_call 77; refine (nnone_at HX.out.1).mono ?_; rintro e w1 ⟨rfl, rfl⟩)
          | (go_at_call 45; refine (HE.out 14 (by decide) (by decide)).mono ?_; rintro e w5 ⟨v5, rfl, h5⟩; have H5 := Lib.hid h5; clear h5))
        go_ret
        rw [HM3.out]
        exact EvPost.of_box ⟨_, rfl, H5.out⟩ HX.out.2.1
      · have e2 : decide ((b.toNat : Int) ≤ 7) = false := by simp; omega
        have HM3 : Hid (R = evS rej C st 13 ⟨true, ⟨7, pi, pl, pd⟩, 0, []⟩) := Lib.hid (by rw [HM2.out, if_neg (fun h => c2 h.2)])
        clear c1 c2 HM2 h0 hne
        go_enter Tryz.func47, Tryz.ntmps47
        go_wp2_with (first
          | (go_at_call 77; refine (nnone_at HX.out.1).mono ?_; rintro e w1 ⟨rfl, rfl⟩)
          | (go_at_call 45; refine (HE.out 13 (by decide) (by decide)).mono ?_; rintro e w5 ⟨v5, rfl, h5⟩; have H5 := Lib.hid h5; clear h5))
        go_ret
        rw [HM3.out]
        exact EvPost.of_box ⟨_, rfl, H5.out⟩ HX.out.2.1
    · have e1 : decide ((1 : Int) ≤ (b.toNat : Int)) = false := by simp; omega
      have HM3 : Hid (R = evS rej C st 13 ⟨true, ⟨7, pi, pl, pd⟩, 0, []⟩) := Lib.hid (by rw [HM2.out, if_neg (fun h => c1 h.1)])
      clear c1 HM2 h0 hne
      go_enter Tryz.func47, Tryz.ntmps47
      go_wp2_with (first
        | (go_at_call 77; refine (nnone_at HX.out.1).mono ?_; rintro e w1 ⟨rfl, rfl⟩)
        | (go_at_call 45; refine (HE.out 13 (by decide) (by decide)).mono ?_; rintro e w5 ⟨v5, rfl, h5⟩; have H5 := Lib.hid h5; clear h5))
      go_ret
      rw [HM3.out]
      exact EvPost.of_box ⟨_, rfl, H5.out⟩ HX.out.2.1
end
end Go.Proofs.YthhdackaopaojaaGreat

/- Take, for every packet. -/
namespace Go.Proofs.YthhdackaopaojaaGreat
open Go.RowKit Go.Tg Go.Maps

def takeS (C : NegC) (st : NSt) (p : Pk) : NSt × List Pk :=
  if p.code = 1 then reqS rejS C st p (judgeS C.peer p.o)
  else if p.code = 2 then ackS rejS C st p
  else if p.code = 3 ∨ p.code = 4 then (if p.id = st.asked then (if p.code = 3 then namedS rejS C st p else refusedS rejS C st p) else (st, []))
  else if p.code = 5 then evS rejS C st 10 ⟨true, p, 0, []⟩
  else if p.code = 6 then evS rejS C st 11 ⟨true, p, 0, []⟩
  else if p.code = 7 then code7S rejS C st p
  else evS rejS C st 12 ⟨true, p, 0, []⟩

/-- A packet that can be taken. -/
structure PkOk (p : Pk) : Prop where
  len : p.o.length ≤ 1000000
  wf : ∀ o ∈ p.o, I64 o.t
  vs : ∀ o ∈ p.o, o.v.size ≤ 100000
  ds : p.d.size ≤ 100000000

section
variable {w : World} {S ok : Nat → Prop} {B : NegB} {C : NegC} {st : NSt} {jb : Nat}
end
end Go.Proofs.YthhdackaopaojaaGreat

/- Two negotiations that hear each other: packets in rows. -/
namespace Go.Proofs.YthhdackaopaojaaGreat
open Go.RowKit Go.Tg Go.Maps

/-- Packets are taken one behind the other. -/
def takeAll (C : NegC) (st : NSt) : List Pk → NSt × List Pk
  | [] => (st, [])
  | p :: l => ((takeAll C (takeS C st p).1 l).1, (takeS C st p).2 ++ (takeAll C (takeS C st p).1 l).2)
/-- Packets in a row of their own, between lo and hi. -/
structure Bag (w : World) (lo hi : Nat) (v : Value) (l : List Pk) : Prop where
  pk : PksAt w (fun b => lo ≤ b ∧ b < hi) lo v l
  own : ∀ k, v.ownBlock = some k → k < hi
/-- One negotiation (the second one) takes what stands in a bag; the answers come into a row of their own. -/
structure ExI (w0 w : World) (S S' : Nat → Prop) (B B' : NegB) (C C' : NegC) (st st' : NSt) (jb jb' : Nat) (m hp : Nat) (pv : Value) (ps : List Pk) (ho : Nat) (ov : Value) (os : List Pk) (lu : Nat) (uv : Value) (us : List Pk) : Prop where
  n1 : NegP w S B C st jb
  n2 : NegP w S' B' C' st' jb'
  pt : Parted w0 w S S' B B'
  bp : Bag w m hp pv ps
  bo : Bag w m ho ov os
  bu : PksAt w (fun b => m ≤ b ∧ uv.ownBlock ≠ some b) lu uv us
  tt : ∀ b, B.t b ∨ B'.t b → b < m
  hh : m ≤ lu ∧ hp ≤ lu ∧ ho ≤ lu ∧ lu ≤ w.heap.size
  nu : ∀ k, uv.ownBlock = some k → ¬ S k ∧ ¬ S' k
section
variable {w0 w w' : World} {S S' : Nat → Prop} {B B' : NegB} {C C' : NegC} {st st' r : NSt} {jb jb' : Nat} {m hp : Nat} {pv : Value} {ps : List Pk} {ho : Nat} {ov : Value} {os : List Pk} {lu : Nat} {uv uv' : Value} {us us' : List Pk}
end

/-- Two that hear each other: what the first one sent goes to the second one, and the other way. -/
structure Sim where
  x : NSt
  y : NSt
  p : List Pk
  q : List Pk
def xch (C C' : NegC) (s : Sim) : Sim := ⟨(takeAll C s.x s.q).1, (takeAll C' s.y s.p).1, (takeAll C s.x s.q).2, (takeAll C' s.y s.p).2⟩
def sims (C C' : NegC) (s : Sim) : Nat → Sim
  | 0 => s
  | n + 1 => xch C C' (sims C C' s n)
/-- What can be taken. -/
def Sim.Ok (s : Sim) : Prop := s.p.length ≤ 100 ∧ s.q.length ≤ 100 ∧ (∀ p ∈ s.p, PkOk p) ∧ ∀ p ∈ s.q, PkOk p
/-- Between two rounds. -/
def MtI (w0 w : World) (B B' : NegB) (C C' : NegC) (jb jb' m : Nat) (s : Sim) (pv qv : Value) : Prop :=
  ∃ S S' hp hq, NegP w S B C s.x jb ∧ NegP w S' B' C' s.y jb' ∧ Parted w0 w S S' B B' ∧ Bag w m hp pv s.p ∧ Bag w m hq qv s.q ∧ (∀ b, B.t b ∨ B'.t b → b < m) ∧ m ≤ w.heap.size ∧ hp ≤ w.heap.size ∧ hq ≤ w.heap.size
/-- While the second one takes (k packets are taken). -/
def Ex1 (w0 w : World) (B B' : NegB) (C C' : NegC) (st st' : NSt) (jb jb' m hp : Nat) (pv : Value) (ps : List Pk) (ho : Nat) (ov : Value) (os : List Pk) (lu : Nat) (uv : Value) (k : Nat) : Prop :=
  ∃ S S', ExI w0 w S S' B B' C C' st (takeAll C' st' (ps.take k)).1 jb jb' m hp pv ps ho ov os lu uv (takeAll C' st' (ps.take k)).2
section
variable {w0 w w' : World} {B B' : NegB} {C C' : NegC} {st st' r : NSt} {jb jb' : Nat} {m hp : Nat} {pv : Value} {ps : List Pk} {ho : Nat} {ov : Value} {os : List Pk} {lu : Nat} {uv uv' : Value}
end
section
variable {w0 w w' : World} {B B' : NegB} {C C' : NegC} {st st' r : NSt} {jb jb' : Nat} {m hp : Nat} {pv : Value} {ps : List Pk} {ho : Nat} {ov : Value} {os : List Pk} {lu : Nat} {uv uv' : Value}
end

end Go.Proofs.YthhdackaopaojaaGreat
