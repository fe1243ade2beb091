import Derived.Test.YthhdackaopaojaaGreatV62
import Derived.Test.YthhdackaopaojaaGreatV36
import Derived.Test.YthhdackaopaojaaGreatV57b
/- Take, for every packet. -/
namespace Go.Proofs.YthhdackaopaojaaGreat
open Go.RowKit Go.Tg Go.Maps

section
variable (rej : Pk → ByteArray) {w : World} {S ok : Nat → Prop} {B : NegB} {C : NegC} {st : NSt} {X : NegX}

set_option maxHeartbeats 8000000 in
set_option maxRecDepth 100000 in
theorem answered4_at (p : Pk) (po : Value) (hcode : p.code = 4) (h : NegAt w S B C st X) (ho : Opts w ok po p.o) (hok : ∀ b, ok b → ¬ B.t b) (hlen : p.o.length ≤ 1000000) :
    Calls Tryz.prog 81 #[.pointer (some ⟨B.nb, 0, none⟩), pkV p po] w fun e w' => EvPost w w' S ok B C (if p.id = st.asked then refusedS rej C st p else (st, [])) e := by
  obtain ⟨pc, pi, pl, pd⟩ := p
  simp only at hcode ho hlen
  subst hcode
  obtain ⟨a1, k1, rfl, hc1, hc2⟩ := ho.form
  have hb1 : Below w.heap.size w (w.alloc (.cells #[.int .i64 4, .int .i64 pi, (.slice a1 pl.length k1), .string pd] 38 (0, 0))) := (Below.refl _ _).alloc (Nat.le_refl _) _
  have hz := at1 w (.cells #[.int .i64 4, .int .i64 pi, (.slice a1 pl.length k1), .string pd] 38 (0, 0))
  have h1 := h.below hb1
  have g0 : (w.alloc (.cells #[.int .i64 4, .int .i64 pi, (.slice a1 pl.length k1), .string pd] 38 (0, 0))).cell? ⟨B.nb, 12, none⟩ = some (.int .u8 st.asked) := h1.cell 12
  have g1 : (w.alloc (.cells #[.int .i64 4, .int .i64 pi, (.slice a1 pl.length k1), .string pd] 38 (0, 0))).cell? ⟨w.heap.size, 1, none⟩ = some (.int .i64 pi) := cellOf hz 1 _ rfl
  have ew : wrap64 st.asked = st.asked := by have := h.ak; unfold wrap64; omega
  have hq : ∀ n, Below (w.alloc (.cells #[.int .i64 4, .int .i64 pi, (.slice a1 pl.length k1), .string pd] 38 (0, 0))).heap.size (w.alloc (.cells #[.int .i64 4, .int .i64 pi, (.slice a1 pl.length k1), .string pd] 38 (0, 0))) ((w.alloc (.cells #[.int .i64 4, .int .i64 pi, (.slice a1 pl.length k1), .string pd] 38 (0, 0))).drewN n) := fun n => ⟨rfl, rfl, rfl, Nat.le_refl _, fun _ _ => rfl⟩
  have HR := Lib.hid (fun n => refused_at (ok := ok) rej ⟨4, pi, pl, pd⟩ (.slice a1 pl.length k1) (h1.below (hq n)) ((ho.below hb1).below (hq n)) hok hlen)
  unfold pkV at HR
  have H := Lib.hid (And.intro h (And.intro h1 (And.intro ho (And.intro hb1 (And.intro hok hz)))))
  unfold pkV
  clear h ho hok hb1 hz h1 hq
  by_cases hid : pi = st.asked
  · subst hid
    go_enter Tryz.func81, Tryz.ntmps81
    go_wp2_with fail
    go_quiet (fail)
    go_wp2_with (go_at_call 100; refine (HR.out _).mono ?_; rintro e w2 ⟨v2, rfl, h2⟩)
    go_ret
    exact EvPost.of_box ⟨_, rfl, h2⟩ (belowN H.out.2.2.2.1 _)
  · have HID := Lib.hid hid
    go_enter Tryz.func81, Tryz.ntmps81
    go_wp2_with fail
    go_quiet (fail)
    go_wp2_with fail
    go_ret
    exact EvPost.none' ⟨X, (H.out.1.below (belowN H.out.2.2.2.1 nq)).mono (fun b h => .inl h)⟩ (Keep.of_below _ (belowN H.out.2.2.2.1 nq))

set_option maxHeartbeats 8000000 in
set_option maxRecDepth 100000 in
theorem answered3_at (p : Pk) (po : Value) (hcode : p.code = 3) (h : NegAt w S B C st X) (ho : Opts w ok po p.o) (hok : ∀ b, ok b → ¬ B.t b) (hlen : p.o.length ≤ 1000000) (hv : ∀ o ∈ p.o, o.v.size ≤ 100000) :
    Calls Tryz.prog 81 #[.pointer (some ⟨B.nb, 0, none⟩), pkV p po] w fun e w' => EvPost w w' S ok B C (if p.id = st.asked then namedS rej C st p else (st, [])) e := by
  obtain ⟨pc, pi, pl, pd⟩ := p
  simp only at hcode ho hlen hv
  subst hcode
  obtain ⟨a1, k1, rfl, hc1, hc2⟩ := ho.form
  have hb1 : Below w.heap.size w (w.alloc (.cells #[.int .i64 3, .int .i64 pi, (.slice a1 pl.length k1), .string pd] 38 (0, 0))) := (Below.refl _ _).alloc (Nat.le_refl _) _
  have hz := at1 w (.cells #[.int .i64 3, .int .i64 pi, (.slice a1 pl.length k1), .string pd] 38 (0, 0))
  have h1 := h.below hb1
  have g0 : (w.alloc (.cells #[.int .i64 3, .int .i64 pi, (.slice a1 pl.length k1), .string pd] 38 (0, 0))).cell? ⟨B.nb, 12, none⟩ = some (.int .u8 st.asked) := h1.cell 12
  have g1 : (w.alloc (.cells #[.int .i64 3, .int .i64 pi, (.slice a1 pl.length k1), .string pd] 38 (0, 0))).cell? ⟨w.heap.size, 1, none⟩ = some (.int .i64 pi) := cellOf hz 1 _ rfl
  have ew : wrap64 st.asked = st.asked := by have := h.ak; unfold wrap64; omega
  have hq : ∀ n, Below (w.alloc (.cells #[.int .i64 3, .int .i64 pi, (.slice a1 pl.length k1), .string pd] 38 (0, 0))).heap.size (w.alloc (.cells #[.int .i64 3, .int .i64 pi, (.slice a1 pl.length k1), .string pd] 38 (0, 0))) ((w.alloc (.cells #[.int .i64 3, .int .i64 pi, (.slice a1 pl.length k1), .string pd] 38 (0, 0))).drewN n) := fun n => ⟨rfl, rfl, rfl, Nat.le_refl _, fun _ _ => rfl⟩
  have HR := Lib.hid (fun n => named_at (ok := ok) rej ⟨3, pi, pl, pd⟩ (.slice a1 pl.length k1) (h1.below (hq n)) ((ho.below hb1).below (hq n)) hok hlen hv)
  unfold pkV at HR
  have H := Lib.hid (And.intro h (And.intro h1 (And.intro ho (And.intro hb1 (And.intro hok hz)))))
  unfold pkV
  clear h ho hok hb1 hz h1 hq hv
  by_cases hid : pi = st.asked
  · subst hid
    go_enter Tryz.func81, Tryz.ntmps81
    go_wp2_with fail
    go_quiet (fail)
    go_wp2_with (go_at_call 101; refine (HR.out _).mono ?_; rintro e w2 ⟨v2, rfl, h2⟩)
    go_ret
    exact EvPost.of_box ⟨_, rfl, h2⟩ (belowN H.out.2.2.2.1 _)
  · have HID := Lib.hid hid
    go_enter Tryz.func81, Tryz.ntmps81
    go_wp2_with fail
    go_quiet (fail)
    go_wp2_with fail
    go_ret
    exact EvPost.none' ⟨X, (H.out.1.below (belowN H.out.2.2.2.1 nq)).mono (fun b h => .inl h)⟩ (Keep.of_below _ (belowN H.out.2.2.2.1 nq))

set_option maxHeartbeats 4000000 in
set_option maxRecDepth 100000 in
theorem take34 (p : Pk) (po : Value) (hcode : p.code = 3 ∨ p.code = 4) (h : NegAt w S B C st X) (ho : Opts w ok po p.o) (hok : ∀ b, ok b → ¬ B.t b) (hlen : p.o.length ≤ 1000000) (hv : ∀ o ∈ p.o, o.v.size ≤ 100000) :
    Calls Tryz.prog 47 #[.pointer (some ⟨B.nb, 0, none⟩), pkV p po] w fun e w' => EvPost w w' S ok B C (if p.id = st.asked then (if p.code = 3 then namedS rej C st p else refusedS rej C st p) else (st, [])) e := by
  obtain ⟨a1, k1, rfl, hc1, hc2⟩ := ho.form
  have hb1 : Below w.heap.size w (w.alloc (.cells #[.int .i64 p.code, .int .i64 p.id, (.slice a1 p.o.length k1), .string p.d] 38 (0, 0))) := (Below.refl _ _).alloc (Nat.le_refl _) _
  have HX := Lib.hid (And.intro (h.below hb1) hb1)
  have hC : Calls Tryz.prog 81 #[.pointer (some ⟨B.nb, 0, none⟩), pkV p (.slice a1 p.o.length k1)] (w.alloc (.cells #[.int .i64 p.code, .int .i64 p.id, (.slice a1 p.o.length k1), .string p.d] 38 (0, 0))) fun e w' => EvPost (w.alloc (.cells #[.int .i64 p.code, .int .i64 p.id, (.slice a1 p.o.length k1), .string p.d] 38 (0, 0))) w' S ok B C (if p.id = st.asked then (if p.code = 3 then namedS rej C st p else refusedS rej C st p) else (st, [])) e := by
    rcases hcode with hc | hc
    · have := answered3_at rej p _ hc (h.below hb1) (ho.below hb1) hok hlen hv
      rwa [← if_pos (c := p.code = 3) (t := namedS rej C st p) (e := refusedS rej C st p) hc] at this
    · have := answered4_at rej p _ hc (h.below hb1) (ho.below hb1) hok hlen
      rwa [← if_neg (c := p.code = 3) (t := namedS rej C st p) (e := refusedS rej C st p) (by omega)] at this
  have HC := Lib.hid hC
  generalize (if p.id = st.asked then (if p.code = 3 then namedS rej C st p else refusedS rej C st p) else (st, [])) = R at HC ⊢
  unfold pkV at HC ⊢
  clear h ho hok hb1 hC hv
  obtain ⟨pc, pi, pl, pd⟩ := p
  simp only at hcode
  rcases hcode with rfl | rfl
  all_goals
    go_enter Tryz.func47, Tryz.ntmps47
    go_wp2_with (first
      | (go_at_call 77; refine (nnone_at HX.out.1).mono ?_; rintro e w1 ⟨rfl, rfl⟩)
      | (go_at_call 81; refine HC.out.mono ?_; rintro e w5 ⟨v5, rfl, h5⟩))
    go_ret
    exact EvPost.of_box ⟨_, rfl, h5⟩ HX.out.2
end
end Go.Proofs.YthhdackaopaojaaGreat

/- Take, for every packet: its model. -/
namespace Go.Proofs.YthhdackaopaojaaGreat
open Go.RowKit Go.Tg Go.Maps

theorem say_every (B : NegB) (C : NegC) (ok : Nat → Prop) (c : Came) (po pa : Value) (a : Int) (h0 : 0 ≤ a) (h1 : a ≤ 12) (hv : ∀ o ∈ c.p.o, o.v.size ≤ 100000) (hd : c.p.d.size ≤ 100000000) : SaySpec rejS B C ok c po pa a := by
  by_cases h : a = 11
  · subst h
    intro w S st X h hc
    exact say11 c po pa h hc hv hd
  · exact say_less rejS B C ok c po pa a h0 h1 h
theorem sayAll_every (B : NegB) (C : NegC) (c : Came) (po pa : Value) (s e : Int) (hv : ∀ o ∈ c.p.o, o.v.size ≤ 100000) (hd : c.p.d.size ≤ 100000000) : SayAll rejS B C c po pa (nextL s e) :=
  fun a ha ok => say_every B C ok c po pa a (nextL_bd s e a ha).1 (nextL_bd s e a ha).2 hv hd

/-- What a code reject says. -/
def code7S (rej : Pk → ByteArray) (C : NegC) (st : NSt) (p : Pk) : NSt × List Pk :=
  if p.d.size = 0 then (st, []) else evS rej C st (if 1 ≤ (p.d.data.getD 0 0).toNat ∧ (p.d.data.getD 0 0).toNat ≤ 7 then 14 else 13) ⟨true, p, 0, []⟩

section
variable (rej : Pk → ByteArray) {w : World} {S ok : Nat → Prop} {B : NegB} {C : NegC} {st : NSt} {X : NegX}
set_option maxHeartbeats 4000000 in
set_option maxRecDepth 100000 in
theorem take7 (p : Pk) (po : Value) (hcode : p.code = 7) (h : NegAt w S B C st X) (ho : Opts w ok po p.o) (hok : ∀ b, ok b → ¬ B.t b) (hlen : p.o.length ≤ 1000000) (hd : p.d.size ≤ 100000000) :
    Calls Tryz.prog 47 #[.pointer (some ⟨B.nb, 0, none⟩), pkV p po] w fun e w' => EvPost w w' S ok B C (code7S rej C st p) e := by
  obtain ⟨a1, k1, rfl, hc1, hc2⟩ := ho.form
  have hb1 : Below w.heap.size w (w.alloc (.cells #[.int .i64 p.code, .int .i64 p.id, (.slice a1 p.o.length k1), .string p.d] 38 (0, 0))) := (Below.refl _ _).alloc (Nat.le_refl _) _
  have HX := Lib.hid (And.intro (h.below hb1) (And.intro hb1 h))
  have HE := Lib.hid (fun ev (hw : (Lit.int .i64 ev).wf = true) (hm : ev ∈ [0, 1, 2, 3, 4, 5, 6, 8, 9, 10, 11, 13, 14]) => Event_at (ok := ok) rej p _ ev hw (h.below hb1) (ho.below hb1) hok hlen (fun pa => sayAll_next rej B C _ _ _ _ ev h.ss hm))
  unfold pkV at HE ⊢
  have HM := Lib.hid (show code7S rej C st p = if p.d.size = 0 then (st, []) else evS rej C st (if 1 ≤ (p.d.data.getD 0 0).toNat ∧ (p.d.data.getD 0 0).toNat ≤ 7 then 14 else 13) ⟨true, p, 0, []⟩ from rfl)
  generalize code7S rej C st p = R at HM ⊢
  obtain ⟨pc, pi, pl, pd⟩ := p
  simp only at hcode hd
  subst hcode
  clear h ho hok hb1 hlen
  by_cases h0 : pd.size = 0
  · have : pd = ⟨#[]⟩ := by
      apply ByteArray.ext
      exact Array.eq_empty_of_size_eq_zero h0
    subst this
    go_enter Tryz.func47, Tryz.ntmps47
    go_wp2_with (go_at_call 77; refine (nnone_at HX.out.1).mono ?_; rintro e w1 ⟨rfl, rfl⟩)
    go_ret
    rw [show R = (st, []) from HM.out]
    exact EvPost.none' ⟨X, (HX.out.2.2.below HX.out.2.1).mono (fun b h => .inl h)⟩ (Keep.of_below _ HX.out.2.1)
  · have hne : ¬ pd = ⟨#[]⟩ := fun h => h0 (by rw [h]; rfl)
    obtain ⟨b, hb⟩ : ∃ b : UInt8, b = pd.data.getD 0 0 := ⟨_, rfl⟩
    have hlt : 0 < pd.size := by omega
    have hix : ∀ h, pd[0]'h = b := fun h => by
      have h' : 0 < pd.data.size := h
      rw [hb, Array.getD_eq_getD_getElem?, Array.getElem?_eq_getElem h']; rfl
    have HM2 : Hid (R = evS rej C st (if 1 ≤ b.toNat ∧ b.toNat ≤ 7 then 14 else 13) ⟨true, ⟨7, pi, pl, pd⟩, 0, []⟩) := Lib.hid (by rw [HM.out, if_neg h0, hb])
    clear HM hb
    have hd1 : pd.toList.isEmpty = false := by rw [isE]; simp [h0]
    by_cases c1 : 1 ≤ b.toNat
    · have e1 : decide ((1 : Int) ≤ (b.toNat : Int)) = true := by simp; omega
      by_cases c2 : b.toNat ≤ 7
      · have e2 : decide ((b.toNat : Int) ≤ 7) = true := by simp; omega
        have HM3 : Hid (R = evS rej C st 14 ⟨true, ⟨7, pi, pl, pd⟩, 0, []⟩) := Lib.hid (by rw [HM2.out, if_pos ⟨c1, c2⟩])
        clear c1 c2 HM2 h0 hne
        go_enter Tryz.func47, Tryz.ntmps47
        go_wp2_with (first
          | (go_at_call 77; refine (nnone_at HX.out.1).mono ?_; rintro e w1 ⟨rfl, rfl⟩)
          | (go_at_call 45; refine (HE.out 14 (by decide) (by decide)).mono ?_; rintro e w5 ⟨v5, rfl, h5⟩; have H5 := Lib.hid h5; clear h5))
        go_ret
        rw [HM3.out]
        exact EvPost.of_box ⟨_, rfl, H5.out⟩ HX.out.2.1
      · have e2 : decide ((b.toNat : Int) ≤ 7) = false := by simp; omega
        have HM3 : Hid (R = evS rej C st 13 ⟨true, ⟨7, pi, pl, pd⟩, 0, []⟩) := Lib.hid (by rw [HM2.out, if_neg (fun h => c2 h.2)])
        clear c1 c2 HM2 h0 hne
        go_enter Tryz.func47, Tryz.ntmps47
        go_wp2_with (first
          | (go_at_call 77; refine (nnone_at HX.out.1).mono ?_; rintro e w1 ⟨rfl, rfl⟩)
          | (go_at_call 45; refine (HE.out 13 (by decide) (by decide)).mono ?_; rintro e w5 ⟨v5, rfl, h5⟩; have H5 := Lib.hid h5; clear h5))
        go_ret
        rw [HM3.out]
        exact EvPost.of_box ⟨_, rfl, H5.out⟩ HX.out.2.1
    · have e1 : decide ((1 : Int) ≤ (b.toNat : Int)) = false := by simp; omega
      have HM3 : Hid (R = evS rej C st 13 ⟨true, ⟨7, pi, pl, pd⟩, 0, []⟩) := Lib.hid (by rw [HM2.out, if_neg (fun h => c1 h.1)])
      clear c1 HM2 h0 hne
      go_enter Tryz.func47, Tryz.ntmps47
      go_wp2_with (first
        | (go_at_call 77; refine (nnone_at HX.out.1).mono ?_; rintro e w1 ⟨rfl, rfl⟩)
        | (go_at_call 45; refine (HE.out 13 (by decide) (by decide)).mono ?_; rintro e w5 ⟨v5, rfl, h5⟩; have H5 := Lib.hid h5; clear h5))
      go_ret
      rw [HM3.out]
      exact EvPost.of_box ⟨_, rfl, H5.out⟩ HX.out.2.1
end
end Go.Proofs.YthhdackaopaojaaGreat

/- Take, for every packet. -/
namespace Go.Proofs.YthhdackaopaojaaGreat
open Go.RowKit Go.Tg Go.Maps

def takeS (C : NegC) (st : NSt) (p : Pk) : NSt × List Pk :=
  if p.code = 1 then reqS rejS C st p (judgeS C.peer p.o)
  else if p.code = 2 then ackS rejS C st p
  else if p.code = 3 ∨ p.code = 4 then (if p.id = st.asked then (if p.code = 3 then namedS rejS C st p else refusedS rejS C st p) else (st, []))
  else if p.code = 5 then evS rejS C st 10 ⟨true, p, 0, []⟩
  else if p.code = 6 then evS rejS C st 11 ⟨true, p, 0, []⟩
  else if p.code = 7 then code7S rejS C st p
  else evS rejS C st 12 ⟨true, p, 0, []⟩

/-- A packet that can be taken. -/
structure PkOk (p : Pk) : Prop where
  len : p.o.length ≤ 1000000
  wf : ∀ o ∈ p.o, I64 o.t
  vs : ∀ o ∈ p.o, o.v.size ≤ 100000
  ds : p.d.size ≤ 100000000

section
variable {w : World} {S ok : Nat → Prop} {B : NegB} {C : NegC} {st : NSt} {jb : Nat}
theorem TakeP (p : Pk) (po : Value) (hp : PkOk p) (h : NegP w S B C st jb) (ho : Opts w ok po p.o) (hok : ∀ b, ok b → ¬ B.t b) :
    Calls Tryz.prog 47 #[.pointer (some ⟨B.nb, 0, none⟩), pkV p po] w fun e w' => EvP w w' S ok B C jb (takeS C st p) e := by
  unfold takeS
  by_cases h1 : p.code = 1
  · rw [if_pos h1]
    exact take1P rejS p po h1 h ho hok hp.len hp.wf hp.vs (fun _ pa => sayAll_every _ _ _ _ _ _ _ hp.vs hp.ds)
  · rw [if_neg h1]
    by_cases h2 : p.code = 2
    · rw [if_pos h2]
      exact take2P rejS p po h2 h ho hok hp.len
    · rw [if_neg h2]
      by_cases h3 : p.code = 3 ∨ p.code = 4
      · rw [if_pos h3]
        obtain ⟨X, hX⟩ := h.1
        exact (take34 rejS p po h3 hX ho hok hp.len hp.vs).mono (fun e w' he => he.p h)
      · rw [if_neg h3]
        by_cases h5 : p.code = 5
        · rw [if_pos h5]
          exact take5P rejS p po h5 h ho hok hp.len
        · rw [if_neg h5]
          by_cases h6 : p.code = 6
          · rw [if_pos h6]
            exact take6P rejS p po h6 h ho hok hp.len
          · rw [if_neg h6]
            by_cases h7 : p.code = 7
            · rw [if_pos h7]
              obtain ⟨X, hX⟩ := h.1
              exact (take7 rejS p po h7 hX ho hok hp.len hp.ds).mono (fun e w' he => he.p h)
            · rw [if_neg h7]
              exact takeUP rejS p po (by omega) h ho hok hp.len (fun pa => sayAll_every _ _ _ _ _ _ _ hp.vs hp.ds)
end
end Go.Proofs.YthhdackaopaojaaGreat

/- Two negotiations that hear each other: packets in rows. -/
namespace Go.Proofs.YthhdackaopaojaaGreat
open Go.RowKit Go.Tg Go.Maps

theorem nextL_len (s e : Int) : (nextL s e).length ≤ 20 := by
  unfold nextL
  cases hf : nextF s e with
  | none => exact Nat.zero_le _
  | some y => exact next_all (fun y => y.2.length ≤ 20) (by decide) (by decide) s e y hf
theorem evS_len (rej : Pk → ByteArray) (C : NegC) (st : NSt) (e : Int) (c : Came) : (evS rej C st e c).2.length ≤ 20 := by
  unfold evS toldS
  exact Nat.le_trans (sayL_len _ _ _ _ _) (nextL_len _ _)
theorem takeS_len (C : NegC) (st : NSt) (p : Pk) : (takeS C st p).2.length ≤ 20 := by
  unfold takeS
  split
  · unfold reqS; split <;> exact evS_len _ _ _ _ _
  · split
    · unfold ackS
      split
      · split
        · exact evS_len _ _ _ _ _
        · exact Nat.zero_le _
      · exact Nat.zero_le _
    · split
      · split
        · split
          · exact evS_len _ _ _ _ _
          · unfold refusedS
            split
            · split <;> exact evS_len _ _ _ _ _
            · exact Nat.zero_le _
        · exact Nat.zero_le _
      · split
        · exact evS_len _ _ _ _ _
        · split
          · exact evS_len _ _ _ _ _
          · split
            · unfold code7S
              split
              · exact Nat.zero_le _
              · exact evS_len _ _ _ _ _
            · exact evS_len _ _ _ _ _

/-- Packets are taken one behind the other. -/
def takeAll (C : NegC) (st : NSt) : List Pk → NSt × List Pk
  | [] => (st, [])
  | p :: l => ((takeAll C (takeS C st p).1 l).1, (takeS C st p).2 ++ (takeAll C (takeS C st p).1 l).2)
theorem takeAll_snoc (C : NegC) : ∀ (l : List Pk) (st : NSt) (p : Pk), takeAll C st (l ++ [p]) = ((takeS C (takeAll C st l).1 p).1, (takeAll C st l).2 ++ (takeS C (takeAll C st l).1 p).2)
  | [], st, p => by simp [takeAll]
  | q :: l, st, p => by simp [takeAll, takeAll_snoc C l]
theorem takeAll_len (C : NegC) : ∀ (l : List Pk) (st : NSt), (takeAll C st l).2.length ≤ 20 * l.length
  | [], _ => Nat.zero_le _
  | p :: l, st => by
    have h1 := takeS_len C st p
    have h2 := takeAll_len C l (takeS C st p).1
    simp only [takeAll, List.length_append, List.length_cons]
    omega

/-- Packets in a row of their own, between lo and hi. -/
structure Bag (w : World) (lo hi : Nat) (v : Value) (l : List Pk) : Prop where
  pk : PksAt w (fun b => lo ≤ b ∧ b < hi) lo v l
  own : ∀ k, v.ownBlock = some k → k < hi
theorem Bag.of {w : World} {lo : Nat} {v : Value} {l : List Pk} (h : PksAt w (fun b => lo ≤ b) lo v l) : Bag w lo w.heap.size v l := by
  obtain ⟨L, h1, h2, h3⟩ := h
  exact ⟨⟨L, h1, h2, fun p hp => Rec.old (h3 p hp)⟩, fun k hk => (h2.lt k hk).1⟩
theorem Bag.keep {w w' : World} {lo hi : Nat} {v : Value} {l : List Pk} {T : Nat → Prop} (h : Bag w lo hi v l) (hk : Keep T w w') (hT : ∀ b, lo ≤ b → b < hi → ¬ T b) : Bag w' lo hi v l := by
  obtain ⟨L, h1, h2, h3⟩ := h.pk
  exact ⟨⟨L, h1, h2.keep hk (fun k hk' => hT k (h2.lt k hk').2 (h.own k hk')), h3.keep hk (fun b _ hb => hT b hb.1 hb.2)⟩, h.own⟩
theorem Bag.at {w : World} {lo hi : Nat} {sa : Option Addr} {n c : Nat} {l : List Pk} (h : Bag w lo hi (.slice sa n c) l) (k : Nat) (hk : k < l.length) (hl : l.length ≤ 1000000) :
    n = l.length ∧ n ≤ c ∧ c ≤ maxLen ∧ ∃ b off po, sa = some ⟨b, off, none⟩ ∧ w.cell? ⟨b, off + k * 4, none⟩ = some (.int .i64 l[k].code) ∧ w.cell? ⟨b, off + k * 4 + 1, none⟩ = some (.int .i64 l[k].id) ∧ w.cell? ⟨b, off + k * 4 + 2, none⟩ = some po ∧ w.cell? ⟨b, off + k * 4 + 3, none⟩ = some (.string l[k].d) ∧
      Opts w (fun b => lo ≤ b ∧ b < hi) po l[k].o := by
  obtain ⟨L, h1, h2, h3⟩ := h.pk
  have hL : L.length = l.length := by rw [← h1, List.length_map]
  have hr : Rec 4 w (fun b => lo ≤ b) (.slice sa n c) (pkL L) := Rec.of_owns h2 (pkL_len L).symm (pkL_k L) (by unfold maxLen; omega)
  obtain ⟨b, off, e, hb, -, hn, hnc, hcm, hc⟩ := hr.at k (by rw [pkL_len]; omega)
  have ek : (pkL L)[k]'(by rw [pkL_len]; omega) = pkCells (L[k]'(by omega)) := by simp [pkL]
  have e1 : l[k] = (L[k]'(by omega)).1 := by subst h1; simp
  have g := fun j u (h : (pkCells (L[k]'(by omega)))[j]? = some u) => hc j u (by rw [ek]; exact h)
  rw [pkL_len, hL] at hn
  rw [e1]
  exact ⟨hn, hnc, hcm, b, off, (L[k]'(by omega)).2, e, g 0 _ rfl, g 1 _ rfl, g 2 _ rfl, g 3 _ rfl, h3 _ (List.getElem_mem _)⟩

theorem NegP.old {w : World} {S : Nat → Prop} {B : NegB} {C : NegC} {st : NSt} {jb : Nat} (h : NegP w S B C st jb) : NegP w (fun b => S b ∧ b < w.heap.size) B C st jb := by
  obtain ⟨⟨X, hX⟩, h1, h2, h3, h4⟩ := h
  exact ⟨⟨X, hX.old⟩, h1, h2, ⟨h3, h1.lt⟩, h4⟩
theorem PksAt.loosen {w : World} {ok ok' : Nat → Prop} {base base' : Nat} {v : Value} {l : List Pk} (h : PksAt w ok base v l) (hb : base' ≤ base) (ho : ∀ b, b < w.heap.size → ok b → ok' b) : PksAt w ok' base' v l := by
  obtain ⟨L, e, h2, h3⟩ := h
  exact ⟨L, e, h2.base hb, fun p hp => Rec.mono (Rec.old (h3 p hp)) (fun b h => ho b h.2 h.1)⟩
theorem Bag.mk' {w : World} {m lu : Nat} {v : Value} {l : List Pk} {ok : Nat → Prop} (h : PksAt w ok lu v l) (hm : m ≤ lu) (ho : ∀ b, b < w.heap.size → ok b → m ≤ b) : Bag w m w.heap.size v l := by
  obtain ⟨L, e, h2, h3⟩ := h
  exact ⟨⟨L, e, h2.base hm, fun p hp => Rec.mono (Rec.old (h3 p hp)) (fun b h => ⟨ho b h.2 h.1, h.2⟩)⟩, fun k hk => (h2.lt k hk).1⟩

/-- One negotiation (the second one) takes what stands in a bag; the answers come into a row of their own. -/
structure ExI (w0 w : World) (S S' : Nat → Prop) (B B' : NegB) (C C' : NegC) (st st' : NSt) (jb jb' : Nat) (m hp : Nat) (pv : Value) (ps : List Pk) (ho : Nat) (ov : Value) (os : List Pk) (lu : Nat) (uv : Value) (us : List Pk) : Prop where
  n1 : NegP w S B C st jb
  n2 : NegP w S' B' C' st' jb'
  pt : Parted w0 w S S' B B'
  bp : Bag w m hp pv ps
  bo : Bag w m ho ov os
  bu : PksAt w (fun b => m ≤ b ∧ uv.ownBlock ≠ some b) lu uv us
  tt : ∀ b, B.t b ∨ B'.t b → b < m
  hh : m ≤ lu ∧ hp ≤ lu ∧ ho ≤ lu ∧ lu ≤ w.heap.size
  nu : ∀ k, uv.ownBlock = some k → ¬ S k ∧ ¬ S' k
section
variable {w0 w w' : World} {S S' : Nat → Prop} {B B' : NegB} {C C' : NegC} {st st' r : NSt} {jb jb' : Nat} {m hp : Nat} {pv : Value} {ps : List Pk} {ho : Nat} {ov : Value} {os : List Pk} {lu : Nat} {uv uv' : Value} {us us' : List Pk}
theorem ExI.start (n1 : NegP w S B C st jb) (n2 : NegP w S' B' C' st' jb') (pt : Parted w0 w S S' B B') (bp : Bag w m hp pv ps) (bo : Bag w m ho ov os) (tt : ∀ b, B.t b ∨ B'.t b → b < m) (hh : m ≤ w.heap.size ∧ hp ≤ w.heap.size ∧ ho ≤ w.heap.size) :
    ExI w0 w S S' B B' C C' st st' jb jb' m hp pv ps ho ov os w.heap.size (.slice none 0 0) [] :=
  ⟨n1, n2, pt, bp, bo, PksAt.nil _ _ _, tt, ⟨hh.1, hh.2.1, hh.2.2, Nat.le_refl _⟩, fun k hk => by cases hk⟩
theorem ExI.own (h : ExI w0 w S S' B B' C C' st st' jb jb' m hp pv ps ho ov os lu uv us) {k : Nat} (hk : uv.ownBlock = some k) : lu ≤ k ∧ k < w.heap.size := by
  obtain ⟨L, _, h2, _⟩ := h.bu
  exact ⟨(h2.lt k hk).2, (h2.lt k hk).1⟩
theorem ExI.taken (h : ExI w0 w S S' B B' C C' st st' jb jb' m hp pv ps ho ov os lu uv us) (h' : NegP w' (Grow S' w) B' C' r jb') (hk : Keep B'.t w w') :
    ExI w0 w' S (fun b => Grow S' w b) B B' C C' st r jb jb' m hp pv ps ho ov os lu uv us where
  n1 := h.n1.keep hk (fun b _ hb => h.pt.d1 b hb)
  n2 := h'
  pt := ⟨h.pt.d1, fun b hb ht => hb.elim (fun hb => h.pt.d2 b hb ht) (fun hb => by have := h.n1.tlt ht; omega), h.pt.n1, fun b hb => hb.elim (h.pt.n2 b) (fun hb => Nat.le_trans h.pt.bl.size hb), h.pt.bl.trans (hk.below h.pt.bl.size (fun b hb ht => by have := h.pt.n2 b (h.n2.ts ht); omega))⟩
  bp := h.bp.keep hk (fun b h1 _ ht => by have := h.tt b (.inr ht); omega)
  bo := h.bo.keep hk (fun b h1 _ ht => by have := h.tt b (.inr ht); omega)
  bu := h.bu.keep hk (fun b _ h1 ht => by have := h.tt b (.inr ht); have := h.hh.1; rcases h1 with h1 | h1 <;> omega)
  tt := h.tt
  hh := ⟨h.hh.1, h.hh.2.1, h.hh.2.2.1, Nat.le_trans h.hh.2.2.2 hk.size⟩
  nu := fun k hk' => ⟨(h.nu k hk').1, fun hg => hg.elim (h.nu k hk').2 (fun hg => by have := h.own hk'; omega)⟩
theorem ExI.app (h : ExI w0 w S S' B B' C C' st st' jb jb' m hp pv ps ho ov os lu uv us) (hk : Keep (fun k => uv.ownBlock = some k) w w') (hr : PksAt w' (fun b => m ≤ b ∧ uv'.ownBlock ≠ some b) lu uv' us') (ho' : uv'.ownBlock = uv.ownBlock ∨ uv'.ownBlock = some w.heap.size) :
    ExI w0 w' (fun b => S b ∧ b < w.heap.size) (fun b => S' b ∧ b < w.heap.size) B B' C C' st st' jb jb' m hp pv ps ho ov os lu uv' us' := by
  have hu : ∀ k, uv.ownBlock = some k → lu ≤ k := fun k hk' => (h.own hk').1
  exact {
    n1 := h.n1.old.keep hk (fun b _ hb he => (h.nu b he).1 hb.1)
    n2 := h.n2.old.keep hk (fun b _ hb he => (h.nu b he).2 hb.1)
    pt := ⟨fun b hb => h.pt.d1 b hb.1, fun b hb => h.pt.d2 b hb.1, fun b hb => h.pt.n1 b hb.1, fun b hb => h.pt.n2 b hb.1, h.pt.bl.trans (hk.below h.pt.bl.size (fun b hb he => by
      have h1 := hu b he
      have h2 := h.tt B.nb (.inl (.inl rfl))
      have h3 := h.pt.n1 B.nb (h.n1.ts (.inl rfl))
      have h4 := h.hh.1
      omega))⟩
    bp := h.bp.keep hk (fun b _ h2 he => by have := hu b he; have := h.hh.2.1; omega)
    bo := h.bo.keep hk (fun b _ h2 he => by have := hu b he; have := h.hh.2.2.1; omega)
    bu := hr
    tt := h.tt
    hh := ⟨h.hh.1, h.hh.2.1, h.hh.2.2.1, Nat.le_trans h.hh.2.2.2 hk.size⟩
    nu := fun k hk' => by
      rcases ho' with ho' | ho'
      · have := h.nu k (by rw [← ho']; exact hk')
        exact ⟨fun hs => this.1 hs.1, fun hs => this.2 hs.1⟩
      · rw [ho'] at hk'; cases hk'
        exact ⟨fun hs => Nat.lt_irrefl _ hs.2, fun hs => Nat.lt_irrefl _ hs.2⟩ }
/-- One packet is taken. -/
theorem ExI.take (h : ExI w0 w S S' B B' C C' st st' jb jb' m hp pv ps ho ov os lu uv us) (p : Pk) (po : Value) (hok : PkOk p) (hpo : Opts w (fun b => m ≤ b ∧ b < hp) po p.o) :
    Calls Tryz.prog 47 #[.pointer (some ⟨B'.nb, 0, none⟩), pkV p po] w fun e w' => ∃ v, e = .returned v ∧ (∃ L', L'.map Prod.fst = (takeS C' st' p).2 ∧ PRow w' w.heap.size v L' ∧ (∀ q ∈ L', q.2.oneCell' = true) ∧ POpts w' (fun b => m ≤ b ∧ uv.ownBlock ≠ some b) L') ∧ lu ≤ w'.heap.size ∧ ∃ S'', ExI w0 w' S S'' B B' C C' st (takeS C' st' p).1 jb jb' m hp pv ps ho ov os lu uv us := by
  refine (TakeP p po hok h.n2 hpo (fun b hb ht => by have := h.tt b (.inr ht); omega)).mono ?_
  rintro e w' ⟨v, rfl, ⟨L', hL, hr, hopt⟩, hn, hk⟩
  refine ⟨v, rfl, ⟨L', hL, hr, fun q hq => ?_, fun q hq => Rec.mono (hopt q hq) (fun b hb => ?_)⟩, Nat.le_trans h.hh.2.2.2 hk.size, _, h.taken hn hk⟩
  · obtain ⟨sa, sc, e, _, _⟩ := Opts.form (hopt q hq); rw [e]; rfl
  · rcases hb with hb | hb
    · exact ⟨hb.1, fun he => by have := (h.own he).1; have := h.hh.2.1; omega⟩
    · exact ⟨by have := h.hh.1; have := h.hh.2.2.2; omega, fun he => by have := (h.own he).2; omega⟩
/-- The answers are put behind the others. -/
theorem ExI.next (h : ExI w0 w S S' B B' C C' st st' jb jb' m hp pv ps ho ov os lu uv us) {L L' : List (Pk × Value)} (hL : L.map Prod.fst = us) (hL' : L'.map Prod.fst = us') (h1 : POpts w (fun b => m ≤ b ∧ uv.ownBlock ≠ some b) L) (h2 : POpts w (fun b => m ≤ b ∧ uv.ownBlock ≠ some b) L')
    (hr : PRow w' lu uv' (L ++ L')) (hk : Keep (fun k => uv.ownBlock = some k) w w') (ho' : uv'.ownBlock = uv.ownBlock ∨ uv'.ownBlock = some w.heap.size) :
    ∃ S S', ExI w0 w' S S' B B' C C' st st' jb jb' m hp pv ps ho ov os lu uv' (us ++ us') := by
  refine ⟨_, _, h.app hk ⟨L ++ L', by rw [List.map_append, hL, hL'], hr, fun q hq => ?_⟩ ho'⟩
  have hx : Opts w (fun b => m ≤ b ∧ uv.ownBlock ≠ some b) q.2 q.1.o := by
    rcases List.mem_append.1 hq with hq | hq
    · exact h1 q hq
    · exact h2 q hq
  refine Rec.mono (Rec.keep (Rec.old hx) hk (fun b hb hb2 he => hb2.1.2 he)) (fun b hb => ⟨hb.1.1, fun he => ?_⟩)
  rcases ho' with h3 | h3
  · exact hb.1.2 (by rw [← h3]; exact he)
  · rw [h3] at he; cases he; exact Nat.lt_irrefl _ hb.2
theorem ExI.below (h : ExI w0 w S S' B B' C C' st st' jb jb' m hp pv ps ho ov os lu uv us) (hb : Below w.heap.size w w') : ExI w0 w' S S' B B' C C' st st' jb jb' m hp pv ps ho ov os lu uv us :=
  have hk := Keep.of_below (fun _ => False) hb
  ⟨h.n1.below hb, h.n2.below hb, ⟨h.pt.d1, h.pt.d2, h.pt.n1, h.pt.n2, h.pt.bl.trans (hb.mono h.pt.bl.size)⟩, h.bp.keep hk (fun _ _ _ h => h), h.bo.keep hk (fun _ _ _ h => h), h.bu.keep hk (fun _ _ _ h => h), h.tt, ⟨h.hh.1, h.hh.2.1, h.hh.2.2.1, Nat.le_trans h.hh.2.2.2 hb.size⟩, h.nu⟩
end

/-- Two that hear each other: what the first one sent goes to the second one, and the other way. -/
structure Sim where
  x : NSt
  y : NSt
  p : List Pk
  q : List Pk
def xch (C C' : NegC) (s : Sim) : Sim := ⟨(takeAll C s.x s.q).1, (takeAll C' s.y s.p).1, (takeAll C s.x s.q).2, (takeAll C' s.y s.p).2⟩
def sims (C C' : NegC) (s : Sim) : Nat → Sim
  | 0 => s
  | n + 1 => xch C C' (sims C C' s n)
/-- What can be taken. -/
def Sim.Ok (s : Sim) : Prop := s.p.length ≤ 100 ∧ s.q.length ≤ 100 ∧ (∀ p ∈ s.p, PkOk p) ∧ ∀ p ∈ s.q, PkOk p
/-- Between two rounds. -/
def MtI (w0 w : World) (B B' : NegB) (C C' : NegC) (jb jb' m : Nat) (s : Sim) (pv qv : Value) : Prop :=
  ∃ S S' hp hq, NegP w S B C s.x jb ∧ NegP w S' B' C' s.y jb' ∧ Parted w0 w S S' B B' ∧ Bag w m hp pv s.p ∧ Bag w m hq qv s.q ∧ (∀ b, B.t b ∨ B'.t b → b < m) ∧ m ≤ w.heap.size ∧ hp ≤ w.heap.size ∧ hq ≤ w.heap.size
/-- While the second one takes (k packets are taken). -/
def Ex1 (w0 w : World) (B B' : NegB) (C C' : NegC) (st st' : NSt) (jb jb' m hp : Nat) (pv : Value) (ps : List Pk) (ho : Nat) (ov : Value) (os : List Pk) (lu : Nat) (uv : Value) (k : Nat) : Prop :=
  ∃ S S', ExI w0 w S S' B B' C C' st (takeAll C' st' (ps.take k)).1 jb jb' m hp pv ps ho ov os lu uv (takeAll C' st' (ps.take k)).2
section
variable {w0 w w' : World} {B B' : NegB} {C C' : NegC} {st st' r : NSt} {jb jb' : Nat} {m hp : Nat} {pv : Value} {ps : List Pk} {ho : Nat} {ov : Value} {os : List Pk} {lu : Nat} {uv uv' : Value}
theorem MtI.start1 {s : Sim} {qv : Value} (h : MtI w0 w B B' C C' jb jb' m s pv qv) : ∃ hp hq, Ex1 w0 w B B' C C' s.x s.y jb jb' m hp pv s.p hq qv s.q w.heap.size (.slice none 0 0) 0 := by
  obtain ⟨S, S', hp, hq, h1, h2, h3, h4, h5, h6, h7⟩ := h
  exact ⟨hp, hq, S, S', ExI.start h1 h2 h3 h4 h5 h6 h7⟩
theorem Ex1.start2 (h : Ex1 w0 w B B' C C' st st' jb jb' m hp pv ps ho ov os lu uv ps.length) : Ex1 w0 w B' B C' C (takeAll C' st' ps).1 st jb' jb m ho ov os w.heap.size uv (takeAll C' st' ps).2 w.heap.size (.slice none 0 0) 0 := by
  obtain ⟨S, S', h⟩ := h
  rw [List.take_length] at h
  refine ⟨S', S, ExI.start h.n2 h.n1 h.pt.symm h.bo (Bag.mk' h.bu h.hh.1 (fun b _ hb => hb.1)) (fun b hb => h.tt b hb.symm) ⟨Nat.le_trans h.hh.1 h.hh.2.2.2, Nat.le_trans h.hh.2.2.1 h.hh.2.2.2, Nat.le_refl _⟩⟩
theorem Ex1.done (h : Ex1 w0 w B' B C' C st' st jb' jb m hp pv ps ho ov os lu uv ps.length) : MtI w0 w B B' C C' jb jb' m ⟨(takeAll C st ps).1, st', (takeAll C st ps).2, os⟩ uv ov := by
  obtain ⟨S, S', h⟩ := h
  rw [List.take_length] at h
  exact ⟨S', S, _, _, h.n2, h.n1, h.pt.symm, Bag.mk' h.bu h.hh.1 (fun b _ hb => hb.1), h.bo, fun b hb => h.tt b hb.symm, Nat.le_trans h.hh.1 h.hh.2.2.2, Nat.le_refl _, Nat.le_trans h.hh.2.2.1 h.hh.2.2.2⟩
end
section
variable {w0 w w' : World} {B B' : NegB} {C C' : NegC} {st st' r : NSt} {jb jb' : Nat} {m hp : Nat} {pv : Value} {ps : List Pk} {ho : Nat} {ov : Value} {os : List Pk} {lu : Nat} {uv uv' : Value}
/-- The next packet is taken. -/
theorem Ex1.step {sa : Option Addr} {n c k : Nat} (h : Ex1 w0 w B B' C C' st st' jb jb' m hp (.slice sa n c) ps ho ov os lu uv k) (hk : k < ps.length) (hl : ps.length ≤ 100) (hok : ∀ p ∈ ps, PkOk p) :
    ∃ b off po, sa = some ⟨b, off, none⟩ ∧ w.cell? ⟨b, off + k * 4, none⟩ = some (.int .i64 ps[k].code) ∧ w.cell? ⟨b, off + k * 4 + 1, none⟩ = some (.int .i64 ps[k].id) ∧ w.cell? ⟨b, off + k * 4 + 2, none⟩ = some po ∧ w.cell? ⟨b, off + k * 4 + 3, none⟩ = some (.string ps[k].d) ∧
      Calls Tryz.prog 47 #[.pointer (some ⟨B'.nb, 0, none⟩), .agg #[.int .i64 ps[k].code, .int .i64 ps[k].id, po, .string ps[k].d]] w fun e w' => ∃ v, e = .returned v ∧ ∃ L L', PRow w' lu uv L ∧ PRow w' w.heap.size v L' ∧ (∀ q ∈ L', q.2.oneCell' = true) ∧ L.length + L'.length ≤ 1000000 ∧ lu ≤ w'.heap.size ∧
        ∀ uv' w'', PRow w'' lu uv' (L ++ L') → Keep (fun k => uv.ownBlock = some k) w' w'' → (uv'.ownBlock = uv.ownBlock ∨ uv'.ownBlock = some w'.heap.size) → Ex1 w0 w'' B B' C C' st st' jb jb' m hp (.slice sa n c) ps ho ov os lu uv' (k + 1) := by
  obtain ⟨S, S', h⟩ := h
  obtain ⟨-, -, -, b, off, po, e, c0, c1, c2, c3, hpo⟩ := h.bp.at k hk (by omega)
  refine ⟨b, off, po, e, c0, c1, c2, c3, ?_⟩
  refine (h.take ps[k] po (hok _ (List.getElem_mem hk)) hpo).mono ?_
  rintro e w' ⟨v, rfl, ⟨L', hL', hr', hone, ho'⟩, hlu, S'', h2⟩
  obtain ⟨L, hL, hr, hopt⟩ := h2.bu
  have ln1 := congrArg List.length hL
  have ln2 := congrArg List.length hL'
  rw [List.length_map] at ln1 ln2
  have l1 := takeAll_len C' (ps.take k) st'
  have l2 := takeS_len C' (takeAll C' st' (ps.take k)).1 ps[k]
  have l3 := List.length_take_le k ps
  refine ⟨v, rfl, L, L', hr, hr', hone, by omega, hlu, fun uv' w'' g1 g2 g3 => ?_⟩
  unfold Ex1
  rw [List.take_succ_eq_append_getElem hk, takeAll_snoc]
  exact h2.next hL hL' hopt ho' g1 g2 g3
theorem MtI.form {s : Sim} {pv qv : Value} (h : MtI w0 w B B' C C' jb jb' m s pv qv) : ∃ sp sq cp cq, pv = .slice sp s.p.length cp ∧ qv = .slice sq s.q.length cq := by
  obtain ⟨S, S', hp, hq, -, -, -, h4, h5, -⟩ := h
  obtain ⟨sp, cp, e1⟩ := h4.pk.form
  obtain ⟨sq, cq, e2⟩ := h5.pk.form
  exact ⟨sp, sq, cp, cq, e1, e2⟩
end

end Go.Proofs.YthhdackaopaojaaGreat
