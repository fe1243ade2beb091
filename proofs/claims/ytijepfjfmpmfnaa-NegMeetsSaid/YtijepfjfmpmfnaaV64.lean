import Derived.Test.YtijepfjfmpmfnaaV63
/- Take, for every packet: its model. -/
namespace Go.Proofs.Ytijepfjfmpmfnaa
open Go.RowKit Go.Tg Go.Maps

theorem say_every (B : NegB) (C : NegC) (ok : Nat → Prop) (c : Came) (po pa : Value) (a : Int) (h0 : 0 ≤ a) (h1 : a ≤ 12) (hv : ∀ o ∈ c.p.o, o.v.size ≤ 100000) (hd : c.p.d.size ≤ 100000000) : SaySpec rejS B C ok c po pa a := by
  by_cases h : a = 11
  · subst h
    intro w S st X h hc
    exact say11 c po pa h hc hv hd
  · exact say_less rejS B C ok c po pa a h0 h1 h
theorem sayAll_every (B : NegB) (C : NegC) (c : Came) (po pa : Value) (s e : Int) (hv : ∀ o ∈ c.p.o, o.v.size ≤ 100000) (hd : c.p.d.size ≤ 100000000) : SayAll rejS B C c po pa (nextL s e) :=
  fun a ha ok => say_every B C ok c po pa a (nextL_bd s e a ha).1 (nextL_bd s e a ha).2 hv hd

/-- What a code reject says. -/
def code7S (rej : Pk → ByteArray) (C : NegC) (st : NSt) (p : Pk) : NSt × List Pk :=
  if p.d.size = 0 then (st, []) else evS rej C st (if 1 ≤ (p.d.data.getD 0 0).toNat ∧ (p.d.data.getD 0 0).toNat ≤ 7 then 14 else 13) ⟨true, p, 0, []⟩

section
variable (rej : Pk → ByteArray) {w : World} {S ok : Nat → Prop} {B : NegB} {C : NegC} {st : NSt} {X : NegX}
set_option maxHeartbeats 4000000 in
set_option maxRecDepth 100000 in
theorem take7 (p : Pk) (po : Value) (hcode : p.code = 7) (h : NegAt w S B C st X) (ho : Opts w ok po p.o) (hok : ∀ b, ok b → ¬ B.t b) (hlen : p.o.length ≤ 1000000) (hd : p.d.size ≤ 100000000) :
    Calls Try.prog 13 #[.pointer (some ⟨B.nb, 0, none⟩), pkV p po] w fun e w' => EvPost w w' S ok B C (code7S rej C st p) e := by
  obtain ⟨a1, k1, rfl, hc1, hc2⟩ := ho.form
  have hb1 : Below w.heap.size w (w.alloc (.cells #[.int .i64 p.code, .int .i64 p.id, (.slice a1 p.o.length k1), .string p.d] 37 (0, 0))) := (Below.refl _ _).alloc (Nat.le_refl _) _
  have HX := Lib.hid (And.intro (h.below hb1) (And.intro hb1 h))
  have HE := Lib.hid (fun ev (hw : (Lit.int .i64 ev).wf = true) (hm : ev ∈ [0, 1, 2, 3, 4, 5, 6, 8, 9, 10, 11, 13, 14]) => Event_at (ok := ok) rej p _ ev hw (h.below hb1) (ho.below hb1) hok hlen (fun pa => sayAll_next rej B C _ _ _ _ ev h.ss hm))
  unfold pkV at HE ⊢
  have HM := Lib.hid (show code7S rej C st p = if p.d.size = 0 then (st, []) else evS rej C st (if 1 ≤ (p.d.data.getD 0 0).toNat ∧ (p.d.data.getD 0 0).toNat ≤ 7 then 14 else 13) ⟨true, p, 0, []⟩ from rfl)
  generalize code7S rej C st p = R at HM ⊢
  obtain ⟨pc, pi, pl, pd⟩ := p
  simp only at hcode hd
  subst hcode
  clear h ho hok hb1 hlen
  by_cases h0 : pd.size = 0
  · have : pd = ⟨#[]⟩ := by
      apply ByteArray.ext
      exact Array.eq_empty_of_size_eq_zero h0
    subst this
    go_enter Try.func13, Try.ntmps13
    go_wp2_with (go_at_call 32; refine (nnone_at HX.out.1).mono ?_; rintro e w1 ⟨rfl, rfl⟩)
    go_ret
    rw [show R = (st, []) from HM.out]
    exact EvPost.none' ⟨X, (HX.out.2.2.below HX.out.2.1).mono (fun b h => .inl h)⟩ (Keep.of_below _ HX.out.2.1)
  · have hne : ¬ pd = ⟨#[]⟩ := fun h => h0 (by rw [h]; rfl)
    obtain ⟨b, hb⟩ : ∃ b : UInt8, b = pd.data.getD 0 0 := ⟨_, rfl⟩
    have hlt : 0 < pd.size := by omega
    have hix : ∀ h, pd[0]'h = b := fun h => by
      have h' : 0 < pd.data.size := h
      rw [hb, Array.getD_eq_getD_getElem?, Array.getElem?_eq_getElem h']; rfl
    have HM2 : Hid (R = evS rej C st (if 1 ≤ b.toNat ∧ b.toNat ≤ 7 then 14 else 13) ⟨true, ⟨7, pi, pl, pd⟩, 0, []⟩) := Lib.hid (by rw [HM.out, if_neg h0, hb])
    clear HM hb
    have hd1 : pd.toList.isEmpty = false := by rw [isE]; simp [h0]
    by_cases c1 : 1 ≤ b.toNat
    · have e1 : decide ((1 : Int) ≤ (b.toNat : Int)) = true := by simp; omega
      by_cases c2 : b.toNat ≤ 7
      · have e2 : decide ((b.toNat : Int) ≤ 7) = true := by simp; omega
        have HM3 : Hid (R = evS rej C st 14 ⟨true, ⟨7, pi, pl, pd⟩, 0, []⟩) := Lib.hid (by rw [HM2.out, if_pos ⟨c1, c2⟩])
        clear c1 c2 HM2 h0 hne
        go_enter Try.func13, Try.ntmps13
        go_wp2_with (first
          | (go_at_call 32; refine (nnone_at HX.out.1).mono ?_; rintro e w1 ⟨rfl, rfl⟩)
          | (go_at_call 36; refine (HE.out 14 (by decide) (by decide)).mono ?_; rintro e w5 ⟨v5, rfl, h5⟩; have H5 := Lib.hid h5; clear h5))
        go_ret
        rw [HM3.out]
        exact EvPost.of_box ⟨_, rfl, H5.out⟩ HX.out.2.1
      · have e2 : decide ((b.toNat : Int) ≤ 7) = false := by simp; omega
        have HM3 : Hid (R = evS rej C st 13 ⟨true, ⟨7, pi, pl, pd⟩, 0, []⟩) := Lib.hid (by rw [HM2.out, if_neg (fun h => c2 h.2)])
        clear c1 c2 HM2 h0 hne
        go_enter Try.func13, Try.ntmps13
        go_wp2_with (first
          | (go_at_call 32; refine (nnone_at HX.out.1).mono ?_; rintro e w1 ⟨rfl, rfl⟩)
          | (go_at_call 36; refine (HE.out 13 (by decide) (by decide)).mono ?_; rintro e w5 ⟨v5, rfl, h5⟩; have H5 := Lib.hid h5; clear h5))
        go_ret
        rw [HM3.out]
        exact EvPost.of_box ⟨_, rfl, H5.out⟩ HX.out.2.1
    · have e1 : decide ((1 : Int) ≤ (b.toNat : Int)) = false := by simp; omega
      have HM3 : Hid (R = evS rej C st 13 ⟨true, ⟨7, pi, pl, pd⟩, 0, []⟩) := Lib.hid (by rw [HM2.out, if_neg (fun h => c1 h.1)])
      clear c1 HM2 h0 hne
      go_enter Try.func13, Try.ntmps13
      go_wp2_with (first
        | (go_at_call 32; refine (nnone_at HX.out.1).mono ?_; rintro e w1 ⟨rfl, rfl⟩)
        | (go_at_call 36; refine (HE.out 13 (by decide) (by decide)).mono ?_; rintro e w5 ⟨v5, rfl, h5⟩; have H5 := Lib.hid h5; clear h5))
      go_ret
      rw [HM3.out]
      exact EvPost.of_box ⟨_, rfl, H5.out⟩ HX.out.2.1
end
end Go.Proofs.Ytijepfjfmpmfnaa
