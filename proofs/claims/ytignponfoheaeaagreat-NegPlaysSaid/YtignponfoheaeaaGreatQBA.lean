import Derived.Test.YtignponfoheaeaaGreatQAS
import Derived.Test.YtignponfoheaeaaGreatQAA
import Derived.Great.Walk
set_option linter.unusedVariables false
set_option linter.unusedSimpArgs false
set_option maxHeartbeats 16000000
namespace Go.Proofs.YtignponfoheaeaaGreat
open Go.RowKit Go.Tg Go.Maps
theorem bad_any' (o : Opt) (w : World) (hv : o.v.size <= maxLen) :
 Calls Tryz.prog 231 #[.agg #[.int .i64 o.t, .string o.v]] w fun e w' => e = .returned (.bool (badO o)) /\ Below w.heap.size w w' := by
 obtain ⟨t, v⟩ := o; simp only at hv
 unfold maxLen at hv; have hb0 : Below w.heap.size w (w.alloc (.cells #[.int .i64 t, .string v] 91 (0, 0))) := (Below.refl _ _).alloc (Nat.le_refl _) _; have HI := H_ (fun W => in_any t 1 255 W); have HB := H_ hb0; have HQ := H_ (show badO ⟨t, v⟩ = (!(decide (1 <= t) && decide (t <= 255)) || decide (253 < v.size)) from rfl); have hdv : decide ((253 : Int) < (v.size : Int)) = decide (253 < v.size) := by simp only [decide_eq_decide]; omega
 generalize (decide (1 <= t) && decide (t <= 255)) = y at HI HQ; clear hb0; go_enter Tryz.func231, Tryz.ntmps231; go_wp2_with fail; refine (HI.out _).mono ?_; rintro e w' ⟨rfl, rfl⟩
 cases y with
 | true =>
  go_wp2_with fail; go_ret; exact ⟨by rw [HQ.out]; simp, HB.out⟩
 | false =>
  go_wp2_with fail; go_ret; exact ⟨by rw [HQ.out]; rfl, HB.out⟩
set_option maxRecDepth 100000 in
theorem put_any' (l : List Opt) (lv : Value) (ok : Nat -> Prop) (w : World) (hl : Opts w ok lv l) (hmax : l.length <= 1000000) (hv : ∀ o ∈ l, o.v.size <= maxLen) :
 Calls Tryz.prog 163 #[lv] w fun e w' => e = .returned (.tuple #[.string (putS l), .int .i64 (putE l)]) /\ Below w.heap.size w w' := by
 have HC := H_ (containsO_any l lv ok 231 #[] badO w hl hmax (enters_of Tryz.func231 (by kernel_rfl) rfl) (fun W o ho hW => by
  refine (bad_any' o W (hv o ho)).mono ?_; rintro e w' ⟨rfl, hb⟩
  exact ⟨rfl, hW.trans (hb.mono hW.size)⟩))
 obtain ⟨sa, c, rfl, hc, hm⟩ := hl.form; have HL := H_ hl; obtain ⟨len, hln⟩ : ∃ len, len = l.length := ⟨_, rfl⟩; have HLN := H_ hln; rw [<- hln] at hc hmax HC ⊢; unfold maxLen at hm
 by_cases h30 : 30 < len
 . have HS := H_ (show putE l = 2 from by unfold putE; rw [if_pos (by omega)]); have HT := H_ (show putS l = ⟨#[]⟩ from by unfold putS; rw [HS.out]; rfl); have hd : decide ((30 : Int) < (len : Int)) = true := by simp; omega
   clear hl hv hln; go_enter Tryz.func163, Tryz.ntmps163; go_wp2_with fail; go_ret2; exact ⟨by rw [HS.out, HT.out]; rfl, Below.refl _ _⟩
 . have hd : decide ((30 : Int) < (len : Int)) = false := by simp; omega
   cases hbad : l.any badO with
   | true =>
    have HS := H_ (show putE l = 1 from by unfold putE; rw [if_neg (by omega), if_pos hbad]); have HT := H_ (show putS l = ⟨#[]⟩ from by unfold putS; rw [HS.out]; rfl); rw [hbad] at HC; clear hl hv hln hbad; go_enter Tryz.func163, Tryz.ntmps163; go_wp2_with fail; refine HC.out.mono ?_; rintro e w' ⟨rfl, hb⟩; go_wp2_with fail; go_ret2; exact ⟨by rw [HS.out, HT.out]; rfl, hb⟩
   | false =>
    have HS := H_ (show putE l = 0 from by unfold putE; rw [if_neg (by omega), if_neg (by rw [hbad]; decide)]); have HT := H_ (show putS l = putB l from by unfold putS; rw [HS.out]; rfl); rw [hbad] at HC
    have HG : Hid (∀ o ∈ l, 1 <= o.t /\ o.t <= 255 /\ o.v.size <= 253) := H_ (by
     intro o ho; rw [List.any_eq_false] at hbad; have := hbad o ho; simp [badO] at this
     omega)
    clear hl hv hln hbad; go_enter Tryz.func163, Tryz.ntmps163; go_wp2_with fail; refine HC.out.mono ?_; rintro e w' ⟨rfl, hb⟩; have HB := H_ hb; clear hb; go_wp2_with fail
    go_loopg [4, 16] len (fun x s i wr => ∃ k : Nat, k <= len /\ x = len - k /\ i = .int .i64 k /\ s = .string (putB (l.take k)) /\ Hid (Below w.heap.size w wr))
    case atStart => exact ⟨0, by omega, by omega, rfl, rfl, HB.out⟩
    case round =>
     obtain ⟨k, hk, rfl, rfl, rfl, hK⟩ := hrel; have HK := H_ hK.out; clear hK
     by_cases hkl : k < len
     . have hkl' : k < l.length := by have := HLN.out; omega
       obtain ⟨b, off, rfl, hb, -, -, -, -, c0, c1⟩ := HL.out.at k hkl'; have d0 : wr.cell? ⟨b, off + k * 2, none⟩ = _ := (HK.out.cell (p := ⟨b, off + k * 2, none⟩) hb).trans c0; have d1 : wr.cell? ⟨b, off + k * 2 + 1, none⟩ = _ := (HK.out.cell (p := ⟨b, off + k * 2 + 1, none⟩) hb).trans c1; have hg := HG.out l[k] (List.getElem_mem hkl')
       have hps : (putB (l.take k)).size <= 255 * 30 := by
        have := putB_size (l.take k) (fun o ho => (HG.out o (List.mem_of_mem_take ho)).2.2); rw [List.length_take] at this; omega
       have HP := H_ (show putB (l.take (k + 1)) = putB (l.take k) ++ optB l[k] from by rw [List.take_succ_eq_append_getElem hkl', putB_snoc]); clear c0 c1; generalize putB (l.take k) = out at *; generalize l[k] = o at *; obtain ⟨t, v⟩ := o; simp only at d0 d1 hg
       obtain ⟨t, rfl⟩ := Int.eq_ofNat_of_zero_le (show (0 : Int) <= t by omega); simp only [Int.toNat_natCast, optB] at HP
       have hcv : (convert 200 9 (.slice (some ⟨wr.heap.size + 1, 0, none⟩) 2 2)).run Tryz.prog ((wr.alloc (.cells #[.int .i64 (t : Int), .string v] 91 (0, 0))).alloc (.cells #[.int .u8 (t : Int), .int .u8 ((v.size : Int) + 2)] 5 (0, 0))) =
        .ok (.string (ByteArray.mk #[UInt8.ofNat t, UInt8.ofNat (v.size + 2)])) ((wr.alloc (.cells #[.int .i64 (t : Int), .string v] 91 (0, 0))).alloc (.cells #[.int .u8 (t : Int), .int .u8 ((v.size : Int) + 2)] 5 (0, 0))) := by
        have hx := at21 wr (.cells #[.int .i64 (t : Int), .string v] 91 (0, 0)) (.cells #[.int .u8 (t : Int), .int .u8 ((v.size : Int) + 2)] 5 (0, 0)); refine run_convert_bytes_back (P := Tryz.prog) _ 200 9 5 ⟨wr.heap.size + 1, 0, none⟩ 2 [UInt8.ofNat t, UInt8.ofNat (v.size + 2)] Tryz.underlying200 Tryz.underlying5 Tryz.underlying9 (fun j hj => ?_); rw [Addr.add_lit, Nat.zero_add]; have e1 : (UInt8.ofNat t).toNat = t := by rw [UInt8.toNat_ofNat']; omega
        have e2 : (UInt8.ofNat (v.size + 2)).toNat = v.size + 2 := by rw [UInt8.toNat_ofNat']; omega
        match j, hj with
        | 0, _ => simp only [List.getElem_cons_zero]; rw [e1]; exact cellOf hx 0 _ rfl
        | 1, _ => simp only [List.getElem_cons_zero, List.getElem_cons_succ]; rw [e2]; exact cellOf hx 1 _ rfl
       have hs2 : (ByteArray.mk #[UInt8.ofNat t, UInt8.ofNat (v.size + 2)]).size = 2 := rfl; generalize ByteArray.mk #[UInt8.ofNat t, UInt8.ofNat (v.size + 2)] = hd2 at hcv hs2 HP; have hs3 : (hd2 ++ v).size = 2 + v.size := by rw [ByteArray.size_append, hs2]
       have HB2 := H_ ((HK.out.alloc HK.out.size (.cells #[.int .i64 (t : Int), .string v] 91 (0, 0))).alloc (by rw [alloc1]; have := HK.out.size; omega) (.cells #[.int .u8 (t : Int), .int .u8 ((v.size : Int) + 2)] 5 (0, 0))); go_wp2_with fail
       go_roundg (len - (k + 1))
       case measure => omega
       case rel => exact ⟨k + 1, by omega, rfl, by go_num, by rw [HP.out], HB2.out⟩
     . obtain rfl : len = k := by omega
       have HQ := H_ (show l.take len = l from List.take_of_length_le (by have := HLN.out; omega)); rw [HQ.out]; go_wp2_with fail; go_ret2; exact ⟨by rw [HS.out, HT.out]; rfl, HK.out⟩
theorem aadopt_any (b : Nat) (s c cf tm : Int) (w : World) (h : AutoAt w b s c cf tm) (h0 : 1 <= cf) :
 Calls Tryz.prog 164 #[.pointer (some ⟨b, 0, none⟩)] w fun e w' => e = .returned (.tuple #[]) /\ AutoAt w' b 9 c cf tm /\ Keep (fun k => k = b) w w' := by
 have hc := h.c0; have hf := h.fz 0; have H := H_ (A_ h (none_some _ _ _ _ _ _ h h0)); clear h; go_enter Tryz.func164, Tryz.ntmps164
 go_wp2_with (go_at_call 141; refine H.out.2.mono ?_; rintro e w' ⟨rfl, rfl⟩)
 go_end0
 exact ⟨rfl, H.out.1.set0 9, (Keep.refl (fun k => k = b) w).setCell ⟨b, 0, none⟩ (Or.inr rfl) _⟩
section
variable {w : World} {S : Nat -> Prop} {B : NegB} {C : NegC} {st : NSt} {X : NegX} {jb : Nat}
theorem Ups_at (h : NegAt w S B C st X) : Calls Tryz.prog 54 #[.pointer (some ⟨B.nb, 0, none⟩)] w fun e w' => e = .returned (.tuple #[.int .i64 st.ups, .int .i64 st.downs]) /\ Below w.heap.size w w' := by
 have g0 : w.cell? ⟨B.nb, 17, none⟩ = some (.int .i64 st.ups) := h.cell 17; have g1 : w.cell? ⟨B.nb, 18, none⟩ = some (.int .i64 st.downs) := h.cell 18; have H := H_ (nnone_at h); clear h; go_enter Tryz.func54, Tryz.ntmps54
 go_wp2_with (go_at_call 158; refine H.out.mono ?_; rintro e w1 ⟨rfl, rfl⟩)
 go_quiet (fail)
 go_wp2_with fail; go_ret2; exact ⟨rfl, belowN (Below.refl _ _) _⟩
theorem Adopt_late (h : NegAt w S B C st X) (hs : st.s ≠ 0 /\ st.s ≠ 1) (a b : Option Addr) (n c n' c' : Nat) : Calls Tryz.prog 47 #[.pointer (some ⟨B.nb, 0, none⟩), .slice a n c, .slice b n' c'] w fun e w' => e = .returned (.int .i64 20) /\ w = w' := by
 have H := H_ (A_ (nnone_at h) (State_at h)); clear h; obtain ⟨hs1, hs2⟩ := hs; have d1 : (st.s != 1) = true := by simp [hs2]
 have d2 : (st.s != 0) = true := by simp [hs1]
 clear hs1 hs2; generalize st.s = s at *; go_enter Tryz.func47, Tryz.ntmps47
 go_wp2_with (first
  | (go_at_call 158; refine H.out.1.mono ?_; rintro e w1 ⟨rfl, rfl⟩)
  | (go_at_call 56; refine H.out.2.mono ?_; rintro e w1 ⟨rfl, rfl⟩))
 go_ret; exact ⟨rfl, rfl⟩
end
end Go.Proofs.YtignponfoheaeaaGreat
