import Derived.Test.YtignponfoheaeaaGreatQBA
import Derived.Test.YtignponfoheaeaaGreatQAX
set_option linter.unusedVariables false
set_option linter.unusedSimpArgs false
set_option maxHeartbeats 16000000
namespace Go.Proofs.YtignponfoheaeaaGreat
open Go.RowKit Go.Tg Go.Maps
section
variable {w : World} {S : Nat -> Prop} {B : NegB} {C : NegC} {st : NSt} {X : NegX}
set_option maxRecDepth 100000 in
theorem Adopt_bad0 (h : NegAt w S B C st X) (hs : st.s = 0) (a b : List Opt) (av bv : Value) (ok : Nat -> Prop) (ha : Opts w ok av a) (hb : Opts w ok bv b) (hal : a.length <= 1000000) (hbl : b.length <= 1000000)
 (hav : ∀ o ∈ a, o.v.size <= maxLen) (hbv : ∀ o ∈ b, o.v.size <= maxLen) (hp : putE a ≠ 0 \/ putE b ≠ 0) :
 Calls Tryz.prog 47 #[.pointer (some ⟨B.nb, 0, none⟩), av, bv] w fun e w' => e = .returned (.int .i64 (if putE a ≠ 0 then putE a else putE b)) /\ Below w.heap.size w w' := by
 obtain ⟨R, hR⟩ : ∃ R : Int, R = (if putE a ≠ 0 then putE a else putE b) := ⟨_, rfl⟩; rw [<- hR]; have HR := H_ hR; clear hR; have H := H_ (A_ (nnone_at h) (State_at h)); rw [hs] at H; obtain ⟨sa, ca, rfl, -, -⟩ := ha.form; obtain ⟨sb, cb, rfl, -, -⟩ := hb.form; have HP := H_ (A_ (fun W (hW : Below w.heap.size w W) => put_any' a _ ok W (ha.below hW) hal hav) (fun W (hW : Below w.heap.size w W) => put_any' b _ ok W (hb.below hW) hbl hbv)); have HQ := H_ hp; clear h hs ha hb hal hbl hav hbv hp; generalize a.length = na at *; generalize b.length = nb at *; have b1 : Below w.heap.size w (w.alloc (.cells #[.slice sa na ca, .slice sb nb cb] 62 (0, 0))) := (Below.refl _ _).alloc (Nat.le_refl _) _; have z1 := at1 w (.cells #[.slice sa na ca, .slice sb nb cb] 62 (0, 0)); have HB := H_ (A_ b1 z1); clear b1 z1; go_enter Tryz.func47, Tryz.ntmps47
 go_wp2_with (first
  | (go_at_call 158; refine H.out.1.mono ?_; rintro e w1 ⟨rfl, rfl⟩)
  | (go_at_call 56; refine H.out.2.mono ?_; rintro e w1 ⟨rfl, rfl⟩))
 go_loopg [26] 2 (fun x i wr => ∃ k : Nat, k <= 1 /\ x = 2 - k /\ i = .int .i64 k /\ Hid (Below (w.alloc (.cells #[.slice sa na ca, .slice sb nb cb] 62 (0, 0))).heap.size (w.alloc (.cells #[.slice sa na ca, .slice sb nb cb] 62 (0, 0))) wr /\ (k = 1 -> putE a = 0)))
 case atStart => exact ⟨0, by omega, by omega, rfl, Below.refl _ _, fun h => absurd h (by decide)⟩
 case round =>
  obtain ⟨k, hk, rfl, rfl, hK⟩ := hrel; have HK := H_ hK.out; clear hK; have hlt : w.heap.size < (w.alloc (.cells #[.slice sa na ca, .slice sb nb cb] 62 (0, 0))).heap.size := by rw [alloc1]; omega
  have z2 := (HK.out.1.block w.heap.size hlt).trans HB.out.2; have b2 : Below w.heap.size w wr := HB.out.1.trans (HK.out.1.mono (Nat.le_of_lt hlt)); have HB2 := H_ b2; have x0 := cellOf z2 0 _ rfl; have x1 := cellOf z2 1 _ rfl; clear z2 b2 hlt
  by_cases h0 : k = 0
  . subst h0; go_wp2_with fail; refine (HP.out.1 _ HB2.out).mono ?_; rintro e w3 ⟨rfl, b3⟩; have HB3 := H_ b3; clear b3
    by_cases hp : putE a = 0
    . have HP0 := H_ hp; rw [hp]; clear hp; go_wp2_with fail
      go_roundg 1
      case measure => omega
      case rel => exact ⟨1, by omega, rfl, by go_num, HK.out.1.trans (HB3.out.mono HK.out.1.size), fun _ => HP0.out⟩
    . have HX0 := H_ hp; have d1 : (putE a != 0) = true := by simp [hp]
      have HX := H_ hp; clear hp; go_wp2_with fail; go_ret; exact ⟨by rw [HR.out, if_pos HX.out]; rfl, HB2.out.trans (HB3.out.mono HB2.out.size)⟩
  . obtain rfl : k = 1 := by omega
    go_wp2_with fail; refine (HP.out.2 _ HB2.out).mono ?_; rintro e w3 ⟨rfl, b3⟩; have HB3 := H_ b3; have hp : putE b ≠ 0 := HQ.out.resolve_left (fun h => h (HK.out.2 (by trivial))); have HP0 := H_ (HK.out.2 (by trivial)); clear b3; have d1 : (putE b != 0) = true := by simp [hp]
    have HX := H_ hp; clear hp; go_wp2_with fail; go_ret; exact ⟨by rw [HR.out, if_neg (fun h => h HP0.out)]; rfl, HB2.out.trans (HB3.out.mono HB2.out.size)⟩
set_option maxRecDepth 100000 in
theorem Adopt_ok0 (h : NegAt w S B C st X) (hs : st.s = 0) (a b : List Opt) (av bv : Value) (ok : Nat -> Prop) (ha : Opts w ok av a) (hb : Opts w ok bv b) (hal : a.length <= 1000000) (hbl : b.length <= 1000000)
 (hav : ∀ o ∈ a, o.v.size <= maxLen) (hbv : ∀ o ∈ b, o.v.size <= maxLen) (hp : putE a = 0 /\ putE b = 0) (hok : ∀ b, ok b -> ¬ B.t b) :
 Calls Tryz.prog 47 #[.pointer (some ⟨B.nb, 0, none⟩), av, bv] w fun e w' => e = .returned (.int .i64 0) /\ NegV w' (Grow S w) B C { st with s := 9, mine := a, theirs := b, ups := wrap64 (st.ups + 1) } /\ Keep B.t w w' := by
 have H := H_ (A_ (nnone_at h) (State_at h)); rw [hs] at H; have HN := H_ h; obtain ⟨sa, ca, rfl, -, -⟩ := ha.form; obtain ⟨sb, cb, rfl, -, -⟩ := hb.form; have HP := H_ (A_ (fun W (hW : Below w.heap.size w W) => put_any' a _ ok W (ha.below hW) hal hav) (fun W (hW : Below w.heap.size w W) => put_any' b _ ok W (hb.below hW) hbl hbv)); rw [hp.1, hp.2] at HP; have HAB := H_ (A_ ha (A_ hb (A_ hal (A_ hbl hok)))); clear h hs ha hb hav hbv hp hok; have HL : Hid (∃ na nb, na = a.length /\ nb = b.length) := H_ ⟨_, _, rfl, rfl⟩; have b1 : Below w.heap.size w (w.alloc (.cells #[.slice sa a.length ca, .slice sb b.length cb] 62 (0, 0))) := (Below.refl _ _).alloc (Nat.le_refl _) _; have z1 := at1 w (.cells #[.slice sa a.length ca, .slice sb b.length cb] 62 (0, 0)); have HB := H_ (A_ b1 z1); clear b1 z1; go_enter Tryz.func47, Tryz.ntmps47
 go_wp2_with (first
  | (go_at_call 158; refine H.out.1.mono ?_; rintro e w1 ⟨rfl, rfl⟩)
  | (go_at_call 56; refine H.out.2.mono ?_; rintro e w1 ⟨rfl, rfl⟩))
 go_loopg [26] 2 (fun x i wr => ∃ k : Nat, k <= 2 /\ x = 2 - k /\ i = .int .i64 k /\ Hid (Below (w.alloc (.cells #[.slice sa a.length ca, .slice sb b.length cb] 62 (0, 0))).heap.size (w.alloc (.cells #[.slice sa a.length ca, .slice sb b.length cb] 62 (0, 0))) wr))
 case atStart => exact ⟨0, by omega, by omega, rfl, Below.refl _ _⟩
 case round =>
  obtain ⟨k, hk, rfl, rfl, hK⟩ := hrel; have HK := H_ hK.out; clear hK; have hlt : w.heap.size < (w.alloc (.cells #[.slice sa a.length ca, .slice sb b.length cb] 62 (0, 0))).heap.size := by rw [alloc1]; omega
  have z2 := (HK.out.block w.heap.size hlt).trans HB.out.2; have b2 : Below w.heap.size w wr := HB.out.1.trans (HK.out.mono (Nat.le_of_lt hlt)); have HB2 := H_ b2; have x0 := cellOf z2 0 _ rfl; have x1 := cellOf z2 1 _ rfl; clear z2 b2 hlt
  by_cases h0 : k = 0
  . subst h0; go_wp2_with fail; refine (HP.out.1 _ HB2.out).mono ?_; rintro e w3 ⟨rfl, b3⟩; have HB3 := H_ b3; clear b3; go_wp2_with fail
    go_roundg 1
    case measure => omega
    case rel => exact ⟨1, by omega, rfl, by go_num, HK.out.trans (HB3.out.mono HK.out.size)⟩
  . by_cases h1 : k = 1
    . subst h1; go_wp2_with fail; refine (HP.out.2 _ HB2.out).mono ?_; rintro e w3 ⟨rfl, b3⟩; have HB3 := H_ b3; clear b3; go_wp2_with fail
      go_roundg 0
      case measure => omega
      case rel => exact ⟨2, by omega, rfl, by go_num, HK.out.trans (HB3.out.mono HK.out.size)⟩
    . obtain rfl : k = 2 := by omega
      clear h0 h1; have hn := HN.out.below HB2.out; have g0 : wr.cell? ⟨B.nb, 0, none⟩ = some (.pointer (some ⟨B.ab, 0, none⟩)) := hn.cell 0; have HA := H_ (A_ hn (aadopt_any B.ab st.s st.c C.cf C.tm wr hn.aut hn.ok.cf.1)); clear hn
      go_wp2_with (go_at_call 164; refine HA.out.2.mono ?_; rintro e w4 ⟨rfl, a4, k4⟩; have H4 := H_ (A_ a4 k4); clear a4 k4)
      have h4 := HA.out.1.auto H4.out.2 9 st.c H4.out.1 HA.out.1.ib (by decide); have oa4 : Opts w4 ok (.slice sa a.length ca) a := Rec.keep (HAB.out.1.below HB2.out) H4.out.2 (fun b _ ho he => HAB.out.2.2.2.2 b ho (.inr (.inl he))); have ob4 : Opts w4 ok (.slice sb b.length cb) b := Rec.keep (HAB.out.2.1.below HB2.out) H4.out.2 (fun b _ ho he => HAB.out.2.2.2.2 b ho (.inr (.inl he))); have HC := H_ (A_ (clone_any a _ ok w4 oa4 hal) (A_ h4 ob4)); clear h4 oa4 ob4; refine HC.out.1.mono ?_; rintro e w5 ⟨v5, rfl, r5, b5⟩; obtain ⟨qa, qc, rfl⟩ := r5.form; have HD := H_ (A_ (clone_any b _ ok w5 (HC.out.2.2.below b5) hbl) (A_ r5 b5)); clear r5 b5; go_wp2_with fail; refine HD.out.1.mono ?_; rintro e w6 ⟨v6, rfl, r6, b6⟩; obtain ⟨pa, pc, rfl⟩ := r6.form; have h6 := (HC.out.2.1.below HD.out.2.2).below b6; have f15 := h6.fz 15; have f16 := h6.fz 16; have f17 := h6.fz 17; have c15 : w6.cell? ⟨B.nb, 15, none⟩ = some X.mine := h6.cell 15; have c16 : w6.cell? ⟨B.nb, 16, none⟩ = some X.theirs := h6.cell 16; have c17 : w6.cell? ⟨B.nb, 17, none⟩ = some (.int .i64 st.ups) := h6.cell 17; have HE := H_ (A_ h6 (A_ r6 b6)); clear h6 r6 b6; go_wp2_with fail; go_ret; have hs4 : w.heap.size <= w4.heap.size := Nat.le_trans HB2.out.size H4.out.2.size; have hnl : B.nb < w4.heap.size := HC.out.2.1.nlt; have k6 : Keep (fun b => b = B.nb) w4 w6 := (Keep.of_below _ HD.out.2.2).trans (Keep.of_below _ HE.out.2.2); have kF := ((k6.trans (keepC B w6 15 (.slice qa a.length qc))).trans (keepC B _ 16 (.slice pa b.length pc))).trans (keepC B _ 17 (.int .i64 (wrap64 (st.ups + 1)))); have kG := ((keepC B w6 15 (.slice qa a.length qc)).trans (keepC B _ 16 (.slice pa b.length pc))).trans (keepC B _ 17 (.int .i64 (wrap64 (st.ups + 1)))); have bF := set_block (set_block (set_block HE.out.1.blk 15 (.slice qa a.length qc)) 16 (.slice pa b.length pc)) 17 (.int .i64 (wrap64 (st.ups + 1))); have rm := ((HD.out.2.1.below HE.out.2.2).keep kG (fun k hk he => by have := (HD.out.2.1.lt k hk).2; omega)).opts (by unfold maxLen; omega); have rt := (HE.out.2.1.keep kG (fun k hk he => by have := (HE.out.2.1.lt k hk).2; have := HD.out.2.2.size; omega)).opts (by unfold maxLen; omega)
      have hF := NegAt.turn (st' := { st with s := 9, mine := a, theirs := b, ups := wrap64 (st.ups + 1) }) (X' := { X with mine := .slice qa a.length qc, theirs := .slice pa b.length pc }) HC.out.2.1 kF bF ⟨rfl, rfl, rfl, rfl⟩ ⟨rfl, rfl, rfl⟩ HC.out.2.1.id
       (Rec.mono rm (fun b hb => ⟨.inr hb, fun ht => by have := HC.out.2.1.tlt ht; have hb : w4.heap.size <= b := hb; omega⟩))
       (Rec.mono rt (fun b hb => ⟨.inr (Nat.le_trans HD.out.2.2.size hb), fun ht => by have := HC.out.2.1.tlt ht; have hb : w5.heap.size <= b := hb; have := HD.out.2.2.size; omega⟩)) hal hbl
      refine ⟨rfl, ⟨_, hF.mono (fun b hb => hb.elim .inl (fun h => .inr (Nat.le_trans hs4 h)))⟩, ?_⟩; exact (Keep.of_below _ HB2.out).trans ((H4.out.2.mono (fun b _ h => .inr (.inl h))).trans (kF.mono (fun b _ h => .inl h)))
set_option maxRecDepth 100000 in
theorem Adopt_bad1 (h : NegAt w S B C st X) (hs : st.s = 1) (a b : List Opt) (av bv : Value) (ok : Nat -> Prop) (ha : Opts w ok av a) (hb : Opts w ok bv b) (hal : a.length <= 1000000) (hbl : b.length <= 1000000)
 (hav : ∀ o ∈ a, o.v.size <= maxLen) (hbv : ∀ o ∈ b, o.v.size <= maxLen) (hp : putE a ≠ 0 \/ putE b ≠ 0) :
 Calls Tryz.prog 47 #[.pointer (some ⟨B.nb, 0, none⟩), av, bv] w fun e w' => e = .returned (.int .i64 (if putE a ≠ 0 then putE a else putE b)) /\ Below w.heap.size w w' := by
 obtain ⟨R, hR⟩ : ∃ R : Int, R = (if putE a ≠ 0 then putE a else putE b) := ⟨_, rfl⟩; rw [<- hR]; have HR := H_ hR; clear hR; have H := H_ (A_ (nnone_at h) (State_at h)); rw [hs] at H; obtain ⟨sa, ca, rfl, -, -⟩ := ha.form; obtain ⟨sb, cb, rfl, -, -⟩ := hb.form; have HP := H_ (A_ (fun W (hW : Below w.heap.size w W) => put_any' a _ ok W (ha.below hW) hal hav) (fun W (hW : Below w.heap.size w W) => put_any' b _ ok W (hb.below hW) hbl hbv)); have HQ := H_ hp; clear h hs ha hb hal hbl hav hbv hp; generalize a.length = na at *; generalize b.length = nb at *; have b1 : Below w.heap.size w (w.alloc (.cells #[.slice sa na ca, .slice sb nb cb] 62 (0, 0))) := (Below.refl _ _).alloc (Nat.le_refl _) _; have z1 := at1 w (.cells #[.slice sa na ca, .slice sb nb cb] 62 (0, 0)); have HB := H_ (A_ b1 z1); clear b1 z1; go_enter Tryz.func47, Tryz.ntmps47
 go_wp2_with (first
  | (go_at_call 158; refine H.out.1.mono ?_; rintro e w1 ⟨rfl, rfl⟩)
  | (go_at_call 56; refine H.out.2.mono ?_; rintro e w1 ⟨rfl, rfl⟩))
 go_loopg [26] 2 (fun x i wr => ∃ k : Nat, k <= 1 /\ x = 2 - k /\ i = .int .i64 k /\ Hid (Below (w.alloc (.cells #[.slice sa na ca, .slice sb nb cb] 62 (0, 0))).heap.size (w.alloc (.cells #[.slice sa na ca, .slice sb nb cb] 62 (0, 0))) wr /\ (k = 1 -> putE a = 0)))
 case atStart => exact ⟨0, by omega, by omega, rfl, Below.refl _ _, fun h => absurd h (by decide)⟩
 case round =>
  obtain ⟨k, hk, rfl, rfl, hK⟩ := hrel; have HK := H_ hK.out; clear hK; have hlt : w.heap.size < (w.alloc (.cells #[.slice sa na ca, .slice sb nb cb] 62 (0, 0))).heap.size := by rw [alloc1]; omega
  have z2 := (HK.out.1.block w.heap.size hlt).trans HB.out.2; have b2 : Below w.heap.size w wr := HB.out.1.trans (HK.out.1.mono (Nat.le_of_lt hlt)); have HB2 := H_ b2; have x0 := cellOf z2 0 _ rfl; have x1 := cellOf z2 1 _ rfl; clear z2 b2 hlt
  by_cases h0 : k = 0
  . subst h0; go_wp2_with fail; refine (HP.out.1 _ HB2.out).mono ?_; rintro e w3 ⟨rfl, b3⟩; have HB3 := H_ b3; clear b3
    by_cases hp : putE a = 0
    . have HP0 := H_ hp; rw [hp]; clear hp; go_wp2_with fail
      go_roundg 1
      case measure => omega
      case rel => exact ⟨1, by omega, rfl, by go_num, HK.out.1.trans (HB3.out.mono HK.out.1.size), fun _ => HP0.out⟩
    . have HX0 := H_ hp; have d1 : (putE a != 0) = true := by simp [hp]
      have HX := H_ hp; clear hp; go_wp2_with fail; go_ret; exact ⟨by rw [HR.out, if_pos HX.out]; rfl, HB2.out.trans (HB3.out.mono HB2.out.size)⟩
  . obtain rfl : k = 1 := by omega
    go_wp2_with fail; refine (HP.out.2 _ HB2.out).mono ?_; rintro e w3 ⟨rfl, b3⟩; have HB3 := H_ b3; have hp : putE b ≠ 0 := HQ.out.resolve_left (fun h => h (HK.out.2 (by trivial))); have HP0 := H_ (HK.out.2 (by trivial)); clear b3; have d1 : (putE b != 0) = true := by simp [hp]
    have HX := H_ hp; clear hp; go_wp2_with fail; go_ret; exact ⟨by rw [HR.out, if_neg (fun h => h HP0.out)]; rfl, HB2.out.trans (HB3.out.mono HB2.out.size)⟩
set_option maxRecDepth 100000 in
theorem Adopt_ok1 (h : NegAt w S B C st X) (hs : st.s = 1) (a b : List Opt) (av bv : Value) (ok : Nat -> Prop) (ha : Opts w ok av a) (hb : Opts w ok bv b) (hal : a.length <= 1000000) (hbl : b.length <= 1000000)
 (hav : ∀ o ∈ a, o.v.size <= maxLen) (hbv : ∀ o ∈ b, o.v.size <= maxLen) (hp : putE a = 0 /\ putE b = 0) (hok : ∀ b, ok b -> ¬ B.t b) :
 Calls Tryz.prog 47 #[.pointer (some ⟨B.nb, 0, none⟩), av, bv] w fun e w' => e = .returned (.int .i64 0) /\ NegV w' (Grow S w) B C { st with s := 9, mine := a, theirs := b, ups := wrap64 (st.ups + 1) } /\ Keep B.t w w' := by
 have H := H_ (A_ (nnone_at h) (State_at h)); rw [hs] at H; have HN := H_ h; obtain ⟨sa, ca, rfl, -, -⟩ := ha.form; obtain ⟨sb, cb, rfl, -, -⟩ := hb.form; have HP := H_ (A_ (fun W (hW : Below w.heap.size w W) => put_any' a _ ok W (ha.below hW) hal hav) (fun W (hW : Below w.heap.size w W) => put_any' b _ ok W (hb.below hW) hbl hbv)); rw [hp.1, hp.2] at HP; have HAB := H_ (A_ ha (A_ hb (A_ hal (A_ hbl hok)))); clear h hs ha hb hav hbv hp hok; have HL : Hid (∃ na nb, na = a.length /\ nb = b.length) := H_ ⟨_, _, rfl, rfl⟩; have b1 : Below w.heap.size w (w.alloc (.cells #[.slice sa a.length ca, .slice sb b.length cb] 62 (0, 0))) := (Below.refl _ _).alloc (Nat.le_refl _) _; have z1 := at1 w (.cells #[.slice sa a.length ca, .slice sb b.length cb] 62 (0, 0)); have HB := H_ (A_ b1 z1); clear b1 z1; go_enter Tryz.func47, Tryz.ntmps47
 go_wp2_with (first
  | (go_at_call 158; refine H.out.1.mono ?_; rintro e w1 ⟨rfl, rfl⟩)
  | (go_at_call 56; refine H.out.2.mono ?_; rintro e w1 ⟨rfl, rfl⟩))
 go_loopg [26] 2 (fun x i wr => ∃ k : Nat, k <= 2 /\ x = 2 - k /\ i = .int .i64 k /\ Hid (Below (w.alloc (.cells #[.slice sa a.length ca, .slice sb b.length cb] 62 (0, 0))).heap.size (w.alloc (.cells #[.slice sa a.length ca, .slice sb b.length cb] 62 (0, 0))) wr))
 case atStart => exact ⟨0, by omega, by omega, rfl, Below.refl _ _⟩
 case round =>
  obtain ⟨k, hk, rfl, rfl, hK⟩ := hrel; have HK := H_ hK.out; clear hK; have hlt : w.heap.size < (w.alloc (.cells #[.slice sa a.length ca, .slice sb b.length cb] 62 (0, 0))).heap.size := by rw [alloc1]; omega
  have z2 := (HK.out.block w.heap.size hlt).trans HB.out.2; have b2 : Below w.heap.size w wr := HB.out.1.trans (HK.out.mono (Nat.le_of_lt hlt)); have HB2 := H_ b2; have x0 := cellOf z2 0 _ rfl; have x1 := cellOf z2 1 _ rfl; clear z2 b2 hlt
  by_cases h0 : k = 0
  . subst h0; go_wp2_with fail; refine (HP.out.1 _ HB2.out).mono ?_; rintro e w3 ⟨rfl, b3⟩; have HB3 := H_ b3; clear b3; go_wp2_with fail
    go_roundg 1
    case measure => omega
    case rel => exact ⟨1, by omega, rfl, by go_num, HK.out.trans (HB3.out.mono HK.out.size)⟩
  . by_cases h1 : k = 1
    . subst h1; go_wp2_with fail; refine (HP.out.2 _ HB2.out).mono ?_; rintro e w3 ⟨rfl, b3⟩; have HB3 := H_ b3; clear b3; go_wp2_with fail
      go_roundg 0
      case measure => omega
      case rel => exact ⟨2, by omega, rfl, by go_num, HK.out.trans (HB3.out.mono HK.out.size)⟩
    . obtain rfl : k = 2 := by omega
      clear h0 h1; have hn := HN.out.below HB2.out; have g0 : wr.cell? ⟨B.nb, 0, none⟩ = some (.pointer (some ⟨B.ab, 0, none⟩)) := hn.cell 0; have HA := H_ (A_ hn (aadopt_any B.ab st.s st.c C.cf C.tm wr hn.aut hn.ok.cf.1)); clear hn
      go_wp2_with (go_at_call 164; refine HA.out.2.mono ?_; rintro e w4 ⟨rfl, a4, k4⟩; have H4 := H_ (A_ a4 k4); clear a4 k4)
      have h4 := HA.out.1.auto H4.out.2 9 st.c H4.out.1 HA.out.1.ib (by decide); have oa4 : Opts w4 ok (.slice sa a.length ca) a := Rec.keep (HAB.out.1.below HB2.out) H4.out.2 (fun b _ ho he => HAB.out.2.2.2.2 b ho (.inr (.inl he))); have ob4 : Opts w4 ok (.slice sb b.length cb) b := Rec.keep (HAB.out.2.1.below HB2.out) H4.out.2 (fun b _ ho he => HAB.out.2.2.2.2 b ho (.inr (.inl he))); have HC := H_ (A_ (clone_any a _ ok w4 oa4 hal) (A_ h4 ob4)); clear h4 oa4 ob4; refine HC.out.1.mono ?_; rintro e w5 ⟨v5, rfl, r5, b5⟩; obtain ⟨qa, qc, rfl⟩ := r5.form; have HD := H_ (A_ (clone_any b _ ok w5 (HC.out.2.2.below b5) hbl) (A_ r5 b5)); clear r5 b5; go_wp2_with fail; refine HD.out.1.mono ?_; rintro e w6 ⟨v6, rfl, r6, b6⟩; obtain ⟨pa, pc, rfl⟩ := r6.form; have h6 := (HC.out.2.1.below HD.out.2.2).below b6; have f15 := h6.fz 15; have f16 := h6.fz 16; have f17 := h6.fz 17; have c15 : w6.cell? ⟨B.nb, 15, none⟩ = some X.mine := h6.cell 15; have c16 : w6.cell? ⟨B.nb, 16, none⟩ = some X.theirs := h6.cell 16; have c17 : w6.cell? ⟨B.nb, 17, none⟩ = some (.int .i64 st.ups) := h6.cell 17; have HE := H_ (A_ h6 (A_ r6 b6)); clear h6 r6 b6; go_wp2_with fail; go_ret; have hs4 : w.heap.size <= w4.heap.size := Nat.le_trans HB2.out.size H4.out.2.size; have hnl : B.nb < w4.heap.size := HC.out.2.1.nlt; have k6 : Keep (fun b => b = B.nb) w4 w6 := (Keep.of_below _ HD.out.2.2).trans (Keep.of_below _ HE.out.2.2); have kF := ((k6.trans (keepC B w6 15 (.slice qa a.length qc))).trans (keepC B _ 16 (.slice pa b.length pc))).trans (keepC B _ 17 (.int .i64 (wrap64 (st.ups + 1)))); have kG := ((keepC B w6 15 (.slice qa a.length qc)).trans (keepC B _ 16 (.slice pa b.length pc))).trans (keepC B _ 17 (.int .i64 (wrap64 (st.ups + 1)))); have bF := set_block (set_block (set_block HE.out.1.blk 15 (.slice qa a.length qc)) 16 (.slice pa b.length pc)) 17 (.int .i64 (wrap64 (st.ups + 1))); have rm := ((HD.out.2.1.below HE.out.2.2).keep kG (fun k hk he => by have := (HD.out.2.1.lt k hk).2; omega)).opts (by unfold maxLen; omega); have rt := (HE.out.2.1.keep kG (fun k hk he => by have := (HE.out.2.1.lt k hk).2; have := HD.out.2.2.size; omega)).opts (by unfold maxLen; omega)
      have hF := NegAt.turn (st' := { st with s := 9, mine := a, theirs := b, ups := wrap64 (st.ups + 1) }) (X' := { X with mine := .slice qa a.length qc, theirs := .slice pa b.length pc }) HC.out.2.1 kF bF ⟨rfl, rfl, rfl, rfl⟩ ⟨rfl, rfl, rfl⟩ HC.out.2.1.id
       (Rec.mono rm (fun b hb => ⟨.inr hb, fun ht => by have := HC.out.2.1.tlt ht; have hb : w4.heap.size <= b := hb; omega⟩))
       (Rec.mono rt (fun b hb => ⟨.inr (Nat.le_trans HD.out.2.2.size hb), fun ht => by have := HC.out.2.1.tlt ht; have hb : w5.heap.size <= b := hb; have := HD.out.2.2.size; omega⟩)) hal hbl
      refine ⟨rfl, ⟨_, hF.mono (fun b hb => hb.elim .inl (fun h => .inr (Nat.le_trans hs4 h)))⟩, ?_⟩; exact (Keep.of_below _ HB2.out).trans ((H4.out.2.mono (fun b _ h => .inr (.inl h))).trans (kF.mono (fun b _ h => .inl h)))
end
end Go.Proofs.YtignponfoheaeaaGreat
