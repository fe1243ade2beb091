import Derived.Test.YthhdackaopaojaaGreatV33
import Derived.Test.YthhdackaopaojaaGreatTgHeld
import Derived.Great.Walk
namespace Go.Proofs.YthhdackaopaojaaGreat
open Go.RowKit Go.Tg Go.Maps

set_option maxHeartbeats 1000000 in
/-- As bad_any, of a value of any size. -/
theorem bad_any' (o : Opt) (w : World) (hv : o.v.size ≤ maxLen) :
    Calls Tryz.prog 52 #[.agg #[.int .i64 o.t, .string o.v]] w fun e w' => e = .returned (.bool (badO o)) ∧ Below w.heap.size w w' := by
  obtain ⟨t, v⟩ := o
  simp only at hv
  unfold maxLen at hv
  have hb0 : Below w.heap.size w (w.alloc (.cells #[.int .i64 t, .string v] 67 (0, 0))) := (Below.refl _ _).alloc (Nat.le_refl _) _
  have HI := Lib.hid (fun W => in_any t 1 255 W)
  have HB := Lib.hid hb0
  have HQ := Lib.hid (show badO ⟨t, v⟩ = (!(decide (1 ≤ t) && decide (t ≤ 255)) || decide (253 < v.size)) from rfl)
  have hdv : decide ((253 : Int) < (v.size : Int)) = decide (253 < v.size) := by simp only [decide_eq_decide]; omega
  generalize (decide (1 ≤ t) && decide (t ≤ 255)) = y at HI HQ
  clear hb0
  go_enter Tryz.func52, Tryz.ntmps52
  go_wp2_with fail
  refine (HI.out _).mono ?_
  rintro e w' ⟨rfl, rfl⟩
  cases y with
  | true =>
    go_wp2_with fail
    go_ret
    exact ⟨by rw [HQ.out]; simp, HB.out⟩
  | false =>
    go_wp2_with fail
    go_ret
    exact ⟨by rw [HQ.out]; rfl, HB.out⟩

set_option maxHeartbeats 4000000 in
set_option maxRecDepth 100000 in
theorem put_any' (l : List Opt) (lv : Value) (ok : Nat → Prop) (w : World) (hl : Opts w ok lv l) (hmax : l.length ≤ 1000000) (hv : ∀ o ∈ l, o.v.size ≤ maxLen) :
    Calls Tryz.prog 19 #[lv] w fun e w' => e = .returned (.tuple #[.string (putS l), .int .i64 (putE l)]) ∧ Below w.heap.size w w' := by
  have HC := Lib.hid (containsO_any l lv ok 52 #[] badO w hl hmax (enters_of Tryz.func52 (by kernel_rfl) rfl) (fun W o ho hW => by
    refine (bad_any' o W (hv o ho)).mono ?_
    rintro e w' ⟨rfl, hb⟩
    exact ⟨rfl, hW.trans (hb.mono hW.size)⟩))
  obtain ⟨sa, c, rfl, hc, hm⟩ := hl.form
  have HL := Lib.hid hl
  obtain ⟨len, hln⟩ : ∃ len, len = l.length := ⟨_, rfl⟩
  have HLN := Lib.hid hln
  rw [← hln] at hc hmax HC ⊢
  unfold maxLen at hm
  by_cases h30 : 30 < len
  · have HS := Lib.hid (show putE l = 2 from by unfold putE; rw [if_pos (by omega)])
    have HT := Lib.hid (show putS l = ⟨#[]⟩ from by unfold putS; rw [HS.out]; rfl)
    have hd : decide ((30 : Int) < (len : Int)) = true := by simp; omega
    clear hl hv hln
    go_enter Tryz.func19, Tryz.ntmps19
    go_wp2_with fail
    go_ret2
    exact ⟨by rw [HS.out, HT.out]; rfl, Below.refl _ _⟩
  · have hd : decide ((30 : Int) < (len : Int)) = false := by simp; omega
    cases hbad : l.any badO with
    | true =>
      have HS := Lib.hid (show putE l = 1 from by unfold putE; rw [if_neg (by omega), if_pos hbad])
      have HT := Lib.hid (show putS l = ⟨#[]⟩ from by unfold putS; rw [HS.out]; rfl)
      rw [hbad] at HC
      clear hl hv hln hbad
      go_enter Tryz.func19, Tryz.ntmps19
      go_wp2_with fail
      refine HC.out.mono ?_
      rintro e w' ⟨rfl, hb⟩
      go_wp2_with fail
      go_ret2
      exact ⟨by rw [HS.out, HT.out]; rfl, hb⟩
    | false =>
      have HS := Lib.hid (show putE l = 0 from by unfold putE; rw [if_neg (by omega), if_neg (by rw [hbad]; decide)])
      have HT := Lib.hid (show putS l = putB l from by unfold putS; rw [HS.out]; rfl)
      rw [hbad] at HC
      have HG : Hid (∀ o ∈ l, 1 ≤ o.t ∧ o.t ≤ 255 ∧ o.v.size ≤ 253) := Lib.hid (by
        intro o ho
        rw [List.any_eq_false] at hbad
        have := hbad o ho
        simp [badO] at this
        omega)
      clear hl hv hln hbad
      go_enter Tryz.func19, Tryz.ntmps19
      go_wp2_with fail
      refine HC.out.mono ?_
      rintro e w' ⟨rfl, hb⟩
      have HB := Lib.hid hb
      clear hb
      go_wp2_with fail
      go_loopg [4, 16] len (fun x s i wr => ∃ k : Nat, k ≤ len ∧ x = len - k ∧ i = .int .i64 k ∧ s = .string (putB (l.take k)) ∧ Hid (Below w.heap.size w wr))
      case atStart => exact ⟨0, by omega, by omega, rfl, rfl, HB.out⟩
      case round =>
        obtain ⟨k, hk, rfl, rfl, rfl, hK⟩ := hrel
        have HK := Lib.hid hK.out
        clear hK
        by_cases hkl : k < len
        · have hkl' : k < l.length := by have := HLN.out; omega
          obtain ⟨b, off, rfl, hb, -, -, -, -, c0, c1⟩ := HL.out.at k hkl'
          have d0 : wr.cell? ⟨b, off + k * 2, none⟩ = _ := (HK.out.cell (p := ⟨b, off + k * 2, none⟩) hb).trans c0
          have d1 : wr.cell? ⟨b, off + k * 2 + 1, none⟩ = _ := (HK.out.cell (p := ⟨b, off + k * 2 + 1, none⟩) hb).trans c1
          have hg := HG.out l[k] (List.getElem_mem hkl')
          have hps : (putB (l.take k)).size ≤ 255 * 30 := by
            have := putB_size (l.take k) (fun o ho => (HG.out o (List.mem_of_mem_take ho)).2.2)
            rw [List.length_take] at this
            omega
          have HP := Lib.hid (show putB (l.take (k + 1)) = putB (l.take k) ++ optB l[k] from by rw [List.take_succ_eq_append_getElem hkl', putB_snoc])
          clear c0 c1
          generalize putB (l.take k) = out at *
          generalize l[k] = o at *
          obtain ⟨t, v⟩ := o
          simp only at d0 d1 hg
          obtain ⟨t, rfl⟩ := Int.eq_ofNat_of_zero_le (show (0 : Int) ≤ t by omega)
          simp only [Int.toNat_natCast, optB] at HP
          have hcv : (convert 55 9 (.slice (some ⟨wr.heap.size + 1, 0, none⟩) 2 2)).run Tryz.prog ((wr.alloc (.cells #[.int .i64 (t : Int), .string v] 67 (0, 0))).alloc (.cells #[.int .u8 (t : Int), .int .u8 ((v.size : Int) + 2)] 5 (0, 0))) =
              .ok (.string (ByteArray.mk #[UInt8.ofNat t, UInt8.ofNat (v.size + 2)])) ((wr.alloc (.cells #[.int .i64 (t : Int), .string v] 67 (0, 0))).alloc (.cells #[.int .u8 (t : Int), .int .u8 ((v.size : Int) + 2)] 5 (0, 0))) := by
            have hx := at21 wr (.cells #[.int .i64 (t : Int), .string v] 67 (0, 0)) (.cells #[.int .u8 (t : Int), .int .u8 ((v.size : Int) + 2)] 5 (0, 0))
            refine run_convert_bytes_back (P := Tryz.prog) _ 55 9 5 ⟨wr.heap.size + 1, 0, none⟩ 2 [UInt8.ofNat t, UInt8.ofNat (v.size + 2)] Tryz.underlying55 Tryz.underlying5 Tryz.underlying9 (fun j hj => ?_)
            rw [Addr.add_lit, Nat.zero_add]
            have e1 : (UInt8.ofNat t).toNat = t := by rw [UInt8.toNat_ofNat']; omega
            have e2 : (UInt8.ofNat (v.size + 2)).toNat = v.size + 2 := by rw [UInt8.toNat_ofNat']; omega
            match j, hj with
            | 0, _ => simp only [List.getElem_cons_zero]; rw [e1]; exact cellOf hx 0 _ rfl
            | 1, _ => simp only [List.getElem_cons_zero, List.getElem_cons_succ]; rw [e2]; exact cellOf hx 1 _ rfl
          have hs2 : (ByteArray.mk #[UInt8.ofNat t, UInt8.ofNat (v.size + 2)]).size = 2 := rfl
          generalize ByteArray.mk #[UInt8.ofNat t, UInt8.ofNat (v.size + 2)] = hd2 at hcv hs2 HP
          have hs3 : (hd2 ++ v).size = 2 + v.size := by rw [ByteArray.size_append, hs2]
          have HB2 := Lib.hid ((HK.out.alloc HK.out.size (.cells #[.int .i64 (t : Int), .string v] 67 (0, 0))).alloc (by rw [alloc1]; have := HK.out.size; omega) (.cells #[.int .u8 (t : Int), .int .u8 ((v.size : Int) + 2)] 5 (0, 0)))
          go_wp2_with fail
          go_roundg (len - (k + 1))
          case measure => omega
          case rel => exact ⟨k + 1, by omega, rfl, by go_num, by rw [HP.out], HB2.out⟩
        · obtain rfl : len = k := by omega
          have HQ := Lib.hid (show l.take len = l from List.take_of_length_le (by have := HLN.out; omega))
          rw [HQ.out]
          go_wp2_with fail
          go_ret2
          exact ⟨by rw [HS.out, HT.out]; rfl, HK.out⟩

set_option maxHeartbeats 1000000 in
theorem aadopt_any (b : Nat) (s c cf tm : Int) (w : World) (h : AutoAt w b s c cf tm) (h0 : 1 ≤ cf) :
    Calls Tryz.prog 84 #[.pointer (some ⟨b, 0, none⟩)] w fun e w' => e = .returned (.tuple #[]) ∧ AutoAt w' b 9 c cf tm ∧ Keep (fun k => k = b) w w' := by
  have hc := h.c0
  have hf := h.fz 0
  have H := Lib.hid (And.intro h (none_some _ _ _ _ _ _ h h0))
  clear h
  go_enter Tryz.func84, Tryz.ntmps84
  go_wp2_with (go_at_call 103; refine H.out.2.mono ?_; rintro e w' ⟨rfl, rfl⟩)
  go_end0
  exact ⟨rfl, H.out.1.set0 9, (Keep.refl (fun k => k = b) w).setCell ⟨b, 0, none⟩ (Or.inr rfl) _⟩

section
variable {w : World} {S : Nat → Prop} {B : NegB} {C : NegC} {st : NSt} {X : NegX} {jb : Nat}

set_option maxHeartbeats 1000000 in
theorem Ups_at (h : NegAt w S B C st X) : Calls Tryz.prog 40 #[.pointer (some ⟨B.nb, 0, none⟩)] w fun e w' => e = .returned (.tuple #[.int .i64 st.ups, .int .i64 st.downs]) ∧ Below w.heap.size w w' := by
  have g0 : w.cell? ⟨B.nb, 17, none⟩ = some (.int .i64 st.ups) := h.cell 17
  have g1 : w.cell? ⟨B.nb, 18, none⟩ = some (.int .i64 st.downs) := h.cell 18
  have H := Lib.hid (nnone_at h)
  clear h
  go_enter Tryz.func40, Tryz.ntmps40
  go_wp2_with (go_at_call 77; refine H.out.mono ?_; rintro e w1 ⟨rfl, rfl⟩)
  go_quiet (fail)
  go_wp2_with fail
  go_ret2
  exact ⟨rfl, belowN (Below.refl _ _) _⟩

set_option maxHeartbeats 1000000 in
theorem Adopt_late (h : NegAt w S B C st X) (hs : st.s ≠ 0 ∧ st.s ≠ 1) (a b : Option Addr) (n c n' c' : Nat) : Calls Tryz.prog 56 #[.pointer (some ⟨B.nb, 0, none⟩), .slice a n c, .slice b n' c'] w fun e w' => e = .returned (.int .i64 20) ∧ w = w' := by
  have H := Lib.hid (And.intro (nnone_at h) (State_at h))
  clear h
  obtain ⟨hs1, hs2⟩ := hs
  have d1 : (st.s != 1) = true := by simp [hs2]
  have d2 : (st.s != 0) = true := by simp [hs1]
  clear hs1 hs2
  generalize st.s = s at *
  go_enter Tryz.func56, Tryz.ntmps56
  go_wp2_with (first
    | (go_at_call 77; refine H.out.1.mono ?_; rintro e w1 ⟨rfl, rfl⟩)
    | (go_at_call 49; refine H.out.2.mono ?_; rintro e w1 ⟨rfl, rfl⟩))
  go_ret
  exact ⟨rfl, rfl⟩

set_option maxHeartbeats 4000000 in
set_option maxRecDepth 100000 in
theorem Adopt_bad (h : NegAt w S B C st X) (hs : st.s = 0) (a b : List Opt) (av bv : Value) (ok : Nat → Prop) (ha : Opts w ok av a) (hb : Opts w ok bv b) (hal : a.length ≤ 1000000) (hbl : b.length ≤ 1000000)
    (hav : ∀ o ∈ a, o.v.size ≤ maxLen) (hbv : ∀ o ∈ b, o.v.size ≤ maxLen) (hp : putE a ≠ 0 ∨ putE b ≠ 0) :
    Calls Tryz.prog 56 #[.pointer (some ⟨B.nb, 0, none⟩), av, bv] w fun e w' => (∃ x : Int, e = .returned (.int .i64 x) ∧ x ≠ 0) ∧ Below w.heap.size w w' := by
  have H := Lib.hid (And.intro (nnone_at h) (State_at h))
  rw [hs] at H
  obtain ⟨sa, ca, rfl, -, -⟩ := ha.form
  obtain ⟨sb, cb, rfl, -, -⟩ := hb.form
  have HP := Lib.hid (And.intro (fun W (hW : Below w.heap.size w W) => put_any' a _ ok W (ha.below hW) hal hav) (fun W (hW : Below w.heap.size w W) => put_any' b _ ok W (hb.below hW) hbl hbv))
  have HQ := Lib.hid hp
  clear h hs ha hb hal hbl hav hbv hp
  generalize a.length = na at *
  generalize b.length = nb at *
  have b1 : Below w.heap.size w (w.alloc (.cells #[.slice sa na ca, .slice sb nb cb] 36 (0, 0))) := (Below.refl _ _).alloc (Nat.le_refl _) _
  have z1 := at1 w (.cells #[.slice sa na ca, .slice sb nb cb] 36 (0, 0))
  have HB := Lib.hid (And.intro b1 z1)
  clear b1 z1
  go_enter Tryz.func56, Tryz.ntmps56
  go_wp2_with (first
    | (go_at_call 77; refine H.out.1.mono ?_; rintro e w1 ⟨rfl, rfl⟩)
    | (go_at_call 49; refine H.out.2.mono ?_; rintro e w1 ⟨rfl, rfl⟩))
  go_loopg [26] 2 (fun x i wr => ∃ k : Nat, k ≤ 1 ∧ x = 2 - k ∧ i = .int .i64 k ∧ Hid (Below (w.alloc (.cells #[.slice sa na ca, .slice sb nb cb] 36 (0, 0))).heap.size (w.alloc (.cells #[.slice sa na ca, .slice sb nb cb] 36 (0, 0))) wr ∧ (k = 1 → putE a = 0)))
  case atStart => exact ⟨0, by omega, by omega, rfl, Below.refl _ _, fun h => absurd h (by decide)⟩
  case round =>
    obtain ⟨k, hk, rfl, rfl, hK⟩ := hrel
    have HK := Lib.hid hK.out
    clear hK
    have hlt : w.heap.size < (w.alloc (.cells #[.slice sa na ca, .slice sb nb cb] 36 (0, 0))).heap.size := by rw [alloc1]; omega
    have z2 := (HK.out.1.block w.heap.size hlt).trans HB.out.2
    have b2 : Below w.heap.size w wr := HB.out.1.trans (HK.out.1.mono (Nat.le_of_lt hlt))
    have HB2 := Lib.hid b2
    have x0 := cellOf z2 0 _ rfl
    have x1 := cellOf z2 1 _ rfl
    clear z2 b2 hlt
    by_cases h0 : k = 0
    · subst h0
      go_wp2_with fail
      refine (HP.out.1 _ HB2.out).mono ?_
      rintro e w3 ⟨rfl, b3⟩
      have HB3 := Lib.hid b3
      clear b3
      by_cases hp : putE a = 0
      · have HP0 := Lib.hid hp
        rw [hp]
        clear hp
        go_wp2_with fail
        go_roundg 1
        case measure => omega
        case rel => exact ⟨1, by omega, rfl, by go_num, HK.out.1.trans (HB3.out.mono HK.out.1.size), fun _ => HP0.out⟩
      · generalize putE a = x at hp ⊢
        have d1 : (x != 0) = true := by simp [hp]
        have HX := Lib.hid hp
        clear hp
        go_wp2_with fail
        go_ret
        exact ⟨⟨_, rfl, HX.out⟩, HB2.out.trans (HB3.out.mono HB2.out.size)⟩
    · obtain rfl : k = 1 := by omega
      go_wp2_with fail
      refine (HP.out.2 _ HB2.out).mono ?_
      rintro e w3 ⟨rfl, b3⟩
      have HB3 := Lib.hid b3
      have hp : putE b ≠ 0 := HQ.out.resolve_left (fun h => h (HK.out.2 (by trivial)))
      clear b3
      generalize putE b = x at hp ⊢
      have d1 : (x != 0) = true := by simp [hp]
      have HX := Lib.hid hp
      clear hp
      go_wp2_with fail
      go_ret
      exact ⟨⟨_, rfl, HX.out⟩, HB2.out.trans (HB3.out.mono HB2.out.size)⟩

set_option maxHeartbeats 4000000 in
set_option maxRecDepth 100000 in
theorem Adopt_ok (h : NegAt w S B C st X) (hs : st.s = 0) (hu : 0 ≤ st.ups ∧ st.ups ≤ 1000000000) (a b : List Opt) (av bv : Value) (ok : Nat → Prop) (ha : Opts w ok av a) (hb : Opts w ok bv b) (hal : a.length ≤ 1000000) (hbl : b.length ≤ 1000000)
    (hav : ∀ o ∈ a, o.v.size ≤ maxLen) (hbv : ∀ o ∈ b, o.v.size ≤ maxLen) (hp : putE a = 0 ∧ putE b = 0) (hok : ∀ b, ok b → ¬ B.t b) :
    Calls Tryz.prog 56 #[.pointer (some ⟨B.nb, 0, none⟩), av, bv] w fun e w' => e = .returned (.int .i64 0) ∧ NegV w' (Grow S w) B C { st with s := 9, mine := a, theirs := b, ups := st.ups + 1 } ∧ Keep B.t w w' := by
  have H := Lib.hid (And.intro (nnone_at h) (State_at h))
  rw [hs] at H
  have HN := Lib.hid h
  obtain ⟨sa, ca, rfl, -, -⟩ := ha.form
  obtain ⟨sb, cb, rfl, -, -⟩ := hb.form
  have HP := Lib.hid (And.intro (fun W (hW : Below w.heap.size w W) => put_any' a _ ok W (ha.below hW) hal hav) (fun W (hW : Below w.heap.size w W) => put_any' b _ ok W (hb.below hW) hbl hbv))
  rw [hp.1, hp.2] at HP
  have HAB := Lib.hid (And.intro ha (And.intro hb (And.intro hal (And.intro hbl hok))))
  clear h hs ha hb hav hbv hp hok
  have HL : Hid (∃ na nb, na = a.length ∧ nb = b.length) := Lib.hid ⟨_, _, rfl, rfl⟩
  have b1 : Below w.heap.size w (w.alloc (.cells #[.slice sa a.length ca, .slice sb b.length cb] 36 (0, 0))) := (Below.refl _ _).alloc (Nat.le_refl _) _
  have z1 := at1 w (.cells #[.slice sa a.length ca, .slice sb b.length cb] 36 (0, 0))
  have HB := Lib.hid (And.intro b1 z1)
  clear b1 z1
  go_enter Tryz.func56, Tryz.ntmps56
  go_wp2_with (first
    | (go_at_call 77; refine H.out.1.mono ?_; rintro e w1 ⟨rfl, rfl⟩)
    | (go_at_call 49; refine H.out.2.mono ?_; rintro e w1 ⟨rfl, rfl⟩))
  go_loopg [26] 2 (fun x i wr => ∃ k : Nat, k ≤ 2 ∧ x = 2 - k ∧ i = .int .i64 k ∧ Hid (Below (w.alloc (.cells #[.slice sa a.length ca, .slice sb b.length cb] 36 (0, 0))).heap.size (w.alloc (.cells #[.slice sa a.length ca, .slice sb b.length cb] 36 (0, 0))) wr))
  case atStart => exact ⟨0, by omega, by omega, rfl, Below.refl _ _⟩
  case round =>
    obtain ⟨k, hk, rfl, rfl, hK⟩ := hrel
    have HK := Lib.hid hK.out
    clear hK
    have hlt : w.heap.size < (w.alloc (.cells #[.slice sa a.length ca, .slice sb b.length cb] 36 (0, 0))).heap.size := by rw [alloc1]; omega
    have z2 := (HK.out.block w.heap.size hlt).trans HB.out.2
    have b2 : Below w.heap.size w wr := HB.out.1.trans (HK.out.mono (Nat.le_of_lt hlt))
    have HB2 := Lib.hid b2
    have x0 := cellOf z2 0 _ rfl
    have x1 := cellOf z2 1 _ rfl
    clear z2 b2 hlt
    by_cases h0 : k = 0
    · subst h0
      go_wp2_with fail
      refine (HP.out.1 _ HB2.out).mono ?_
      rintro e w3 ⟨rfl, b3⟩
      have HB3 := Lib.hid b3
      clear b3
      go_wp2_with fail
      go_roundg 1
      case measure => omega
      case rel => exact ⟨1, by omega, rfl, by go_num, HK.out.trans (HB3.out.mono HK.out.size)⟩
    · by_cases h1 : k = 1
      · subst h1
        go_wp2_with fail
        refine (HP.out.2 _ HB2.out).mono ?_
        rintro e w3 ⟨rfl, b3⟩
        have HB3 := Lib.hid b3
        clear b3
        go_wp2_with fail
        go_roundg 0
        case measure => omega
        case rel => exact ⟨2, by omega, rfl, by go_num, HK.out.trans (HB3.out.mono HK.out.size)⟩
      · obtain rfl : k = 2 := by omega
        clear h0 h1
        have hn := HN.out.below HB2.out
        have g0 : wr.cell? ⟨B.nb, 0, none⟩ = some (.pointer (some ⟨B.ab, 0, none⟩)) := hn.cell 0
        have HA := Lib.hid (And.intro hn (aadopt_any B.ab st.s st.c C.cf C.tm wr hn.aut hn.ok.cf.1))
        clear hn
        go_wp2_with (go_at_call 84; refine HA.out.2.mono ?_; rintro e w4 ⟨rfl, a4, k4⟩; have H4 := Lib.hid (And.intro a4 k4); clear a4 k4)
        have h4 := HA.out.1.auto H4.out.2 9 st.c H4.out.1 HA.out.1.ib (by decide)
        have oa4 : Opts w4 ok (.slice sa a.length ca) a := Rec.keep (HAB.out.1.below HB2.out) H4.out.2 (fun b _ ho he => HAB.out.2.2.2.2 b ho (.inr (.inl he)))
        have ob4 : Opts w4 ok (.slice sb b.length cb) b := Rec.keep (HAB.out.2.1.below HB2.out) H4.out.2 (fun b _ ho he => HAB.out.2.2.2.2 b ho (.inr (.inl he)))
        have HC := Lib.hid (And.intro (clone_any a _ ok w4 oa4 hal) (And.intro h4 ob4))
        clear h4 oa4 ob4
        refine HC.out.1.mono ?_
        rintro e w5 ⟨v5, rfl, r5, b5⟩
        obtain ⟨qa, qc, rfl⟩ := r5.form
        have HD := Lib.hid (And.intro (clone_any b _ ok w5 (HC.out.2.2.below b5) hbl) (And.intro r5 b5))
        clear r5 b5
        go_wp2_with fail
        refine HD.out.1.mono ?_
        rintro e w6 ⟨v6, rfl, r6, b6⟩
        obtain ⟨pa, pc, rfl⟩ := r6.form
        have h6 := (HC.out.2.1.below HD.out.2.2).below b6
        have f15 := h6.fz 15
        have f16 := h6.fz 16
        have f17 := h6.fz 17
        have c15 : w6.cell? ⟨B.nb, 15, none⟩ = some X.mine := h6.cell 15
        have c16 : w6.cell? ⟨B.nb, 16, none⟩ = some X.theirs := h6.cell 16
        have c17 : w6.cell? ⟨B.nb, 17, none⟩ = some (.int .i64 st.ups) := h6.cell 17
        have HE := Lib.hid (And.intro h6 (And.intro r6 b6))
        obtain ⟨hu1, hu2⟩ := hu
        clear h6 r6 b6
        go_wp2_with fail
        go_ret
        have hs4 : w.heap.size ≤ w4.heap.size := Nat.le_trans HB2.out.size H4.out.2.size
        have hnl : B.nb < w4.heap.size := HC.out.2.1.nlt
        have k6 : Keep (fun b => b = B.nb) w4 w6 := (Keep.of_below _ HD.out.2.2).trans (Keep.of_below _ HE.out.2.2)
        have kF := ((k6.trans (keepC B w6 15 (.slice qa a.length qc))).trans (keepC B _ 16 (.slice pa b.length pc))).trans (keepC B _ 17 (.int .i64 (st.ups + 1)))
        have kG := ((keepC B w6 15 (.slice qa a.length qc)).trans (keepC B _ 16 (.slice pa b.length pc))).trans (keepC B _ 17 (.int .i64 (st.ups + 1)))
        have bF := set_block (set_block (set_block HE.out.1.blk 15 (.slice qa a.length qc)) 16 (.slice pa b.length pc)) 17 (.int .i64 (st.ups + 1))
        have rm := ((HD.out.2.1.below HE.out.2.2).keep kG (fun k hk he => by have := (HD.out.2.1.lt k hk).2; omega)).opts (by unfold maxLen; omega)
        have rt := (HE.out.2.1.keep kG (fun k hk he => by have := (HE.out.2.1.lt k hk).2; have := HD.out.2.2.size; omega)).opts (by unfold maxLen; omega)
        have hF := NegAt.turn (st' := { st with s := 9, mine := a, theirs := b, ups := st.ups + 1 }) (X' := { X with mine := .slice qa a.length qc, theirs := .slice pa b.length pc }) HC.out.2.1 kF bF ⟨rfl, rfl, rfl, rfl⟩ ⟨rfl, rfl, rfl⟩ HC.out.2.1.id
          (Rec.mono rm (fun b hb => ⟨.inr hb, fun ht => by have := HC.out.2.1.tlt ht; have hb : w4.heap.size ≤ b := hb; omega⟩))
          (Rec.mono rt (fun b hb => ⟨.inr (Nat.le_trans HD.out.2.2.size hb), fun ht => by have := HC.out.2.1.tlt ht; have hb : w5.heap.size ≤ b := hb; have := HD.out.2.2.size; omega⟩)) hal hbl
        refine ⟨rfl, ⟨_, hF.mono (fun b hb => hb.elim .inl (fun h => .inr (Nat.le_trans hs4 h)))⟩, ?_⟩
        exact (Keep.of_below _ HB2.out).trans ((H4.out.2.mono (fun b _ h => .inr (.inl h))).trans (kF.mono (fun b _ h => .inl h)))
end
end Go.Proofs.YthhdackaopaojaaGreat
