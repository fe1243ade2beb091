import Derived.Test.YthhdackaopaojaaGreatK30
import Derived.OpenShut
import Derived.Lib.SmallJoins
/- The law of what is asked. -/
namespace Go.Proofs.YthhdackaopaojaaGreat
open Go.RowKit Go.Tg Go.Maps

theorem pB2_val (x : Int) (h : 0 ≤ x ∧ x < 65536) : valB (pB2 x).data.toList = x := by
  have e : (pB2 x).data.toList = [byteOf (x / 256 % 256), byteOf (x % 256)] := rfl
  rw [e]
  simp only [valB, List.foldl_cons, List.foldl_nil]
  rw [byteOf_nat _ (md _), byteOf_nat _ (md _)]
  omega
theorem pB4_val (x : Int) (h : 0 ≤ x ∧ x < 4294967296) : valB (pB4 x).data.toList = x := by
  have e : (pB4 x).data.toList = [byteOf (x / 16777216 % 256), byteOf (x / 65536 % 256), byteOf (x / 256 % 256), byteOf (x % 256)] := rfl
  rw [e]
  simp only [valB, List.foldl_cons, List.foldl_nil]
  rw [byteOf_nat _ (md _), byteOf_nat _ (md _), byteOf_nat _ (md _), byteOf_nat _ (md _)]
  omega
theorem optsS_find (c : LCfg) : findO (optsS c) 1 = (if c.mru = 1492 then none else some ⟨1, pB2 c.mru⟩) ∧ findO (optsS c) 3 = (if c.auth = 0 then none else some ⟨3, lvalS c.auth⟩) ∧ findO (optsS c) 5 = (if c.magic = 0 then none else some ⟨5, pB4 c.magic⟩) := by
  unfold optsS optsS2 optsS1 findO
  by_cases h1 : c.mru = 1492 <;> by_cases h2 : c.auth = 0 <;> by_cases h3 : c.magic = 0 <;> simp [h1, h2, h3]

set_option maxHeartbeats 16000000 in
set_option maxRecDepth 100000 in
theorem lcpAsks_any (c : LCfg) (w : World) (ha : I64 c.auth) :
    Calls Tryz.prog 4 #[cfgV c] w fun e w' => e = .returned (.bool true) ∧ Below w.heap.size w w' := by
  have hb0 := (Below.refl w.heap.size w).alloc (Nat.le_refl _) (.cells #[.int .i64 c.mru, .int .i64 c.auth, .int .i64 c.magic, .int .i64 c.echo, .int .i64 c.cf, .int .i64 c.tm, .int .i64 c.fl, .int .i64 c.wt] 24 (0, 0))
  have hz := at1 w (.cells #[.int .i64 c.mru, .int .i64 c.auth, .int .i64 c.magic, .int .i64 c.echo, .int .i64 c.cf, .int .i64 c.tm, .int .i64 c.fl, .int .i64 c.wt] 24 (0, 0))
  have hs := alloc1 w (.cells #[.int .i64 c.mru, .int .i64 c.auth, .int .i64 c.magic, .int .i64 c.echo, .int .i64 c.cf, .int .i64 c.tm, .int .i64 c.fl, .int .i64 c.wt] 24 (0, 0))
  have HB0 := Lib.hid (And.intro hb0 (And.intro hz hs))
  have HO := Lib.hid (fun W => lopts_any c W ha)
  have HAL := Lib.hid lalive_any
  -- whether it is made
  have hnew : (∀ W, Calls Tryz.prog 12 #[cfgV c, .pointer none] W fun e w' => LFail W w' e) ∨ (c.Ok ∧ ∀ W, Calls Tryz.prog 12 #[cfgV c, .pointer none] W fun e w' => ∃ p, e = .returned (.tuple #[.pointer p, .int .i64 0]) ∧ Below W.heap.size W w') := by
    by_cases hbad : lcfgBad c
    · exact .inl (fun W => lnew_bad1 c ha hbad _ W)
    · have h1 : c.Ok1 := by
        unfold lcfgBad at hbad
        exact ⟨by omega, by omega, by omega, by omega⟩
      by_cases h2 : inB20 c.cf = false ∨ inB20 c.tm = false ∨ c.fl < 0 ∨ 20 < c.fl ∨ c.wt < 1 ∨ 100 < c.wt
      · exact .inl (fun W => lnew_bad2 c h1 h2 W)
      · have hok : c.Ok := ⟨h1.mru, h1.auth, h1.magic, h1.echo, by cases h : inB20 c.cf with | true => rfl | false => exact absurd (.inl h) h2, by cases h : inB20 c.tm with | true => rfl | false => exact absurd (.inr (.inl h)) h2, by omega, by omega⟩
        refine .inr ⟨hok, fun W => (lnew_nil c hok W).mono ?_⟩
        rintro e w' ⟨tb, okt, ⟨L, S, X, h1, h2, h3, h4, h5, h6⟩, h7, h8⟩
        exact ⟨_, h1, h6⟩
  unfold cfgV at hnew HO ⊢
  clear hb0 hz hs
  rcases hnew with hf | ⟨hok, hn⟩
  · have HF := Lib.hid hf
    clear hf ha
    go_enter Tryz.func4, Tryz.ntmps4
    go_wp2_with fail
    refine (HF.out _).mono ?_
    rintro e w1 ⟨rfl, b1⟩
    have z1 := (b1.block w.heap.size (by rw [HB0.out.2.2]; omega)).trans HB0.out.2.1
    have HB1 := Lib.hid (HB0.out.1.trans (b1.mono HB0.out.1.size))
    have x0 := cellOf z1 0 _ rfl
    have x1 := cellOf z1 1 _ rfl
    have x2 := cellOf z1 2 _ rfl
    have x3 := cellOf z1 3 _ rfl
    have x4 := cellOf z1 4 _ rfl
    have x5 := cellOf z1 5 _ rfl
    have x6 := cellOf z1 6 _ rfl
    have x7 := cellOf z1 7 _ rfl
    clear b1 z1
    go_wp2_with fail
    refine (HO.out _).mono ?_
    rintro e w2 ⟨v2, rfl, -, b2⟩
    go_wp2_with (go_at_call 11; refine (HAL.out _).mono ?_; rintro e w3 ⟨rfl, b3⟩)
    go_ret
    exact ⟨rfl, HB1.out.trans ((b2.trans (b3.mono b2.size)).mono HB1.out.size)⟩
  · have HN := Lib.hid hn
    obtain ⟨f1, f3, f5⟩ := optsS_find c
    obtain ⟨o1, o2, o3, o4⟩ := optsS_ok c hok.auth
    have HFD := Lib.hid (fun W lv okp k (hl : Opts W okp lv (optsS c)) => findO_any (optsS c) lv okp k W hl (by omega))
    have HPU := Lib.hid (fun W lv okp (hl : Opts W okp lv (optsS c)) => put_any (optsS c) lv okp W hl (by omega) (fun o ho => Nat.le_trans (o1 o ho) (by decide)))
    rw [o2] at HPU
    have HL4 := Lib.hid o4
    have hu : ((findO (optsS c) 1).getD default).v.size ≤ 7 ∧ ((c.mru != 1492) = true → valB ((findO (optsS c) 1).getD default).v.data.toList = c.mru) := by
      rw [f1]
      by_cases h : c.mru = 1492
      · rw [if_pos h]; exact ⟨by decide, fun h' => by simp [h] at h'⟩
      · rw [if_neg h]; exact ⟨by show (pB2 c.mru).size ≤ 7; rw [show (pB2 c.mru).size = 2 from rfl]; decide, fun _ => pB2_val _ (by have := hok.mru; omega)⟩
    have hm : ((findO (optsS c) 5).getD default).v.size ≤ 7 ∧ ((c.magic != 0) = true → valB ((findO (optsS c) 5).getD default).v.data.toList = c.magic) := by
      rw [f5]
      by_cases h : c.magic = 0
      · rw [if_pos h]; exact ⟨by decide, fun h' => by simp [h] at h'⟩
      · rw [if_neg h]; exact ⟨by show (pB4 c.magic).size ≤ 7; rw [show (pB4 c.magic).size = 4 from rfl]; decide, fun _ => pB4_val _ (by have := hok.magic; omega)⟩
    have hA : (c.auth != 0) = true → (((findO (optsS c) 3).getD default).v.toList == [192, 35]) = (c.auth == 49187) := by
      intro h'
      rw [show ([192, 35] : List UInt8) = (⟨#[192, 35]⟩ : ByteArray).toList from by rw [ByteArray.toList_eq]]
      have h : ¬ c.auth = 0 := by simpa using h'
      rw [f3, if_neg h, tl_eq]
      rcases hok.auth with h1 | h1 | h1
      · exact absurd h1 h
      · rw [h1]; decide
      · rw [h1]; decide
    have i1 : (findO (optsS c) 1).isSome = (c.mru != 1492) := by rw [f1]; by_cases h : c.mru = 1492 <;> simp [h]
    have i3 : (findO (optsS c) 3).isSome = (c.auth != 0) := by rw [f3]; by_cases h : c.auth = 0 <;> simp [h]
    have i5 : (findO (optsS c) 5).isSome = (c.magic != 0) := by rw [f5]; by_cases h : c.magic = 0 <;> simp [h]
    have HF1 := Lib.hid (fun W lv okp hl => HFD.out W lv okp 1 hl)
    have HF3 := Lib.hid (fun W lv okp hl => HFD.out W lv okp 3 hl)
    have HF5 := Lib.hid (fun W lv okp hl => HFD.out W lv okp 5 hl)
    rw [i1] at HF1
    rw [i3] at HF3
    rw [i5] at HF5
    have HVU := Lib.hid (fun W => value_any ((findO (optsS c) 1).getD default).v W hu.1)
    have HVM := Lib.hid (fun W => value_any ((findO (optsS c) 5).getD default).v W hm.1)
    have hu2 := hu.2
    have hm2 := hm.2
    generalize ((findO (optsS c) 1).getD default).v = u at *
    generalize ((findO (optsS c) 3).getD default).v = a at *
    generalize ((findO (optsS c) 5).getD default).v = mm at *
    generalize valB u.data.toList = un at *
    generalize valB mm.data.toList = mn at *
    generalize optsS c = l at *
    clear f1 f3 f5 o1 o2 o3 o4 hu hm i1 i3 i5 HFD hok hn ha
    have HX := Lib.hid (And.intro hu2 (And.intro hm2 hA))
    clear hu2 hm2 hA
    go_enter Tryz.func4, Tryz.ntmps4
    go_wp2_with fail
    refine (HN.out _).mono ?_
    rintro e w1 ⟨p, rfl, b1⟩
    have z1 := (b1.block w.heap.size (by rw [HB0.out.2.2]; omega)).trans HB0.out.2.1
    have HB1 := Lib.hid (And.intro (HB0.out.1.trans (b1.mono HB0.out.1.size)) z1)
    have x0 := cellOf z1 0 _ rfl
    have x1 := cellOf z1 1 _ rfl
    have x2 := cellOf z1 2 _ rfl
    have x3 := cellOf z1 3 _ rfl
    have x4 := cellOf z1 4 _ rfl
    have x5 := cellOf z1 5 _ rfl
    have x6 := cellOf z1 6 _ rfl
    have x7 := cellOf z1 7 _ rfl
    clear b1 z1
    go_wp2_with fail
    refine (HO.out _).mono ?_
    rintro e w2 ⟨v2, rfl, r2, b2⟩
    obtain ⟨sa, ca, rfl⟩ := r2.form
    have hl2 := r2.opts (by have := HL4.out; unfold maxLen; omega)
    have z2 := (b2.block w.heap.size (lt_of_heap' HB1.out.2)).trans HB1.out.2
    have HB2 := Lib.hid (And.intro (HB1.out.1.trans (b2.mono HB1.out.1.size)) (And.intro z2 hl2))
    clear r2 b2 z2 hl2 x0 x1 x2 x3 x4 x5 x6 x7
    go_wp2_with fail
    refine (HPU.out _ _ _ HB2.out.2.2).mono ?_
    rintro e w3 ⟨rfl, b3⟩
    have HB3 := Lib.hid b3
    clear b3
    go_wp2_with fail
    refine (HF1.out _ _ _ (HB2.out.2.2.below HB3.out)).mono ?_
    rintro e w4 ⟨rfl, b4⟩
    have HB4 := Lib.hid (HB3.out.trans (b4.mono HB3.out.size))
    clear b4
    go_wp2_with fail
    refine (HF3.out _ _ _ (HB2.out.2.2.below HB4.out)).mono ?_
    rintro e w5 ⟨rfl, b5⟩
    have HB5 := Lib.hid (HB4.out.trans (b5.mono HB4.out.size))
    clear b5
    go_wp2_with fail
    refine (HF5.out _ _ _ (HB2.out.2.2.below HB5.out)).mono ?_
    rintro e w6 ⟨rfl, b6⟩
    have HB6 := Lib.hid (HB5.out.trans (b6.mono HB5.out.size))
    clear b6
    go_wp2_with fail
    refine (HVU.out _).mono ?_
    rintro e _ ⟨rfl, rfl⟩
    go_wp2_with fail
    refine (HVM.out _).mono ?_
    rintro e _ ⟨rfl, rfl⟩
    go_wp2_with fail
    refine (HAL.out _).mono ?_
    rintro e w7 ⟨rfl, b7⟩
    have HB7 := Lib.hid (HB6.out.trans (b7.mono HB6.out.size))
    have z7 := (HB7.out.block w.heap.size (lt_of_heap' HB2.out.2.1)).trans HB2.out.2.1
    have x0 := cellOf z7 0 _ rfl
    have x1 := cellOf z7 1 _ rfl
    have x2 := cellOf z7 2 _ rfl
    clear b7 z7 HF1 HF3 HF5 HVU HVM HPU HAL HO HN
    obtain ⟨k1, k2, k3⟩ := HX.out
    clear HX
    have HE := Lib.hid (HB2.out.1.trans (HB7.out.mono HB2.out.1.size))
    cases e1 : (c.mru != 1492) <;> cases e3 : (c.auth != 0) <;> cases e5 : (c.magic != 0)
    all_goals (first | have k1 := k1 e1 | clear k1)
    all_goals (first | have k2 := k2 e5 | clear k2)
    all_goals (first | have k3 := k3 e3 | clear k3)
    all_goals try subst k1
    all_goals try subst k2
    all_goals go_wp2_with fail
    all_goals go_ret
    all_goals exact ⟨by simp, HE.out⟩
end Go.Proofs.YthhdackaopaojaaGreat

/- A config as an argument. -/
namespace Go.Proofs.YthhdackaopaojaaGreat
open Go.RowKit Go.Tg Go.Maps Go.ChangeShapes Go.WideShapes Go.ChangeAt

theorem array8 {α : Type} {cs : Array α} (h : cs.size = 8) : ∃ c0 c1 c2 c3 c4 c5 c6 c7, cs = #[c0, c1, c2, c3, c4, c5, c6, c7] := by
  obtain ⟨l⟩ := cs
  match l, h with
  | [c0, c1, c2, c3, c4, c5, c6, c7], _ => exact ⟨c0, c1, c2, c3, c4, c5, c6, c7, rfl⟩

theorem list8 {α : Type} {l : List α} (h : l.length = 8) : ∃ c0 c1 c2 c3 c4 c5 c6 c7, l = [c0, c1, c2, c3, c4, c5, c6, c7] := by
  match l, h with
  | [c0, c1, c2, c3, c4, c5, c6, c7], _ => exact ⟨c0, c1, c2, c3, c4, c5, c6, c7, rfl⟩

set_option maxRecDepth 10000 in
theorem cfg_arg {H : Type} {enc : TypeId × Value → H} {w : World} {base : Nat} {spare : Nat → Bool} {held : Bool} {r : Reach} {b0 : Nat} {v : Value} {d : DataW H} {p : List MemPlace}
    (hv : Value.okWide Tryz.prog w r b0 24 v) (h : DataW.Trod enc Tryz.prog w base spare held 24 v d p) : ∃ c : LCfg, v = cfgV c ∧ I64 c.auth := by
  have hs := Tryz.underlying24
  obtain ⟨cs, rfl, hsz⟩ := okWide_struct hs hv
  have h8 : Tryz.prog.cellsOf 24 = 8 := by kernel_rfl
  have h1 : Tryz.prog.cellsOf 3 = 1 := by kernel_rfl
  obtain ⟨c0, c1, c2, c3, c4, c5, c6, c7, rfl⟩ := array8 (hsz.trans h8)
  obtain ⟨fuel, hf⟩ := h
  obtain ⟨xs, n, -, -, -, hlen, hf⟩ := DataW.trod_struct hs hf
  obtain ⟨y0, y1, y2, y3, y4, y5, y6, y7, rfl⟩ := list8 (show xs.length = 8 from hlen)
  have e0 : DataW.trod enc Tryz.prog w base spare held n 3 ((([c0, c1, c2, c3, c4, c5, c6, c7] : List Value).drop 0).take (Tryz.prog.cellsOf 3)) = some y0 := hf 0 _ rfl
  have e1 : DataW.trod enc Tryz.prog w base spare held n 3 ((([c0, c1, c2, c3, c4, c5, c6, c7] : List Value).drop 1).take (Tryz.prog.cellsOf 3)) = some y1 := hf 1 _ rfl
  have e2 : DataW.trod enc Tryz.prog w base spare held n 3 ((([c0, c1, c2, c3, c4, c5, c6, c7] : List Value).drop 2).take (Tryz.prog.cellsOf 3)) = some y2 := hf 2 _ rfl
  have e3 : DataW.trod enc Tryz.prog w base spare held n 3 ((([c0, c1, c2, c3, c4, c5, c6, c7] : List Value).drop 3).take (Tryz.prog.cellsOf 3)) = some y3 := hf 3 _ rfl
  have e4 : DataW.trod enc Tryz.prog w base spare held n 3 ((([c0, c1, c2, c3, c4, c5, c6, c7] : List Value).drop 4).take (Tryz.prog.cellsOf 3)) = some y4 := hf 4 _ rfl
  have e5 : DataW.trod enc Tryz.prog w base spare held n 3 ((([c0, c1, c2, c3, c4, c5, c6, c7] : List Value).drop 5).take (Tryz.prog.cellsOf 3)) = some y5 := hf 5 _ rfl
  have e6 : DataW.trod enc Tryz.prog w base spare held n 3 ((([c0, c1, c2, c3, c4, c5, c6, c7] : List Value).drop 6).take (Tryz.prog.cellsOf 3)) = some y6 := hf 6 _ rfl
  have e7 : DataW.trod enc Tryz.prog w base spare held n 3 ((([c0, c1, c2, c3, c4, c5, c6, c7] : List Value).drop 7).take (Tryz.prog.cellsOf 3)) = some y7 := hf 7 _ rfl
  rw [h1] at e0 e1 e2 e3 e4 e5 e6 e7
  obtain ⟨n0, k0, -, w0⟩ := DataW.trod_int (x := y0) Tryz.underlying3 (by simpa using e0)
  obtain ⟨n1, k1, -, w1⟩ := DataW.trod_int (x := y1) Tryz.underlying3 (by simpa using e1)
  obtain ⟨n2, k2, -, w2⟩ := DataW.trod_int (x := y2) Tryz.underlying3 (by simpa using e2)
  obtain ⟨n3, k3, -, w3⟩ := DataW.trod_int (x := y3) Tryz.underlying3 (by simpa using e3)
  obtain ⟨n4, k4, -, w4⟩ := DataW.trod_int (x := y4) Tryz.underlying3 (by simpa using e4)
  obtain ⟨n5, k5, -, w5⟩ := DataW.trod_int (x := y5) Tryz.underlying3 (by simpa using e5)
  obtain ⟨n6, k6, -, w6⟩ := DataW.trod_int (x := y6) Tryz.underlying3 (by simpa using e6)
  obtain ⟨n7, k7, -, w7⟩ := DataW.trod_int (x := y7) Tryz.underlying3 (by simpa using e7)
  simp only [List.cons.injEq, and_true] at k0 k1 k2 k3 k4 k5 k6 k7
  subst k0 k1 k2 k3 k4 k5 k6 k7
  exact ⟨⟨n0, n1, n2, n3, n4, n5, n6, n7⟩, rfl, w1⟩
end Go.Proofs.YthhdackaopaojaaGreat
