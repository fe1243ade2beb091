import Derived.Test.YthhdackaopaojaaGreatK27
/- Rejections; their law. -/
namespace Go.Proofs.YthhdackaopaojaaGreat
open Go.RowKit Go.Tg Go.Maps

section
variable {w0 w w' : World} {S ok okp U : Nat → Prop} {L : LB} {C : NegC} {echo : Int} {s : LSt} {X : NegX}

theorem LcpAt.idTurn {w1 : World} (h : LcpAt w S ok L C echo s X) (hn : NegAt w1 S L.B C { s.st with id := nid s.st.id } X) (hk : Keep (fun b => b = L.B.nb) w w1) : LcpAt w1 S ok L C echo { s with st := { s.st with id := nid s.st.id } } X where
  blk := (hk.block _ h.llt (fun he => h.n1 (he ▸ h.neg.s1))).trans h.blk
  neg := hn
  tape := h.tape.keep hk (fun he => h.n2 (he ▸ h.neg.s1)) (fun b _ hb he => (h.n3 b hb).1 (he ▸ h.neg.s1))
  ne := h.ne
  n1 := h.n1
  n2 := h.n2
  n3 := fun b hb => ⟨(h.n3 b hb).1, (h.n3 b hb).2.1, Nat.lt_of_lt_of_le (h.n3 b hb).2.2 hk.size⟩
  jd := h.jd

set_option maxHeartbeats 1000000 in
theorem LReject_shut (h : LcpAt w S ok L C echo s X) (hs : s.st.s ≠ 9) (x : Int) (d : ByteArray) :
    Calls Tryz.prog 24 #[.pointer (some ⟨L.lb, 0, none⟩), .int .i64 x, .string d] w fun e w' => e = .returned (.slice none 0 0) ∧ w = w' := by
  have HN := Lib.hid (And.intro (lnone_at h) (lopened_at h))
  have e9 : (s.st.s == 9) = false := by simpa using hs
  rw [e9] at HN
  clear h hs e9
  go_enter Tryz.func24, Tryz.ntmps24
  go_wp2_with (first
    | (go_at_call 39; refine HN.out.1.mono ?_; rintro e w0 ⟨rfl, rfl⟩)
    | (go_at_call 44; refine HN.out.2.mono ?_; rintro e w0 ⟨rfl, rfl⟩))
  go_ret
  exact ⟨rfl, rfl⟩
set_option maxHeartbeats 1000000 in
theorem LReject_bad (h : LcpAt w S ok L C echo s X) (hs : s.st.s = 9) (x : Int) (hx : x < 0 ∨ 65535 < x) (d : ByteArray) :
    Calls Tryz.prog 24 #[.pointer (some ⟨L.lb, 0, none⟩), .int .i64 x, .string d] w fun e w' => e = .returned (.slice none 0 0) ∧ w = w' := by
  have HN := Lib.hid (And.intro (lnone_at h) (And.intro (lopened_at h) (lin_any x 0 65535 w)))
  rw [hs, show (decide (0 ≤ x) && decide (x ≤ 65535)) = false from by simp; omega] at HN
  clear h hs hx
  go_enter Tryz.func24, Tryz.ntmps24
  go_wp2_with (first
    | (go_at_call 39; refine HN.out.1.mono ?_; rintro e w0 ⟨rfl, rfl⟩)
    | (go_at_call 44; refine HN.out.2.1.mono ?_; rintro e w0 ⟨rfl, rfl⟩)
    | (go_at_call 32; refine HN.out.2.2.mono ?_; rintro e w0 ⟨rfl, rfl⟩))
  go_ret
  exact ⟨rfl, rfl⟩

set_option maxHeartbeats 4000000 in
set_option maxRecDepth 100000 in
theorem LReject_at (h : LcpAt w S ok L C echo s X) (hs : s.st.s = 9) (x : Int) (hx : 0 ≤ x ∧ x ≤ 65535) (d : ByteArray) (hd : d.size ≤ 1000) :
    Calls Tryz.prog 24 #[.pointer (some ⟨L.lb, 0, none⟩), .int .i64 x, .string d] w fun e w' => ∃ v, e = .returned v ∧ PksAt w' (fun _ => False) w.heap.size v [⟨8, nid s.st.id, [], pB2 x ++ d⟩] ∧ LcpAt w' S ok L C echo { s with st := { s.st with id := nid s.st.id } } X ∧ Keep (fun b => b = L.B.nb) w w' := by
  have HN := Lib.hid (And.intro (lnone_at h) (And.intro (lopened_at h) (lin_any x 0 65535 w)))
  rw [hs, show (decide (0 ≤ x) && decide (x ≤ 65535)) = true from by simp; omega] at HN
  have HA := Lib.hid h
  have hbs : (pB2 x ++ d).size = d.size + 2 := by rw [ByteArray.size_append]; show 2 + d.size = _; omega
  have dl : ¬ 9223372036854775807 < (pB2 x).size + d.size := by rw [show (pB2 x).size = 2 from rfl]; omega
  obtain ⟨b, hb⟩ : ∃ b, b = pB2 x ++ d := ⟨_, rfl⟩
  have HBB := Lib.hid hb
  have hbl : b.size ≤ 1002 := by rw [hb, hbs]; omega
  have dm : min ((b.size : Nat) : Int) 1488 = (b.size : Int) := by omega
  have HX := Lib.hid (show b.extract 0 b.size = b from by apply ByteArray.ext; simp)
  have HSC := Lib.hid (fun W => sclone_any b W (by omega))
  clear h hs hx hbs
  go_enter Tryz.func24, Tryz.ntmps24
  go_wp2_with (first
    | (go_at_call 39; refine HN.out.1.mono ?_; rintro e w0 ⟨rfl, rfl⟩)
    | (go_at_call 44; refine HN.out.2.1.mono ?_; rintro e w0 ⟨rfl, rfl⟩)
    | (go_at_call 32; refine HN.out.2.2.mono ?_; rintro e w0 ⟨rfl, rfl⟩)
    | (go_at_call 50; refine (lputI2 _ _).mono ?_; rintro e w1 ⟨rfl, b1⟩; have HB1 := Lib.hid b1; clear b1))
  rw [← HBB.out]
  have h1 := HA.out.below HB1.out
  have HA1 := Lib.hid h1
  have HI := Lib.hid (id_at (h1.below (Below.refl _ _).drew).neg)
  clear h1 hb dl
  refine wp_region_H (rgH 0 13) (fun Y : World => Y.cell? ⟨L.lb, 0, none⟩ = some (.pointer (some ⟨L.B.nb, 0, none⟩))) (by kernel_rfl) ?_
  have HSv : (fun Y : World => Y.cell? ⟨L.lb, 0, none⟩ = some (.pointer (some ⟨L.B.nb, 0, none⟩))) w1.drew := HA1.out.cell 0
  refine wpAnyH_at 0 (v := ?vv25) rfl (by kernel_rfl) (by kernel_rfl) (by kernel_rfl) (fun _ _ _ h => h) ?hy25 HSv ?hh25
  case hy25 =>
    refine Or.inl ⟨by rfl, ?_⟩
    intro W hW
    obtain h0 := hW
    go_simp
    try with_reducible rfl
  simp only [Act.put, List.setIfInBounds_toArray, List.set_cons_zero, List.set_cons_succ]
  refine wpAnyH_at 1 (v := ?vv26) rfl (by kernel_rfl) (by kernel_rfl) (by kernel_rfl) (fun _ _ _ h => h) ?hy26 HSv ?hh26
  case hy26 =>
    refine Or.inl ⟨by rfl, ?_⟩
    intro W hW
    obtain h0 := hW
    go_simp
    try with_reducible rfl
  simp only [Act.put, List.setIfInBounds_toArray, List.set_cons_zero, List.set_cons_succ]
  refine wpAnyH_at 2 (v := ?vv27) rfl (by kernel_rfl) (by kernel_rfl) (by kernel_rfl) (fun _ _ _ h => h) ?hy27 HSv ?hh27
  case hy27 =>
    refine Or.inl ⟨by rfl, ?_⟩
    intro W hW
    obtain h0 := hW
    go_simp
    try with_reducible rfl
  simp only [Act.put, List.setIfInBounds_toArray, List.set_cons_zero, List.set_cons_succ]
  refine wpAnyH_at 3 (v := ?vv28) rfl (by kernel_rfl) (by kernel_rfl) (by kernel_rfl) (fun _ _ _ h => h) ?hy28 HSv ?hh28
  case hy28 =>
    refine Or.inl ⟨by rfl, ?_⟩
    intro W hW
    obtain h0 := hW
    go_simp
    try with_reducible rfl
  simp only [Act.put, List.setIfInBounds_toArray, List.set_cons_zero, List.set_cons_succ]
  refine wpAnyH_at 5 (v := ?vv29) rfl (by kernel_rfl) (by kernel_rfl) (by kernel_rfl) (fun _ _ _ h => h) ?hy29 HSv ?hh29
  case hy29 =>
    refine Or.inl ⟨by rfl, ?_⟩
    intro W hW
    obtain h0 := hW
    go_simp
    try with_reducible rfl
  simp only [Act.put, List.setIfInBounds_toArray, List.set_cons_zero, List.set_cons_succ]
  refine wpAnyH_at 6 (v := ?vv30) rfl (by kernel_rfl) (by kernel_rfl) (by kernel_rfl) (fun _ _ _ h => h) ?hy30 HSv ?hh30
  case hy30 =>
    refine Or.inl ⟨by rfl, ?_⟩
    intro W hW
    obtain h0 := hW
    go_simp
    try with_reducible rfl
  simp only [Act.put, List.setIfInBounds_toArray, List.set_cons_zero, List.set_cons_succ]
  refine wpAnyH_at 7 (v := ?vv31) rfl (by kernel_rfl) (by kernel_rfl) (by kernel_rfl) (fun _ _ _ h => h) ?hy31 HSv ?hh31
  case hy31 =>
    refine Or.inl ⟨by rfl, ?_⟩
    intro W hW
    obtain h0 := hW
    go_simp
    try with_reducible rfl
  simp only [Act.put, List.setIfInBounds_toArray, List.set_cons_zero, List.set_cons_succ]
  refine wpAnyH_at 8 (v := ?vv32) rfl (by kernel_rfl) (by kernel_rfl) (by kernel_rfl) (fun _ _ _ h => h) ?hy32 HSv ?hh32
  case hy32 =>
    refine Or.inl ⟨by rfl, ?_⟩
    intro W hW
    obtain h0 := hW
    go_simp
    try with_reducible rfl
  simp only [Act.put, List.setIfInBounds_toArray, List.set_cons_zero, List.set_cons_succ]
  refine wpAnyH_at 9 (v := ?vv33) rfl (by kernel_rfl) (by kernel_rfl) (by kernel_rfl) (fun _ _ _ h => h) ?hy33 HSv ?hh33
  case hy33 =>
    refine Or.inl ⟨by rfl, ?_⟩
    intro W hW
    obtain h0 := hW
    go_simp
    try with_reducible rfl
  simp only [Act.put, List.setIfInBounds_toArray, List.set_cons_zero, List.set_cons_succ]
  refine wpAnyH_1 4 rfl (by kernel_rfl) ?_
  intro K hK
  rw [if_pos (by rfl)]
  try go_simp
  go_at_call 57
  refine HI.out.mono ?_
  rintro e w2 ⟨rfl, hn2, hk2⟩
  have H2 := Lib.hid (And.intro ((HA1.out.below (Below.refl _ _).drew).idTurn hn2 hk2) hk2)
  have HSv : (fun Y : World => Y.cell? ⟨L.lb, 0, none⟩ = some (.pointer (some ⟨L.B.nb, 0, none⟩))) w2 := H2.out.1.cell 0
  clear hn2 hk2
  refine hK _ _ (fun _ => HSv) ?_
  try simp only [Act.put, List.setIfInBounds_toArray, List.set_cons_zero, List.set_cons_succ]
  refine wpAnyH_1 10 rfl (by kernel_rfl) ?_
  intro K hK
  rw [if_pos (by rfl)]
  try go_simp
  go_at_call 58
  refine (HSC.out w2).mono ?_
  rintro e w3 ⟨rfl, hb3⟩
  have H3 := Lib.hid (And.intro (H2.out.1.below hb3) (H2.out.2.trans (Keep.of_below _ hb3)))
  have HSv : (fun Y : World => Y.cell? ⟨L.lb, 0, none⟩ = some (.pointer (some ⟨L.B.nb, 0, none⟩))) w3 := H3.out.1.cell 0
  clear hb3
  refine hK _ _ (fun _ => HSv) ?_
  try simp only [Act.put, List.setIfInBounds_toArray, List.set_cons_zero, List.set_cons_succ]
  refine wpAnyH_at 11 (v := ?vv34) rfl (by kernel_rfl) (by kernel_rfl) (by kernel_rfl) (fun _ _ _ h => h) ?hy34 HSv ?hh34
  case hy34 =>
    refine Or.inl ⟨by rfl, ?_⟩
    intro W hW
    obtain h0 := hW
    go_simp
    try with_reducible rfl
  simp only [Act.put, List.setIfInBounds_toArray, List.set_cons_zero, List.set_cons_succ]
  refine wpAnyH_1 12 rfl (by kernel_rfl) ?_
  intro K hK
  rw [if_pos (by rfl)]
  try go_simp
  have hb4 : Below w3.heap.size w3 (w3.alloc (.cells #[.int .i64 8, .int .i64 (nid s.st.id), .slice none 0 0, .string b] 38 (0, 0))) := (Below.refl _ _).alloc (Nat.le_refl _) _
  have HSv : (fun Y : World => Y.cell? ⟨L.lb, 0, none⟩ = some (.pointer (some ⟨L.B.nb, 0, none⟩))) (w3.alloc (.cells #[.int .i64 8, .int .i64 (nid s.st.id), .slice none 0 0, .string b] 38 (0, 0))) := (H3.out.1.below hb4).cell 0
  refine hK _ _ (fun _ => HSv) ?_
  try simp only [Act.put, List.setIfInBounds_toArray, List.set_cons_zero, List.set_cons_succ]
  refine wpAnyH_end 13 (fun j hj => rgH_end _ _ j (by omega)) (by rfl) (by kernel_rfl) ?_
  simp only [List.drop_succ_cons, List.drop_zero]
  go_wp2_with fail
  go_ret
  have hs3 := H3.out.2.size
  have hs1 := HB1.out.size
  have hs13 : w1.heap.size ≤ w3.heap.size := hs3
  refine ⟨_, rfl, PksAt.one ⟨8, nid s.st.id, [], pB2 x ++ d⟩ _ (by rw [← HBB.out]; exact at1 w3 _) (show w.heap.size ≤ w3.heap.size by omega) (Rec.nil _ _ _), H3.out.1.below hb4, ?_⟩
  exact ((Keep.of_below _ HB1.out).trans ((Keep.of_below (fun b => b = L.B.nb) (Below.refl w1.heap.size w1).drew).trans H3.out.2)).trans (Keep.of_below _ hb4)
end

section
variable {w0 w w' : World} {okp : Nat → Prop} {L : LB} {C : NegC} {echo : Int} {s : LSt}
theorem LK.Reject0 (h : LK w0 w L C echo s) (hs : s.st.s ≠ 9) (x : Int) (d : ByteArray) :
    Calls Tryz.prog 24 #[.pointer (some ⟨L.lb, 0, none⟩), .int .i64 x, .string d] w fun e w' => e = .returned (.slice none 0 0) ∧ w = w' := by
  obtain ⟨S, ok, X, hv, hu⟩ := h.v
  exact LReject_shut hv hs x d
theorem LK.Reject1 (h : LK w0 w L C echo s) (hs : s.st.s = 9) (x : Int) (hx : x < 0 ∨ 65535 < x) (d : ByteArray) :
    Calls Tryz.prog 24 #[.pointer (some ⟨L.lb, 0, none⟩), .int .i64 x, .string d] w fun e w' => e = .returned (.slice none 0 0) ∧ w = w' := by
  obtain ⟨S, ok, X, hv, hu⟩ := h.v
  exact LReject_bad hv hs x hx d
theorem LK.Reject (h : LK w0 w L C echo s) (hs : s.st.s = 9) (x : Int) (hx : 0 ≤ x ∧ x ≤ 65535) (d : ByteArray) (hd : d.size ≤ 1000) :
    Calls Tryz.prog 24 #[.pointer (some ⟨L.lb, 0, none⟩), .int .i64 x, .string d] w fun e w' => ∃ v, e = .returned v ∧ PksAt w' (fun _ => False) w.heap.size v [⟨8, nid s.st.id, [], pB2 x ++ d⟩] ∧ LK w0 w' L C echo { s with st := { s.st with id := nid s.st.id } } := by
  obtain ⟨S, ok, X, hv, hu⟩ := h.v
  refine (LReject_at hv hs x hx d hd).mono ?_
  rintro e w' ⟨v, h1, h2, h3, h4⟩
  exact ⟨v, h1, h2, ⟨_, _, _, h3, hu⟩, h.b.trans (h4.below h.b.size (fun b hb he => by have := (h.nt (b := b) (.inl (.inl he))).1; omega))⟩
end
theorem lnew12t (tb : Nat) (okt : Nat → Prop) (t : TpS) (w0 w : World) (hw : Below w0.heap.size w0 w) (ht : TapeAt w tb okt t) (ho : ∀ b, okt b → b < w.heap.size ∧ w0.heap.size ≤ b) (htb : w0.heap.size ≤ tb) :
    Calls Tryz.prog 12 #[.agg #[.int .i64 1492, .int .i64 49699, .int .i64 7, .int .i64 0, .int .i64 5, .int .i64 2, .int .i64 5, .int .i64 3], .pointer (some ⟨tb, 0, none⟩)] w fun e w' => ∃ L, e = .returned (.tuple #[.pointer (some ⟨L.lb, 0, none⟩), .int .i64 0]) ∧ LK w0 w' L (lC cfg12 L.lb) 0 (lst0 cfg12 t) := by
  refine (lnew_tape cfg12 cfg12_ok tb okt t w ht (fun b hb => (ho b hb).1)).mono ?_
  rintro e w' h1
  exact LK.made h1 hw (fun b hb => (ho b hb).2) htb

set_option maxHeartbeats 8000000 in
set_option maxRecDepth 100000 in
theorem lcpRejects_any (x : Int) (d : ByteArray) (w : World) (hd : d.size ≤ maxLen) :
    Calls Tryz.prog 6 #[.int .i64 x, .string d] w fun e w' => e = .returned (.bool true) ∧ Below w.heap.size w w' := by
  have q1 : ∀ w a, (binOp .eql 27 (.pointer (some a)) (.pointer none)).run Tryz.prog w = .ok (.bool false) w := fun w a => by kernel_rfl
  unfold maxLen at hd
  have HA := Lib.hid lalive_any
  by_cases hq : 1000 < d.size
  · have dd : decide ((1000 : Int) < (d.size : Int)) = true := by simp; omega
    clear hq
    go_enter Tryz.func6, Tryz.ntmps6
    go_wp2_with (go_at_call 11; refine (HA.out _).mono ?_; rintro e w2 ⟨rfl, b2⟩)
    go_ret
    exact ⟨rfl, b2⟩
  · have dd : decide ((1000 : Int) < (d.size : Int)) = false := by simp; omega
    have HD := Lib.hid (show d.size ≤ 1000 from by omega)
    have dl : ¬ 9223372036854775807 < (pB2 x).size + d.size := by rw [show (pB2 x).size = 2 from rfl]; omega
    clear hd hq
    go_enter Tryz.func6, Tryz.ntmps6
    go_wp2_with fail
    refine (config_any _).mono ?_
    rintro e w1 ⟨rfl, b1⟩
    have HB1 := Lib.hid b1
    clear b1
    go_wp2_with fail
    refine (tapeNew_any [] _ (fun _ => False) w1 (Rec.nil _ _ _) (fun _ h => by cases h) (by decide)).mono ?_
    rintro e w2 ⟨tb, rfl, t5, s5, b5⟩
    have HNW := Lib.hid (lnew12t tb _ _ w1 w2 b5 t5 (fun b hb => ⟨by have := t5.lt; omega, hb.1⟩) s5)
    clear t5 s5 b5
    go_wp2_with fail
    refine HNW.out.mono ?_
    rintro e w3 ⟨L, rfl, k3⟩
    have HK := Lib.hid k3
    have HR0 := Lib.hid (k3.Reject0 (by decide) x d)
    clear k3
    go_wp2_with fail
    refine HR0.out.mono ?_
    rintro e _ ⟨rfl, rfl⟩
    go_wp2_with fail
    refine (config_any _).mono ?_
    rintro e w4 ⟨rfl, b4⟩
    have HK := Lib.hid (HK.out.below b4)
    clear b4
    go_wp2_with fail
    refine (HO12 _).mono ?_
    rintro e w5 ⟨v5, rfl, r5, b5⟩
    obtain ⟨sa, ca, rfl⟩ := r5.form
    have HK5 := Lib.hid (HK.out.below b5)
    have HAD := Lib.hid (HK5.out.Adopt rfl ⟨by decide, by decide⟩ opts12 [] _ (.slice none 0 0) (r5.opts (by unfold maxLen; decide)) (Rec.nil _ _ _) (by decide) (by decide) (by decide) (fun _ h => by cases h) ⟨by decide, by decide⟩ (fun b hb ht => by have := (HK.out.nt ht).2; omega))
    clear r5 b5
    go_wp2_with fail
    refine HAD.out.mono ?_
    rintro e w6 ⟨rfl, k6, -⟩
    have HK6 := Lib.hid k6
    clear k6 HAD HK5
    by_cases hx : 0 ≤ x ∧ x ≤ 65535
    · have d1 : decide (x < 0) = false := by simp; omega
      have d2 : decide ((65535 : Int) < x) = false := by simp; omega
      have HRJ := Lib.hid (HK6.out.Reject rfl x hx d HD.out)
      rw [show nid (adoptL (lst0 cfg12 ⟨[], 0⟩) opts12 []).st.id = 1 from rfl] at HRJ
      have hcv : ∀ W : World, (convert 55 9 (.slice (some ⟨W.heap.size, 0, none⟩) 2 2)).run Tryz.prog (W.alloc (.cells #[.int .u8 (IntKind.u8.wrap (x / 256)), .int .u8 (IntKind.u8.wrap x)] 5 (0, 0))) = .ok (.string (pB2 x)) (W.alloc (.cells #[.int .u8 (IntKind.u8.wrap (x / 256)), .int .u8 (IntKind.u8.wrap x)] 5 (0, 0))) := by
        have hw : ∀ y : Int, IntKind.u8.wrap y = y % 256 := fun y => by unfold IntKind.wrap; simp [IntKind.bits, IntKind.signed]
        rw [hw, hw]
        intro W
        have hx := at1 W (.cells #[.int .u8 (x / 256 % 256), .int .u8 (x % 256)] 5 (0, 0))
        refine run_convert_bytes_back (P := Tryz.prog) _ 55 9 5 ⟨W.heap.size, 0, none⟩ 2 [byteOf (x / 256 % 256), byteOf (x % 256)] Tryz.underlying55 Tryz.underlying5 Tryz.underlying9 (fun j hj => ?_)
        rw [Addr.add_lit, Nat.zero_add]
        match j, hj with
        | 0, _ => simp only [List.getElem_cons_zero]; rw [byteOf_nat _ (md _)]; exact cellOf hx 0 _ rfl
        | 1, _ => simp only [List.getElem_cons_zero, List.getElem_cons_succ]; rw [byteOf_nat _ (md _)]; exact cellOf hx 1 _ rfl
      clear hx
      go_wp2_with fail
      refine HRJ.out.mono ?_
      rintro e w7 ⟨v7, rfl, p7, k7⟩
      obtain ⟨gp, cp, po, rfl, -, -, hcp1, hcp2, z0, z1, z2, z3, -⟩ := p7.at0
      unfold maxLen at hcp2
      dsimp only at z0 z1 z2 z3
      have HK7 := Lib.hid k7
      have HZ : Hid (∀ W, Below w7.heap.size w7 W → W.cell? ⟨gp, 0, none⟩ = some (.int .i64 8) ∧ W.cell? ⟨gp, 3, none⟩ = some (.string (pB2 x ++ d))) := Lib.hid fun W hW => by
        have hg : gp < w7.heap.size := block_lt_of_cell z0
        exact ⟨(hW.cell hg).trans z0, (hW.cell hg).trans z3⟩
      clear p7 k7 z0 z1 z2 z3 HRJ
      go_wp2_with fail
      refine wp_region_H (rgH 0 34) (fun Y : World => Y.cell? ⟨gp, 0, none⟩ = some (.int .i64 8) ∧ Y.cell? ⟨gp, 3, none⟩ = some (.string (pB2 x ++ d))) (by kernel_rfl) ?_
      refine wpAnyH_1 0 rfl (by kernel_rfl) ?_
      intro K hK
      rw [if_pos (by rfl)]
      try go_simp
      go_at_call 11
      refine (HA.out w7.drew).mono ?_
      rintro e w8 ⟨rfl, b8⟩
      have HB8 := Lib.hid (show Below w7.heap.size w7 w8 from Below.trans (Below.refl _ _).drew b8)
      have HSv : (fun Y : World => Y.cell? ⟨gp, 0, none⟩ = some (.int .i64 8) ∧ Y.cell? ⟨gp, 3, none⟩ = some (.string (pB2 x ++ d))) w8 := HZ.out _ HB8.out
      clear b8
      refine hK _ _ (fun _ => HSv) ?_
      try simp only [Act.put, List.setIfInBounds_toArray, List.set_cons_zero, List.set_cons_succ]
      refine wpAnyH_at 1 (v := ?vv35) rfl (by kernel_rfl) (by kernel_rfl) (by kernel_rfl) (fun _ _ _ h => h) ?hy35 HSv ?hh35
      case hy35 =>
        refine Or.inl ⟨by rfl, ?_⟩
        intro W hW
        obtain ⟨h0, h1⟩ := hW
        go_simp
        try with_reducible rfl
      simp only [Act.put, List.setIfInBounds_toArray, List.set_cons_zero, List.set_cons_succ]
      refine wpAnyH_at 2 (v := ?vv36) rfl (by kernel_rfl) (by kernel_rfl) (by kernel_rfl) (fun _ _ _ h => h) ?hy36 HSv ?hh36
      case hy36 =>
        refine Or.inl ⟨by rfl, ?_⟩
        intro W hW
        obtain ⟨h0, h1⟩ := hW
        go_simp
        try with_reducible rfl
      simp only [Act.put, List.setIfInBounds_toArray, List.set_cons_zero, List.set_cons_succ]
      refine wpAnyH_at 3 (v := ?vv37) rfl (by kernel_rfl) (by kernel_rfl) (by kernel_rfl) (fun _ _ _ h => h) ?hy37 HSv ?hh37
      case hy37 =>
        refine Or.inl ⟨by rfl, ?_⟩
        intro W hW
        obtain ⟨h0, h1⟩ := hW
        go_simp
        try with_reducible rfl
      simp only [Act.put, List.setIfInBounds_toArray, List.set_cons_zero, List.set_cons_succ]
      refine wpAnyH_at 4 (v := ?vv38) rfl (by kernel_rfl) (by kernel_rfl) (by kernel_rfl) (fun _ _ _ h => h) ?hy38 HSv ?hh38
      case hy38 =>
        refine Or.inl ⟨by rfl, ?_⟩
        intro W hW
        obtain ⟨h0, h1⟩ := hW
        go_simp
        try with_reducible rfl
      simp only [Act.put, List.setIfInBounds_toArray, List.set_cons_zero, List.set_cons_succ]
      refine wpAnyH_at 5 (v := ?vv39) rfl (by kernel_rfl) (by kernel_rfl) (by kernel_rfl) (fun _ _ _ h => h) ?hy39 HSv ?hh39
      case hy39 =>
        refine Or.inl ⟨by rfl, ?_⟩
        intro W hW
        obtain ⟨h0, h1⟩ := hW
        go_simp
        try with_reducible rfl
      simp only [Act.put, List.setIfInBounds_toArray, List.set_cons_zero, List.set_cons_succ]
      refine wpAnyH_at 6 (v := ?vv40) rfl (by kernel_rfl) (by kernel_rfl) (by kernel_rfl) (fun _ _ _ h => h) ?hy40 HSv ?hh40
      case hy40 =>
        refine Or.inl ⟨by rfl, ?_⟩
        intro W hW
        obtain ⟨h0, h1⟩ := hW
        go_simp
        try with_reducible rfl
      simp only [Act.put, List.setIfInBounds_toArray, List.set_cons_zero, List.set_cons_succ]
      refine wpAnyH_at 7 (v := ?vv41) rfl (by kernel_rfl) (by kernel_rfl) (by kernel_rfl) (fun _ _ _ h => h) ?hy41 HSv ?hh41
      case hy41 =>
        refine Or.inl ⟨by rfl, ?_⟩
        intro W hW
        obtain ⟨h0, h1⟩ := hW
        go_simp
        try with_reducible rfl
      simp only [Act.put, List.setIfInBounds_toArray, List.set_cons_zero, List.set_cons_succ]
      refine wpAnyH_at 8 (v := ?vv42) rfl (by kernel_rfl) (by kernel_rfl) (by kernel_rfl) (fun _ _ _ h => h) ?hy42 HSv ?hh42
      case hy42 =>
        refine Or.inl ⟨by rfl, ?_⟩
        intro W hW
        obtain ⟨h0, h1⟩ := hW
        go_simp
        try with_reducible rfl
      simp only [Act.put, List.setIfInBounds_toArray, List.set_cons_zero, List.set_cons_succ]
      refine wpAnyH_at 9 (v := ?vv43) rfl (by kernel_rfl) (by kernel_rfl) (by kernel_rfl) (fun _ _ _ h => h) ?hy43 HSv ?hh43
      case hy43 =>
        refine Or.inl ⟨by rfl, ?_⟩
        intro W hW
        obtain ⟨h0, h1⟩ := hW
        go_simp
        try with_reducible rfl
      simp only [Act.put, List.setIfInBounds_toArray, List.set_cons_zero, List.set_cons_succ]
      refine wpAnyH_at 10 (v := ?vv44) rfl (by kernel_rfl) (by kernel_rfl) (by kernel_rfl) (fun _ _ _ h => h) ?hy44 HSv ?hh44
      case hy44 =>
        refine Or.inl ⟨by rfl, ?_⟩
        intro W hW
        obtain ⟨h0, h1⟩ := hW
        go_simp
        try with_reducible rfl
      simp only [Act.put, List.setIfInBounds_toArray, List.set_cons_zero, List.set_cons_succ]
      refine wpAnyH_at 11 (v := ?vv45) rfl (by kernel_rfl) (by kernel_rfl) (by kernel_rfl) (fun _ _ _ h => h) ?hy45 HSv ?hh45
      case hy45 =>
        refine Or.inl ⟨by rfl, ?_⟩
        intro W hW
        obtain ⟨h0, h1⟩ := hW
        go_simp
        try with_reducible rfl
      simp only [Act.put, List.setIfInBounds_toArray, List.set_cons_zero, List.set_cons_succ]
      refine wpAnyH_at 12 (v := ?vv46) rfl (by kernel_rfl) (by kernel_rfl) (by kernel_rfl) (fun _ _ _ h => h) ?hy46 HSv ?hh46
      case hy46 =>
        refine Or.inl ⟨by rfl, ?_⟩
        intro W hW
        obtain ⟨h0, h1⟩ := hW
        go_simp
        try with_reducible rfl
      simp only [Act.put, List.setIfInBounds_toArray, List.set_cons_zero, List.set_cons_succ]
      refine wpAnyH_at 13 (v := ?vv47) rfl (by kernel_rfl) (by kernel_rfl) (by kernel_rfl) (fun _ _ _ h => h) ?hy47 HSv ?hh47
      case hy47 =>
        refine Or.inl ⟨by rfl, ?_⟩
        intro W hW
        obtain ⟨h0, h1⟩ := hW
        go_simp
        try with_reducible rfl
      simp only [Act.put, List.setIfInBounds_toArray, List.set_cons_zero, List.set_cons_succ]
      refine wpAnyH_at 14 (v := ?vv48) rfl (by kernel_rfl) (by kernel_rfl) (by kernel_rfl) (fun _ _ _ h => h) ?hy48 HSv ?hh48
      case hy48 =>
        refine Or.inl ⟨by rfl, ?_⟩
        intro W hW
        obtain ⟨h0, h1⟩ := hW
        go_simp
        try with_reducible rfl
      simp only [Act.put, List.setIfInBounds_toArray, List.set_cons_zero, List.set_cons_succ]
      refine wpAnyH_at 15 (v := ?vv49) rfl (by kernel_rfl) (by kernel_rfl) (by kernel_rfl) (fun _ _ _ h => h) ?hy49 HSv ?hh49
      case hy49 =>
        refine Or.inl ⟨by rfl, ?_⟩
        intro W hW
        obtain ⟨h0, h1⟩ := hW
        go_simp
        try with_reducible rfl
      simp only [Act.put, List.setIfInBounds_toArray, List.set_cons_zero, List.set_cons_succ]
      refine wpAnyH_at 16 (v := ?vv50) rfl (by kernel_rfl) (by kernel_rfl) (by kernel_rfl) (fun _ _ _ h => h) ?hy50 HSv ?hh50
      case hy50 =>
        refine Or.inl ⟨by rfl, ?_⟩
        intro W hW
        obtain ⟨h0, h1⟩ := hW
        go_simp
        try with_reducible rfl
      simp only [Act.put, List.setIfInBounds_toArray, List.set_cons_zero, List.set_cons_succ]
      refine wpAnyH_at 17 (v := ?vv51) rfl (by kernel_rfl) (by kernel_rfl) (by kernel_rfl) (fun _ _ _ h => h) ?hy51 HSv ?hh51
      case hy51 =>
        refine Or.inl ⟨by rfl, ?_⟩
        intro W hW
        obtain ⟨h0, h1⟩ := hW
        go_simp
        try with_reducible rfl
      simp only [Act.put, List.setIfInBounds_toArray, List.set_cons_zero, List.set_cons_succ]
      refine wpAnyH_at 18 (v := ?vv52) rfl (by kernel_rfl) (by kernel_rfl) (by kernel_rfl) (fun _ _ _ h => h) ?hy52 HSv ?hh52
      case hy52 =>
        refine Or.inl ⟨by rfl, ?_⟩
        intro W hW
        obtain ⟨h0, h1⟩ := hW
        go_simp
        try with_reducible rfl
      simp only [Act.put, List.setIfInBounds_toArray, List.set_cons_zero, List.set_cons_succ]
      refine wpAnyH_at 19 (v := ?vv53) rfl (by kernel_rfl) (by kernel_rfl) (by kernel_rfl) (fun _ _ _ h => h) ?hy53 HSv ?hh53
      case hy53 =>
        refine Or.inl ⟨by rfl, ?_⟩
        intro W hW
        obtain ⟨h0, h1⟩ := hW
        go_simp
        try with_reducible rfl
      simp only [Act.put, List.setIfInBounds_toArray, List.set_cons_zero, List.set_cons_succ]
      refine wpAnyH_at 20 (v := ?vv54) rfl (by kernel_rfl) (by kernel_rfl) (by kernel_rfl) (fun _ _ _ h => h) ?hy54 HSv ?hh54
      case hy54 =>
        refine Or.inl ⟨by rfl, ?_⟩
        intro W hW
        obtain ⟨h0, h1⟩ := hW
        go_simp
        try with_reducible rfl
      simp only [Act.put, List.setIfInBounds_toArray, List.set_cons_zero, List.set_cons_succ]
      refine wpAnyH_at 21 (v := ?vv55) rfl (by kernel_rfl) (by kernel_rfl) (by kernel_rfl) (fun _ _ _ h => h) ?hy55 HSv ?hh55
      case hy55 =>
        refine Or.inl ⟨by rfl, ?_⟩
        intro W hW
        obtain ⟨h0, h1⟩ := hW
        go_simp
        try with_reducible rfl
      simp only [Act.put, List.setIfInBounds_toArray, List.set_cons_zero, List.set_cons_succ]
      refine wpAnyH_at 22 (v := ?vv56) rfl (by kernel_rfl) (by kernel_rfl) (by kernel_rfl) (fun _ _ _ h => h) ?hy56 HSv ?hh56
      case hy56 =>
        refine Or.inl ⟨by rfl, ?_⟩
        intro W hW
        obtain ⟨h0, h1⟩ := hW
        go_simp
        try with_reducible rfl
      simp only [Act.put, List.setIfInBounds_toArray, List.set_cons_zero, List.set_cons_succ]
      refine wpAnyH_at 25 (v := ?vv57) rfl (by kernel_rfl) (by kernel_rfl) (by kernel_rfl) (fun _ _ _ h => h) ?hy57 HSv ?hh57
      case hy57 =>
        refine Or.inl ⟨by rfl, ?_⟩
        intro W hW
        obtain ⟨h0, h1⟩ := hW
        go_simp
        try with_reducible rfl
      simp only [Act.put, List.setIfInBounds_toArray, List.set_cons_zero, List.set_cons_succ]
      refine wpAnyH_1 23 rfl (by kernel_rfl) ?_
      intro K hK
      rw [if_pos (by rfl)]
      try go_simp
      have HB9 := Lib.hid (HB8.out.alloc HB8.out.size (.cells #[.int .u8 (IntKind.u8.wrap (x / 256)), .int .u8 (IntKind.u8.wrap x)] 5 (0, 0)))
      have HCV := Lib.hid (hcv w8)
      have HSv : (fun Y : World => Y.cell? ⟨gp, 0, none⟩ = some (.int .i64 8) ∧ Y.cell? ⟨gp, 3, none⟩ = some (.string (pB2 x ++ d))) (w8.alloc (.cells #[.int .u8 (IntKind.u8.wrap (x / 256)), .int .u8 (IntKind.u8.wrap x)] 5 (0, 0))) := HZ.out _ HB9.out
      have HST := Lib.hid (HK7.out.below HB9.out).State
      rw [show ({ (adoptL (lst0 cfg12 ⟨[], 0⟩) opts12 []) with st := { (adoptL (lst0 cfg12 ⟨[], 0⟩) opts12 []).st with id := 1 } } : LSt).st.s = 9 from rfl] at HST
      refine hK _ _ (fun _ => HSv) ?_
      try simp only [Act.put, List.setIfInBounds_toArray, List.set_cons_zero, List.set_cons_succ]
      have hcv8 := HCV.out
      refine wpAnyH_1 24 rfl (by kernel_rfl) ?_
      intro K hK
      rw [if_pos (by rfl)]
      try go_simp
      refine hK _ _ (fun _ => HSv) ?_
      try simp only [Act.put, List.setIfInBounds_toArray, List.set_cons_zero, List.set_cons_succ]
      refine wpAnyH_at 26 (v := ?vv58) rfl (by kernel_rfl) (by kernel_rfl) (by kernel_rfl) (fun _ _ _ h => h) ?hy58 HSv ?hh58
      case hy58 =>
        refine Or.inl ⟨by rfl, ?_⟩
        intro W hW
        obtain ⟨h0, h1⟩ := hW
        go_simp
        try with_reducible rfl
      simp only [Act.put, List.setIfInBounds_toArray, List.set_cons_zero, List.set_cons_succ]
      refine wpAnyH_at 27 (v := ?vv59) rfl (by kernel_rfl) (by kernel_rfl) (by kernel_rfl) (fun _ _ _ h => h) ?hy59 HSv ?hh59
      case hy59 =>
        refine Or.inl ⟨by rfl, ?_⟩
        intro W hW
        obtain ⟨h0, h1⟩ := hW
        go_simp
        try with_reducible rfl
      simp only [Act.put, List.setIfInBounds_toArray, List.set_cons_zero, List.set_cons_succ]
      refine wpAnyH_at 28 (v := ?vv60) rfl (by kernel_rfl) (by kernel_rfl) (by kernel_rfl) (fun _ _ _ h => h) ?hy60 HSv ?hh60
      case hy60 =>
        refine Or.inl ⟨by rfl, ?_⟩
        intro W hW
        obtain ⟨h0, h1⟩ := hW
        go_simp
        try with_reducible rfl
      simp only [Act.put, List.setIfInBounds_toArray, List.set_cons_zero, List.set_cons_succ]
      refine wpAnyH_at 29 (v := ?vv61) rfl (by kernel_rfl) (by kernel_rfl) (by kernel_rfl) (fun _ _ _ h => h) ?hy61 HSv ?hh61
      case hy61 =>
        refine Or.inl ⟨by rfl, ?_⟩
        intro W hW
        obtain ⟨h0, h1⟩ := hW
        go_simp
        try with_reducible rfl
      simp only [Act.put, List.setIfInBounds_toArray, List.set_cons_zero, List.set_cons_succ]
      refine wpAnyH_at 30 (v := ?vv62) rfl (by kernel_rfl) (by kernel_rfl) (by kernel_rfl) (fun _ _ _ h => h) ?hy62 HSv ?hh62
      case hy62 =>
        refine Or.inl ⟨by rfl, ?_⟩
        intro W hW
        obtain ⟨h0, h1⟩ := hW
        go_simp
        try with_reducible rfl
      simp only [Act.put, List.setIfInBounds_toArray, List.set_cons_zero, List.set_cons_succ]
      refine wpAnyH_1 31 rfl (by kernel_rfl) ?_
      intro K hK
      rw [if_pos (by rfl)]
      try go_simp
      go_at_call 16
      refine HST.out.mono ?_
      rintro e _ ⟨rfl, rfl⟩
      refine hK _ _ (fun _ => HSv) ?_
      try simp only [Act.put, List.setIfInBounds_toArray, List.set_cons_zero, List.set_cons_succ]
      refine wpAnyH_at 32 (v := ?vv63) rfl (by kernel_rfl) (by kernel_rfl) (by kernel_rfl) (fun _ _ _ h => h) ?hy63 HSv ?hh63
      case hy63 =>
        refine Or.inl ⟨by rfl, ?_⟩
        intro W hW
        obtain ⟨h0, h1⟩ := hW
        go_simp
        try with_reducible rfl
      simp only [Act.put, List.setIfInBounds_toArray, List.set_cons_zero, List.set_cons_succ]
      refine wpAnyH_at 33 (v := ?vv64) rfl (by kernel_rfl) (by kernel_rfl) (by kernel_rfl) (fun _ _ _ h => h) ?hy64 HSv ?hh64
      case hy64 =>
        refine Or.inl ⟨by rfl, ?_⟩
        intro W hW
        obtain ⟨h0, h1⟩ := hW
        go_simp
        try with_reducible rfl
      simp only [Act.put, List.setIfInBounds_toArray, List.set_cons_zero, List.set_cons_succ]
      refine wpAnyH_end 34 (fun j hj => rgH_end _ _ j (by omega)) (by rfl) (by kernel_rfl) ?_
      simp only [List.drop_succ_cons, List.drop_zero]
      go_wp2_with fail
      go_ret
      have hB7 := HB1.out.trans (HK7.out.b.mono HB1.out.size)
      exact ⟨rfl, hB7.trans (HB9.out.mono hB7.size)⟩
    · have hx' : x < 0 ∨ 65535 < x := by omega
      have HRJ := Lib.hid (HK6.out.Reject1 rfl x hx' d)
      have hB6 := HB1.out.trans (HK6.out.b.mono HB1.out.size)
      by_cases h0 : x < 0
      · have d1 : decide (x < 0) = true := by simpa using h0
        clear hx hx' h0
        go_wp2_with (first
          | (go_at_call 24; refine HRJ.out.mono ?_; rintro e _ ⟨rfl, rfl⟩)
          | (go_at_call 11; refine (HA.out _).mono ?_; rintro e w8 ⟨rfl, b8⟩))
        go_ret
        exact ⟨rfl, hB6.trans (b8.mono hB6.size)⟩
      · have d1 : decide (x < 0) = false := by simp; omega
        have d2 : decide ((65535 : Int) < x) = true := by simp; omega
        clear hx hx' h0
        go_wp2_with (first
          | (go_at_call 24; refine HRJ.out.mono ?_; rintro e _ ⟨rfl, rfl⟩)
          | (go_at_call 11; refine (HA.out _).mono ?_; rintro e w8 ⟨rfl, b8⟩))
        go_ret
        exact ⟨rfl, hB6.trans (b8.mono hB6.size)⟩
end Go.Proofs.YthhdackaopaojaaGreat
