import Derived.Test.YthhdackaopaojaaGreatK23
import Derived.Test.YthhdackaopaojaaGreatV45
import Derived.Test.YthhdackaopaojaaGreatK25
/- Adopt, echoes, rejections. -/
namespace Go.Proofs.YthhdackaopaojaaGreat
open Go.RowKit Go.Tg Go.Maps

def adoptL (s : LSt) (a b : List Opt) : LSt := { s with st := { s.st with s := 9, mine := a, theirs := b, ups := s.st.ups + 1 }, ticks := 0, missed := 0 }
def replyS (own : Int) (d : ByteArray) : ByteArray := if 4 < d.size then pB4 own ++ d.extract 4 d.size else pB4 own

section
variable {w w' w1 w3 : World} {S ok okp U : Nat → Prop} {L : LB} {B : NegB} {C : NegC} {st : NSt} {echo : Int} {s s' : LSt} {X X' : NegX}

set_option maxHeartbeats 2000000 in
set_option maxRecDepth 100000 in
theorem LAdopt_at (h : LcpAt w S ok L C echo s X) (hu : ∀ b, S b ∨ ok b ∨ b = L.lb ∨ b = L.tb → U b) (hs : s.st.s = 0) (hup : 0 ≤ s.st.ups ∧ s.st.ups ≤ 1000000000) (a b : List Opt) (av bv : Value) (ha : Opts w okp av a) (hb : Opts w okp bv b) (hal : a.length ≤ 1000000) (hbl : b.length ≤ 1000000)
    (hav : ∀ o ∈ a, o.v.size ≤ maxLen) (hbv : ∀ o ∈ b, o.v.size ≤ maxLen) (hp : putE a = 0 ∧ putE b = 0) (hok : ∀ b, okp b → ¬ L.t b) :
    Calls Tryz.prog 22 #[.pointer (some ⟨L.lb, 0, none⟩), av, bv] w fun e w' => e = .returned (.int .i64 0) ∧ LcpV w' (Grow U w) L C echo (adoptL s a b) ∧ Keep L.t w w' := by
  have h0 : w.cell? ⟨L.lb, 0, none⟩ = some (.pointer (some ⟨L.B.nb, 0, none⟩)) := h.cell 0
  have HN := Lib.hid (And.intro (lnone_at h) (Adopt_ok h.neg hs hup a b av bv okp ha hb hal hbl hav hbv hp (fun b hb ht => hok b hb (.inl ht))))
  obtain ⟨sa, ca, rfl, -, -⟩ := ha.form
  obtain ⟨sb, cb, rfl, -, -⟩ := hb.form
  have HA := Lib.hid (And.intro h hu)
  clear h hu ha hb hal hbl hav hbv hp hok hs hup
  go_enter Tryz.func22, Tryz.ntmps22
  go_wp2_with (first
    | (go_at_call 39; refine HN.out.1.mono ?_; rintro e w0 ⟨rfl, rfl⟩)
    | (go_at_call 56; refine HN.out.2.mono ?_; rintro e w1 ⟨rfl, ⟨X1, hn⟩, hk⟩
       have h1 := HA.out.1.negTurn hn hk
       have f5 := h1.fz 5
       have f6 := h1.fz 6
       have c5 : w1.cell? ⟨L.lb, 5, none⟩ = some (.int .i64 s.ticks) := h1.cell 5
       have c6 : w1.cell? ⟨L.lb, 6, none⟩ = some (.int .i64 s.missed) := h1.cell 6
       have H1 := Lib.hid (And.intro h1 hk); clear h1 hk hn))
  go_ret
  refine ⟨rfl, ((H1.out.1.cellTurn (s' := { s with st := { s.st with s := 9, mine := a, theirs := b, ups := s.st.ups + 1 }, ticks := 0 }) 5 (.int .i64 0) rfl ⟨rfl, rfl⟩).cellTurn (s' := adoptL s a b) 6 (.int .i64 0) rfl ⟨rfl, rfl⟩).fin HA.out.2 (Nat.le_refl _), ?_⟩
  exact (H1.out.2.mono (fun b _ hb => .inl hb)).trans (((keepL L w1 5 _).trans (keepL L _ 6 _)).mono (fun b _ hb => .inr (.inl hb)))

set_option maxHeartbeats 4000000 in
set_option maxRecDepth 100000 in
theorem reply_at (h : LcpAt w S ok L C echo s X) (hy : s.Sync) (hs : s.st.s = 9) (p : Pk) (po : Value) (hpo : ∃ a n c, po = .slice a n c) (hd : p.d.size ≤ 1000000) :
    Calls Tryz.prog 43 #[.pointer (some ⟨L.lb, 0, none⟩), pkV p po] w fun e w' => ∃ v, e = .returned v ∧ PksAt w' (fun _ => False) w.heap.size v [⟨10, p.id, [], replyS s.own p.d⟩] ∧ Below w.heap.size w w' := by
  obtain ⟨a1, n1, k1, rfl⟩ := hpo
  obtain ⟨pc, pi, pl, pd⟩ := p
  dsimp only at hd
  unfold pkV
  dsimp only
  have hb1 := (Below.refl w.heap.size w).alloc (Nat.le_refl _) (.cells #[.int .i64 pc, .int .i64 pi, .slice a1 n1 k1, .string pd] 38 (0, 0))
  have hz := at1 w (.cells #[.int .i64 pc, .int .i64 pi, .slice a1 n1 k1, .string pd] 38 (0, 0))
  have hsz := alloc1 w (.cells #[.int .i64 pc, .int .i64 pi, .slice a1 n1 k1, .string pd] 38 (0, 0))
  have HO := Lib.hid (lopened_at (h.below hb1))
  have HM := Lib.hid (fun W (hW : Below (w.alloc (.cells #[.int .i64 pc, .int .i64 pi, .slice a1 n1 k1, .string pd] 38 (0, 0))).heap.size (w.alloc (.cells #[.int .i64 pc, .int .i64 pi, .slice a1 n1 k1, .string pd] 38 (0, 0))) W) => magic_at ((h.below hb1).below hW) hy)
  rw [hs] at HO
  generalize s.own = own at *
  obtain ⟨W1, hW1⟩ : ∃ W1, W1 = w.alloc (.cells #[.int .i64 pc, .int .i64 pi, .slice a1 n1 k1, .string pd] 38 (0, 0)) := ⟨_, rfl⟩
  rw [← hW1] at hb1 hz hsz HM
  have HB := Lib.hid (And.intro hb1 (And.intro hz hsz))
  have HS : Hid (∀ Y, Below W1.heap.size W1 Y → (fun Y : World => Y.cell? ⟨w.heap.size, 1, none⟩ = some (.int .i64 pi) ∧ Y.cell? ⟨w.heap.size, 3, none⟩ = some (.string pd)) Y) := Lib.hid fun Y hY => by
    have z := (hY.block w.heap.size (by have := HB.out.2.2; omega)).trans HB.out.2.1
    exact ⟨cellOf z 1 _ rfl, cellOf z 3 _ rfl⟩
  clear h hy hs hb1 hz hsz
  by_cases h4 : 4 < pd.size
  · have HR : Hid (replyS own pd = pB4 own ++ pd.extract 4 pd.size) := Lib.hid (by unfold replyS; exact if_pos h4)
    generalize replyS own pd = R at *
    have dd : (4 : Int) ≤ (pd.size : Int) := by omega
    have dd2 : (min (4 : Int) (pd.size : Int)) = 4 := by omega
    have dl : ¬ 9223372036854775807 < (pB4 own).size + (pd.size - 4) := by rw [show (pB4 own).size = 4 from rfl]; omega
    clear h4
    go_enter Tryz.func43, Tryz.ntmps43
    go_wp2_with (go_at_call 44; refine HO.out.mono ?_; rintro e w0 ⟨rfl, rfl⟩)
    rw [← hW1]; clear hW1
    refine wp_region_H (rgH 0 15) (fun Y : World => Y.cell? ⟨w.heap.size, 1, none⟩ = some (.int .i64 pi) ∧ Y.cell? ⟨w.heap.size, 3, none⟩ = some (.string pd)) (by kernel_rfl) ?_
    have HSv := HS.out W1.drew (Below.refl _ _).drew
    refine wpAnyH_at 0 (v := ?vv402) rfl (by kernel_rfl) (by kernel_rfl) (by kernel_rfl) (fun _ _ _ h => h) ?hy402 HSv ?hh402
    case hy402 =>
      refine Or.inl ⟨by rfl, ?_⟩
      intro W hW
      obtain ⟨h0, h1⟩ := hW
      go_simp
      try with_reducible rfl
    simp only [Act.put, List.setIfInBounds_toArray, List.set_cons_zero, List.set_cons_succ]
    refine wpAnyH_at 1 (v := ?vv403) rfl (by kernel_rfl) (by kernel_rfl) (by kernel_rfl) (fun _ _ _ h => h) ?hy403 HSv ?hh403
    case hy403 =>
      refine Or.inl ⟨by rfl, ?_⟩
      intro W hW
      obtain ⟨h0, h1⟩ := hW
      go_simp
      try with_reducible rfl
    simp only [Act.put, List.setIfInBounds_toArray, List.set_cons_zero, List.set_cons_succ]
    refine wpAnyH_at 2 (v := ?vv404) rfl (by kernel_rfl) (by kernel_rfl) (by kernel_rfl) (fun _ _ _ h => h) ?hy404 HSv ?hh404
    case hy404 =>
      refine Or.inl ⟨by rfl, ?_⟩
      intro W hW
      obtain ⟨h0, h1⟩ := hW
      go_simp
      try with_reducible rfl
    simp only [Act.put, List.setIfInBounds_toArray, List.set_cons_zero, List.set_cons_succ]
    refine wpAnyH_at 5 (v := ?vv405) rfl (by kernel_rfl) (by kernel_rfl) (by kernel_rfl) (fun _ _ _ h => h) ?hy405 HSv ?hh405
    case hy405 =>
      refine Or.inl ⟨by rfl, ?_⟩
      intro W hW
      obtain ⟨h0, h1⟩ := hW
      go_simp
      try with_reducible rfl
    simp only [Act.put, List.setIfInBounds_toArray, List.set_cons_zero, List.set_cons_succ]
    refine wpAnyH_at 6 (v := ?vv406) rfl (by kernel_rfl) (by kernel_rfl) (by kernel_rfl) (fun _ _ _ h => h) ?hy406 HSv ?hh406
    case hy406 =>
      refine Or.inl ⟨by rfl, ?_⟩
      intro W hW
      obtain ⟨h0, h1⟩ := hW
      go_simp
      try with_reducible rfl
    simp only [Act.put, List.setIfInBounds_toArray, List.set_cons_zero, List.set_cons_succ]
    refine wpAnyH_at 7 (v := ?vv407) rfl (by kernel_rfl) (by kernel_rfl) (by kernel_rfl) (fun _ _ _ h => h) ?hy407 HSv ?hh407
    case hy407 =>
      refine Or.inl ⟨by rfl, ?_⟩
      intro W hW
      obtain ⟨h0, h1⟩ := hW
      go_simp
      try with_reducible rfl
    simp only [Act.put, List.setIfInBounds_toArray, List.set_cons_zero, List.set_cons_succ]
    refine wpAnyH_at 8 (v := ?vv408) rfl (by kernel_rfl) (by kernel_rfl) (by kernel_rfl) (fun _ _ _ h => h) ?hy408 HSv ?hh408
    case hy408 =>
      refine Or.inl ⟨by rfl, ?_⟩
      intro W hW
      obtain ⟨h0, h1⟩ := hW
      go_simp
      try with_reducible rfl
    simp only [Act.put, List.setIfInBounds_toArray, List.set_cons_zero, List.set_cons_succ]
    refine wpAnyH_at 9 (v := ?vv409) rfl (by kernel_rfl) (by kernel_rfl) (by kernel_rfl) (fun _ _ _ h => h) ?hy409 HSv ?hh409
    case hy409 =>
      refine Or.inl ⟨by rfl, ?_⟩
      intro W hW
      obtain ⟨h0, h1⟩ := hW
      go_simp
      try with_reducible rfl
    simp only [Act.put, List.setIfInBounds_toArray, List.set_cons_zero, List.set_cons_succ]
    refine wpAnyH_at 10 (v := ?vv410) rfl (by kernel_rfl) (by kernel_rfl) (by kernel_rfl) (fun _ _ _ h => h) ?hy410 HSv ?hh410
    case hy410 =>
      refine Or.inl ⟨by rfl, ?_⟩
      intro W hW
      obtain ⟨h0, h1⟩ := hW
      go_simp
      try with_reducible rfl
    simp only [Act.put, List.setIfInBounds_toArray, List.set_cons_zero, List.set_cons_succ]
    refine wpAnyH_at 11 (v := ?vv411) rfl (by kernel_rfl) (by kernel_rfl) (by kernel_rfl) (fun _ _ _ h => h) ?hy411 HSv ?hh411
    case hy411 =>
      refine Or.inl ⟨by rfl, ?_⟩
      intro W hW
      obtain ⟨h0, h1⟩ := hW
      go_simp
      try with_reducible rfl
    simp only [Act.put, List.setIfInBounds_toArray, List.set_cons_zero, List.set_cons_succ]
    refine wpAnyH_1 3 rfl (by kernel_rfl) ?_
    intro K hK
    rw [if_pos (by rfl)]
    try go_simp
    go_at_call 48
    refine (HM.out W1.drew (Below.refl _ _).drew).mono ?_
    rintro e W2 ⟨rfl, hb2⟩
    have HB2 := Lib.hid (show Below W1.heap.size W1 W2 from Below.trans (Below.refl _ _).drew hb2)
    have HSv := HS.out W2 HB2.out
    clear hb2
    refine hK _ _ (fun _ => HSv) ?_
    try simp only [Act.put, List.setIfInBounds_toArray, List.set_cons_zero, List.set_cons_succ]
    refine wpAnyH_1 4 rfl (by kernel_rfl) ?_
    intro K hK
    rw [if_pos (by rfl)]
    try go_simp
    go_at_call 50
    refine (lputI4 own W2).mono ?_
    rintro e W3 ⟨rfl, hb3⟩
    have HB3 := Lib.hid (HB2.out.trans (hb3.mono HB2.out.size))
    have HSv := HS.out W3 HB3.out
    clear hb3
    refine hK _ _ (fun _ => HSv) ?_
    try simp only [Act.put, List.setIfInBounds_toArray, List.set_cons_zero, List.set_cons_succ]
    refine wpAnyH_at 12 (v := ?vv412) rfl (by kernel_rfl) (by kernel_rfl) (by kernel_rfl) (fun _ _ _ h => h) ?hy412 HSv ?hh412
    case hy412 =>
      refine Or.inl ⟨by rfl, ?_⟩
      intro W hW
      obtain ⟨h0, h1⟩ := hW
      go_simp
      try with_reducible rfl
    simp only [Act.put, List.setIfInBounds_toArray, List.set_cons_zero, List.set_cons_succ]
    refine wpAnyH_at 13 (v := ?vv413) rfl (by kernel_rfl) (by kernel_rfl) (by kernel_rfl) (fun _ _ _ h => h) ?hy413 HSv ?hh413
    case hy413 =>
      refine Or.inl ⟨by rfl, ?_⟩
      intro W hW
      obtain ⟨h0, h1⟩ := hW
      go_simp
      try with_reducible rfl
    simp only [Act.put, List.setIfInBounds_toArray, List.set_cons_zero, List.set_cons_succ]
    refine wpAnyH_1 14 rfl (by kernel_rfl) ?_
    intro K hK
    rw [if_pos (by rfl)]
    try go_simp
    have HSv := HS.out _ (HB3.out.alloc HB3.out.size (.cells #[.int .i64 10, .int .i64 pi, .slice none 0 0, .string R] 38 (0, 0)))
    rw [HR.out] at HSv
    refine hK _ _ (fun _ => HSv) ?_
    try simp only [Act.put, List.setIfInBounds_toArray, List.set_cons_zero, List.set_cons_succ]
    refine wpAnyH_end 15 (fun j hj => rgH_end _ _ j (by omega)) (by rfl) (by kernel_rfl) ?_
    simp only [List.drop_succ_cons, List.drop_zero]
    go_wp2_with fail
    go_ret
    rw [HR.out]
    have hs3 := HB3.out.size
    have hs1 := HB.out.1.size
    refine ⟨_, rfl, PksAt.one ⟨10, pi, [], _⟩ _ (at1 W3 _) (by omega) (Rec.nil _ _ _), ?_⟩
    exact HB.out.1.trans ((HB3.out.alloc HB3.out.size _).mono HB.out.1.size)
  · have HR : Hid (replyS own pd = pB4 own) := Lib.hid (by unfold replyS; exact if_neg h4)
    generalize replyS own pd = R at *
    have dd : (pd.size : Int) ≤ 4 := by omega
    have dd2 : (min (4 : Int) (pd.size : Int)) = (pd.size : Int) := by omega
    have dl : ¬ 9223372036854775807 < (pB4 own).size := by rw [show (pB4 own).size = 4 from rfl]; omega
    clear h4
    go_enter Tryz.func43, Tryz.ntmps43
    go_wp2_with (go_at_call 44; refine HO.out.mono ?_; rintro e w0 ⟨rfl, rfl⟩)
    rw [← hW1]; clear hW1
    refine wp_region_H (rgH 0 15) (fun Y : World => Y.cell? ⟨w.heap.size, 1, none⟩ = some (.int .i64 pi) ∧ Y.cell? ⟨w.heap.size, 3, none⟩ = some (.string pd)) (by kernel_rfl) ?_
    have HSv := HS.out W1.drew (Below.refl _ _).drew
    refine wpAnyH_at 0 (v := ?vv414) rfl (by kernel_rfl) (by kernel_rfl) (by kernel_rfl) (fun _ _ _ h => h) ?hy414 HSv ?hh414
    case hy414 =>
      refine Or.inl ⟨by rfl, ?_⟩
      intro W hW
      obtain ⟨h0, h1⟩ := hW
      go_simp
      try with_reducible rfl
    simp only [Act.put, List.setIfInBounds_toArray, List.set_cons_zero, List.set_cons_succ]
    refine wpAnyH_at 1 (v := ?vv415) rfl (by kernel_rfl) (by kernel_rfl) (by kernel_rfl) (fun _ _ _ h => h) ?hy415 HSv ?hh415
    case hy415 =>
      refine Or.inl ⟨by rfl, ?_⟩
      intro W hW
      obtain ⟨h0, h1⟩ := hW
      go_simp
      try with_reducible rfl
    simp only [Act.put, List.setIfInBounds_toArray, List.set_cons_zero, List.set_cons_succ]
    refine wpAnyH_at 2 (v := ?vv416) rfl (by kernel_rfl) (by kernel_rfl) (by kernel_rfl) (fun _ _ _ h => h) ?hy416 HSv ?hh416
    case hy416 =>
      refine Or.inl ⟨by rfl, ?_⟩
      intro W hW
      obtain ⟨h0, h1⟩ := hW
      go_simp
      try with_reducible rfl
    simp only [Act.put, List.setIfInBounds_toArray, List.set_cons_zero, List.set_cons_succ]
    refine wpAnyH_at 5 (v := ?vv417) rfl (by kernel_rfl) (by kernel_rfl) (by kernel_rfl) (fun _ _ _ h => h) ?hy417 HSv ?hh417
    case hy417 =>
      refine Or.inl ⟨by rfl, ?_⟩
      intro W hW
      obtain ⟨h0, h1⟩ := hW
      go_simp
      try with_reducible rfl
    simp only [Act.put, List.setIfInBounds_toArray, List.set_cons_zero, List.set_cons_succ]
    refine wpAnyH_at 6 (v := ?vv418) rfl (by kernel_rfl) (by kernel_rfl) (by kernel_rfl) (fun _ _ _ h => h) ?hy418 HSv ?hh418
    case hy418 =>
      refine Or.inl ⟨by rfl, ?_⟩
      intro W hW
      obtain ⟨h0, h1⟩ := hW
      go_simp
      try with_reducible rfl
    simp only [Act.put, List.setIfInBounds_toArray, List.set_cons_zero, List.set_cons_succ]
    refine wpAnyH_at 7 (v := ?vv419) rfl (by kernel_rfl) (by kernel_rfl) (by kernel_rfl) (fun _ _ _ h => h) ?hy419 HSv ?hh419
    case hy419 =>
      refine Or.inl ⟨by rfl, ?_⟩
      intro W hW
      obtain ⟨h0, h1⟩ := hW
      go_simp
      try with_reducible rfl
    simp only [Act.put, List.setIfInBounds_toArray, List.set_cons_zero, List.set_cons_succ]
    refine wpAnyH_at 8 (v := ?vv420) rfl (by kernel_rfl) (by kernel_rfl) (by kernel_rfl) (fun _ _ _ h => h) ?hy420 HSv ?hh420
    case hy420 =>
      refine Or.inl ⟨by rfl, ?_⟩
      intro W hW
      obtain ⟨h0, h1⟩ := hW
      go_simp
      try with_reducible rfl
    simp only [Act.put, List.setIfInBounds_toArray, List.set_cons_zero, List.set_cons_succ]
    refine wpAnyH_at 9 (v := ?vv421) rfl (by kernel_rfl) (by kernel_rfl) (by kernel_rfl) (fun _ _ _ h => h) ?hy421 HSv ?hh421
    case hy421 =>
      refine Or.inl ⟨by rfl, ?_⟩
      intro W hW
      obtain ⟨h0, h1⟩ := hW
      go_simp
      try with_reducible rfl
    simp only [Act.put, List.setIfInBounds_toArray, List.set_cons_zero, List.set_cons_succ]
    refine wpAnyH_at 10 (v := ?vv422) rfl (by kernel_rfl) (by kernel_rfl) (by kernel_rfl) (fun _ _ _ h => h) ?hy422 HSv ?hh422
    case hy422 =>
      refine Or.inl ⟨by rfl, ?_⟩
      intro W hW
      obtain ⟨h0, h1⟩ := hW
      go_simp
      try with_reducible rfl
    simp only [Act.put, List.setIfInBounds_toArray, List.set_cons_zero, List.set_cons_succ]
    refine wpAnyH_at 11 (v := ?vv423) rfl (by kernel_rfl) (by kernel_rfl) (by kernel_rfl) (fun _ _ _ h => h) ?hy423 HSv ?hh423
    case hy423 =>
      refine Or.inl ⟨by rfl, ?_⟩
      intro W hW
      obtain ⟨h0, h1⟩ := hW
      go_simp
      try with_reducible rfl
    simp only [Act.put, List.setIfInBounds_toArray, List.set_cons_zero, List.set_cons_succ]
    refine wpAnyH_1 3 rfl (by kernel_rfl) ?_
    intro K hK
    rw [if_pos (by rfl)]
    try go_simp
    go_at_call 48
    refine (HM.out W1.drew (Below.refl _ _).drew).mono ?_
    rintro e W2 ⟨rfl, hb2⟩
    have HB2 := Lib.hid (show Below W1.heap.size W1 W2 from Below.trans (Below.refl _ _).drew hb2)
    have HSv := HS.out W2 HB2.out
    clear hb2
    refine hK _ _ (fun _ => HSv) ?_
    try simp only [Act.put, List.setIfInBounds_toArray, List.set_cons_zero, List.set_cons_succ]
    refine wpAnyH_1 4 rfl (by kernel_rfl) ?_
    intro K hK
    rw [if_pos (by rfl)]
    try go_simp
    go_at_call 50
    refine (lputI4 own W2).mono ?_
    rintro e W3 ⟨rfl, hb3⟩
    have HB3 := Lib.hid (HB2.out.trans (hb3.mono HB2.out.size))
    have HSv := HS.out W3 HB3.out
    clear hb3
    refine hK _ _ (fun _ => HSv) ?_
    try simp only [Act.put, List.setIfInBounds_toArray, List.set_cons_zero, List.set_cons_succ]
    refine wpAnyH_at 12 (v := ?vv424) rfl (by kernel_rfl) (by kernel_rfl) (by kernel_rfl) (fun _ _ _ h => h) ?hy424 HSv ?hh424
    case hy424 =>
      refine Or.inl ⟨by rfl, ?_⟩
      intro W hW
      obtain ⟨h0, h1⟩ := hW
      go_simp
      try with_reducible rfl
    simp only [Act.put, List.setIfInBounds_toArray, List.set_cons_zero, List.set_cons_succ]
    refine wpAnyH_at 13 (v := ?vv425) rfl (by kernel_rfl) (by kernel_rfl) (by kernel_rfl) (fun _ _ _ h => h) ?hy425 HSv ?hh425
    case hy425 =>
      refine Or.inl ⟨by rfl, ?_⟩
      intro W hW
      obtain ⟨h0, h1⟩ := hW
      go_simp
      try with_reducible rfl
    simp only [Act.put, List.setIfInBounds_toArray, List.set_cons_zero, List.set_cons_succ]
    refine wpAnyH_1 14 rfl (by kernel_rfl) ?_
    intro K hK
    rw [if_pos (by rfl)]
    try go_simp
    have HSv := HS.out _ (HB3.out.alloc HB3.out.size (.cells #[.int .i64 10, .int .i64 pi, .slice none 0 0, .string R] 38 (0, 0)))
    rw [HR.out] at HSv
    refine hK _ _ (fun _ => HSv) ?_
    try simp only [Act.put, List.setIfInBounds_toArray, List.set_cons_zero, List.set_cons_succ]
    refine wpAnyH_end 15 (fun j hj => rgH_end _ _ j (by omega)) (by rfl) (by kernel_rfl) ?_
    simp only [List.drop_succ_cons, List.drop_zero]
    go_wp2_with fail
    go_ret
    rw [HR.out]
    have hs3 := HB3.out.size
    have hs1 := HB.out.1.size
    refine ⟨_, rfl, PksAt.one ⟨10, pi, [], _⟩ _ (at1 W3 _) (by omega) (Rec.nil _ _ _), ?_⟩
    exact HB.out.1.trans ((HB3.out.alloc HB3.out.size _).mono HB.out.1.size)
end
end Go.Proofs.YthhdackaopaojaaGreat

/- The law of answers. -/
namespace Go.Proofs.YthhdackaopaojaaGreat
open Go.RowKit Go.Tg Go.Maps

section
variable {w0 w w' : World} {S ok okp U : Nat → Prop} {L : LB} {C : NegC} {echo : Int} {s : LSt} {X : NegX}

set_option maxHeartbeats 2000000 in
set_option maxRecDepth 100000 in
theorem LTake9_at (h : LcpAt w S ok L C echo s X) (hy : s.Sync) (hs : s.st.s = 9) (pi : Int) (d : ByteArray) (hd : d.size ≤ 1000000) :
    Calls Tryz.prog 15 #[.pointer (some ⟨L.lb, 0, none⟩), .agg #[.int .i64 9, .int .i64 pi, .slice none 0 0, .string d]] w fun e w' => ∃ v, e = .returned v ∧ PksAt w' (fun _ => False) w.heap.size v [⟨10, pi, [], replyS s.own d⟩] ∧ Below w.heap.size w w' := by
  have hb1 := (Below.refl w.heap.size w).alloc (Nat.le_refl _) (.cells #[.int .i64 9, .int .i64 pi, .slice none 0 0, .string d] 38 (0, 0))
  have HN := Lib.hid (And.intro (lnone_at (h.below hb1)) (And.intro (reply_at (h.below hb1) hy hs ⟨9, pi, [], d⟩ (.slice none 0 0) ⟨none, 0, 0, rfl⟩ hd) hb1))
  unfold pkV at HN
  dsimp only at HN
  clear h hy hs hb1
  go_enter Tryz.func15, Tryz.ntmps15
  go_wp2_with (first
    | (go_at_call 39; refine HN.out.1.mono ?_; rintro e w0 ⟨rfl, rfl⟩)
    | (go_at_call 43; refine HN.out.2.1.mono ?_; rintro e w1 ⟨v, rfl, hp, hb⟩; have H1 := Lib.hid (And.intro hp hb); clear hp hb))
  go_ret
  obtain ⟨K, q1, q2, q3⟩ := H1.out.1
  exact ⟨_, rfl, ⟨K, q1, q2.base HN.out.2.2.size, q3⟩, HN.out.2.2.trans (H1.out.2.mono HN.out.2.2.size)⟩

theorem LK.Take9 (h : LK w0 w L C echo s) (hy : s.Sync) (hs : s.st.s = 9) (pi : Int) (d : ByteArray) (hd : d.size ≤ 1000000) :
    Calls Tryz.prog 15 #[.pointer (some ⟨L.lb, 0, none⟩), .agg #[.int .i64 9, .int .i64 pi, .slice none 0 0, .string d]] w fun e w' => ∃ v, e = .returned v ∧ PksAt w' (fun _ => False) w.heap.size v [⟨10, pi, [], replyS s.own d⟩] ∧ Below w.heap.size w w' := by
  obtain ⟨S, ok, X, hv, hu⟩ := h.v
  exact LTake9_at hv hy hs pi d hd
theorem LK.Adopt (h : LK w0 w L C echo s) (hs : s.st.s = 0) (hup : 0 ≤ s.st.ups ∧ s.st.ups ≤ 1000000000) (a b : List Opt) (av bv : Value) (ha : Opts w okp av a) (hb : Opts w okp bv b) (hal : a.length ≤ 1000000) (hbl : b.length ≤ 1000000)
    (hav : ∀ o ∈ a, o.v.size ≤ maxLen) (hbv : ∀ o ∈ b, o.v.size ≤ maxLen) (hp : putE a = 0 ∧ putE b = 0) (hok : ∀ b, okp b → ¬ L.t b) :
    Calls Tryz.prog 22 #[.pointer (some ⟨L.lb, 0, none⟩), av, bv] w fun e w' => e = .returned (.int .i64 0) ∧ LK w0 w' L C echo (adoptL s a b) ∧ Keep L.t w w' := by
  obtain ⟨S, ok, X, hv, hu⟩ := h.v
  refine (LAdopt_at hv hu hs hup a b av bv ha hb hal hbl hav hbv hp hok).mono ?_
  rintro e w' ⟨h1, h2, h3⟩
  exact ⟨h1, LK.of h2 h.b h3 (fun b hb => (h.nt hb).1), h3⟩
end
theorem adoptL_sync {s : LSt} (h : s.Sync) (a b : List Opt) : (adoptL s a b).Sync := h
/-- The config of the laws, and what it asks for. -/
theorem HO12 : ∀ W, Calls Tryz.prog 18 #[.agg #[.int .i64 1492, .int .i64 49699, .int .i64 7, .int .i64 0, .int .i64 5, .int .i64 2, .int .i64 5, .int .i64 3]] W fun e w' => ∃ v, e = .returned v ∧ ORow w' W.heap.size v opts12 ∧ Below W.heap.size W w' := fun W => by
  have := lopts_any cfg12 W (by unfold I64 cfg12; decide)
  rwa [optsS12] at this
theorem lnew12 (w : World) : Calls Tryz.prog 12 #[.agg #[.int .i64 1492, .int .i64 49699, .int .i64 7, .int .i64 0, .int .i64 5, .int .i64 2, .int .i64 5, .int .i64 3], .pointer none] w fun e w' => ∃ L, e = .returned (.tuple #[.pointer (some ⟨L.lb, 0, none⟩), .int .i64 0]) ∧ LK w w' L (lC cfg12 L.lb) 0 (lst0 cfg12 ⟨[], 0⟩) := by
  refine (lnew_nil cfg12 cfg12_ok w).mono ?_
  rintro e w' ⟨tb, okt, h1, h2, h3⟩
  exact LK.made h1 (Below.refl _ _) h2 h3

set_option maxHeartbeats 8000000 in
set_option maxRecDepth 100000 in
theorem lcpAnswers_any (x : Int) (d : ByteArray) (w : World) (hd : d.size ≤ maxLen) :
    Calls Tryz.prog 5 #[.int .i64 x, .string d] w fun e w' => e = .returned (.bool true) ∧ Below w.heap.size w w' := by
  have q1 : ∀ w a, (binOp .eql 27 (.pointer (some a)) (.pointer none)).run Tryz.prog w = .ok (.bool false) w := fun w a => by kernel_rfl
  unfold maxLen at hd
  have HA := Lib.hid lalive_any
  by_cases hq : 1000 < d.size
  · have dd : decide ((1000 : Int) < (d.size : Int)) = true := by simp; omega
    clear hq
    go_enter Tryz.func5, Tryz.ntmps5
    go_wp2_with (go_at_call 11; refine (HA.out _).mono ?_; rintro e w2 ⟨rfl, b2⟩)
    go_ret
    exact ⟨rfl, b2⟩
  · have dd : decide ((1000 : Int) < (d.size : Int)) = false := by simp; omega
    have hd' : d.size ≤ 1000000 := by omega
    clear hd
    go_enter Tryz.func5, Tryz.ntmps5
    go_wp2_with fail
    refine (config_any _).mono ?_
    rintro e w1 ⟨rfl, b1⟩
    have HB1 := Lib.hid b1
    clear b1
    go_wp2_with fail
    refine (lnew12 w1).mono ?_
    rintro e w2 ⟨L, rfl, k2⟩
    have HK := Lib.hid k2
    clear k2
    go_wp2_with fail
    refine (config_any _).mono ?_
    rintro e w3 ⟨rfl, b3⟩
    have HK := Lib.hid (HK.out.below b3)
    clear b3
    go_wp2_with fail
    refine (HO12 _).mono ?_
    rintro e w4 ⟨v4, rfl, r4, b4⟩
    obtain ⟨sa, ca, rfl⟩ := r4.form
    have HK4 := Lib.hid (HK.out.below b4)
    have HAD := Lib.hid (HK4.out.Adopt rfl ⟨by decide, by decide⟩ opts12 [] _ (.slice none 0 0) (r4.opts (by unfold maxLen; decide)) (Rec.nil _ _ _) (by decide) (by decide) (by decide) (fun _ h => by cases h) ⟨by decide, by decide⟩ (fun b hb ht => by have := (HK.out.nt ht).2; omega))
    clear r4 b4
    go_wp2_with fail
    refine HAD.out.mono ?_
    rintro e w5 ⟨rfl, k5, -⟩
    have HK5 := Lib.hid k5
    have HT := Lib.hid (k5.Take9 (adoptL_sync (sync12 _) _ _) rfl x d hd')
    rw [show (adoptL (lst0 cfg12 ⟨[], 0⟩) opts12 []).own = 7 from rfl] at HT
    clear k5 HAD HK4
    go_wp2_with fail
    refine HT.out.mono ?_
    rintro e w6 ⟨v6, rfl, p6, b6⟩
    obtain ⟨gp, cp, po, rfl, -, -, hcp1, hcp2, z0, z1, z2, z3, -⟩ := p6.at0
    unfold maxLen at hcp2
    dsimp only at z0 z1 z2 z3
    have HK6 := Lib.hid (HK5.out.below b6)
    have HU := Lib.hid HK6.out.Ups
    rw [show (adoptL (lst0 cfg12 ⟨[], 0⟩) opts12 []).st.ups = 1 from rfl, show (adoptL (lst0 cfg12 ⟨[], 0⟩) opts12 []).st.downs = 0 from rfl] at HU
    have HZ : Hid (∀ W, Below w6.heap.size w6 W → W.cell? ⟨gp, 0, none⟩ = some (.int .i64 10) ∧ W.cell? ⟨gp, 1, none⟩ = some (.int .i64 x) ∧ W.cell? ⟨gp, 3, none⟩ = some (.string (replyS 7 d))) := Lib.hid fun W hW => by
      have hg : gp < w6.heap.size := block_lt_of_cell z0
      exact ⟨(hW.cell hg).trans z0, (hW.cell hg).trans z1, (hW.cell hg).trans z3⟩
    clear p6 b6 z0 z1 z2 z3 HT
    by_cases h4 : 4 < d.size
    · have d4 : decide ((4 : Int) < (d.size : Int)) = true := by simp; omega
      have dd : (4 : Int) ≤ (d.size : Int) := by omega
      have dl : ¬ 9223372036854775807 < 4 + (d.size - 4) := by omega
      have HR := Lib.hid (show replyS 7 d = (⟨#[0, 0, 0, 7]⟩ : ByteArray) ++ d.extract 4 d.size from by unfold replyS; exact if_pos h4)
      rw [HR.out] at HZ
      clear h4
      go_wp2_with (first
        | (go_at_call 23; refine HU.out.mono ?_; rintro e w7 ⟨rfl, b7⟩; have HB7 := Lib.hid b7; clear b7)
        | (go_at_call 11; refine (HA.out _).mono ?_; rintro e w8 ⟨rfl, b8⟩
           have HB8 := Lib.hid (HB7.out.trans (b8.mono HB7.out.size))
           obtain ⟨z0, z1, z3⟩ := HZ.out _ HB8.out
           have HST := Lib.hid (HK6.out.below HB8.out).State
           rw [show (adoptL (lst0 cfg12 ⟨[], 0⟩) opts12 []).st.s = 9 from rfl] at HST
           clear b8)
        | (go_at_call 16; refine HST.out.mono ?_; rintro e w9 ⟨rfl, rfl⟩))
      go_ret
      have hB6 := HB1.out.trans (HK6.out.b.mono HB1.out.size)
      exact ⟨rfl, hB6.trans (HB8.out.mono hB6.size)⟩
    · have d4 : decide ((4 : Int) < (d.size : Int)) = false := by simp; omega
      have HR := Lib.hid (show replyS 7 d = (⟨#[0, 0, 0, 7]⟩ : ByteArray) from by unfold replyS; exact if_neg h4)
      rw [HR.out] at HZ
      have dq : (⟨#[0, 0, 0, 7]⟩ : ByteArray) ++ (⟨#[]⟩ : ByteArray) = ⟨#[0, 0, 0, 7]⟩ := by kernel_rfl
      have ds : (⟨#[0, 0, 0, 7]⟩ : ByteArray).size = 4 := rfl
      have dz : (⟨#[]⟩ : ByteArray).size = 0 := rfl
      clear h4
      go_wp2_with (first
        | (go_at_call 23; refine HU.out.mono ?_; rintro e w7 ⟨rfl, b7⟩; have HB7 := Lib.hid b7; clear b7)
        | (go_at_call 11; refine (HA.out _).mono ?_; rintro e w8 ⟨rfl, b8⟩
           have HB8 := Lib.hid (HB7.out.trans (b8.mono HB7.out.size))
           obtain ⟨z0, z1, z3⟩ := HZ.out _ HB8.out
           have HST := Lib.hid (HK6.out.below HB8.out).State
           rw [show (adoptL (lst0 cfg12 ⟨[], 0⟩) opts12 []).st.s = 9 from rfl] at HST
           clear b8)
        | (go_at_call 16; refine HST.out.mono ?_; rintro e w9 ⟨rfl, rfl⟩))
      go_ret
      have hB6 := HB1.out.trans (HK6.out.b.mono HB1.out.size)
      exact ⟨rfl, hB6.trans (HB8.out.mono hB6.size)⟩
end Go.Proofs.YthhdackaopaojaaGreat
