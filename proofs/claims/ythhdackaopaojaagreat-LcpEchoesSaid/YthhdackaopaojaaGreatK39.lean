import Derived.Test.YthhdackaopaojaaGreatK27
import Derived.Test.YthhdackaopaojaaGreatV33
/- Echoes: the link asks whether the other end is there. -/
namespace Go.Proofs.YthhdackaopaojaaGreat
open Go.RowKit Go.Tg Go.Maps

def aliveL (echo : Int) (C : NegC) (s : LSt) : LSt × List Pk :=
  if wrap64 (s.ticks + 1) < echo then ({ s with ticks := wrap64 (s.ticks + 1) }, [])
  else if 3 ≤ s.missed then doL C { s with ticks := 0 } 3
  else ({ s with ticks := 0, missed := wrap64 (s.missed + 1), st := { s.st with id := nid s.st.id } }, [⟨9, nid s.st.id, [], pB4 s.own⟩])

section
variable {w0 w w' : World} {S ok okp U : Nat → Prop} {L : LB} {C : NegC} {echo : Int} {s : LSt} {X : NegX}

theorem LcpAt.idTurnE {w1 : World} (h : LcpAt w S ok L C echo s X) (hn : NegAt w1 S L.B C { s.st with id := nid s.st.id } X) (hk : Keep (fun b => b = L.B.nb) w w1) : LcpAt w1 S ok L C echo { s with st := { s.st with id := nid s.st.id } } X where
  blk := (hk.block _ h.llt (fun he => h.n1 (he ▸ h.neg.s1))).trans h.blk
  neg := hn
  tape := h.tape.keep hk (fun he => h.n2 (he ▸ h.neg.s1)) (fun b _ hb he => (h.n3 b hb).1 (he ▸ h.neg.s1))
  ne := h.ne
  n1 := h.n1
  n2 := h.n2
  n3 := fun b hb => ⟨(h.n3 b hb).1, (h.n3 b hb).2.1, Nat.lt_of_lt_of_le (h.n3 b hb).2.2 hk.size⟩
  jd := h.jd

set_option maxHeartbeats 4000000 in
set_option maxRecDepth 100000 in
theorem LAlive_at (h : LcpAt w S ok L C echo s X) (hu : ∀ b, S b ∨ ok b ∨ b = L.lb ∨ b = L.tb → U b) (hy : s.Sync) :
    Calls Tryz.prog 63 #[.pointer (some ⟨L.lb, 0, none⟩)] w fun e w' => LEv w w' U (fun _ => False) L C echo (aliveL echo C s) e := by
  have c5 : w.cell? ⟨L.lb, 5, none⟩ = some (.int .i64 s.ticks) := h.cell 5
  have f5 := h.fz 5
  have h1 := h.cellTurn (s' := { s with ticks := wrap64 (s.ticks + 1) }) 5 (.int .i64 (wrap64 (s.ticks + 1))) rfl ⟨rfl, rfl⟩
  have k1 := keepL L w 5 (.int .i64 (wrap64 (s.ticks + 1)))
  have HE := Lib.hid (show aliveL echo C s = (if wrap64 (s.ticks + 1) < echo then ({ s with ticks := wrap64 (s.ticks + 1) }, [])
    else if 3 ≤ s.missed then doL C { s with ticks := 0 } 3
    else ({ s with ticks := 0, missed := wrap64 (s.missed + 1), st := { s.st with id := nid s.st.id } }, [⟨9, nid s.st.id, [], pB4 s.own⟩])) from rfl)
  have HU := Lib.hid (And.intro hu hy)
  have d2 : (w.setCell ⟨L.lb, 5, none⟩ (.int .i64 (wrap64 (s.ticks + 1)))).cell? ⟨L.lb, 2, none⟩ = some (.int .i64 echo) := h1.cell 2
  have d5 : (w.setCell ⟨L.lb, 5, none⟩ (.int .i64 (wrap64 (s.ticks + 1)))).cell? ⟨L.lb, 5, none⟩ = some (.int .i64 (wrap64 (s.ticks + 1))) := h1.cell 5
  have H1 := Lib.hid (And.intro h1 k1)
  generalize aliveL echo C s = R at *
  clear h hu hy h1 k1
  by_cases ht : wrap64 (s.ticks + 1) < echo
  · have HR := Lib.hid (show R = ({ s with ticks := wrap64 (s.ticks + 1) }, []) from by rw [HE.out, if_pos ht])
    have e1 : decide (wrap64 (s.ticks + 1) < echo) = true := by simpa using ht
    clear ht HE
    go_enter Tryz.func63, Tryz.ntmps63
    go_wp2_with fail
    go_quiet (fail)
    go_wp2_with fail
    go_ret
    rw [HR.out]
    have hb : Below (w.setCell ⟨L.lb, 5, none⟩ (.int .i64 (wrap64 (s.ticks + 1)))).heap.size (w.setCell ⟨L.lb, 5, none⟩ (.int .i64 (wrap64 (s.ticks + 1)))) ((w.setCell ⟨L.lb, 5, none⟩ (.int .i64 (wrap64 (s.ticks + 1)))).drewN nq) := belowN (Below.refl _ _) nq
    exact ⟨_, rfl, PksAt.nil _ _ _, (((H1.out.1.below hb).v).mono (fun b hb => .inl (HU.out.1 b hb))), ((H1.out.2.trans (Keep.of_below _ hb)).mono (fun b _ hb => .inr (.inl hb)))⟩
  · have e1 : decide (wrap64 (s.ticks + 1) < echo) = false := by simpa using ht
    rw [if_neg ht] at HE
    clear ht
    by_cases hm : 3 ≤ s.missed
    · have HR := Lib.hid (show R = doL C { s with ticks := 0 } 3 from by rw [HE.out, if_pos hm])
      have e2 : decide (3 ≤ s.missed) = true := by simpa using hm
      clear hm HE
      go_enter Tryz.func63, Tryz.ntmps63
      go_wp2_with fail
      go_quiet (fail)
      have hb : Below (w.setCell ⟨L.lb, 5, none⟩ (.int .i64 (wrap64 (s.ticks + 1)))).heap.size (w.setCell ⟨L.lb, 5, none⟩ (.int .i64 (wrap64 (s.ticks + 1)))) ((w.setCell ⟨L.lb, 5, none⟩ (.int .i64 (wrap64 (s.ticks + 1)))).drewN nq) := belowN (Below.refl _ _) nq
      have h2 := H1.out.1.below hb
      have k2 := H1.out.2.trans (Keep.of_below _ hb)
      generalize (w.setCell ⟨L.lb, 5, none⟩ (.int .i64 (wrap64 (s.ticks + 1)))).drewN nq = W1 at h2 k2 ⊢
      have f25 := h2.fz 5
      have g25 : W1.cell? ⟨L.lb, 5, none⟩ = some (.int .i64 (wrap64 (s.ticks + 1))) := h2.cell 5
      have h3 := h2.cellTurn (s' := { s with ticks := 0 }) 5 (.int .i64 0) rfl ⟨rfl, rfl⟩
      have k3 := k2.trans (keepL L W1 5 (.int .i64 0))
      have g6 : (W1.setCell ⟨L.lb, 5, none⟩ (.int .i64 0)).cell? ⟨L.lb, 6, none⟩ = some (.int .i64 s.missed) := h3.cell 6
      have H3 := Lib.hid (And.intro h3 k3)
      clear h2 k2 h3 k3 hb c5 f5 d2 d5
      have HD := Lib.hid (LDo_at (U := U) H3.out.1 HU.out.1 3 (by decide))
      go_wp2_with (go_at_call 14; refine HD.out.mono ?_; rintro e w5 ⟨v5, rfl, h5⟩; have H5 := Lib.hid h5; clear h5)
      go_ret
      rw [HR.out]
      have hkk : Keep L.t w (W1.setCell ⟨L.lb, 5, none⟩ (.int .i64 0)) := H3.out.2.mono (fun b _ hb => .inr (.inl hb))
      have hsz := hkk.size
      obtain ⟨⟨K, q1, q2, q3⟩, q4, q5⟩ := H5.out
      exact ⟨_, rfl, ⟨K, q1, q2.base hsz, q3.mono (fun b hb => hb.imp id (fun h => Nat.le_trans hsz h))⟩, q4.mono (fun b hb => hb.imp id (fun h => Nat.le_trans hsz h)), hkk.trans q5⟩
    · have HR := Lib.hid (show R = ({ s with ticks := 0, missed := wrap64 (s.missed + 1), st := { s.st with id := nid s.st.id } }, [⟨9, nid s.st.id, [], pB4 s.own⟩]) from by rw [HE.out, if_neg hm])
      have e2 : decide (3 ≤ s.missed) = false := by simpa using hm
      clear hm HE
      go_enter Tryz.func63, Tryz.ntmps63
      go_wp2_with fail
      go_quiet (fail)
      have hb : Below (w.setCell ⟨L.lb, 5, none⟩ (.int .i64 (wrap64 (s.ticks + 1)))).heap.size (w.setCell ⟨L.lb, 5, none⟩ (.int .i64 (wrap64 (s.ticks + 1)))) ((w.setCell ⟨L.lb, 5, none⟩ (.int .i64 (wrap64 (s.ticks + 1)))).drewN nq) := belowN (Below.refl _ _) nq
      have h2 := H1.out.1.below hb
      have k2 := H1.out.2.trans (Keep.of_below _ hb)
      generalize (w.setCell ⟨L.lb, 5, none⟩ (.int .i64 (wrap64 (s.ticks + 1)))).drewN nq = W1 at h2 k2 ⊢
      have f25 := h2.fz 5
      have g25 : W1.cell? ⟨L.lb, 5, none⟩ = some (.int .i64 (wrap64 (s.ticks + 1))) := h2.cell 5
      have h3 := h2.cellTurn (s' := { s with ticks := 0 }) 5 (.int .i64 0) rfl ⟨rfl, rfl⟩
      have k3 := k2.trans (keepL L W1 5 (.int .i64 0))
      have g6 : (W1.setCell ⟨L.lb, 5, none⟩ (.int .i64 0)).cell? ⟨L.lb, 6, none⟩ = some (.int .i64 s.missed) := h3.cell 6
      have H3 := Lib.hid (And.intro h3 k3)
      clear h2 k2 h3 k3 hb c5 f5 d2 d5
      have f6 := H3.out.1.fz 6
      have h4 := H3.out.1.cellTurn (s' := { s with ticks := 0, missed := wrap64 (s.missed + 1) }) 6 (.int .i64 (wrap64 (s.missed + 1))) rfl ⟨rfl, rfl⟩
      have k4 := H3.out.2.trans (keepL L _ 6 (.int .i64 (wrap64 (s.missed + 1))))
      have g0 : ((W1.setCell ⟨L.lb, 5, none⟩ (.int .i64 0)).setCell ⟨L.lb, 6, none⟩ (.int .i64 (wrap64 (s.missed + 1)))).cell? ⟨L.lb, 0, none⟩ = some (.pointer (some ⟨L.B.nb, 0, none⟩)) := h4.cell 0
      have HI := Lib.hid (id_at h4.neg)
      have H4 := Lib.hid (And.intro h4 k4)
      clear h4 k4
      go_wp2_with (first
        | (go_at_call 57; refine HI.out.mono ?_; rintro e w5 ⟨rfl, hn5, hk5⟩
           have h5 := H4.out.1.idTurnE hn5 hk5
           have HM := Lib.hid (magic_at h5 HU.out.2)
           have H5 := Lib.hid (And.intro h5 hk5)
           clear hn5 hk5 h5)
        | (go_at_call 48; refine HM.out.mono ?_; rintro e w6 ⟨rfl, b6⟩; have HB6 := Lib.hid b6; clear b6)
        | (go_at_call 50; refine (lputI4 _ _).mono ?_; rintro e w7 ⟨rfl, b7⟩; have HB7 := Lib.hid (HB6.out.trans (b7.mono HB6.out.size)); clear b7))
      go_ret
      rw [HR.out]
      have hb8 : Below w5.heap.size w5 (w7.alloc (.cells #[.int .i64 9, .int .i64 (nid s.st.id), .slice none 0 0, .string (pB4 s.own)] 38 (0, 0))) := HB7.out.alloc HB7.out.size _
      have s4 := H4.out.2.size
      have s5 := H5.out.2.size
      have s7 := HB7.out.size
      refine ⟨_, rfl, PksAt.one ⟨9, nid s.st.id, [], pB4 s.own⟩ _ (at1 w7 _) (show w.heap.size ≤ w7.heap.size by omega) (Rec.nil _ _ _), (H5.out.1.below hb8).v.mono (fun b hb => .inl (HU.out.1 b hb)), ?_⟩
      exact ((H4.out.2.mono (fun b _ hb => .inr (.inl hb))).trans (H5.out.2.mono (fun b _ hb => .inl (.inl hb)))).trans (Keep.of_below _ hb8)
end
end Go.Proofs.YthhdackaopaojaaGreat

/- A tick goes by. -/
namespace Go.Proofs.YthhdackaopaojaaGreat
open Go.RowKit Go.Tg Go.Maps

theorem anewS_same {u : Int} {s : LSt} (h : s.st.ups = u) : anewS u s = s := by unfold anewS; exact if_pos h
theorem tickS_req (rej : Pk → ByteArray) (C : NegC) (st : NSt) : (tickS rej C st).1.req = st.req := by
  unfold tickS
  split
  · split
    · rfl
    · rw [toldS_req]
  · rfl

section
variable {w0 w w' : World} {S ok okp U : Nat → Prop} {L : LB} {B : NegB} {C : NegC} {st : NSt} {echo : Int} {s : LSt} {X : NegX}

set_option maxHeartbeats 2000000 in
theorem NTick9_at (h : NegAt w S B C st X) (hs : st.s = 9) : Calls Tryz.prog 62 #[.pointer (some ⟨B.nb, 0, none⟩)] w fun e w' => e = .returned (.slice none 0 0) ∧ w = w' := by
  have g0 : w.cell? ⟨B.nb, 0, none⟩ = some (.pointer (some ⟨B.ab, 0, none⟩)) := h.cell 0
  have H := Lib.hid (And.intro (nnone_at h) (waits_some B.ab st.s st.c C.cf C.tm w h.aut h.ok.cf.1))
  rw [hs, show waitsB 9 = false from rfl] at H
  clear h hs
  go_enter Tryz.func62, Tryz.ntmps62
  go_wp2_with (first
    | (go_at_call 77; refine H.out.1.mono ?_; rintro e w1 ⟨rfl, rfl⟩)
    | (go_at_call 86; refine H.out.2.mono ?_; rintro e w1 ⟨rfl, rfl⟩))
  go_ret
  exact ⟨rfl, rfl⟩

set_option maxHeartbeats 4000000 in
set_option maxRecDepth 100000 in
theorem LTick9_at (h : LcpAt w S ok L C echo s X) (hu : ∀ b, S b ∨ ok b ∨ b = L.lb ∨ b = L.tb → U b) (hy : s.Sync) (hs : s.st.s = 9) (he : echo ≠ 0) (hlen : (aliveL echo C s).2.length ≤ 1000000) :
    Calls Tryz.prog 31 #[.pointer (some ⟨L.lb, 0, none⟩)] w fun e w' => LEv w w' U (fun _ => False) L C echo (aliveL echo C s) e := by
  have g0 : w.cell? ⟨L.lb, 0, none⟩ = some (.pointer (some ⟨L.B.nb, 0, none⟩)) := h.cell 0
  have HN := Lib.hid (And.intro (lnone_at h) (Ups_at h.neg))
  have H := Lib.hid (And.intro h (And.intro hu (And.intro hy hs)))
  have e0 : (echo == 0) = false := by simpa using he
  have HL := Lib.hid hlen
  generalize hR : aliveL echo C s = R at *
  have HR := Lib.hid hR
  clear h hu hy hs he hR hlen
  go_enter Tryz.func31, Tryz.ntmps31
  go_wp2_with (first
    | (go_at_call 39; refine HN.out.1.mono ?_; rintro e w1 ⟨rfl, rfl⟩)
    | (go_at_call 40; refine HN.out.2.mono ?_; rintro e w1 ⟨rfl, b1⟩
       have h1 := H.out.1.below b1
       have c0 : w1.cell? ⟨L.lb, 0, none⟩ = some (.pointer (some ⟨L.B.nb, 0, none⟩)) := h1.cell 0
       have HT := Lib.hid (NTick9_at h1.neg H.out.2.2.2)
       have HA := Lib.hid (anew_at h1 s.st.ups none 0 0)
       rw [anewS_same rfl] at HA
       have H1 := Lib.hid (And.intro h1 b1); clear h1 b1)
    | (go_at_call 62; refine HT.out.mono ?_; rintro e w2 ⟨rfl, rfl⟩)
    | (go_at_call 41; refine HA.out.mono ?_; rintro e w3 ⟨rfl, h3, k3⟩
       have d2 : w3.cell? ⟨L.lb, 2, none⟩ = some (.int .i64 echo) := h3.cell 2
       have HO := Lib.hid (lopened_at h3)
       rw [H.out.2.2.2] at HO
       have HAL := Lib.hid (LAlive_at (U := U) h3 H.out.2.1 H.out.2.2.1)
       rw [HR.out] at HAL
       have H3 := Lib.hid ((Keep.of_below L.t H1.out.2).trans (k3.mono (fun b _ hb => .inr (.inl hb)))); clear h3 k3)
    | (go_at_call 44; refine HO.out.mono ?_; rintro e w4 ⟨rfl, rfl⟩)
    | (go_at_call 63; refine HAL.out.mono ?_; rintro e w5 ⟨v5, rfl, ⟨K5, e5, row5, opts5⟩, q5, k5⟩
       have hone5 : ∀ p ∈ K5, p.2.oneCell' = true := fun p hp => by obtain ⟨sa, sc, e, _, _⟩ := Opts.form (opts5 p hp); rw [e]; rfl
       have hll5 : ([] : List (Pk × Value)).length + K5.length ≤ 1000000 := by
         have h1 := congrArg List.length e5
         rw [List.length_map] at h1
         simp only [List.length_nil]
         have := HL.out
         omega
       have H5 := Lib.hid (And.intro e5 (And.intro row5 (And.intro opts5 (And.intro q5 k5))))
       clear e5 row5 opts5 q5 k5)
    | (at_builtin; refine wpl_append_pks (B := w5.heap.size) rfl _ _ rfl _ [] rfl (PRow.nil _ _) _ K5 rfl H5.out.2.1 hone5 hll5 (Nat.le_refl _) ?_
       intro v6 w6 r6 k6 o6
       have hb6 : Below w5.heap.size w5 w6 := k6.below (Nat.le_refl _) (fun k _ h => by cases h)
       have H6 := Lib.hid (And.intro r6 hb6)
       clear r6 k6 o6 hb6))
  go_ret
  have s3 := H3.out.size
  have s5 := H5.out.2.2.2.2.size
  refine ⟨_, rfl, ⟨K5, H5.out.1, ?_, POpts.mono (POpts.keep H5.out.2.2.1 (Keep.of_below (fun _ => False) H6.out.2) (fun _ _ _ h => h)) (fun b hb => hb.imp id (fun h => Nat.le_trans s3 h))⟩, (H5.out.2.2.2.1.below H6.out.2).mono (fun b hb => hb.imp id (fun h => Nat.le_trans s3 h)), (H3.out.trans H5.out.2.2.2.2).trans (Keep.of_below _ H6.out.2)⟩
  have := H6.out.1
  rw [List.nil_append] at this
  exact this.base (show w.heap.size ≤ w5.heap.size by omega)

set_option maxHeartbeats 4000000 in
set_option maxRecDepth 100000 in
theorem LTickO_at (h : LcpAt w S ok L C echo s X) (hu : ∀ b, S b ∨ ok b ∨ b = L.lb ∨ b = L.tb → U b) (he : echo ≠ 0) (hs : (tickS rejS C s.st).1.s ≠ 9) :
    Calls Tryz.prog 31 #[.pointer (some ⟨L.lb, 0, none⟩)] w fun e w' => LEv w w' U (fun _ => False) L C echo (anewS s.st.ups { s with st := (tickS rejS C s.st).1 }, (tickS rejS C s.st).2) e := by
  have g0 : w.cell? ⟨L.lb, 0, none⟩ = some (.pointer (some ⟨L.B.nb, 0, none⟩)) := h.cell 0
  have HN := Lib.hid (And.intro (lnone_at h) (Ups_at h.neg))
  have H := Lib.hid (And.intro h hu)
  have HS := Lib.hid hs
  have e0 : (echo == 0) = false := by simpa using he
  clear h hu hs he
  go_enter Tryz.func31, Tryz.ntmps31
  go_wp2_with (first
    | (go_at_call 39; refine HN.out.1.mono ?_; rintro e w1 ⟨rfl, rfl⟩)
    | (go_at_call 40; refine HN.out.2.mono ?_; rintro e w1 ⟨rfl, b1⟩
       have h1 := H.out.1.below b1
       have c0 : w1.cell? ⟨L.lb, 0, none⟩ = some (.pointer (some ⟨L.B.nb, 0, none⟩)) := h1.cell 0
       have HT := Lib.hid (Tick_at rejS h1.neg)
       have H1 := Lib.hid (And.intro h1 b1); clear h1 b1)
    | (go_at_call 62; refine HT.out.mono ?_; rintro e w2 ⟨v, rfl, hp, ⟨X2, hn⟩, hk⟩
       obtain ⟨pa, pc, rfl⟩ := hp.form
       have h2 := H1.out.1.negTurn hn hk
       have H2 := Lib.hid (And.intro h2 (And.intro hp hk)); clear h2 hp hk hn)
    | (go_at_call 41; refine (anew_at H2.out.1 _ _ _ _).mono ?_; rintro e w3 ⟨rfl, h3, k3⟩
       have d2 : w3.cell? ⟨L.lb, 2, none⟩ = some (.int .i64 echo) := h3.cell 2
       have HO := Lib.hid (lopened_at h3)
       rw [anewS_st, show (({ s with st := (tickS rejS C s.st).1 } : LSt).st.s == 9) = false from by simpa using HS.out] at HO
       have H3 := Lib.hid (And.intro h3 k3); clear h3 k3)
    | (go_at_call 44; refine HO.out.mono ?_; rintro e w4 ⟨rfl, rfl⟩))
  go_ret
  have hsz := H1.out.2.size
  refine ⟨_, rfl, ?_, H3.out.1.fin H.out.2 hsz, ?_⟩
  · obtain ⟨K, q1, q2, q3⟩ := H2.out.2.1
    have hl := H1.out.1.llt
    exact ⟨K, q1, (q2.keep H3.out.2 (fun k hk he => by have := (q2.lt k hk).2; omega)).base hsz, (q3.keep H3.out.2 (fun b _ hb he => by
      rcases hb with hb | hb
      · exact hb
      · have hb : w1.heap.size ≤ b := hb; omega)).mono (fun b hb => hb.imp id (fun hb => Nat.le_trans hsz hb))⟩
  · exact (Keep.of_below _ H1.out.2).trans ((H2.out.2.2.mono (fun b _ hb => .inl hb)).trans (H3.out.2.mono (fun b _ hb => .inr (.inl hb))))

set_option maxHeartbeats 2000000 in
set_option maxRecDepth 100000 in
theorem LTake10_at (h : LcpAt w S ok L C echo s X) (hs : s.st.s = 9) (pi : Int) :
    Calls Tryz.prog 15 #[.pointer (some ⟨L.lb, 0, none⟩), .agg #[.int .i64 10, .int .i64 pi, .slice none 0 0, .string ⟨#[]⟩]] w fun e w' => e = .returned (.slice none 0 0) ∧ LcpAt w' S ok L C echo { s with missed := 0 } X ∧ Keep (fun b => b = L.lb) w w' := by
  have hb1 := (Below.refl w.heap.size w).alloc (Nat.le_refl _) (.cells #[.int .i64 10, .int .i64 pi, .slice none 0 0, .string ⟨#[]⟩] 38 (0, 0))
  have h1 := h.below hb1
  have HN := Lib.hid (And.intro (lnone_at h1) (lopened_at h1))
  rw [hs] at HN
  have f6 := h1.fz 6
  have c6 : (w.alloc (.cells #[.int .i64 10, .int .i64 pi, .slice none 0 0, .string ⟨#[]⟩] 38 (0, 0))).cell? ⟨L.lb, 6, none⟩ = some (.int .i64 s.missed) := h1.cell 6
  have H1 := Lib.hid (And.intro h1 hb1)
  clear h hs hb1 h1
  go_enter Tryz.func15, Tryz.ntmps15
  go_wp2_with (first
    | (go_at_call 39; refine HN.out.1.mono ?_; rintro e w0 ⟨rfl, rfl⟩)
    | (go_at_call 44; refine HN.out.2.mono ?_; rintro e w0 ⟨rfl, rfl⟩))
  go_ret
  exact ⟨rfl, H1.out.1.cellTurn (s' := { s with missed := 0 }) 6 (.int .i64 0) rfl ⟨rfl, rfl⟩, (Keep.of_below _ H1.out.2).trans (keepL L _ 6 _)⟩
end
end Go.Proofs.YthhdackaopaojaaGreat

/- Echoes: the plain law. -/
namespace Go.Proofs.YthhdackaopaojaaGreat
open Go.RowKit Go.Tg Go.Maps

section
variable (rej : Pk → ByteArray) (C : NegC)
theorem sayS_s (st : NSt) (a : Int) (c : Came) : (sayS rej C st a c).1.s = st.s := by
  unfold sayS refuseS
  repeat' split
  all_goals rfl
theorem sayL_s (c : Came) : ∀ (l : List Int) (st : NSt), (sayL rej C c st l).1.s = st.s := by
  intro l
  induction l with
  | nil => intro st; rfl
  | cons a l ih => intro st; show (sayL rej C c (sayS rej C st a c).1 l).1.s = st.s; rw [ih, sayS_s]
theorem toldS_s (st : NSt) (l : List Int) (c : Came) : (toldS rej C st l c).1.s = st.s := by
  unfold toldS
  dsimp only
  split
  · exact sayL_s rej C c l st
  · exact sayL_s rej C c l st
theorem toldS_two (st : NSt) (l : List Int) (c : Came) : (toldS rej C st l c).2 = (sayL rej C c st l).2 := rfl
theorem evS_s (st : NSt) (e : Int) (c : Came) : (evS rej C st e c).1.s = nextS st.s e := by
  unfold evS
  rw [toldS_s]
theorem tmo4 (c : Int) : (tmoS 4 c = 4 ∧ tmoL 4 c = [9]) ∨ (tmoS 4 c = 2 ∧ tmoL 4 c = [3]) := by
  unfold tmoS tmoL tmoE
  by_cases h : 0 < c
  · left
    rw [if_pos (by rfl), if_pos h]
    exact ⟨by kernel_rfl, by kernel_rfl⟩
  · right
    rw [if_pos (by rfl), if_neg h]
    exact ⟨by kernel_rfl, by kernel_rfl⟩
/-- Once closed a link stays so, and asks for no echo. -/
theorem tick_shut (st : NSt) (h : st.s = 4 ∨ st.s = 2) : ((tickS rej C st).1.s = 4 ∨ (tickS rej C st).1.s = 2) ∧ ((tickS rej C st).2 = [] ∨ ∃ p, (tickS rej C st).2 = [p] ∧ p.code ≠ 9) := by
  rcases h with h | h
  · unfold tickS
    rw [h, if_pos (show waitsB 4 = true from rfl)]
    split
    · exact ⟨.inl rfl, .inl rfl⟩
    · rw [toldS_s, toldS_two]
      rcases tmo4 st.c with ⟨h1, h2⟩ | ⟨h1, h2⟩
      · rw [h1, h2]
        exact ⟨.inl rfl, .inr ⟨_, rfl, by show (5 : Int) ≠ 9; decide⟩⟩
      · rw [h1, h2]
        exact ⟨.inr rfl, .inl rfl⟩
  · unfold tickS
    rw [h, if_neg (show ¬ waitsB 2 = true by decide)]
    exact ⟨.inr h, .inl rfl⟩
end

def CE (lb : Nat) : NegC := ⟨[unitR 1492, magicR], [], [3], 5, 2, 5, 3, judgeV lb⟩
theorem close9 (lb : Nat) (s : LSt) (h : s.st.s = 9) : (doL (CE lb) s 3).1.st.s = 4 ∧ ∃ p, (doL (CE lb) s 3).2 = [p] ∧ p.code ≠ 9 := by
  have e1 : nextS 9 3 = 4 := by kernel_rfl
  have e2 : nextL 9 3 = [1, 4, 9] := by kernel_rfl
  constructor
  · show (anewS s.st.ups { s with st := (evS rejS (CE lb) s.st 3 noCame).1 }).st.s = 4
    rw [anewS_st]
    show (evS rejS (CE lb) s.st 3 noCame).1.s = 4
    rw [evS_s, h, e1]
  · refine ⟨⟨5, nid s.st.id, [], noB⟩, ?_, by show (5 : Int) ≠ 9; decide⟩
    show (evS rejS (CE lb) s.st 3 noCame).2 = _
    unfold evS
    rw [toldS_two, h, e2]
    rfl

/-- Where the loop stands: b: answers; E: the echo; k: the ticks; a: how often it asked. -/
def EInv (b : Bool) (E k a : Nat) (s : LSt) : Prop :=
  (s.st.s = 9 ∧ s.Sync ∧ ∃ j : Nat, k = a * E + j ∧ j < E ∧ s.ticks = (j : Int) ∧ s.missed = (if b then 0 else (a : Int)) ∧ (b = false → a ≤ 3)) ∨
  (b = false ∧ a = 3 ∧ 4 * E ≤ k ∧ (s.st.s = 4 ∨ s.st.s = 2))
def TickOk (C : NegC) (E : Int) (s s' : LSt) (l : List Pk) : Prop := ∀ w0 w L, LK w0 w L C E s → Calls Tryz.prog 31 #[.pointer (some ⟨L.lb, 0, none⟩)] w fun e w' =>
  ∃ v, e = .returned v ∧ PksAt w' (Grow (fun _ => False) w) w.heap.size v l ∧ LK w0 w' L C E s' ∧ Keep L.t w w'
theorem tickOk9 {C : NegC} {E : Int} {s : LSt} (hy : s.Sync) (hs : s.st.s = 9) (he : E ≠ 0) (hl : (aliveL E C s).2.length ≤ 1000000) : TickOk C E s (aliveL E C s).1 (aliveL E C s).2 := by
  intro w0 w L h
  obtain ⟨S, ok, X, hv, hu⟩ := h.v
  exact (LTick9_at hv hu hy hs he hl).mono (fun e w' h' => h.step h')
theorem tickOkO {C : NegC} {E : Int} {s : LSt} (he : E ≠ 0) (hs : (tickS rejS C s.st).1.s ≠ 9) : TickOk C E s (anewS s.st.ups { s with st := (tickS rejS C s.st).1 }) (tickS rejS C s.st).2 := by
  intro w0 w L h
  obtain ⟨S, ok, X, hv, hu⟩ := h.v
  exact (LTickO_at hv hu he hs).mono (fun e w' h' => h.step h')

theorem tickE (lb : Nat) (b : Bool) (E k a : Nat) (s : LSt) (h1 : 1 ≤ E) (h20 : E ≤ 20) (hI : EInv b E k a s) (_hk : k < 8 * E) : ∃ s' l, TickOk (CE lb) (E : Int) s s' l ∧
    ((l = [] ∧ EInv b E (k + 1) a s') ∨ (∃ id d, l = [⟨9, id, [], d⟩] ∧ s'.st.s = 9 ∧ EInv b E (k + 1) (a + 1) (if b then { s' with missed := 0 } else s')) ∨ (b = false ∧ ∃ p, l = [p] ∧ p.code ≠ 9 ∧ EInv b E (k + 1) a s')) := by
  have hE : (E : Int) ≠ 0 := by omega
  rcases hI with ⟨hs, hy, j, hj, hjE, ht, hm, ha⟩ | ⟨hb, ha, h4, hs⟩
  · have hw : wrap64 (s.ticks + 1) = (j : Int) + 1 := by rw [ht]; unfold wrap64; omega
    by_cases hlt : j + 1 < E
    · have hA : aliveL (E : Int) (CE lb) s = ({ s with ticks := (j : Int) + 1 }, []) := by unfold aliveL; rw [hw, if_pos (by omega)]
      have hT := tickOk9 (C := CE lb) (E := (E : Int)) hy hs hE (by rw [hA]; exact Nat.zero_le _)
      rw [hA] at hT
      exact ⟨_, _, hT, .inl ⟨rfl, .inl ⟨hs, hy, j + 1, by omega, hlt, by show (j : Int) + 1 = _; omega, hm, ha⟩⟩⟩
    · have hjj : j + 1 = E := by omega
      by_cases h3 : 3 ≤ s.missed
      · have hb : b = false := by cases b with | false => rfl | true => rw [if_pos rfl] at hm; omega
        subst hb
        rw [if_neg (by decide)] at hm
        have ha3 : a = 3 := by have := ha rfl; omega
        subst ha3
        have hA : aliveL (E : Int) (CE lb) s = doL (CE lb) { s with ticks := 0 } 3 := by unfold aliveL; rw [hw, if_neg (by omega), if_pos h3]
        obtain ⟨c1, p, c2, c3⟩ := close9 lb { s with ticks := 0 } hs
        have hT := tickOk9 (C := CE lb) (E := (E : Int)) hy hs hE (by rw [hA, c2]; show (1 : Nat) ≤ 1000000; decide)
        rw [hA] at hT
        exact ⟨_, _, hT, .inr (.inr ⟨rfl, p, c2, c3, .inr ⟨rfl, rfl, by omega, .inl c1⟩⟩)⟩
      · have hA : aliveL (E : Int) (CE lb) s = ({ s with ticks := 0, missed := wrap64 (s.missed + 1), st := { s.st with id := nid s.st.id } }, [⟨9, nid s.st.id, [], pB4 s.own⟩]) := by unfold aliveL; rw [hw, if_neg (by omega), if_neg h3]
        have hT := tickOk9 (C := CE lb) (E := (E : Int)) hy hs hE (by rw [hA]; show (1 : Nat) ≤ 1000000; decide)
        rw [hA] at hT
        have hmul : (a + 1) * E = a * E + E := Nat.succ_mul a E
        refine ⟨_, _, hT, .inr (.inl ⟨_, _, rfl, hs, .inl ?_⟩)⟩
        cases b with
        | true =>
          rw [if_pos rfl]
          exact ⟨hs, hy, 0, by omega, by omega, rfl, by rw [if_pos rfl], fun h => by cases h⟩
        | false =>
          rw [if_neg (by decide)] at hm ⊢
          refine ⟨hs, hy, 0, by omega, by omega, rfl, ?_, fun _ => by omega⟩
          rw [if_neg (by decide)]
          show wrap64 (s.missed + 1) = ((a + 1 : Nat) : Int)
          rw [hm]
          have := ha rfl
          unfold wrap64
          omega
  · subst hb ha
    obtain ⟨q1, q2⟩ := tick_shut rejS (CE lb) s.st hs
    have hT := tickOkO (C := CE lb) (E := (E : Int)) (s := s) hE (by omega)
    have hst : ∀ u, (anewS u { s with st := (tickS rejS (CE lb) s.st).1 }).st.s = (tickS rejS (CE lb) s.st).1.s := fun u => by rw [anewS_st]
    refine ⟨_, _, hT, ?_⟩
    have hI' : EInv false E (k + 1) 3 (anewS s.st.ups { s with st := (tickS rejS (CE lb) s.st).1 }) := .inr ⟨rfl, rfl, by omega, by rw [hst]; exact q1⟩
    rcases q2 with q2 | ⟨p, q2, q3⟩
    · exact .inl ⟨q2, hI'⟩
    · exact .inr (.inr ⟨rfl, p, q2, q3, hI'⟩)
end Go.Proofs.YthhdackaopaojaaGreat
