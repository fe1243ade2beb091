import Derived.Test.YtbiaempeegfdkaaGreatPAQ
import Derived.Deep.DeepCutAuto
import Derived.Test.YtbiaempeegfdkaaGreatPAO
import Derived.Test.YtbiaempeegfdkaaGreatPAP
set_option linter.unusedVariables false
set_option linter.unusedSimpArgs false
set_option maxHeartbeats 16000000
namespace Go.Proofs.YtbiaempeegfdkaaGreat
open Go.RowKit Go.Tg Go.Maps
theorem ORow.blk2 {w : World} {g n cap : Nat} {l : List Opt} (h : ORow w 0 (.slice (some ⟨g, 0, none⟩) n cap) l) : ∃ cur, w.heap[g]? = some (.cells cur 132 (0, 0)) /\ l.length <= cap /\ cap <= maxLen /\ cur.size = cap * 2 /\ cur.toList.take (l.length * 2) = flatO l := by
 obtain ⟨_, ⟨h, h0⟩ | ⟨g', cap', cur, h1, _, h3, h4, h5, h6, h7⟩⟩ := h
 . cases h
 . simp only [Value.slice.injEq, Option.some.injEq, Addr.mk.injEq, and_true] at h1; obtain ⟨rfl, -, rfl⟩ := h1; exact ⟨cur, h3, h4, h5, h6, h7⟩
section
variable (rej : Pk -> ByteArray) {w : World} {S ok : Nat -> Prop} {B : NegB} {C : NegC} {st : NSt} {X : NegX}
set_option maxRecDepth 100000 in
theorem named_at (p : Pk) (po : Value) (h : NegAt w S B C st X) (ho : Opts w ok po p.o) (hok : ∀ b, ok b -> ¬ B.t b) (hlen : p.o.length <= 1000000) (hv : ∀ o ∈ p.o, o.v.size <= 100000) (okr : Nat -> Prop := ok) :
 Calls Tryz.prog 147 #[.pointer (some ⟨B.nb, 0, none⟩), pkV p po] w fun e w' => EvPost w w' S okr B C (namedS rej C st p) e := by
 obtain ⟨a1, k1, rfl, hc1, hc2⟩ := ho.form; have hb := (Below.refl w.heap.size w).alloc (Nat.le_refl _) (.cells #[.int .i64 p.code, .int .i64 p.id, .slice a1 p.o.length k1, .string p.d] 59 (0, 0)); have hx := at1 w (.cells #[.int .i64 p.code, .int .i64 p.id, .slice a1 p.o.length k1, .string p.d] 59 (0, 0)); have c2 := cellOf hx 2 (.slice a1 p.o.length k1) rfl; have H0 := H_ (A_ ((h.below hb).mono (S' := fun b => Grow S w b) (fun b hb => .inl hb)) (A_ (Keep.of_below B.t hb) hx)); have hnl := h.tlt (b := w.heap.size); have HPX : Hid (∀ Y, Keep B.t w Y -> Y.heap[w.heap.size]? = some (.cells #[.int .i64 p.code, .int .i64 p.id, .slice a1 p.o.length k1, .string p.d] 59 (0, 0)) -> True) := H_ (fun _ _ _ => trivial); clear HPX; obtain ⟨W, hW⟩ : ∃ W, W = w.alloc (.cells #[.int .i64 p.code, .int .i64 p.id, .slice a1 p.o.length k1, .string p.d] 59 (0, 0)) := ⟨_, rfl⟩; rw [<- hW] at H0 c2 hb hx; have hWs : W.heap.size = w.heap.size + 1 := by rw [hW]; exact alloc1 _ _
 have HPX : Hid (∀ Y, Keep B.t W Y -> Y.heap[w.heap.size]? = some (.cells #[.int .i64 p.code, .int .i64 p.id, .slice a1 p.o.length k1, .string p.d] 59 (0, 0))) := H_ (fun Y hY => (hY.block _ (by omega) (fun ht => by have := hnl ht; omega)).trans hx); have HO : Hid (∀ Y, Keep B.t W Y -> Opts Y ok (.slice a1 p.o.length k1) p.o) := H_ (fun Y hY => Rec.keep (ho.below hb) hY (fun b _ hb ht => hok b hb ht)); have HV := H_ hv; have HOK := H_ (A_ hok (A_ hlen (A_ hb h.lr))); obtain ⟨len, hln⟩ : ∃ len, len = p.o.length := ⟨_, rfl⟩; have HLN := H_ hln; have hlen' : len <= 1000000 := by omega
 unfold maxLen at hc2; unfold pkV; clear h ho hok hlen hv hb hx hnl hWs; go_enter Tryz.func147, Tryz.ntmps147; go_wp2_with fail; rw [<- hW]; clear hW; rw [<- hln]; rw [<- hln] at c2 hc1; clear hln
 go_loopg [13] len (fun x i wr => ∃ k : Nat, k <= len /\ x = len - k /\ i = .int .i64 k /\ Hid (∃ X', NegAt wr (fun b => Grow S w b) B C { st with req := (p.o.take k).foldl (nameOne C) st.req } X' /\ Keep B.t W wr /\ wr.heap[w.heap.size]? = some (.cells #[.int .i64 p.code, .int .i64 p.id, .slice a1 len k1, .string p.d] 59 (0, 0))))
 case atStart => exact ⟨0, by omega, by omega, rfl, X, H0.out.1, Keep.refl _ _, by rw [HLN.out]; exact H0.out.2.2⟩
 case round =>
  obtain ⟨k, hk, rfl, rfl, hK⟩ := hrel; obtain ⟨X', hN, hkp, hpx⟩ := hK.out; have HN := H_ hN; have HKP := H_ hkp; have HPX2 := H_ hpx; clear hK hN hkp hpx c2
  by_cases hkl : k < len
  . have hkl' : k < p.o.length := by have := HLN.out; omega
    obtain ⟨b, off, rfl, hb, -, -, -, -, d0, d1⟩ := (HO.out wr HKP.out).at k hkl'; have HSU := H_ (show (p.o.take (k + 1)).foldl (nameOne C) st.req = nameOne C ((p.o.take k).foldl (nameOne C) st.req) p.o[k] from by rw [List.take_succ_eq_append_getElem hkl', List.foldl_append]; rfl); have hvo := HV.out _ (List.getElem_mem hkl'); generalize (p.o.take k).foldl (nameOne C) st.req = req at HN HSU; generalize p.o[k] = o at d0 d1 HSU hvo; obtain ⟨t, v⟩ := o; simp only at d0 d1 hvo
    have HVL := H_ (show v.size <= 140737488355328 by omega); have hba := (Below.refl wr.heap.size wr).alloc (Nat.le_refl _) (.cells #[.int .i64 t, .string v] 132 (0, 0)); have hox := at1 wr (.cells #[.int .i64 t, .string v] 132 (0, 0)); have hNa := HN.out.below hba; obtain ⟨qa, qc, hrq⟩ := hNa.req.form; have g10 := hNa.cell 10; rw [show (negCells B C { st with req := req } X')[10]? = some X'.req from rfl, hrq] at g10; obtain ⟨ox, hoxe⟩ : ∃ ox, ox = wr.heap.size := ⟨_, rfl⟩; rw [<- hoxe] at hox hba
    have HI := H_ (idxO_any req X'.req _ 172 #[.pointer (some ⟨ox, 0, none⟩)] (fun x => x.t == t) _ (hNa.req.opts (show req.length <= maxLen by have h : req.length <= 30 := HN.out.lr; unfold maxLen; omega)) (by have h : req.length <= 30 := HN.out.lr; omega) (enters_of Tryz.func172 (by kernel_rfl) rfl)
     (fun Z x _ hZ => (named1_any x t ox Z (cellOf ((hZ.block _ (lt_of_heap' hox)).trans hox) 0 _ rfl)).mono (fun e w' he => ⟨he.1, hZ.trans (he.2.mono hZ.size)⟩)))
    rw [hrq] at HI; obtain ⟨wa, hwa⟩ : ∃ wa, wa = wr.alloc (.cells #[.int .i64 t, .string v] 132 (0, 0)) := ⟨_, rfl⟩; rw [<- hwa] at HI hox hba hNa; have HBA := H_ (show Below wr.heap.size wr wa by rw [<- hoxe]; exact hba); have HNA := H_ (A_ hNa (A_ hox hrq)); clear hba hox hNa hrq
    rcases idxP_cases (fun x : Opt => x.t == t) req with ⟨hi, -⟩ | ⟨i, hi0, hi, hti, -⟩
    . have HEQ := H_ (show nameOne C req ⟨t, v⟩ = req from by unfold nameOne; rw [if_pos (by simp only [hi]; decide)]); rw [hi] at HI; clear hi; go_wp2_with fail; rw [<- hwa, <- hoxe]; clear hwa hoxe; refine HI.out.mono ?_; rintro e w2 ⟨rfl, hb2⟩; have HN2 := H_ (HNA.out.1.below hb2); have HKW := H_ (HKP.out.trans (Keep.of_below B.t (HBA.out.trans (hb2.mono HBA.out.size)))); clear hb2; go_wp2_with fail
      go_roundg (len - (k + 1))
      case measure => omega
      case rel => exact ⟨k + 1, by omega, rfl, by go_num, X', by rw [HSU.out, HEQ.out]; exact HN2.out, HKW.out, by rw [HLN.out]; exact HPX.out _ HKW.out⟩
    . have HNO : Hid (nameOne C req ⟨t, v⟩ = if ((findR C.own t).isSome && fitsR (ruleOf C.own t) v) = true then req.set i ⟨t, v⟩ else if hasB C.must t = true then req else req.eraseIdx i) := H_ (by
       unfold nameOne; simp only [hi]; rw [if_neg (by omega)]
       simp)
      rw [hi] at HI; have HI0 := H_ hi0; have hti2 := hti; simp only [beq_iff_eq] at hti2; have HTO := H_ hti2; clear hti hti2; obtain ⟨g, cap, cur0, hrq2, -, -, -, -, -⟩ := HN.out.req.blk (by show 0 < req.length; omega); have hrq1 := HNA.out.2.2.symm.trans hrq2; simp only [Value.slice.injEq] at hrq1; obtain ⟨rfl, -, rfl⟩ := hrq1; obtain ⟨len2, hle⟩ : ∃ len2, len2 = req.length := ⟨_, rfl⟩; have HLE := H_ hle; have HRQ : Hid (X'.req = .slice (some ⟨g, 0, none⟩) len2 qc) := H_ (by rw [hle]; exact hrq2); have hil : i < len2 := by omega
      have hl30 : len2 <= 30 := by have h : req.length <= 30 := HN.out.lr; omega
      rw [<- hle] at HI g10; have dlt : decide ((i : Int) < 0) = false := by simp
      generalize qc = cap at *; clear hi hrq2 cur0 hle; go_wp2_with fail; rw [<- hwa, <- hoxe]; clear hwa g10; refine HI.out.mono ?_; rintro e w2 ⟨rfl, hb2⟩; have HN2 := H_ (HNA.out.1.below hb2); have HB2 := H_ (show Below wa.heap.size wa w2 from hb2); have hox3 := (hb2.block _ (lt_of_heap' HNA.out.2.1)).trans HNA.out.2.1; have hox2 := lt_of_heap' hox3; have HOX := H_ hox3; have HS6 : Hid (∀ Y, Below w2.heap.size w2 Y -> Y.cell? ⟨B.nb, 2, none⟩ = some X'.own /\ Y.cell? ⟨ox, 0, none⟩ = some (.int .i64 t)) := H_ (fun Y hY => ⟨(HN2.out.below hY).cell 2, cellOf ((hY.block _ hox2).trans HOX.out) 0 _ rfl⟩); have HFR := H_ (fun Y (hY : Below w2.heap.size w2 Y) => findR_any C.own X'.own _ t Y (HN2.out.below hY).own (by have := HN2.out.ok.own; omega)); have HFT := H_ (fun Y => fits_any (ruleOf C.own t) v Y hvo); have HMU := H_ (fun Y h => hasN_any C.must X'.must (B.r fun b => Grow S w b) t Y h (by have := HN2.out.ok.must; omega)); generalize (findR C.own t).isSome = f at HNO HFR; generalize fitsR (ruleOf C.own t) v = y at HNO HFT; generalize hasB C.must t = m at HNO HMU; clear hb2 hox3 HI hoxe hvo; go_wp2_with fail
      go_cut [8, 9] (fun r q wc => ∃ rx : Nat, r = .pointer (some ⟨rx, 0, none⟩) /\ q = .bool f /\ Below w2.heap.size w2 wc /\ w2.heap.size <= rx /\ wc.heap[rx]? = some (.cells #[.int .i64 (ruleOf C.own t).t, .int .i64 (ruleOf C.own t).len, .int .i64 (ruleOf C.own t).min, .int .i64 (ruleOf C.own t).max, .string (ruleOf C.own t).s] 136 (0, 0)))
      case first =>
       refine wp_region_H (rgH 0 13) (fun Y : World => Y.cell? ⟨B.nb, 2, none⟩ = some X'.own /\ Y.cell? ⟨ox, 0, none⟩ = some (.int .i64 t)) (by kernel_rfl) ?_; have HSv : (fun Y : World => Y.cell? ⟨B.nb, 2, none⟩ = some X'.own /\ Y.cell? ⟨ox, 0, none⟩ = some (.int .i64 t)) w2.drew := HS6.out _ (Below.refl _ _).drew; refine hatH 0 rfl (by rintro W ⟨h0, h1⟩; go_simp; try rfl) HSv ?_; simp only [aZ, aC, aD]; refine hatH 1 rfl (by rintro W ⟨h0, h1⟩; go_simp; try rfl) HSv ?_; simp only [aZ, aC, aD]; refine hatH 2 rfl (by rintro W ⟨h0, h1⟩; go_simp; try rfl) HSv ?_; simp only [aZ, aC, aD]; refine hatH 3 rfl (by rintro W ⟨h0, h1⟩; go_simp; try rfl) HSv ?_; simp only [aZ, aC, aD]; refine hatH 4 rfl (by rintro W ⟨h0, h1⟩; go_simp; try rfl) HSv ?_; simp only [aZ, aC, aD]; refine hatH 5 rfl (by rintro W ⟨h0, h1⟩; go_simp; try rfl) HSv ?_; simp only [aZ, aC, aD]; refine hatH 6 rfl (by rintro W ⟨h0, h1⟩; go_simp; try rfl) HSv ?_; simp only [aZ, aC, aD]; refine wpAnyH_2 7 11 rfl rfl (by kernel_rfl) ?_ ?_
       . intro K hK; rw [if_pos (by rfl)]
         try go_simp
         go_at_call 160; refine (HFR.out _ (Below.refl _ _).drew).mono ?_; rintro e w3 ⟨rfl, hb3⟩; have HB3 := H_ (show Below w2.heap.size w2 w3 from Below.trans (Below.refl _ _).drew hb3); have HSv : (fun Y : World => Y.cell? ⟨B.nb, 2, none⟩ = some X'.own /\ Y.cell? ⟨ox, 0, none⟩ = some (.int .i64 t)) w3 := HS6.out _ HB3.out; clear hb3; refine hK _ _ (fun _ => HSv) ?_
         try simp only [aZ, aA, aE, aB, aC, aD]
         refine hatH 8 rfl (by rintro W ⟨h0, h1⟩; go_simp; try rfl) HSv ?_; simp only [aZ, aC, aD]; refine hatH 9 rfl (by rintro W ⟨h0, h1⟩; go_simp; try rfl) HSv ?_; simp only [aZ, aC, aD]; refine hatH 10 rfl (by rintro W ⟨h0, h1⟩; go_simp; try rfl) HSv ?_; simp only [aZ, aC, aD]; refine hone 11 rfl fun K hK => ?_
         try go_simp
         have HB4 := H_ (HB3.out.alloc HB3.out.size (.cells #[.int .i64 0, .int .i64 0, .int .i64 0, .int .i64 0, .string ⟨#[]⟩] 136 (0, 0))); have z4 := at1 w3 (.cells #[.int .i64 0, .int .i64 0, .int .i64 0, .int .i64 0, .string ⟨#[]⟩] 136 (0, 0)); have hrx := HB3.out.size; generalize w3.alloc (.cells #[.int .i64 0, .int .i64 0, .int .i64 0, .int .i64 0, .string ⟨#[]⟩] 136 (0, 0)) = w4 at HB4 z4 ⊢; generalize w3.heap.size = rx at z4 hrx ⊢; have HSv : (fun Y : World => Y.cell? ⟨B.nb, 2, none⟩ = some X'.own /\ Y.cell? ⟨ox, 0, none⟩ = some (.int .i64 t)) w4 := HS6.out _ HB4.out; have zf := fun o => fzOf z4 o; have y0 := cellOf z4 0 (.int .i64 0) rfl; have y1 := cellOf z4 1 (.int .i64 0) rfl; have y2 := cellOf z4 2 (.int .i64 0) rfl; have y3 := cellOf z4 3 (.int .i64 0) rfl; have y4 := cellOf z4 4 (.string ⟨#[]⟩) rfl; refine hK _ _ (fun _ => HSv) ?_
         try simp only [aZ, aA, aE, aB, aC, aD]
         clear HSv; refine hone 12 rfl fun K hK => ?_
         try go_simp
         have hr5 := set5 z4 (.int .i64 (ruleOf C.own t).t) (.int .i64 (ruleOf C.own t).len) (.int .i64 (ruleOf C.own t).min) (.int .i64 (ruleOf C.own t).max) (.string (ruleOf C.own t).s); have hb5 := below5 HB4.out hrx (.int .i64 (ruleOf C.own t).t) (.int .i64 (ruleOf C.own t).len) (.int .i64 (ruleOf C.own t).min) (.int .i64 (ruleOf C.own t).max) (.string (ruleOf C.own t).s); generalize ((((w4.setCell ⟨rx, 0, none⟩ (.int .i64 (ruleOf C.own t).t)).setCell ⟨rx, 1, none⟩ (.int .i64 (ruleOf C.own t).len)).setCell ⟨rx, 2, none⟩ (.int .i64 (ruleOf C.own t).min)).setCell ⟨rx, 3, none⟩ (.int .i64 (ruleOf C.own t).max)).setCell ⟨rx, 4, none⟩ (.string (ruleOf C.own t).s) = w5 at hr5 hb5 ⊢; have HB5 := H_ hb5; clear hb5 z4 y0 y1 y2 y3 y4 zf; have HSv : (fun Y : World => Y.cell? ⟨B.nb, 2, none⟩ = some X'.own /\ Y.cell? ⟨ox, 0, none⟩ = some (.int .i64 t)) w5 := HS6.out _ HB5.out; refine hK _ _ (fun _ => HSv) ?_
         try simp only [aZ, aA, aE, aB, aC, aD]
         clear HSv; refine hend 13 ?_; simp only [aF, aG]; go_wp2_with fail
         go_meet
         exact ⟨_, rfl, rfl, HB5.out, hrx, hr5⟩
       . intro K hK; rw [if_pos (by rfl)]
         try go_simp
         have HB3 := H_ (((Below.refl w2.heap.size w2).alloc (Nat.le_refl _) (.cells #[.int .i64 0, .int .i64 0, .int .i64 0, .int .i64 0, .string ⟨#[]⟩] 136 (0, 0))).drew); have z3 : (w2.alloc (.cells #[.int .i64 0, .int .i64 0, .int .i64 0, .int .i64 0, .string ⟨#[]⟩] 136 (0, 0))).drew.heap[w2.heap.size]? = _ := at1 w2 (.cells #[.int .i64 0, .int .i64 0, .int .i64 0, .int .i64 0, .string ⟨#[]⟩] 136 (0, 0)); have hrx : w2.heap.size <= w2.heap.size := Nat.le_refl _; generalize (w2.alloc (.cells #[.int .i64 0, .int .i64 0, .int .i64 0, .int .i64 0, .string ⟨#[]⟩] 136 (0, 0))).drew = w3 at HB3 z3 ⊢
         try simp only [show w2.drew.heap.size = w2.heap.size from rfl]
         have HSv : (fun Y : World => Y.cell? ⟨B.nb, 2, none⟩ = some X'.own /\ Y.cell? ⟨ox, 0, none⟩ = some (.int .i64 t)) w3 := HS6.out _ HB3.out; refine hK _ _ (fun _ => HSv) ?_
         try simp only [aZ, aA, aE, aB, aC, aD]
         refine hone 7 rfl fun K hK => ?_
         try go_simp
         go_at_call 160; refine (HFR.out _ HB3.out).mono ?_; rintro e w4 ⟨rfl, hb4⟩; have HB4 := H_ (show Below w2.heap.size w2 w4 from HB3.out.trans (hb4.mono HB3.out.size)); have z4 := (hb4.block _ (lt_of_heap' z3)).trans z3; have HSv : (fun Y : World => Y.cell? ⟨B.nb, 2, none⟩ = some X'.own /\ Y.cell? ⟨ox, 0, none⟩ = some (.int .i64 t)) w4 := HS6.out _ HB4.out; have zf := fun o => fzOf z4 o; have y0 := cellOf z4 0 (.int .i64 0) rfl; have y1 := cellOf z4 1 (.int .i64 0) rfl; have y2 := cellOf z4 2 (.int .i64 0) rfl; have y3 := cellOf z4 3 (.int .i64 0) rfl; have y4 := cellOf z4 4 (.string ⟨#[]⟩) rfl; clear hb4 z3; refine hK _ _ (fun _ => HSv) ?_
         try simp only [aZ, aA, aE, aB, aC, aD]
         refine hatH 8 rfl (by rintro W ⟨h0, h1⟩; go_simp; try rfl) HSv ?_; simp only [aZ, aC, aD]; refine hatH 9 rfl (by rintro W ⟨h0, h1⟩; go_simp; try rfl) HSv ?_; simp only [aZ, aC, aD]; refine hatH 10 rfl (by rintro W ⟨h0, h1⟩; go_simp; try rfl) HSv ?_; simp only [aZ, aC, aD]; clear HSv; refine hone 12 rfl fun K hK => ?_
         try go_simp
         have hr5 := set5 z4 (.int .i64 (ruleOf C.own t).t) (.int .i64 (ruleOf C.own t).len) (.int .i64 (ruleOf C.own t).min) (.int .i64 (ruleOf C.own t).max) (.string (ruleOf C.own t).s); have hb5 := below5 HB4.out hrx (.int .i64 (ruleOf C.own t).t) (.int .i64 (ruleOf C.own t).len) (.int .i64 (ruleOf C.own t).min) (.int .i64 (ruleOf C.own t).max) (.string (ruleOf C.own t).s); generalize ((((w4.setCell ⟨w2.heap.size, 0, none⟩ (.int .i64 (ruleOf C.own t).t)).setCell ⟨w2.heap.size, 1, none⟩ (.int .i64 (ruleOf C.own t).len)).setCell ⟨w2.heap.size, 2, none⟩ (.int .i64 (ruleOf C.own t).min)).setCell ⟨w2.heap.size, 3, none⟩ (.int .i64 (ruleOf C.own t).max)).setCell ⟨w2.heap.size, 4, none⟩ (.string (ruleOf C.own t).s) = w5 at hr5 hb5 ⊢; have HB5 := H_ hb5; clear hb5 z4 y0 y1 y2 y3 y4 zf; have HSv : (fun Y : World => Y.cell? ⟨B.nb, 2, none⟩ = some X'.own /\ Y.cell? ⟨ox, 0, none⟩ = some (.int .i64 t)) w5 := HS6.out _ HB5.out; refine hK _ _ (fun _ => HSv) ?_
         try simp only [aZ, aA, aE, aB, aC, aD]
         clear HSv; refine hend 13 ?_; simp only [aF, aG]; go_wp2_with fail
         go_meet
         exact ⟨_, rfl, rfl, HB5.out, hrx, hr5⟩
      case rest =>
       obtain ⟨rx, rfl, rfl, hB5, -, hr5⟩ := hcut; obtain ⟨w5, rfl⟩ : ∃ w5, w5 = wc := ⟨_, rfl⟩; have HB5 := H_ hB5; have u1 := cellOf ((hB5.block _ hox2).trans HOX.out) 1 (.string v) rfl; have r0 := cellOf hr5 0 (.int .i64 (ruleOf C.own t).t) rfl; have r1 := cellOf hr5 1 (.int .i64 (ruleOf C.own t).len) rfl; have r2 := cellOf hr5 2 (.int .i64 (ruleOf C.own t).min) rfl; have r3 := cellOf hr5 3 (.int .i64 (ruleOf C.own t).max) rfl; have r4 := cellOf hr5 4 (.string (ruleOf C.own t).s) rfl; clear hr5 hB5
       go_upto_region 7 with fail
       go_cut [42] (fun q wc => q = .bool (f && y) /\ Below w2.heap.size w2 wc)
       case first =>
        cases f with
        | false =>
         go_wp2_with fail
         go_meet
         exact ⟨rfl, HB5.out⟩
        | true =>
         go_wp2_with fail; refine (HFT.out _).mono ?_; rintro e w6 ⟨rfl, hb6⟩; have HB6 := H_ (HB5.out.trans (hb6.mono HB5.out.size)); clear hb6 u1 r0 r1 r2 r3 r4; go_wp2_with fail
         go_meet
         exact ⟨rfl, HB6.out⟩
       case rest =>
        obtain ⟨rfl, hB6⟩ := hcut; obtain ⟨w6, rfl⟩ : ∃ w6, w6 = wc := ⟨_, rfl⟩; have HB6 := H_ hB6; clear hB6 u1 r0 r1 r2 r3 r4; generalize (f && y) = q at HNO ⊢
        cases q with
        | true =>
         have HEQ := H_ (show nameOne C req ⟨t, v⟩ = req.set i ⟨t, v⟩ from HNO.out); go_wp2_with fail; have HN6 := H_ ((HN2.out.below HB6.out).below (show Below w6.heap.size w6 w6.drew from (Below.refl _ _).drew)); have HSv : (fun Y : World => Y.cell? ⟨B.nb, 10, none⟩ = some (.slice (some ⟨g, 0, none⟩) len2 cap) /\ Y.cell? ⟨ox, 1, none⟩ = some (.string v)) w6.drew := ⟨by have := HN6.out.cell 10; rw [show (negCells B C _ X')[10]? = some X'.req from rfl, HRQ.out] at this; exact this, cellOf ((HB6.out.drew.block _ hox2).trans HOX.out) 1 _ rfl⟩; refine wp_region_H (rgH 0 8) (fun Y : World => Y.cell? ⟨B.nb, 10, none⟩ = some (.slice (some ⟨g, 0, none⟩) len2 cap) /\ Y.cell? ⟨ox, 1, none⟩ = some (.string v)) (by kernel_rfl) ?_; refine hatH 0 rfl (by rintro W ⟨h0, h1⟩; go_simp; try rfl) HSv ?_; simp only [aZ, aC, aD]; refine hatH 1 rfl (by rintro W ⟨h0, h1⟩; go_simp; try rfl) HSv ?_; simp only [aZ, aC, aD]; refine hatH 2 rfl (by rintro W ⟨h0, h1⟩; go_simp; try rfl) HSv ?_; simp only [aZ, aC, aD]; refine hatH 3 rfl (by rintro W ⟨h0, h1⟩; go_simp; try rfl) HSv ?_; simp only [aZ, aC, aD]; refine hatH 4 rfl (by rintro W ⟨h0, h1⟩; go_simp; try rfl) HSv ?_; simp only [aZ, aC, aD]; refine hatH 5 rfl (by rintro W ⟨h0, h1⟩; go_simp; try rfl) HSv ?_; simp only [aZ, aC, aD]; refine hatH 6 rfl (by rintro W ⟨h0, h1⟩; go_simp; try rfl) HSv ?_; simp only [aZ, aC, aD]; refine hone 7 rfl fun K hK => ?_
         try go_simp
         go_at_call 44; refine (sclone_any v _ HVL.out).mono ?_; rintro e w7 ⟨rfl, hb7⟩; have HN7 := H_ (HN6.out.below hb7); have hB7 : Below w2.heap.size w2 w7 := HB6.out.drew.trans (hb7.mono HB6.out.size); have HSv : (fun Y : World => Y.cell? ⟨B.nb, 10, none⟩ = some (.slice (some ⟨g, 0, none⟩) len2 cap) /\ Y.cell? ⟨ox, 1, none⟩ = some (.string v)) w7 := ⟨by have := HN7.out.cell 10; rw [show (negCells B C _ X')[10]? = some X'.req from rfl, HRQ.out] at this; exact this, cellOf ((hB7.block _ hox2).trans HOX.out) 1 _ rfl⟩; have hq7 : ORow w7 0 X'.req req := HN7.out.req; rw [HRQ.out] at hq7; obtain ⟨cur, y1, y2, y3, y4, y5⟩ := hq7.blk2; have hlt1 : i * 2 + 1 < cur.size := by have h := HI0.out; rw [y4]; omega
         have i1 := cellOf y1 (i * 2 + 1) cur[i * 2 + 1] (Array.getElem?_eq_getElem hlt1); generalize cur[i * 2 + 1] = q1 at i1; have f1 := fun o => fzOf y1 o; have hro := ORow.setV (o := ⟨t, v⟩) y1 y2 y3 y4 y5 HI0.out HTO.out; rw [<- HLE.out] at hro; have hkr : Keep (fun b => X'.req.ownBlock = some b) w7 (w7.setCell ⟨g, i * 2 + 1, none⟩ (.string v)) := (Keep.refl _ w7).setCell ⟨g, i * 2 + 1, none⟩ (Or.inr (by rw [HRQ.out]; rfl)) (.string v); have HNS := H_ (HN7.out.turnReq hkr (by rw [HRQ.out]; exact hro) (by rw [List.length_set]; exact HN2.out.lr)); have HK7 := H_ ((HKP.out.trans (Keep.of_below B.t (HBA.out.trans (HB2.out.trans (hB7.mono HB2.out.size) |>.mono HBA.out.size)))).trans HNS.out.2); clear hlt1 hb7 hB7 hq7 y1 y2 y3 y4 y5 hro hkr; refine hK _ _ (fun _ => HSv) ?_
         try simp only [aZ, aA, aE, aB, aC, aD]
         refine hend 8 ?_; simp only [aF, aG]; clear HSv; go_wp2_with fail
         go_roundg (len - (k + 1))
         case measure => omega
         case rel => exact ⟨k + 1, by omega, rfl, by go_num, _, by rw [HSU.out, HEQ.out]; exact HNS.out.1, HK7.out, by rw [HLN.out]; exact HPX.out _ (HK7.out)⟩
        | false =>
         cases m with
         | false =>
          have HEQ := H_ (show nameOne C req ⟨t, v⟩ = req.eraseIdx i from HNO.out); go_wp2_with fail; have HN9 := H_ ((HN2.out.below HB6.out).below (show Below w6.heap.size w6 w6.drew from (Below.refl _ _).drew)); have HSv : (fun Y : World => Y.cell? ⟨B.nb, 4, none⟩ = some X'.must /\ Y.cell? ⟨ox, 0, none⟩ = some (.int .i64 t)) w6.drew := ⟨HN9.out.cell 4, cellOf ((HB6.out.drew.block _ hox2).trans HOX.out) 0 _ rfl⟩; refine wp_region_H (rgH 0 9) (fun Y : World => Y.cell? ⟨B.nb, 4, none⟩ = some X'.must /\ Y.cell? ⟨ox, 0, none⟩ = some (.int .i64 t)) (by kernel_rfl) ?_; refine hatH 0 rfl (by rintro W ⟨h0, h1⟩; go_simp; try rfl) HSv ?_; simp only [aZ, aC, aD]; refine hatH 1 rfl (by rintro W ⟨h0, h1⟩; go_simp; try rfl) HSv ?_; simp only [aZ, aC, aD]; refine hatH 2 rfl (by rintro W ⟨h0, h1⟩; go_simp; try rfl) HSv ?_; simp only [aZ, aC, aD]; refine hatH 3 rfl (by rintro W ⟨h0, h1⟩; go_simp; try rfl) HSv ?_; simp only [aZ, aC, aD]; refine hatH 4 rfl (by rintro W ⟨h0, h1⟩; go_simp; try rfl) HSv ?_; simp only [aZ, aC, aD]; refine hatH 5 rfl (by rintro W ⟨h0, h1⟩; go_simp; try rfl) HSv ?_; simp only [aZ, aC, aD]; refine hatH 6 rfl (by rintro W ⟨h0, h1⟩; go_simp; try rfl) HSv ?_; simp only [aZ, aC, aD]; refine hone 7 rfl fun K hK => ?_
          try go_simp
          go_at_call 152; refine (HMU.out _ HN9.out.must).mono ?_; rintro e _ ⟨rfl, rfl⟩; refine hK _ _ (fun _ => HSv) ?_
          try simp only [aZ, aA, aE, aB, aC, aD]
          refine hatH 8 rfl (by rintro W ⟨h0, h1⟩; go_simp; try rfl) HSv ?_; simp only [aZ, aC, aD]; refine hend 9 ?_; simp only [aF, aG]; clear HSv; have HKP9 := H_ (HKP.out.trans (Keep.of_below B.t (HBA.out.trans (HB2.out.trans (HB6.out.drew.mono HB2.out.size) |>.mono HBA.out.size)))); have hq9 : ORow w6.drew 0 X'.req req := HN9.out.req; rw [HRQ.out] at hq9; obtain ⟨cur, y1, y2, y3, y4, y5⟩ := hq9.blk2; have HD := H_ (delO_any g cap cur req i w6.drew HI0.out y1 y2 y3 y4 y5 (by have h : req.length <= 30 := HN2.out.lr; omega)); rw [<- HLE.out] at HD; have g10 : w6.drew.cell? ⟨B.nb, 10, none⟩ = some (.slice (some ⟨g, 0, none⟩) len2 cap) := by have := HN9.out.cell 10; rw [show (negCells B C { st with req := req } X')[10]? = some X'.req from rfl, HRQ.out] at this; exact this
          clear y1 y2 y3 y4 y5 hq9
          go_wp2_with (
           go_at_call 173; refine HD.out.mono ?_; rintro e w8 ⟨rfl, r8, k8⟩; have hkr : Keep (fun b => X'.req.ownBlock = some b) w6.drew w8 := k8.mono (fun b _ hb => by rw [HRQ.out]; subst hb; rfl); have hl8 : (req.eraseIdx i).length <= 30 := Nat.le_trans (List.length_eraseIdx_le _ _) HN2.out.lr; have hgr : g = B.rb := HN2.out.rq g (by rw [HRQ.out]; rfl); have hNS := HN9.out.setReq hkr r8 (fun b hb => by cases hb; exact hgr) hl8; have y10 := (k8.block B.nb HN9.out.nlt (fun he => HN9.out.ne2 (by rw [<- hgr]; exact he.symm))).trans HN9.out.blk; have f10 := fun o => fzOf y10 o; have g11 := cellOf y10 10 X'.req rfl; rw [HRQ.out] at g11; have HNS := H_ hNS; have HK10 := H_ (HKP9.out.trans hNS.2)
           clear hkr hl8 hgr hNS y10 k8 r8)
          go_roundg (len - (k + 1))
          case measure => omega
          case rel => exact ⟨k + 1, by omega, rfl, by go_num, _, by rw [HSU.out, HEQ.out]; exact HNS.out.1, HK10.out, by rw [HLN.out]; exact HPX.out _ (HK10.out)⟩
         | true =>
          have HEQ := H_ (show nameOne C req ⟨t, v⟩ = req from HNO.out); go_wp2_with fail; have HN9 := H_ ((HN2.out.below HB6.out).below (show Below w6.heap.size w6 w6.drew from (Below.refl _ _).drew)); have HSv : (fun Y : World => Y.cell? ⟨B.nb, 4, none⟩ = some X'.must /\ Y.cell? ⟨ox, 0, none⟩ = some (.int .i64 t)) w6.drew := ⟨HN9.out.cell 4, cellOf ((HB6.out.drew.block _ hox2).trans HOX.out) 0 _ rfl⟩; refine wp_region_H (rgH 0 9) (fun Y : World => Y.cell? ⟨B.nb, 4, none⟩ = some X'.must /\ Y.cell? ⟨ox, 0, none⟩ = some (.int .i64 t)) (by kernel_rfl) ?_; refine hatH 0 rfl (by rintro W ⟨h0, h1⟩; go_simp; try rfl) HSv ?_; simp only [aZ, aC, aD]; refine hatH 1 rfl (by rintro W ⟨h0, h1⟩; go_simp; try rfl) HSv ?_; simp only [aZ, aC, aD]; refine hatH 2 rfl (by rintro W ⟨h0, h1⟩; go_simp; try rfl) HSv ?_; simp only [aZ, aC, aD]; refine hatH 3 rfl (by rintro W ⟨h0, h1⟩; go_simp; try rfl) HSv ?_; simp only [aZ, aC, aD]; refine hatH 4 rfl (by rintro W ⟨h0, h1⟩; go_simp; try rfl) HSv ?_; simp only [aZ, aC, aD]; refine hatH 5 rfl (by rintro W ⟨h0, h1⟩; go_simp; try rfl) HSv ?_; simp only [aZ, aC, aD]; refine hatH 6 rfl (by rintro W ⟨h0, h1⟩; go_simp; try rfl) HSv ?_; simp only [aZ, aC, aD]; refine hone 7 rfl fun K hK => ?_
          try go_simp
          go_at_call 152; refine (HMU.out _ HN9.out.must).mono ?_; rintro e _ ⟨rfl, rfl⟩; refine hK _ _ (fun _ => HSv) ?_
          try simp only [aZ, aA, aE, aB, aC, aD]
          refine hatH 8 rfl (by rintro W ⟨h0, h1⟩; go_simp; try rfl) HSv ?_; simp only [aZ, aC, aD]; refine hend 9 ?_; simp only [aF, aG]; clear HSv; have HKP9 := H_ (HKP.out.trans (Keep.of_below B.t (HBA.out.trans (HB2.out.trans (HB6.out.drew.mono HB2.out.size) |>.mono HBA.out.size)))); go_wp2_with fail
          go_roundg (len - (k + 1))
          case measure => omega
          case rel => exact ⟨k + 1, by omega, rfl, by go_num, _, by rw [HSU.out, HEQ.out]; exact HN9.out, HKP9.out, by rw [HLN.out]; exact HPX.out _ (HKP9.out)⟩
  . obtain rfl : len = k := by omega
    have hq : (p.o.take len) = p.o := by rw [HLN.out, List.take_length]
    rw [hq] at HN; have HE := H_ (Event_at (ok := ok) rej p _ 9 (by decide) HN.out (HO.out wr HKP.out) HOK.out.1 HOK.out.2.1 (fun pa => sayAll_next rej B C _ _ _ _ 9 HN.out.ss (by decide)) okr); unfold pkV at HE; rw [<- HLN.out] at HE; have t1 := cellOf HPX2.out 0 (.int .i64 p.code) rfl; have t2 := cellOf HPX2.out 1 (.int .i64 p.id) rfl; have t3 := cellOf HPX2.out 2 (.slice a1 len k1) rfl; have t4 := cellOf HPX2.out 3 (.string p.d) rfl; clear hq; go_wp2_with fail; refine HE.out.mono ?_; rintro e w6 ⟨v6, rfl, h6⟩; go_wp2_with fail; go_ret; exact EvPost.fin ⟨_, rfl, h6⟩ ((Keep.of_below B.t HOK.out.2.2.1).trans HKP.out) (Nat.le_trans HOK.out.2.2.1.size HKP.out.size)
end
section
variable (rej : Pk -> ByteArray) {w : World} {S ok : Nat -> Prop} {B : NegB} {C : NegC} {st : NSt} {X : NegX}
set_option maxRecDepth 100000 in
theorem answered4_at (p : Pk) (po : Value) (hcode : p.code = 4) (h : NegAt w S B C st X) (ho : Opts w ok po p.o) (hok : ∀ b, ok b -> ¬ B.t b) (hlen : p.o.length <= 1000000) (okr : Nat -> Prop := ok) :
 Calls Tryz.prog 116 #[.pointer (some ⟨B.nb, 0, none⟩), pkV p po] w fun e w' => EvPost w w' S okr B C (if p.id = st.asked then refusedS rej C st p else (st, [])) e := by
 obtain ⟨pc, pi, pl, pd⟩ := p; simp only at hcode ho hlen
 subst hcode; obtain ⟨a1, k1, rfl, hc1, hc2⟩ := ho.form; have hb1 : Below w.heap.size w (w.alloc (.cells #[.int .i64 4, .int .i64 pi, (.slice a1 pl.length k1), .string pd] 59 (0, 0))) := (Below.refl _ _).alloc (Nat.le_refl _) _; have hz := at1 w (.cells #[.int .i64 4, .int .i64 pi, (.slice a1 pl.length k1), .string pd] 59 (0, 0)); have h1 := h.below hb1; have g0 : (w.alloc (.cells #[.int .i64 4, .int .i64 pi, (.slice a1 pl.length k1), .string pd] 59 (0, 0))).cell? ⟨B.nb, 12, none⟩ = some (.int .u8 st.asked) := h1.cell 12; have g1 : (w.alloc (.cells #[.int .i64 4, .int .i64 pi, (.slice a1 pl.length k1), .string pd] 59 (0, 0))).cell? ⟨w.heap.size, 1, none⟩ = some (.int .i64 pi) := cellOf hz 1 _ rfl; have ew : wrap64 st.asked = st.asked := by have := h.ak; unfold wrap64; omega
 have hq : ∀ n, Below (w.alloc (.cells #[.int .i64 4, .int .i64 pi, (.slice a1 pl.length k1), .string pd] 59 (0, 0))).heap.size (w.alloc (.cells #[.int .i64 4, .int .i64 pi, (.slice a1 pl.length k1), .string pd] 59 (0, 0))) ((w.alloc (.cells #[.int .i64 4, .int .i64 pi, (.slice a1 pl.length k1), .string pd] 59 (0, 0))).drewN n) := fun n => ⟨rfl, rfl, rfl, Nat.le_refl _, fun _ _ => rfl⟩; have HR := H_ (fun n => refused_at (ok := ok) rej ⟨4, pi, pl, pd⟩ (.slice a1 pl.length k1) (h1.below (hq n)) ((ho.below hb1).below (hq n)) hok hlen okr); unfold pkV at HR; have H := H_ (A_ h (A_ h1 (A_ ho (A_ hb1 (A_ hok hz))))); unfold pkV; clear h ho hok hb1 hz h1 hq
 by_cases hid : pi = st.asked
 . subst hid; go_enter Tryz.func116, Tryz.ntmps116; go_wp2_with fail
   go_quiet (fail)
   go_wp2_with (go_at_call 146; refine (HR.out _).mono ?_; rintro e w2 ⟨v2, rfl, h2⟩)
   go_ret; exact EvPost.of_box ⟨_, rfl, h2⟩ (belowN H.out.2.2.2.1 _)
 . have HID := H_ hid; go_enter Tryz.func116, Tryz.ntmps116; go_wp2_with fail
   go_quiet (fail)
   go_wp2_with fail; go_ret; exact EvPost.none' ⟨X, (H.out.1.below (belowN H.out.2.2.2.1 nq)).mono (fun b h => .inl h)⟩ (Keep.of_below _ (belowN H.out.2.2.2.1 nq))
set_option maxRecDepth 100000 in
theorem answered3_at (p : Pk) (po : Value) (hcode : p.code = 3) (h : NegAt w S B C st X) (ho : Opts w ok po p.o) (hok : ∀ b, ok b -> ¬ B.t b) (hlen : p.o.length <= 1000000) (hv : ∀ o ∈ p.o, o.v.size <= 100000) (okr : Nat -> Prop := ok) :
 Calls Tryz.prog 116 #[.pointer (some ⟨B.nb, 0, none⟩), pkV p po] w fun e w' => EvPost w w' S okr B C (if p.id = st.asked then namedS rej C st p else (st, [])) e := by
 obtain ⟨pc, pi, pl, pd⟩ := p; simp only at hcode ho hlen hv
 subst hcode; obtain ⟨a1, k1, rfl, hc1, hc2⟩ := ho.form; have hb1 : Below w.heap.size w (w.alloc (.cells #[.int .i64 3, .int .i64 pi, (.slice a1 pl.length k1), .string pd] 59 (0, 0))) := (Below.refl _ _).alloc (Nat.le_refl _) _; have hz := at1 w (.cells #[.int .i64 3, .int .i64 pi, (.slice a1 pl.length k1), .string pd] 59 (0, 0)); have h1 := h.below hb1; have g0 : (w.alloc (.cells #[.int .i64 3, .int .i64 pi, (.slice a1 pl.length k1), .string pd] 59 (0, 0))).cell? ⟨B.nb, 12, none⟩ = some (.int .u8 st.asked) := h1.cell 12; have g1 : (w.alloc (.cells #[.int .i64 3, .int .i64 pi, (.slice a1 pl.length k1), .string pd] 59 (0, 0))).cell? ⟨w.heap.size, 1, none⟩ = some (.int .i64 pi) := cellOf hz 1 _ rfl; have ew : wrap64 st.asked = st.asked := by have := h.ak; unfold wrap64; omega
 have hq : ∀ n, Below (w.alloc (.cells #[.int .i64 3, .int .i64 pi, (.slice a1 pl.length k1), .string pd] 59 (0, 0))).heap.size (w.alloc (.cells #[.int .i64 3, .int .i64 pi, (.slice a1 pl.length k1), .string pd] 59 (0, 0))) ((w.alloc (.cells #[.int .i64 3, .int .i64 pi, (.slice a1 pl.length k1), .string pd] 59 (0, 0))).drewN n) := fun n => ⟨rfl, rfl, rfl, Nat.le_refl _, fun _ _ => rfl⟩; have HR := H_ (fun n => named_at (ok := ok) rej ⟨3, pi, pl, pd⟩ (.slice a1 pl.length k1) (h1.below (hq n)) ((ho.below hb1).below (hq n)) hok hlen hv okr); unfold pkV at HR; have H := H_ (A_ h (A_ h1 (A_ ho (A_ hb1 (A_ hok hz))))); unfold pkV; clear h ho hok hb1 hz h1 hq hv
 by_cases hid : pi = st.asked
 . subst hid; go_enter Tryz.func116, Tryz.ntmps116; go_wp2_with fail
   go_quiet (fail)
   go_wp2_with (go_at_call 147; refine (HR.out _).mono ?_; rintro e w2 ⟨v2, rfl, h2⟩)
   go_ret; exact EvPost.of_box ⟨_, rfl, h2⟩ (belowN H.out.2.2.2.1 _)
 . have HID := H_ hid; go_enter Tryz.func116, Tryz.ntmps116; go_wp2_with fail
   go_quiet (fail)
   go_wp2_with fail; go_ret; exact EvPost.none' ⟨X, (H.out.1.below (belowN H.out.2.2.2.1 nq)).mono (fun b h => .inl h)⟩ (Keep.of_below _ (belowN H.out.2.2.2.1 nq))
set_option maxRecDepth 100000 in
theorem take34 (p : Pk) (po : Value) (hcode : p.code = 3 \/ p.code = 4) (h : NegAt w S B C st X) (ho : Opts w ok po p.o) (hok : ∀ b, ok b -> ¬ B.t b) (hlen : p.o.length <= 1000000) (hv : ∀ o ∈ p.o, o.v.size <= 100000) (okr : Nat -> Prop := ok) :
 Calls Tryz.prog 69 #[.pointer (some ⟨B.nb, 0, none⟩), pkV p po] w fun e w' => EvPost w w' S okr B C (if p.id = st.asked then (if p.code = 3 then namedS rej C st p else refusedS rej C st p) else (st, [])) e := by
 obtain ⟨a1, k1, rfl, hc1, hc2⟩ := ho.form; have hb1 : Below w.heap.size w (w.alloc (.cells #[.int .i64 p.code, .int .i64 p.id, (.slice a1 p.o.length k1), .string p.d] 59 (0, 0))) := (Below.refl _ _).alloc (Nat.le_refl _) _; have HX := H_ (A_ (h.below hb1) hb1)
 have hC : Calls Tryz.prog 116 #[.pointer (some ⟨B.nb, 0, none⟩), pkV p (.slice a1 p.o.length k1)] (w.alloc (.cells #[.int .i64 p.code, .int .i64 p.id, (.slice a1 p.o.length k1), .string p.d] 59 (0, 0))) fun e w' => EvPost (w.alloc (.cells #[.int .i64 p.code, .int .i64 p.id, (.slice a1 p.o.length k1), .string p.d] 59 (0, 0))) w' S okr B C (if p.id = st.asked then (if p.code = 3 then namedS rej C st p else refusedS rej C st p) else (st, [])) e := by
  rcases hcode with hc | hc
  . have := answered3_at rej p _ hc (h.below hb1) (ho.below hb1) hok hlen hv okr
    rwa [<- if_pos (c := p.code = 3) (t := namedS rej C st p) (e := refusedS rej C st p) hc] at this
  . have := answered4_at rej p _ hc (h.below hb1) (ho.below hb1) hok hlen okr
    rwa [<- if_neg (c := p.code = 3) (t := namedS rej C st p) (e := refusedS rej C st p) (by omega)] at this
 have HC := H_ hC; generalize (if p.id = st.asked then (if p.code = 3 then namedS rej C st p else refusedS rej C st p) else (st, [])) = R at HC ⊢; unfold pkV at HC ⊢; clear h ho hok hb1 hC hv; obtain ⟨pc, pi, pl, pd⟩ := p; simp only at hcode
 rcases hcode with rfl | rfl
 all_goals
  go_enter Tryz.func69, Tryz.ntmps69
  go_wp2_with (first
   | (go_at_call 79; refine (nnone_at HX.out.1).mono ?_; rintro e w1 ⟨rfl, rfl⟩)
   | (go_at_call 116; refine HC.out.mono ?_; rintro e w5 ⟨v5, rfl, h5⟩))
  go_ret; exact EvPost.of_box ⟨_, rfl, h5⟩ HX.out.2
end
theorem say_every (B : NegB) (C : NegC) (ok : Nat -> Prop) (c : Came) (po pa : Value) (a : Int) (h0 : 0 <= a) (h1 : a <= 12) (hv : ∀ o ∈ c.p.o, o.v.size <= 100000) (hd : c.p.d.size <= 100000000) : SaySpec rejS B C ok c po pa a := by
 by_cases h : a = 11
 . subst h; intro w S st X h hc; exact say11 c po pa h hc hv hd
 . exact say_less rejS B C ok c po pa a h0 h1 h
theorem sayAll_every (B : NegB) (C : NegC) (c : Came) (po pa : Value) (s e : Int) (hv : ∀ o ∈ c.p.o, o.v.size <= 100000) (hd : c.p.d.size <= 100000000) : SayAll rejS B C c po pa (nextL s e) :=
 fun a ha ok => say_every B C ok c po pa a (nextL_bd s e a ha).1 (nextL_bd s e a ha).2 hv hd
def code7S (rej : Pk -> ByteArray) (C : NegC) (st : NSt) (p : Pk) : NSt × List Pk :=
 if p.d.size = 0 then (st, []) else evS rej C st (if 1 <= (p.d.data.getD 0 0).toNat /\ (p.d.data.getD 0 0).toNat <= 7 then 14 else 13) ⟨true, p, 0, []⟩
section
variable (rej : Pk -> ByteArray) {w : World} {S ok : Nat -> Prop} {B : NegB} {C : NegC} {st : NSt} {X : NegX}
set_option maxRecDepth 100000 in
theorem take7 (p : Pk) (po : Value) (hcode : p.code = 7) (h : NegAt w S B C st X) (ho : Opts w ok po p.o) (hok : ∀ b, ok b -> ¬ B.t b) (hlen : p.o.length <= 1000000) (hd : p.d.size <= 100000000) (okr : Nat -> Prop := ok) :
 Calls Tryz.prog 69 #[.pointer (some ⟨B.nb, 0, none⟩), pkV p po] w fun e w' => EvPost w w' S okr B C (code7S rej C st p) e := by
 obtain ⟨a1, k1, rfl, hc1, hc2⟩ := ho.form; have hb1 : Below w.heap.size w (w.alloc (.cells #[.int .i64 p.code, .int .i64 p.id, (.slice a1 p.o.length k1), .string p.d] 59 (0, 0))) := (Below.refl _ _).alloc (Nat.le_refl _) _; have HX := H_ (A_ (h.below hb1) (A_ hb1 h)); have HE := H_ (fun ev (hw : (Lit.int .i64 ev).wf = true) (hm : ev ∈ [0, 1, 2, 3, 4, 5, 6, 8, 9, 10, 11, 13, 14]) => Event_at (ok := ok) rej p _ ev hw (h.below hb1) (ho.below hb1) hok hlen (fun pa => sayAll_next rej B C _ _ _ _ ev h.ss hm) okr); unfold pkV at HE ⊢; have HM := H_ (show code7S rej C st p = if p.d.size = 0 then (st, []) else evS rej C st (if 1 <= (p.d.data.getD 0 0).toNat /\ (p.d.data.getD 0 0).toNat <= 7 then 14 else 13) ⟨true, p, 0, []⟩ from rfl); generalize code7S rej C st p = R at HM ⊢; obtain ⟨pc, pi, pl, pd⟩ := p; simp only at hcode hd
 subst hcode; clear h ho hok hb1 hlen
 by_cases h0 : pd.size = 0
 . have : pd = ⟨#[]⟩ := by
    apply ByteArray.ext
    exact Array.eq_empty_of_size_eq_zero h0
   subst this; go_enter Tryz.func69, Tryz.ntmps69
   go_wp2_with (go_at_call 79; refine (nnone_at HX.out.1).mono ?_; rintro e w1 ⟨rfl, rfl⟩)
   go_ret; rw [show R = (st, []) from HM.out]; exact EvPost.none' ⟨X, (HX.out.2.2.below HX.out.2.1).mono (fun b h => .inl h)⟩ (Keep.of_below _ HX.out.2.1)
 . have hne : ¬ pd = ⟨#[]⟩ := fun h => h0 (by rw [h]; rfl); obtain ⟨b, hb⟩ : ∃ b : UInt8, b = pd.data.getD 0 0 := ⟨_, rfl⟩; have hlt : 0 < pd.size := by omega
   have hix : ∀ h, pd[0]'h = b := fun h => by
    have h' : 0 < pd.data.size := h; rw [hb, Array.getD_eq_getD_getElem?, Array.getElem?_eq_getElem h']; rfl
   have HM2 : Hid (R = evS rej C st (if 1 <= b.toNat /\ b.toNat <= 7 then 14 else 13) ⟨true, ⟨7, pi, pl, pd⟩, 0, []⟩) := H_ (by rw [HM.out, if_neg h0, hb]); clear HM hb; have hd1 : pd.toList.isEmpty = false := by rw [isE]; simp [h0]
   by_cases c1 : 1 <= b.toNat
   . have e1 : decide ((1 : Int) <= (b.toNat : Int)) = true := by simp; omega
     by_cases c2 : b.toNat <= 7
     . have e2 : decide ((b.toNat : Int) <= 7) = true := by simp; omega
       have HM3 : Hid (R = evS rej C st 14 ⟨true, ⟨7, pi, pl, pd⟩, 0, []⟩) := H_ (by rw [HM2.out, if_pos ⟨c1, c2⟩]); clear c1 c2 HM2 h0 hne; go_enter Tryz.func69, Tryz.ntmps69
       go_wp2_with (first
        | (go_at_call 79; refine (nnone_at HX.out.1).mono ?_; rintro e w1 ⟨rfl, rfl⟩)
        | (go_at_call 109; refine (HE.out 14 (by decide) (by decide)).mono ?_; rintro e w5 ⟨v5, rfl, h5⟩; have H5 := H_ h5; clear h5))
       go_ret; rw [HM3.out]; exact EvPost.of_box ⟨_, rfl, H5.out⟩ HX.out.2.1
     . have e2 : decide ((b.toNat : Int) <= 7) = false := by simp; omega
       have HM3 : Hid (R = evS rej C st 13 ⟨true, ⟨7, pi, pl, pd⟩, 0, []⟩) := H_ (by rw [HM2.out, if_neg (fun h => c2 h.2)]); clear c1 c2 HM2 h0 hne; go_enter Tryz.func69, Tryz.ntmps69
       go_wp2_with (first
        | (go_at_call 79; refine (nnone_at HX.out.1).mono ?_; rintro e w1 ⟨rfl, rfl⟩)
        | (go_at_call 109; refine (HE.out 13 (by decide) (by decide)).mono ?_; rintro e w5 ⟨v5, rfl, h5⟩; have H5 := H_ h5; clear h5))
       go_ret; rw [HM3.out]; exact EvPost.of_box ⟨_, rfl, H5.out⟩ HX.out.2.1
   . have e1 : decide ((1 : Int) <= (b.toNat : Int)) = false := by simp; omega
     have HM3 : Hid (R = evS rej C st 13 ⟨true, ⟨7, pi, pl, pd⟩, 0, []⟩) := H_ (by rw [HM2.out, if_neg (fun h => c1 h.1)]); clear c1 HM2 h0 hne; go_enter Tryz.func69, Tryz.ntmps69
     go_wp2_with (first
      | (go_at_call 79; refine (nnone_at HX.out.1).mono ?_; rintro e w1 ⟨rfl, rfl⟩)
      | (go_at_call 109; refine (HE.out 13 (by decide) (by decide)).mono ?_; rintro e w5 ⟨v5, rfl, h5⟩; have H5 := H_ h5; clear h5))
     go_ret; rw [HM3.out]; exact EvPost.of_box ⟨_, rfl, H5.out⟩ HX.out.2.1
end
def takeS (C : NegC) (st : NSt) (p : Pk) : NSt × List Pk :=
 if p.code = 1 then reqS rejS C st p (judgeS C.peer p.o)
 else if p.code = 2 then ackS rejS C st p
 else if p.code = 3 \/ p.code = 4 then (if p.id = st.asked then (if p.code = 3 then namedS rejS C st p else refusedS rejS C st p) else (st, []))
 else if p.code = 5 then evS rejS C st 10 ⟨true, p, 0, []⟩
 else if p.code = 6 then evS rejS C st 11 ⟨true, p, 0, []⟩
 else if p.code = 7 then code7S rejS C st p
 else evS rejS C st 12 ⟨true, p, 0, []⟩
structure PkOk (p : Pk) : Prop where
 len : p.o.length <= 1000000
 wf : ∀ o ∈ p.o, I64 o.t
 vs : ∀ o ∈ p.o, o.v.size <= 100000
 ds : p.d.size <= 100000000
section
variable {w : World} {S ok : Nat -> Prop} {B : NegB} {C : NegC} {st : NSt} {jb : Nat}
end
def takeAll (C : NegC) (st : NSt) : List Pk -> NSt × List Pk
 | [] => (st, [])
 | p :: l => ((takeAll C (takeS C st p).1 l).1, (takeS C st p).2 ++ (takeAll C (takeS C st p).1 l).2)
end Go.Proofs.YtbiaempeegfdkaaGreat
