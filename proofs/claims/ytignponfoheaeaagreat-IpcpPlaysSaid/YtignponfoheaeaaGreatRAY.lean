import Derived.Test.YtignponfoheaeaaGreatRAX
import Derived.Deep.DeepCutAuto
import Derived.Test.YtignponfoheaeaaGreatRAT
import Derived.Test.YtignponfoheaeaaGreatRAU
import Derived.Test.YtignponfoheaeaaGreatRAV
set_option linter.unusedVariables false
set_option linter.unusedSimpArgs false
set_option maxHeartbeats 16000000
namespace Go.Proofs.YtignponfoheaeaaGreat
open Go.RowKit Go.Tg Go.Maps
theorem ORow.blk2 {w : World} {g n cap : Nat} {l : List Opt} (h : ORow w 0 (.slice (some ⟨g, 0, none⟩) n cap) l) : ∃ cur, w.heap[g]? = some (.cells cur 91 (0, 0)) /\ l.length <= cap /\ cap <= maxLen /\ cur.size = cap * 2 /\ cur.toList.take (l.length * 2) = flatO l := by
 obtain ⟨_, ⟨h, h0⟩ | ⟨g', cap', cur, h1, _, h3, h4, h5, h6, h7⟩⟩ := h
 . cases h
 . simp only [Value.slice.injEq, Option.some.injEq, Addr.mk.injEq, and_true] at h1; obtain ⟨rfl, -, rfl⟩ := h1; exact ⟨cur, h3, h4, h5, h6, h7⟩
section
variable (rej : Pk -> ByteArray) {w : World} {S ok : Nat -> Prop} {B : NegB} {C : NegC} {st : NSt} {X : NegX}
set_option maxRecDepth 100000 in
theorem named_at (p : Pk) (po : Value) (h : NegAt w S B C st X) (ho : Opts w ok po p.o) (hok : ∀ b, ok b -> ¬ B.t b) (hlen : p.o.length <= 1000000) (hv : ∀ o ∈ p.o, o.v.size <= 100000) (okr : Nat -> Prop := ok) :
 Calls Tryz.prog 234 #[.pointer (some ⟨B.nb, 0, none⟩), pkV p po] w fun e w' => EvPost w w' S okr B C (namedS rej C st p) e := by
 obtain ⟨a1, k1, rfl, hc1, hc2⟩ := ho.form; have hb := (Below.refl w.heap.size w).alloc (Nat.le_refl _) (.cells #[.int .i64 p.code, .int .i64 p.id, .slice a1 p.o.length k1, .string p.d] 93 (0, 0)); have hx := at1 w (.cells #[.int .i64 p.code, .int .i64 p.id, .slice a1 p.o.length k1, .string p.d] 93 (0, 0)); have c2 := cellOf hx 2 (.slice a1 p.o.length k1) rfl; have H0 := H_ (A_ ((h.below hb).mono (S' := fun b => Grow S w b) (fun b hb => .inl hb)) (A_ (Keep.of_below B.t hb) hx)); have hnl := h.tlt (b := w.heap.size); have HPX : Hid (∀ Y, Keep B.t w Y -> Y.heap[w.heap.size]? = some (.cells #[.int .i64 p.code, .int .i64 p.id, .slice a1 p.o.length k1, .string p.d] 93 (0, 0)) -> True) := H_ (fun _ _ _ => trivial); clear HPX; obtain ⟨W, hW⟩ : ∃ W, W = w.alloc (.cells #[.int .i64 p.code, .int .i64 p.id, .slice a1 p.o.length k1, .string p.d] 93 (0, 0)) := ⟨_, rfl⟩; rw [<- hW] at H0 c2 hb hx; have hWs : W.heap.size = w.heap.size + 1 := by rw [hW]; exact alloc1 _ _
 have HPX : Hid (∀ Y, Keep B.t W Y -> Y.heap[w.heap.size]? = some (.cells #[.int .i64 p.code, .int .i64 p.id, .slice a1 p.o.length k1, .string p.d] 93 (0, 0))) := H_ (fun Y hY => (hY.block _ (by omega) (fun ht => by have := hnl ht; omega)).trans hx); have HO : Hid (∀ Y, Keep B.t W Y -> Opts Y ok (.slice a1 p.o.length k1) p.o) := H_ (fun Y hY => Rec.keep (ho.below hb) hY (fun b _ hb ht => hok b hb ht)); have HV := H_ hv; have HOK := H_ (A_ hok (A_ hlen (A_ hb h.lr))); obtain ⟨len, hln⟩ : ∃ len, len = p.o.length := ⟨_, rfl⟩; have HLN := H_ hln; have hlen' : len <= 1000000 := by omega
 unfold maxLen at hc2; unfold pkV; clear h ho hok hlen hv hb hx hnl hWs; go_enter Tryz.func234, Tryz.ntmps234; go_wp2_with fail; rw [<- hW]; clear hW; rw [<- hln]; rw [<- hln] at c2 hc1; clear hln
 go_loopg [13] len (fun x i wr => ∃ k : Nat, k <= len /\ x = len - k /\ i = .int .i64 k /\ Hid (∃ X', NegAt wr (fun b => Grow S w b) B C { st with req := (p.o.take k).foldl (nameOne C) st.req } X' /\ Keep B.t W wr /\ wr.heap[w.heap.size]? = some (.cells #[.int .i64 p.code, .int .i64 p.id, .slice a1 len k1, .string p.d] 93 (0, 0))))
 case atStart => exact ⟨0, by omega, by omega, rfl, X, H0.out.1, Keep.refl _ _, by rw [HLN.out]; exact H0.out.2.2⟩
 case round =>
  obtain ⟨k, hk, rfl, rfl, hK⟩ := hrel; obtain ⟨X', hN, hkp, hpx⟩ := hK.out; have HN := H_ hN; have HKP := H_ hkp; have HPX2 := H_ hpx; clear hK hN hkp hpx c2
  by_cases hkl : k < len
  . have hkl' : k < p.o.length := by have := HLN.out; omega
    obtain ⟨b, off, rfl, hb, -, -, -, -, d0, d1⟩ := (HO.out wr HKP.out).at k hkl'; have HSU := H_ (show (p.o.take (k + 1)).foldl (nameOne C) st.req = nameOne C ((p.o.take k).foldl (nameOne C) st.req) p.o[k] from by rw [List.take_succ_eq_append_getElem hkl', List.foldl_append]; rfl); have hvo := HV.out _ (List.getElem_mem hkl'); generalize (p.o.take k).foldl (nameOne C) st.req = req at HN HSU; generalize p.o[k] = o at d0 d1 HSU hvo; obtain ⟨t, v⟩ := o; simp only at d0 d1 hvo
    have HVL := H_ (show v.size <= 140737488355328 by omega); have hba := (Below.refl wr.heap.size wr).alloc (Nat.le_refl _) (.cells #[.int .i64 t, .string v] 91 (0, 0)); have hox := at1 wr (.cells #[.int .i64 t, .string v] 91 (0, 0)); have hNa := HN.out.below hba; obtain ⟨qa, qc, hrq⟩ := hNa.req.form; have g10 := hNa.cell 10; rw [show (negCells B C { st with req := req } X')[10]? = some X'.req from rfl, hrq] at g10; obtain ⟨ox, hoxe⟩ : ∃ ox, ox = wr.heap.size := ⟨_, rfl⟩; rw [<- hoxe] at hox hba
    have HI := H_ (idxO_any req X'.req _ 256 #[.pointer (some ⟨ox, 0, none⟩)] (fun x => x.t == t) _ (hNa.req.opts (show req.length <= maxLen by have h : req.length <= 30 := HN.out.lr; unfold maxLen; omega)) (by have h : req.length <= 30 := HN.out.lr; omega) (enters_of Tryz.func256 (by kernel_rfl) rfl)
     (fun Z x _ hZ => (named1_any x t ox Z (cellOf ((hZ.block _ (lt_of_heap' hox)).trans hox) 0 _ rfl)).mono (fun e w' he => ⟨he.1, hZ.trans (he.2.mono hZ.size)⟩)))
    rw [hrq] at HI; obtain ⟨wa, hwa⟩ : ∃ wa, wa = wr.alloc (.cells #[.int .i64 t, .string v] 91 (0, 0)) := ⟨_, rfl⟩; rw [<- hwa] at HI hox hba hNa; have HBA := H_ (show Below wr.heap.size wr wa by rw [<- hoxe]; exact hba); have HNA := H_ (A_ hNa (A_ hox hrq)); clear hba hox hNa hrq
    rcases idxP_cases (fun x : Opt => x.t == t) req with ⟨hi, -⟩ | ⟨i, hi0, hi, hti, -⟩
    . have HEQ := H_ (show nameOne C req ⟨t, v⟩ = req from by unfold nameOne; rw [if_pos (by simp only [hi]; decide)]); rw [hi] at HI; clear hi; go_wp2_with fail; rw [<- hwa, <- hoxe]; clear hwa hoxe; refine HI.out.mono ?_; rintro e w2 ⟨rfl, hb2⟩; have HN2 := H_ (HNA.out.1.below hb2); have HKW := H_ (HKP.out.trans (Keep.of_below B.t (HBA.out.trans (hb2.mono HBA.out.size)))); clear hb2; go_wp2_with fail
      go_roundg (len - (k + 1))
      case measure => omega
      case rel => exact ⟨k + 1, by omega, rfl, by go_num, X', by rw [HSU.out, HEQ.out]; exact HN2.out, HKW.out, by rw [HLN.out]; exact HPX.out _ HKW.out⟩
    . have HNO : Hid (nameOne C req ⟨t, v⟩ = if ((findR C.own t).isSome && fitsR (ruleOf C.own t) v) = true then req.set i ⟨t, v⟩ else if hasB C.must t = true then req else req.eraseIdx i) := H_ (by
       unfold nameOne; simp only [hi]; rw [if_neg (by omega)]
       simp)
      rw [hi] at HI; have HI0 := H_ hi0; have hti2 := hti; simp only [beq_iff_eq] at hti2; have HTO := H_ hti2; clear hti hti2; obtain ⟨g, cap, cur0, hrq2, -, -, -, -, -⟩ := HN.out.req.blk (by show 0 < req.length; omega); have hrq1 := HNA.out.2.2.symm.trans hrq2; simp only [Value.slice.injEq] at hrq1; obtain ⟨rfl, -, rfl⟩ := hrq1; obtain ⟨len2, hle⟩ : ∃ len2, len2 = req.length := ⟨_, rfl⟩; have HLE := H_ hle; have HRQ : Hid (X'.req = .slice (some ⟨g, 0, none⟩) len2 qc) := H_ (by rw [hle]; exact hrq2); have hil : i < len2 := by omega
      have hl30 : len2 <= 30 := by have h : req.length <= 30 := HN.out.lr; omega
      rw [<- hle] at HI g10; have dlt : decide ((i : Int) < 0) = false := by simp
      generalize qc = cap at *; clear hi hrq2 cur0 hle; go_wp2_with fail; rw [<- hwa, <- hoxe]; clear hwa g10; refine HI.out.mono ?_; rintro e w2 ⟨rfl, hb2⟩; have HN2 := H_ (HNA.out.1.below hb2); have HB2 := H_ (show Below wa.heap.size wa w2 from hb2); have hox3 := (hb2.block _ (lt_of_heap' HNA.out.2.1)).trans HNA.out.2.1; have hox2 := lt_of_heap' hox3; have HOX := H_ hox3; have HS6 : Hid (∀ Y, Below w2.heap.size w2 Y -> Y.cell? ⟨B.nb, 2, none⟩ = some X'.own /\ Y.cell? ⟨ox, 0, none⟩ = some (.int .i64 t)) := H_ (fun Y hY => ⟨(HN2.out.below hY).cell 2, cellOf ((hY.block _ hox2).trans HOX.out) 0 _ rfl⟩); have HFR := H_ (fun Y (hY : Below w2.heap.size w2 Y) => findR_any C.own X'.own _ t Y (HN2.out.below hY).own (by have := HN2.out.ok.own; omega)); have HFT := H_ (fun Y => fits_any (ruleOf C.own t) v Y hvo); have HMU := H_ (fun Y h => hasN_any C.must X'.must (B.r fun b => Grow S w b) t Y h (by have := HN2.out.ok.must; omega)); generalize (findR C.own t).isSome = f at HNO HFR; generalize fitsR (ruleOf C.own t) v = y at HNO HFT; generalize hasB C.must t = m at HNO HMU; clear hb2 hox3 HI hoxe hvo; go_wp2_with fail
      go_cut [8, 9] (fun r q wc => ∃ rx : Nat, r = .pointer (some ⟨rx, 0, none⟩) /\ q = .bool f /\ Below w2.heap.size w2 wc /\ w2.heap.size <= rx /\ wc.heap[rx]? = some (.cells #[.int .i64 (ruleOf C.own t).t, .int .i64 (ruleOf C.own t).len, .int .i64 (ruleOf C.own t).min, .int .i64 (ruleOf C.own t).max, .string (ruleOf C.own t).s] 64 (0, 0)))
      case first =>
       refine wp_region_H (rgH 0 13) (fun Y : World => Y.cell? ⟨B.nb, 2, none⟩ = some X'.own /\ Y.cell? ⟨ox, 0, none⟩ = some (.int .i64 t)) (by kernel_rfl) ?_; have HSv : (fun Y : World => Y.cell? ⟨B.nb, 2, none⟩ = some X'.own /\ Y.cell? ⟨ox, 0, none⟩ = some (.int .i64 t)) w2.drew := HS6.out _ (Below.refl _ _).drew; refine hatH 0 rfl (by rintro W ⟨h0, h1⟩; go_simp; try rfl) HSv ?_; simp only [aZ, aC, aD]; refine hatH 1 rfl (by rintro W ⟨h0, h1⟩; go_simp; try rfl) HSv ?_; simp only [aZ, aC, aD]; refine hatH 2 rfl (by rintro W ⟨h0, h1⟩; go_simp; try rfl) HSv ?_; simp only [aZ, aC, aD]; refine hatH 3 rfl (by rintro W ⟨h0, h1⟩; go_simp; try rfl) HSv ?_; simp only [aZ, aC, aD]; refine hatH 4 rfl (by rintro W ⟨h0, h1⟩; go_simp; try rfl) HSv ?_; simp only [aZ, aC, aD]; refine hatH 5 rfl (by rintro W ⟨h0, h1⟩; go_simp; try rfl) HSv ?_; simp only [aZ, aC, aD]; refine hatH 6 rfl (by rintro W ⟨h0, h1⟩; go_simp; try rfl) HSv ?_; simp only [aZ, aC, aD]; refine wpAnyH_2 7 11 rfl rfl (by kernel_rfl) ?_ ?_
       . intro K hK; rw [if_pos (by rfl)]
         try go_simp
         go_at_call 148; refine (HFR.out _ (Below.refl _ _).drew).mono ?_; rintro e w3 ⟨rfl, hb3⟩; have HB3 := H_ (show Below w2.heap.size w2 w3 from Below.trans (Below.refl _ _).drew hb3); have HSv : (fun Y : World => Y.cell? ⟨B.nb, 2, none⟩ = some X'.own /\ Y.cell? ⟨ox, 0, none⟩ = some (.int .i64 t)) w3 := HS6.out _ HB3.out; clear hb3; refine hK _ _ (fun _ => HSv) ?_
         try simp only [aZ, aA, aE, aB, aC, aD]
         refine hatH 8 rfl (by rintro W ⟨h0, h1⟩; go_simp; try rfl) HSv ?_; simp only [aZ, aC, aD]; refine hatH 9 rfl (by rintro W ⟨h0, h1⟩; go_simp; try rfl) HSv ?_; simp only [aZ, aC, aD]; refine hatH 10 rfl (by rintro W ⟨h0, h1⟩; go_simp; try rfl) HSv ?_; simp only [aZ, aC, aD]; refine hone 11 rfl fun K hK => ?_
         try go_simp
         have HB4 := H_ (HB3.out.alloc HB3.out.size (.cells #[.int .i64 0, .int .i64 0, .int .i64 0, .int .i64 0, .string ⟨#[]⟩] 64 (0, 0))); have z4 := at1 w3 (.cells #[.int .i64 0, .int .i64 0, .int .i64 0, .int .i64 0, .string ⟨#[]⟩] 64 (0, 0)); have hrx := HB3.out.size; generalize w3.alloc (.cells #[.int .i64 0, .int .i64 0, .int .i64 0, .int .i64 0, .string ⟨#[]⟩] 64 (0, 0)) = w4 at HB4 z4 ⊢; generalize w3.heap.size = rx at z4 hrx ⊢; have HSv : (fun Y : World => Y.cell? ⟨B.nb, 2, none⟩ = some X'.own /\ Y.cell? ⟨ox, 0, none⟩ = some (.int .i64 t)) w4 := HS6.out _ HB4.out; have zf := fun o => fzOf z4 o; have y0 := cellOf z4 0 (.int .i64 0) rfl; have y1 := cellOf z4 1 (.int .i64 0) rfl; have y2 := cellOf z4 2 (.int .i64 0) rfl; have y3 := cellOf z4 3 (.int .i64 0) rfl; have y4 := cellOf z4 4 (.string ⟨#[]⟩) rfl; refine hK _ _ (fun _ => HSv) ?_
         try simp only [aZ, aA, aE, aB, aC, aD]
         clear HSv; refine hone 12 rfl fun K hK => ?_
         try go_simp
         have hr5 := set5 z4 (.int .i64 (ruleOf C.own t).t) (.int .i64 (ruleOf C.own t).len) (.int .i64 (ruleOf C.own t).min) (.int .i64 (ruleOf C.own t).max) (.string (ruleOf C.own t).s); have hb5 := below5 HB4.out hrx (.int .i64 (ruleOf C.own t).t) (.int .i64 (ruleOf C.own t).len) (.int .i64 (ruleOf C.own t).min) (.int .i64 (ruleOf C.own t).max) (.string (ruleOf C.own t).s); generalize ((((w4.setCell ⟨rx, 0, none⟩ (.int .i64 (ruleOf C.own t).t)).setCell ⟨rx, 1, none⟩ (.int .i64 (ruleOf C.own t).len)).setCell ⟨rx, 2, none⟩ (.int .i64 (ruleOf C.own t).min)).setCell ⟨rx, 3, none⟩ (.int .i64 (ruleOf C.own t).max)).setCell ⟨rx, 4, none⟩ (.string (ruleOf C.own t).s) = w5 at hr5 hb5 ⊢; have HB5 := H_ hb5; clear hb5 z4 y0 y1 y2 y3 y4 zf; have HSv : (fun Y : World => Y.cell? ⟨B.nb, 2, none⟩ = some X'.own /\ Y.cell? ⟨ox, 0, none⟩ = some (.int .i64 t)) w5 := HS6.out _ HB5.out; refine hK _ _ (fun _ => HSv) ?_
         try simp only [aZ, aA, aE, aB, aC, aD]
         clear HSv; refine hend 13 ?_; simp only [aF, aG]; go_wp2_with fail
         go_meet
         exact ⟨_, rfl, rfl, HB5.out, hrx, hr5⟩
       . intro K hK; rw [if_pos (by rfl)]
         try go_simp
         have HB3 := H_ (((Below.refl w2.heap.size w2).alloc (Nat.le_refl _) (.cells #[.int .i64 0, .int .i64 0, .int .i64 0, .int .i64 0, .string ⟨#[]⟩] 64 (0, 0))).drew); have z3 : (w2.alloc (.cells #[.int .i64 0, .int .i64 0, .int .i64 0, .int .i64 0, .string ⟨#[]⟩] 64 (0, 0))).drew.heap[w2.heap.size]? = _ := at1 w2 (.cells #[.int .i64 0, .int .i64 0, .int .i64 0, .int .i64 0, .string ⟨#[]⟩] 64 (0, 0)); have hrx : w2.heap.size <= w2.heap.size := Nat.le_refl _; generalize (w2.alloc (.cells #[.int .i64 0, .int .i64 0, .int .i64 0, .int .i64 0, .string ⟨#[]⟩] 64 (0, 0))).drew = w3 at HB3 z3 ⊢
         try simp only [show w2.drew.heap.size = w2.heap.size from rfl]
         have HSv : (fun Y : World => Y.cell? ⟨B.nb, 2, none⟩ = some X'.own /\ Y.cell? ⟨ox, 0, none⟩ = some (.int .i64 t)) w3 := HS6.out _ HB3.out; refine hK _ _ (fun _ => HSv) ?_
         try simp only [aZ, aA, aE, aB, aC, aD]
         refine hone 7 rfl fun K hK => ?_
         try go_simp
         go_at_call 148; refine (HFR.out _ HB3.out).mono ?_; rintro e w4 ⟨rfl, hb4⟩; have HB4 := H_ (show Below w2.heap.size w2 w4 from HB3.out.trans (hb4.mono HB3.out.size)); have z4 := (hb4.block _ (lt_of_heap' z3)).trans z3; have HSv : (fun Y : World => Y.cell? ⟨B.nb, 2, none⟩ = some X'.own /\ Y.cell? ⟨ox, 0, none⟩ = some (.int .i64 t)) w4 := HS6.out _ HB4.out; have zf := fun o => fzOf z4 o; have y0 := cellOf z4 0 (.int .i64 0) rfl; have y1 := cellOf z4 1 (.int .i64 0) rfl; have y2 := cellOf z4 2 (.int .i64 0) rfl; have y3 := cellOf z4 3 (.int .i64 0) rfl; have y4 := cellOf z4 4 (.string ⟨#[]⟩) rfl; clear hb4 z3; refine hK _ _ (fun _ => HSv) ?_
         try simp only [aZ, aA, aE, aB, aC, aD]
         refine hatH 8 rfl (by rintro W ⟨h0, h1⟩; go_simp; try rfl) HSv ?_; simp only [aZ, aC, aD]; refine hatH 9 rfl (by rintro W ⟨h0, h1⟩; go_simp; try rfl) HSv ?_; simp only [aZ, aC, aD]; refine hatH 10 rfl (by rintro W ⟨h0, h1⟩; go_simp; try rfl) HSv ?_; simp only [aZ, aC, aD]; clear HSv; refine hone 12 rfl fun K hK => ?_
         try go_simp
         have hr5 := set5 z4 (.int .i64 (ruleOf C.own t).t) (.int .i64 (ruleOf C.own t).len) (.int .i64 (ruleOf C.own t).min) (.int .i64 (ruleOf C.own t).max) (.string (ruleOf C.own t).s); have hb5 := below5 HB4.out hrx (.int .i64 (ruleOf C.own t).t) (.int .i64 (ruleOf C.own t).len) (.int .i64 (ruleOf C.own t).min) (.int .i64 (ruleOf C.own t).max) (.string (ruleOf C.own t).s); generalize ((((w4.setCell ⟨w2.heap.size, 0, none⟩ (.int .i64 (ruleOf C.own t).t)).setCell ⟨w2.heap.size, 1, none⟩ (.int .i64 (ruleOf C.own t).len)).setCell ⟨w2.heap.size, 2, none⟩ (.int .i64 (ruleOf C.own t).min)).setCell ⟨w2.heap.size, 3, none⟩ (.int .i64 (ruleOf C.own t).max)).setCell ⟨w2.heap.size, 4, none⟩ (.string (ruleOf C.own t).s) = w5 at hr5 hb5 ⊢; have HB5 := H_ hb5; clear hb5 z4 y0 y1 y2 y3 y4 zf; have HSv : (fun Y : World => Y.cell? ⟨B.nb, 2, none⟩ = some X'.own /\ Y.cell? ⟨ox, 0, none⟩ = some (.int .i64 t)) w5 := HS6.out _ HB5.out; refine hK _ _ (fun _ => HSv) ?_
         try simp only [aZ, aA, aE, aB, aC, aD]
         clear HSv; refine hend 13 ?_; simp only [aF, aG]; go_wp2_with fail
         go_meet
         exact ⟨_, rfl, rfl, HB5.out, hrx, hr5⟩
      case rest =>
       obtain ⟨rx, rfl, rfl, hB5, -, hr5⟩ := hcut; obtain ⟨w5, rfl⟩ : ∃ w5, w5 = wc := ⟨_, rfl⟩; have HB5 := H_ hB5; have u1 := cellOf ((hB5.block _ hox2).trans HOX.out) 1 (.string v) rfl; have r0 := cellOf hr5 0 (.int .i64 (ruleOf C.own t).t) rfl; have r1 := cellOf hr5 1 (.int .i64 (ruleOf C.own t).len) rfl; have r2 := cellOf hr5 2 (.int .i64 (ruleOf C.own t).min) rfl; have r3 := cellOf hr5 3 (.int .i64 (ruleOf C.own t).max) rfl; have r4 := cellOf hr5 4 (.string (ruleOf C.own t).s) rfl; clear hr5 hB5
       go_upto_region 7 with fail
       go_cut [42] (fun q wc => q = .bool (f && y) /\ Below w2.heap.size w2 wc)
       case first =>
        cases f with
        | false =>
         go_wp2_with fail
         go_meet
         exact ⟨rfl, HB5.out⟩
        | true =>
         go_wp2_with fail; refine (HFT.out _).mono ?_; rintro e w6 ⟨rfl, hb6⟩; have HB6 := H_ (HB5.out.trans (hb6.mono HB5.out.size)); clear hb6 u1 r0 r1 r2 r3 r4; go_wp2_with fail
         go_meet
         exact ⟨rfl, HB6.out⟩
       case rest =>
        obtain ⟨rfl, hB6⟩ := hcut; obtain ⟨w6, rfl⟩ : ∃ w6, w6 = wc := ⟨_, rfl⟩; have HB6 := H_ hB6; clear hB6 u1 r0 r1 r2 r3 r4; generalize (f && y) = q at HNO ⊢
        cases q with
        | true =>
         have HEQ := H_ (show nameOne C req ⟨t, v⟩ = req.set i ⟨t, v⟩ from HNO.out); go_wp2_with fail; have HN6 := H_ ((HN2.out.below HB6.out).below (show Below w6.heap.size w6 w6.drew from (Below.refl _ _).drew)); have HSv : (fun Y : World => Y.cell? ⟨B.nb, 10, none⟩ = some (.slice (some ⟨g, 0, none⟩) len2 cap) /\ Y.cell? ⟨ox, 1, none⟩ = some (.string v)) w6.drew := ⟨by have := HN6.out.cell 10; rw [show (negCells B C _ X')[10]? = some X'.req from rfl, HRQ.out] at this; exact this, cellOf ((HB6.out.drew.block _ hox2).trans HOX.out) 1 _ rfl⟩; refine wp_region_H (rgH 0 8) (fun Y : World => Y.cell? ⟨B.nb, 10, none⟩ = some (.slice (some ⟨g, 0, none⟩) len2 cap) /\ Y.cell? ⟨ox, 1, none⟩ = some (.string v)) (by kernel_rfl) ?_; refine hatH 0 rfl (by rintro W ⟨h0, h1⟩; go_simp; try rfl) HSv ?_; simp only [aZ, aC, aD]; refine hatH 1 rfl (by rintro W ⟨h0, h1⟩; go_simp; try rfl) HSv ?_; simp only [aZ, aC, aD]; refine hatH 2 rfl (by rintro W ⟨h0, h1⟩; go_simp; try rfl) HSv ?_; simp only [aZ, aC, aD]; refine hatH 3 rfl (by rintro W ⟨h0, h1⟩; go_simp; try rfl) HSv ?_; simp only [aZ, aC, aD]; refine hatH 4 rfl (by rintro W ⟨h0, h1⟩; go_simp; try rfl) HSv ?_; simp only [aZ, aC, aD]; refine hatH 5 rfl (by rintro W ⟨h0, h1⟩; go_simp; try rfl) HSv ?_; simp only [aZ, aC, aD]; refine hatH 6 rfl (by rintro W ⟨h0, h1⟩; go_simp; try rfl) HSv ?_; simp only [aZ, aC, aD]; refine hone 7 rfl fun K hK => ?_
         try go_simp
         go_at_call 257; refine (sclone_any v _ HVL.out).mono ?_; rintro e w7 ⟨rfl, hb7⟩; have HN7 := H_ (HN6.out.below hb7); have hB7 : Below w2.heap.size w2 w7 := HB6.out.drew.trans (hb7.mono HB6.out.size); have HSv : (fun Y : World => Y.cell? ⟨B.nb, 10, none⟩ = some (.slice (some ⟨g, 0, none⟩) len2 cap) /\ Y.cell? ⟨ox, 1, none⟩ = some (.string v)) w7 := ⟨by have := HN7.out.cell 10; rw [show (negCells B C _ X')[10]? = some X'.req from rfl, HRQ.out] at this; exact this, cellOf ((hB7.block _ hox2).trans HOX.out) 1 _ rfl⟩; have hq7 : ORow w7 0 X'.req req := HN7.out.req; rw [HRQ.out] at hq7; obtain ⟨cur, y1, y2, y3, y4, y5⟩ := hq7.blk2; have hlt1 : i * 2 + 1 < cur.size := by have h := HI0.out; rw [y4]; omega
         have i1 := cellOf y1 (i * 2 + 1) cur[i * 2 + 1] (Array.getElem?_eq_getElem hlt1); generalize cur[i * 2 + 1] = q1 at i1; have f1 := fun o => fzOf y1 o; have hro := ORow.setV (o := ⟨t, v⟩) y1 y2 y3 y4 y5 HI0.out HTO.out; rw [<- HLE.out] at hro; have hkr : Keep (fun b => X'.req.ownBlock = some b) w7 (w7.setCell ⟨g, i * 2 + 1, none⟩ (.string v)) := (Keep.refl _ w7).setCell ⟨g, i * 2 + 1, none⟩ (Or.inr (by rw [HRQ.out]; rfl)) (.string v); have HNS := H_ (HN7.out.turnReq hkr (by rw [HRQ.out]; exact hro) (by rw [List.length_set]; exact HN2.out.lr)); have HK7 := H_ ((HKP.out.trans (Keep.of_below B.t (HBA.out.trans (HB2.out.trans (hB7.mono HB2.out.size) |>.mono HBA.out.size)))).trans HNS.out.2); clear hlt1 hb7 hB7 hq7 y1 y2 y3 y4 y5 hro hkr; refine hK _ _ (fun _ => HSv) ?_
         try simp only [aZ, aA, aE, aB, aC, aD]
         refine hend 8 ?_; simp only [aF, aG]; clear HSv; go_wp2_with fail
         go_roundg (len - (k + 1))
         case measure => omega
         case rel => exact ⟨k + 1, by omega, rfl, by go_num, _, by rw [HSU.out, HEQ.out]; exact HNS.out.1, HK7.out, by rw [HLN.out]; exact HPX.out _ (HK7.out)⟩
        | false =>
         cases m with
         | false =>
          have HEQ := H_ (show nameOne C req ⟨t, v⟩ = req.eraseIdx i from HNO.out); go_wp2_with fail; have HN9 := H_ ((HN2.out.below HB6.out).below (show Below w6.heap.size w6 w6.drew from (Below.refl _ _).drew)); have HSv : (fun Y : World => Y.cell? ⟨B.nb, 4, none⟩ = some X'.must /\ Y.cell? ⟨ox, 0, none⟩ = some (.int .i64 t)) w6.drew := ⟨HN9.out.cell 4, cellOf ((HB6.out.drew.block _ hox2).trans HOX.out) 0 _ rfl⟩; refine wp_region_H (rgH 0 9) (fun Y : World => Y.cell? ⟨B.nb, 4, none⟩ = some X'.must /\ Y.cell? ⟨ox, 0, none⟩ = some (.int .i64 t)) (by kernel_rfl) ?_; refine hatH 0 rfl (by rintro W ⟨h0, h1⟩; go_simp; try rfl) HSv ?_; simp only [aZ, aC, aD]; refine hatH 1 rfl (by rintro W ⟨h0, h1⟩; go_simp; try rfl) HSv ?_; simp only [aZ, aC, aD]; refine hatH 2 rfl (by rintro W ⟨h0, h1⟩; go_simp; try rfl) HSv ?_; simp only [aZ, aC, aD]; refine hatH 3 rfl (by rintro W ⟨h0, h1⟩; go_simp; try rfl) HSv ?_; simp only [aZ, aC, aD]; refine hatH 4 rfl (by rintro W ⟨h0, h1⟩; go_simp; try rfl) HSv ?_; simp only [aZ, aC, aD]; refine hatH 5 rfl (by rintro W ⟨h0, h1⟩; go_simp; try rfl) HSv ?_; simp only [aZ, aC, aD]; refine hatH 6 rfl (by rintro W ⟨h0, h1⟩; go_simp; try rfl) HSv ?_; simp only [aZ, aC, aD]; refine hone 7 rfl fun K hK => ?_
          try go_simp
          go_at_call 142; refine (HMU.out _ HN9.out.must).mono ?_; rintro e _ ⟨rfl, rfl⟩; refine hK _ _ (fun _ => HSv) ?_
          try simp only [aZ, aA, aE, aB, aC, aD]
          refine hatH 8 rfl (by rintro W ⟨h0, h1⟩; go_simp; try rfl) HSv ?_; simp only [aZ, aC, aD]; refine hend 9 ?_; simp only [aF, aG]; clear HSv; have HKP9 := H_ (HKP.out.trans (Keep.of_below B.t (HBA.out.trans (HB2.out.trans (HB6.out.drew.mono HB2.out.size) |>.mono HBA.out.size)))); have hq9 : ORow w6.drew 0 X'.req req := HN9.out.req; rw [HRQ.out] at hq9; obtain ⟨cur, y1, y2, y3, y4, y5⟩ := hq9.blk2; have HD := H_ (delO_any g cap cur req i w6.drew HI0.out y1 y2 y3 y4 y5 (by have h : req.length <= 30 := HN2.out.lr; omega)); rw [<- HLE.out] at HD; have g10 : w6.drew.cell? ⟨B.nb, 10, none⟩ = some (.slice (some ⟨g, 0, none⟩) len2 cap) := by have := HN9.out.cell 10; rw [show (negCells B C { st with req := req } X')[10]? = some X'.req from rfl, HRQ.out] at this; exact this
          clear y1 y2 y3 y4 y5 hq9
          go_wp2_with (
           go_at_call 258; refine HD.out.mono ?_; rintro e w8 ⟨rfl, r8, k8⟩; have hkr : Keep (fun b => X'.req.ownBlock = some b) w6.drew w8 := k8.mono (fun b _ hb => by rw [HRQ.out]; subst hb; rfl); have hl8 : (req.eraseIdx i).length <= 30 := Nat.le_trans (List.length_eraseIdx_le _ _) HN2.out.lr; have hgr : g = B.rb := HN2.out.rq g (by rw [HRQ.out]; rfl); have hNS := HN9.out.setReq hkr r8 (fun b hb => by cases hb; exact hgr) hl8; have y10 := (k8.block B.nb HN9.out.nlt (fun he => HN9.out.ne2 (by rw [<- hgr]; exact he.symm))).trans HN9.out.blk; have f10 := fun o => fzOf y10 o; have g11 := cellOf y10 10 X'.req rfl; rw [HRQ.out] at g11; have HNS := H_ hNS; have HK10 := H_ (HKP9.out.trans hNS.2)
           clear hkr hl8 hgr hNS y10 k8 r8)
          go_roundg (len - (k + 1))
          case measure => omega
          case rel => exact ⟨k + 1, by omega, rfl, by go_num, _, by rw [HSU.out, HEQ.out]; exact HNS.out.1, HK10.out, by rw [HLN.out]; exact HPX.out _ (HK10.out)⟩
         | true =>
          have HEQ := H_ (show nameOne C req ⟨t, v⟩ = req from HNO.out); go_wp2_with fail; have HN9 := H_ ((HN2.out.below HB6.out).below (show Below w6.heap.size w6 w6.drew from (Below.refl _ _).drew)); have HSv : (fun Y : World => Y.cell? ⟨B.nb, 4, none⟩ = some X'.must /\ Y.cell? ⟨ox, 0, none⟩ = some (.int .i64 t)) w6.drew := ⟨HN9.out.cell 4, cellOf ((HB6.out.drew.block _ hox2).trans HOX.out) 0 _ rfl⟩; refine wp_region_H (rgH 0 9) (fun Y : World => Y.cell? ⟨B.nb, 4, none⟩ = some X'.must /\ Y.cell? ⟨ox, 0, none⟩ = some (.int .i64 t)) (by kernel_rfl) ?_; refine hatH 0 rfl (by rintro W ⟨h0, h1⟩; go_simp; try rfl) HSv ?_; simp only [aZ, aC, aD]; refine hatH 1 rfl (by rintro W ⟨h0, h1⟩; go_simp; try rfl) HSv ?_; simp only [aZ, aC, aD]; refine hatH 2 rfl (by rintro W ⟨h0, h1⟩; go_simp; try rfl) HSv ?_; simp only [aZ, aC, aD]; refine hatH 3 rfl (by rintro W ⟨h0, h1⟩; go_simp; try rfl) HSv ?_; simp only [aZ, aC, aD]; refine hatH 4 rfl (by rintro W ⟨h0, h1⟩; go_simp; try rfl) HSv ?_; simp only [aZ, aC, aD]; refine hatH 5 rfl (by rintro W ⟨h0, h1⟩; go_simp; try rfl) HSv ?_; simp only [aZ, aC, aD]; refine hatH 6 rfl (by rintro W ⟨h0, h1⟩; go_simp; try rfl) HSv ?_; simp only [aZ, aC, aD]; refine hone 7 rfl fun K hK => ?_
          try go_simp
          go_at_call 142; refine (HMU.out _ HN9.out.must).mono ?_; rintro e _ ⟨rfl, rfl⟩; refine hK _ _ (fun _ => HSv) ?_
          try simp only [aZ, aA, aE, aB, aC, aD]
          refine hatH 8 rfl (by rintro W ⟨h0, h1⟩; go_simp; try rfl) HSv ?_; simp only [aZ, aC, aD]; refine hend 9 ?_; simp only [aF, aG]; clear HSv; have HKP9 := H_ (HKP.out.trans (Keep.of_below B.t (HBA.out.trans (HB2.out.trans (HB6.out.drew.mono HB2.out.size) |>.mono HBA.out.size)))); go_wp2_with fail
          go_roundg (len - (k + 1))
          case measure => omega
          case rel => exact ⟨k + 1, by omega, rfl, by go_num, _, by rw [HSU.out, HEQ.out]; exact HN9.out, HKP9.out, by rw [HLN.out]; exact HPX.out _ (HKP9.out)⟩
  . obtain rfl : len = k := by omega
    have hq : (p.o.take len) = p.o := by rw [HLN.out, List.take_length]
    rw [hq] at HN; have HE := H_ (Event_at (ok := ok) rej p _ 9 (by decide) HN.out (HO.out wr HKP.out) HOK.out.1 HOK.out.2.1 (fun pa => sayAll_next rej B C _ _ _ _ 9 HN.out.ss (by decide)) okr); unfold pkV at HE; rw [<- HLN.out] at HE; have t1 := cellOf HPX2.out 0 (.int .i64 p.code) rfl; have t2 := cellOf HPX2.out 1 (.int .i64 p.id) rfl; have t3 := cellOf HPX2.out 2 (.slice a1 len k1) rfl; have t4 := cellOf HPX2.out 3 (.string p.d) rfl; clear hq; go_wp2_with fail; refine HE.out.mono ?_; rintro e w6 ⟨v6, rfl, h6⟩; go_wp2_with fail; go_ret; exact EvPost.fin ⟨_, rfl, h6⟩ ((Keep.of_below B.t HOK.out.2.2.1).trans HKP.out) (Nat.le_trans HOK.out.2.2.1.size HKP.out.size)
end
section
variable (rej : Pk -> ByteArray) {w : World} {S ok : Nat -> Prop} {B : NegB} {C : NegC} {st : NSt} {X : NegX}
set_option maxRecDepth 100000 in
theorem answered4_at (p : Pk) (po : Value) (hcode : p.code = 4) (h : NegAt w S B C st X) (ho : Opts w ok po p.o) (hok : ∀ b, ok b -> ¬ B.t b) (hlen : p.o.length <= 1000000) (okr : Nat -> Prop := ok) :
 Calls Tryz.prog 168 #[.pointer (some ⟨B.nb, 0, none⟩), pkV p po] w fun e w' => EvPost w w' S okr B C (if p.id = st.asked then refusedS rej C st p else (st, [])) e := by
 obtain ⟨pc, pi, pl, pd⟩ := p; simp only at hcode ho hlen
 subst hcode; obtain ⟨a1, k1, rfl, hc1, hc2⟩ := ho.form; have hb1 : Below w.heap.size w (w.alloc (.cells #[.int .i64 4, .int .i64 pi, (.slice a1 pl.length k1), .string pd] 93 (0, 0))) := (Below.refl _ _).alloc (Nat.le_refl _) _; have hz := at1 w (.cells #[.int .i64 4, .int .i64 pi, (.slice a1 pl.length k1), .string pd] 93 (0, 0)); have h1 := h.below hb1; have g0 : (w.alloc (.cells #[.int .i64 4, .int .i64 pi, (.slice a1 pl.length k1), .string pd] 93 (0, 0))).cell? ⟨B.nb, 12, none⟩ = some (.int .u8 st.asked) := h1.cell 12; have g1 : (w.alloc (.cells #[.int .i64 4, .int .i64 pi, (.slice a1 pl.length k1), .string pd] 93 (0, 0))).cell? ⟨w.heap.size, 1, none⟩ = some (.int .i64 pi) := cellOf hz 1 _ rfl; have ew : wrap64 st.asked = st.asked := by have := h.ak; unfold wrap64; omega
 have hq : ∀ n, Below (w.alloc (.cells #[.int .i64 4, .int .i64 pi, (.slice a1 pl.length k1), .string pd] 93 (0, 0))).heap.size (w.alloc (.cells #[.int .i64 4, .int .i64 pi, (.slice a1 pl.length k1), .string pd] 93 (0, 0))) ((w.alloc (.cells #[.int .i64 4, .int .i64 pi, (.slice a1 pl.length k1), .string pd] 93 (0, 0))).drewN n) := fun n => ⟨rfl, rfl, rfl, Nat.le_refl _, fun _ _ => rfl⟩; have HR := H_ (fun n => refused_at (ok := ok) rej ⟨4, pi, pl, pd⟩ (.slice a1 pl.length k1) (h1.below (hq n)) ((ho.below hb1).below (hq n)) hok hlen okr); unfold pkV at HR; have H := H_ (A_ h (A_ h1 (A_ ho (A_ hb1 (A_ hok hz))))); unfold pkV; clear h ho hok hb1 hz h1 hq
 by_cases hid : pi = st.asked
 . subst hid; go_enter Tryz.func168, Tryz.ntmps168; go_wp2_with fail
   go_quiet (fail)
   go_wp2_with (go_at_call 233; refine (HR.out _).mono ?_; rintro e w2 ⟨v2, rfl, h2⟩)
   go_ret; exact EvPost.of_box ⟨_, rfl, h2⟩ (belowN H.out.2.2.2.1 _)
 . have HID := H_ hid; go_enter Tryz.func168, Tryz.ntmps168; go_wp2_with fail
   go_quiet (fail)
   go_wp2_with fail; go_ret; exact EvPost.none' ⟨X, (H.out.1.below (belowN H.out.2.2.2.1 nq)).mono (fun b h => .inl h)⟩ (Keep.of_below _ (belowN H.out.2.2.2.1 nq))
set_option maxRecDepth 100000 in
theorem answered3_at (p : Pk) (po : Value) (hcode : p.code = 3) (h : NegAt w S B C st X) (ho : Opts w ok po p.o) (hok : ∀ b, ok b -> ¬ B.t b) (hlen : p.o.length <= 1000000) (hv : ∀ o ∈ p.o, o.v.size <= 100000) (okr : Nat -> Prop := ok) :
 Calls Tryz.prog 168 #[.pointer (some ⟨B.nb, 0, none⟩), pkV p po] w fun e w' => EvPost w w' S okr B C (if p.id = st.asked then namedS rej C st p else (st, [])) e := by
 obtain ⟨pc, pi, pl, pd⟩ := p; simp only at hcode ho hlen hv
 subst hcode; obtain ⟨a1, k1, rfl, hc1, hc2⟩ := ho.form; have hb1 : Below w.heap.size w (w.alloc (.cells #[.int .i64 3, .int .i64 pi, (.slice a1 pl.length k1), .string pd] 93 (0, 0))) := (Below.refl _ _).alloc (Nat.le_refl _) _; have hz := at1 w (.cells #[.int .i64 3, .int .i64 pi, (.slice a1 pl.length k1), .string pd] 93 (0, 0)); have h1 := h.below hb1; have g0 : (w.alloc (.cells #[.int .i64 3, .int .i64 pi, (.slice a1 pl.length k1), .string pd] 93 (0, 0))).cell? ⟨B.nb, 12, none⟩ = some (.int .u8 st.asked) := h1.cell 12; have g1 : (w.alloc (.cells #[.int .i64 3, .int .i64 pi, (.slice a1 pl.length k1), .string pd] 93 (0, 0))).cell? ⟨w.heap.size, 1, none⟩ = some (.int .i64 pi) := cellOf hz 1 _ rfl; have ew : wrap64 st.asked = st.asked := by have := h.ak; unfold wrap64; omega
 have hq : ∀ n, Below (w.alloc (.cells #[.int .i64 3, .int .i64 pi, (.slice a1 pl.length k1), .string pd] 93 (0, 0))).heap.size (w.alloc (.cells #[.int .i64 3, .int .i64 pi, (.slice a1 pl.length k1), .string pd] 93 (0, 0))) ((w.alloc (.cells #[.int .i64 3, .int .i64 pi, (.slice a1 pl.length k1), .string pd] 93 (0, 0))).drewN n) := fun n => ⟨rfl, rfl, rfl, Nat.le_refl _, fun _ _ => rfl⟩; have HR := H_ (fun n => named_at (ok := ok) rej ⟨3, pi, pl, pd⟩ (.slice a1 pl.length k1) (h1.below (hq n)) ((ho.below hb1).below (hq n)) hok hlen hv okr); unfold pkV at HR; have H := H_ (A_ h (A_ h1 (A_ ho (A_ hb1 (A_ hok hz))))); unfold pkV; clear h ho hok hb1 hz h1 hq hv
 by_cases hid : pi = st.asked
 . subst hid; go_enter Tryz.func168, Tryz.ntmps168; go_wp2_with fail
   go_quiet (fail)
   go_wp2_with (go_at_call 234; refine (HR.out _).mono ?_; rintro e w2 ⟨v2, rfl, h2⟩)
   go_ret; exact EvPost.of_box ⟨_, rfl, h2⟩ (belowN H.out.2.2.2.1 _)
 . have HID := H_ hid; go_enter Tryz.func168, Tryz.ntmps168; go_wp2_with fail
   go_quiet (fail)
   go_wp2_with fail; go_ret; exact EvPost.none' ⟨X, (H.out.1.below (belowN H.out.2.2.2.1 nq)).mono (fun b h => .inl h)⟩ (Keep.of_below _ (belowN H.out.2.2.2.1 nq))
set_option maxRecDepth 100000 in
theorem take34 (p : Pk) (po : Value) (hcode : p.code = 3 \/ p.code = 4) (h : NegAt w S B C st X) (ho : Opts w ok po p.o) (hok : ∀ b, ok b -> ¬ B.t b) (hlen : p.o.length <= 1000000) (hv : ∀ o ∈ p.o, o.v.size <= 100000) (okr : Nat -> Prop := ok) :
 Calls Tryz.prog 49 #[.pointer (some ⟨B.nb, 0, none⟩), pkV p po] w fun e w' => EvPost w w' S okr B C (if p.id = st.asked then (if p.code = 3 then namedS rej C st p else refusedS rej C st p) else (st, [])) e := by
 obtain ⟨a1, k1, rfl, hc1, hc2⟩ := ho.form; have hb1 : Below w.heap.size w (w.alloc (.cells #[.int .i64 p.code, .int .i64 p.id, (.slice a1 p.o.length k1), .string p.d] 93 (0, 0))) := (Below.refl _ _).alloc (Nat.le_refl _) _; have HX := H_ (A_ (h.below hb1) hb1)
 have hC : Calls Tryz.prog 168 #[.pointer (some ⟨B.nb, 0, none⟩), pkV p (.slice a1 p.o.length k1)] (w.alloc (.cells #[.int .i64 p.code, .int .i64 p.id, (.slice a1 p.o.length k1), .string p.d] 93 (0, 0))) fun e w' => EvPost (w.alloc (.cells #[.int .i64 p.code, .int .i64 p.id, (.slice a1 p.o.length k1), .string p.d] 93 (0, 0))) w' S okr B C (if p.id = st.asked then (if p.code = 3 then namedS rej C st p else refusedS rej C st p) else (st, [])) e := by
  rcases hcode with hc | hc
  . have := answered3_at rej p _ hc (h.below hb1) (ho.below hb1) hok hlen hv okr
    rwa [<- if_pos (c := p.code = 3) (t := namedS rej C st p) (e := refusedS rej C st p) hc] at this
  . have := answered4_at rej p _ hc (h.below hb1) (ho.below hb1) hok hlen okr
    rwa [<- if_neg (c := p.code = 3) (t := namedS rej C st p) (e := refusedS rej C st p) (by omega)] at this
 have HC := H_ hC; generalize (if p.id = st.asked then (if p.code = 3 then namedS rej C st p else refusedS rej C st p) else (st, [])) = R at HC ⊢; unfold pkV at HC ⊢; clear h ho hok hb1 hC hv; obtain ⟨pc, pi, pl, pd⟩ := p; simp only at hcode
 rcases hcode with rfl | rfl
 all_goals
  go_enter Tryz.func49, Tryz.ntmps49
  go_wp2_with (first
   | (go_at_call 158; refine (nnone_at HX.out.1).mono ?_; rintro e w1 ⟨rfl, rfl⟩)
   | (go_at_call 168; refine HC.out.mono ?_; rintro e w5 ⟨v5, rfl, h5⟩))
  go_ret; exact EvPost.of_box ⟨_, rfl, h5⟩ HX.out.2
end
theorem say_every (B : NegB) (C : NegC) (ok : Nat -> Prop) (c : Came) (po pa : Value) (a : Int) (h0 : 0 <= a) (h1 : a <= 12) (hv : ∀ o ∈ c.p.o, o.v.size <= 100000) (hd : c.p.d.size <= 100000000) : SaySpec rejS B C ok c po pa a := by
 by_cases h : a = 11
 . subst h; intro w S st X h hc; exact say11 c po pa h hc hv hd
 . exact say_less rejS B C ok c po pa a h0 h1 h
theorem sayAll_every (B : NegB) (C : NegC) (c : Came) (po pa : Value) (s e : Int) (hv : ∀ o ∈ c.p.o, o.v.size <= 100000) (hd : c.p.d.size <= 100000000) : SayAll rejS B C c po pa (nextL s e) :=
 fun a ha ok => say_every B C ok c po pa a (nextL_bd s e a ha).1 (nextL_bd s e a ha).2 hv hd
def code7S (rej : Pk -> ByteArray) (C : NegC) (st : NSt) (p : Pk) : NSt × List Pk :=
 if p.d.size = 0 then (st, []) else evS rej C st (if 1 <= (p.d.data.getD 0 0).toNat /\ (p.d.data.getD 0 0).toNat <= 7 then 14 else 13) ⟨true, p, 0, []⟩
section
variable (rej : Pk -> ByteArray) {w : World} {S ok : Nat -> Prop} {B : NegB} {C : NegC} {st : NSt} {X : NegX}
set_option maxRecDepth 100000 in
theorem take7 (p : Pk) (po : Value) (hcode : p.code = 7) (h : NegAt w S B C st X) (ho : Opts w ok po p.o) (hok : ∀ b, ok b -> ¬ B.t b) (hlen : p.o.length <= 1000000) (hd : p.d.size <= 100000000) (okr : Nat -> Prop := ok) :
 Calls Tryz.prog 49 #[.pointer (some ⟨B.nb, 0, none⟩), pkV p po] w fun e w' => EvPost w w' S okr B C (code7S rej C st p) e := by
 obtain ⟨a1, k1, rfl, hc1, hc2⟩ := ho.form; have hb1 : Below w.heap.size w (w.alloc (.cells #[.int .i64 p.code, .int .i64 p.id, (.slice a1 p.o.length k1), .string p.d] 93 (0, 0))) := (Below.refl _ _).alloc (Nat.le_refl _) _; have HX := H_ (A_ (h.below hb1) (A_ hb1 h)); have HE := H_ (fun ev (hw : (Lit.int .i64 ev).wf = true) (hm : ev ∈ [0, 1, 2, 3, 4, 5, 6, 8, 9, 10, 11, 13, 14]) => Event_at (ok := ok) rej p _ ev hw (h.below hb1) (ho.below hb1) hok hlen (fun pa => sayAll_next rej B C _ _ _ _ ev h.ss hm) okr); unfold pkV at HE ⊢; have HM := H_ (show code7S rej C st p = if p.d.size = 0 then (st, []) else evS rej C st (if 1 <= (p.d.data.getD 0 0).toNat /\ (p.d.data.getD 0 0).toNat <= 7 then 14 else 13) ⟨true, p, 0, []⟩ from rfl); generalize code7S rej C st p = R at HM ⊢; obtain ⟨pc, pi, pl, pd⟩ := p; simp only at hcode hd
 subst hcode; clear h ho hok hb1 hlen
 by_cases h0 : pd.size = 0
 . have : pd = ⟨#[]⟩ := by
    apply ByteArray.ext
    exact Array.eq_empty_of_size_eq_zero h0
   subst this; go_enter Tryz.func49, Tryz.ntmps49
   go_wp2_with (go_at_call 158; refine (nnone_at HX.out.1).mono ?_; rintro e w1 ⟨rfl, rfl⟩)
   go_ret; rw [show R = (st, []) from HM.out]; exact EvPost.none' ⟨X, (HX.out.2.2.below HX.out.2.1).mono (fun b h => .inl h)⟩ (Keep.of_below _ HX.out.2.1)
 . have hne : ¬ pd = ⟨#[]⟩ := fun h => h0 (by rw [h]; rfl); obtain ⟨b, hb⟩ : ∃ b : UInt8, b = pd.data.getD 0 0 := ⟨_, rfl⟩; have hlt : 0 < pd.size := by omega
   have hix : ∀ h, pd[0]'h = b := fun h => by
    have h' : 0 < pd.data.size := h; rw [hb, Array.getD_eq_getD_getElem?, Array.getElem?_eq_getElem h']; rfl
   have HM2 : Hid (R = evS rej C st (if 1 <= b.toNat /\ b.toNat <= 7 then 14 else 13) ⟨true, ⟨7, pi, pl, pd⟩, 0, []⟩) := H_ (by rw [HM.out, if_neg h0, hb]); clear HM hb; have hd1 : pd.toList.isEmpty = false := by rw [isE]; simp [h0]
   by_cases c1 : 1 <= b.toNat
   . have e1 : decide ((1 : Int) <= (b.toNat : Int)) = true := by simp; omega
     by_cases c2 : b.toNat <= 7
     . have e2 : decide ((b.toNat : Int) <= 7) = true := by simp; omega
       have HM3 : Hid (R = evS rej C st 14 ⟨true, ⟨7, pi, pl, pd⟩, 0, []⟩) := H_ (by rw [HM2.out, if_pos ⟨c1, c2⟩]); clear c1 c2 HM2 h0 hne; go_enter Tryz.func49, Tryz.ntmps49
       go_wp2_with (first
        | (go_at_call 158; refine (nnone_at HX.out.1).mono ?_; rintro e w1 ⟨rfl, rfl⟩)
        | (go_at_call 169; refine (HE.out 14 (by decide) (by decide)).mono ?_; rintro e w5 ⟨v5, rfl, h5⟩; have H5 := H_ h5; clear h5))
       go_ret; rw [HM3.out]; exact EvPost.of_box ⟨_, rfl, H5.out⟩ HX.out.2.1
     . have e2 : decide ((b.toNat : Int) <= 7) = false := by simp; omega
       have HM3 : Hid (R = evS rej C st 13 ⟨true, ⟨7, pi, pl, pd⟩, 0, []⟩) := H_ (by rw [HM2.out, if_neg (fun h => c2 h.2)]); clear c1 c2 HM2 h0 hne; go_enter Tryz.func49, Tryz.ntmps49
       go_wp2_with (first
        | (go_at_call 158; refine (nnone_at HX.out.1).mono ?_; rintro e w1 ⟨rfl, rfl⟩)
        | (go_at_call 169; refine (HE.out 13 (by decide) (by decide)).mono ?_; rintro e w5 ⟨v5, rfl, h5⟩; have H5 := H_ h5; clear h5))
       go_ret; rw [HM3.out]; exact EvPost.of_box ⟨_, rfl, H5.out⟩ HX.out.2.1
   . have e1 : decide ((1 : Int) <= (b.toNat : Int)) = false := by simp; omega
     have HM3 : Hid (R = evS rej C st 13 ⟨true, ⟨7, pi, pl, pd⟩, 0, []⟩) := H_ (by rw [HM2.out, if_neg (fun h => c1 h.1)]); clear c1 HM2 h0 hne; go_enter Tryz.func49, Tryz.ntmps49
     go_wp2_with (first
      | (go_at_call 158; refine (nnone_at HX.out.1).mono ?_; rintro e w1 ⟨rfl, rfl⟩)
      | (go_at_call 169; refine (HE.out 13 (by decide) (by decide)).mono ?_; rintro e w5 ⟨v5, rfl, h5⟩; have H5 := H_ h5; clear h5))
     go_ret; rw [HM3.out]; exact EvPost.of_box ⟨_, rfl, H5.out⟩ HX.out.2.1
end
def takeS (C : NegC) (st : NSt) (p : Pk) : NSt × List Pk :=
 if p.code = 1 then reqS rejS C st p (judgeS C.peer p.o)
 else if p.code = 2 then ackS rejS C st p
 else if p.code = 3 \/ p.code = 4 then (if p.id = st.asked then (if p.code = 3 then namedS rejS C st p else refusedS rejS C st p) else (st, []))
 else if p.code = 5 then evS rejS C st 10 ⟨true, p, 0, []⟩
 else if p.code = 6 then evS rejS C st 11 ⟨true, p, 0, []⟩
 else if p.code = 7 then code7S rejS C st p
 else evS rejS C st 12 ⟨true, p, 0, []⟩
structure PkOk (p : Pk) : Prop where
 len : p.o.length <= 1000000
 wf : ∀ o ∈ p.o, I64 o.t
 vs : ∀ o ∈ p.o, o.v.size <= 100000
 ds : p.d.size <= 100000000
section
variable {w : World} {S ok : Nat -> Prop} {B : NegB} {C : NegC} {st : NSt} {jb : Nat}
theorem TakeP (p : Pk) (po : Value) (hp : PkOk p) (h : NegP w S B C st jb) (ho : Opts w ok po p.o) (hok : ∀ b, ok b -> ¬ B.t b) (okr : Nat -> Prop := ok) :
 Calls Tryz.prog 49 #[.pointer (some ⟨B.nb, 0, none⟩), pkV p po] w fun e w' => EvP w w' S okr B C jb (takeS C st p) e := by
 unfold takeS
 by_cases h1 : p.code = 1
 . rw [if_pos h1]; exact take1P rejS p po h1 h ho hok hp.len hp.wf hp.vs (fun _ pa => sayAll_every _ _ _ _ _ _ _ hp.vs hp.ds) okr
 . rw [if_neg h1]
   by_cases h2 : p.code = 2
   . rw [if_pos h2]; exact take2P rejS p po h2 h ho hok hp.len okr
   . rw [if_neg h2]
     by_cases h3 : p.code = 3 \/ p.code = 4
     . rw [if_pos h3]; obtain ⟨X, hX⟩ := h.1; exact (take34 rejS p po h3 hX ho hok hp.len hp.vs okr).mono (fun e w' he => he.p h)
     . rw [if_neg h3]
       by_cases h5 : p.code = 5
       . rw [if_pos h5]; exact take5P rejS p po h5 h ho hok hp.len okr
       . rw [if_neg h5]
         by_cases h6 : p.code = 6
         . rw [if_pos h6]; exact take6P rejS p po h6 h ho hok hp.len okr
         . rw [if_neg h6]
           by_cases h7 : p.code = 7
           . rw [if_pos h7]; obtain ⟨X, hX⟩ := h.1; exact (take7 rejS p po h7 hX ho hok hp.len hp.ds okr).mono (fun e w' he => he.p h)
           . rw [if_neg h7]; exact takeUP rejS p po (by omega) h ho hok hp.len (fun pa => sayAll_every _ _ _ _ _ _ _ hp.vs hp.ds) okr
end
theorem nextL_len (s e : Int) : (nextL s e).length <= 20 := by
 unfold nextL
 cases hf : nextF s e with
 | none => exact Nat.zero_le _
 | some y => exact next_all (fun y => y.2.length <= 20) (by decide) (by decide) s e y hf
theorem evS_len (rej : Pk -> ByteArray) (C : NegC) (st : NSt) (e : Int) (c : Came) : (evS rej C st e c).2.length <= 20 := by
 unfold evS toldS; exact Nat.le_trans (sayL_len _ _ _ _ _) (nextL_len _ _)
theorem takeS_len (C : NegC) (st : NSt) (p : Pk) : (takeS C st p).2.length <= 20 := by
 unfold takeS
 split
 . unfold reqS; split <;> exact evS_len _ _ _ _ _
 . split
   . unfold ackS
     split
     . split
       . exact evS_len _ _ _ _ _
       . exact Nat.zero_le _
     . exact Nat.zero_le _
   . split
     . split
       . split
         . exact evS_len _ _ _ _ _
         . unfold refusedS
           split
           . split <;> exact evS_len _ _ _ _ _
           . exact Nat.zero_le _
       . exact Nat.zero_le _
     . split
       . exact evS_len _ _ _ _ _
       . split
         . exact evS_len _ _ _ _ _
         . split
           . unfold code7S
             split
             . exact Nat.zero_le _
             . exact evS_len _ _ _ _ _
           . exact evS_len _ _ _ _ _
def takeAll (C : NegC) (st : NSt) : List Pk -> NSt × List Pk
 | [] => (st, [])
 | p :: l => ((takeAll C (takeS C st p).1 l).1, (takeS C st p).2 ++ (takeAll C (takeS C st p).1 l).2)
theorem NegP.old {w : World} {S : Nat -> Prop} {B : NegB} {C : NegC} {st : NSt} {jb : Nat} (h : NegP w S B C st jb) : NegP w (fun b => S b /\ b < w.heap.size) B C st jb := by
 obtain ⟨⟨X, hX⟩, h1, h2, h3, h4⟩ := h; exact ⟨⟨X, hX.old⟩, h1, h2, ⟨h3, h1.lt⟩, h4⟩
def Apart (l : List Opt) : Prop := l.Pairwise (fun a b => a.t ≠ b.t)
theorem rejP_apart (has : Int -> Bool) : ∀ (l pre : List Opt), rejP has pre l = [] -> (∀ o ∈ l, ∀ x ∈ pre, x.t ≠ o.t) /\ Apart l := by
 intro l
 induction l with
 | nil => intro pre _; exact ⟨fun o ho => (by cases ho), List.Pairwise.nil⟩
 | cons o l ih =>
  intro pre h; simp only [rejP, List.append_eq_nil_iff] at h; obtain ⟨h1, h2⟩ := ih _ h.2
  have h3 : rejOne has pre o = false := by
   cases hq : rejOne has pre o with
   | false => rfl
   | true => have := h.1; rw [hq] at this; simp at this
  simp only [rejOne, Bool.or_eq_false_iff, List.any_eq_false] at h3; refine ⟨fun q hq x hx => ?_, List.pairwise_cons.2 ⟨fun q hq => h1 q hq o (by simp), h2⟩⟩
  rcases List.mem_cons.1 hq with rfl | hq
  . simpa using h3.1 x hx
  . exact h1 q hq x (List.mem_append.2 (.inl hx))
theorem findO_apart {l : List Opt} (h : Apart l) {o : Opt} (ho : o ∈ l) : findO l o.t = some o := by
 induction l with
 | nil => cases ho
 | cons x l ih =>
  have h' := List.pairwise_cons.1 h; unfold findO; rw [List.find?_cons]
  rcases List.mem_cons.1 ho with rfl | ho
  . simp
  . have : (x.t == o.t) = false := by simpa using h'.1 o ho
    rw [this]; exact ih h'.2 ho
theorem apart_eq {l : List Opt} (h : Apart l) {a b : Opt} (ha : a ∈ l) (hb : b ∈ l) (e : a.t = b.t) : a = b := by
 have h1 := findO_apart h ha; have h2 := findO_apart h hb; rw [e] at h1; exact Option.some.inj (h1.symm.trans h2)
theorem judgeS_3 {rs : List Rl} {l : List Opt} (h : (judgeS rs l).1 = 3) : Apart l /\ (judgeS rs l).2 = nakP (fun o => fitsR (ruleOf rs o.t) o.v) (fun k => (ruleOf rs k).s) l := by
 unfold judgeS answerS at h ⊢
 by_cases h1 : (rejP (fun k => (findR rs k).isSome) [] l).length ≠ 0
 . rw [if_pos h1] at h; simp at h
 . rw [if_neg h1] at h ⊢; have h2 : rejP (fun k => (findR rs k).isSome) [] l = [] := List.eq_nil_of_length_eq_zero (by omega); refine ⟨(rejP_apart _ _ _ h2).2, ?_⟩
   by_cases h3 : (nakP (fun o => fitsR (ruleOf rs o.t) o.v) (fun k => (ruleOf rs k).s) l).length ≠ 0
   . rw [if_pos h3]
   . rw [if_neg h3] at h; simp at h
def backS (l ans : List Opt) : List Opt := ans.map fun o => ⟨o.t, ((findO l o.t).getD default).v⟩
theorem backS_eq {rs : List Rl} {l : List Opt} (h : (judgeS rs l).1 = 3) : backS l (judgeS rs l).2 = l.filter fun o => (findO (judgeS rs l).2 o.t).isSome := by
 obtain ⟨ha, he⟩ := judgeS_3 h; rw [he]
 have e1 : backS l (nakP (fun o => fitsR (ruleOf rs o.t) o.v) (fun k => (ruleOf rs k).s) l) = l.filter fun o => !fitsR (ruleOf rs o.t) o.v := by
  unfold backS nakP; rw [List.map_map]
  conv => rhs; rw [<- List.map_id (l.filter fun o => !fitsR (ruleOf rs o.t) o.v)]
  refine List.map_congr_left fun o ho => ?_; have hm := (List.mem_filter.1 ho).1; simp only [Function.comp, findO_apart ha hm, Option.getD_some, id]
 rw [e1]; refine List.filter_congr fun o ho => ?_; rw [Bool.eq_iff_iff]; unfold findO; rw [List.find?_isSome]
 constructor
 . intro hf; refine ⟨⟨o.t, (ruleOf rs o.t).s⟩, ?_, by simp⟩; unfold nakP; exact List.mem_map.2 ⟨o, List.mem_filter.2 ⟨ho, hf⟩, rfl⟩
 . rintro ⟨x, hx, hxt⟩; unfold nakP at hx; obtain ⟨q, hq, rfl⟩ := List.mem_map.1 hx; obtain ⟨hq1, hq2⟩ := List.mem_filter.1 hq; have : q = o := apart_eq ha hq1 ho (by simpa using hxt); rw [<- this]; exact hq2
def ansS (C : NegC) (naks : Int) (J : Int × List Opt) (l : List Opt) : Int × List Opt :=
 if J.1 = 3 /\ 0 < C.fl /\ C.fl <= naks then (4, backS l J.2) else J
def C0 (C : NegC) : NegC := { C with fl := 0 }
def cameR (C : NegC) (naks : Int) (p : Pk) : Came := ⟨true, p, (ansS C naks (judgeS C.peer p.o) p.o).1, (ansS C naks (judgeS C.peer p.o) p.o).2⟩
theorem sayS_no8 (rej : Pk -> ByteArray) (C C' : NegC) (st : NSt) (a : Int) (c c' : Came) (h : a ≠ 8) (h1 : c.is = c'.is) (h2 : c.p = c'.p) : sayS rej C st a c = sayS rej C' st a c' := by
 unfold sayS; rw [h1, h2, if_neg h, if_neg h]
theorem sayL_no8 (rej : Pk -> ByteArray) (C C' : NegC) (c c' : Came) (h1 : c.is = c'.is) (h2 : c.p = c'.p) : ∀ (l : List Int) (st : NSt), 8 ∉ l -> sayL rej C c st l = sayL rej C' c' st l := by
 intro l
 induction l with
 | nil => intro st _; rfl
 | cons a l ih =>
  intro st h; rw [List.mem_cons, not_or] at h; simp only [sayL]; rw [sayS_no8 rej C C' st a c c' (fun e => h.1 e.symm) h1 h2, ih _ h.2]
theorem sayS_naks (rej : Pk -> ByteArray) (C : NegC) (st : NSt) (a : Int) (c : Came) (h : a ≠ 8) : (sayS rej C st a c).1.naks = st.naks := by
 unfold sayS; rw [if_neg h]
 repeat' split
 all_goals rfl
theorem refuse_eq (C : NegC) (st : NSt) (p : Pk) : refuseS C st ⟨true, p, (judgeS C.peer p.o).1, (judgeS C.peer p.o).2⟩ = refuseS (C0 C) st (cameR C st.naks p) := by
 by_cases h3 : (judgeS C.peer p.o).1 = 3
 . by_cases hf : 0 < C.fl /\ C.fl <= st.naks
   . have e := backS_eq h3; unfold cameR ansS; rw [if_pos ⟨h3, hf⟩]; unfold refuseS; simp only
     rw [if_neg (by simpa using h3), if_pos hf, if_pos (by decide), e]
   . unfold cameR ansS; rw [if_neg (fun h => hf h.2)]; unfold refuseS; simp only
     rw [if_neg (by simpa using h3), if_neg hf, if_neg (by simpa using h3), if_neg (by simp [C0])]
 . unfold cameR ansS; rw [if_neg (fun h => h3 h.1)]; unfold refuseS; simp only
   rw [if_pos h3, if_pos h3]
theorem sayL_ref (rej : Pk -> ByteArray) (C : NegC) (p : Pk) (n : Int) : ∀ (l : List Int) (st : NSt), l.count 8 <= 1 -> st.naks = n ->
 sayL rej C ⟨true, p, (judgeS C.peer p.o).1, (judgeS C.peer p.o).2⟩ st l = sayL rej (C0 C) (cameR C n p) st l := by
 intro l
 induction l with
 | nil => intro st _ _; rfl
 | cons a l ih =>
  intro st h hn
  by_cases ha : a = 8
  . subst ha; rw [List.count_cons_self] at h; have h8 : (8 : Int) ∉ l := fun hm => by have := List.count_pos_iff.2 hm; omega
    have e : sayS rej C st 8 ⟨true, p, (judgeS C.peer p.o).1, (judgeS C.peer p.o).2⟩ = sayS rej (C0 C) st 8 (cameR C n p) := by
     show ((refuseS C st _).1, [(refuseS C st _).2]) = ((refuseS (C0 C) st _).1, [(refuseS (C0 C) st _).2])
     rw [refuse_eq, hn]
    simp only [sayL]; rw [e, sayL_no8 rej C (C0 C) ⟨true, p, (judgeS C.peer p.o).1, (judgeS C.peer p.o).2⟩ (cameR C n p) rfl rfl l _ h8]
  . rw [List.count_cons_of_ne ha] at h; simp only [sayL]; rw [sayS_no8 rej C (C0 C) st a ⟨true, p, (judgeS C.peer p.o).1, (judgeS C.peer p.o).2⟩ (cameR C n p) ha rfl rfl, ih _ h (by rw [sayS_naks _ _ _ _ _ ha]; exact hn)]
theorem wB_mem : ∀ (req l : List Opt), wB req l = true -> ∀ o ∈ l, o ∈ req := by
 intro req
 induction req with
 | nil =>
  intro l h o ho
  cases l with
  | nil => cases ho
  | cons x l => cases h
 | cons r req ih =>
  intro l h o ho
  cases l with
  | nil => cases ho
  | cons x l =>
   rw [wB] at h
   by_cases he : eqB r x = true
   . rw [if_pos he] at h
     rcases List.mem_cons.1 ho with rfl | ho
     . have : r = o := (eqB_iff r o).1 he; rw [this]; exact List.mem_cons_self ..
     . exact List.mem_cons_of_mem _ (ih l h o ho)
   . rw [if_neg he] at h; exact List.mem_cons_of_mem _ (ih (x :: l) h o ho)
def goneB (l : List Opt) (k : Int) : Bool := l.any fun x => x.t == k
theorem gone_must {req l : List Opt} (must : List Int) (h : wB req l = true) : (req.any fun x => goneB l x.t && hasB must x.t) = l.any fun o => hasB must o.t := by
 rw [Bool.eq_iff_iff, List.any_eq_true, List.any_eq_true]
 constructor
 . rintro ⟨x, hx, h2⟩; rw [Bool.and_eq_true] at h2; obtain ⟨o, ho, h3⟩ := List.any_eq_true.1 h2.1; have h3 : o.t = x.t := by simpa using h3
   exact ⟨o, ho, by rw [h3]; exact h2.2⟩
 . rintro ⟨o, ho, h2⟩; exact ⟨o, wB_mem _ _ h o ho, by rw [Bool.and_eq_true]; exact ⟨List.any_eq_true.2 ⟨o, ho, by simp⟩, h2⟩⟩
theorem gone_filter {req l : List Opt} (h : wB req l = true) (ha : Apart req) : (req.filter fun x => !goneB l x.t) = req.filter fun o => !(l.any (eqB o)) := by
 refine List.filter_congr fun x hx => ?_
 congr 1
 rw [Bool.eq_iff_iff]; unfold goneB; rw [List.any_eq_true, List.any_eq_true]
 constructor
 . rintro ⟨o, ho, h2⟩; have : o = x := apart_eq ha (wB_mem _ _ h o ho) hx (by simpa using h2); exact ⟨o, ho, by rw [this]; exact (eqB_iff x x).2 rfl⟩
 . rintro ⟨o, ho, h2⟩; have : x = o := (eqB_iff x o).1 h2; exact ⟨o, ho, by rw [this]; simp⟩
def nakOne (C : NegC) (o x : Opt) : List Opt :=
 if x.t = o.t then (if (findR C.own o.t).isSome && fitsR (ruleOf C.own o.t) o.v then [⟨x.t, o.v⟩] else if hasB C.must o.t then [x] else []) else [x]
def nakR (C : NegC) (req : List Opt) (o : Opt) : List Opt := req.flatMap (nakOne C o)
theorem nakR_no (C : NegC) (o : Opt) : ∀ (req : List Opt), (∀ x ∈ req, x.t ≠ o.t) -> nakR C req o = req := by
 intro req
 induction req with
 | nil => intro _; rfl
 | cons x req ih =>
  intro h; unfold nakR at ih ⊢; rw [List.flatMap_cons, ih (fun y hy => h y (List.mem_cons_of_mem _ hy))]; unfold nakOne; rw [if_neg (h x (List.mem_cons_self ..))]; rfl
theorem nakR_eq (C : NegC) (o : Opt) : ∀ (req : List Opt), Apart req -> nakR C req o = nameOne C req o := by
 intro req
 induction req with
 | nil => intro _; rfl
 | cons x req ih =>
  intro h; have h' := List.pairwise_cons.1 h
  by_cases he : x.t = o.t
  . have hi : idxP (fun x => x.t == o.t) (x :: req) = 0 := by
     have hx : (x.t == o.t) = true := by simpa using he
     unfold idxP; rw [List.findIdx?_cons, hx]; rfl
    have hr := nakR_no C o req (fun y hy e => h'.1 y hy (he.trans e.symm)); unfold nakR at hr ⊢; unfold nameOne; rw [List.flatMap_cons, hr, hi, if_neg (by decide)]; unfold nakOne; rw [if_pos he]
    split
    . simp [he]
    . split <;> simp
  . have hr := ih h'.2; unfold nakR at hr ⊢; rw [List.flatMap_cons, hr]; unfold nakOne; rw [if_neg he]; have hx : (x.t == o.t) = false := by simpa using he
    unfold nameOne idxP; rw [List.findIdx?_cons, hx]
    cases hf : req.findIdx? (fun x => x.t == o.t) with
    | none => simp
    | some i =>
     have hi : ¬ ((i : Int) < 0) := by omega
     have hi' : ¬ (((i + 1 : Nat) : Int) < 0) := by omega
     simp only [Option.map_some, Bool.false_eq_true, if_false, if_neg hi, if_neg hi', Int.toNat_natCast]
     split
     . simp
     . split
       . simp
       . simp
theorem nakR_sub (C : NegC) (o : Opt) : ∀ (req : List Opt), ((nakR C req o).map Opt.t).Sublist (req.map Opt.t) := by
 intro req
 induction req with
 | nil => exact .slnil
 | cons x req ih =>
  unfold nakR at ih ⊢; rw [List.flatMap_cons, List.map_append, List.map_cons]; generalize List.flatMap (nakOne C o) req = r at *; unfold nakOne
  split
  . split
    . exact ih.cons_cons x.t
    . split
      . exact ih.cons_cons x.t
      . exact ih.cons x.t
  . exact ih.cons_cons x.t
theorem apart_map (l : List Opt) : Apart l ↔ (l.map Opt.t).Pairwise (· ≠ ·) := by
 unfold Apart; rw [List.pairwise_map]
theorem nakR_apart (C : NegC) (o : Opt) (req : List Opt) (h : Apart req) : Apart (nakR C req o) := by
 rw [apart_map] at h ⊢; exact h.sublist (nakR_sub C o req)
theorem nakR_len (C : NegC) (o : Opt) (req : List Opt) : (nakR C req o).length <= req.length := by
 have := (nakR_sub C o req).length_le
 simpa using this
theorem nakR_snoc (C : NegC) (l : List Opt) (x o : Opt) : nakR C (l ++ [x]) o = nakR C l o ++ nakOne C o x := by
 unfold nakR; rw [List.flatMap_append, List.flatMap_cons, List.flatMap_nil, List.append_nil]
theorem nakAll (C : NegC) : ∀ (l req : List Opt), Apart req -> l.foldl (nameOne C) req = l.foldl (nakR C) req /\ Apart (l.foldl (nakR C) req) := by
 intro l
 induction l with
 | nil => intro req h; exact ⟨rfl, h⟩
 | cons o l ih =>
  intro req h; simp only [List.foldl_cons]; rw [<- nakR_eq C o req h]; exact ih _ (nakR_apart C o req h)
theorem filter_apart {l : List Opt} (h : Apart l) (p : Opt -> Bool) : Apart (l.filter p) := h.sublist List.filter_sublist
structure RX where
 s0 : Value
 own : Value
 peer : Value
 must : Value
 ask : Value
 mine : Value
 theirs : Value
def rnP (X : RX) (C : NegC) (st : NSt) : NegP8 :=
 {
  a0 := X.s0, a1 := X.own, a2 := X.peer, a3 := X.must, a4 := .int .i64 C.cf, a5 := .int .i64 C.tm, a6 := .int .i64 C.fl, a7 := .int .i64 C.wt, z0 := X.ask, z1 := .int .i64 st.id, z2 := .int .i64 st.asked, z3 := .int .i64 st.naks,
  z4 := .int .i64 st.ticks, z5 := X.mine, z6 := X.theirs, z7 := .int .i64 st.ups, z8 := .int .i64 st.downs, z9 := .pointer none }
def RX.has (X : RX) (g : Nat) : Prop := X.own.ownBlock = some g \/ X.peer.ownBlock = some g \/ X.must.ownBlock = some g \/ X.ask.ownBlock = some g \/ X.mine.ownBlock = some g \/ X.theirs.ownBlock = some g
structure RNAt (w : World) (S : Nat -> Prop) (b : Nat) (C : NegC) (st : NSt) (X : RX) : Prop where
 blk : RA8 w b (rnP X C st) st.s st.c C.cf C.tm
 own : BRow 64 5 w X.own C.own.length (rV C.own)
 peer : BRow 64 5 w X.peer C.peer.length (rV C.peer)
 must : BRow 3 1 w X.must C.must.length (iV C.must)
 ask : BRow 91 2 w X.ask st.req.length (oV st.req)
 mine : BRow 91 2 w X.mine st.mine.length (oV st.mine)
 theirs : BRow 91 2 w X.theirs st.theirs.length (oV st.theirs)
 bk : ∀ g, X.has g -> S g /\ g ≠ b
 sb : S b
 ok : C.Ok
 id : 0 <= st.id /\ st.id < 256
 ib : InB st.c
 ss : 0 <= st.s /\ st.s <= 9
 lr : st.req.length <= 30
 lm : st.mine.length <= 1000
 lt : st.theirs.length <= 1000
 ap : Apart st.req
def RNV (w : World) (S : Nat -> Prop) (b : Nat) (C : NegC) (st : NSt) : Prop := ∃ X, RNAt w S b C st X
section
variable {w w' : World} {S S' T : Nat -> Prop} {b : Nat} {C : NegC} {st st' : NSt} {X X' : RX}
theorem RNAt.cell (h : RNAt w S b C st X) (o : Nat) : w.cell? ⟨b, o, none⟩ = (#[X.s0, X.own, X.peer, X.must, .int .i64 C.cf, .int .i64 C.tm, .int .i64 C.fl, .int .i64 C.wt, .int .i64 C.cf, .int .i64 C.tm, .int .i64 st.s, .int .i64 st.c, X.ask, .int .i64 st.id, .int .i64 st.asked, .int .i64 st.naks, .int .i64 st.ticks, X.mine, X.theirs, .int .i64 st.ups, .int .i64 st.downs, .pointer none] : Array Value)[o]? := cell_of_block h.blk o
theorem RNAt.fz (h : RNAt w S b C st X) (o : Nat) : w.frozen? ⟨b, o, none⟩ = false := h.blk.fz o
theorem RNAt.blt (h : RNAt w S b C st X) : b < w.heap.size := h.blk.lt
theorem RNAt.keep (h : RNAt w S b C st X) (hk : Keep T w w') (hT : ∀ g, g < w.heap.size -> S g -> ¬ T g) : RNAt w' S b C st X :=
 { h with
  blk := h.blk.keep hk (hT _ h.blt h.sb)
  own := h.own.keep hk (fun g hg => hT g (h.own.lt g hg) (h.bk g (.inl hg)).1)
  peer := h.peer.keep hk (fun g hg => hT g (h.peer.lt g hg) (h.bk g (.inr (.inl hg))).1)
  must := h.must.keep hk (fun g hg => hT g (h.must.lt g hg) (h.bk g (.inr (.inr (.inl hg)))).1)
  ask := h.ask.keep hk (fun g hg => hT g (h.ask.lt g hg) (h.bk g (.inr (.inr (.inr (.inl hg))))).1)
  mine := h.mine.keep hk (fun g hg => hT g (h.mine.lt g hg) (h.bk g (.inr (.inr (.inr (.inr (.inl hg)))))).1)
  theirs := h.theirs.keep hk (fun g hg => hT g (h.theirs.lt g hg) (h.bk g (.inr (.inr (.inr (.inr (.inr hg)))))).1) }
theorem RNAt.below (h : RNAt w S b C st X) (hb : Below w.heap.size w w') : RNAt w' S b C st X := h.keep (Keep.of_below (fun _ => False) hb) (fun _ _ _ h => h)
theorem RNAt.mono (h : RNAt w S b C st X) (hS : ∀ g, S g -> S' g) : RNAt w S' b C st X := { h with bk := fun g hg => ⟨hS g (h.bk g hg).1, (h.bk g hg).2⟩, sb := hS _ h.sb }
theorem RNAt.old (h : RNAt w S b C st X) : RNAt w (fun g => S g /\ g < w.heap.size) b C st X :=
 { h with
  bk := fun g hg => ⟨⟨(h.bk g hg).1, by
   rcases hg with hg | hg | hg | hg | hg | hg
   . exact h.own.lt g hg
   . exact h.peer.lt g hg
   . exact h.must.lt g hg
   . exact h.ask.lt g hg
   . exact h.mine.lt g hg
   . exact h.theirs.lt g hg⟩, (h.bk g hg).2⟩
  sb := ⟨h.sb, h.blt⟩ }
theorem RNAt.turn (h : RNAt w S b C st X) (hk : Keep (· = b) w w') (hb : RA8 w' b (rnP X C st') st'.s st'.c C.cf C.tm)
 (hs : st'.req = st.req /\ st'.mine = st.mine /\ st'.theirs = st.theirs) (hid : 0 <= st'.id /\ st'.id < 256 := by exact h.id) (hib : InB st'.c := by exact h.ib) (hss : 0 <= st'.s /\ st'.s <= 9 := by exact h.ss) : RNAt w' S b C st' X := by
 obtain ⟨e1, e2, e3⟩ := hs
 exact {
  blk := hb
  own := h.own.keep hk (fun g hg he => (h.bk g (.inl hg)).2 he)
  peer := h.peer.keep hk (fun g hg he => (h.bk g (.inr (.inl hg))).2 he)
  must := h.must.keep hk (fun g hg he => (h.bk g (.inr (.inr (.inl hg)))).2 he)
  ask := by rw [e1]; exact h.ask.keep hk (fun g hg he => (h.bk g (.inr (.inr (.inr (.inl hg))))).2 he)
  mine := by rw [e2]; exact h.mine.keep hk (fun g hg he => (h.bk g (.inr (.inr (.inr (.inr (.inl hg)))))).2 he)
  theirs := by rw [e3]; exact h.theirs.keep hk (fun g hg he => (h.bk g (.inr (.inr (.inr (.inr (.inr hg)))))).2 he)
  bk := h.bk
  sb := h.sb
  ok := h.ok
  id := hid
  ib := hib
  ss := hss
  lr := by rw [e1]; exact h.lr
  lm := by rw [e2]; exact h.lm
  lt := by rw [e3]; exact h.lt
  ap := by rw [e1]; exact h.ap }
theorem keepR (b : Nat) (w : World) (o : Nat) (v : Value) : Keep (· = b) w (w.setCell ⟨b, o, none⟩ v) := (Keep.refl (· = b) w).setCell ⟨b, o, none⟩ (Or.inr rfl) v
theorem RNAt.sTicks (h : RNAt w S b C st X) (n : Int) : RNAt (w.setCell ⟨b, 16, none⟩ (.int .i64 n)) S b C { st with ticks := n } X := h.turn (keepR b w 16 _) (set_block h.blk 16 _) ⟨rfl, rfl, rfl⟩
theorem RNAt.sLast (h : RNAt w S b C st X) (n : Int) : RNAt (w.setCell ⟨b, 14, none⟩ (.int .i64 n)) S b C { st with asked := n } X := h.turn (keepR b w 14 _) (set_block h.blk 14 _) ⟨rfl, rfl, rfl⟩
theorem RNAt.sNaks (h : RNAt w S b C st X) (n : Int) : RNAt (w.setCell ⟨b, 15, none⟩ (.int .i64 n)) S b C { st with naks := n } X := h.turn (keepR b w 15 _) (set_block h.blk 15 _) ⟨rfl, rfl, rfl⟩
theorem RNAt.sUps (h : RNAt w S b C st X) (n : Int) : RNAt (w.setCell ⟨b, 19, none⟩ (.int .i64 n)) S b C { st with ups := n } X := h.turn (keepR b w 19 _) (set_block h.blk 19 _) ⟨rfl, rfl, rfl⟩
theorem RNAt.sDowns (h : RNAt w S b C st X) (n : Int) : RNAt (w.setCell ⟨b, 20, none⟩ (.int .i64 n)) S b C { st with downs := n } X := h.turn (keepR b w 20 _) (set_block h.blk 20 _) ⟨rfl, rfl, rfl⟩
theorem RNAt.sTheirs (h : RNAt w S b C st X) (v : Value) (l : List Opt) (hv : BRow 91 2 w v l.length (oV l)) (hl : l.length <= 1000) (hb : ∀ g, v.ownBlock = some g -> S g /\ g ≠ b) : RNAt (w.setCell ⟨b, 18, none⟩ v) S b C { st with theirs := l } { X with theirs := v } := by
 have hk := keepR b w 18 v
 exact { h with
  blk := set_block h.blk 18 v
  own := h.own.keep hk (fun g hg he => (h.bk g (.inl hg)).2 he)
  peer := h.peer.keep hk (fun g hg he => (h.bk g (.inr (.inl hg))).2 he)
  must := h.must.keep hk (fun g hg he => (h.bk g (.inr (.inr (.inl hg)))).2 he)
  ask := h.ask.keep hk (fun g hg he => (h.bk g (.inr (.inr (.inr (.inl hg))))).2 he)
  mine := h.mine.keep hk (fun g hg he => (h.bk g (.inr (.inr (.inr (.inr (.inl hg)))))).2 he)
  theirs := hv.keep hk (fun g hg he => (hb g hg).2 he)
  bk := fun g hg => by
   rcases hg with hg | hg | hg | hg | hg | hg
   . exact h.bk g (.inl hg)
   . exact h.bk g (.inr (.inl hg))
   . exact h.bk g (.inr (.inr (.inl hg)))
   . exact h.bk g (.inr (.inr (.inr (.inl hg))))
   . exact h.bk g (.inr (.inr (.inr (.inr (.inl hg)))))
   . exact hb g hg
  lt := hl }
theorem RNAt.sMine (h : RNAt w S b C st X) (v : Value) (l : List Opt) (hv : BRow 91 2 w v l.length (oV l)) (hl : l.length <= 1000) (hb : ∀ g, v.ownBlock = some g -> S g /\ g ≠ b) : RNAt (w.setCell ⟨b, 17, none⟩ v) S b C { st with mine := l } { X with mine := v } := by
 have hk := keepR b w 17 v
 exact { h with
  blk := set_block h.blk 17 v
  own := h.own.keep hk (fun g hg he => (h.bk g (.inl hg)).2 he)
  peer := h.peer.keep hk (fun g hg he => (h.bk g (.inr (.inl hg))).2 he)
  must := h.must.keep hk (fun g hg he => (h.bk g (.inr (.inr (.inl hg)))).2 he)
  ask := h.ask.keep hk (fun g hg he => (h.bk g (.inr (.inr (.inr (.inl hg))))).2 he)
  mine := hv.keep hk (fun g hg he => (hb g hg).2 he)
  theirs := h.theirs.keep hk (fun g hg he => (h.bk g (.inr (.inr (.inr (.inr (.inr hg)))))).2 he)
  bk := fun g hg => by
   rcases hg with hg | hg | hg | hg | hg | hg
   . exact h.bk g (.inl hg)
   . exact h.bk g (.inr (.inl hg))
   . exact h.bk g (.inr (.inr (.inl hg)))
   . exact h.bk g (.inr (.inr (.inr (.inl hg))))
   . exact hb g hg
   . exact h.bk g (.inr (.inr (.inr (.inr (.inr hg)))))
  lm := hl }
theorem RNAt.sAsk (h : RNAt w S b C st X) (v : Value) (l : List Opt) (hv : BRow 91 2 w v l.length (oV l)) (hl : l.length <= 30) (ha : Apart l) (hb : ∀ g, v.ownBlock = some g -> S g /\ g ≠ b) : RNAt (w.setCell ⟨b, 12, none⟩ v) S b C { st with req := l } { X with ask := v } := by
 have hk := keepR b w 12 v
 exact { h with
  blk := set_block h.blk 12 v
  own := h.own.keep hk (fun g hg he => (h.bk g (.inl hg)).2 he)
  peer := h.peer.keep hk (fun g hg he => (h.bk g (.inr (.inl hg))).2 he)
  must := h.must.keep hk (fun g hg he => (h.bk g (.inr (.inr (.inl hg)))).2 he)
  ask := hv.keep hk (fun g hg he => (hb g hg).2 he)
  mine := h.mine.keep hk (fun g hg he => (h.bk g (.inr (.inr (.inr (.inr (.inl hg)))))).2 he)
  theirs := h.theirs.keep hk (fun g hg he => (h.bk g (.inr (.inr (.inr (.inr (.inr hg)))))).2 he)
  bk := fun g hg => by
   rcases hg with hg | hg | hg | hg | hg | hg
   . exact h.bk g (.inl hg)
   . exact h.bk g (.inr (.inl hg))
   . exact h.bk g (.inr (.inr (.inl hg)))
   . exact hb g hg
   . exact h.bk g (.inr (.inr (.inr (.inr (.inl hg)))))
   . exact h.bk g (.inr (.inr (.inr (.inr (.inr hg)))))
  lr := hl
  ap := ha }
theorem RNAt.auto (h : RNAt w S b C st X) (hk : Keep (· = b) w w') (s c : Int) (ha : RA8 w' b (rnP X C st) s c C.cf C.tm) (hc : InB c) (hs : 0 <= s /\ s <= 9) : RNAt w' S b C { st with s := s, c := c } X :=
 h.turn (st' := { st with s := s, c := c }) hk ha ⟨rfl, rfl, rfl⟩ h.id hc hs
theorem rnext_at (h : RNAt w S b C st X) :
 Calls Tryz.prog 228 #[.pointer (some ⟨b, 0, none⟩)] w fun e w' => e = .returned (.int .i64 (nid st.id)) /\ RNAt w' S b C { st with id := nid st.id } X /\ Keep (· = b) w w' := by
 refine (next8_any b _ st.s st.c C.cf C.tm st.id w h.blk rfl h.id.1 (by have := h.id; omega)).mono ?_; rintro e w' ⟨rfl, h1, h2⟩; exact ⟨rfl, h.turn h2 h1 ⟨rfl, rfl, rfl⟩ (nid_bd _), h2⟩
theorem brow_opts {v : Value} {l : List Opt} (h : BRow 91 2 w v l.length (oV l)) (hl : l.length <= 1000000) : Opts w (fun g => v.ownBlock = some g) v l := by
 have h1 : Opts w (fun _ => True) v l := Rec.mono (ORow.opts (B := 0) h (by unfold maxLen; omega)) (fun _ _ => trivial); obtain ⟨h0, sa, c, hv, hc, hm, h | ⟨b, off, hs, hb, _, hr⟩⟩ := h1
 . exact ⟨h0, sa, c, hv, hc, hm, .inl h⟩
 . exact ⟨h0, sa, c, hv, hc, hm, .inr ⟨b, off, hs, hb, by rw [hv, hs]; rfl, hr⟩⟩
end
def RNPost (w w' : World) (S ok : Nat -> Prop) (b : Nat) (C : NegC) (r : NSt × List Pk) (e : Ending) : Prop :=
 ∃ v L, e = .returned v /\ L.map Prod.fst = r.2 /\ PkR w' (Grow ok w) v L /\ RNV w' (Grow S w) b C r.1 /\ Keep (· = b) w w'
structure CameR (w : World) (b : Nat) (ok : Nat -> Prop) (c : Came) (pv pa : Value) : Prop where
 a : Opts w ok pa c.ans
 ak : ∀ g, ok g -> g ≠ b
 al : c.ans.length <= 1000
 pl : c.p.o.length <= 1000
 pz : ∀ o ∈ c.p.o, o.v.size <= 100000
 pd : c.p.d.size <= 100000000
 p : (c.is = false /\ pv = .pointer none) \/ (c.is = true /\ ∃ px po okp, pv = .pointer (some ⟨px, 0, none⟩) /\ px ≠ b /\ w.heap[px]? = some (.cells #[.int .i64 c.p.code, .int .i64 c.p.id, po, .string c.p.d] 93 (0, 0)) /\
  Opts w okp po c.p.o /\ (∀ g, okp g -> g ≠ b) /\ (∀ n k, po = .slice none n k -> k = 0))
theorem CameR.keep {w w' : World} {b : Nat} {ok : Nat -> Prop} {c : Came} {pv pa : Value} (h : CameR w b ok c pv pa) (hk : Keep (· = b) w w') : CameR w' b ok c pv pa :=
 { h with
  a := Rec.keep h.a hk (fun g _ hg => h.ak g hg)
  p := by
   rcases h.p with h1 | ⟨h1, px, po, okp, h2, h3, h4, h5, h6, h7⟩
   . exact .inl h1
   . exact .inr ⟨h1, px, po, okp, h2, h3, (hk.block px (Array.getElem?_eq_some_iff.1 h4).1 h3).trans h4, Rec.keep h5 hk (fun g _ hg => h6 g hg), h6, h7⟩ }
structure SentI (w wr : World) (S ok : Nat -> Prop) (b : Nat) (C : NegC) (r : NSt × List Pk) (out : Value) (L : List (Pk × Value)) (X : RX) : Prop where
 e : L.map Prod.fst = r.2
 row : BRow 93 4 wr out L.length (pkL L).flatten
 of : ∀ g, out.ownBlock = some g -> w.heap.size <= g
 o : ∀ p ∈ L, Opts wr (fun g => ((ok g /\ g < w.heap.size) \/ w.heap.size <= g) /\ g ≠ b /\ out.ownBlock ≠ some g) p.2 p.1.o
 m : ∀ p ∈ L, p.1.o.length <= 1000
 at' : RNAt wr (fun g => Grow S w g /\ out.ownBlock ≠ some g) b C r.1 X
 kp : Keep (· = b) w wr
 blt : b < w.heap.size
section
variable {w wr w' w5 : World} {S ok : Nat -> Prop} {b : Nat} {C : NegC} {r : NSt × List Pk} {s' : NSt} {out out' : Value} {L : List (Pk × Value)} {X X' : RX}
theorem SentI.nb (h : SentI w wr S ok b C r out L X) : out.ownBlock ≠ some b := fun he => by have := h.of b he; have := h.blt; omega
theorem SentI.st (h : SentI w wr S ok b C r out L X) (hk : Keep (· = b) wr w') (ha : RNAt w' (fun g => Grow S w g /\ out.ownBlock ≠ some g) b C s' X') : SentI w w' S ok b C (s', r.2) out L X' :=
 { h with
  row := h.row.keep hk (fun g hg he => h.nb (he ▸ hg))
  o := fun p hp => Rec.keep (h.o p hp) hk (fun g _ hg he => hg.2.1 he)
  at' := ha
  kp := h.kp.trans hk }
theorem SentI.below (h : SentI w wr S ok b C r out L X) (hb : Below wr.heap.size wr w') : SentI w w' S ok b C r out L X :=
 { h with
  row := h.row.below hb
  o := fun p hp => Rec.keep (h.o p hp) (Keep.of_below (fun _ => False) hb) (fun _ _ _ h => h)
  at' := h.at'.below hb
  kp := h.kp.trans (Keep.of_below _ hb) }
theorem SentI.app {p : Pk} {po : Value} {n : Nat} (h : SentI w wr S ok b C r out L X) (hr : BRow 93 4 w' out' n ((pkL L).flatten ++ pkCells (p, po))) (hn : n = L.length + 1) (hk : Keep (fun g => out.ownBlock = some g) wr w')
 (ho : out.ownBlock = out'.ownBlock \/ out'.ownBlock = some wr.heap.size) (hp : Opts wr (fun g => ((ok g /\ g < w.heap.size) \/ w.heap.size <= g) /\ g ≠ b /\ out.ownBlock ≠ some g) po p.o) (hm : p.o.length <= 1000) : SentI w w' S ok b C (r.1, r.2 ++ [p]) out' (L ++ [(p, po)]) X := by
 subst hn
 have hx : ∀ g, g < wr.heap.size -> out.ownBlock ≠ some g -> out'.ownBlock ≠ some g := fun g hg hn he => by
  rcases ho with ho | ho
  . exact hn (ho.trans he)
  . rw [ho] at he; cases he; omega
 have hq : ∀ (q : Pk × Value), Opts wr (fun g => ((ok g /\ g < w.heap.size) \/ w.heap.size <= g) /\ g ≠ b /\ out.ownBlock ≠ some g) q.2 q.1.o -> Opts w' (fun g => ((ok g /\ g < w.heap.size) \/ w.heap.size <= g) /\ g ≠ b /\ out'.ownBlock ≠ some g) q.2 q.1.o := fun q hq =>
  Rec.mono (Rec.keep (Rec.old hq) hk (fun g _ hg he => hg.1.2.2 he)) (fun g hg => ⟨hg.1.1, hg.1.2.1, hx g hg.2 hg.1.2.2⟩)
 refine {
  e := by rw [List.map_append, h.e]; rfl
  row := by
   rw [pkL_app, List.length_append]; have : (pkL [(p, po)]).flatten = pkCells (p, po) := by simp [pkL]
   rw [this]; exact hr
  of := fun g hg => by
   rcases ho with ho | ho
   . exact h.of g (ho.trans hg)
   . rw [ho] at hg; cases hg; exact h.kp.size
  o := fun q hq' => by
   rcases List.mem_append.1 hq' with hq' | hq'
   . exact hq q (h.o q hq')
   . obtain rfl := List.mem_singleton.1 hq'; exact hq (p, po) hp
  m := fun q hq' => by
   rcases List.mem_append.1 hq' with hq' | hq'
   . exact h.m q hq'
   . obtain rfl := List.mem_singleton.1 hq'; exact hm
  at' := (h.at'.old.keep hk (fun g _ hg he => hg.1.2 he)).mono (fun g hg => ⟨hg.1.1, hx g hg.2 hg.1.2⟩)
  kp := h.kp.transM hk (fun _ _ h => h) (fun g hg he => by have := h.of g he; omega)
  blt := h.blt }
theorem SentI.news (h : SentI w wr S ok b C r out L X) {po : Value} {l : List Opt} (hb : Below wr.heap.size wr w') (hv : BRow 91 2 w' po l.length (oV l)) (hl : l.length <= 1000000) (hf : ∀ g, po.ownBlock = some g -> wr.heap.size <= g) :
 Opts w' (fun g => ((ok g /\ g < w.heap.size) \/ w.heap.size <= g) /\ g ≠ b /\ out.ownBlock ≠ some g) po l :=
 Rec.mono (brow_opts hv hl) (fun g hg => by
  have h1 := hf g hg; have h2 := h.kp.size; have h3 := h.blt
  exact ⟨.inr (by omega), by omega, fun he => by have := h.row.lt g he; omega⟩)
end
theorem rec_own {k : Nat} {w : World} {ok : Nat -> Prop} {v : Value} {xs : List (List Value)} (h : Rec k w ok v xs) : Rec k w (fun g => v.ownBlock = some g) v xs := by
 obtain ⟨h0, sa, c, hv, hc, hm, h | ⟨b, off, hs, hb, _, hr⟩⟩ := h
 . exact ⟨h0, sa, c, hv, hc, hm, .inl h⟩
 . exact ⟨h0, sa, c, hv, hc, hm, .inr ⟨b, off, hs, hb, by rw [hv, hs]; rfl, hr⟩⟩
theorem refuse_C0 (C : NegC) (st : NSt) (c : Came) : refuseS (C0 C) st c = ((if c.code = 3 then { st with naks := wrap64 (st.naks + 1) } else st), ⟨c.code, c.p.id, c.ans, noB⟩) := by
 unfold refuseS
 by_cases h : c.code = 3
 . rw [if_neg (by simpa using h), if_neg (by simp [C0]), if_pos h]
 . rw [if_pos h, if_neg h]
theorem rej_long (p : Pk) (h : 1488 < (putPk p).1.size) : rejS p = (putPk p).1.extract 0 1488 := by
 have h0 : (putPk p).2 = 0 := by
  unfold putPk at h ⊢
  split at h
  . exact absurd (show 1488 < noB.size from h) (by decide)
  . rename_i h1
    split at h
    . exact absurd (show 1488 < noB.size from h) (by decide)
    . rename_i h2
      split at h
      . exact absurd (show 1488 < noB.size from h) (by decide)
      . rename_i h3
        rw [if_neg h1, if_neg h2, if_neg h3]
 unfold rejS; rw [if_pos h0]
 congr 1
 have : min ((putPk p).1.size : Int) 1488 = 1488 := by omega
 rw [this]; rfl
theorem rej_short (p : Pk) (h : ¬ 1488 < (putPk p).1.size) : rejS p = (putPk p).1 := by
 unfold rejS
 by_cases h0 : (putPk p).2 = 0
 . rw [if_pos h0]; have : (min ((putPk p).1.size : Int) 1488).toNat = (putPk p).1.size := by omega
   rw [this]; exact ByteArray.extract_zero_size
 . rw [if_neg h0]; unfold putPk at h0 ⊢
   split
   . rfl
   . split
     . rfl
     . split
       . rfl
       . rename_i h1 h2 h3; rw [if_neg h1, if_neg h2, if_neg h3] at h0; exact absurd rfl h0
theorem sayL_take (rej : Pk -> ByteArray) (C : NegC) (c : Came) (st : NSt) (xs : List Int) (k : Nat) (hk : k < xs.length) :
 sayL rej C c st (xs.take (k + 1)) = ((sayS rej C (sayL rej C c st (xs.take k)).1 xs[k] c).1, (sayL rej C c st (xs.take k)).2 ++ (sayS rej C (sayL rej C c st (xs.take k)).1 xs[k] c).2) := by
 rw [List.take_succ_eq_append_getElem hk, sayL_snoc]
set_option maxRecDepth 100000 in
theorem sent9_at {w : World} {S ok : Nat -> Prop} {b : Nat} {C : NegC} {st : NSt} {X : RX} (xs : List Int) (lv : Value) (c : Came) (pv pa : Value) (hx : RowR w lv xs.length (iV xs)) (hxb : ∀ g, lv.ownBlock = some g -> g ≠ b) (hlen : xs.length <= 20)
 (hxs : ∀ a ∈ xs, 0 <= a /\ a <= 12 /\ (c.is = false -> a ≠ 7 /\ a ≠ 8 /\ a ≠ 11)) (h : RNAt w S b C st X) (hc : CameR w b ok c pv pa) :
 Calls Tryz.prog 162 #[.pointer (some ⟨b, 0, none⟩), lv, pv, .agg #[.int .i64 c.code, pa]] w fun e w' => RNPost w w' S ok b C (sayL rejS (C0 C) c st xs) e := by
 obtain ⟨la, lc, rfl, hlc, hlm⟩ := hx.form; obtain ⟨sa, ka, rfl, hka, hkm⟩ := hc.a.form; obtain ⟨len, hln⟩ : ∃ len, len = xs.length := ⟨_, rfl⟩; have HLN := H_ hln; have hb1 := b1 w (.cells #[.int .i64 c.code, .slice sa c.ans.length ka] 186 (0, 0)); have hz1 : (w.alloc (.cells #[.int .i64 c.code, .slice sa c.ans.length ka] 186 (0, 0))).heap[w.heap.size]? = some _ := heap_alloc_new w _; have hs1 : (w.alloc (.cells #[.int .i64 c.code, .slice sa c.ans.length ka] 186 (0, 0))).heap.size = w.heap.size + 1 := alloc1 _ _; have HX := H_ (A_ (hx.below hb1) (A_ hxb hxs)); have H := H_ (A_ (h.below hb1) (A_ (hc.keep (Keep.of_below _ hb1)) (A_ hz1 (A_ hb1 hs1)))); have hblt := h.blt; rw [<- hln] at hlc hlen ⊢; clear hln hx hxb hxs h hc hb1 hz1; go_enter Tryz.func162, Tryz.ntmps162; go_wp2_with fail; generalize w.alloc (.cells #[.int .i64 c.code, .slice sa c.ans.length ka] 186 (0, 0)) = w1 at *
 go_loopg [9, 10] len (fun x out i wr => ∃ k : Nat, k <= len /\ x = len - k /\ i = .int .i64 k /\ Hid (∃ L X', SentI w1 wr S ok b C (sayL rejS (C0 C) c st (xs.take k)) out L X'))
 case atStart => exact ⟨0, by omega, by omega, rfl, [], X, rfl, BRow.nil _ _ _, fun _ h => (by cases h), fun _ h => (by cases h), fun _ h => (by cases h), H.out.1.mono (fun g hg => ⟨.inl hg, fun h => (by cases h)⟩), Keep.refl _ _, by omega⟩
 case round =>
  obtain ⟨k, hk, rfl, rfl, hK⟩ := hrel; obtain ⟨L, X', hI⟩ := hK.out; have HI := H_ hI; obtain ⟨so, co, rfl, hco, -⟩ := hI.row.form
  have hll : L.length <= 20 := by
   have h1 := sayL_len rejS (C0 C) c (xs.take k) st; have h2 := congrArg List.length hI.e; rw [List.length_map] at h2; rw [List.length_take] at h1; omega
  have hsz := hI.kp.size; clear hK hI
  by_cases hkl : k < len
  . have hkx : k < xs.length := by have := HLN.out; omega
    obtain ⟨lb, rfl, hlb, c0⟩ := HX.out.1.at k (by rw [iV_len]; exact hkx)
    have d0 : wr.cell? ⟨lb, k, none⟩ = some (.int .i64 xs[k]) := by
     refine (HI.out.kp.cell (p := ⟨lb, k, none⟩) hlb (HX.out.2.1 lb rfl)).trans (c0.trans ?_); simp [iV]
    have hax := HX.out.2.2 xs[k] (List.getElem_mem hkx); have HT := H_ (sayL_take rejS (C0 C) c st xs k hkx); have HC := H_ (H.out.2.1.keep HI.out.kp); have hzr := (HI.out.kp.block w.heap.size (Array.getElem?_eq_some_iff.1 H.out.2.2.1).1 (by omega)).trans H.out.2.2.1; have HZ := H_ hzr; clear c0 hzr; generalize xs[k] = a at *; generalize sayL rejS (C0 C) c st (xs.take k) = rk at *; obtain ⟨rs, rp⟩ := rk; have hcase : a = 0 \/ a = 1 \/ a = 2 \/ a = 3 \/ a = 4 \/ a = 5 \/ a = 6 \/ a = 7 \/ a = 8 \/ a = 9 \/ a = 10 \/ a = 11 \/ a = 12 := by omega
    rcases hcase with rfl | rfl | rfl | rfl | rfl | rfl | rfl | rfl | rfl | rfl | rfl | rfl | rfl
    . have e1 : wr.cell? ⟨b, 19, none⟩ = some (.int .i64 rs.ups) := HI.out.at'.cell 19; have f1 := HI.out.at'.fz 19; have H2 := H_ (HI.out.st (keepR b wr 19 _) (HI.out.at'.sUps (wrap64 (rs.ups + 1)))); go_wp2_with fail
      go_roundg (len - (k + 1))
      case measure => omega
      case rel => exact ⟨k + 1, by omega, rfl, by go_num, L, X', by rw [HT.out]; have := H2.out; rw [<- List.append_nil rp] at this; exact this⟩
    . have e1 : wr.cell? ⟨b, 20, none⟩ = some (.int .i64 rs.downs) := HI.out.at'.cell 20; have f1 := HI.out.at'.fz 20; have H2 := H_ (HI.out.st (keepR b wr 20 _) (HI.out.at'.sDowns (wrap64 (rs.downs + 1)))); go_wp2_with fail
      go_roundg (len - (k + 1))
      case measure => omega
      case rel => exact ⟨k + 1, by omega, rfl, by go_num, L, X', by rw [HT.out]; have := H2.out; rw [<- List.append_nil rp] at this; exact this⟩
    . go_wp2_with fail
      go_roundg (len - (k + 1))
      case measure => omega
      case rel => exact ⟨k + 1, by omega, rfl, by go_num, L, X', by rw [HT.out]; have := HI.out; rw [<- List.append_nil rp] at this; exact this⟩
    . go_wp2_with fail
      go_roundg (len - (k + 1))
      case measure => omega
      case rel => exact ⟨k + 1, by omega, rfl, by go_num, L, X', by rw [HT.out]; have := HI.out; rw [<- List.append_nil rp] at this; exact this⟩
    . go_wp2_with fail
      go_roundg (len - (k + 1))
      case measure => omega
      case rel => exact ⟨k + 1, by omega, rfl, by go_num, L, X', by rw [HT.out]; have := HI.out; rw [<- List.append_nil rp] at this; exact this⟩
    . go_wp2_with fail
      go_roundg (len - (k + 1))
      case measure => omega
      case rel => exact ⟨k + 1, by omega, rfl, by go_num, L, X', by rw [HT.out]; have := HI.out; rw [<- List.append_nil rp] at this; exact this⟩
    . have HN := H_ (rnext_at HI.out.at'); go_wp2_with fail; refine HN.out.mono ?_; rintro e w2 ⟨rfl, h2, k2⟩; have f2 := h2.fz 14; have e2 : w2.cell? ⟨b, 14, none⟩ = some (.int .i64 rs.asked) := h2.cell 14; have H3 := H_ ((HI.out.st k2 h2).st (keepR b w2 14 _) (h2.sLast (nid rs.id))); clear h2 k2; go_wp2_with fail; generalize w2.setCell ⟨b, 14, none⟩ (.int .i64 (nid rs.id)) = w3 at *; obtain ⟨sq, kq, hqe, hqc, -⟩ := H3.out.at'.ask.form; have HQ := H_ hqe
      have HS : Hid (∀ W, Keep (fun g => (Value.slice so L.length co).ownBlock = some g) w3 W -> W.cell? ⟨b, 14, none⟩ = some (.int .i64 (nid rs.id)) /\ W.cell? ⟨b, 12, none⟩ = some (.slice sq rs.req.length kq)) := H_ fun W hW =>
       ⟨(hW.cell (p := ⟨b, 14, none⟩) H3.out.at'.blt H3.out.nb).trans (H3.out.at'.cell 14), (hW.cell (p := ⟨b, 12, none⟩) H3.out.at'.blt H3.out.nb).trans ((H3.out.at'.cell 12).trans (by rw [<- HQ.out]; rfl))⟩
      have hask := H3.out.at'.ask; simp only [hqe] at hask; have hlr : rs.req.length <= 30 := H3.out.at'.lr; have hqc' : rs.req.length <= kq := hqc; have HQN : Hid (sq = none -> rs.req.length = 0 /\ kq = 0) := H_ fun e => by subst e; have h0 := hask.hnil _ _ rfl; omega
      have HQF : Hid (∀ W, Below w3.heap.size w3 W -> ∀ ad, sq = some ad -> ∀ j u, (oV rs.req)[j]? = some u -> W.cell? (ad.add j) = some u) := H_ fun W hW ad h => by
       subst h; exact Rec.flat (by decide) (brow_opts (hask.below hW) (by omega))
      have HQL := H_ (show rs.req.length <= 1000 from by omega); clear e2 f2 hqe hask; have HSv := HS.out w3.drew (Keep.refl _ _).drew; refine wp_region_H (rgH 0 14) (fun Y : World => Y.cell? ⟨b, 14, none⟩ = some (.int .i64 (nid rs.id)) /\ Y.cell? ⟨b, 12, none⟩ = some (.slice sq rs.req.length kq)) (by kernel_rfl) ?_; refine hatH 0 rfl (by rintro W ⟨h0, h1⟩; go_simp; try rfl) HSv ?_; simp only [aZ, aC, aD]; refine hatH 1 rfl (by rintro W ⟨h0, h1⟩; go_simp; try rfl) HSv ?_; simp only [aZ, aC, aD]; refine hatH 2 rfl (by rintro W ⟨h0, h1⟩; go_simp; try rfl) HSv ?_; simp only [aZ, aC, aD]; refine hatH 3 rfl (by rintro W ⟨h0, h1⟩; go_simp; try rfl) HSv ?_; simp only [aZ, aC, aD]; refine hatH 4 rfl (by rintro W ⟨h0, h1⟩; go_simp; try rfl) HSv ?_; simp only [aZ, aC, aD]; refine hatH 5 rfl (by rintro W ⟨h0, h1⟩; go_simp; try rfl) HSv ?_; simp only [aZ, aC, aD]; refine hatH 6 rfl (by rintro W ⟨h0, h1⟩; go_simp; try rfl) HSv ?_; simp only [aZ, aC, aD]; refine hatH 7 rfl (by rintro W ⟨h0, h1⟩; go_simp; try rfl) HSv ?_; simp only [aZ, aC, aD]; refine hatH 8 rfl (by rintro W ⟨h0, h1⟩; go_simp; try rfl) HSv ?_; simp only [aZ, aC, aD]; refine wpAnyH_1 9 rfl (by kernel_rfl) ?_; intro K hK; refine step_append_fl opt_row rfl _ _ rfl (.slice none 0 0) 0 [] rfl (BRow.nil _ _ _) sq rs.req.length kq (oV rs.req) rfl HQN.out (fun ad h => HQF.out w3.drew (Below.refl _ _).drew ad h) (oV_len _) (oV_one _) (by omega) ?_; intro v4 w4 h4 k4 o4; rw [Nat.zero_add, List.nil_append] at h4; have hb4 : Below w3.heap.size w3 w4 := Below.trans (Below.refl _ _).drew (k4.below (Nat.le_refl _) (fun _ _ h => by cases h))
      have f4 : ∀ g, v4.ownBlock = some g -> w3.heap.size <= g := fun g hg => by
       rcases o4 with o4 | o4
       . rw [o4] at hg; cases hg
       . rw [o4] at hg; cases hg; exact Nat.le_refl _
      obtain ⟨s4, q4, rfl, -, -⟩ := h4.form; have HSv := HS.out w4 (Keep.of_below _ hb4); have H4 := H_ (A_ h4 (A_ hb4 f4)); clear h4 k4 o4 hb4 f4; refine hK _ _ (fun _ => HSv) ?_
      try simp only [aZ, aA, aE, aB, aC, aD]
      refine hatH 10 rfl (by rintro W ⟨h0, h1⟩; go_simp; try rfl) HSv ?_; simp only [aZ, aC, aD]; refine hone 11 rfl fun K hK => ?_
      try go_simp
      have hb5 := b1 w4 (.cells #[.int .i64 1, .int .i64 (nid rs.id), .slice s4 rs.req.length q4, .string ⟨#[]⟩] 93 (0, 0)); have HSv := HS.out _ ((Keep.of_below _ H4.out.2.1).trans (Keep.of_below _ hb5)); refine hK _ _ (fun _ => HSv) ?_
      try simp only [aZ, aA, aE, aB, aC, aD]
      refine wpAnyH_1 12 rfl (by kernel_rfl) ?_; intro K hK; refine step_append_rec pk_row rfl _ _ rfl (.slice so L.length co) L.length (pkL L).flatten rfl ((H3.out.row.below H4.out.2.1).below hb5) _ _ [.int .i64 1, .int .i64 (nid rs.id), .slice s4 rs.req.length q4, .string ⟨#[]⟩] rfl (cell_of_at _ _ _ rfl) rfl (fun u hu => by simp only [List.mem_cons, List.not_mem_nil, or_false] at hu; rcases hu with rfl | rfl | rfl | rfl <;> rfl) (by omega) ?_; intro g7 c7 w7 h7 k7 o7; have HSv := HS.out w7 (((Keep.of_below _ H4.out.2.1).trans (Keep.of_below _ hb5)).trans k7); have H7 := H_ ((H3.out.below (H4.out.2.1.trans (hb5.mono H4.out.2.1.size))).app (p := ⟨1, (nid rs.id), rs.req, noB⟩) (po := .slice s4 rs.req.length q4) h7 rfl k7 (o7.imp (fun h => h) (fun h => by rw [h]; rfl)) (H3.out.news (H4.out.2.1.trans (hb5.mono H4.out.2.1.size)) (H4.out.1.below hb5) (show rs.req.length <= 1000000 by omega) H4.out.2.2) HQL.out); have h7s : w4.heap.size < w7.heap.size := Nat.lt_of_lt_of_le (by rw [alloc1]; omega) k7.size; have hg7 : g7 < w7.heap.size := (h7.blk rfl).1; clear h7 k7 o7 hb5; refine hK _ _ (fun _ => HSv) ?_
      try simp only [aZ, aA, aE, aB, aC, aD]
      refine hatH 13 rfl (by rintro W ⟨h0, h1⟩; go_simp; try rfl) HSv ?_; simp only [aZ, aC, aD]; refine hend 14 ?_; simp only [aF, aG]; have e16 := H7.out.at'.cell 16; have f16 := H7.out.at'.fz 16; have H8 := H_ (H7.out.st (keepR b w7 16 _) (H7.out.at'.sTicks 0)); go_wp2_with fail
      go_roundg (len - (k + 1))
      case measure => omega
      case rel => exact ⟨k + 1, by omega, rfl, by go_num, _, _, by rw [HT.out]; exact H8.out⟩
    . rcases H.out.2.1.p with ⟨hf, -⟩ | ⟨his, px, po, okp, rfl, hpx, hpz, hpo, hokp, hpn⟩
      . exact absurd rfl (hax.2.2 hf).1
      obtain ⟨sp, kp, rfl, hkp, -⟩ := hpo.form; have hpxl := (Array.getElem?_eq_some_iff.1 hpz).1; have hpr := (HI.out.kp.block px hpxl hpx).trans hpz; have hob : (Value.slice so L.length co).ownBlock ≠ some px := fun he => by have := HI.out.of px he; omega
      have HS : Hid (∀ W, Keep (fun g => (Value.slice so L.length co).ownBlock = some g) wr W -> W.cell? ⟨px, 1, none⟩ = some (.int .i64 c.p.id) /\ W.cell? ⟨px, 2, none⟩ = some (.slice sp c.p.o.length kp)) := H_ fun W hW =>
       ⟨cellOf ((hW.block px (Array.getElem?_eq_some_iff.1 hpr).1 hob).trans hpr) 1 _ rfl, cellOf ((hW.block px (Array.getElem?_eq_some_iff.1 hpr).1 hob).trans hpr) 2 _ rfl⟩
      have HPR := H_ (A_ hpr hob); have hpl := H.out.2.1.pl; have HQN : Hid (sp = none -> c.p.o.length = 0 /\ kp = 0) := H_ fun e => by subst e; have h0 := hpn _ _ rfl; omega
      have hpo2 : Opts wr okp (.slice sp c.p.o.length kp) c.p.o := Rec.keep hpo HI.out.kp (fun g _ hg => hokp g hg); have HPO := H_ (A_ hpo (A_ hokp hpo2))
      have HQF : Hid (∀ W, Below wr.heap.size wr W -> ∀ ad, sp = some ad -> ∀ j u, (oV c.p.o)[j]? = some u -> W.cell? (ad.add j) = some u) := H_ fun W hW ad h => by
       have := HPO.out.2.2.below hW; subst h; exact Rec.flat (by decide) this
      have HQL := H_ hpl; clear hpr hob hpo hpo2 hpn hpz hokp; go_wp2_with fail; have HSv := HS.out wr.drew (Keep.refl _ _).drew; refine wp_region_H (rgH 0 14) (fun Y : World => Y.cell? ⟨px, 1, none⟩ = some (.int .i64 c.p.id) /\ Y.cell? ⟨px, 2, none⟩ = some (.slice sp c.p.o.length kp)) (by kernel_rfl) ?_; refine hatH 0 rfl (by rintro W ⟨h0, h1⟩; go_simp; try rfl) HSv ?_; simp only [aZ, aC, aD]; refine hatH 1 rfl (by rintro W ⟨h0, h1⟩; go_simp; try rfl) HSv ?_; simp only [aZ, aC, aD]; refine hatH 2 rfl (by rintro W ⟨h0, h1⟩; go_simp; try rfl) HSv ?_; simp only [aZ, aC, aD]; refine hatH 3 rfl (by rintro W ⟨h0, h1⟩; go_simp; try rfl) HSv ?_; simp only [aZ, aC, aD]; refine hatH 4 rfl (by rintro W ⟨h0, h1⟩; go_simp; try rfl) HSv ?_; simp only [aZ, aC, aD]; refine hatH 5 rfl (by rintro W ⟨h0, h1⟩; go_simp; try rfl) HSv ?_; simp only [aZ, aC, aD]; refine hatH 6 rfl (by rintro W ⟨h0, h1⟩; go_simp; try rfl) HSv ?_; simp only [aZ, aC, aD]; refine hatH 7 rfl (by rintro W ⟨h0, h1⟩; go_simp; try rfl) HSv ?_; simp only [aZ, aC, aD]; refine hatH 8 rfl (by rintro W ⟨h0, h1⟩; go_simp; try rfl) HSv ?_; simp only [aZ, aC, aD]; refine wpAnyH_1 9 rfl (by kernel_rfl) ?_; intro K hK; refine step_append_fl opt_row rfl _ _ rfl (.slice none 0 0) 0 [] rfl (BRow.nil _ _ _) sp c.p.o.length kp (oV c.p.o) rfl HQN.out (fun ad h => HQF.out wr.drew (Below.refl _ _).drew ad h) (oV_len _) (oV_one _) (by omega) ?_; intro v4 w4 h4 k4 o4; rw [Nat.zero_add, List.nil_append] at h4; have hb4 : Below wr.heap.size wr w4 := Below.trans (Below.refl _ _).drew (k4.below (Nat.le_refl _) (fun _ _ h => by cases h))
      have f4 : ∀ g, v4.ownBlock = some g -> wr.heap.size <= g := fun g hg => by
       rcases o4 with o4 | o4
       . rw [o4] at hg; cases hg
       . rw [o4] at hg; cases hg; exact Nat.le_refl _
      obtain ⟨s4, q4, rfl, -, -⟩ := h4.form; have HSv := HS.out w4 (Keep.of_below _ hb4); have H4 := H_ (A_ h4 (A_ hb4 f4)); clear h4 k4 o4 hb4 f4; refine hK _ _ (fun _ => HSv) ?_
      try simp only [aZ, aA, aE, aB, aC, aD]
      refine hatH 10 rfl (by rintro W ⟨h0, h1⟩; go_simp; try rfl) HSv ?_; simp only [aZ, aC, aD]; refine hone 11 rfl fun K hK => ?_
      try go_simp
      have hb5 := b1 w4 (.cells #[.int .i64 2, .int .i64 c.p.id, .slice s4 c.p.o.length q4, .string ⟨#[]⟩] 93 (0, 0)); have HSv := HS.out _ ((Keep.of_below _ H4.out.2.1).trans (Keep.of_below _ hb5)); refine hK _ _ (fun _ => HSv) ?_
      try simp only [aZ, aA, aE, aB, aC, aD]
      refine wpAnyH_1 12 rfl (by kernel_rfl) ?_; intro K hK; refine step_append_rec pk_row rfl _ _ rfl (.slice so L.length co) L.length (pkL L).flatten rfl ((HI.out.row.below H4.out.2.1).below hb5) _ _ [.int .i64 2, .int .i64 c.p.id, .slice s4 c.p.o.length q4, .string ⟨#[]⟩] rfl (cell_of_at _ _ _ rfl) rfl (fun u hu => by simp only [List.mem_cons, List.not_mem_nil, or_false] at hu; rcases hu with rfl | rfl | rfl | rfl <;> rfl) (by omega) ?_; intro g7 c7 w7 h7 k7 o7; have HSv := HS.out w7 (((Keep.of_below _ H4.out.2.1).trans (Keep.of_below _ hb5)).trans k7); have H7 := H_ ((HI.out.below (H4.out.2.1.trans (hb5.mono H4.out.2.1.size))).app (p := ⟨2, c.p.id, c.p.o, noB⟩) (po := .slice s4 c.p.o.length q4) h7 rfl k7 (o7.imp (fun h => h) (fun h => by rw [h]; rfl)) (HI.out.news (H4.out.2.1.trans (hb5.mono H4.out.2.1.size)) (H4.out.1.below hb5) (show c.p.o.length <= 1000000 by omega) H4.out.2.2) HQL.out); have h7s : w4.heap.size < w7.heap.size := Nat.lt_of_lt_of_le (by rw [alloc1]; omega) k7.size; have hg7 : g7 < w7.heap.size := (h7.blk rfl).1; clear h7 k7 o7 hb5; refine hK _ _ (fun _ => HSv) ?_
      try simp only [aZ, aA, aE, aB, aC, aD]
      refine hatH 13 rfl (by rintro W ⟨h0, h1⟩; go_simp; try rfl) HSv ?_; simp only [aZ, aC, aD]; refine hend 14 ?_; simp only [aF, aG]; obtain ⟨p1, p2⟩ := HSv; have e18 := H7.out.at'.cell 18
      have HF7 : Hid (∀ ad, sp = some ad -> ∀ j u, (oV c.p.o)[j]? = some u -> w7.cell? (ad.add j) = some u) := H_ fun ad h => by
       have := Rec.keep HPO.out.1 H7.out.kp (fun g _ hg => HPO.out.2.1 g hg); subst h; exact Rec.flat (by decide) this
      go_wp2_with (
       at_builtin; refine wpl_append_fl opt_row rfl _ _ rfl (.slice none 0 0) 0 [] rfl (BRow.nil _ _ _) sp c.p.o.length kp (oV c.p.o) rfl HQN.out HF7.out (oV_len _) (oV_one _) (by omega) ?_
       intro v8 w8 h8 k8 o8; rw [Nat.zero_add, List.nil_append] at h8; have hb8 : Below w7.heap.size w7 w8 := k8.below (Nat.le_refl _) (fun _ _ h => by cases h)
       have f8 : ∀ g, v8.ownBlock = some g -> w7.heap.size <= g := fun g hg => by
        rcases o8 with o8 | o8
        . rw [o8] at hg; cases hg
        . rw [o8] at hg; cases hg; exact Nat.le_refl _
       have h88 := H7.out.below hb8; have e188 := h88.at'.cell 18; have f188 := h88.at'.fz 18; have hs77 := H7.out.kp.size; have hbb := H7.out.at'.blt
       have H9 := H_ (h88.st (keepR b w8 18 v8) (h88.at'.sTheirs v8 c.p.o h8 (by omega) (fun g hg => by
        have h1 := f8 g hg; have h2 : g7 ≠ g := fun he => by omega
        exact ⟨⟨.inr (by omega), fun he => h2 (Option.some.inj he)⟩, fun he => by omega⟩)))
       obtain ⟨s8, q8, rfl, -, -⟩ := h8.form
       clear h8 k8 o8 hb8 f8 h88)
      go_roundg (len - (k + 1))
      case measure => omega
      case rel => exact ⟨k + 1, by omega, rfl, by go_num, _, _, by rw [HT.out]; exact H9.out⟩
    . rcases H.out.2.1.p with ⟨hf, -⟩ | ⟨his, px, po, okp, rfl, hpx, hpz, hpo, hokp, hpn⟩
      . exact absurd rfl (hax.2.2 hf).2.1
      obtain ⟨sp, kp, rfl, hkp, -⟩ := hpo.form; have hpxl := (Array.getElem?_eq_some_iff.1 hpz).1; have hpr := (HI.out.kp.block px hpxl hpx).trans hpz; have hob : (Value.slice so L.length co).ownBlock ≠ some px := fun he => by have := HI.out.of px he; omega
      have hoz : (Value.slice so L.length co).ownBlock ≠ some w.heap.size := fun he => by have := HI.out.of _ he; omega
      have HPR := H_ (A_ hpr hob)
      have HS : Hid (∀ W, Keep (fun g => (Value.slice so L.length co).ownBlock = some g) wr W -> W.cell? ⟨w.heap.size, 0, none⟩ = some (.int .i64 c.code) /\ W.cell? ⟨px, 1, none⟩ = some (.int .i64 c.p.id) /\ W.cell? ⟨w.heap.size, 1, none⟩ = some (.slice sa c.ans.length ka)) := H_ fun W hW => by
       have x1 := (hW.block px (Array.getElem?_eq_some_iff.1 HPR.out.1).1 HPR.out.2).trans HPR.out.1; have x2 := (hW.block w.heap.size (Array.getElem?_eq_some_iff.1 HZ.out).1 hoz).trans HZ.out; exact ⟨cellOf x2 0 _ rfl, cellOf x1 1 _ rfl, cellOf x2 1 _ rfl⟩
      have HSv := HS.out wr.drew (Keep.refl _ _).drew; have HRF := H_ (refuse_C0 C rs c); have hal := H.out.2.1.al; clear hpr hob hpo hpn hpz hokp; go_wp2_with fail; refine wp_region_H (rgH 0 13) (fun Y : World => Y.cell? ⟨w.heap.size, 0, none⟩ = some (.int .i64 c.code) /\ Y.cell? ⟨px, 1, none⟩ = some (.int .i64 c.p.id) /\ Y.cell? ⟨w.heap.size, 1, none⟩ = some (.slice sa c.ans.length ka)) (by kernel_rfl) ?_; refine hatH 0 rfl (by rintro W ⟨h0, h1, h2⟩; go_simp; try rfl) HSv ?_; simp only [aZ, aC, aD]; refine hatH 1 rfl (by rintro W ⟨h0, h1, h2⟩; go_simp; try rfl) HSv ?_; simp only [aZ, aC, aD]; refine hatH 2 rfl (by rintro W ⟨h0, h1, h2⟩; go_simp; try rfl) HSv ?_; simp only [aZ, aC, aD]; refine hatH 3 rfl (by rintro W ⟨h0, h1, h2⟩; go_simp; try rfl) HSv ?_; simp only [aZ, aC, aD]; refine hatH 4 rfl (by rintro W ⟨h0, h1, h2⟩; go_simp; try rfl) HSv ?_; simp only [aZ, aC, aD]; refine hatH 5 rfl (by rintro W ⟨h0, h1, h2⟩; go_simp; try rfl) HSv ?_; simp only [aZ, aC, aD]; refine hatH 6 rfl (by rintro W ⟨h0, h1, h2⟩; go_simp; try rfl) HSv ?_; simp only [aZ, aC, aD]; refine hatH 7 rfl (by rintro W ⟨h0, h1, h2⟩; go_simp; try rfl) HSv ?_; simp only [aZ, aC, aD]; refine hatH 8 rfl (by rintro W ⟨h0, h1, h2⟩; go_simp; try rfl) HSv ?_; simp only [aZ, aC, aD]; refine hatH 9 rfl (by rintro W ⟨h0, h1, h2⟩; go_simp; try rfl) HSv ?_; simp only [aZ, aC, aD]; refine hone 10 rfl fun K hK => ?_
      try go_simp
      have hb5 : Below wr.heap.size wr (wr.drew.alloc (.cells #[.int .i64 c.code, .int .i64 c.p.id, .slice sa c.ans.length ka, .string ⟨#[]⟩] 93 (0, 0))) := Below.trans (Below.refl _ _).drew (b1 wr.drew _); have HSv := HS.out _ (Keep.of_below _ hb5); refine hK _ _ (fun _ => HSv) ?_
      try simp only [aZ, aA, aE, aB, aC, aD]
      refine wpAnyH_1 11 rfl (by kernel_rfl) ?_; intro K hK; refine step_append_rec pk_row rfl _ _ rfl (.slice so L.length co) L.length (pkL L).flatten rfl (HI.out.row.below hb5) _ _ [.int .i64 c.code, .int .i64 c.p.id, .slice sa c.ans.length ka, .string ⟨#[]⟩] rfl (cell_of_at _ _ _ rfl) rfl (fun u hu => by simp only [List.mem_cons, List.not_mem_nil, or_false] at hu; rcases hu with rfl | rfl | rfl | rfl <;> rfl) (by omega) ?_; intro g7 c7 w7 h7 k7 o7; have HSv := HS.out w7 ((Keep.of_below _ hb5).trans k7); have H7 := H_ ((HI.out.below hb5).app (p := ⟨c.code, c.p.id, c.ans, noB⟩) (po := .slice sa c.ans.length ka) h7 rfl k7 (o7.imp (fun h => h) (fun h => by rw [h]; rfl)) (Opts.below (Rec.mono (Rec.keep (Rec.old H.out.2.1.a) HI.out.kp (fun g _ hg => H.out.2.1.ak g hg.1)) (fun g hg => ⟨.inl ⟨hg.1, hg.2⟩, H.out.2.1.ak g hg.1, fun he => by have := HI.out.of g he; omega⟩)) hb5) hal); clear h7 k7 o7 hb5; refine hK _ _ (fun _ => HSv) ?_
      try simp only [aZ, aA, aE, aB, aC, aD]
      refine hatH 12 rfl (by rintro W ⟨h0, h1, h2⟩; go_simp; try rfl) HSv ?_; simp only [aZ, aC, aD]; refine hend 13 ?_; simp only [aF, aG]; obtain ⟨p0, -, -⟩ := HSv
      by_cases hc3 : c.code = 3
      . have q3 : (c.code == 3) = true := by simpa using hc3
        have HR2 := H_ (HRF.out.trans (by rw [if_pos hc3])); have e15 := H7.out.at'.cell 15; have f15 := H7.out.at'.fz 15; have H8 := H_ (H7.out.st (keepR b w7 15 _) (H7.out.at'.sNaks (wrap64 (rs.naks + 1)))); clear hc3; go_wp2_with fail
        go_roundg (len - (k + 1))
        case measure => omega
        case rel => exact ⟨k + 1, by omega, rfl, by go_num, _, _, by rw [HT.out, show sayS rejS (C0 C) rs 8 c = ((refuseS (C0 C) rs c).1, [(refuseS (C0 C) rs c).2]) from rfl, HR2.out]; exact H8.out⟩
      . have q3 : (c.code == 3) = false := by simpa using hc3
        have HR2 := H_ (HRF.out.trans (by rw [if_neg hc3])); clear hc3; go_wp2_with fail
        go_roundg (len - (k + 1))
        case measure => omega
        case rel => exact ⟨k + 1, by omega, rfl, by go_num, _, _, by rw [HT.out, show sayS rejS (C0 C) rs 8 c = ((refuseS (C0 C) rs c).1, [(refuseS (C0 C) rs c).2]) from rfl, HR2.out]; exact H7.out⟩
    . have HN := H_ (rnext_at HI.out.at'); go_wp2_with fail; refine HN.out.mono ?_; rintro e w2 ⟨rfl, h2, k2⟩; have H3 := H_ (HI.out.st k2 h2); clear h2 k2
      go_wp2_with (at_builtin; refine wpl_append_rec pk_row rfl _ _ rfl (.slice so L.length co) L.length (pkL L).flatten rfl (H3.out.row.below (b1 _ _)) _ _ [.int .i64 5, .int .i64 (nid rs.id), .slice none 0 0, .string ⟨#[]⟩] rfl (cell_of_at _ _ _ rfl) rfl (fun u hu => by simp only [List.mem_cons, List.not_mem_nil, or_false] at hu; rcases hu with rfl | rfl | rfl | rfl <;> rfl) (by omega) ?_; intro g7 c7 w7 h7 k7 o7; have H7 := H_ ((H3.out.below (b1 _ _)).app (p := ⟨5, (nid rs.id), [], ⟨#[]⟩⟩) (po := .slice none 0 0) h7 rfl k7 (o7.imp (fun h => h) (fun h => by rw [h]; rfl)) (Rec.nil _ _ _) (Nat.zero_le _)); have e16 := H7.out.at'.cell 16; have f16 := H7.out.at'.fz 16; clear h7 k7 o7)
      have H8 := H_ (H7.out.st (keepR b w7 16 _) (H7.out.at'.sTicks 0))
      go_roundg (len - (k + 1))
      case measure => omega
      case rel => exact ⟨k + 1, by omega, rfl, by go_num, _, _, by rw [HT.out]; exact H8.out⟩
    . have e13 : wr.cell? ⟨b, 13, none⟩ = some (.int .i64 rs.id) := HI.out.at'.cell 13; have q1 : ∀ w a, (binOp .neq 197 (.pointer (some a)) (.pointer none)).run Tryz.prog w = .ok (.bool true) w := fun w a => by kernel_rfl
      have q2 : ∀ w, (binOp .neq 197 (.pointer none) (.pointer none)).run Tryz.prog w = .ok (.bool false) w := fun w => by kernel_rfl
      rcases H.out.2.1.p with ⟨hf, rfl⟩ | ⟨his, px, po, okp, rfl, hpx, hpz, -, -, -⟩
      . have HS10 := H_ (show sayS rejS (C0 C) rs 10 c = (rs, [⟨6, rs.id, [], noB⟩]) from by show (rs, [(⟨6, if c.is then c.p.id else rs.id, [], noB⟩ : Pk)]) = _; rw [hf]; rfl)
        go_wp2_with (at_builtin; refine wpl_append_rec pk_row rfl _ _ rfl (.slice so L.length co) L.length (pkL L).flatten rfl (HI.out.row.below (b1 _ _)) _ _ [.int .i64 6, .int .i64 rs.id, .slice none 0 0, .string ⟨#[]⟩] rfl (cell_of_at _ _ _ rfl) rfl (fun u hu => by simp only [List.mem_cons, List.not_mem_nil, or_false] at hu; rcases hu with rfl | rfl | rfl | rfl <;> rfl) (by omega) ?_; intro g7 c7 w7 h7 k7 o7; have H7 := H_ ((HI.out.below (b1 _ _)).app (p := ⟨6, rs.id, [], ⟨#[]⟩⟩) (po := .slice none 0 0) h7 rfl k7 (o7.imp (fun h => h) (fun h => by rw [h]; rfl)) (Rec.nil _ _ _) (Nat.zero_le _)); have e16 := H7.out.at'.cell 16; have f16 := H7.out.at'.fz 16; clear h7 k7 o7)
        go_roundg (len - (k + 1))
        case measure => omega
        case rel => exact ⟨k + 1, by omega, rfl, by go_num, _, _, by rw [HT.out, HS10.out]; exact H7.out⟩
      . have HS10 := H_ (show sayS rejS (C0 C) rs 10 c = (rs, [⟨6, c.p.id, [], noB⟩]) from by show (rs, [(⟨6, if c.is then c.p.id else rs.id, [], noB⟩ : Pk)]) = _; rw [his]; rfl); have hpr := (HI.out.kp.block px (Array.getElem?_eq_some_iff.1 hpz).1 hpx).trans hpz; have p1 : wr.cell? ⟨px, 1, none⟩ = some (.int .i64 c.p.id) := cellOf hpr 1 _ rfl; clear hpr hpz
        go_wp2_with (at_builtin; refine wpl_append_rec pk_row rfl _ _ rfl (.slice so L.length co) L.length (pkL L).flatten rfl (HI.out.row.below (b1 _ _)) _ _ [.int .i64 6, .int .i64 c.p.id, .slice none 0 0, .string ⟨#[]⟩] rfl (cell_of_at _ _ _ rfl) rfl (fun u hu => by simp only [List.mem_cons, List.not_mem_nil, or_false] at hu; rcases hu with rfl | rfl | rfl | rfl <;> rfl) (by omega) ?_; intro g7 c7 w7 h7 k7 o7; have H7 := H_ ((HI.out.below (b1 _ _)).app (p := ⟨6, c.p.id, [], ⟨#[]⟩⟩) (po := .slice none 0 0) h7 rfl k7 (o7.imp (fun h => h) (fun h => by rw [h]; rfl)) (Rec.nil _ _ _) (Nat.zero_le _)); have e16 := H7.out.at'.cell 16; have f16 := H7.out.at'.fz 16; clear h7 k7 o7)
        go_roundg (len - (k + 1))
        case measure => omega
        case rel => exact ⟨k + 1, by omega, rfl, by go_num, _, _, by rw [HT.out, HS10.out]; exact H7.out⟩
    . rcases H.out.2.1.p with ⟨hf, -⟩ | ⟨his, px, po, okp, rfl, hpx, hpz, hpo, hokp, hpn⟩
      . exact absurd rfl (hax.2.2 hf).2.2
      obtain ⟨sp, kp, rfl, hkp, -⟩ := hpo.form; have hpxl := (Array.getElem?_eq_some_iff.1 hpz).1; have hpr := (HI.out.kp.block px hpxl hpx).trans hpz; have p0 := cellOf hpr 0 _ rfl; have p1 := cellOf hpr 1 _ rfl; have p2 := cellOf hpr 2 _ rfl; have p3 := cellOf hpr 3 _ rfl; have hpo2 : Opts wr okp (.slice sp c.p.o.length kp) c.p.o := Rec.keep hpo HI.out.kp (fun g _ hg => hokp g hg); have hpl := H.out.2.1.pl; have HPU := H_ (putP9_any c.p _ okp wr hpo2 (by omega) H.out.2.1.pz H.out.2.1.pd); unfold pkV at HPU; have hsz := putPk_size c.p; have HRL := H_ (A_ (rej_long c.p) (rej_short c.p)); have HS11 := H_ (show sayS rejS (C0 C) rs 11 c = ({ rs with id := nid rs.id }, [⟨7, nid rs.id, [], rejS c.p⟩]) from rfl); clear hpr hpo hpn hpz hokp hpo2; generalize rejS c.p = rj at *; generalize putPk c.p = pk at *; obtain ⟨ps, pe⟩ := pk; simp only at HPU hsz HRL
      go_wp2_with fail; refine HPU.out.mono ?_; rintro e w3 ⟨rfl, hb3⟩; have H3 := H_ (HI.out.below hb3); have HN := H_ (rnext_at H3.out.at'); clear hb3
      by_cases hl : 1488 < ps.size
      . have d1 : decide ((1488 : Int) < (ps.size : Int)) = true := decide_eq_true (by omega); have HRJ := H_ (HRL.out.1 hl); go_wp2_with fail; refine HN.out.mono ?_; rintro e w4 ⟨rfl, h4, k4⟩; have H4 := H_ (H3.out.st k4 h4); clear h4 k4
        go_wp2_with (at_builtin; refine wpl_append_rec pk_row rfl _ _ rfl (.slice so L.length co) L.length (pkL L).flatten rfl (H4.out.row.below (b1 _ _)) _ _ [.int .i64 7, .int .i64 (nid rs.id), .slice none 0 0, .string (ps.extract 0 1488)] rfl (cell_of_at _ _ _ rfl) rfl (fun u hu => by simp only [List.mem_cons, List.not_mem_nil, or_false] at hu; rcases hu with rfl | rfl | rfl | rfl <;> rfl) (by omega) ?_; intro g7 c7 w7 h7 k7 o7; have H7 := H_ ((H4.out.below (b1 _ _)).app (p := ⟨7, (nid rs.id), [], (ps.extract 0 1488)⟩) (po := .slice none 0 0) h7 rfl k7 (o7.imp (fun h => h) (fun h => by rw [h]; rfl)) (Rec.nil _ _ _) (Nat.zero_le _)); have e16 := H7.out.at'.cell 16; have f16 := H7.out.at'.fz 16; clear h7 k7 o7)
        go_roundg (len - (k + 1))
        case measure => omega
        case rel => exact ⟨k + 1, by omega, rfl, by go_num, _, _, by rw [HT.out, HS11.out, HRJ.out]; exact H7.out⟩
      . have d1 : decide ((1488 : Int) < (ps.size : Int)) = false := decide_eq_false (by omega); have HRJ := H_ (HRL.out.2 hl); go_wp2_with fail; refine HN.out.mono ?_; rintro e w4 ⟨rfl, h4, k4⟩; have H4 := H_ (H3.out.st k4 h4); clear h4 k4
        go_wp2_with (at_builtin; refine wpl_append_rec pk_row rfl _ _ rfl (.slice so L.length co) L.length (pkL L).flatten rfl (H4.out.row.below (b1 _ _)) _ _ [.int .i64 7, .int .i64 (nid rs.id), .slice none 0 0, .string ps] rfl (cell_of_at _ _ _ rfl) rfl (fun u hu => by simp only [List.mem_cons, List.not_mem_nil, or_false] at hu; rcases hu with rfl | rfl | rfl | rfl <;> rfl) (by omega) ?_; intro g7 c7 w7 h7 k7 o7; have H7 := H_ ((H4.out.below (b1 _ _)).app (p := ⟨7, (nid rs.id), [], ps⟩) (po := .slice none 0 0) h7 rfl k7 (o7.imp (fun h => h) (fun h => by rw [h]; rfl)) (Rec.nil _ _ _) (Nat.zero_le _)); have e16 := H7.out.at'.cell 16; have f16 := H7.out.at'.fz 16; clear h7 k7 o7)
        go_roundg (len - (k + 1))
        case measure => omega
        case rel => exact ⟨k + 1, by omega, rfl, by go_num, _, _, by rw [HT.out, HS11.out, HRJ.out]; exact H7.out⟩
    . go_wp2_with fail
      go_roundg (len - (k + 1))
      case measure => omega
      case rel => exact ⟨k + 1, by omega, rfl, by go_num, L, X', by rw [HT.out]; have := HI.out; rw [<- List.append_nil rp] at this; exact this⟩
  . obtain rfl : len = k := by omega
    go_wp2_with fail; go_ret; rw [show sayL rejS (C0 C) c st xs = sayL rejS (C0 C) c st (xs.take len) from by rw [List.take_of_length_le (by have := HLN.out; omega)]]; have hs1' : w.heap.size <= w1.heap.size := by omega
    refine ⟨_, L, rfl, HI.out.e, ⟨Rec.mono (rec_own (Rec.of_owns HI.out.row (pkL_len L).symm (pkL_k L) (by unfold maxLen; omega))) (fun g hg => .inr (by have := HI.out.of g hg; omega)), fun p hp => Rec.mono (HI.out.o p hp) (fun g hg => hg.1.imp (fun h => h.1) (fun h => by omega)), fun p hp => Nat.le_trans (HI.out.m p hp) (by omega)⟩, ⟨X', HI.out.at'.mono (fun g hg => hg.1.imp id (fun h => by omega))⟩, (Keep.of_below _ H.out.2.2.2.1).trans HI.out.kp⟩
set_option maxRecDepth 100000 in
theorem find9v_any (l : List Opt) (lv : Value) (ok : Nat -> Prop) (kind : Int) (w : World) (hl : Opts w ok lv l) (hmax : l.length <= 1000000) :
 Calls Tryz.prog 146 #[lv, .int .i64 kind] w fun e w' => e = .returned (.tuple #[.string ((findO l kind).getD default).v, .bool (l.any fun x => x.t == kind)]) /\ Below w.heap.size w w' := by
 obtain ⟨sa, c, rfl, hc, hm⟩ := hl.form; have H := H_ hl; obtain ⟨len, hln⟩ : ∃ len, len = l.length := ⟨_, rfl⟩; have HLN := H_ hln
 have HY : Hid (∀ y : Bool, (y = true ↔ ∃ k, ∃ hk : k < l.length, l[k].t = kind) -> y = l.any fun x => x.t == kind) := H_ (by
  intro y hy; rw [Bool.eq_iff_iff, hy, List.any_eq_true]
  constructor
  . rintro ⟨k, hk, h⟩; exact ⟨l[k], List.getElem_mem hk, by simpa using h⟩
  . rintro ⟨x, hx, h⟩; obtain ⟨k, hk, rfl⟩ := List.mem_iff_getElem.1 hx
    exact ⟨k, hk, by simpa using h⟩)
 have HV : Hid (∀ (k : Nat) (hk : k < l.length), l[k].t = kind -> (∀ j (hj : j < l.length), j < k -> l[j].t ≠ kind) -> ((findO l kind).getD default).v = l[k].v) := H_ (by
  intro k hk h hb
  have : findO l kind = some l[k] := by
   unfold findO; rw [List.find?_eq_some_iff_getElem]; exact ⟨by simpa using h, k, hk, rfl, fun j hj => by simpa using hb j (by omega) hj⟩
  rw [this]; rfl)
 have HW : Hid ((∀ j (hj : j < l.length), l[j].t ≠ kind) -> ((findO l kind).getD default).v = ⟨#[]⟩) := H_ (by
  intro hb
  have : findO l kind = none := by
   unfold findO; rw [List.find?_eq_none]; intro x hx; obtain ⟨j, hj, rfl⟩ := List.mem_iff_getElem.1 hx
   simpa using hb j hj
  rw [this]; rfl)
 rw [<- hln] at hc hmax ⊢; generalize ((findO l kind).getD default).v = fv at *; generalize (l.any fun x => x.t == kind) = ya at *; clear hln hl; go_enter Tryz.func146, Tryz.ntmps146; go_wp2_with fail
 go_loopg [6] len (fun x i wr => ∃ k : Nat, k <= len /\ x = len - k /\ i = .int .i64 k /\ Hid (Below w.heap.size w wr /\ ∀ j (hj : j < l.length), j < k -> l[j].t ≠ kind))
 case atStart => exact ⟨0, by omega, by omega, rfl, Below.refl _ _, fun j _ h => absurd h (Nat.not_lt_zero _)⟩
 case round =>
  obtain ⟨k, hk, rfl, rfl, hK⟩ := hrel; have HK := H_ hK.out; clear hK
  by_cases hkl : k < len
  . have h1 : k < l.length := by have := HLN.out; omega
    obtain ⟨b, off, rfl, hb, -, -, -, -, c0, c1⟩ := H.out.at k h1; have d0 : wr.cell? ⟨b, off + k * 2, none⟩ = _ := (HK.out.1.cell (p := ⟨b, off + k * 2, none⟩) hb).trans c0; have d1 : wr.cell? ⟨b, off + k * 2 + 1, none⟩ = _ := (HK.out.1.cell (p := ⟨b, off + k * 2 + 1, none⟩) hb).trans c1; have HT := H_ (show l[k].t = kind -> ya = true from fun h => (HY.out true ⟨fun _ => ⟨k, h1, h⟩, fun _ => rfl⟩).symm)
    have HF := H_ (show l[k].t ≠ kind -> ∀ j (hj : j < l.length), j < k + 1 -> l[j].t ≠ kind from fun h j hj hlt => by
     rcases Nat.lt_or_ge j k with h2 | h2
     . exact HK.out.2 j hj h2
     . obtain rfl : j = k := by omega
       exact h)
    clear c0 c1; have HVK := H_ (fun h => HV.out k h1 h HK.out.2); generalize l[k] = x at *; obtain ⟨t, v⟩ := x; simp only at d0 d1 HT HF HVK
    by_cases ht : t = kind
    . have HT2 := H_ (HT.out ht); have HV2 := H_ (HVK.out ht); subst ht; go_wp2_with fail; go_ret2; exact ⟨by rw [HT2.out, HV2.out]; rfl, HK.out.1⟩
    . have HF2 := H_ (HF.out ht); have hq : (t == kind) = false := by simpa using ht
      clear ht; go_wp2_with fail
      go_roundg (len - (k + 1))
      case measure => omega
      case rel => exact ⟨k + 1, by omega, rfl, by go_num, HK.out.1, HF2.out⟩
  . have HE := H_ (show ya = false from (HY.out false ⟨fun h => absurd h (by decide), fun ⟨j, hj, h⟩ => absurd h (HK.out.2 j hj (by have := HLN.out; omega))⟩).symm); have HW2 := H_ (HW.out (fun j hj => HK.out.2 j hj (by have := HLN.out; omega))); go_wp2_with fail; go_ret2; exact ⟨by rw [HE.out, HW2.out]; rfl, HK.out.1⟩
section
variable {w : World} {S ok : Nat -> Prop} {b : Nat} {C : NegC} {st : NSt} {X : RX}
set_option maxRecDepth 100000 in
theorem verdict9_at (l : List Opt) (lv : Value) (h : RNAt w S b C st X) (hl : Opts w ok lv l) (hmax : l.length <= 1000) (hnil : ∀ n c, lv = .slice none n c -> c = 0) (hv : ∀ o ∈ l, o.v.size <= 100000) :
 Calls Tryz.prog 236 #[.pointer (some ⟨b, 0, none⟩), lv] w fun e w' => ∃ v, e = .returned (.tuple #[.int .i64 (judgeS C.peer l).1, v]) /\ Laid 91 2 w w' v (judgeS C.peer l).2.length (oV (judgeS C.peer l).2) := by
 have hpl := h.ok.peer; have hR : Rls w (fun _ => True) X.peer C.peer := Rec.mono (RRow.rls (B := 0) h.peer (by unfold maxLen; omega)) (fun _ _ => trivial); have HJ := H_ (judge9_any C.peer X.peer _ l lv ok w hR (by omega) hl hmax hnil hv); obtain ⟨sp, kp, hpe, -, -⟩ := h.peer.form; have e2 : w.cell? ⟨b, 2, none⟩ = some (.slice sp C.peer.length kp) := by rw [<- hpe]; exact h.cell 2
 have HN := H_ (show ∀ W, Below w.heap.size w W -> W.cell? ⟨b, 21, none⟩ = some (.pointer none) from fun W hW => (h.below hW).cell 21); rw [hpe] at HJ; obtain ⟨sl, cl, rfl, -, -⟩ := hl.form; have q1 : ∀ w, (binOp .eql 106 (.pointer none) (.pointer none)).run Tryz.prog w = .ok (.bool true) w := fun w => by kernel_rfl
 generalize judgeS C.peer l = J at *; obtain ⟨j1, j2⟩ := J; clear h hR hl hv hnil hpe; go_enter Tryz.func236, Tryz.ntmps236; go_wp2_with fail; refine HJ.out.mono ?_; rintro e w1 ⟨v, rfl, h1⟩; have e21 := HN.out w1 h1.b; obtain ⟨sv, cv, rfl, -, -⟩ := h1.r.form; have H1 := H_ h1; clear h1; go_wp2_with fail; go_ret2; exact ⟨_, rfl, H1.out⟩
theorem rans_cells : (Tryz.prog.info? 186).map (·.size) = some 2 := by kernel_rfl
theorem backS_snoc (l ans : List Opt) (o : Opt) : backS l (ans ++ [o]) = backS l ans ++ [⟨o.t, ((findO l o.t).getD default).v⟩] := by simp [backS]
theorem backS_len (l ans : List Opt) : (backS l ans).length = ans.length := by simp [backS]
theorem oV_app1 (a b : List Opt) : oV (a ++ b) = oV a ++ oV b := by simp [oV, optL]
theorem set2v {w : World} {g : Nat} {T : TypeId} {a0 a1 : Value} (h : w.heap[g]? = some (.cells #[a0, a1] T (0, 0))) (v0 v1 : Value) : ((w.setCell ⟨g, 0, none⟩ v0).setCell ⟨g, 1, none⟩ v1).heap[g]? = some (.cells #[v0, v1] T (0, 0)) := by
 have := set_block (set_block h 0 v0) 1 v1
 simpa using this
theorem Laid.put {T : TypeId} {k : Nat} {w wr : World} {v : Value} {n : Nat} {us : List Value} {g : Nat} (h : Laid T k w wr v n us) (hg : ∀ q, v.ownBlock = some q -> q ≠ g) (hlt : w.heap.size <= g) (v0 v1 : Value) : Laid T k w ((wr.setCell ⟨g, 0, none⟩ v0).setCell ⟨g, 1, none⟩ v1) v n us := by
 have hk : Keep (· = g) wr ((wr.setCell ⟨g, 0, none⟩ v0).setCell ⟨g, 1, none⟩ v1) := ((Keep.refl (· = g) wr).setCell ⟨g, 0, none⟩ (Or.inr rfl) v0).setCell ⟨g, 1, none⟩ (Or.inr rfl) v1; exact ⟨h.r.keep hk (fun q hq he => hg q hq he), h.b.trans (hk.below h.b.size (fun q hq he => by omega)), h.f⟩
theorem Laid.drewn {T : TypeId} {k : Nat} {w wr : World} {v : Value} {n : Nat} {us : List Value} (h : Laid T k w wr v n us) : Laid T k w wr.drew v n us := ⟨h.r.below (Below.refl _ _).drew, h.b.drew, h.f⟩
set_option maxRecDepth 100000 in
theorem judge9n_at (l : List Opt) (lv : Value) (h : RNAt w S b C st X) (hl : Opts w ok lv l) (hmax : l.length <= 1000) (hnil : ∀ n c, lv = .slice none n c -> c = 0) (hv : ∀ o ∈ l, o.v.size <= 100000) :
 Calls Tryz.prog 170 #[.pointer (some ⟨b, 0, none⟩), lv] w fun e w' => ∃ v, e = .returned (.agg #[.int .i64 (ansS C st.naks (judgeS C.peer l) l).1, v]) /\ Laid 91 2 w w' v (ansS C st.naks (judgeS C.peer l) l).2.length (oV (ansS C st.naks (judgeS C.peer l) l).2) := by
 have hb0 := b1 w (.cells #[.int .i64 0, .slice none 0 0] 186 (0, 0)); have hz0 := heap_alloc_new w (.cells #[.int .i64 0, .slice none 0 0] 186 (0, 0)); have HV := H_ (verdict9_at l lv (h.below hb0) (hl.below hb0) hmax hnil hv); have HJ := H_ (show ansS C st.naks (judgeS C.peer l) l = if (judgeS C.peer l).1 = 3 /\ 0 < C.fl /\ C.fl <= st.naks then (4, backS l (judgeS C.peer l).2) else judgeS C.peer l from rfl); have hjl : (judgeS C.peer l).2.length <= 1000 := Nat.le_trans (judgeS_len _ _) hmax; have H := H_ (A_ h (A_ hl (A_ hb0 hz0))); have hs0 : (w.alloc (.cells #[.int .i64 0, .slice none 0 0] 186 (0, 0))).heap.size = w.heap.size + 1 := alloc1 _ _; have hblt := h.blt; obtain ⟨sl, cl, rfl, -, -⟩ := hl.form; generalize judgeS C.peer l = J at *; generalize ansS C st.naks J l = R at *; obtain ⟨j1, j2⟩ := J; simp only at HJ hjl
 clear h hl hb0 hz0 hnil hv; go_enter Tryz.func170, Tryz.ntmps170; go_wp2_with fail; generalize w.alloc (.cells #[.int .i64 0, .slice none 0 0] 186 (0, 0)) = w0 at *; refine HV.out.mono ?_; rintro e w1 ⟨v, rfl, h1⟩; obtain ⟨sv, cv, rfl, hcv, -⟩ := h1.r.form; have hz1 := (h1.b.block w.heap.size (by omega)).trans H.out.2.2.2; have h2 := (H.out.1.below H.out.2.2.1).below h1.b; have e6 : w1.cell? ⟨b, 6, none⟩ = some (.int .i64 C.fl) := h2.cell 6; have e15 : w1.cell? ⟨b, 15, none⟩ = some (.int .i64 st.naks) := h2.cell 15; have HSv : (fun Y : World => Y.cell? ⟨b, 6, none⟩ = some (.int .i64 C.fl) /\ Y.cell? ⟨b, 15, none⟩ = some (.int .i64 st.naks)) w1.drew := ⟨e6, e15⟩; have H1 := H_ (A_ (show Laid 91 2 w w1 (.slice sv j2.length cv) j2.length (oV j2) from ⟨h1.r, H.out.2.2.1.trans (h1.b.mono (by omega)), fun g hg => by have := h1.f g hg; omega⟩) (A_ hz1 h1.f)); have hs1 := h1.b.size; have HNB := H_ (show ∀ g, (Value.slice sv j2.length cv).ownBlock = some g -> g ≠ w.heap.size from fun g hg => by have := h1.f g hg; omega); clear h1 h2 e6 e15 hz1; go_wp2_with fail; refine wp_region_H (rgH 0 22) (fun Y : World => Y.cell? ⟨b, 6, none⟩ = some (.int .i64 C.fl) /\ Y.cell? ⟨b, 15, none⟩ = some (.int .i64 st.naks)) (by kernel_rfl) ?_
 by_cases h3 : j1 = 3
 . by_cases hf : 0 < C.fl
   . have df : decide (0 < C.fl) = true := by simpa using hf
     by_cases hn : C.fl <= st.naks
     . have dn : decide (C.fl <= st.naks) = true := by simpa using hn
       have HR := H_ (show R = (4, backS l j2) by rw [HJ.out, if_pos ⟨h3, hf, hn⟩]); subst h3; clear hf hn HJ; refine hatH 0 rfl (by rintro W ⟨h0, h1⟩; go_simp; try rfl) HSv ?_; simp only [aZ, aC, aD]; refine hatH 1 rfl (by rintro W ⟨h0, h1⟩; go_simp; try rfl) HSv ?_; simp only [aZ, aC, aD]; refine hatH 2 rfl (by rintro W ⟨h0, h1⟩; go_simp; try rfl) HSv ?_; simp only [aZ, aC, aD]; refine hatH 3 rfl (by rintro W ⟨h0, h1⟩; go_simp; try rfl) HSv ?_; simp only [aZ, aC, aD]; refine hatH 4 rfl (by rintro W ⟨h0, h1⟩; go_simp; try rfl) HSv ?_; simp only [aZ, aC, aD]; refine hatH 5 rfl (by rintro W ⟨h0, h1⟩; go_simp; try rfl) HSv ?_; simp only [aZ, aC, aD]; refine hatH 6 rfl (by rintro W ⟨h0, h1⟩; go_simp; try rfl) HSv ?_; simp only [aZ, aC, aD]; refine hatH 7 rfl (by rintro W ⟨h0, h1⟩; go_simp; try rfl) HSv ?_; simp only [aZ, aC, aD]; refine hatH 8 rfl (by rintro W ⟨h0, h1⟩; go_simp; try rfl) HSv ?_; simp only [aZ, aC, aD]; refine hatH 9 rfl (by rintro W ⟨h0, h1⟩; go_simp; try rfl) HSv ?_; simp only [aZ, aC, aD]; refine hatH 10 rfl (by rintro W ⟨h0, h1⟩; go_simp; try rfl) HSv ?_; simp only [aZ, aC, aD]; refine hatH 11 rfl (by rintro W ⟨h0, h1⟩; go_simp; try rfl) HSv ?_; simp only [aZ, aC, aD]; refine hatH 12 rfl (by rintro W ⟨h0, h1⟩; go_simp; try rfl) HSv ?_; simp only [aZ, aC, aD]; refine hatH 13 rfl (by rintro W ⟨h0, h1⟩; go_simp; try rfl) HSv ?_; simp only [aZ, aC, aD]; refine hatH 14 rfl (by rintro W ⟨h0, h1⟩; go_simp; try rfl) HSv ?_; simp only [aZ, aC, aD]; refine hatH 15 rfl (by rintro W ⟨h0, h1⟩; go_simp; try rfl) HSv ?_; simp only [aZ, aC, aD]; refine hatH 16 rfl (by rintro W ⟨h0, h1⟩; go_simp; try rfl) HSv ?_; simp only [aZ, aC, aD]; refine hatH 17 rfl (by rintro W ⟨h0, h1⟩; go_simp; try rfl) HSv ?_; simp only [aZ, aC, aD]; refine hatH 18 rfl (by rintro W ⟨h0, h1⟩; go_simp; try rfl) HSv ?_; simp only [aZ, aC, aD]; refine hatH 19 rfl (by rintro W ⟨h0, h1⟩; go_simp; try rfl) HSv ?_; simp only [aZ, aC, aD]; refine hatH 20 rfl (by rintro W ⟨h0, h1⟩; go_simp; try rfl) HSv ?_; simp only [aZ, aC, aD]; refine hatH 21 rfl (by rintro W ⟨h0, h1⟩; go_simp; try rfl) HSv ?_; simp only [aZ, aC, aD]; refine hend 22 ?_; simp only [aF, aG]; go_wp2_with fail; obtain ⟨len, hln⟩ : ∃ len, len = j2.length := ⟨_, rfl⟩; have HLN := H_ hln; have hjo : Opts w1 (fun _ => True) (.slice sv j2.length cv) j2 := Rec.mono (brow_opts H1.out.1.r (by omega)) (fun _ _ => trivial); have HO := H_ hjo; rw [<- hln] at hcv hjl H1 HO ⊢; clear hln hjo
       go_loopg [7, 8] len (fun x bk i wr => ∃ k : Nat, k <= len /\ x = len - k /\ i = .int .i64 k /\ Hid (Laid 91 2 w1 wr bk k (oV (backS l (j2.take k)))))
       case atStart => exact ⟨0, by omega, by omega, rfl, BRow.nil _ _ _, (Below.refl _ _).drew, fun g h => by cases h⟩
       case round =>
        obtain ⟨k, hk, rfl, rfl, hK⟩ := hrel; have HK := H_ hK.out; obtain ⟨sb, cb, rfl, hcb, -⟩ := hK.out.r.form; clear hK
        by_cases hkl : k < len
        . have hkx : k < j2.length := by have := HLN.out; omega
          obtain ⟨g, off, rfl, hg, -, -, -, -, c0, c1⟩ := HO.out.at k hkx; have d0 : wr.cell? ⟨g, off + k * 2, none⟩ = _ := (HK.out.b.cell (p := ⟨g, off + k * 2, none⟩) hg).trans c0; have HC0 := H_ (fun W (hW : Below wr.heap.size wr W) => (hW.cell (p := ⟨g, off + k * 2, none⟩) (Nat.lt_of_lt_of_le hg HK.out.b.size)).trans d0); have HT := H_ (show oV (backS l (j2.take (k + 1))) = oV (backS l (j2.take k)) ++ [.int .i64 j2[k].t, .string ((findO l j2[k].t).getD default).v] from by rw [List.take_succ_eq_append_getElem hkx, backS_snoc, oV_app1]; rfl); have HFD := H_ (find9v_any l _ ok j2[k].t wr (H.out.2.1.below (H1.out.1.b.trans (HK.out.b.mono H1.out.1.b.size))) (by omega)); clear c0 c1; generalize ((findO l j2[k].t).getD default).v = fv at *; generalize (l.any fun x => x.t == j2[k].t) = fb at *; generalize j2[k].t = tk at *; go_wp2_with fail; refine HFD.out.mono ?_; rintro e w3 ⟨rfl, hb3⟩; have d3 := HC0.out w3 hb3; have HL3 := H_ (show Laid 91 2 w1 w3 (.slice sb k cb) k (oV (backS l (j2.take k))) from ⟨HK.out.r.below hb3, HK.out.b.trans (hb3.mono HK.out.b.size), HK.out.f⟩); clear hb3 d0
          go_wp2_with (
           at_builtin; refine wpl_append_rec opt_row rfl _ _ rfl _ k (oV (backS l (j2.take k))) rfl (HL3.out.r.below (b1 _ _)) _ _ [.int .i64 tk, .string fv] rfl (cell_of_at _ _ _ rfl) rfl (fun u hu => by simp only [List.mem_cons, List.not_mem_nil, or_false] at hu; rcases hu with rfl | rfl <;> rfl) (by omega) ?_
           intro g8 c8 w8 h8 k8 o8; have H8 := H_ (HL3.out.app (b1 _ _) h8 k8 (o8.imp (fun h => h.symm) (fun h => by rw [h]; rfl)))
           clear h8 k8 o8)
          go_roundg (len - (k + 1))
          case measure => omega
          case rel => exact ⟨k + 1, by omega, rfl, by go_num, by rw [HT.out]; exact H8.out⟩
        . obtain rfl : len = k := by omega
          have htk : j2.take len = j2 := by rw [HLN.out, List.take_length]
          rw [htk] at HK; have hzr := (HK.out.b.block w.heap.size (by omega)).trans H1.out.2.1; have fz := fun o => frozen_of_block hzr o; have y0 := cellOf hzr 0 _ rfl; have y1 := cellOf hzr 1 _ rfl; have HZ := H_ hzr; clear hzr; have HBL := H_ (show (backS l j2).length = len by rw [backS_len, HLN.out]); go_wp2_with fail; refine bodyPost_ret (results_cell_row rfl _ _ w.heap.size 186 _ (0, 0) _ rfl (set2v HZ.out _ _) Tryz.underlying186 rfl rans_cells) rfl ?_; rw [HR.out]; refine ⟨_, rfl, ?_⟩; have hL : Laid 91 2 w wr (.slice sb len cb) len (oV (backS l j2)) := ⟨HK.out.r, H1.out.1.b.trans (HK.out.b.mono H1.out.1.b.size), fun g hg => by have := HK.out.f g hg; omega⟩; rw [HBL.out]; exact hL.put (fun g hg => by have := HK.out.f g hg; omega) (Nat.le_refl _) _ _
     . have dn : decide (C.fl <= st.naks) = false := by simpa using hn
       have HR := H_ (show R = (j1, j2) by rw [HJ.out, if_neg (fun h => hn h.2.2)]); subst h3; clear hf hn HJ; refine hatH 0 rfl (by rintro W ⟨h0, h1⟩; go_simp; try rfl) HSv ?_; simp only [aZ, aC, aD]; refine hatH 1 rfl (by rintro W ⟨h0, h1⟩; go_simp; try rfl) HSv ?_; simp only [aZ, aC, aD]; refine hatH 2 rfl (by rintro W ⟨h0, h1⟩; go_simp; try rfl) HSv ?_; simp only [aZ, aC, aD]; refine hatH 3 rfl (by rintro W ⟨h0, h1⟩; go_simp; try rfl) HSv ?_; simp only [aZ, aC, aD]; refine hatH 4 rfl (by rintro W ⟨h0, h1⟩; go_simp; try rfl) HSv ?_; simp only [aZ, aC, aD]; refine hatH 5 rfl (by rintro W ⟨h0, h1⟩; go_simp; try rfl) HSv ?_; simp only [aZ, aC, aD]; refine hatH 6 rfl (by rintro W ⟨h0, h1⟩; go_simp; try rfl) HSv ?_; simp only [aZ, aC, aD]; refine hatH 7 rfl (by rintro W ⟨h0, h1⟩; go_simp; try rfl) HSv ?_; simp only [aZ, aC, aD]; refine hatH 8 rfl (by rintro W ⟨h0, h1⟩; go_simp; try rfl) HSv ?_; simp only [aZ, aC, aD]; refine hatH 9 rfl (by rintro W ⟨h0, h1⟩; go_simp; try rfl) HSv ?_; simp only [aZ, aC, aD]; refine hatH 10 rfl (by rintro W ⟨h0, h1⟩; go_simp; try rfl) HSv ?_; simp only [aZ, aC, aD]; refine hatH 11 rfl (by rintro W ⟨h0, h1⟩; go_simp; try rfl) HSv ?_; simp only [aZ, aC, aD]; refine hatH 12 rfl (by rintro W ⟨h0, h1⟩; go_simp; try rfl) HSv ?_; simp only [aZ, aC, aD]; refine hatH 13 rfl (by rintro W ⟨h0, h1⟩; go_simp; try rfl) HSv ?_; simp only [aZ, aC, aD]; refine hatH 14 rfl (by rintro W ⟨h0, h1⟩; go_simp; try rfl) HSv ?_; simp only [aZ, aC, aD]; refine hatH 15 rfl (by rintro W ⟨h0, h1⟩; go_simp; try rfl) HSv ?_; simp only [aZ, aC, aD]; refine hatH 16 rfl (by rintro W ⟨h0, h1⟩; go_simp; try rfl) HSv ?_; simp only [aZ, aC, aD]; refine hatH 17 rfl (by rintro W ⟨h0, h1⟩; go_simp; try rfl) HSv ?_; simp only [aZ, aC, aD]; refine hatH 18 rfl (by rintro W ⟨h0, h1⟩; go_simp; try rfl) HSv ?_; simp only [aZ, aC, aD]; refine hatH 19 rfl (by rintro W ⟨h0, h1⟩; go_simp; try rfl) HSv ?_; simp only [aZ, aC, aD]; refine hatH 20 rfl (by rintro W ⟨h0, h1⟩; go_simp; try rfl) HSv ?_; simp only [aZ, aC, aD]; refine hatH 21 rfl (by rintro W ⟨h0, h1⟩; go_simp; try rfl) HSv ?_; simp only [aZ, aC, aD]; refine hend 22 ?_; simp only [aF, aG]; have fz := fun o => frozen_of_block H1.out.2.1 o; have y0 := cellOf H1.out.2.1 0 _ rfl; have y1 := cellOf H1.out.2.1 1 _ rfl; go_wp2_with fail; refine bodyPost_ret (results_cell_row rfl _ _ w.heap.size 186 _ (0, 0) _ rfl (set2v H1.out.2.1 _ _) Tryz.underlying186 rfl rans_cells) rfl ?_; rw [HR.out]; exact ⟨_, rfl, (H1.out.1.put HNB.out (Nat.le_refl _) _ _).drewn⟩
   . have df : decide (0 < C.fl) = false := by simpa using hf
     have HR := H_ (show R = (j1, j2) by rw [HJ.out, if_neg (fun h => hf h.2.1)]); subst h3; clear hf HJ; refine hatH 0 rfl (by rintro W ⟨h0, h1⟩; go_simp; try rfl) HSv ?_; simp only [aZ, aC, aD]; refine hatH 1 rfl (by rintro W ⟨h0, h1⟩; go_simp; try rfl) HSv ?_; simp only [aZ, aC, aD]; refine hatH 2 rfl (by rintro W ⟨h0, h1⟩; go_simp; try rfl) HSv ?_; simp only [aZ, aC, aD]; refine hatH 3 rfl (by rintro W ⟨h0, h1⟩; go_simp; try rfl) HSv ?_; simp only [aZ, aC, aD]; refine hatH 4 rfl (by rintro W ⟨h0, h1⟩; go_simp; try rfl) HSv ?_; simp only [aZ, aC, aD]; refine hatH 5 rfl (by rintro W ⟨h0, h1⟩; go_simp; try rfl) HSv ?_; simp only [aZ, aC, aD]; refine hatH 6 rfl (by rintro W ⟨h0, h1⟩; go_simp; try rfl) HSv ?_; simp only [aZ, aC, aD]; refine hatH 7 rfl (by rintro W ⟨h0, h1⟩; go_simp; try rfl) HSv ?_; simp only [aZ, aC, aD]; refine hatH 8 rfl (by rintro W ⟨h0, h1⟩; go_simp; try rfl) HSv ?_; simp only [aZ, aC, aD]; refine hatH 9 rfl (by rintro W ⟨h0, h1⟩; go_simp; try rfl) HSv ?_; simp only [aZ, aC, aD]; refine hatH 10 rfl (by rintro W ⟨h0, h1⟩; go_simp; try rfl) HSv ?_; simp only [aZ, aC, aD]; refine hskp 11 rfl HSv ?_; simp only [aZ, aA, aE, aB, aC, aD]; refine hskp 12 rfl HSv ?_; simp only [aZ, aA, aE, aB, aC, aD]; refine hskp 13 rfl HSv ?_; simp only [aZ, aA, aE, aB, aC, aD]; refine hskp 14 rfl HSv ?_; simp only [aZ, aA, aE, aB, aC, aD]; refine hskp 15 rfl HSv ?_; simp only [aZ, aA, aE, aB, aC, aD]; refine hskp 16 rfl HSv ?_; simp only [aZ, aA, aE, aB, aC, aD]; refine hskp 17 rfl HSv ?_; simp only [aZ, aA, aE, aB, aC, aD]; refine hskp 18 rfl HSv ?_; simp only [aZ, aA, aE, aB, aC, aD]; refine hskp 19 rfl HSv ?_; simp only [aZ, aA, aE, aB, aC, aD]; refine hskp 20 rfl HSv ?_; simp only [aZ, aA, aE, aB, aC, aD]; refine hatH 21 rfl (by rintro W ⟨h0, h1⟩; go_simp; try rfl) HSv ?_; simp only [aZ, aC, aD]; refine hend 22 ?_; simp only [aF, aG]; have fz := fun o => frozen_of_block H1.out.2.1 o; have y0 := cellOf H1.out.2.1 0 _ rfl; have y1 := cellOf H1.out.2.1 1 _ rfl; go_wp2_with fail; refine bodyPost_ret (results_cell_row rfl _ _ w.heap.size 186 _ (0, 0) _ rfl (set2v H1.out.2.1 _ _) Tryz.underlying186 rfl rans_cells) rfl ?_; rw [HR.out]; exact ⟨_, rfl, (H1.out.1.put HNB.out (Nat.le_refl _) _ _).drewn⟩
 . have d3 : (j1 == 3) = false := by simpa using h3
   have HR := H_ (show R = (j1, j2) by rw [HJ.out, if_neg (fun h => h3 h.1)]); clear h3 HJ; refine hatH 0 rfl (by rintro W ⟨h0, h1⟩; go_simp; try rfl) HSv ?_; simp only [aZ, aC, aD]; refine hatH 1 rfl (by rintro W ⟨h0, h1⟩; go_simp; try rfl) HSv ?_; simp only [aZ, aC, aD]; refine hatH 2 rfl (by rintro W ⟨h0, h1⟩; go_simp; try rfl) HSv ?_; simp only [aZ, aC, aD]; refine hskp 3 rfl HSv ?_; simp only [aZ, aA, aE, aB, aC, aD]; refine hskp 4 rfl HSv ?_; simp only [aZ, aA, aE, aB, aC, aD]; refine hskp 5 rfl HSv ?_; simp only [aZ, aA, aE, aB, aC, aD]; refine hskp 6 rfl HSv ?_; simp only [aZ, aA, aE, aB, aC, aD]; refine hskp 7 rfl HSv ?_; simp only [aZ, aA, aE, aB, aC, aD]; refine hskp 8 rfl HSv ?_; simp only [aZ, aA, aE, aB, aC, aD]; refine hatH 9 rfl (by rintro W ⟨h0, h1⟩; go_simp; try rfl) HSv ?_; simp only [aZ, aC, aD]; refine hatH 10 rfl (by rintro W ⟨h0, h1⟩; go_simp; try rfl) HSv ?_; simp only [aZ, aC, aD]; refine hskp 11 rfl HSv ?_; simp only [aZ, aA, aE, aB, aC, aD]; refine hskp 12 rfl HSv ?_; simp only [aZ, aA, aE, aB, aC, aD]; refine hskp 13 rfl HSv ?_; simp only [aZ, aA, aE, aB, aC, aD]; refine hskp 14 rfl HSv ?_; simp only [aZ, aA, aE, aB, aC, aD]; refine hskp 15 rfl HSv ?_; simp only [aZ, aA, aE, aB, aC, aD]; refine hskp 16 rfl HSv ?_; simp only [aZ, aA, aE, aB, aC, aD]; refine hskp 17 rfl HSv ?_; simp only [aZ, aA, aE, aB, aC, aD]; refine hskp 18 rfl HSv ?_; simp only [aZ, aA, aE, aB, aC, aD]; refine hskp 19 rfl HSv ?_; simp only [aZ, aA, aE, aB, aC, aD]; refine hskp 20 rfl HSv ?_; simp only [aZ, aA, aE, aB, aC, aD]; refine hatH 21 rfl (by rintro W ⟨h0, h1⟩; go_simp; try rfl) HSv ?_; simp only [aZ, aC, aD]; refine hend 22 ?_; simp only [aF, aG]; have fz := fun o => frozen_of_block H1.out.2.1 o; have y0 := cellOf H1.out.2.1 0 _ rfl; have y1 := cellOf H1.out.2.1 1 _ rfl; go_wp2_with fail; refine bodyPost_ret (results_cell_row rfl _ _ w.heap.size 186 _ (0, 0) _ rfl (set2v H1.out.2.1 _ _) Tryz.underlying186 rfl rans_cells) rfl ?_; rw [HR.out]; exact ⟨_, rfl, (H1.out.1.put HNB.out (Nat.le_refl _) _ _).drewn⟩
end
set_option maxRecDepth 100000 in
theorem subset9_any (l req : List Opt) (lv rv : Value) (ok ok2 : Nat -> Prop) (w : World) (hl : Opts w ok lv l) (hr : Opts w ok2 rv req) (hml : l.length <= 1000000) (hmr : req.length <= 1000000) :
 Calls Tryz.prog 172 #[lv, rv] w fun e w' => e = .returned (.bool (wB req l)) /\ Below w.heap.size w w' := by
 obtain ⟨sa, c, rfl, hc, hm⟩ := hl.form; obtain ⟨sb, d, rfl, hd, hn⟩ := hr.form; have H := H_ (A_ hl hr); clear hl hr; obtain ⟨len, hln⟩ : ∃ len, len = l.length := ⟨_, rfl⟩; obtain ⟨m, hlm⟩ : ∃ m, m = req.length := ⟨_, rfl⟩; have HLN := H_ (A_ hln hlm); rw [<- hln] at hc hml ⊢; rw [<- hlm] at hd hmr ⊢; clear hln hlm; have HB := H_ (rfl : wB req l = wB req l); generalize hbb : wB req l = bb at HB ⊢; have HBB := H_ hbb; clear hbb HB; go_enter Tryz.func172, Tryz.ntmps172; go_wp2_with fail
 go_loopg [5, 6] len (fun x at' i wr => ∃ k a : Nat, k <= len /\ a <= m /\ x = len - k /\ i = .int .i64 k /\ at' = .int .i64 a /\ Hid (Below w.heap.size w wr /\ wB (req.drop a) (l.drop k) = bb))
 case atStart => exact ⟨0, 0, by omega, by omega, by omega, rfl, rfl, Below.refl _ _, HBB.out⟩
 case round =>
  obtain ⟨k, a, hk, ha, rfl, rfl, rfl, hK⟩ := hrel; have HK := H_ hK.out; clear hK
  by_cases hkl : k < len
  . have h1 : k < l.length := by have := HLN.out.1; omega
    obtain ⟨g, off, rfl, hg, -, -, -, -, c0, c1⟩ := H.out.1.at k h1; have HC := H_ (fun W (hW : Below w.heap.size w W) => A_ ((hW.cell (p := ⟨g, off + k * 2, none⟩) hg).trans c0) ((hW.cell (p := ⟨g, off + k * 2 + 1, none⟩) hg).trans c1)); have HDK := H_ (show l.drop k = l[k] :: l.drop (k + 1) from List.drop_eq_getElem_cons h1); clear c0 c1; generalize l[k] = o at *; obtain ⟨ot, ov⟩ := o; simp only at HC
    go_wp2_with fail
    go_loopg [5] (m - a) (fun x at' wr => ∃ q : Nat, q <= m /\ x = m - q /\ at' = .int .i64 q /\ Hid (Below w.heap.size w wr /\ wB (req.drop q) (⟨ot, ov⟩ :: l.drop (k + 1)) = bb))
    case atStart => exact ⟨a, by omega, by omega, rfl, HK.out.1, by rw [<- HDK.out]; exact HK.out.2⟩
    case round =>
     obtain ⟨q, hq, rfl, rfl, hQ⟩ := hrel; have HQ := H_ hQ.out; clear hQ
     by_cases hqm : q < m
     . have h2 : q < req.length := by have := HLN.out.2; omega
       obtain ⟨g', off', rfl, hg', -, -, -, -, c2, c3⟩ := H.out.2.at q h2; have d2 : wr.cell? ⟨g', off' + q * 2, none⟩ = _ := (HQ.out.1.cell (p := ⟨g', off' + q * 2, none⟩) hg').trans c2; have d3 : wr.cell? ⟨g', off' + q * 2 + 1, none⟩ = _ := (HQ.out.1.cell (p := ⟨g', off' + q * 2 + 1, none⟩) hg').trans c3; obtain ⟨d0, d1⟩ := HC.out wr HQ.out.1; have HW := H_ (wB_at req ⟨ot, ov⟩ (l.drop (k + 1)) q h2); clear c2 c3; generalize req[q] = r at *; obtain ⟨rt, rv⟩ := r; simp only at d2 d3
       obtain ⟨y, hy⟩ : ∃ y : Bool, y = eqB ⟨rt, rv⟩ ⟨ot, ov⟩ := ⟨_, rfl⟩; have hn : ∀ w, (binOp .neq 91 (.agg #[.int .i64 rt, .string rv]) (.agg #[.int .i64 ot, .string ov])).run Tryz.prog w = .ok (.bool (!y)) w := fun w => by rw [neqO, hy]; rfl
       rw [<- hy] at HW; clear hy
       cases y with
       | true =>
        have HW2 := H_ (show wB (req.drop (q + 1)) (l.drop (k + 1)) = bb from by rw [<- HQ.out.2, HW.out]; rfl); go_wp2_with fail
        go_quiet (fail)
        go_wp2_with fail
        go_roundg (len - (k + 1))
        case measure => omega
        case rel => exact ⟨k + 1, q + 1, by omega, by omega, rfl, by go_num, by go_num, belowN HQ.out.1 _, HW2.out⟩
       | false =>
        have HW2 := H_ (show wB (req.drop (q + 1)) (⟨ot, ov⟩ :: l.drop (k + 1)) = bb from by rw [<- HQ.out.2, HW.out]; rfl); go_wp2_with fail
        go_quiet (fail)
        go_wp2_with fail
        go_roundg (m - (q + 1))
        case measure => omega
        case rel => exact ⟨q + 1, by omega, rfl, by go_num, belowN HQ.out.1 _, HW2.out⟩
     . obtain rfl : m = q := by omega
       have HE := H_ (show bb = false from by rw [<- HQ.out.2]; exact wB_end req _ _ m (by have := HLN.out.2; omega)); have dd : decide ((m : Int) < (m : Int)) = false := by simp
       go_wp2_with fail
       go_quiet (fail)
       go_wp2_with fail; go_ret; exact ⟨by rw [HE.out]; rfl, belowN HQ.out.1 _⟩
  . obtain rfl : len = k := by omega
    have HE := H_ (show bb = true from by
     have e : l.drop len = [] := List.drop_of_length_le (by have := HLN.out.1; omega)
     rw [<- HK.out.2, e]; exact wB_nil _)
    go_wp2_with fail; go_ret; exact ⟨by rw [HE.out]; rfl, HK.out.1⟩
section
variable {w : World} {S ok : Nat -> Prop} {b : Nat} {C : NegC} {st : NSt} {X : RX}
set_option maxRecDepth 100000 in
theorem nak9_at (o : Opt) (h : RNAt w S b C st X) (hos : o.v.size <= 100000) :
 Calls Tryz.prog 174 #[.pointer (some ⟨b, 0, none⟩), .agg #[.int .i64 o.t, .string o.v]] w fun e w' => e = .returned (.tuple #[]) /\ RNV w' (Grow S w) b C { st with req := nakR C st.req o } /\ Keep (· = b) w w' := by
 obtain ⟨ot, ov⟩ := o; simp only at hos
 have hb1 := b1 w (.cells #[.int .i64 ot, .string ov] 91 (0, 0)); have hz1 := heap_alloc_new w (.cells #[.int .i64 ot, .string ov] 91 (0, 0)); have hs1 : (w.alloc (.cells #[.int .i64 ot, .string ov] 91 (0, 0))).heap.size = w.heap.size + 1 := alloc1 _ _; have H := H_ (A_ h (A_ hb1 (A_ (h.below hb1) hz1))); have hblt := h.blt; obtain ⟨len, hln⟩ : ∃ len, len = st.req.length := ⟨_, rfl⟩; have hlr := h.lr; rw [<- hln] at hlr; obtain ⟨sq, kq, hqe, hqc, -⟩ := h.ask.form; obtain ⟨so, ko, hoe, -, -⟩ := h.own.form; obtain ⟨sm, km, hme, -, -⟩ := h.must.form; have HLN := H_ (A_ hln (A_ hqe (A_ hoe hme))); rw [<- hln] at hqc; clear h hb1 hz1 hln hqe hoe hme; go_enter Tryz.func174, Tryz.ntmps174; go_wp2_with fail; generalize w.alloc (.cells #[.int .i64 ot, .string ov] 91 (0, 0)) = w1 at *
 have HCA : Hid (∀ W, Below w1.heap.size w1 W -> W.cell? ⟨b, 12, none⟩ = some (.slice sq len kq) /\ W.cell? ⟨b, 1, none⟩ = some (.slice so C.own.length ko) /\ W.cell? ⟨b, 3, none⟩ = some (.slice sm C.must.length km) /\ W.cell? ⟨b, 21, none⟩ = some (.pointer none) /\ W.cell? ⟨w.heap.size, 0, none⟩ = some (.int .i64 ot) /\ W.cell? ⟨w.heap.size, 1, none⟩ = some (.string ov)) := H_ fun W hW => by
  have h := H.out.2.2.1.below hW; have hz := (hW.block w.heap.size (by omega)).trans H.out.2.2.2; exact ⟨(h.cell 12).trans (by rw [HLN.out.1, <- HLN.out.2.1]; rfl), (h.cell 1).trans (by rw [<- HLN.out.2.2.1]; rfl), (h.cell 3).trans (by rw [<- HLN.out.2.2.2]; rfl), h.cell 21, cellOf hz 0 _ rfl, cellOf hz 1 _ rfl⟩
 have hAO : Opts w1 (fun _ => True) (.slice sq len kq) st.req := by
  have h := H.out.2.2.1.ask; rw [HLN.out.2.1, <- HLN.out.1] at h; exact Rec.mono (brow_opts (by rw [<- HLN.out.1]; exact h) (by have := HLN.out.1; omega)) (fun _ _ => trivial)
 have HAO := H_ hAO; clear hAO
 have HRU := H_ (fun W (hW : Below w1.heap.size w1 W) => rule9_any C.own (.slice so C.own.length ko) (fun _ => True) ot W (by
  have h := (H.out.2.2.1.own.below hW); rw [HLN.out.2.2.1] at h
  exact Rec.mono (RRow.rls (B := 0) h (by have := H.out.1.ok.own; unfold maxLen; omega)) (fun _ _ => trivial)) (by have := H.out.1.ok.own; omega))
 have HMU := H_ (fun W (hW : Below w1.heap.size w1 W) => must9_any C.must (.slice sm C.must.length km) ot W (by
  have h := (H.out.2.2.1.must.below hW).rd; rw [HLN.out.2.2.2] at h
  exact h) (by have := H.out.1.ok.must; omega))
 have HNO : Hid (∀ x, nakOne C ⟨ot, ov⟩ x = if x.t = ot then (if (findR C.own ot).isSome && fitsR (ruleOf C.own ot) ov then [⟨x.t, ov⟩] else if hasB C.must ot then [x] else []) else [x]) := H_ fun x => rfl; generalize ruleOf C.own ot = ru at *; generalize (findR C.own ot).isSome = yb at *; obtain ⟨r1, r2, r3, r4, r5⟩ := ru; simp only at HRU
 generalize hasB C.must ot = mb at *; generalize hfb : fitsR ⟨r1, r2, r3, r4, r5⟩ ov = fb at *; have HFB := H_ hfb; clear hfb
 go_loopg [4, 5] len (fun x lv i wr => ∃ k n : Nat, k <= len /\ n <= k /\ x = len - k /\ i = .int .i64 k /\ n = (nakR C (st.req.take k) ⟨ot, ov⟩).length /\ Hid (Laid 91 2 w1 wr lv n (oV (nakR C (st.req.take k) ⟨ot, ov⟩))))
 case atStart => exact ⟨0, 0, by omega, by omega, by omega, rfl, rfl, BRow.nil _ _ _, Below.refl _ _, fun g h => by cases h⟩
 case round =>
  obtain ⟨k, n, hk, hnk, rfl, rfl, hn, hK⟩ := hrel; have HK := H_ hK.out; obtain ⟨sl, cl, rfl, hcl, -⟩ := hK.out.r.form; have HN := H_ hn; have hsz := hK.out.b.size; obtain ⟨a12, a1, a3, a21, a0, a0v⟩ := HCA.out wr hK.out.b; clear hK hn
  by_cases hkl : k < len
  . have hkx : k < st.req.length := by have := HLN.out.1; omega
    obtain ⟨g, off, rfl, hg, -, -, -, -, c0, c1⟩ := HAO.out.at k hkx; have d0 : wr.cell? ⟨g, off + k * 2, none⟩ = _ := (HK.out.b.cell (p := ⟨g, off + k * 2, none⟩) hg).trans c0; have d1 : wr.cell? ⟨g, off + k * 2 + 1, none⟩ = _ := (HK.out.b.cell (p := ⟨g, off + k * 2 + 1, none⟩) hg).trans c1; have HT := H_ (show nakR C (st.req.take (k + 1)) ⟨ot, ov⟩ = nakR C (st.req.take k) ⟨ot, ov⟩ ++ nakOne C ⟨ot, ov⟩ st.req[k] from by rw [List.take_succ_eq_append_getElem hkx, nakR_snoc]); have HNX := H_ (HNO.out st.req[k]); clear c0 c1; generalize st.req[k] = x at *; obtain ⟨xt, xv⟩ := x; simp only at d0 d1 HNX
    have hb2 := b1 wr (.cells #[.int .i64 xt, .string xv] 91 (0, 0)); have HX2 := H_ (heap_alloc_new wr (.cells #[.int .i64 xt, .string xv] 91 (0, 0))); have hs2 : (wr.alloc (.cells #[.int .i64 xt, .string xv] 91 (0, 0))).heap.size = wr.heap.size + 1 := alloc1 _ _; have HB2 := H_ (HK.out.b.trans (hb2.mono HK.out.b.size)); have HL2 := H_ (show Laid 91 2 w1 (wr.alloc (.cells #[.int .i64 xt, .string xv] 91 (0, 0))) (.slice sl n cl) n (oV (nakR C (st.req.take k) ⟨ot, ov⟩)) from ⟨HK.out.r.below hb2, HK.out.b.trans (hb2.mono HK.out.b.size), HK.out.f⟩); obtain ⟨f12, f1, f3, f21, f0, f0v⟩ := HCA.out _ HB2.out; clear hb2
    by_cases hxt : xt = ot
    . have q : (xt == ot) = true := by simpa using hxt
      have HNX := H_ (HNX.out.trans (if_pos hxt)); clear q; subst hxt; go_wp2_with fail; refine wp_region_H (rgH 0 14) (fun Y : World => Y.cell? ⟨b, 1, none⟩ = some (.slice so C.own.length ko) /\ Y.cell? ⟨w.heap.size, 0, none⟩ = some (.int .i64 xt)) (by kernel_rfl) ?_; have HSv : (fun Y : World => Y.cell? ⟨b, 1, none⟩ = some (.slice so C.own.length ko) /\ Y.cell? ⟨w.heap.size, 0, none⟩ = some (.int .i64 xt)) (wr.alloc (.cells #[.int .i64 xt, .string xv] 91 (0, 0))).drew := ⟨f1, f0⟩; have HB3 := H_ (show Below (wr.alloc (.cells #[.int .i64 xt, .string xv] 91 (0, 0))).heap.size (wr.alloc (.cells #[.int .i64 xt, .string xv] 91 (0, 0))) (wr.alloc (.cells #[.int .i64 xt, .string xv] 91 (0, 0))).drew from (Below.refl _ _).drew); generalize hw2 : wr.alloc (.cells #[.int .i64 xt, .string xv] 91 (0, 0)) = w2 at *; generalize w2.drew = w3 at *; refine hatH 0 rfl (by rintro W ⟨h0, h1⟩; go_simp; try rfl) HSv ?_; simp only [aZ, aC, aD]; refine hatH 1 rfl (by rintro W ⟨h0, h1⟩; go_simp; try rfl) HSv ?_; simp only [aZ, aC, aD]; refine hatH 2 rfl (by rintro W ⟨h0, h1⟩; go_simp; try rfl) HSv ?_; simp only [aZ, aC, aD]; refine hatH 3 rfl (by rintro W ⟨h0, h1⟩; go_simp; try rfl) HSv ?_; simp only [aZ, aC, aD]; refine hatH 4 rfl (by rintro W ⟨h0, h1⟩; go_simp; try rfl) HSv ?_; simp only [aZ, aC, aD]; refine hatH 5 rfl (by rintro W ⟨h0, h1⟩; go_simp; try rfl) HSv ?_; simp only [aZ, aC, aD]; refine hatH 6 rfl (by rintro W ⟨h0, h1⟩; go_simp; try rfl) HSv ?_; simp only [aZ, aC, aD]; refine wpAnyH_2 7 11 rfl rfl (by kernel_rfl) ?_ ?_
      . intro K hK; rw [if_pos (by rfl)]
        try go_simp
        go_at_call 145; refine (HRU.out _ (HB2.out.trans (HB3.out.mono HB2.out.size))).mono ?_; rintro e w4 ⟨rfl, hb4⟩; have HB4 := H_ (HB3.out.trans (hb4.mono HB3.out.size)); have HK4 := H_ hb4; have HSv : (fun Y : World => Y.cell? ⟨b, 1, none⟩ = some (.slice so C.own.length ko) /\ Y.cell? ⟨w.heap.size, 0, none⟩ = some (.int .i64 xt)) w4 := ⟨(HCA.out w4 (HB2.out.trans (HB4.out.mono HB2.out.size))).2.1, (HCA.out w4 (HB2.out.trans (HB4.out.mono HB2.out.size))).2.2.2.2.1⟩; clear hb4; refine hK _ _ (fun _ => HSv) ?_
        try simp only [aZ, aA, aE, aB, aC, aD]
        refine hatH 8 rfl (by rintro W ⟨h0, h1⟩; go_simp; try rfl) HSv ?_; simp only [aZ, aC, aD]; refine hatH 9 rfl (by rintro W ⟨h0, h1⟩; go_simp; try rfl) HSv ?_; simp only [aZ, aC, aD]; refine hatH 10 rfl (by rintro W ⟨h0, h1⟩; go_simp; try rfl) HSv ?_; simp only [aZ, aC, aD]; refine hone 11 rfl fun K hK => ?_
        try go_simp
        have HB5 := H_ (HB4.out.trans ((b1 w4 (.cells #[.int .i64 0, .int .i64 0, .int .i64 0, .int .i64 0, .string ⟨#[]⟩] 64 (0, 0))).mono HB4.out.size)); have HZ5 := H_ (heap_alloc_new w4 (.cells #[.int .i64 0, .int .i64 0, .int .i64 0, .int .i64 0, .string ⟨#[]⟩] 64 (0, 0))); have HR5 := H_ (rfl : w4.heap.size = w4.heap.size); have HSv : (fun Y : World => Y.cell? ⟨b, 1, none⟩ = some (.slice so C.own.length ko) /\ Y.cell? ⟨w.heap.size, 0, none⟩ = some (.int .i64 xt)) (w4.alloc (.cells #[.int .i64 0, .int .i64 0, .int .i64 0, .int .i64 0, .string ⟨#[]⟩] 64 (0, 0))) := ⟨(HCA.out _ (HB2.out.trans (HB5.out.mono HB2.out.size))).2.1, (HCA.out _ (HB2.out.trans (HB5.out.mono HB2.out.size))).2.2.2.2.1⟩; refine hK _ _ (fun _ => HSv) ?_
        try simp only [aZ, aA, aE, aB, aC, aD]
        clear HB5 HZ5 HR5; refine hone 12 rfl fun K hK => ?_
        try go_simp
        have HB := H_ (HB4.out.trans ((b1 w4 (.cells #[.int .i64 r1, .int .i64 r2, .int .i64 r3, .int .i64 r4, .string r5] 64 (0, 0))).mono HB4.out.size)); have HBX := H_ (heap_alloc_new w4 (.cells #[.int .i64 r1, .int .i64 r2, .int .i64 r3, .int .i64 r4, .string r5] 64 (0, 0))); have HSv : (fun Y : World => Y.cell? ⟨b, 1, none⟩ = some (.slice so C.own.length ko) /\ Y.cell? ⟨w.heap.size, 0, none⟩ = some (.int .i64 xt)) (w4.alloc (.cells #[.int .i64 r1, .int .i64 r2, .int .i64 r3, .int .i64 r4, .string r5] 64 (0, 0))) := ⟨(HCA.out _ (HB2.out.trans (HB.out.mono HB2.out.size))).2.1, (HCA.out _ (HB2.out.trans (HB.out.mono HB2.out.size))).2.2.2.2.1⟩; generalize w4.alloc (.cells #[.int .i64 r1, .int .i64 r2, .int .i64 r3, .int .i64 r4, .string r5] 64 (0, 0)) = w6 at *; refine hK _ _ (fun _ => HSv) ?_
        try simp only [aZ, aA, aE, aB, aC, aD]
        refine hatH 13 rfl (by rintro W ⟨h0, h1⟩; go_simp; try rfl) HSv ?_; simp only [aZ, aC, aD]; refine hend 14 ?_; simp only [aF, aG]; have HB4 := H_ (HB2.out.trans (HB.out.mono HB2.out.size)); have HX4 := H_ ((HB.out.block _ (Array.getElem?_eq_some_iff.1 HX2.out).1).trans HX2.out); have HL4 := H_ (show Laid 91 2 w1 w6 (.slice sl n cl) n (oV (nakR C (st.req.take k) ⟨xt, ov⟩)) from ⟨HL2.out.r.below HB.out, HL2.out.b.trans (HB.out.mono HL2.out.b.size), HL2.out.f⟩); obtain ⟨g12, g1, g3, g21, g0, g0v⟩ := HCA.out w6 HB4.out
        cases yb with
        | false =>
         have HNX2 := H_ (show nakOne C ⟨xt, ov⟩ ⟨xt, xv⟩ = if mb = true then [⟨xt, xv⟩] else [] from by rw [HNX.out]; simp); have HB5 := HB4; have HX5 := HX4; have HL5 := HL4; go_wp2_with fail; refine wp_region_H (rgH 0 10) (fun Y : World => Y.cell? ⟨b, 3, none⟩ = some (.slice sm C.must.length km) /\ Y.cell? ⟨w.heap.size, 0, none⟩ = some (.int .i64 xt)) (by kernel_rfl) ?_; have HSv : (fun Y : World => Y.cell? ⟨b, 3, none⟩ = some (.slice sm C.must.length km) /\ Y.cell? ⟨w.heap.size, 0, none⟩ = some (.int .i64 xt)) w6.drew := ⟨(HCA.out _ (HB5.out.drew)).2.2.1, (HCA.out _ (HB5.out.drew)).2.2.2.2.1⟩; refine hatH 0 rfl (by rintro W ⟨h0, h1⟩; go_simp; try rfl) HSv ?_; simp only [aZ, aC, aD]; refine hatH 1 rfl (by rintro W ⟨h0, h1⟩; go_simp; try rfl) HSv ?_; simp only [aZ, aC, aD]; refine hatH 2 rfl (by rintro W ⟨h0, h1⟩; go_simp; try rfl) HSv ?_; simp only [aZ, aC, aD]; refine hatH 3 rfl (by rintro W ⟨h0, h1⟩; go_simp; try rfl) HSv ?_; simp only [aZ, aC, aD]; refine hatH 4 rfl (by rintro W ⟨h0, h1⟩; go_simp; try rfl) HSv ?_; simp only [aZ, aC, aD]; refine hatH 5 rfl (by rintro W ⟨h0, h1⟩; go_simp; try rfl) HSv ?_; simp only [aZ, aC, aD]; refine hatH 6 rfl (by rintro W ⟨h0, h1⟩; go_simp; try rfl) HSv ?_; simp only [aZ, aC, aD]; refine hone 7 rfl fun K hK => ?_
         try go_simp
         go_at_call 173; refine (HMU.out _ HB5.out.drew).mono ?_; rintro e w6 ⟨rfl, rfl⟩; refine hK _ _ (fun _ => HSv) ?_
         try simp only [aZ, aA, aE, aB, aC, aD]
         refine hatH 8 rfl (by rintro W ⟨h0, h1⟩; go_simp; try rfl) HSv ?_; simp only [aZ, aC, aD]; refine hatH 9 rfl (by rintro W ⟨h0, h1⟩; go_simp; try rfl) HSv ?_; simp only [aZ, aC, aD]; refine hend 10 ?_; simp only [aF, aG]; have HL6 := H_ (show Laid 91 2 w1 w6.drew (.slice sl n cl) n (oV (nakR C (st.req.take k) ⟨xt, ov⟩)) from ⟨HL5.out.r.below (Below.refl _ _).drew, HL5.out.b.drew, HL5.out.f⟩); have x60 := cellOf (T := 91) (fz := (0, 0)) (w := w6.drew) HX5.out 0 _ rfl; have x61 := cellOf (T := 91) (fz := (0, 0)) (w := w6.drew) HX5.out 1 _ rfl
         cases mb with
         | true =>
          have HNX3 := H_ (HNX2.out.trans (if_pos rfl))
          go_wp2_with (at_builtin; go_loud (refine wpl_append_rec opt_row rfl _ _ rfl _ _ (oV (nakR C (st.req.take k) ⟨xt, ov⟩)) rfl (HL6.out.r.below (b1 _ _)) _ _ [.int .i64 xt, .string xv] rfl (cell_of_at _ _ _ (by first | rfl | omega)) rfl (fun u hu => by simp only [List.mem_cons, List.not_mem_nil, or_false] at hu; rcases hu with rfl | rfl <;> rfl) (by omega) ?_; intro g8 c8 w8 h8 k8 o8; have H8 := H_ (HL6.out.app (b1 _ _) h8 k8 (o8.imp (fun h => h.symm) (fun h => by rw [h]; rfl))); clear h8 k8 o8))
          go_roundg (len - (k + 1))
          case measure => omega
          case rel => exact ⟨k + 1, n + 1, by omega, by omega, rfl, by go_num, by rw [HT.out, HNX3.out, List.length_append, <- HN.out]; rfl, by rw [HT.out, HNX3.out, oV_app]; exact H8.out⟩
         | false =>
          have HNX3 := H_ (HNX2.out.trans (if_neg (by simp))); go_wp2_with fail
          go_roundg (len - (k + 1))
          case measure => omega
          case rel => exact ⟨k + 1, n, by omega, by omega, rfl, by go_num, by rw [HT.out, HNX3.out, List.length_append, <- HN.out]; rfl, by rw [HT.out, HNX3.out, List.append_nil]; exact HL6.out⟩
        | true =>
         have z0 := cellOf HBX.out 0 _ rfl; have z1 := cellOf HBX.out 1 _ rfl; have z2 := cellOf HBX.out 2 _ rfl; have z3 := cellOf HBX.out 3 _ rfl; have z4 := cellOf HBX.out 4 _ rfl; have HFI := H_ (fits9_any ⟨r1, r2, r3, r4, r5⟩ ov w6 hos); simp only at HFI
         rw [HFB.out] at HFI
         cases fb with
         | true =>
          have HNX2 := H_ (show nakOne C ⟨xt, ov⟩ ⟨xt, xv⟩ = [⟨xt, ov⟩] from by rw [HNX.out]; simp); go_wp2_with fail; refine HFI.out.mono ?_; rintro e w5 ⟨rfl, hb5⟩; have HB5 := H_ (HB4.out.trans (hb5.mono HB4.out.size)); have HX5 := H_ ((hb5.block _ (Array.getElem?_eq_some_iff.1 HX4.out).1).trans HX4.out); have HL5 := H_ (show Laid 91 2 w1 w5 (.slice sl n cl) n (oV (nakR C (st.req.take k) ⟨xt, ov⟩)) from ⟨HL4.out.r.below hb5, HL4.out.b.trans (hb5.mono HL4.out.b.size), HL4.out.f⟩); obtain ⟨k12, k1, k3, k21, k0, k0v⟩ := HCA.out w5 HB5.out; have x0 := cellOf HX5.out 0 _ rfl; have x1 := cellOf HX5.out 1 _ rfl; have xf := fun o => frozen_of_block HX5.out o; clear hb5; have hk6 := (Keep.refl (· = wr.heap.size) w5).setCell ⟨wr.heap.size, 1, none⟩ (Or.inr rfl) (.string ov); have hx6 : (w5.setCell ⟨wr.heap.size, 1, none⟩ (.string ov)).heap[wr.heap.size]? = some (.cells #[.int .i64 xt, .string ov] 91 (0, 0)) := by have := set_block HX5.out 1 (.string ov); simpa using this
          have HB6 := H_ (HB5.out.trans (hk6.below HB5.out.size (fun g hg he => by omega))); have HL6 := H_ (show Laid 91 2 w1 (w5.setCell ⟨wr.heap.size, 1, none⟩ (.string ov)) (.slice sl n cl) n (oV (nakR C (st.req.take k) ⟨xt, ov⟩)) from ⟨HL5.out.r.keep hk6 (fun g hg he => by have := HK.out.r.lt g hg; omega), HB6.out, HL5.out.f⟩); have x60 := cellOf hx6 0 _ rfl; have x61 := cellOf hx6 1 _ rfl; obtain ⟨-, -, -, n21, n0, -⟩ := HCA.out _ HB6.out; have qn : ∀ w, (binOp .neq 106 (.pointer none) (.pointer none)).run Tryz.prog w = .ok (.bool false) w := fun w => by kernel_rfl
          have hsz6 : (w5.setCell ⟨wr.heap.size, 1, none⟩ (.string ov)).heap.size = w5.heap.size := by simp [World.setCell]
          clear hk6 hx6
          go_wp2_with (at_builtin; go_loud (refine wpl_append_rec opt_row rfl _ _ rfl _ _ (oV (nakR C (st.req.take k) ⟨xt, ov⟩)) rfl (HL6.out.r.below (b1 _ _)) _ _ [.int .i64 xt, .string ov] rfl (cell_of_at _ _ _ (by first | rfl | omega)) rfl (fun u hu => by simp only [List.mem_cons, List.not_mem_nil, or_false] at hu; rcases hu with rfl | rfl <;> rfl) (by omega) ?_; intro g8 c8 w8 h8 k8 o8; have H8 := H_ (HL6.out.app (b1 _ _) h8 k8 (o8.imp (fun h => h.symm) (fun h => by rw [h]; rfl))); clear h8 k8 o8))
          go_roundg (len - (k + 1))
          case measure => omega
          case rel => exact ⟨k + 1, n + 1, by omega, by omega, rfl, by go_num, by rw [HT.out, HNX2.out, List.length_append, <- HN.out]; rfl, by rw [HT.out, HNX2.out, oV_app]; exact H8.out⟩
         | false =>
          have HNX2 := H_ (show nakOne C ⟨xt, ov⟩ ⟨xt, xv⟩ = if mb = true then [⟨xt, xv⟩] else [] from by rw [HNX.out]; simp); go_wp2_with fail; refine HFI.out.mono ?_; rintro e w5 ⟨rfl, hb5⟩; have HB5 := H_ (HB4.out.trans (hb5.mono HB4.out.size)); have HX5 := H_ ((hb5.block _ (Array.getElem?_eq_some_iff.1 HX4.out).1).trans HX4.out); have HL5 := H_ (show Laid 91 2 w1 w5 (.slice sl n cl) n (oV (nakR C (st.req.take k) ⟨xt, ov⟩)) from ⟨HL4.out.r.below hb5, HL4.out.b.trans (hb5.mono HL4.out.b.size), HL4.out.f⟩); clear hb5; go_wp2_with fail; refine wp_region_H (rgH 0 10) (fun Y : World => Y.cell? ⟨b, 3, none⟩ = some (.slice sm C.must.length km) /\ Y.cell? ⟨w.heap.size, 0, none⟩ = some (.int .i64 xt)) (by kernel_rfl) ?_; have HSv : (fun Y : World => Y.cell? ⟨b, 3, none⟩ = some (.slice sm C.must.length km) /\ Y.cell? ⟨w.heap.size, 0, none⟩ = some (.int .i64 xt)) w5.drew := ⟨(HCA.out _ (HB5.out.drew)).2.2.1, (HCA.out _ (HB5.out.drew)).2.2.2.2.1⟩; refine hatH 0 rfl (by rintro W ⟨h0, h1⟩; go_simp; try rfl) HSv ?_; simp only [aZ, aC, aD]; refine hatH 1 rfl (by rintro W ⟨h0, h1⟩; go_simp; try rfl) HSv ?_; simp only [aZ, aC, aD]; refine hatH 2 rfl (by rintro W ⟨h0, h1⟩; go_simp; try rfl) HSv ?_; simp only [aZ, aC, aD]; refine hatH 3 rfl (by rintro W ⟨h0, h1⟩; go_simp; try rfl) HSv ?_; simp only [aZ, aC, aD]; refine hatH 4 rfl (by rintro W ⟨h0, h1⟩; go_simp; try rfl) HSv ?_; simp only [aZ, aC, aD]; refine hatH 5 rfl (by rintro W ⟨h0, h1⟩; go_simp; try rfl) HSv ?_; simp only [aZ, aC, aD]; refine hatH 6 rfl (by rintro W ⟨h0, h1⟩; go_simp; try rfl) HSv ?_; simp only [aZ, aC, aD]; refine hone 7 rfl fun K hK => ?_
          try go_simp
          go_at_call 173; refine (HMU.out _ HB5.out.drew).mono ?_; rintro e w6 ⟨rfl, rfl⟩; refine hK _ _ (fun _ => HSv) ?_
          try simp only [aZ, aA, aE, aB, aC, aD]
          refine hatH 8 rfl (by rintro W ⟨h0, h1⟩; go_simp; try rfl) HSv ?_; simp only [aZ, aC, aD]; refine hatH 9 rfl (by rintro W ⟨h0, h1⟩; go_simp; try rfl) HSv ?_; simp only [aZ, aC, aD]; refine hend 10 ?_; simp only [aF, aG]; have HL6 := H_ (show Laid 91 2 w1 w5.drew (.slice sl n cl) n (oV (nakR C (st.req.take k) ⟨xt, ov⟩)) from ⟨HL5.out.r.below (Below.refl _ _).drew, HL5.out.b.drew, HL5.out.f⟩); have x60 := cellOf (T := 91) (fz := (0, 0)) (w := w5.drew) HX5.out 0 _ rfl; have x61 := cellOf (T := 91) (fz := (0, 0)) (w := w5.drew) HX5.out 1 _ rfl
          cases mb with
          | true =>
           have HNX3 := H_ (HNX2.out.trans (if_pos rfl))
           go_wp2_with (at_builtin; go_loud (refine wpl_append_rec opt_row rfl _ _ rfl _ _ (oV (nakR C (st.req.take k) ⟨xt, ov⟩)) rfl (HL6.out.r.below (b1 _ _)) _ _ [.int .i64 xt, .string xv] rfl (cell_of_at _ _ _ (by first | rfl | omega)) rfl (fun u hu => by simp only [List.mem_cons, List.not_mem_nil, or_false] at hu; rcases hu with rfl | rfl <;> rfl) (by omega) ?_; intro g8 c8 w8 h8 k8 o8; have H8 := H_ (HL6.out.app (b1 _ _) h8 k8 (o8.imp (fun h => h.symm) (fun h => by rw [h]; rfl))); clear h8 k8 o8))
           go_roundg (len - (k + 1))
           case measure => omega
           case rel => exact ⟨k + 1, n + 1, by omega, by omega, rfl, by go_num, by rw [HT.out, HNX3.out, List.length_append, <- HN.out]; rfl, by rw [HT.out, HNX3.out, oV_app]; exact H8.out⟩
          | false =>
           have HNX3 := H_ (HNX2.out.trans (if_neg (by simp))); go_wp2_with fail
           go_roundg (len - (k + 1))
           case measure => omega
           case rel => exact ⟨k + 1, n, by omega, by omega, rfl, by go_num, by rw [HT.out, HNX3.out, List.length_append, <- HN.out]; rfl, by rw [HT.out, HNX3.out, List.append_nil]; exact HL6.out⟩
      . intro K hK; rw [if_pos (by rfl)]
        try go_simp
        have HB4 := H_ (HB3.out.trans ((b1 w3 (.cells #[.int .i64 0, .int .i64 0, .int .i64 0, .int .i64 0, .string ⟨#[]⟩] 64 (0, 0))).mono HB3.out.size)); have HZ4 := H_ (heap_alloc_new w3 (.cells #[.int .i64 0, .int .i64 0, .int .i64 0, .int .i64 0, .string ⟨#[]⟩] 64 (0, 0))); have HR4 := H_ (rfl : w3.heap.size = w3.heap.size); have HSv : (fun Y : World => Y.cell? ⟨b, 1, none⟩ = some (.slice so C.own.length ko) /\ Y.cell? ⟨w.heap.size, 0, none⟩ = some (.int .i64 xt)) (w3.alloc (.cells #[.int .i64 0, .int .i64 0, .int .i64 0, .int .i64 0, .string ⟨#[]⟩] 64 (0, 0))) := ⟨(HCA.out _ (HB2.out.trans (HB4.out.mono HB2.out.size))).2.1, (HCA.out _ (HB2.out.trans (HB4.out.mono HB2.out.size))).2.2.2.2.1⟩; refine hK _ _ (fun _ => HSv) ?_
        try simp only [aZ, aA, aE, aB, aC, aD]
        generalize w3.alloc (.cells #[.int .i64 0, .int .i64 0, .int .i64 0, .int .i64 0, .string ⟨#[]⟩] 64 (0, 0)) = w4 at *; refine hone 7 rfl fun K hK => ?_
        try go_simp
        go_at_call 145; refine (HRU.out _ (HB2.out.trans (HB4.out.mono HB2.out.size))).mono ?_; rintro e w5 ⟨rfl, hb5⟩; have HB5 := H_ (HB4.out.trans (hb5.mono HB4.out.size)); have HK5 := H_ hb5; have HSv : (fun Y : World => Y.cell? ⟨b, 1, none⟩ = some (.slice so C.own.length ko) /\ Y.cell? ⟨w.heap.size, 0, none⟩ = some (.int .i64 xt)) w5 := ⟨(HCA.out w5 (HB2.out.trans (HB5.out.mono HB2.out.size))).2.1, (HCA.out w5 (HB2.out.trans (HB5.out.mono HB2.out.size))).2.2.2.2.1⟩; clear hb5; refine hK _ _ (fun _ => HSv) ?_
        try simp only [aZ, aA, aE, aB, aC, aD]
        refine hatH 8 rfl (by rintro W ⟨h0, h1⟩; go_simp; try rfl) HSv ?_; simp only [aZ, aC, aD]; refine hatH 9 rfl (by rintro W ⟨h0, h1⟩; go_simp; try rfl) HSv ?_; simp only [aZ, aC, aD]; refine hatH 10 rfl (by rintro W ⟨h0, h1⟩; go_simp; try rfl) HSv ?_; simp only [aZ, aC, aD]; have hz5 := (HK5.out.block _ (Array.getElem?_eq_some_iff.1 HZ4.out).1).trans HZ4.out; have y0 := cellOf hz5 0 _ rfl; have y1 := cellOf hz5 1 _ rfl; have y2 := cellOf hz5 2 _ rfl; have y3 := cellOf hz5 3 _ rfl; have y4 := cellOf hz5 4 _ rfl; have yf := fun o => frozen_of_block hz5 o; have HBX0 := H_ (set_block (set_block (set_block (set_block (set_block hz5 0 (.int .i64 r1)) 1 (.int .i64 r2)) 2 (.int .i64 r3)) 3 (.int .i64 r4)) 4 (.string r5)); have HKX := H_ ((((((Keep.refl (· = w3.heap.size) w5).setCell ⟨w3.heap.size, 0, none⟩ (Or.inr rfl) (.int .i64 r1)).setCell ⟨w3.heap.size, 1, none⟩ (Or.inr rfl) (.int .i64 r2)).setCell ⟨w3.heap.size, 2, none⟩ (Or.inr rfl) (.int .i64 r3)).setCell ⟨w3.heap.size, 3, none⟩ (Or.inr rfl) (.int .i64 r4)).setCell ⟨w3.heap.size, 4, none⟩ (Or.inr rfl) (.string r5)); refine hone 12 rfl fun K hK => ?_
        try go_simp
        have hs3 := HB3.out.size; have HB := H_ (HB5.out.trans (HKX.out.below HB5.out.size (fun g hg he => by omega))); have HBX : Hid ((((((w5.setCell ⟨w3.heap.size, 0, none⟩ (.int .i64 r1)).setCell ⟨w3.heap.size, 1, none⟩ (.int .i64 r2)).setCell ⟨w3.heap.size, 2, none⟩ (.int .i64 r3)).setCell ⟨w3.heap.size, 3, none⟩ (.int .i64 r4)).setCell ⟨w3.heap.size, 4, none⟩ (.string r5)).heap[w3.heap.size]? = some (.cells #[.int .i64 r1, .int .i64 r2, .int .i64 r3, .int .i64 r4, .string r5] 64 (0, 0))) := H_ (by simpa using HBX0.out); have HSv : (fun Y : World => Y.cell? ⟨b, 1, none⟩ = some (.slice so C.own.length ko) /\ Y.cell? ⟨w.heap.size, 0, none⟩ = some (.int .i64 xt)) (((((w5.setCell ⟨w3.heap.size, 0, none⟩ (.int .i64 r1)).setCell ⟨w3.heap.size, 1, none⟩ (.int .i64 r2)).setCell ⟨w3.heap.size, 2, none⟩ (.int .i64 r3)).setCell ⟨w3.heap.size, 3, none⟩ (.int .i64 r4)).setCell ⟨w3.heap.size, 4, none⟩ (.string r5)) := ⟨(HCA.out _ (HB2.out.trans (HB.out.mono HB2.out.size))).2.1, (HCA.out _ (HB2.out.trans (HB.out.mono HB2.out.size))).2.2.2.2.1⟩; clear HBX0 HKX hz5 y0 y1 y2 y3 y4 yf; generalize ((((w5.setCell ⟨w3.heap.size, 0, none⟩ (.int .i64 r1)).setCell ⟨w3.heap.size, 1, none⟩ (.int .i64 r2)).setCell ⟨w3.heap.size, 2, none⟩ (.int .i64 r3)).setCell ⟨w3.heap.size, 3, none⟩ (.int .i64 r4)).setCell ⟨w3.heap.size, 4, none⟩ (.string r5) = w6 at *; refine hK _ _ (fun _ => HSv) ?_
        try simp only [aZ, aA, aE, aB, aC, aD]
        refine hatH 13 rfl (by rintro W ⟨h0, h1⟩; go_simp; try rfl) HSv ?_; simp only [aZ, aC, aD]; refine hend 14 ?_; simp only [aF, aG]; have HB4 := H_ (HB2.out.trans (HB.out.mono HB2.out.size)); have HX4 := H_ ((HB.out.block _ (Array.getElem?_eq_some_iff.1 HX2.out).1).trans HX2.out); have HL4 := H_ (show Laid 91 2 w1 w6 (.slice sl n cl) n (oV (nakR C (st.req.take k) ⟨xt, ov⟩)) from ⟨HL2.out.r.below HB.out, HL2.out.b.trans (HB.out.mono HL2.out.b.size), HL2.out.f⟩); obtain ⟨g12, g1, g3, g21, g0, g0v⟩ := HCA.out w6 HB4.out
        cases yb with
        | false =>
         have HNX2 := H_ (show nakOne C ⟨xt, ov⟩ ⟨xt, xv⟩ = if mb = true then [⟨xt, xv⟩] else [] from by rw [HNX.out]; simp); have HB5 := HB4; have HX5 := HX4; have HL5 := HL4; go_wp2_with fail; refine wp_region_H (rgH 0 10) (fun Y : World => Y.cell? ⟨b, 3, none⟩ = some (.slice sm C.must.length km) /\ Y.cell? ⟨w.heap.size, 0, none⟩ = some (.int .i64 xt)) (by kernel_rfl) ?_; have HSv : (fun Y : World => Y.cell? ⟨b, 3, none⟩ = some (.slice sm C.must.length km) /\ Y.cell? ⟨w.heap.size, 0, none⟩ = some (.int .i64 xt)) w6.drew := ⟨(HCA.out _ (HB5.out.drew)).2.2.1, (HCA.out _ (HB5.out.drew)).2.2.2.2.1⟩; refine hatH 0 rfl (by rintro W ⟨h0, h1⟩; go_simp; try rfl) HSv ?_; simp only [aZ, aC, aD]; refine hatH 1 rfl (by rintro W ⟨h0, h1⟩; go_simp; try rfl) HSv ?_; simp only [aZ, aC, aD]; refine hatH 2 rfl (by rintro W ⟨h0, h1⟩; go_simp; try rfl) HSv ?_; simp only [aZ, aC, aD]; refine hatH 3 rfl (by rintro W ⟨h0, h1⟩; go_simp; try rfl) HSv ?_; simp only [aZ, aC, aD]; refine hatH 4 rfl (by rintro W ⟨h0, h1⟩; go_simp; try rfl) HSv ?_; simp only [aZ, aC, aD]; refine hatH 5 rfl (by rintro W ⟨h0, h1⟩; go_simp; try rfl) HSv ?_; simp only [aZ, aC, aD]; refine hatH 6 rfl (by rintro W ⟨h0, h1⟩; go_simp; try rfl) HSv ?_; simp only [aZ, aC, aD]; refine hone 7 rfl fun K hK => ?_
         try go_simp
         go_at_call 173; refine (HMU.out _ HB5.out.drew).mono ?_; rintro e w6 ⟨rfl, rfl⟩; refine hK _ _ (fun _ => HSv) ?_
         try simp only [aZ, aA, aE, aB, aC, aD]
         refine hatH 8 rfl (by rintro W ⟨h0, h1⟩; go_simp; try rfl) HSv ?_; simp only [aZ, aC, aD]; refine hatH 9 rfl (by rintro W ⟨h0, h1⟩; go_simp; try rfl) HSv ?_; simp only [aZ, aC, aD]; refine hend 10 ?_; simp only [aF, aG]; have HL6 := H_ (show Laid 91 2 w1 w6.drew (.slice sl n cl) n (oV (nakR C (st.req.take k) ⟨xt, ov⟩)) from ⟨HL5.out.r.below (Below.refl _ _).drew, HL5.out.b.drew, HL5.out.f⟩); have x60 := cellOf (T := 91) (fz := (0, 0)) (w := w6.drew) HX5.out 0 _ rfl; have x61 := cellOf (T := 91) (fz := (0, 0)) (w := w6.drew) HX5.out 1 _ rfl
         cases mb with
         | true =>
          have HNX3 := H_ (HNX2.out.trans (if_pos rfl))
          go_wp2_with (at_builtin; go_loud (refine wpl_append_rec opt_row rfl _ _ rfl _ _ (oV (nakR C (st.req.take k) ⟨xt, ov⟩)) rfl (HL6.out.r.below (b1 _ _)) _ _ [.int .i64 xt, .string xv] rfl (cell_of_at _ _ _ (by first | rfl | omega)) rfl (fun u hu => by simp only [List.mem_cons, List.not_mem_nil, or_false] at hu; rcases hu with rfl | rfl <;> rfl) (by omega) ?_; intro g8 c8 w8 h8 k8 o8; have H8 := H_ (HL6.out.app (b1 _ _) h8 k8 (o8.imp (fun h => h.symm) (fun h => by rw [h]; rfl))); clear h8 k8 o8))
          go_roundg (len - (k + 1))
          case measure => omega
          case rel => exact ⟨k + 1, n + 1, by omega, by omega, rfl, by go_num, by rw [HT.out, HNX3.out, List.length_append, <- HN.out]; rfl, by rw [HT.out, HNX3.out, oV_app]; exact H8.out⟩
         | false =>
          have HNX3 := H_ (HNX2.out.trans (if_neg (by simp))); go_wp2_with fail
          go_roundg (len - (k + 1))
          case measure => omega
          case rel => exact ⟨k + 1, n, by omega, by omega, rfl, by go_num, by rw [HT.out, HNX3.out, List.length_append, <- HN.out]; rfl, by rw [HT.out, HNX3.out, List.append_nil]; exact HL6.out⟩
        | true =>
         have z0 := cellOf HBX.out 0 _ rfl; have z1 := cellOf HBX.out 1 _ rfl; have z2 := cellOf HBX.out 2 _ rfl; have z3 := cellOf HBX.out 3 _ rfl; have z4 := cellOf HBX.out 4 _ rfl; have HFI := H_ (fits9_any ⟨r1, r2, r3, r4, r5⟩ ov w6 hos); simp only at HFI
         rw [HFB.out] at HFI
         cases fb with
         | true =>
          have HNX2 := H_ (show nakOne C ⟨xt, ov⟩ ⟨xt, xv⟩ = [⟨xt, ov⟩] from by rw [HNX.out]; simp); go_wp2_with fail; refine HFI.out.mono ?_; rintro e w5 ⟨rfl, hb5⟩; have HB5 := H_ (HB4.out.trans (hb5.mono HB4.out.size)); have HX5 := H_ ((hb5.block _ (Array.getElem?_eq_some_iff.1 HX4.out).1).trans HX4.out); have HL5 := H_ (show Laid 91 2 w1 w5 (.slice sl n cl) n (oV (nakR C (st.req.take k) ⟨xt, ov⟩)) from ⟨HL4.out.r.below hb5, HL4.out.b.trans (hb5.mono HL4.out.b.size), HL4.out.f⟩); obtain ⟨k12, k1, k3, k21, k0, k0v⟩ := HCA.out w5 HB5.out; have x0 := cellOf HX5.out 0 _ rfl; have x1 := cellOf HX5.out 1 _ rfl; have xf := fun o => frozen_of_block HX5.out o; clear hb5; have hk6 := (Keep.refl (· = wr.heap.size) w5).setCell ⟨wr.heap.size, 1, none⟩ (Or.inr rfl) (.string ov); have hx6 : (w5.setCell ⟨wr.heap.size, 1, none⟩ (.string ov)).heap[wr.heap.size]? = some (.cells #[.int .i64 xt, .string ov] 91 (0, 0)) := by have := set_block HX5.out 1 (.string ov); simpa using this
          have HB6 := H_ (HB5.out.trans (hk6.below HB5.out.size (fun g hg he => by omega))); have HL6 := H_ (show Laid 91 2 w1 (w5.setCell ⟨wr.heap.size, 1, none⟩ (.string ov)) (.slice sl n cl) n (oV (nakR C (st.req.take k) ⟨xt, ov⟩)) from ⟨HL5.out.r.keep hk6 (fun g hg he => by have := HK.out.r.lt g hg; omega), HB6.out, HL5.out.f⟩); have x60 := cellOf hx6 0 _ rfl; have x61 := cellOf hx6 1 _ rfl; obtain ⟨-, -, -, n21, n0, -⟩ := HCA.out _ HB6.out; have qn : ∀ w, (binOp .neq 106 (.pointer none) (.pointer none)).run Tryz.prog w = .ok (.bool false) w := fun w => by kernel_rfl
          have hsz6 : (w5.setCell ⟨wr.heap.size, 1, none⟩ (.string ov)).heap.size = w5.heap.size := by simp [World.setCell]
          clear hk6 hx6
          go_wp2_with (at_builtin; go_loud (refine wpl_append_rec opt_row rfl _ _ rfl _ _ (oV (nakR C (st.req.take k) ⟨xt, ov⟩)) rfl (HL6.out.r.below (b1 _ _)) _ _ [.int .i64 xt, .string ov] rfl (cell_of_at _ _ _ (by first | rfl | omega)) rfl (fun u hu => by simp only [List.mem_cons, List.not_mem_nil, or_false] at hu; rcases hu with rfl | rfl <;> rfl) (by omega) ?_; intro g8 c8 w8 h8 k8 o8; have H8 := H_ (HL6.out.app (b1 _ _) h8 k8 (o8.imp (fun h => h.symm) (fun h => by rw [h]; rfl))); clear h8 k8 o8))
          go_roundg (len - (k + 1))
          case measure => omega
          case rel => exact ⟨k + 1, n + 1, by omega, by omega, rfl, by go_num, by rw [HT.out, HNX2.out, List.length_append, <- HN.out]; rfl, by rw [HT.out, HNX2.out, oV_app]; exact H8.out⟩
         | false =>
          have HNX2 := H_ (show nakOne C ⟨xt, ov⟩ ⟨xt, xv⟩ = if mb = true then [⟨xt, xv⟩] else [] from by rw [HNX.out]; simp); go_wp2_with fail; refine HFI.out.mono ?_; rintro e w5 ⟨rfl, hb5⟩; have HB5 := H_ (HB4.out.trans (hb5.mono HB4.out.size)); have HX5 := H_ ((hb5.block _ (Array.getElem?_eq_some_iff.1 HX4.out).1).trans HX4.out); have HL5 := H_ (show Laid 91 2 w1 w5 (.slice sl n cl) n (oV (nakR C (st.req.take k) ⟨xt, ov⟩)) from ⟨HL4.out.r.below hb5, HL4.out.b.trans (hb5.mono HL4.out.b.size), HL4.out.f⟩); clear hb5; go_wp2_with fail; refine wp_region_H (rgH 0 10) (fun Y : World => Y.cell? ⟨b, 3, none⟩ = some (.slice sm C.must.length km) /\ Y.cell? ⟨w.heap.size, 0, none⟩ = some (.int .i64 xt)) (by kernel_rfl) ?_; have HSv : (fun Y : World => Y.cell? ⟨b, 3, none⟩ = some (.slice sm C.must.length km) /\ Y.cell? ⟨w.heap.size, 0, none⟩ = some (.int .i64 xt)) w5.drew := ⟨(HCA.out _ (HB5.out.drew)).2.2.1, (HCA.out _ (HB5.out.drew)).2.2.2.2.1⟩; refine hatH 0 rfl (by rintro W ⟨h0, h1⟩; go_simp; try rfl) HSv ?_; simp only [aZ, aC, aD]; refine hatH 1 rfl (by rintro W ⟨h0, h1⟩; go_simp; try rfl) HSv ?_; simp only [aZ, aC, aD]; refine hatH 2 rfl (by rintro W ⟨h0, h1⟩; go_simp; try rfl) HSv ?_; simp only [aZ, aC, aD]; refine hatH 3 rfl (by rintro W ⟨h0, h1⟩; go_simp; try rfl) HSv ?_; simp only [aZ, aC, aD]; refine hatH 4 rfl (by rintro W ⟨h0, h1⟩; go_simp; try rfl) HSv ?_; simp only [aZ, aC, aD]; refine hatH 5 rfl (by rintro W ⟨h0, h1⟩; go_simp; try rfl) HSv ?_; simp only [aZ, aC, aD]; refine hatH 6 rfl (by rintro W ⟨h0, h1⟩; go_simp; try rfl) HSv ?_; simp only [aZ, aC, aD]; refine hone 7 rfl fun K hK => ?_
          try go_simp
          go_at_call 173; refine (HMU.out _ HB5.out.drew).mono ?_; rintro e w6 ⟨rfl, rfl⟩; refine hK _ _ (fun _ => HSv) ?_
          try simp only [aZ, aA, aE, aB, aC, aD]
          refine hatH 8 rfl (by rintro W ⟨h0, h1⟩; go_simp; try rfl) HSv ?_; simp only [aZ, aC, aD]; refine hatH 9 rfl (by rintro W ⟨h0, h1⟩; go_simp; try rfl) HSv ?_; simp only [aZ, aC, aD]; refine hend 10 ?_; simp only [aF, aG]; have HL6 := H_ (show Laid 91 2 w1 w5.drew (.slice sl n cl) n (oV (nakR C (st.req.take k) ⟨xt, ov⟩)) from ⟨HL5.out.r.below (Below.refl _ _).drew, HL5.out.b.drew, HL5.out.f⟩); have x60 := cellOf (T := 91) (fz := (0, 0)) (w := w5.drew) HX5.out 0 _ rfl; have x61 := cellOf (T := 91) (fz := (0, 0)) (w := w5.drew) HX5.out 1 _ rfl
          cases mb with
          | true =>
           have HNX3 := H_ (HNX2.out.trans (if_pos rfl))
           go_wp2_with (at_builtin; go_loud (refine wpl_append_rec opt_row rfl _ _ rfl _ _ (oV (nakR C (st.req.take k) ⟨xt, ov⟩)) rfl (HL6.out.r.below (b1 _ _)) _ _ [.int .i64 xt, .string xv] rfl (cell_of_at _ _ _ (by first | rfl | omega)) rfl (fun u hu => by simp only [List.mem_cons, List.not_mem_nil, or_false] at hu; rcases hu with rfl | rfl <;> rfl) (by omega) ?_; intro g8 c8 w8 h8 k8 o8; have H8 := H_ (HL6.out.app (b1 _ _) h8 k8 (o8.imp (fun h => h.symm) (fun h => by rw [h]; rfl))); clear h8 k8 o8))
           go_roundg (len - (k + 1))
           case measure => omega
           case rel => exact ⟨k + 1, n + 1, by omega, by omega, rfl, by go_num, by rw [HT.out, HNX3.out, List.length_append, <- HN.out]; rfl, by rw [HT.out, HNX3.out, oV_app]; exact H8.out⟩
          | false =>
           have HNX3 := H_ (HNX2.out.trans (if_neg (by simp))); go_wp2_with fail
           go_roundg (len - (k + 1))
           case measure => omega
           case rel => exact ⟨k + 1, n, by omega, by omega, rfl, by go_num, by rw [HT.out, HNX3.out, List.length_append, <- HN.out]; rfl, by rw [HT.out, HNX3.out, List.append_nil]; exact HL6.out⟩
    . have q : (xt == ot) = false := by simpa using hxt
      have HNX2 := H_ (HNX.out.trans (if_neg hxt)); clear hxt
      go_wp2_with (at_builtin; go_loud (refine wpl_append_rec opt_row rfl _ _ rfl _ _ (oV (nakR C (st.req.take k) ⟨ot, ov⟩)) rfl (HL2.out.r.below (b1 _ _)) _ _ [.int .i64 xt, .string xv] rfl (cell_of_at _ _ _ (by first | rfl | omega)) rfl (fun u hu => by simp only [List.mem_cons, List.not_mem_nil, or_false] at hu; rcases hu with rfl | rfl <;> rfl) (by omega) ?_; intro g8 c8 w8 h8 k8 o8; have H8 := H_ (HL2.out.app (b1 _ _) h8 k8 (o8.imp (fun h => h.symm) (fun h => by rw [h]; rfl))); clear h8 k8 o8))
      go_roundg (len - (k + 1))
      case measure => omega
      case rel => exact ⟨k + 1, n + 1, by omega, by omega, rfl, by go_num, by rw [HT.out, HNX2.out, List.length_append, <- HN.out]; rfl, by rw [HT.out, HNX2.out, oV_app]; exact H8.out⟩
  . obtain rfl : len = k := by omega
    rw [show st.req.take len = st.req from by rw [HLN.out.1, List.take_length]] at HK HN; have fz := (H.out.2.2.1.below HK.out.b).fz 12; go_wp2_with fail
    go_end0
    have h1 := H.out.2.2.1.below HK.out.b; have hr := HK.out.r; have hn := HN.out; subst hn; have hl := nakR_len C ⟨ot, ov⟩ st.req; have h2 := (h1.mono (fun g hg => (Or.inl hg : Grow S w g))).sAsk (.slice sl (nakR C st.req ⟨ot, ov⟩).length cl) (nakR C st.req ⟨ot, ov⟩) hr (Nat.le_trans hl H.out.1.lr) (nakR_apart C _ _ H.out.1.ap) (fun g hg => by have := HK.out.f g hg; exact ⟨.inr (by omega), fun he => by omega⟩); exact ⟨rfl, ⟨_, h2⟩, ((Keep.of_below _ H.out.2.1).trans (Keep.of_below _ HK.out.b)).trans (keepR b wr 12 _)⟩
end
def evR (C : NegC) (st : NSt) (ev : Int) (c : Came) : NSt × List Pk :=
 sayL rejS (C0 C) c { st with s := nextS st.s ev, c := doC C.cf C.tm (nextL st.s ev) (nextL st.s ev) st.c, ticks := if (!waitsB st.s && waitsB (nextS st.s ev)) = true then 0 else st.ticks } (nextL st.s ev)
def tickR (C : NegC) (st : NSt) : NSt × List Pk :=
 if waitsB st.s then
  if wrap64 (st.ticks + 1) < C.wt then ({ st with ticks := wrap64 (st.ticks + 1) }, [])
  else sayL rejS (C0 C) noCame { st with ticks := 0, s := tmoS st.s st.c, c := doC C.cf C.tm (tmoL st.s st.c) (tmoL st.s st.c) st.c } (tmoL st.s st.c)
 else (st, [])
theorem noCameR (w : World) (b : Nat) : CameR w b (fun _ => False) noCame (.pointer none) (.slice none 0 0) where
 a := Rec.nil _ _ _
 ak := fun _ h => h.elim
 al := Nat.zero_le _
 pl := Nat.zero_le _
 pz := fun _ h => by cases h
 pd := Nat.zero_le _
 p := .inl ⟨rfl, rfl⟩
def ActOk (c : Came) (xs : List Int) : Prop := ∀ a ∈ xs, 0 <= a /\ a <= 12 /\ (c.is = false -> a ≠ 7 /\ a ≠ 8 /\ a ≠ 11)
theorem actOk_is {c : Came} (h : c.is = true) (s e : Int) : ActOk c (nextL s e) := fun a ha => ⟨(nextL_bd s e a ha).1, (nextL_bd s e a ha).2, fun h' => by rw [h] at h'; cases h'⟩
theorem next_no7 : ∀ e ∈ [0, 1, 2, 3, 4, 5], ∀ s ∈ [0, 1, 2, 3, 4, 5, 6, 7, 8, 9], ∀ a ∈ nextL s e, a ≠ 7 /\ a ≠ 8 /\ a ≠ 11 := by decide
theorem actOk_no (c : Came) (s e : Int) (hs : 0 <= s /\ s <= 9) (he : 0 <= e /\ e <= 5) : ActOk c (nextL s e) := fun a ha => ⟨(nextL_bd s e a ha).1, (nextL_bd s e a ha).2, fun _ =>
 next_no7 e (by simp only [List.mem_cons, List.not_mem_nil, or_false]; omega) s (by simp only [List.mem_cons, List.not_mem_nil, or_false]; omega) a ha⟩
theorem RNPost.grow {w w1 w' : World} {S ok : Nat -> Prop} {b : Nat} {C : NegC} {r : NSt × List Pk} {e : Ending} (h : RNPost w1 w' S ok b C r e) (hs : w.heap.size <= w1.heap.size) (hk : Keep (· = b) w w1) : RNPost w w' S ok b C r e := by
 obtain ⟨v, L, h1, h2, h3, ⟨X, h4⟩, h5⟩ := h; exact ⟨v, L, h1, h2, ⟨Rec.mono h3.r (fun g hg => hg.imp id (fun h => Nat.le_trans hs h)), fun p hp => Rec.mono (h3.o p hp) (fun g hg => hg.imp id (fun h => Nat.le_trans hs h)), h3.m⟩, ⟨X, h4.mono (fun g hg => hg.imp id (fun h => Nat.le_trans hs h))⟩, hk.trans h5⟩
section
variable {w : World} {S ok : Nat -> Prop} {b : Nat} {C : NegC} {st : NSt} {X : RX}
set_option maxRecDepth 100000 in
theorem do9_at (ev : Int) (c : Came) (pv pa : Value) (h : RNAt w S b C st X) (hc : CameR w b ok c pv pa) (hx : ActOk c (nextL st.s ev)) :
 Calls Tryz.prog 160 #[.pointer (some ⟨b, 0, none⟩), .int .i64 ev, pv, .agg #[.int .i64 c.code, pa]] w fun e w' => RNPost w w' S ok b C (evR C st ev c) e := by
 obtain ⟨sa, ka, rfl, -, -⟩ := hc.a.form
 obtain ⟨pa', hpv⟩ : ∃ a, pv = .pointer a := by
  rcases hc.p with ⟨_, e⟩ | ⟨_, px, po, okp, e, _⟩
  . exact ⟨_, e⟩
  . exact ⟨_, e⟩
 subst hpv; have hb1 := b1 w (.cells #[.int .i64 c.code, .slice sa c.ans.length ka] 186 (0, 0)); have hz1 := heap_alloc_new w (.cells #[.int .i64 c.code, .slice sa c.ans.length ka] 186 (0, 0)); have hs1 : (w.alloc (.cells #[.int .i64 c.code, .slice sa c.ans.length ka] 186 (0, 0))).heap.size = w.heap.size + 1 := alloc1 _ _; have H := H_ (A_ h (A_ hc (A_ hx (A_ hb1 hz1)))); have HW := H_ (fun W (hW : RNAt W S b C st X) => rwaits8_any b _ _ _ _ _ W hW.blk); have HD := H_ (fun W (hW : RNAt W S b C st X) => rdo8_any b _ st.s st.c C.cf C.tm ev W hW.blk h.ok.cf.1 h.ok.cf.2 h.ok.tm.1 h.ok.tm.2 h.ib); have HI := H_ (doC_bd (nextL st.s ev) (show InB C.cf from ⟨by have := h.ok.cf; omega, h.ok.cf.2⟩) (show InB C.tm from ⟨by have := h.ok.tm; omega, h.ok.tm.2⟩) (nextL st.s ev) st.c h.ib); have HSS := H_ (nextS_bd st.s ev h.ss); have HE := H_ (show evR C st ev c = sayL rejS (C0 C) c { st with s := nextS st.s ev, c := doC C.cf C.tm (nextL st.s ev) (nextL st.s ev) st.c, ticks := if (!waitsB st.s && waitsB (nextS st.s ev)) = true then 0 else st.ticks } (nextL st.s ev) from rfl); have hll := nextL_len st.s ev; have hblt := h.blt; generalize evR C st ev c = R at *; generalize hxs : nextL st.s ev = xs at *; generalize hns : nextS st.s ev = ns at *; generalize doC C.cf C.tm xs xs st.c = nc at *; clear h hc hx hb1 hz1 hxs hns; go_enter Tryz.func160, Tryz.ntmps160; go_wp2_with fail; have h1 := H.out.1.below H.out.2.2.2.1; have HC1 := H_ (H.out.2.1.keep (Keep.of_below _ H.out.2.2.2.1)); generalize w.alloc (.cells #[.int .i64 c.code, .slice sa c.ans.length ka] 186 (0, 0)) = w1 at *; have H1 := H_ h1; clear h1; refine (HW.out _ H1.out).mono ?_; rintro e w2 ⟨rfl, rfl⟩; go_wp2_with fail; refine (HD.out _ H1.out).mono ?_; rintro e w2 ⟨v2, rfl, h2⟩; obtain ⟨sl, cl, rfl, -, -⟩ := h2.row.form; have h22 := H1.out.auto h2.kp _ _ h2.at' HI.out HSS.out; have HC2 := H_ (HC1.out.keep h2.kp); have hz2 := (h2.kp.block w.heap.size (Array.getElem?_eq_some_iff.1 H.out.2.2.2.2).1 (by omega)).trans H.out.2.2.2.2; have a0 := cellOf hz2 0 _ rfl; have a1 := cellOf hz2 1 _ rfl; have HW2 := H_ (rwaits8_any b _ _ _ _ _ w2 h22.blk); have H2 := H_ (A_ h22 (A_ h2.row (A_ h2.kp (A_ h2.f hz2)))); have hs2 := h2.kp.size; have hlb : ∀ g, (Value.slice sl xs.length cl).ownBlock = some g -> g ≠ b := fun g hg => by have := h2.f g hg; omega
 have HLB := H_ hlb; have f16 := h22.fz 16; have e16 := h22.cell 16; clear h2 h22 hz2 hlb
 by_cases hw : waitsB st.s = true
 . have HE2 := H_ (show R = sayL rejS (C0 C) c { st with s := ns, c := nc } xs from by rw [HE.out, hw]; rfl); simp only [hw]; clear hw; go_wp2_with fail; have hS := sent9_at (S := S) (ok := ok) xs _ c (.pointer pa') (.slice sa c.ans.length ka) H2.out.2.1 HLB.out hll H.out.2.2.1 H2.out.1 HC2.out; refine hS.mono ?_; intro e w3 h3; rw [<- HE2.out] at h3; have H3 := H_ h3; obtain ⟨v3, L3, rfl, -, h33, -⟩ := h3; obtain ⟨s3, k3, rfl, -, -⟩ := h33.form; clear h33; go_wp2_with fail; go_ret; exact H3.out.grow (by omega) ((Keep.of_below _ H.out.2.2.2.1).trans H2.out.2.2.1)
 . have hw' : waitsB st.s = false := by simpa using hw
   simp only [hw']
   cases hw2 : waitsB ns with
   | true =>
    have HE2 := H_ (show R = sayL rejS (C0 C) c { st with s := ns, c := nc, ticks := 0 } xs from by rw [HE.out, hw', hw2]; rfl); simp only [hw2] at HW2; clear hw hw' hw2; have H3 := H_ (A_ (H2.out.1.sTicks 0) (keepR b w2 16 (.int .i64 0))); have a0' : (w2.setCell ⟨b, 16, none⟩ (.int .i64 0)).cell? ⟨w.heap.size, 0, none⟩ = _ := (H3.out.2.cell (p := ⟨w.heap.size, 0, none⟩) (Array.getElem?_eq_some_iff.1 H2.out.2.2.2.2).1 (by show ¬ w.heap.size = b; omega)).trans a0; have a1' : (w2.setCell ⟨b, 16, none⟩ (.int .i64 0)).cell? ⟨w.heap.size, 1, none⟩ = _ := (H3.out.2.cell (p := ⟨w.heap.size, 1, none⟩) (Array.getElem?_eq_some_iff.1 H2.out.2.2.2.2).1 (by show ¬ w.heap.size = b; omega)).trans a1
    go_wp2_with (go_at_call 22; refine HW2.out.mono ?_; rintro e w9 ⟨rfl, rfl⟩)
    have hS := sent9_at (S := S) (ok := ok) xs _ c (.pointer pa') (.slice sa c.ans.length ka) (H2.out.2.1.keep H3.out.2 (fun g hg he => HLB.out g hg he)) HLB.out hll H.out.2.2.1 H3.out.1 (HC2.out.keep H3.out.2); refine hS.mono ?_; intro e w3 h3; rw [<- HE2.out] at h3; have H4 := H_ h3; obtain ⟨v3, L3, rfl, -, h33, -⟩ := h3; obtain ⟨s3, k3, rfl, -, -⟩ := h33.form; clear h33; go_wp2_with fail; go_ret; exact H4.out.grow (Nat.le_trans (by omega) H3.out.2.size) (((Keep.of_below _ H.out.2.2.2.1).trans H2.out.2.2.1).trans H3.out.2)
   | false =>
    have HE2 := H_ (show R = sayL rejS (C0 C) c { st with s := ns, c := nc } xs from by rw [HE.out, hw', hw2]; rfl); simp only [hw2] at HW2; clear hw hw' hw2
    go_wp2_with (go_at_call 22; refine HW2.out.mono ?_; rintro e w9 ⟨rfl, rfl⟩)
    have hS := sent9_at (S := S) (ok := ok) xs _ c (.pointer pa') (.slice sa c.ans.length ka) H2.out.2.1 HLB.out hll H.out.2.2.1 H2.out.1 HC2.out; refine hS.mono ?_; intro e w3 h3; rw [<- HE2.out] at h3; have H4 := H_ h3; obtain ⟨v3, L3, rfl, -, h33, -⟩ := h3; obtain ⟨s3, k3, rfl, -, -⟩ := h33.form; clear h33; go_wp2_with fail; go_ret; exact H4.out.grow (by omega) ((Keep.of_below _ H.out.2.2.2.1).trans H2.out.2.2.1)
end
structure PkIn (w : World) (b : Nat) (ok : Nat -> Prop) (p : Pk) (po : Value) : Prop where
 o : Opts w ok po p.o
 nb : ∀ g, ok g -> g ≠ b
 nil : ∀ n k, po = .slice none n k -> k = 0
 pl : p.o.length <= 1000
 pz : ∀ o ∈ p.o, o.v.size <= 100000
 pd : p.d.size <= 100000000
theorem PkIn.came {w W : World} {b px : Nat} {ok ok' : Nat -> Prop} {p : Pk} {po pa : Value} {c : Int} {ans : List Opt} (h : PkIn w b ok p po) (hb : Below w.heap.size w W) (hz : W.heap[px]? = some (.cells #[.int .i64 p.code, .int .i64 p.id, po, .string p.d] 93 (0, 0))) (hx : px ≠ b)
 (ha : Opts W ok' pa ans) (hk : ∀ g, ok' g -> g ≠ b) (hl : ans.length <= 1000) : CameR W b ok' ⟨true, p, c, ans⟩ (.pointer (some ⟨px, 0, none⟩)) pa where
 a := ha
 ak := hk
 al := hl
 pl := h.pl
 pz := h.pz
 pd := h.pd
 p := .inr ⟨rfl, px, po, ok, rfl, hx, hz, h.o.below hb, h.nb, h.nil⟩
theorem RNPost.none {w w' : World} {S : Nat -> Prop} {b : Nat} {C : NegC} {st : NSt} {X : RX} (h : RNAt w' S b C st X) (hk : Keep (· = b) w w') : RNPost w w' S (fun _ => False) b C (st, []) (.returned (.slice none 0 0)) :=
 ⟨_, [], rfl, rfl, ⟨Rec.nil _ _ _, fun _ h => (by cases h), fun _ h => (by cases h)⟩, ⟨X, h.mono (fun _ h => .inl h)⟩, hk⟩
section
variable {w : World} {S ok : Nat -> Prop} {b : Nat} {C : NegC} {st : NSt} {X : RX}
set_option maxRecDepth 100000 in
theorem Do9_in (ev : Int) (hev : 0 <= ev /\ ev <= 3) (h : RNAt w S b C st X) :
 Calls Tryz.prog 44 #[.pointer (some ⟨b, 0, none⟩), .int .i64 ev] w fun e w' => RNPost w w' S (fun _ => False) b C (evR C st ev noCame) e := by
 have HD := H_ (do9_at ev noCame (.pointer none) (.slice none 0 0) h (noCameR w b) (actOk_no noCame st.s ev h.ss ⟨hev.1, by omega⟩)); unfold noCame at HD; have d1 : decide (ev < 0) = false := decide_eq_false (by omega); have d2 : decide ((3 : Int) < ev) = false := decide_eq_false (by omega); clear h hev; go_enter Tryz.func44, Tryz.ntmps44; go_wp2_with fail; refine HD.out.mono ?_; intro e w3 h3; have H3 := H_ h3; obtain ⟨v3, L3, rfl, -, h33, -⟩ := h3; obtain ⟨s3, k3, rfl, -, -⟩ := h33.form; clear h33; go_wp2_with fail; go_ret; exact H3.out
set_option maxRecDepth 100000 in
theorem Do9_out (ev : Int) (hev : ev < 0 \/ 3 < ev) (h : RNAt w S b C st X) :
 Calls Tryz.prog 44 #[.pointer (some ⟨b, 0, none⟩), .int .i64 ev] w fun e w' => RNPost w w' S (fun _ => False) b C (st, []) e := by
 have H := H_ (RNPost.none h (Keep.refl _ _)); clear h
 by_cases h1 : ev < 0
 . have d1 : decide (ev < 0) = true := decide_eq_true h1; clear hev h1; go_enter Tryz.func44, Tryz.ntmps44; go_wp2_with fail; go_ret; exact H.out
 . have d1 : decide (ev < 0) = false := decide_eq_false h1; have d2 : decide ((3 : Int) < ev) = true := decide_eq_true (by omega); clear hev h1; go_enter Tryz.func44, Tryz.ntmps44; go_wp2_with fail; go_ret; exact H.out
set_option maxRecDepth 100000 in
theorem Tick9_at (h : RNAt w S b C st X) :
 Calls Tryz.prog 46 #[.pointer (some ⟨b, 0, none⟩)] w fun e w' => RNPost w w' S (fun _ => False) b C (tickR C st) e := by
 have HW := H_ (rwaits8_any b _ _ _ _ _ w h.blk); have H := H_ h; have HM := H_ (show tickR C st = if waitsB st.s then (if wrap64 (st.ticks + 1) < C.wt then ({ st with ticks := wrap64 (st.ticks + 1) }, []) else sayL rejS (C0 C) noCame { st with ticks := 0, s := tmoS st.s st.c, c := doC C.cf C.tm (tmoL st.s st.c) (tmoL st.s st.c) st.c } (tmoL st.s st.c)) else (st, []) from rfl); generalize tickR C st = R at *; clear h
 by_cases hw : waitsB st.s = true
 . simp only [hw, if_true] at HW HM; have e16 : w.cell? ⟨b, 16, none⟩ = some (.int .i64 st.ticks) := H.out.cell 16; have f16 := H.out.fz 16; have HT := H_ (A_ (H.out.sTicks (wrap64 (st.ticks + 1))) (keepR b w 16 (.int .i64 (wrap64 (st.ticks + 1))))); have HWW := H_ hw; clear hw; have HSv : (fun Y : World => Y.cell? ⟨b, 16, none⟩ = some (.int .i64 (wrap64 (st.ticks + 1))) /\ Y.cell? ⟨b, 7, none⟩ = some (.int .i64 C.wt)) (w.setCell ⟨b, 16, none⟩ (.int .i64 (wrap64 (st.ticks + 1)))).drew := ⟨HT.out.1.cell 16, HT.out.1.cell 7⟩; generalize hw2 : w.setCell ⟨b, 16, none⟩ (.int .i64 (wrap64 (st.ticks + 1))) = w2 at *; go_enter Tryz.func46, Tryz.ntmps46
   go_wp2_with (go_at_call 22; refine HW.out.mono ?_; rintro e w9 ⟨rfl, rfl⟩)
   refine wp_region_H (rgH 0 10) (fun Y : World => Y.cell? ⟨b, 16, none⟩ = some (.int .i64 (wrap64 (st.ticks + 1))) /\ Y.cell? ⟨b, 7, none⟩ = some (.int .i64 C.wt)) (by kernel_rfl) ?_; refine hatH 0 rfl (by rintro W ⟨h0, h1⟩; go_simp; try rfl) HSv ?_; simp only [aZ, aC, aD]; refine hatH 1 rfl (by rintro W ⟨h0, h1⟩; go_simp; try rfl) HSv ?_; simp only [aZ, aC, aD]; refine hatH 2 rfl (by rintro W ⟨h0, h1⟩; go_simp; try rfl) HSv ?_; simp only [aZ, aC, aD]; refine hatH 3 rfl (by rintro W ⟨h0, h1⟩; go_simp; try rfl) HSv ?_; simp only [aZ, aC, aD]; refine hatH 4 rfl (by rintro W ⟨h0, h1⟩; go_simp; try rfl) HSv ?_; simp only [aZ, aC, aD]; refine hatH 5 rfl (by rintro W ⟨h0, h1⟩; go_simp; try rfl) HSv ?_; simp only [aZ, aC, aD]; refine hatH 6 rfl (by rintro W ⟨h0, h1⟩; go_simp; try rfl) HSv ?_; simp only [aZ, aC, aD]; refine hatH 7 rfl (by rintro W ⟨h0, h1⟩; go_simp; try rfl) HSv ?_; simp only [aZ, aC, aD]; refine hatH 8 rfl (by rintro W ⟨h0, h1⟩; go_simp; try rfl) HSv ?_; simp only [aZ, aC, aD]; refine hatH 9 rfl (by rintro W ⟨h0, h1⟩; go_simp; try rfl) HSv ?_; simp only [aZ, aC, aD]; refine hend 10 ?_; simp only [aF, aG]; have H2 := H_ (A_ (HT.out.1.below (Below.refl _ _).drew) ((HT.out.2).drew)); have HW2 := H_ hw2; clear hw2 HT; generalize w2.drew = w3 at *
   by_cases ht : wrap64 (st.ticks + 1) < C.wt
   . have dt : decide (wrap64 (st.ticks + 1) < C.wt) = true := decide_eq_true ht; have HR := H_ (HM.out.trans (if_pos ht)); have ht2 : ¬ (C.wt <= wrap64 (st.ticks + 1)) := by omega
     go_wp2_with fail; go_ret; rw [HR.out]; exact RNPost.none H2.out.1 H2.out.2
   . have dt : decide (wrap64 (st.ticks + 1) < C.wt) = false := decide_eq_false ht; have HR := H_ (HM.out.trans (if_neg ht)); have e36 := H2.out.1.cell 16; have f36 := H2.out.1.fz 16; have H4 := H_ (A_ (H2.out.1.sTicks 0) (H2.out.2.trans (keepR b w3 16 (.int .i64 0)))); have ht2 : C.wt <= wrap64 (st.ticks + 1) := by omega
     clear e16 f16; have HTO := H_ (rtimeout8_any b _ st.s st.c C.cf C.tm _ H4.out.1.blk H.out.ok.cf.1 H.out.ok.cf.2 H.out.ok.tm.1 H.out.ok.tm.2 H.out.ib); have HI := H_ (doC_bd (tmoL st.s st.c) (show InB C.cf from ⟨by have := H.out.ok.cf; omega, H.out.ok.cf.2⟩) (show InB C.tm from ⟨by have := H.out.ok.tm; omega, H.out.ok.tm.2⟩) (tmoL st.s st.c) st.c H.out.ib); have HSS := H_ (tmoS_bd st.s st.c H.out.ss); have hll := tmoL_le st.s st.c
     have HAC : Hid (ActOk noCame (tmoL st.s st.c)) := H_ (by
      unfold tmoL tmoE
      by_cases h1 : waitsB st.s = true
      . rw [if_pos h1]
        by_cases h2 : 0 < st.c
        . rw [if_pos h2]; exact actOk_no noCame st.s 4 H.out.ss (by omega)
        . rw [if_neg h2]; exact actOk_no noCame st.s 5 H.out.ss (by omega)
      . rw [if_neg h1]; exact fun a ha => by cases ha)
     generalize doC C.cf C.tm (tmoL st.s st.c) (tmoL st.s st.c) st.c = nc at *; generalize tmoL st.s st.c = xs at *; generalize tmoS st.s st.c = ns at *; go_wp2_with fail; refine HTO.out.mono ?_; rintro e w5 ⟨v5, rfl, h5⟩; obtain ⟨sl, cl, rfl, -, -⟩ := h5.row.form; have h55 := H4.out.1.auto h5.kp _ _ h5.at' HI.out HSS.out; have hz4 := H4.out.2.size; have hb0 := H.out.blt; have hS := sent9_at (S := S) (ok := fun _ => False) xs _ noCame (.pointer none) (.slice none 0 0) h5.row (fun g hg => by have h1 := h5.f g hg; have h2 := H4.out.1.blt; omega) (by omega) HAC.out h55 (noCameR w5 b); unfold noCame at hS HR; have HS5 := H_ (A_ hS h5.kp); clear hS h5 h55; go_wp2_with fail; refine HS5.out.1.mono ?_; intro e w6 h6; rw [<- HR.out] at h6; have H6 := H_ h6; obtain ⟨v3, L3, rfl, -, h33, -⟩ := h6; obtain ⟨s3, k3, rfl, -, -⟩ := h33.form; clear h33; go_wp2_with fail; go_ret; exact H6.out.grow (Nat.le_trans H4.out.2.size HS5.out.2.size) (H4.out.2.trans HS5.out.2)
 . have hw' : waitsB st.s = false := by simpa using hw
   simp only [hw', Bool.false_eq_true, if_false] at HW HM; clear hw hw'; go_enter Tryz.func46, Tryz.ntmps46
   go_wp2_with (go_at_call 22; refine HW.out.mono ?_; rintro e w9 ⟨rfl, rfl⟩)
   go_ret; rw [HM.out]; exact RNPost.none H.out (Keep.refl _ _)
set_option maxRecDepth 100000 in
theorem take9_5 (p : Pk) (po : Value) (hcode : p.code = 5) (h : RNAt w S b C st X) (hp : PkIn w b ok p po) :
 Calls Tryz.prog 50 #[.pointer (some ⟨b, 0, none⟩), pkV p po] w fun e w' => RNPost w w' S (fun _ => False) b C (evR C st 10 ⟨true, p, 0, []⟩) e := by
 obtain ⟨sp, kp, rfl, hkp, -⟩ := hp.o.form; have hb1 := b1 w (.cells #[.int .i64 p.code, .int .i64 p.id, .slice sp p.o.length kp, .string p.d] 93 (0, 0)); have hz1 := heap_alloc_new w (.cells #[.int .i64 p.code, .int .i64 p.id, .slice sp p.o.length kp, .string p.d] 93 (0, 0)); have hs1 : (w.alloc (.cells #[.int .i64 p.code, .int .i64 p.id, .slice sp p.o.length kp, .string p.d] 93 (0, 0))).heap.size = w.heap.size + 1 := alloc1 _ _; have hblt := h.blt; have H := H_ (A_ h (A_ (h.below hb1) (A_ hb1 (A_ hz1 hp)))); have HC := H_ (fun (W : World) (hW : Below w.heap.size w W) (hz : W.heap[w.heap.size]? = some (.cells #[.int .i64 p.code, .int .i64 p.id, .slice sp p.o.length kp, .string p.d] 93 (0, 0))) => hp.came (c := 0) (ok' := fun _ => False) (pa := .slice none 0 0) (ans := []) hW hz (by omega : w.heap.size ≠ b) (Rec.nil _ _ _) (fun _ h => h.elim) (Nat.zero_le _)); have HD := H_ (do9_at (ok := fun _ => False) 10 ⟨true, p, 0, []⟩ _ _ H.out.2.1 (HC.out _ H.out.2.2.1 H.out.2.2.2.1) (actOk_is rfl _ _)); unfold pkV; clear h hp hb1 hz1; generalize evR C st 10 ⟨true, p, 0, []⟩ = R at *; obtain ⟨pc, pi, pl, pd⟩ := p; simp only at hcode
 subst hcode; go_enter Tryz.func50, Tryz.ntmps50; go_wp2_with fail; refine HD.out.mono ?_; intro e w3 h3; have H3 := H_ h3; obtain ⟨v3, L3, rfl, -, h33, -⟩ := h3; obtain ⟨s3, k3, rfl, -, -⟩ := h33.form; clear h33; go_wp2_with fail; go_ret; exact H3.out.grow (by omega) (Keep.of_below _ H.out.2.2.1)
set_option maxRecDepth 100000 in
theorem take9_6 (p : Pk) (po : Value) (hcode : p.code = 6) (h : RNAt w S b C st X) (hp : PkIn w b ok p po) :
 Calls Tryz.prog 50 #[.pointer (some ⟨b, 0, none⟩), pkV p po] w fun e w' => RNPost w w' S (fun _ => False) b C (evR C st 11 ⟨true, p, 0, []⟩) e := by
 obtain ⟨sp, kp, rfl, hkp, -⟩ := hp.o.form; have hb1 := b1 w (.cells #[.int .i64 p.code, .int .i64 p.id, .slice sp p.o.length kp, .string p.d] 93 (0, 0)); have hz1 := heap_alloc_new w (.cells #[.int .i64 p.code, .int .i64 p.id, .slice sp p.o.length kp, .string p.d] 93 (0, 0)); have hs1 : (w.alloc (.cells #[.int .i64 p.code, .int .i64 p.id, .slice sp p.o.length kp, .string p.d] 93 (0, 0))).heap.size = w.heap.size + 1 := alloc1 _ _; have hblt := h.blt; have H := H_ (A_ h (A_ (h.below hb1) (A_ hb1 (A_ hz1 hp)))); have HC := H_ (fun (W : World) (hW : Below w.heap.size w W) (hz : W.heap[w.heap.size]? = some (.cells #[.int .i64 p.code, .int .i64 p.id, .slice sp p.o.length kp, .string p.d] 93 (0, 0))) => hp.came (c := 0) (ok' := fun _ => False) (pa := .slice none 0 0) (ans := []) hW hz (by omega : w.heap.size ≠ b) (Rec.nil _ _ _) (fun _ h => h.elim) (Nat.zero_le _)); have HD := H_ (do9_at (ok := fun _ => False) 11 ⟨true, p, 0, []⟩ _ _ H.out.2.1 (HC.out _ H.out.2.2.1 H.out.2.2.2.1) (actOk_is rfl _ _)); unfold pkV; clear h hp hb1 hz1; generalize evR C st 11 ⟨true, p, 0, []⟩ = R at *; obtain ⟨pc, pi, pl, pd⟩ := p; simp only at hcode
 subst hcode; go_enter Tryz.func50, Tryz.ntmps50; go_wp2_with fail; refine HD.out.mono ?_; intro e w3 h3; have H3 := H_ h3; obtain ⟨v3, L3, rfl, -, h33, -⟩ := h3; obtain ⟨s3, k3, rfl, -, -⟩ := h33.form; clear h33; go_wp2_with fail; go_ret; exact H3.out.grow (by omega) (Keep.of_below _ H.out.2.2.1)
set_option maxRecDepth 100000 in
theorem take9_U (p : Pk) (po : Value) (hcode : p.code < 1 \/ 7 < p.code) (h : RNAt w S b C st X) (hp : PkIn w b ok p po) :
 Calls Tryz.prog 50 #[.pointer (some ⟨b, 0, none⟩), pkV p po] w fun e w' => RNPost w w' S (fun _ => False) b C (evR C st 12 ⟨true, p, 0, []⟩) e := by
 obtain ⟨sp, kp, rfl, hkp, -⟩ := hp.o.form; have hb1 := b1 w (.cells #[.int .i64 p.code, .int .i64 p.id, .slice sp p.o.length kp, .string p.d] 93 (0, 0)); have hz1 := heap_alloc_new w (.cells #[.int .i64 p.code, .int .i64 p.id, .slice sp p.o.length kp, .string p.d] 93 (0, 0)); have hs1 : (w.alloc (.cells #[.int .i64 p.code, .int .i64 p.id, .slice sp p.o.length kp, .string p.d] 93 (0, 0))).heap.size = w.heap.size + 1 := alloc1 _ _; have hblt := h.blt; have H := H_ (A_ h (A_ (h.below hb1) (A_ hb1 (A_ hz1 hp)))); have HC := H_ (fun (W : World) (hW : Below w.heap.size w W) (hz : W.heap[w.heap.size]? = some (.cells #[.int .i64 p.code, .int .i64 p.id, .slice sp p.o.length kp, .string p.d] 93 (0, 0))) => hp.came (c := 0) (ok' := fun _ => False) (pa := .slice none 0 0) (ans := []) hW hz (by omega : w.heap.size ≠ b) (Rec.nil _ _ _) (fun _ h => h.elim) (Nat.zero_le _)); have HD := H_ (do9_at (ok := fun _ => False) 12 ⟨true, p, 0, []⟩ _ _ H.out.2.1 (HC.out _ H.out.2.2.1 H.out.2.2.2.1) (actOk_is rfl _ _)); unfold pkV; clear h hp hb1 hz1; generalize evR C st 12 ⟨true, p, 0, []⟩ = R at *; have d1 : (p.code == 1) = false := by simp; omega
 have d2 : (p.code == 2) = false := by simp; omega
 have d3 : (p.code == 3) = false := by simp; omega
 have d4 : (p.code == 4) = false := by simp; omega
 have d5 : (p.code == 5) = false := by simp; omega
 have d6 : (p.code == 6) = false := by simp; omega
 have d7 : (p.code == 7) = false := by simp; omega
 clear hcode; go_enter Tryz.func50, Tryz.ntmps50; go_wp2_with fail; refine HD.out.mono ?_; intro e w3 h3; have H3 := H_ h3; obtain ⟨v3, L3, rfl, -, h33, -⟩ := h3; obtain ⟨s3, k3, rfl, -, -⟩ := h33.form; clear h33; go_wp2_with fail; go_ret; exact H3.out.grow (by omega) (Keep.of_below _ H.out.2.2.1)
end
end Go.Proofs.YtignponfoheaeaaGreat
