import Derived.Test.YthhdackaopaojaaGreatV61
/- A nak is taken: the walk. -/
namespace Go.Proofs.YthhdackaopaojaaGreat
open Go.RowKit Go.Tg Go.Maps

theorem ORow.blk2 {w : World} {g n cap : Nat} {l : List Opt} (h : ORow w 0 (.slice (some ⟨g, 0, none⟩) n cap) l) : ∃ cur, w.heap[g]? = some (.cells cur 67 (0, 0)) ∧ l.length ≤ cap ∧ cap ≤ maxLen ∧ cur.size = cap * 2 ∧ cur.toList.take (l.length * 2) = flatO l := by
  obtain ⟨_, ⟨h, h0⟩ | ⟨g', cap', cur, h1, _, h3, h4, h5, h6, h7⟩⟩ := h
  · cases h
  · simp only [Value.slice.injEq, Option.some.injEq, Addr.mk.injEq, and_true] at h1
    obtain ⟨rfl, -, rfl⟩ := h1
    exact ⟨cur, h3, h4, h5, h6, h7⟩

section
variable (rej : Pk → ByteArray) {w : World} {S ok : Nat → Prop} {B : NegB} {C : NegC} {st : NSt} {X : NegX}

set_option maxHeartbeats 32000000 in
set_option maxRecDepth 100000 in
theorem named_at (p : Pk) (po : Value) (h : NegAt w S B C st X) (ho : Opts w ok po p.o) (hok : ∀ b, ok b → ¬ B.t b) (hlen : p.o.length ≤ 1000000) (hv : ∀ o ∈ p.o, o.v.size ≤ 100000) :
    Calls Tryz.prog 101 #[.pointer (some ⟨B.nb, 0, none⟩), pkV p po] w fun e w' => EvPost w w' S ok B C (namedS rej C st p) e := by
  obtain ⟨a1, k1, rfl, hc1, hc2⟩ := ho.form
  have hb := (Below.refl w.heap.size w).alloc (Nat.le_refl _) (.cells #[.int .i64 p.code, .int .i64 p.id, .slice a1 p.o.length k1, .string p.d] 38 (0, 0))
  have hx := at1 w (.cells #[.int .i64 p.code, .int .i64 p.id, .slice a1 p.o.length k1, .string p.d] 38 (0, 0))
  have c2 := cellOf hx 2 (.slice a1 p.o.length k1) rfl
  have H0 := Lib.hid (And.intro ((h.below hb).mono (S' := fun b => Grow S w b) (fun b hb => .inl hb)) (And.intro (Keep.of_below B.t hb) hx))
  have hnl := h.tlt (b := w.heap.size)
  have HPX : Hid (∀ Y, Keep B.t w Y → Y.heap[w.heap.size]? = some (.cells #[.int .i64 p.code, .int .i64 p.id, .slice a1 p.o.length k1, .string p.d] 38 (0, 0)) → True) := Lib.hid (fun _ _ _ => trivial)
  clear HPX
  obtain ⟨W, hW⟩ : ∃ W, W = w.alloc (.cells #[.int .i64 p.code, .int .i64 p.id, .slice a1 p.o.length k1, .string p.d] 38 (0, 0)) := ⟨_, rfl⟩
  rw [← hW] at H0 c2 hb hx
  have hWs : W.heap.size = w.heap.size + 1 := by rw [hW]; exact alloc1 _ _
  have HPX : Hid (∀ Y, Keep B.t W Y → Y.heap[w.heap.size]? = some (.cells #[.int .i64 p.code, .int .i64 p.id, .slice a1 p.o.length k1, .string p.d] 38 (0, 0))) := Lib.hid (fun Y hY => (hY.block _ (by omega) (fun ht => by have := hnl ht; omega)).trans hx)
  have HO : Hid (∀ Y, Keep B.t W Y → Opts Y ok (.slice a1 p.o.length k1) p.o) := Lib.hid (fun Y hY => Rec.keep (ho.below hb) hY (fun b _ hb ht => hok b hb ht))
  have HV := Lib.hid hv
  have HOK := Lib.hid (And.intro hok (And.intro hlen (And.intro hb h.lr)))
  obtain ⟨len, hln⟩ : ∃ len, len = p.o.length := ⟨_, rfl⟩
  have HLN := Lib.hid hln
  have hlen' : len ≤ 1000000 := by omega
  unfold maxLen at hc2
  unfold pkV
  clear h ho hok hlen hv hb hx hnl hWs
  go_enter Tryz.func101, Tryz.ntmps101
  go_wp2_with fail
  rw [← hW]
  clear hW
  rw [← hln]
  rw [← hln] at c2 hc1
  clear hln
  go_loopg [13] len (fun x i wr => ∃ k : Nat, k ≤ len ∧ x = len - k ∧ i = .int .i64 k ∧ Hid (∃ X', NegAt wr (fun b => Grow S w b) B C { st with req := (p.o.take k).foldl (nameOne C) st.req } X' ∧ Keep B.t W wr ∧ wr.heap[w.heap.size]? = some (.cells #[.int .i64 p.code, .int .i64 p.id, .slice a1 len k1, .string p.d] 38 (0, 0))))
  case atStart => exact ⟨0, by omega, by omega, rfl, X, H0.out.1, Keep.refl _ _, by rw [HLN.out]; exact H0.out.2.2⟩
  case round =>
    obtain ⟨k, hk, rfl, rfl, hK⟩ := hrel
    obtain ⟨X', hN, hkp, hpx⟩ := hK.out
    have HN := Lib.hid hN
    have HKP := Lib.hid hkp
    have HPX2 := Lib.hid hpx
    clear hK hN hkp hpx c2
    by_cases hkl : k < len
    · have hkl' : k < p.o.length := by have := HLN.out; omega
      obtain ⟨b, off, rfl, hb, -, -, -, -, d0, d1⟩ := (HO.out wr HKP.out).at k hkl'
      have HSU := Lib.hid (show (p.o.take (k + 1)).foldl (nameOne C) st.req = nameOne C ((p.o.take k).foldl (nameOne C) st.req) p.o[k] from by rw [List.take_succ_eq_append_getElem hkl', List.foldl_append]; rfl)
      have hvo := HV.out _ (List.getElem_mem hkl')
      generalize (p.o.take k).foldl (nameOne C) st.req = req at HN HSU
      generalize p.o[k] = o at d0 d1 HSU hvo
      obtain ⟨t, v⟩ := o
      simp only at d0 d1 hvo
      have HVL := Lib.hid (show v.size ≤ 140737488355328 by omega)
      have hba := (Below.refl wr.heap.size wr).alloc (Nat.le_refl _) (.cells #[.int .i64 t, .string v] 67 (0, 0))
      have hox := at1 wr (.cells #[.int .i64 t, .string v] 67 (0, 0))
      have hNa := HN.out.below hba
      obtain ⟨qa, qc, hrq⟩ := hNa.req.form
      have g10 := hNa.cell 10
      rw [show (negCells B C { st with req := req } X')[10]? = some X'.req from rfl, hrq] at g10
      obtain ⟨ox, hoxe⟩ : ∃ ox, ox = wr.heap.size := ⟨_, rfl⟩
      rw [← hoxe] at hox hba
      have HI := Lib.hid (idxO_any req X'.req _ 114 #[.pointer (some ⟨ox, 0, none⟩)] (fun x => x.t == t) _ (hNa.req.opts (show req.length ≤ maxLen by have h : req.length ≤ 30 := HN.out.lr; unfold maxLen; omega)) (by have h : req.length ≤ 30 := HN.out.lr; omega) (enters_of Tryz.func114 (by kernel_rfl) rfl)
        (fun Z x _ hZ => (named1_any x t ox Z (cellOf ((hZ.block _ (lt_of_heap' hox)).trans hox) 0 _ rfl)).mono (fun e w' he => ⟨he.1, hZ.trans (he.2.mono hZ.size)⟩)))
      rw [hrq] at HI
      obtain ⟨wa, hwa⟩ : ∃ wa, wa = wr.alloc (.cells #[.int .i64 t, .string v] 67 (0, 0)) := ⟨_, rfl⟩
      rw [← hwa] at HI hox hba hNa
      have HBA := Lib.hid (show Below wr.heap.size wr wa by rw [← hoxe]; exact hba)
      have HNA := Lib.hid (And.intro hNa (And.intro hox hrq))
      clear hba hox hNa hrq
      rcases idxP_cases (fun x : Opt => x.t == t) req with ⟨hi, -⟩ | ⟨i, hi0, hi, hti, -⟩
      · have HEQ := Lib.hid (show nameOne C req ⟨t, v⟩ = req from by unfold nameOne; rw [if_pos (by simp only [hi]; decide)])
        rw [hi] at HI
        clear hi
        go_wp2_with fail
        rw [← hwa, ← hoxe]
        clear hwa hoxe
        refine HI.out.mono ?_
        rintro e w2 ⟨rfl, hb2⟩
        have HN2 := Lib.hid (HNA.out.1.below hb2)
        have HKW := Lib.hid (HKP.out.trans (Keep.of_below B.t (HBA.out.trans (hb2.mono HBA.out.size))))
        clear hb2
        go_wp2_with fail
        go_roundg (len - (k + 1))
        case measure => omega
        case rel => exact ⟨k + 1, by omega, rfl, by go_num, X', by rw [HSU.out, HEQ.out]; exact HN2.out, HKW.out, by rw [HLN.out]; exact HPX.out _ HKW.out⟩
      · have HNO : Hid (nameOne C req ⟨t, v⟩ = if ((findR C.own t).isSome && fitsR (ruleOf C.own t) v) = true then req.set i ⟨t, v⟩ else if hasB C.must t = true then req else req.eraseIdx i) := Lib.hid (by
          unfold nameOne
          simp only [hi]
          rw [if_neg (by omega)]
          simp)
        rw [hi] at HI
        have HI0 := Lib.hid hi0
        have hti2 := hti
        simp only [beq_iff_eq] at hti2
        have HTO := Lib.hid hti2
        clear hti hti2
        obtain ⟨g, cap, cur0, hrq2, -, -, -, -, -⟩ := HN.out.req.blk (by show 0 < req.length; omega)
        have hrq1 := HNA.out.2.2.symm.trans hrq2
        simp only [Value.slice.injEq] at hrq1
        obtain ⟨rfl, -, rfl⟩ := hrq1
        obtain ⟨len2, hle⟩ : ∃ len2, len2 = req.length := ⟨_, rfl⟩
        have HLE := Lib.hid hle
        have HRQ : Hid (X'.req = .slice (some ⟨g, 0, none⟩) len2 qc) := Lib.hid (by rw [hle]; exact hrq2)
        have hil : i < len2 := by omega
        have hl30 : len2 ≤ 30 := by have h : req.length ≤ 30 := HN.out.lr; omega
        rw [← hle] at HI g10
        have dlt : decide ((i : Int) < 0) = false := by simp
        generalize qc = cap at *
        clear hi hrq2 cur0 hle
        go_wp2_with fail
        rw [← hwa, ← hoxe]
        clear hwa g10
        refine HI.out.mono ?_
        rintro e w2 ⟨rfl, hb2⟩
        have HN2 := Lib.hid (HNA.out.1.below hb2)
        have HB2 := Lib.hid (show Below wa.heap.size wa w2 from hb2)
        have hox3 := (hb2.block _ (lt_of_heap' HNA.out.2.1)).trans HNA.out.2.1
        have hox2 := lt_of_heap' hox3
        have HOX := Lib.hid hox3
        have HS6 : Hid (∀ Y, Below w2.heap.size w2 Y → Y.cell? ⟨B.nb, 2, none⟩ = some X'.own ∧ Y.cell? ⟨ox, 0, none⟩ = some (.int .i64 t)) := Lib.hid (fun Y hY => ⟨(HN2.out.below hY).cell 2, cellOf ((hY.block _ hox2).trans HOX.out) 0 _ rfl⟩)
        have HFR := Lib.hid (fun Y (hY : Below w2.heap.size w2 Y) => findR_any C.own X'.own _ t Y (HN2.out.below hY).own (by have := HN2.out.ok.own; omega))
        have HFT := Lib.hid (fun Y => fits_any (ruleOf C.own t) v Y hvo)
        have HMU := Lib.hid (fun Y h => hasN_any C.must X'.must (B.r fun b => Grow S w b) t Y h (by have := HN2.out.ok.must; omega))
        generalize (findR C.own t).isSome = f at HNO HFR
        generalize fitsR (ruleOf C.own t) v = y at HNO HFT
        generalize hasB C.must t = m at HNO HMU
        clear hb2 hox3 HI hoxe hvo
        go_wp2_with fail
        cases f with
        | false =>
          cases m with
          | false =>
            have HEQ := Lib.hid (show nameOne C req ⟨t, v⟩ = req.eraseIdx i from HNO.out)
            refine wp_region_H (rgH 0 13) (fun Y : World => Y.cell? ⟨B.nb, 2, none⟩ = some X'.own ∧ Y.cell? ⟨ox, 0, none⟩ = some (.int .i64 t)) (by kernel_rfl) ?_
            have HSv : (fun Y : World => Y.cell? ⟨B.nb, 2, none⟩ = some X'.own ∧ Y.cell? ⟨ox, 0, none⟩ = some (.int .i64 t)) w2.drew := HS6.out _ (Below.refl _ _).drew
            refine wpAnyH_at 0 (v := ?vv95) rfl (by kernel_rfl) (by kernel_rfl) (by kernel_rfl) (fun _ _ _ h => h) ?hy95 HSv ?hh95
            case hy95 =>
              refine Or.inl ⟨by rfl, ?_⟩
              intro W hW
              obtain ⟨h0, h1⟩ := hW
              go_simp
              try with_reducible rfl
            simp only [Act.put, List.setIfInBounds_toArray, List.set_cons_zero, List.set_cons_succ]
            refine wpAnyH_at 1 (v := ?vv96) rfl (by kernel_rfl) (by kernel_rfl) (by kernel_rfl) (fun _ _ _ h => h) ?hy96 HSv ?hh96
            case hy96 =>
              refine Or.inl ⟨by rfl, ?_⟩
              intro W hW
              obtain ⟨h0, h1⟩ := hW
              go_simp
              try with_reducible rfl
            simp only [Act.put, List.setIfInBounds_toArray, List.set_cons_zero, List.set_cons_succ]
            refine wpAnyH_at 2 (v := ?vv97) rfl (by kernel_rfl) (by kernel_rfl) (by kernel_rfl) (fun _ _ _ h => h) ?hy97 HSv ?hh97
            case hy97 =>
              refine Or.inl ⟨by rfl, ?_⟩
              intro W hW
              obtain ⟨h0, h1⟩ := hW
              go_simp
              try with_reducible rfl
            simp only [Act.put, List.setIfInBounds_toArray, List.set_cons_zero, List.set_cons_succ]
            refine wpAnyH_at 3 (v := ?vv98) rfl (by kernel_rfl) (by kernel_rfl) (by kernel_rfl) (fun _ _ _ h => h) ?hy98 HSv ?hh98
            case hy98 =>
              refine Or.inl ⟨by rfl, ?_⟩
              intro W hW
              obtain ⟨h0, h1⟩ := hW
              go_simp
              try with_reducible rfl
            simp only [Act.put, List.setIfInBounds_toArray, List.set_cons_zero, List.set_cons_succ]
            refine wpAnyH_at 4 (v := ?vv99) rfl (by kernel_rfl) (by kernel_rfl) (by kernel_rfl) (fun _ _ _ h => h) ?hy99 HSv ?hh99
            case hy99 =>
              refine Or.inl ⟨by rfl, ?_⟩
              intro W hW
              obtain ⟨h0, h1⟩ := hW
              go_simp
              try with_reducible rfl
            simp only [Act.put, List.setIfInBounds_toArray, List.set_cons_zero, List.set_cons_succ]
            refine wpAnyH_at 5 (v := ?vv100) rfl (by kernel_rfl) (by kernel_rfl) (by kernel_rfl) (fun _ _ _ h => h) ?hy100 HSv ?hh100
            case hy100 =>
              refine Or.inl ⟨by rfl, ?_⟩
              intro W hW
              obtain ⟨h0, h1⟩ := hW
              go_simp
              try with_reducible rfl
            simp only [Act.put, List.setIfInBounds_toArray, List.set_cons_zero, List.set_cons_succ]
            refine wpAnyH_at 6 (v := ?vv101) rfl (by kernel_rfl) (by kernel_rfl) (by kernel_rfl) (fun _ _ _ h => h) ?hy101 HSv ?hh101
            case hy101 =>
              refine Or.inl ⟨by rfl, ?_⟩
              intro W hW
              obtain ⟨h0, h1⟩ := hW
              go_simp
              try with_reducible rfl
            simp only [Act.put, List.setIfInBounds_toArray, List.set_cons_zero, List.set_cons_succ]
            refine wpAnyH_2 7 11 rfl rfl (by kernel_rfl) ?_ ?_
            · intro K hK
              rw [if_pos (by rfl)]
              try go_simp
              go_at_call 94
              refine (HFR.out _ (Below.refl _ _).drew).mono ?_
              rintro e w3 ⟨rfl, hb3⟩
              have HB3 := Lib.hid (show Below w2.heap.size w2 w3 from Below.trans (Below.refl _ _).drew hb3)
              have HSv : (fun Y : World => Y.cell? ⟨B.nb, 2, none⟩ = some X'.own ∧ Y.cell? ⟨ox, 0, none⟩ = some (.int .i64 t)) w3 := HS6.out _ HB3.out
              clear hb3
              refine hK _ _ (fun _ => HSv) ?_
              try simp only [Act.put, List.setIfInBounds_toArray, List.set_cons_zero, List.set_cons_succ]
              refine wpAnyH_at 8 (v := ?vv102) rfl (by kernel_rfl) (by kernel_rfl) (by kernel_rfl) (fun _ _ _ h => h) ?hy102 HSv ?hh102
              case hy102 =>
                refine Or.inl ⟨by rfl, ?_⟩
                intro W hW
                obtain ⟨h0, h1⟩ := hW
                go_simp
                try with_reducible rfl
              simp only [Act.put, List.setIfInBounds_toArray, List.set_cons_zero, List.set_cons_succ]
              refine wpAnyH_at 9 (v := ?vv103) rfl (by kernel_rfl) (by kernel_rfl) (by kernel_rfl) (fun _ _ _ h => h) ?hy103 HSv ?hh103
              case hy103 =>
                refine Or.inl ⟨by rfl, ?_⟩
                intro W hW
                obtain ⟨h0, h1⟩ := hW
                go_simp
                try with_reducible rfl
              simp only [Act.put, List.setIfInBounds_toArray, List.set_cons_zero, List.set_cons_succ]
              refine wpAnyH_at 10 (v := ?vv104) rfl (by kernel_rfl) (by kernel_rfl) (by kernel_rfl) (fun _ _ _ h => h) ?hy104 HSv ?hh104
              case hy104 =>
                refine Or.inl ⟨by rfl, ?_⟩
                intro W hW
                obtain ⟨h0, h1⟩ := hW
                go_simp
                try with_reducible rfl
              simp only [Act.put, List.setIfInBounds_toArray, List.set_cons_zero, List.set_cons_succ]
              refine wpAnyH_1 11 rfl (by kernel_rfl) ?_
              intro K hK
              rw [if_pos (by rfl)]
              try go_simp
              have HB4 := Lib.hid (HB3.out.alloc HB3.out.size (.cells #[.int .i64 0, .int .i64 0, .int .i64 0, .int .i64 0, .string ⟨#[]⟩] 73 (0, 0)))
              have z4 := at1 w3 (.cells #[.int .i64 0, .int .i64 0, .int .i64 0, .int .i64 0, .string ⟨#[]⟩] 73 (0, 0))
              have hrx := HB3.out.size
              generalize w3.alloc (.cells #[.int .i64 0, .int .i64 0, .int .i64 0, .int .i64 0, .string ⟨#[]⟩] 73 (0, 0)) = w4 at HB4 z4 ⊢
              generalize w3.heap.size = rx at z4 hrx ⊢
              have HSv : (fun Y : World => Y.cell? ⟨B.nb, 2, none⟩ = some X'.own ∧ Y.cell? ⟨ox, 0, none⟩ = some (.int .i64 t)) w4 := HS6.out _ HB4.out
              have zf := fun o => fzOf z4 o
              have y0 := cellOf z4 0 (.int .i64 0) rfl
              have y1 := cellOf z4 1 (.int .i64 0) rfl
              have y2 := cellOf z4 2 (.int .i64 0) rfl
              have y3 := cellOf z4 3 (.int .i64 0) rfl
              have y4 := cellOf z4 4 (.string ⟨#[]⟩) rfl
              refine hK _ _ (fun _ => HSv) ?_
              try simp only [Act.put, List.setIfInBounds_toArray, List.set_cons_zero, List.set_cons_succ]
              clear HSv
              refine wpAnyH_1 12 rfl (by kernel_rfl) ?_
              intro K hK
              rw [if_pos (by rfl)]
              try go_simp
              have hr5 := set5 z4 (.int .i64 (ruleOf C.own t).t) (.int .i64 (ruleOf C.own t).len) (.int .i64 (ruleOf C.own t).min) (.int .i64 (ruleOf C.own t).max) (.string (ruleOf C.own t).s)
              have hb5 := below5 HB4.out hrx (.int .i64 (ruleOf C.own t).t) (.int .i64 (ruleOf C.own t).len) (.int .i64 (ruleOf C.own t).min) (.int .i64 (ruleOf C.own t).max) (.string (ruleOf C.own t).s)
              generalize ((((w4.setCell ⟨rx, 0, none⟩ (.int .i64 (ruleOf C.own t).t)).setCell ⟨rx, 1, none⟩ (.int .i64 (ruleOf C.own t).len)).setCell ⟨rx, 2, none⟩ (.int .i64 (ruleOf C.own t).min)).setCell ⟨rx, 3, none⟩ (.int .i64 (ruleOf C.own t).max)).setCell ⟨rx, 4, none⟩ (.string (ruleOf C.own t).s) = w5 at hr5 hb5 ⊢
              have HB5 := Lib.hid hb5
              have u1 := cellOf ((hb5.block _ hox2).trans HOX.out) 1 (.string v) rfl
              have r0 := cellOf hr5 0 (.int .i64 (ruleOf C.own t).t) rfl
              have r1 := cellOf hr5 1 (.int .i64 (ruleOf C.own t).len) rfl
              have r2 := cellOf hr5 2 (.int .i64 (ruleOf C.own t).min) rfl
              have r3 := cellOf hr5 3 (.int .i64 (ruleOf C.own t).max) rfl
              have r4 := cellOf hr5 4 (.string (ruleOf C.own t).s) rfl
              clear hr5 hb5 z4 y0 y1 y2 y3 y4 zf
              have HSv : (fun Y : World => Y.cell? ⟨B.nb, 2, none⟩ = some X'.own ∧ Y.cell? ⟨ox, 0, none⟩ = some (.int .i64 t)) w5 := HS6.out _ HB5.out
              refine hK _ _ (fun _ => HSv) ?_
              try simp only [Act.put, List.setIfInBounds_toArray, List.set_cons_zero, List.set_cons_succ]
              clear HSv
              refine wpAnyH_end 13 (fun j hj => rgH_end _ _ j (by omega)) (by rfl) (by kernel_rfl) ?_
              simp only [List.drop_succ_cons, List.drop_zero]
              clear u1 r0 r1 r2 r3 r4
              go_wp2_with fail
              have HN9 := Lib.hid ((HN2.out.below HB5.out).below (show Below w5.heap.size w5 w5.drew from (Below.refl _ _).drew))
              have HSv : (fun Y : World => Y.cell? ⟨B.nb, 4, none⟩ = some X'.must ∧ Y.cell? ⟨ox, 0, none⟩ = some (.int .i64 t)) w5.drew := ⟨HN9.out.cell 4, cellOf ((HB5.out.drew.block _ hox2).trans HOX.out) 0 _ rfl⟩
              refine wp_region_H (rgH 0 9) (fun Y : World => Y.cell? ⟨B.nb, 4, none⟩ = some X'.must ∧ Y.cell? ⟨ox, 0, none⟩ = some (.int .i64 t)) (by kernel_rfl) ?_
              refine wpAnyH_at 0 (v := ?vv105) rfl (by kernel_rfl) (by kernel_rfl) (by kernel_rfl) (fun _ _ _ h => h) ?hy105 HSv ?hh105
              case hy105 =>
                refine Or.inl ⟨by rfl, ?_⟩
                intro W hW
                obtain ⟨h0, h1⟩ := hW
                go_simp
                try with_reducible rfl
              simp only [Act.put, List.setIfInBounds_toArray, List.set_cons_zero, List.set_cons_succ]
              refine wpAnyH_at 1 (v := ?vv106) rfl (by kernel_rfl) (by kernel_rfl) (by kernel_rfl) (fun _ _ _ h => h) ?hy106 HSv ?hh106
              case hy106 =>
                refine Or.inl ⟨by rfl, ?_⟩
                intro W hW
                obtain ⟨h0, h1⟩ := hW
                go_simp
                try with_reducible rfl
              simp only [Act.put, List.setIfInBounds_toArray, List.set_cons_zero, List.set_cons_succ]
              refine wpAnyH_at 2 (v := ?vv107) rfl (by kernel_rfl) (by kernel_rfl) (by kernel_rfl) (fun _ _ _ h => h) ?hy107 HSv ?hh107
              case hy107 =>
                refine Or.inl ⟨by rfl, ?_⟩
                intro W hW
                obtain ⟨h0, h1⟩ := hW
                go_simp
                try with_reducible rfl
              simp only [Act.put, List.setIfInBounds_toArray, List.set_cons_zero, List.set_cons_succ]
              refine wpAnyH_at 3 (v := ?vv108) rfl (by kernel_rfl) (by kernel_rfl) (by kernel_rfl) (fun _ _ _ h => h) ?hy108 HSv ?hh108
              case hy108 =>
                refine Or.inl ⟨by rfl, ?_⟩
                intro W hW
                obtain ⟨h0, h1⟩ := hW
                go_simp
                try with_reducible rfl
              simp only [Act.put, List.setIfInBounds_toArray, List.set_cons_zero, List.set_cons_succ]
              refine wpAnyH_at 4 (v := ?vv109) rfl (by kernel_rfl) (by kernel_rfl) (by kernel_rfl) (fun _ _ _ h => h) ?hy109 HSv ?hh109
              case hy109 =>
                refine Or.inl ⟨by rfl, ?_⟩
                intro W hW
                obtain ⟨h0, h1⟩ := hW
                go_simp
                try with_reducible rfl
              simp only [Act.put, List.setIfInBounds_toArray, List.set_cons_zero, List.set_cons_succ]
              refine wpAnyH_at 5 (v := ?vv110) rfl (by kernel_rfl) (by kernel_rfl) (by kernel_rfl) (fun _ _ _ h => h) ?hy110 HSv ?hh110
              case hy110 =>
                refine Or.inl ⟨by rfl, ?_⟩
                intro W hW
                obtain ⟨h0, h1⟩ := hW
                go_simp
                try with_reducible rfl
              simp only [Act.put, List.setIfInBounds_toArray, List.set_cons_zero, List.set_cons_succ]
              refine wpAnyH_at 6 (v := ?vv111) rfl (by kernel_rfl) (by kernel_rfl) (by kernel_rfl) (fun _ _ _ h => h) ?hy111 HSv ?hh111
              case hy111 =>
                refine Or.inl ⟨by rfl, ?_⟩
                intro W hW
                obtain ⟨h0, h1⟩ := hW
                go_simp
                try with_reducible rfl
              simp only [Act.put, List.setIfInBounds_toArray, List.set_cons_zero, List.set_cons_succ]
              refine wpAnyH_1 7 rfl (by kernel_rfl) ?_
              intro K hK
              rw [if_pos (by rfl)]
              try go_simp
              go_at_call 108
              refine (HMU.out _ HN9.out.must).mono ?_
              rintro e _ ⟨rfl, rfl⟩
              refine hK _ _ (fun _ => HSv) ?_
              try simp only [Act.put, List.setIfInBounds_toArray, List.set_cons_zero, List.set_cons_succ]
              refine wpAnyH_at 8 (v := ?vv112) rfl (by kernel_rfl) (by kernel_rfl) (by kernel_rfl) (fun _ _ _ h => h) ?hy112 HSv ?hh112
              case hy112 =>
                refine Or.inl ⟨by rfl, ?_⟩
                intro W hW
                obtain ⟨h0, h1⟩ := hW
                go_simp
                try with_reducible rfl
              simp only [Act.put, List.setIfInBounds_toArray, List.set_cons_zero, List.set_cons_succ]
              refine wpAnyH_end 9 (fun j hj => rgH_end _ _ j (by omega)) (by rfl) (by kernel_rfl) ?_
              simp only [List.drop_succ_cons, List.drop_zero]
              clear HSv
              have HKP9 := Lib.hid (HKP.out.trans (Keep.of_below B.t (HBA.out.trans (HB2.out.trans (HB5.out.drew.mono HB2.out.size) |>.mono HBA.out.size))))
              have hq9 : ORow w5.drew 0 X'.req req := HN9.out.req
              rw [HRQ.out] at hq9
              obtain ⟨cur, y1, y2, y3, y4, y5⟩ := hq9.blk2
              have HD := Lib.hid (delO_any g cap cur req i w5.drew HI0.out y1 y2 y3 y4 y5 (by have h : req.length ≤ 30 := HN2.out.lr; omega))
              rw [← HLE.out] at HD
              have g10 : w5.drew.cell? ⟨B.nb, 10, none⟩ = some (.slice (some ⟨g, 0, none⟩) len2 cap) := by have := HN9.out.cell 10; rw [show (negCells B C { st with req := req } X')[10]? = some X'.req from rfl, HRQ.out] at this; exact this
              clear y1 y2 y3 y4 y5 hq9
              go_wp2_with (go_at_call 115
                           refine HD.out.mono ?_
                           rintro e w8 ⟨rfl, r8, k8⟩
                           have hkr : Keep (fun b => X'.req.ownBlock = some b) w5.drew w8 := k8.mono (fun b _ hb => by rw [HRQ.out]; subst hb; rfl)
                           have hl8 : (req.eraseIdx i).length ≤ 30 := Nat.le_trans (List.length_eraseIdx_le _ _) HN2.out.lr
                           have hgr : g = B.rb := HN2.out.rq g (by rw [HRQ.out]; rfl)
                           have hNS := HN9.out.setReq hkr r8 (fun b hb => by cases hb; exact hgr) hl8
                           have y10 := (k8.block B.nb HN9.out.nlt (fun he => HN9.out.ne2 (by rw [← hgr]; exact he.symm))).trans HN9.out.blk
                           have f10 := fun o => fzOf y10 o
                           have g11 := cellOf y10 10 X'.req rfl
                           rw [HRQ.out] at g11
                           have HNS := Lib.hid hNS
                           have HK10 := Lib.hid (HKP9.out.trans hNS.2)
                           clear hkr hl8 hgr hNS y10 k8 r8)
              go_roundg (len - (k + 1))
              case measure => omega
              case rel => exact ⟨k + 1, by omega, rfl, by go_num, _, by rw [HSU.out, HEQ.out]; exact HNS.out.1, HK10.out, by rw [HLN.out]; exact HPX.out _ (HK10.out)⟩
            · intro K hK
              rw [if_pos (by rfl)]
              try go_simp
              have HB3 := Lib.hid (((Below.refl w2.heap.size w2).alloc (Nat.le_refl _) (.cells #[.int .i64 0, .int .i64 0, .int .i64 0, .int .i64 0, .string ⟨#[]⟩] 73 (0, 0))).drew)
              have z3 : (w2.alloc (.cells #[.int .i64 0, .int .i64 0, .int .i64 0, .int .i64 0, .string ⟨#[]⟩] 73 (0, 0))).drew.heap[w2.heap.size]? = _ := at1 w2 (.cells #[.int .i64 0, .int .i64 0, .int .i64 0, .int .i64 0, .string ⟨#[]⟩] 73 (0, 0))
              have hrx : w2.heap.size ≤ w2.heap.size := Nat.le_refl _
              generalize (w2.alloc (.cells #[.int .i64 0, .int .i64 0, .int .i64 0, .int .i64 0, .string ⟨#[]⟩] 73 (0, 0))).drew = w3 at HB3 z3 ⊢
              try simp only [show w2.drew.heap.size = w2.heap.size from rfl]
              have HSv : (fun Y : World => Y.cell? ⟨B.nb, 2, none⟩ = some X'.own ∧ Y.cell? ⟨ox, 0, none⟩ = some (.int .i64 t)) w3 := HS6.out _ HB3.out
              refine hK _ _ (fun _ => HSv) ?_
              try simp only [Act.put, List.setIfInBounds_toArray, List.set_cons_zero, List.set_cons_succ]
              refine wpAnyH_1 7 rfl (by kernel_rfl) ?_
              intro K hK
              rw [if_pos (by rfl)]
              try go_simp
              go_at_call 94
              refine (HFR.out _ HB3.out).mono ?_
              rintro e w4 ⟨rfl, hb4⟩
              have HB4 := Lib.hid (show Below w2.heap.size w2 w4 from HB3.out.trans (hb4.mono HB3.out.size))
              have z4 := (hb4.block _ (lt_of_heap' z3)).trans z3
              have HSv : (fun Y : World => Y.cell? ⟨B.nb, 2, none⟩ = some X'.own ∧ Y.cell? ⟨ox, 0, none⟩ = some (.int .i64 t)) w4 := HS6.out _ HB4.out
              have zf := fun o => fzOf z4 o
              have y0 := cellOf z4 0 (.int .i64 0) rfl
              have y1 := cellOf z4 1 (.int .i64 0) rfl
              have y2 := cellOf z4 2 (.int .i64 0) rfl
              have y3 := cellOf z4 3 (.int .i64 0) rfl
              have y4 := cellOf z4 4 (.string ⟨#[]⟩) rfl
              clear hb4 z3
              refine hK _ _ (fun _ => HSv) ?_
              try simp only [Act.put, List.setIfInBounds_toArray, List.set_cons_zero, List.set_cons_succ]
              refine wpAnyH_at 8 (v := ?vv113) rfl (by kernel_rfl) (by kernel_rfl) (by kernel_rfl) (fun _ _ _ h => h) ?hy113 HSv ?hh113
              case hy113 =>
                refine Or.inl ⟨by rfl, ?_⟩
                intro W hW
                obtain ⟨h0, h1⟩ := hW
                go_simp
                try with_reducible rfl
              simp only [Act.put, List.setIfInBounds_toArray, List.set_cons_zero, List.set_cons_succ]
              refine wpAnyH_at 9 (v := ?vv114) rfl (by kernel_rfl) (by kernel_rfl) (by kernel_rfl) (fun _ _ _ h => h) ?hy114 HSv ?hh114
              case hy114 =>
                refine Or.inl ⟨by rfl, ?_⟩
                intro W hW
                obtain ⟨h0, h1⟩ := hW
                go_simp
                try with_reducible rfl
              simp only [Act.put, List.setIfInBounds_toArray, List.set_cons_zero, List.set_cons_succ]
              refine wpAnyH_at 10 (v := ?vv115) rfl (by kernel_rfl) (by kernel_rfl) (by kernel_rfl) (fun _ _ _ h => h) ?hy115 HSv ?hh115
              case hy115 =>
                refine Or.inl ⟨by rfl, ?_⟩
                intro W hW
                obtain ⟨h0, h1⟩ := hW
                go_simp
                try with_reducible rfl
              simp only [Act.put, List.setIfInBounds_toArray, List.set_cons_zero, List.set_cons_succ]
              clear HSv
              refine wpAnyH_1 12 rfl (by kernel_rfl) ?_
              intro K hK
              rw [if_pos (by rfl)]
              try go_simp
              have hr5 := set5 z4 (.int .i64 (ruleOf C.own t).t) (.int .i64 (ruleOf C.own t).len) (.int .i64 (ruleOf C.own t).min) (.int .i64 (ruleOf C.own t).max) (.string (ruleOf C.own t).s)
              have hb5 := below5 HB4.out hrx (.int .i64 (ruleOf C.own t).t) (.int .i64 (ruleOf C.own t).len) (.int .i64 (ruleOf C.own t).min) (.int .i64 (ruleOf C.own t).max) (.string (ruleOf C.own t).s)
              generalize ((((w4.setCell ⟨w2.heap.size, 0, none⟩ (.int .i64 (ruleOf C.own t).t)).setCell ⟨w2.heap.size, 1, none⟩ (.int .i64 (ruleOf C.own t).len)).setCell ⟨w2.heap.size, 2, none⟩ (.int .i64 (ruleOf C.own t).min)).setCell ⟨w2.heap.size, 3, none⟩ (.int .i64 (ruleOf C.own t).max)).setCell ⟨w2.heap.size, 4, none⟩ (.string (ruleOf C.own t).s) = w5 at hr5 hb5 ⊢
              have HB5 := Lib.hid hb5
              have u1 := cellOf ((hb5.block _ hox2).trans HOX.out) 1 (.string v) rfl
              have r0 := cellOf hr5 0 (.int .i64 (ruleOf C.own t).t) rfl
              have r1 := cellOf hr5 1 (.int .i64 (ruleOf C.own t).len) rfl
              have r2 := cellOf hr5 2 (.int .i64 (ruleOf C.own t).min) rfl
              have r3 := cellOf hr5 3 (.int .i64 (ruleOf C.own t).max) rfl
              have r4 := cellOf hr5 4 (.string (ruleOf C.own t).s) rfl
              clear hr5 hb5 z4 y0 y1 y2 y3 y4 zf
              have HSv : (fun Y : World => Y.cell? ⟨B.nb, 2, none⟩ = some X'.own ∧ Y.cell? ⟨ox, 0, none⟩ = some (.int .i64 t)) w5 := HS6.out _ HB5.out
              refine hK _ _ (fun _ => HSv) ?_
              try simp only [Act.put, List.setIfInBounds_toArray, List.set_cons_zero, List.set_cons_succ]
              clear HSv
              refine wpAnyH_end 13 (fun j hj => rgH_end _ _ j (by omega)) (by rfl) (by kernel_rfl) ?_
              simp only [List.drop_succ_cons, List.drop_zero]
              clear u1 r0 r1 r2 r3 r4
              go_wp2_with fail
              have HN9 := Lib.hid ((HN2.out.below HB5.out).below (show Below w5.heap.size w5 w5.drew from (Below.refl _ _).drew))
              have HSv : (fun Y : World => Y.cell? ⟨B.nb, 4, none⟩ = some X'.must ∧ Y.cell? ⟨ox, 0, none⟩ = some (.int .i64 t)) w5.drew := ⟨HN9.out.cell 4, cellOf ((HB5.out.drew.block _ hox2).trans HOX.out) 0 _ rfl⟩
              refine wp_region_H (rgH 0 9) (fun Y : World => Y.cell? ⟨B.nb, 4, none⟩ = some X'.must ∧ Y.cell? ⟨ox, 0, none⟩ = some (.int .i64 t)) (by kernel_rfl) ?_
              refine wpAnyH_at 0 (v := ?vv116) rfl (by kernel_rfl) (by kernel_rfl) (by kernel_rfl) (fun _ _ _ h => h) ?hy116 HSv ?hh116
              case hy116 =>
                refine Or.inl ⟨by rfl, ?_⟩
                intro W hW
                obtain ⟨h0, h1⟩ := hW
                go_simp
                try with_reducible rfl
              simp only [Act.put, List.setIfInBounds_toArray, List.set_cons_zero, List.set_cons_succ]
              refine wpAnyH_at 1 (v := ?vv117) rfl (by kernel_rfl) (by kernel_rfl) (by kernel_rfl) (fun _ _ _ h => h) ?hy117 HSv ?hh117
              case hy117 =>
                refine Or.inl ⟨by rfl, ?_⟩
                intro W hW
                obtain ⟨h0, h1⟩ := hW
                go_simp
                try with_reducible rfl
              simp only [Act.put, List.setIfInBounds_toArray, List.set_cons_zero, List.set_cons_succ]
              refine wpAnyH_at 2 (v := ?vv118) rfl (by kernel_rfl) (by kernel_rfl) (by kernel_rfl) (fun _ _ _ h => h) ?hy118 HSv ?hh118
              case hy118 =>
                refine Or.inl ⟨by rfl, ?_⟩
                intro W hW
                obtain ⟨h0, h1⟩ := hW
                go_simp
                try with_reducible rfl
              simp only [Act.put, List.setIfInBounds_toArray, List.set_cons_zero, List.set_cons_succ]
              refine wpAnyH_at 3 (v := ?vv119) rfl (by kernel_rfl) (by kernel_rfl) (by kernel_rfl) (fun _ _ _ h => h) ?hy119 HSv ?hh119
              case hy119 =>
                refine Or.inl ⟨by rfl, ?_⟩
                intro W hW
                obtain ⟨h0, h1⟩ := hW
                go_simp
                try with_reducible rfl
              simp only [Act.put, List.setIfInBounds_toArray, List.set_cons_zero, List.set_cons_succ]
              refine wpAnyH_at 4 (v := ?vv120) rfl (by kernel_rfl) (by kernel_rfl) (by kernel_rfl) (fun _ _ _ h => h) ?hy120 HSv ?hh120
              case hy120 =>
                refine Or.inl ⟨by rfl, ?_⟩
                intro W hW
                obtain ⟨h0, h1⟩ := hW
                go_simp
                try with_reducible rfl
              simp only [Act.put, List.setIfInBounds_toArray, List.set_cons_zero, List.set_cons_succ]
              refine wpAnyH_at 5 (v := ?vv121) rfl (by kernel_rfl) (by kernel_rfl) (by kernel_rfl) (fun _ _ _ h => h) ?hy121 HSv ?hh121
              case hy121 =>
                refine Or.inl ⟨by rfl, ?_⟩
                intro W hW
                obtain ⟨h0, h1⟩ := hW
                go_simp
                try with_reducible rfl
              simp only [Act.put, List.setIfInBounds_toArray, List.set_cons_zero, List.set_cons_succ]
              refine wpAnyH_at 6 (v := ?vv122) rfl (by kernel_rfl) (by kernel_rfl) (by kernel_rfl) (fun _ _ _ h => h) ?hy122 HSv ?hh122
              case hy122 =>
                refine Or.inl ⟨by rfl, ?_⟩
                intro W hW
                obtain ⟨h0, h1⟩ := hW
                go_simp
                try with_reducible rfl
              simp only [Act.put, List.setIfInBounds_toArray, List.set_cons_zero, List.set_cons_succ]
              refine wpAnyH_1 7 rfl (by kernel_rfl) ?_
              intro K hK
              rw [if_pos (by rfl)]
              try go_simp
              go_at_call 108
              refine (HMU.out _ HN9.out.must).mono ?_
              rintro e _ ⟨rfl, rfl⟩
              refine hK _ _ (fun _ => HSv) ?_
              try simp only [Act.put, List.setIfInBounds_toArray, List.set_cons_zero, List.set_cons_succ]
              refine wpAnyH_at 8 (v := ?vv123) rfl (by kernel_rfl) (by kernel_rfl) (by kernel_rfl) (fun _ _ _ h => h) ?hy123 HSv ?hh123
              case hy123 =>
                refine Or.inl ⟨by rfl, ?_⟩
                intro W hW
                obtain ⟨h0, h1⟩ := hW
                go_simp
                try with_reducible rfl
              simp only [Act.put, List.setIfInBounds_toArray, List.set_cons_zero, List.set_cons_succ]
              refine wpAnyH_end 9 (fun j hj => rgH_end _ _ j (by omega)) (by rfl) (by kernel_rfl) ?_
              simp only [List.drop_succ_cons, List.drop_zero]
              clear HSv
              have HKP9 := Lib.hid (HKP.out.trans (Keep.of_below B.t (HBA.out.trans (HB2.out.trans (HB5.out.drew.mono HB2.out.size) |>.mono HBA.out.size))))
              have hq9 : ORow w5.drew 0 X'.req req := HN9.out.req
              rw [HRQ.out] at hq9
              obtain ⟨cur, y1, y2, y3, y4, y5⟩ := hq9.blk2
              have HD := Lib.hid (delO_any g cap cur req i w5.drew HI0.out y1 y2 y3 y4 y5 (by have h : req.length ≤ 30 := HN2.out.lr; omega))
              rw [← HLE.out] at HD
              have g10 : w5.drew.cell? ⟨B.nb, 10, none⟩ = some (.slice (some ⟨g, 0, none⟩) len2 cap) := by have := HN9.out.cell 10; rw [show (negCells B C { st with req := req } X')[10]? = some X'.req from rfl, HRQ.out] at this; exact this
              clear y1 y2 y3 y4 y5 hq9
              go_wp2_with (go_at_call 115
                           refine HD.out.mono ?_
                           rintro e w8 ⟨rfl, r8, k8⟩
                           have hkr : Keep (fun b => X'.req.ownBlock = some b) w5.drew w8 := k8.mono (fun b _ hb => by rw [HRQ.out]; subst hb; rfl)
                           have hl8 : (req.eraseIdx i).length ≤ 30 := Nat.le_trans (List.length_eraseIdx_le _ _) HN2.out.lr
                           have hgr : g = B.rb := HN2.out.rq g (by rw [HRQ.out]; rfl)
                           have hNS := HN9.out.setReq hkr r8 (fun b hb => by cases hb; exact hgr) hl8
                           have y10 := (k8.block B.nb HN9.out.nlt (fun he => HN9.out.ne2 (by rw [← hgr]; exact he.symm))).trans HN9.out.blk
                           have f10 := fun o => fzOf y10 o
                           have g11 := cellOf y10 10 X'.req rfl
                           rw [HRQ.out] at g11
                           have HNS := Lib.hid hNS
                           have HK10 := Lib.hid (HKP9.out.trans hNS.2)
                           clear hkr hl8 hgr hNS y10 k8 r8)
              go_roundg (len - (k + 1))
              case measure => omega
              case rel => exact ⟨k + 1, by omega, rfl, by go_num, _, by rw [HSU.out, HEQ.out]; exact HNS.out.1, HK10.out, by rw [HLN.out]; exact HPX.out _ (HK10.out)⟩
          | true =>
            have HEQ := Lib.hid (show nameOne C req ⟨t, v⟩ = req from HNO.out)
            refine wp_region_H (rgH 0 13) (fun Y : World => Y.cell? ⟨B.nb, 2, none⟩ = some X'.own ∧ Y.cell? ⟨ox, 0, none⟩ = some (.int .i64 t)) (by kernel_rfl) ?_
            have HSv : (fun Y : World => Y.cell? ⟨B.nb, 2, none⟩ = some X'.own ∧ Y.cell? ⟨ox, 0, none⟩ = some (.int .i64 t)) w2.drew := HS6.out _ (Below.refl _ _).drew
            refine wpAnyH_at 0 (v := ?vv124) rfl (by kernel_rfl) (by kernel_rfl) (by kernel_rfl) (fun _ _ _ h => h) ?hy124 HSv ?hh124
            case hy124 =>
              refine Or.inl ⟨by rfl, ?_⟩
              intro W hW
              obtain ⟨h0, h1⟩ := hW
              go_simp
              try with_reducible rfl
            simp only [Act.put, List.setIfInBounds_toArray, List.set_cons_zero, List.set_cons_succ]
            refine wpAnyH_at 1 (v := ?vv125) rfl (by kernel_rfl) (by kernel_rfl) (by kernel_rfl) (fun _ _ _ h => h) ?hy125 HSv ?hh125
            case hy125 =>
              refine Or.inl ⟨by rfl, ?_⟩
              intro W hW
              obtain ⟨h0, h1⟩ := hW
              go_simp
              try with_reducible rfl
            simp only [Act.put, List.setIfInBounds_toArray, List.set_cons_zero, List.set_cons_succ]
            refine wpAnyH_at 2 (v := ?vv126) rfl (by kernel_rfl) (by kernel_rfl) (by kernel_rfl) (fun _ _ _ h => h) ?hy126 HSv ?hh126
            case hy126 =>
              refine Or.inl ⟨by rfl, ?_⟩
              intro W hW
              obtain ⟨h0, h1⟩ := hW
              go_simp
              try with_reducible rfl
            simp only [Act.put, List.setIfInBounds_toArray, List.set_cons_zero, List.set_cons_succ]
            refine wpAnyH_at 3 (v := ?vv127) rfl (by kernel_rfl) (by kernel_rfl) (by kernel_rfl) (fun _ _ _ h => h) ?hy127 HSv ?hh127
            case hy127 =>
              refine Or.inl ⟨by rfl, ?_⟩
              intro W hW
              obtain ⟨h0, h1⟩ := hW
              go_simp
              try with_reducible rfl
            simp only [Act.put, List.setIfInBounds_toArray, List.set_cons_zero, List.set_cons_succ]
            refine wpAnyH_at 4 (v := ?vv128) rfl (by kernel_rfl) (by kernel_rfl) (by kernel_rfl) (fun _ _ _ h => h) ?hy128 HSv ?hh128
            case hy128 =>
              refine Or.inl ⟨by rfl, ?_⟩
              intro W hW
              obtain ⟨h0, h1⟩ := hW
              go_simp
              try with_reducible rfl
            simp only [Act.put, List.setIfInBounds_toArray, List.set_cons_zero, List.set_cons_succ]
            refine wpAnyH_at 5 (v := ?vv129) rfl (by kernel_rfl) (by kernel_rfl) (by kernel_rfl) (fun _ _ _ h => h) ?hy129 HSv ?hh129
            case hy129 =>
              refine Or.inl ⟨by rfl, ?_⟩
              intro W hW
              obtain ⟨h0, h1⟩ := hW
              go_simp
              try with_reducible rfl
            simp only [Act.put, List.setIfInBounds_toArray, List.set_cons_zero, List.set_cons_succ]
            refine wpAnyH_at 6 (v := ?vv130) rfl (by kernel_rfl) (by kernel_rfl) (by kernel_rfl) (fun _ _ _ h => h) ?hy130 HSv ?hh130
            case hy130 =>
              refine Or.inl ⟨by rfl, ?_⟩
              intro W hW
              obtain ⟨h0, h1⟩ := hW
              go_simp
              try with_reducible rfl
            simp only [Act.put, List.setIfInBounds_toArray, List.set_cons_zero, List.set_cons_succ]
            refine wpAnyH_2 7 11 rfl rfl (by kernel_rfl) ?_ ?_
            · intro K hK
              rw [if_pos (by rfl)]
              try go_simp
              go_at_call 94
              refine (HFR.out _ (Below.refl _ _).drew).mono ?_
              rintro e w3 ⟨rfl, hb3⟩
              have HB3 := Lib.hid (show Below w2.heap.size w2 w3 from Below.trans (Below.refl _ _).drew hb3)
              have HSv : (fun Y : World => Y.cell? ⟨B.nb, 2, none⟩ = some X'.own ∧ Y.cell? ⟨ox, 0, none⟩ = some (.int .i64 t)) w3 := HS6.out _ HB3.out
              clear hb3
              refine hK _ _ (fun _ => HSv) ?_
              try simp only [Act.put, List.setIfInBounds_toArray, List.set_cons_zero, List.set_cons_succ]
              refine wpAnyH_at 8 (v := ?vv131) rfl (by kernel_rfl) (by kernel_rfl) (by kernel_rfl) (fun _ _ _ h => h) ?hy131 HSv ?hh131
              case hy131 =>
                refine Or.inl ⟨by rfl, ?_⟩
                intro W hW
                obtain ⟨h0, h1⟩ := hW
                go_simp
                try with_reducible rfl
              simp only [Act.put, List.setIfInBounds_toArray, List.set_cons_zero, List.set_cons_succ]
              refine wpAnyH_at 9 (v := ?vv132) rfl (by kernel_rfl) (by kernel_rfl) (by kernel_rfl) (fun _ _ _ h => h) ?hy132 HSv ?hh132
              case hy132 =>
                refine Or.inl ⟨by rfl, ?_⟩
                intro W hW
                obtain ⟨h0, h1⟩ := hW
                go_simp
                try with_reducible rfl
              simp only [Act.put, List.setIfInBounds_toArray, List.set_cons_zero, List.set_cons_succ]
              refine wpAnyH_at 10 (v := ?vv133) rfl (by kernel_rfl) (by kernel_rfl) (by kernel_rfl) (fun _ _ _ h => h) ?hy133 HSv ?hh133
              case hy133 =>
                refine Or.inl ⟨by rfl, ?_⟩
                intro W hW
                obtain ⟨h0, h1⟩ := hW
                go_simp
                try with_reducible rfl
              simp only [Act.put, List.setIfInBounds_toArray, List.set_cons_zero, List.set_cons_succ]
              refine wpAnyH_1 11 rfl (by kernel_rfl) ?_
              intro K hK
              rw [if_pos (by rfl)]
              try go_simp
              have HB4 := Lib.hid (HB3.out.alloc HB3.out.size (.cells #[.int .i64 0, .int .i64 0, .int .i64 0, .int .i64 0, .string ⟨#[]⟩] 73 (0, 0)))
              have z4 := at1 w3 (.cells #[.int .i64 0, .int .i64 0, .int .i64 0, .int .i64 0, .string ⟨#[]⟩] 73 (0, 0))
              have hrx := HB3.out.size
              generalize w3.alloc (.cells #[.int .i64 0, .int .i64 0, .int .i64 0, .int .i64 0, .string ⟨#[]⟩] 73 (0, 0)) = w4 at HB4 z4 ⊢
              generalize w3.heap.size = rx at z4 hrx ⊢
              have HSv : (fun Y : World => Y.cell? ⟨B.nb, 2, none⟩ = some X'.own ∧ Y.cell? ⟨ox, 0, none⟩ = some (.int .i64 t)) w4 := HS6.out _ HB4.out
              have zf := fun o => fzOf z4 o
              have y0 := cellOf z4 0 (.int .i64 0) rfl
              have y1 := cellOf z4 1 (.int .i64 0) rfl
              have y2 := cellOf z4 2 (.int .i64 0) rfl
              have y3 := cellOf z4 3 (.int .i64 0) rfl
              have y4 := cellOf z4 4 (.string ⟨#[]⟩) rfl
              refine hK _ _ (fun _ => HSv) ?_
              try simp only [Act.put, List.setIfInBounds_toArray, List.set_cons_zero, List.set_cons_succ]
              clear HSv
              refine wpAnyH_1 12 rfl (by kernel_rfl) ?_
              intro K hK
              rw [if_pos (by rfl)]
              try go_simp
              have hr5 := set5 z4 (.int .i64 (ruleOf C.own t).t) (.int .i64 (ruleOf C.own t).len) (.int .i64 (ruleOf C.own t).min) (.int .i64 (ruleOf C.own t).max) (.string (ruleOf C.own t).s)
              have hb5 := below5 HB4.out hrx (.int .i64 (ruleOf C.own t).t) (.int .i64 (ruleOf C.own t).len) (.int .i64 (ruleOf C.own t).min) (.int .i64 (ruleOf C.own t).max) (.string (ruleOf C.own t).s)
              generalize ((((w4.setCell ⟨rx, 0, none⟩ (.int .i64 (ruleOf C.own t).t)).setCell ⟨rx, 1, none⟩ (.int .i64 (ruleOf C.own t).len)).setCell ⟨rx, 2, none⟩ (.int .i64 (ruleOf C.own t).min)).setCell ⟨rx, 3, none⟩ (.int .i64 (ruleOf C.own t).max)).setCell ⟨rx, 4, none⟩ (.string (ruleOf C.own t).s) = w5 at hr5 hb5 ⊢
              have HB5 := Lib.hid hb5
              have u1 := cellOf ((hb5.block _ hox2).trans HOX.out) 1 (.string v) rfl
              have r0 := cellOf hr5 0 (.int .i64 (ruleOf C.own t).t) rfl
              have r1 := cellOf hr5 1 (.int .i64 (ruleOf C.own t).len) rfl
              have r2 := cellOf hr5 2 (.int .i64 (ruleOf C.own t).min) rfl
              have r3 := cellOf hr5 3 (.int .i64 (ruleOf C.own t).max) rfl
              have r4 := cellOf hr5 4 (.string (ruleOf C.own t).s) rfl
              clear hr5 hb5 z4 y0 y1 y2 y3 y4 zf
              have HSv : (fun Y : World => Y.cell? ⟨B.nb, 2, none⟩ = some X'.own ∧ Y.cell? ⟨ox, 0, none⟩ = some (.int .i64 t)) w5 := HS6.out _ HB5.out
              refine hK _ _ (fun _ => HSv) ?_
              try simp only [Act.put, List.setIfInBounds_toArray, List.set_cons_zero, List.set_cons_succ]
              clear HSv
              refine wpAnyH_end 13 (fun j hj => rgH_end _ _ j (by omega)) (by rfl) (by kernel_rfl) ?_
              simp only [List.drop_succ_cons, List.drop_zero]
              clear u1 r0 r1 r2 r3 r4
              go_wp2_with fail
              have HN9 := Lib.hid ((HN2.out.below HB5.out).below (show Below w5.heap.size w5 w5.drew from (Below.refl _ _).drew))
              have HSv : (fun Y : World => Y.cell? ⟨B.nb, 4, none⟩ = some X'.must ∧ Y.cell? ⟨ox, 0, none⟩ = some (.int .i64 t)) w5.drew := ⟨HN9.out.cell 4, cellOf ((HB5.out.drew.block _ hox2).trans HOX.out) 0 _ rfl⟩
              refine wp_region_H (rgH 0 9) (fun Y : World => Y.cell? ⟨B.nb, 4, none⟩ = some X'.must ∧ Y.cell? ⟨ox, 0, none⟩ = some (.int .i64 t)) (by kernel_rfl) ?_
              refine wpAnyH_at 0 (v := ?vv134) rfl (by kernel_rfl) (by kernel_rfl) (by kernel_rfl) (fun _ _ _ h => h) ?hy134 HSv ?hh134
              case hy134 =>
                refine Or.inl ⟨by rfl, ?_⟩
                intro W hW
                obtain ⟨h0, h1⟩ := hW
                go_simp
                try with_reducible rfl
              simp only [Act.put, List.setIfInBounds_toArray, List.set_cons_zero, List.set_cons_succ]
              refine wpAnyH_at 1 (v := ?vv135) rfl (by kernel_rfl) (by kernel_rfl) (by kernel_rfl) (fun _ _ _ h => h) ?hy135 HSv ?hh135
              case hy135 =>
                refine Or.inl ⟨by rfl, ?_⟩
                intro W hW
                obtain ⟨h0, h1⟩ := hW
                go_simp
                try with_reducible rfl
              simp only [Act.put, List.setIfInBounds_toArray, List.set_cons_zero, List.set_cons_succ]
              refine wpAnyH_at 2 (v := ?vv136) rfl (by kernel_rfl) (by kernel_rfl) (by kernel_rfl) (fun _ _ _ h => h) ?hy136 HSv ?hh136
              case hy136 =>
                refine Or.inl ⟨by rfl, ?_⟩
                intro W hW
                obtain ⟨h0, h1⟩ := hW
                go_simp
                try with_reducible rfl
              simp only [Act.put, List.setIfInBounds_toArray, List.set_cons_zero, List.set_cons_succ]
              refine wpAnyH_at 3 (v := ?vv137) rfl (by kernel_rfl) (by kernel_rfl) (by kernel_rfl) (fun _ _ _ h => h) ?hy137 HSv ?hh137
              case hy137 =>
                refine Or.inl ⟨by rfl, ?_⟩
                intro W hW
                obtain ⟨h0, h1⟩ := hW
                go_simp
                try with_reducible rfl
              simp only [Act.put, List.setIfInBounds_toArray, List.set_cons_zero, List.set_cons_succ]
              refine wpAnyH_at 4 (v := ?vv138) rfl (by kernel_rfl) (by kernel_rfl) (by kernel_rfl) (fun _ _ _ h => h) ?hy138 HSv ?hh138
              case hy138 =>
                refine Or.inl ⟨by rfl, ?_⟩
                intro W hW
                obtain ⟨h0, h1⟩ := hW
                go_simp
                try with_reducible rfl
              simp only [Act.put, List.setIfInBounds_toArray, List.set_cons_zero, List.set_cons_succ]
              refine wpAnyH_at 5 (v := ?vv139) rfl (by kernel_rfl) (by kernel_rfl) (by kernel_rfl) (fun _ _ _ h => h) ?hy139 HSv ?hh139
              case hy139 =>
                refine Or.inl ⟨by rfl, ?_⟩
                intro W hW
                obtain ⟨h0, h1⟩ := hW
                go_simp
                try with_reducible rfl
              simp only [Act.put, List.setIfInBounds_toArray, List.set_cons_zero, List.set_cons_succ]
              refine wpAnyH_at 6 (v := ?vv140) rfl (by kernel_rfl) (by kernel_rfl) (by kernel_rfl) (fun _ _ _ h => h) ?hy140 HSv ?hh140
              case hy140 =>
                refine Or.inl ⟨by rfl, ?_⟩
                intro W hW
                obtain ⟨h0, h1⟩ := hW
                go_simp
                try with_reducible rfl
              simp only [Act.put, List.setIfInBounds_toArray, List.set_cons_zero, List.set_cons_succ]
              refine wpAnyH_1 7 rfl (by kernel_rfl) ?_
              intro K hK
              rw [if_pos (by rfl)]
              try go_simp
              go_at_call 108
              refine (HMU.out _ HN9.out.must).mono ?_
              rintro e _ ⟨rfl, rfl⟩
              refine hK _ _ (fun _ => HSv) ?_
              try simp only [Act.put, List.setIfInBounds_toArray, List.set_cons_zero, List.set_cons_succ]
              refine wpAnyH_at 8 (v := ?vv141) rfl (by kernel_rfl) (by kernel_rfl) (by kernel_rfl) (fun _ _ _ h => h) ?hy141 HSv ?hh141
              case hy141 =>
                refine Or.inl ⟨by rfl, ?_⟩
                intro W hW
                obtain ⟨h0, h1⟩ := hW
                go_simp
                try with_reducible rfl
              simp only [Act.put, List.setIfInBounds_toArray, List.set_cons_zero, List.set_cons_succ]
              refine wpAnyH_end 9 (fun j hj => rgH_end _ _ j (by omega)) (by rfl) (by kernel_rfl) ?_
              simp only [List.drop_succ_cons, List.drop_zero]
              clear HSv
              have HKP9 := Lib.hid (HKP.out.trans (Keep.of_below B.t (HBA.out.trans (HB2.out.trans (HB5.out.drew.mono HB2.out.size) |>.mono HBA.out.size))))
              go_wp2_with fail
              go_roundg (len - (k + 1))
              case measure => omega
              case rel => exact ⟨k + 1, by omega, rfl, by go_num, _, by rw [HSU.out, HEQ.out]; exact HN9.out, HKP9.out, by rw [HLN.out]; exact HPX.out _ (HKP9.out)⟩
            · intro K hK
              rw [if_pos (by rfl)]
              try go_simp
              have HB3 := Lib.hid (((Below.refl w2.heap.size w2).alloc (Nat.le_refl _) (.cells #[.int .i64 0, .int .i64 0, .int .i64 0, .int .i64 0, .string ⟨#[]⟩] 73 (0, 0))).drew)
              have z3 : (w2.alloc (.cells #[.int .i64 0, .int .i64 0, .int .i64 0, .int .i64 0, .string ⟨#[]⟩] 73 (0, 0))).drew.heap[w2.heap.size]? = _ := at1 w2 (.cells #[.int .i64 0, .int .i64 0, .int .i64 0, .int .i64 0, .string ⟨#[]⟩] 73 (0, 0))
              have hrx : w2.heap.size ≤ w2.heap.size := Nat.le_refl _
              generalize (w2.alloc (.cells #[.int .i64 0, .int .i64 0, .int .i64 0, .int .i64 0, .string ⟨#[]⟩] 73 (0, 0))).drew = w3 at HB3 z3 ⊢
              try simp only [show w2.drew.heap.size = w2.heap.size from rfl]
              have HSv : (fun Y : World => Y.cell? ⟨B.nb, 2, none⟩ = some X'.own ∧ Y.cell? ⟨ox, 0, none⟩ = some (.int .i64 t)) w3 := HS6.out _ HB3.out
              refine hK _ _ (fun _ => HSv) ?_
              try simp only [Act.put, List.setIfInBounds_toArray, List.set_cons_zero, List.set_cons_succ]
              refine wpAnyH_1 7 rfl (by kernel_rfl) ?_
              intro K hK
              rw [if_pos (by rfl)]
              try go_simp
              go_at_call 94
              refine (HFR.out _ HB3.out).mono ?_
              rintro e w4 ⟨rfl, hb4⟩
              have HB4 := Lib.hid (show Below w2.heap.size w2 w4 from HB3.out.trans (hb4.mono HB3.out.size))
              have z4 := (hb4.block _ (lt_of_heap' z3)).trans z3
              have HSv : (fun Y : World => Y.cell? ⟨B.nb, 2, none⟩ = some X'.own ∧ Y.cell? ⟨ox, 0, none⟩ = some (.int .i64 t)) w4 := HS6.out _ HB4.out
              have zf := fun o => fzOf z4 o
              have y0 := cellOf z4 0 (.int .i64 0) rfl
              have y1 := cellOf z4 1 (.int .i64 0) rfl
              have y2 := cellOf z4 2 (.int .i64 0) rfl
              have y3 := cellOf z4 3 (.int .i64 0) rfl
              have y4 := cellOf z4 4 (.string ⟨#[]⟩) rfl
              clear hb4 z3
              refine hK _ _ (fun _ => HSv) ?_
              try simp only [Act.put, List.setIfInBounds_toArray, List.set_cons_zero, List.set_cons_succ]
              refine wpAnyH_at 8 (v := ?vv142) rfl (by kernel_rfl) (by kernel_rfl) (by kernel_rfl) (fun _ _ _ h => h) ?hy142 HSv ?hh142
              case hy142 =>
                refine Or.inl ⟨by rfl, ?_⟩
                intro W hW
                obtain ⟨h0, h1⟩ := hW
                go_simp
                try with_reducible rfl
              simp only [Act.put, List.setIfInBounds_toArray, List.set_cons_zero, List.set_cons_succ]
              refine wpAnyH_at 9 (v := ?vv143) rfl (by kernel_rfl) (by kernel_rfl) (by kernel_rfl) (fun _ _ _ h => h) ?hy143 HSv ?hh143
              case hy143 =>
                refine Or.inl ⟨by rfl, ?_⟩
                intro W hW
                obtain ⟨h0, h1⟩ := hW
                go_simp
                try with_reducible rfl
              simp only [Act.put, List.setIfInBounds_toArray, List.set_cons_zero, List.set_cons_succ]
              refine wpAnyH_at 10 (v := ?vv144) rfl (by kernel_rfl) (by kernel_rfl) (by kernel_rfl) (fun _ _ _ h => h) ?hy144 HSv ?hh144
              case hy144 =>
                refine Or.inl ⟨by rfl, ?_⟩
                intro W hW
                obtain ⟨h0, h1⟩ := hW
                go_simp
                try with_reducible rfl
              simp only [Act.put, List.setIfInBounds_toArray, List.set_cons_zero, List.set_cons_succ]
              clear HSv
              refine wpAnyH_1 12 rfl (by kernel_rfl) ?_
              intro K hK
              rw [if_pos (by rfl)]
              try go_simp
              have hr5 := set5 z4 (.int .i64 (ruleOf C.own t).t) (.int .i64 (ruleOf C.own t).len) (.int .i64 (ruleOf C.own t).min) (.int .i64 (ruleOf C.own t).max) (.string (ruleOf C.own t).s)
              have hb5 := below5 HB4.out hrx (.int .i64 (ruleOf C.own t).t) (.int .i64 (ruleOf C.own t).len) (.int .i64 (ruleOf C.own t).min) (.int .i64 (ruleOf C.own t).max) (.string (ruleOf C.own t).s)
              generalize ((((w4.setCell ⟨w2.heap.size, 0, none⟩ (.int .i64 (ruleOf C.own t).t)).setCell ⟨w2.heap.size, 1, none⟩ (.int .i64 (ruleOf C.own t).len)).setCell ⟨w2.heap.size, 2, none⟩ (.int .i64 (ruleOf C.own t).min)).setCell ⟨w2.heap.size, 3, none⟩ (.int .i64 (ruleOf C.own t).max)).setCell ⟨w2.heap.size, 4, none⟩ (.string (ruleOf C.own t).s) = w5 at hr5 hb5 ⊢
              have HB5 := Lib.hid hb5
              have u1 := cellOf ((hb5.block _ hox2).trans HOX.out) 1 (.string v) rfl
              have r0 := cellOf hr5 0 (.int .i64 (ruleOf C.own t).t) rfl
              have r1 := cellOf hr5 1 (.int .i64 (ruleOf C.own t).len) rfl
              have r2 := cellOf hr5 2 (.int .i64 (ruleOf C.own t).min) rfl
              have r3 := cellOf hr5 3 (.int .i64 (ruleOf C.own t).max) rfl
              have r4 := cellOf hr5 4 (.string (ruleOf C.own t).s) rfl
              clear hr5 hb5 z4 y0 y1 y2 y3 y4 zf
              have HSv : (fun Y : World => Y.cell? ⟨B.nb, 2, none⟩ = some X'.own ∧ Y.cell? ⟨ox, 0, none⟩ = some (.int .i64 t)) w5 := HS6.out _ HB5.out
              refine hK _ _ (fun _ => HSv) ?_
              try simp only [Act.put, List.setIfInBounds_toArray, List.set_cons_zero, List.set_cons_succ]
              clear HSv
              refine wpAnyH_end 13 (fun j hj => rgH_end _ _ j (by omega)) (by rfl) (by kernel_rfl) ?_
              simp only [List.drop_succ_cons, List.drop_zero]
              clear u1 r0 r1 r2 r3 r4
              go_wp2_with fail
              have HN9 := Lib.hid ((HN2.out.below HB5.out).below (show Below w5.heap.size w5 w5.drew from (Below.refl _ _).drew))
              have HSv : (fun Y : World => Y.cell? ⟨B.nb, 4, none⟩ = some X'.must ∧ Y.cell? ⟨ox, 0, none⟩ = some (.int .i64 t)) w5.drew := ⟨HN9.out.cell 4, cellOf ((HB5.out.drew.block _ hox2).trans HOX.out) 0 _ rfl⟩
              refine wp_region_H (rgH 0 9) (fun Y : World => Y.cell? ⟨B.nb, 4, none⟩ = some X'.must ∧ Y.cell? ⟨ox, 0, none⟩ = some (.int .i64 t)) (by kernel_rfl) ?_
              refine wpAnyH_at 0 (v := ?vv145) rfl (by kernel_rfl) (by kernel_rfl) (by kernel_rfl) (fun _ _ _ h => h) ?hy145 HSv ?hh145
              case hy145 =>
                refine Or.inl ⟨by rfl, ?_⟩
                intro W hW
                obtain ⟨h0, h1⟩ := hW
                go_simp
                try with_reducible rfl
              simp only [Act.put, List.setIfInBounds_toArray, List.set_cons_zero, List.set_cons_succ]
              refine wpAnyH_at 1 (v := ?vv146) rfl (by kernel_rfl) (by kernel_rfl) (by kernel_rfl) (fun _ _ _ h => h) ?hy146 HSv ?hh146
              case hy146 =>
                refine Or.inl ⟨by rfl, ?_⟩
                intro W hW
                obtain ⟨h0, h1⟩ := hW
                go_simp
                try with_reducible rfl
              simp only [Act.put, List.setIfInBounds_toArray, List.set_cons_zero, List.set_cons_succ]
              refine wpAnyH_at 2 (v := ?vv147) rfl (by kernel_rfl) (by kernel_rfl) (by kernel_rfl) (fun _ _ _ h => h) ?hy147 HSv ?hh147
              case hy147 =>
                refine Or.inl ⟨by rfl, ?_⟩
                intro W hW
                obtain ⟨h0, h1⟩ := hW
                go_simp
                try with_reducible rfl
              simp only [Act.put, List.setIfInBounds_toArray, List.set_cons_zero, List.set_cons_succ]
              refine wpAnyH_at 3 (v := ?vv148) rfl (by kernel_rfl) (by kernel_rfl) (by kernel_rfl) (fun _ _ _ h => h) ?hy148 HSv ?hh148
              case hy148 =>
                refine Or.inl ⟨by rfl, ?_⟩
                intro W hW
                obtain ⟨h0, h1⟩ := hW
                go_simp
                try with_reducible rfl
              simp only [Act.put, List.setIfInBounds_toArray, List.set_cons_zero, List.set_cons_succ]
              refine wpAnyH_at 4 (v := ?vv149) rfl (by kernel_rfl) (by kernel_rfl) (by kernel_rfl) (fun _ _ _ h => h) ?hy149 HSv ?hh149
              case hy149 =>
                refine Or.inl ⟨by rfl, ?_⟩
                intro W hW
                obtain ⟨h0, h1⟩ := hW
                go_simp
                try with_reducible rfl
              simp only [Act.put, List.setIfInBounds_toArray, List.set_cons_zero, List.set_cons_succ]
              refine wpAnyH_at 5 (v := ?vv150) rfl (by kernel_rfl) (by kernel_rfl) (by kernel_rfl) (fun _ _ _ h => h) ?hy150 HSv ?hh150
              case hy150 =>
                refine Or.inl ⟨by rfl, ?_⟩
                intro W hW
                obtain ⟨h0, h1⟩ := hW
                go_simp
                try with_reducible rfl
              simp only [Act.put, List.setIfInBounds_toArray, List.set_cons_zero, List.set_cons_succ]
              refine wpAnyH_at 6 (v := ?vv151) rfl (by kernel_rfl) (by kernel_rfl) (by kernel_rfl) (fun _ _ _ h => h) ?hy151 HSv ?hh151
              case hy151 =>
                refine Or.inl ⟨by rfl, ?_⟩
                intro W hW
                obtain ⟨h0, h1⟩ := hW
                go_simp
                try with_reducible rfl
              simp only [Act.put, List.setIfInBounds_toArray, List.set_cons_zero, List.set_cons_succ]
              refine wpAnyH_1 7 rfl (by kernel_rfl) ?_
              intro K hK
              rw [if_pos (by rfl)]
              try go_simp
              go_at_call 108
              refine (HMU.out _ HN9.out.must).mono ?_
              rintro e _ ⟨rfl, rfl⟩
              refine hK _ _ (fun _ => HSv) ?_
              try simp only [Act.put, List.setIfInBounds_toArray, List.set_cons_zero, List.set_cons_succ]
              refine wpAnyH_at 8 (v := ?vv152) rfl (by kernel_rfl) (by kernel_rfl) (by kernel_rfl) (fun _ _ _ h => h) ?hy152 HSv ?hh152
              case hy152 =>
                refine Or.inl ⟨by rfl, ?_⟩
                intro W hW
                obtain ⟨h0, h1⟩ := hW
                go_simp
                try with_reducible rfl
              simp only [Act.put, List.setIfInBounds_toArray, List.set_cons_zero, List.set_cons_succ]
              refine wpAnyH_end 9 (fun j hj => rgH_end _ _ j (by omega)) (by rfl) (by kernel_rfl) ?_
              simp only [List.drop_succ_cons, List.drop_zero]
              clear HSv
              have HKP9 := Lib.hid (HKP.out.trans (Keep.of_below B.t (HBA.out.trans (HB2.out.trans (HB5.out.drew.mono HB2.out.size) |>.mono HBA.out.size))))
              go_wp2_with fail
              go_roundg (len - (k + 1))
              case measure => omega
              case rel => exact ⟨k + 1, by omega, rfl, by go_num, _, by rw [HSU.out, HEQ.out]; exact HN9.out, HKP9.out, by rw [HLN.out]; exact HPX.out _ (HKP9.out)⟩
        | true =>
          cases y with
          | true =>
            have HEQ := Lib.hid (show nameOne C req ⟨t, v⟩ = req.set i ⟨t, v⟩ from HNO.out)
            refine wp_region_H (rgH 0 13) (fun Y : World => Y.cell? ⟨B.nb, 2, none⟩ = some X'.own ∧ Y.cell? ⟨ox, 0, none⟩ = some (.int .i64 t)) (by kernel_rfl) ?_
            have HSv : (fun Y : World => Y.cell? ⟨B.nb, 2, none⟩ = some X'.own ∧ Y.cell? ⟨ox, 0, none⟩ = some (.int .i64 t)) w2.drew := HS6.out _ (Below.refl _ _).drew
            refine wpAnyH_at 0 (v := ?vv153) rfl (by kernel_rfl) (by kernel_rfl) (by kernel_rfl) (fun _ _ _ h => h) ?hy153 HSv ?hh153
            case hy153 =>
              refine Or.inl ⟨by rfl, ?_⟩
              intro W hW
              obtain ⟨h0, h1⟩ := hW
              go_simp
              try with_reducible rfl
            simp only [Act.put, List.setIfInBounds_toArray, List.set_cons_zero, List.set_cons_succ]
            refine wpAnyH_at 1 (v := ?vv154) rfl (by kernel_rfl) (by kernel_rfl) (by kernel_rfl) (fun _ _ _ h => h) ?hy154 HSv ?hh154
            case hy154 =>
              refine Or.inl ⟨by rfl, ?_⟩
              intro W hW
              obtain ⟨h0, h1⟩ := hW
              go_simp
              try with_reducible rfl
            simp only [Act.put, List.setIfInBounds_toArray, List.set_cons_zero, List.set_cons_succ]
            refine wpAnyH_at 2 (v := ?vv155) rfl (by kernel_rfl) (by kernel_rfl) (by kernel_rfl) (fun _ _ _ h => h) ?hy155 HSv ?hh155
            case hy155 =>
              refine Or.inl ⟨by rfl, ?_⟩
              intro W hW
              obtain ⟨h0, h1⟩ := hW
              go_simp
              try with_reducible rfl
            simp only [Act.put, List.setIfInBounds_toArray, List.set_cons_zero, List.set_cons_succ]
            refine wpAnyH_at 3 (v := ?vv156) rfl (by kernel_rfl) (by kernel_rfl) (by kernel_rfl) (fun _ _ _ h => h) ?hy156 HSv ?hh156
            case hy156 =>
              refine Or.inl ⟨by rfl, ?_⟩
              intro W hW
              obtain ⟨h0, h1⟩ := hW
              go_simp
              try with_reducible rfl
            simp only [Act.put, List.setIfInBounds_toArray, List.set_cons_zero, List.set_cons_succ]
            refine wpAnyH_at 4 (v := ?vv157) rfl (by kernel_rfl) (by kernel_rfl) (by kernel_rfl) (fun _ _ _ h => h) ?hy157 HSv ?hh157
            case hy157 =>
              refine Or.inl ⟨by rfl, ?_⟩
              intro W hW
              obtain ⟨h0, h1⟩ := hW
              go_simp
              try with_reducible rfl
            simp only [Act.put, List.setIfInBounds_toArray, List.set_cons_zero, List.set_cons_succ]
            refine wpAnyH_at 5 (v := ?vv158) rfl (by kernel_rfl) (by kernel_rfl) (by kernel_rfl) (fun _ _ _ h => h) ?hy158 HSv ?hh158
            case hy158 =>
              refine Or.inl ⟨by rfl, ?_⟩
              intro W hW
              obtain ⟨h0, h1⟩ := hW
              go_simp
              try with_reducible rfl
            simp only [Act.put, List.setIfInBounds_toArray, List.set_cons_zero, List.set_cons_succ]
            refine wpAnyH_at 6 (v := ?vv159) rfl (by kernel_rfl) (by kernel_rfl) (by kernel_rfl) (fun _ _ _ h => h) ?hy159 HSv ?hh159
            case hy159 =>
              refine Or.inl ⟨by rfl, ?_⟩
              intro W hW
              obtain ⟨h0, h1⟩ := hW
              go_simp
              try with_reducible rfl
            simp only [Act.put, List.setIfInBounds_toArray, List.set_cons_zero, List.set_cons_succ]
            refine wpAnyH_2 7 11 rfl rfl (by kernel_rfl) ?_ ?_
            · intro K hK
              rw [if_pos (by rfl)]
              try go_simp
              go_at_call 94
              refine (HFR.out _ (Below.refl _ _).drew).mono ?_
              rintro e w3 ⟨rfl, hb3⟩
              have HB3 := Lib.hid (show Below w2.heap.size w2 w3 from Below.trans (Below.refl _ _).drew hb3)
              have HSv : (fun Y : World => Y.cell? ⟨B.nb, 2, none⟩ = some X'.own ∧ Y.cell? ⟨ox, 0, none⟩ = some (.int .i64 t)) w3 := HS6.out _ HB3.out
              clear hb3
              refine hK _ _ (fun _ => HSv) ?_
              try simp only [Act.put, List.setIfInBounds_toArray, List.set_cons_zero, List.set_cons_succ]
              refine wpAnyH_at 8 (v := ?vv160) rfl (by kernel_rfl) (by kernel_rfl) (by kernel_rfl) (fun _ _ _ h => h) ?hy160 HSv ?hh160
              case hy160 =>
                refine Or.inl ⟨by rfl, ?_⟩
                intro W hW
                obtain ⟨h0, h1⟩ := hW
                go_simp
                try with_reducible rfl
              simp only [Act.put, List.setIfInBounds_toArray, List.set_cons_zero, List.set_cons_succ]
              refine wpAnyH_at 9 (v := ?vv161) rfl (by kernel_rfl) (by kernel_rfl) (by kernel_rfl) (fun _ _ _ h => h) ?hy161 HSv ?hh161
              case hy161 =>
                refine Or.inl ⟨by rfl, ?_⟩
                intro W hW
                obtain ⟨h0, h1⟩ := hW
                go_simp
                try with_reducible rfl
              simp only [Act.put, List.setIfInBounds_toArray, List.set_cons_zero, List.set_cons_succ]
              refine wpAnyH_at 10 (v := ?vv162) rfl (by kernel_rfl) (by kernel_rfl) (by kernel_rfl) (fun _ _ _ h => h) ?hy162 HSv ?hh162
              case hy162 =>
                refine Or.inl ⟨by rfl, ?_⟩
                intro W hW
                obtain ⟨h0, h1⟩ := hW
                go_simp
                try with_reducible rfl
              simp only [Act.put, List.setIfInBounds_toArray, List.set_cons_zero, List.set_cons_succ]
              refine wpAnyH_1 11 rfl (by kernel_rfl) ?_
              intro K hK
              rw [if_pos (by rfl)]
              try go_simp
              have HB4 := Lib.hid (HB3.out.alloc HB3.out.size (.cells #[.int .i64 0, .int .i64 0, .int .i64 0, .int .i64 0, .string ⟨#[]⟩] 73 (0, 0)))
              have z4 := at1 w3 (.cells #[.int .i64 0, .int .i64 0, .int .i64 0, .int .i64 0, .string ⟨#[]⟩] 73 (0, 0))
              have hrx := HB3.out.size
              generalize w3.alloc (.cells #[.int .i64 0, .int .i64 0, .int .i64 0, .int .i64 0, .string ⟨#[]⟩] 73 (0, 0)) = w4 at HB4 z4 ⊢
              generalize w3.heap.size = rx at z4 hrx ⊢
              have HSv : (fun Y : World => Y.cell? ⟨B.nb, 2, none⟩ = some X'.own ∧ Y.cell? ⟨ox, 0, none⟩ = some (.int .i64 t)) w4 := HS6.out _ HB4.out
              have zf := fun o => fzOf z4 o
              have y0 := cellOf z4 0 (.int .i64 0) rfl
              have y1 := cellOf z4 1 (.int .i64 0) rfl
              have y2 := cellOf z4 2 (.int .i64 0) rfl
              have y3 := cellOf z4 3 (.int .i64 0) rfl
              have y4 := cellOf z4 4 (.string ⟨#[]⟩) rfl
              refine hK _ _ (fun _ => HSv) ?_
              try simp only [Act.put, List.setIfInBounds_toArray, List.set_cons_zero, List.set_cons_succ]
              clear HSv
              refine wpAnyH_1 12 rfl (by kernel_rfl) ?_
              intro K hK
              rw [if_pos (by rfl)]
              try go_simp
              have hr5 := set5 z4 (.int .i64 (ruleOf C.own t).t) (.int .i64 (ruleOf C.own t).len) (.int .i64 (ruleOf C.own t).min) (.int .i64 (ruleOf C.own t).max) (.string (ruleOf C.own t).s)
              have hb5 := below5 HB4.out hrx (.int .i64 (ruleOf C.own t).t) (.int .i64 (ruleOf C.own t).len) (.int .i64 (ruleOf C.own t).min) (.int .i64 (ruleOf C.own t).max) (.string (ruleOf C.own t).s)
              generalize ((((w4.setCell ⟨rx, 0, none⟩ (.int .i64 (ruleOf C.own t).t)).setCell ⟨rx, 1, none⟩ (.int .i64 (ruleOf C.own t).len)).setCell ⟨rx, 2, none⟩ (.int .i64 (ruleOf C.own t).min)).setCell ⟨rx, 3, none⟩ (.int .i64 (ruleOf C.own t).max)).setCell ⟨rx, 4, none⟩ (.string (ruleOf C.own t).s) = w5 at hr5 hb5 ⊢
              have HB5 := Lib.hid hb5
              have u1 := cellOf ((hb5.block _ hox2).trans HOX.out) 1 (.string v) rfl
              have r0 := cellOf hr5 0 (.int .i64 (ruleOf C.own t).t) rfl
              have r1 := cellOf hr5 1 (.int .i64 (ruleOf C.own t).len) rfl
              have r2 := cellOf hr5 2 (.int .i64 (ruleOf C.own t).min) rfl
              have r3 := cellOf hr5 3 (.int .i64 (ruleOf C.own t).max) rfl
              have r4 := cellOf hr5 4 (.string (ruleOf C.own t).s) rfl
              clear hr5 hb5 z4 y0 y1 y2 y3 y4 zf
              have HSv : (fun Y : World => Y.cell? ⟨B.nb, 2, none⟩ = some X'.own ∧ Y.cell? ⟨ox, 0, none⟩ = some (.int .i64 t)) w5 := HS6.out _ HB5.out
              refine hK _ _ (fun _ => HSv) ?_
              try simp only [Act.put, List.setIfInBounds_toArray, List.set_cons_zero, List.set_cons_succ]
              clear HSv
              refine wpAnyH_end 13 (fun j hj => rgH_end _ _ j (by omega)) (by rfl) (by kernel_rfl) ?_
              simp only [List.drop_succ_cons, List.drop_zero]
              go_wp2_with fail
              refine (HFT.out _).mono ?_
              rintro e w6 ⟨rfl, hb6⟩
              have HB6 := Lib.hid (HB5.out.trans (hb6.mono HB5.out.size))
              clear hb6 u1 r0 r1 r2 r3 r4
              go_wp2_with fail
              have HN6 := Lib.hid ((HN2.out.below HB6.out).below (show Below w6.heap.size w6 w6.drew from (Below.refl _ _).drew))
              have HSv : (fun Y : World => Y.cell? ⟨B.nb, 10, none⟩ = some (.slice (some ⟨g, 0, none⟩) len2 cap) ∧ Y.cell? ⟨ox, 1, none⟩ = some (.string v)) w6.drew := ⟨by have := HN6.out.cell 10; rw [show (negCells B C _ X')[10]? = some X'.req from rfl, HRQ.out] at this; exact this, cellOf ((HB6.out.drew.block _ hox2).trans HOX.out) 1 _ rfl⟩
              refine wp_region_H (rgH 0 8) (fun Y : World => Y.cell? ⟨B.nb, 10, none⟩ = some (.slice (some ⟨g, 0, none⟩) len2 cap) ∧ Y.cell? ⟨ox, 1, none⟩ = some (.string v)) (by kernel_rfl) ?_
              refine wpAnyH_at 0 (v := ?vv163) rfl (by kernel_rfl) (by kernel_rfl) (by kernel_rfl) (fun _ _ _ h => h) ?hy163 HSv ?hh163
              case hy163 =>
                refine Or.inl ⟨by rfl, ?_⟩
                intro W hW
                obtain ⟨h0, h1⟩ := hW
                go_simp
                try with_reducible rfl
              simp only [Act.put, List.setIfInBounds_toArray, List.set_cons_zero, List.set_cons_succ]
              refine wpAnyH_at 1 (v := ?vv164) rfl (by kernel_rfl) (by kernel_rfl) (by kernel_rfl) (fun _ _ _ h => h) ?hy164 HSv ?hh164
              case hy164 =>
                refine Or.inl ⟨by rfl, ?_⟩
                intro W hW
                obtain ⟨h0, h1⟩ := hW
                go_simp
                try with_reducible rfl
              simp only [Act.put, List.setIfInBounds_toArray, List.set_cons_zero, List.set_cons_succ]
              refine wpAnyH_at 2 (v := ?vv165) rfl (by kernel_rfl) (by kernel_rfl) (by kernel_rfl) (fun _ _ _ h => h) ?hy165 HSv ?hh165
              case hy165 =>
                refine Or.inl ⟨by rfl, ?_⟩
                intro W hW
                obtain ⟨h0, h1⟩ := hW
                go_simp
                try with_reducible rfl
              simp only [Act.put, List.setIfInBounds_toArray, List.set_cons_zero, List.set_cons_succ]
              refine wpAnyH_at 3 (v := ?vv166) rfl (by kernel_rfl) (by kernel_rfl) (by kernel_rfl) (fun _ _ _ h => h) ?hy166 HSv ?hh166
              case hy166 =>
                refine Or.inl ⟨by rfl, ?_⟩
                intro W hW
                obtain ⟨h0, h1⟩ := hW
                go_simp
                try with_reducible rfl
              simp only [Act.put, List.setIfInBounds_toArray, List.set_cons_zero, List.set_cons_succ]
              refine wpAnyH_at 4 (v := ?vv167) rfl (by kernel_rfl) (by kernel_rfl) (by kernel_rfl) (fun _ _ _ h => h) ?hy167 HSv ?hh167
              case hy167 =>
                refine Or.inl ⟨by rfl, ?_⟩
                intro W hW
                obtain ⟨h0, h1⟩ := hW
                go_simp
                try with_reducible rfl
              simp only [Act.put, List.setIfInBounds_toArray, List.set_cons_zero, List.set_cons_succ]
              refine wpAnyH_at 5 (v := ?vv168) rfl (by kernel_rfl) (by kernel_rfl) (by kernel_rfl) (fun _ _ _ h => h) ?hy168 HSv ?hh168
              case hy168 =>
                refine Or.inl ⟨by rfl, ?_⟩
                intro W hW
                obtain ⟨h0, h1⟩ := hW
                go_simp
                try with_reducible rfl
              simp only [Act.put, List.setIfInBounds_toArray, List.set_cons_zero, List.set_cons_succ]
              refine wpAnyH_at 6 (v := ?vv169) rfl (by kernel_rfl) (by kernel_rfl) (by kernel_rfl) (fun _ _ _ h => h) ?hy169 HSv ?hh169
              case hy169 =>
                refine Or.inl ⟨by rfl, ?_⟩
                intro W hW
                obtain ⟨h0, h1⟩ := hW
                go_simp
                try with_reducible rfl
              simp only [Act.put, List.setIfInBounds_toArray, List.set_cons_zero, List.set_cons_succ]
              refine wpAnyH_1 7 rfl (by kernel_rfl) ?_
              intro K hK
              rw [if_pos (by rfl)]
              try go_simp
              go_at_call 58
              refine (sclone_any v _ HVL.out).mono ?_
              rintro e w7 ⟨rfl, hb7⟩
              have HN7 := Lib.hid (HN6.out.below hb7)
              have hB7 : Below w2.heap.size w2 w7 := HB6.out.drew.trans (hb7.mono HB6.out.size)
              have HSv : (fun Y : World => Y.cell? ⟨B.nb, 10, none⟩ = some (.slice (some ⟨g, 0, none⟩) len2 cap) ∧ Y.cell? ⟨ox, 1, none⟩ = some (.string v)) w7 := ⟨by have := HN7.out.cell 10; rw [show (negCells B C _ X')[10]? = some X'.req from rfl, HRQ.out] at this; exact this, cellOf ((hB7.block _ hox2).trans HOX.out) 1 _ rfl⟩
              have hq7 : ORow w7 0 X'.req req := HN7.out.req
              rw [HRQ.out] at hq7
              obtain ⟨cur, y1, y2, y3, y4, y5⟩ := hq7.blk2
              have hlt1 : i * 2 + 1 < cur.size := by have h := HI0.out; rw [y4]; omega
              have i1 := cellOf y1 (i * 2 + 1) cur[i * 2 + 1] (Array.getElem?_eq_getElem hlt1)
              generalize cur[i * 2 + 1] = q1 at i1
              have f1 := fun o => fzOf y1 o
              have hro := ORow.setV (o := ⟨t, v⟩) y1 y2 y3 y4 y5 HI0.out HTO.out
              rw [← HLE.out] at hro
              have hkr : Keep (fun b => X'.req.ownBlock = some b) w7 (w7.setCell ⟨g, i * 2 + 1, none⟩ (.string v)) := (Keep.refl _ w7).setCell ⟨g, i * 2 + 1, none⟩ (Or.inr (by rw [HRQ.out]; rfl)) (.string v)
              have HNS := Lib.hid (HN7.out.turnReq hkr (by rw [HRQ.out]; exact hro) (by rw [List.length_set]; exact HN2.out.lr))
              have HK7 := Lib.hid ((HKP.out.trans (Keep.of_below B.t (HBA.out.trans (HB2.out.trans (hB7.mono HB2.out.size) |>.mono HBA.out.size)))).trans HNS.out.2)
              clear hlt1 hb7 hB7 hq7 y1 y2 y3 y4 y5 hro hkr
              refine hK _ _ (fun _ => HSv) ?_
              try simp only [Act.put, List.setIfInBounds_toArray, List.set_cons_zero, List.set_cons_succ]
              refine wpAnyH_end 8 (fun j hj => rgH_end _ _ j (by omega)) (by rfl) (by kernel_rfl) ?_
              simp only [List.drop_succ_cons, List.drop_zero]
              clear HSv
              go_wp2_with fail
              go_roundg (len - (k + 1))
              case measure => omega
              case rel => exact ⟨k + 1, by omega, rfl, by go_num, _, by rw [HSU.out, HEQ.out]; exact HNS.out.1, HK7.out, by rw [HLN.out]; exact HPX.out _ (HK7.out)⟩
            · intro K hK
              rw [if_pos (by rfl)]
              try go_simp
              have HB3 := Lib.hid (((Below.refl w2.heap.size w2).alloc (Nat.le_refl _) (.cells #[.int .i64 0, .int .i64 0, .int .i64 0, .int .i64 0, .string ⟨#[]⟩] 73 (0, 0))).drew)
              have z3 : (w2.alloc (.cells #[.int .i64 0, .int .i64 0, .int .i64 0, .int .i64 0, .string ⟨#[]⟩] 73 (0, 0))).drew.heap[w2.heap.size]? = _ := at1 w2 (.cells #[.int .i64 0, .int .i64 0, .int .i64 0, .int .i64 0, .string ⟨#[]⟩] 73 (0, 0))
              have hrx : w2.heap.size ≤ w2.heap.size := Nat.le_refl _
              generalize (w2.alloc (.cells #[.int .i64 0, .int .i64 0, .int .i64 0, .int .i64 0, .string ⟨#[]⟩] 73 (0, 0))).drew = w3 at HB3 z3 ⊢
              try simp only [show w2.drew.heap.size = w2.heap.size from rfl]
              have HSv : (fun Y : World => Y.cell? ⟨B.nb, 2, none⟩ = some X'.own ∧ Y.cell? ⟨ox, 0, none⟩ = some (.int .i64 t)) w3 := HS6.out _ HB3.out
              refine hK _ _ (fun _ => HSv) ?_
              try simp only [Act.put, List.setIfInBounds_toArray, List.set_cons_zero, List.set_cons_succ]
              refine wpAnyH_1 7 rfl (by kernel_rfl) ?_
              intro K hK
              rw [if_pos (by rfl)]
              try go_simp
              go_at_call 94
              refine (HFR.out _ HB3.out).mono ?_
              rintro e w4 ⟨rfl, hb4⟩
              have HB4 := Lib.hid (show Below w2.heap.size w2 w4 from HB3.out.trans (hb4.mono HB3.out.size))
              have z4 := (hb4.block _ (lt_of_heap' z3)).trans z3
              have HSv : (fun Y : World => Y.cell? ⟨B.nb, 2, none⟩ = some X'.own ∧ Y.cell? ⟨ox, 0, none⟩ = some (.int .i64 t)) w4 := HS6.out _ HB4.out
              have zf := fun o => fzOf z4 o
              have y0 := cellOf z4 0 (.int .i64 0) rfl
              have y1 := cellOf z4 1 (.int .i64 0) rfl
              have y2 := cellOf z4 2 (.int .i64 0) rfl
              have y3 := cellOf z4 3 (.int .i64 0) rfl
              have y4 := cellOf z4 4 (.string ⟨#[]⟩) rfl
              clear hb4 z3
              refine hK _ _ (fun _ => HSv) ?_
              try simp only [Act.put, List.setIfInBounds_toArray, List.set_cons_zero, List.set_cons_succ]
              refine wpAnyH_at 8 (v := ?vv170) rfl (by kernel_rfl) (by kernel_rfl) (by kernel_rfl) (fun _ _ _ h => h) ?hy170 HSv ?hh170
              case hy170 =>
                refine Or.inl ⟨by rfl, ?_⟩
                intro W hW
                obtain ⟨h0, h1⟩ := hW
                go_simp
                try with_reducible rfl
              simp only [Act.put, List.setIfInBounds_toArray, List.set_cons_zero, List.set_cons_succ]
              refine wpAnyH_at 9 (v := ?vv171) rfl (by kernel_rfl) (by kernel_rfl) (by kernel_rfl) (fun _ _ _ h => h) ?hy171 HSv ?hh171
              case hy171 =>
                refine Or.inl ⟨by rfl, ?_⟩
                intro W hW
                obtain ⟨h0, h1⟩ := hW
                go_simp
                try with_reducible rfl
              simp only [Act.put, List.setIfInBounds_toArray, List.set_cons_zero, List.set_cons_succ]
              refine wpAnyH_at 10 (v := ?vv172) rfl (by kernel_rfl) (by kernel_rfl) (by kernel_rfl) (fun _ _ _ h => h) ?hy172 HSv ?hh172
              case hy172 =>
                refine Or.inl ⟨by rfl, ?_⟩
                intro W hW
                obtain ⟨h0, h1⟩ := hW
                go_simp
                try with_reducible rfl
              simp only [Act.put, List.setIfInBounds_toArray, List.set_cons_zero, List.set_cons_succ]
              clear HSv
              refine wpAnyH_1 12 rfl (by kernel_rfl) ?_
              intro K hK
              rw [if_pos (by rfl)]
              try go_simp
              have hr5 := set5 z4 (.int .i64 (ruleOf C.own t).t) (.int .i64 (ruleOf C.own t).len) (.int .i64 (ruleOf C.own t).min) (.int .i64 (ruleOf C.own t).max) (.string (ruleOf C.own t).s)
              have hb5 := below5 HB4.out hrx (.int .i64 (ruleOf C.own t).t) (.int .i64 (ruleOf C.own t).len) (.int .i64 (ruleOf C.own t).min) (.int .i64 (ruleOf C.own t).max) (.string (ruleOf C.own t).s)
              generalize ((((w4.setCell ⟨w2.heap.size, 0, none⟩ (.int .i64 (ruleOf C.own t).t)).setCell ⟨w2.heap.size, 1, none⟩ (.int .i64 (ruleOf C.own t).len)).setCell ⟨w2.heap.size, 2, none⟩ (.int .i64 (ruleOf C.own t).min)).setCell ⟨w2.heap.size, 3, none⟩ (.int .i64 (ruleOf C.own t).max)).setCell ⟨w2.heap.size, 4, none⟩ (.string (ruleOf C.own t).s) = w5 at hr5 hb5 ⊢
              have HB5 := Lib.hid hb5
              have u1 := cellOf ((hb5.block _ hox2).trans HOX.out) 1 (.string v) rfl
              have r0 := cellOf hr5 0 (.int .i64 (ruleOf C.own t).t) rfl
              have r1 := cellOf hr5 1 (.int .i64 (ruleOf C.own t).len) rfl
              have r2 := cellOf hr5 2 (.int .i64 (ruleOf C.own t).min) rfl
              have r3 := cellOf hr5 3 (.int .i64 (ruleOf C.own t).max) rfl
              have r4 := cellOf hr5 4 (.string (ruleOf C.own t).s) rfl
              clear hr5 hb5 z4 y0 y1 y2 y3 y4 zf
              have HSv : (fun Y : World => Y.cell? ⟨B.nb, 2, none⟩ = some X'.own ∧ Y.cell? ⟨ox, 0, none⟩ = some (.int .i64 t)) w5 := HS6.out _ HB5.out
              refine hK _ _ (fun _ => HSv) ?_
              try simp only [Act.put, List.setIfInBounds_toArray, List.set_cons_zero, List.set_cons_succ]
              clear HSv
              refine wpAnyH_end 13 (fun j hj => rgH_end _ _ j (by omega)) (by rfl) (by kernel_rfl) ?_
              simp only [List.drop_succ_cons, List.drop_zero]
              go_wp2_with fail
              refine (HFT.out _).mono ?_
              rintro e w6 ⟨rfl, hb6⟩
              have HB6 := Lib.hid (HB5.out.trans (hb6.mono HB5.out.size))
              clear hb6 u1 r0 r1 r2 r3 r4
              go_wp2_with fail
              have HN6 := Lib.hid ((HN2.out.below HB6.out).below (show Below w6.heap.size w6 w6.drew from (Below.refl _ _).drew))
              have HSv : (fun Y : World => Y.cell? ⟨B.nb, 10, none⟩ = some (.slice (some ⟨g, 0, none⟩) len2 cap) ∧ Y.cell? ⟨ox, 1, none⟩ = some (.string v)) w6.drew := ⟨by have := HN6.out.cell 10; rw [show (negCells B C _ X')[10]? = some X'.req from rfl, HRQ.out] at this; exact this, cellOf ((HB6.out.drew.block _ hox2).trans HOX.out) 1 _ rfl⟩
              refine wp_region_H (rgH 0 8) (fun Y : World => Y.cell? ⟨B.nb, 10, none⟩ = some (.slice (some ⟨g, 0, none⟩) len2 cap) ∧ Y.cell? ⟨ox, 1, none⟩ = some (.string v)) (by kernel_rfl) ?_
              refine wpAnyH_at 0 (v := ?vv173) rfl (by kernel_rfl) (by kernel_rfl) (by kernel_rfl) (fun _ _ _ h => h) ?hy173 HSv ?hh173
              case hy173 =>
                refine Or.inl ⟨by rfl, ?_⟩
                intro W hW
                obtain ⟨h0, h1⟩ := hW
                go_simp
                try with_reducible rfl
              simp only [Act.put, List.setIfInBounds_toArray, List.set_cons_zero, List.set_cons_succ]
              refine wpAnyH_at 1 (v := ?vv174) rfl (by kernel_rfl) (by kernel_rfl) (by kernel_rfl) (fun _ _ _ h => h) ?hy174 HSv ?hh174
              case hy174 =>
                refine Or.inl ⟨by rfl, ?_⟩
                intro W hW
                obtain ⟨h0, h1⟩ := hW
                go_simp
                try with_reducible rfl
              simp only [Act.put, List.setIfInBounds_toArray, List.set_cons_zero, List.set_cons_succ]
              refine wpAnyH_at 2 (v := ?vv175) rfl (by kernel_rfl) (by kernel_rfl) (by kernel_rfl) (fun _ _ _ h => h) ?hy175 HSv ?hh175
              case hy175 =>
                refine Or.inl ⟨by rfl, ?_⟩
                intro W hW
                obtain ⟨h0, h1⟩ := hW
                go_simp
                try with_reducible rfl
              simp only [Act.put, List.setIfInBounds_toArray, List.set_cons_zero, List.set_cons_succ]
              refine wpAnyH_at 3 (v := ?vv176) rfl (by kernel_rfl) (by kernel_rfl) (by kernel_rfl) (fun _ _ _ h => h) ?hy176 HSv ?hh176
              case hy176 =>
                refine Or.inl ⟨by rfl, ?_⟩
                intro W hW
                obtain ⟨h0, h1⟩ := hW
                go_simp
                try with_reducible rfl
              simp only [Act.put, List.setIfInBounds_toArray, List.set_cons_zero, List.set_cons_succ]
              refine wpAnyH_at 4 (v := ?vv177) rfl (by kernel_rfl) (by kernel_rfl) (by kernel_rfl) (fun _ _ _ h => h) ?hy177 HSv ?hh177
              case hy177 =>
                refine Or.inl ⟨by rfl, ?_⟩
                intro W hW
                obtain ⟨h0, h1⟩ := hW
                go_simp
                try with_reducible rfl
              simp only [Act.put, List.setIfInBounds_toArray, List.set_cons_zero, List.set_cons_succ]
              refine wpAnyH_at 5 (v := ?vv178) rfl (by kernel_rfl) (by kernel_rfl) (by kernel_rfl) (fun _ _ _ h => h) ?hy178 HSv ?hh178
              case hy178 =>
                refine Or.inl ⟨by rfl, ?_⟩
                intro W hW
                obtain ⟨h0, h1⟩ := hW
                go_simp
                try with_reducible rfl
              simp only [Act.put, List.setIfInBounds_toArray, List.set_cons_zero, List.set_cons_succ]
              refine wpAnyH_at 6 (v := ?vv179) rfl (by kernel_rfl) (by kernel_rfl) (by kernel_rfl) (fun _ _ _ h => h) ?hy179 HSv ?hh179
              case hy179 =>
                refine Or.inl ⟨by rfl, ?_⟩
                intro W hW
                obtain ⟨h0, h1⟩ := hW
                go_simp
                try with_reducible rfl
              simp only [Act.put, List.setIfInBounds_toArray, List.set_cons_zero, List.set_cons_succ]
              refine wpAnyH_1 7 rfl (by kernel_rfl) ?_
              intro K hK
              rw [if_pos (by rfl)]
              try go_simp
              go_at_call 58
              refine (sclone_any v _ HVL.out).mono ?_
              rintro e w7 ⟨rfl, hb7⟩
              have HN7 := Lib.hid (HN6.out.below hb7)
              have hB7 : Below w2.heap.size w2 w7 := HB6.out.drew.trans (hb7.mono HB6.out.size)
              have HSv : (fun Y : World => Y.cell? ⟨B.nb, 10, none⟩ = some (.slice (some ⟨g, 0, none⟩) len2 cap) ∧ Y.cell? ⟨ox, 1, none⟩ = some (.string v)) w7 := ⟨by have := HN7.out.cell 10; rw [show (negCells B C _ X')[10]? = some X'.req from rfl, HRQ.out] at this; exact this, cellOf ((hB7.block _ hox2).trans HOX.out) 1 _ rfl⟩
              have hq7 : ORow w7 0 X'.req req := HN7.out.req
              rw [HRQ.out] at hq7
              obtain ⟨cur, y1, y2, y3, y4, y5⟩ := hq7.blk2
              have hlt1 : i * 2 + 1 < cur.size := by have h := HI0.out; rw [y4]; omega
              have i1 := cellOf y1 (i * 2 + 1) cur[i * 2 + 1] (Array.getElem?_eq_getElem hlt1)
              generalize cur[i * 2 + 1] = q1 at i1
              have f1 := fun o => fzOf y1 o
              have hro := ORow.setV (o := ⟨t, v⟩) y1 y2 y3 y4 y5 HI0.out HTO.out
              rw [← HLE.out] at hro
              have hkr : Keep (fun b => X'.req.ownBlock = some b) w7 (w7.setCell ⟨g, i * 2 + 1, none⟩ (.string v)) := (Keep.refl _ w7).setCell ⟨g, i * 2 + 1, none⟩ (Or.inr (by rw [HRQ.out]; rfl)) (.string v)
              have HNS := Lib.hid (HN7.out.turnReq hkr (by rw [HRQ.out]; exact hro) (by rw [List.length_set]; exact HN2.out.lr))
              have HK7 := Lib.hid ((HKP.out.trans (Keep.of_below B.t (HBA.out.trans (HB2.out.trans (hB7.mono HB2.out.size) |>.mono HBA.out.size)))).trans HNS.out.2)
              clear hlt1 hb7 hB7 hq7 y1 y2 y3 y4 y5 hro hkr
              refine hK _ _ (fun _ => HSv) ?_
              try simp only [Act.put, List.setIfInBounds_toArray, List.set_cons_zero, List.set_cons_succ]
              refine wpAnyH_end 8 (fun j hj => rgH_end _ _ j (by omega)) (by rfl) (by kernel_rfl) ?_
              simp only [List.drop_succ_cons, List.drop_zero]
              clear HSv
              go_wp2_with fail
              go_roundg (len - (k + 1))
              case measure => omega
              case rel => exact ⟨k + 1, by omega, rfl, by go_num, _, by rw [HSU.out, HEQ.out]; exact HNS.out.1, HK7.out, by rw [HLN.out]; exact HPX.out _ (HK7.out)⟩
          | false =>
            cases m with
            | false =>
              have HEQ := Lib.hid (show nameOne C req ⟨t, v⟩ = req.eraseIdx i from HNO.out)
              refine wp_region_H (rgH 0 13) (fun Y : World => Y.cell? ⟨B.nb, 2, none⟩ = some X'.own ∧ Y.cell? ⟨ox, 0, none⟩ = some (.int .i64 t)) (by kernel_rfl) ?_
              have HSv : (fun Y : World => Y.cell? ⟨B.nb, 2, none⟩ = some X'.own ∧ Y.cell? ⟨ox, 0, none⟩ = some (.int .i64 t)) w2.drew := HS6.out _ (Below.refl _ _).drew
              refine wpAnyH_at 0 (v := ?vv180) rfl (by kernel_rfl) (by kernel_rfl) (by kernel_rfl) (fun _ _ _ h => h) ?hy180 HSv ?hh180
              case hy180 =>
                refine Or.inl ⟨by rfl, ?_⟩
                intro W hW
                obtain ⟨h0, h1⟩ := hW
                go_simp
                try with_reducible rfl
              simp only [Act.put, List.setIfInBounds_toArray, List.set_cons_zero, List.set_cons_succ]
              refine wpAnyH_at 1 (v := ?vv181) rfl (by kernel_rfl) (by kernel_rfl) (by kernel_rfl) (fun _ _ _ h => h) ?hy181 HSv ?hh181
              case hy181 =>
                refine Or.inl ⟨by rfl, ?_⟩
                intro W hW
                obtain ⟨h0, h1⟩ := hW
                go_simp
                try with_reducible rfl
              simp only [Act.put, List.setIfInBounds_toArray, List.set_cons_zero, List.set_cons_succ]
              refine wpAnyH_at 2 (v := ?vv182) rfl (by kernel_rfl) (by kernel_rfl) (by kernel_rfl) (fun _ _ _ h => h) ?hy182 HSv ?hh182
              case hy182 =>
                refine Or.inl ⟨by rfl, ?_⟩
                intro W hW
                obtain ⟨h0, h1⟩ := hW
                go_simp
                try with_reducible rfl
              simp only [Act.put, List.setIfInBounds_toArray, List.set_cons_zero, List.set_cons_succ]
              refine wpAnyH_at 3 (v := ?vv183) rfl (by kernel_rfl) (by kernel_rfl) (by kernel_rfl) (fun _ _ _ h => h) ?hy183 HSv ?hh183
              case hy183 =>
                refine Or.inl ⟨by rfl, ?_⟩
                intro W hW
                obtain ⟨h0, h1⟩ := hW
                go_simp
                try with_reducible rfl
              simp only [Act.put, List.setIfInBounds_toArray, List.set_cons_zero, List.set_cons_succ]
              refine wpAnyH_at 4 (v := ?vv184) rfl (by kernel_rfl) (by kernel_rfl) (by kernel_rfl) (fun _ _ _ h => h) ?hy184 HSv ?hh184
              case hy184 =>
                refine Or.inl ⟨by rfl, ?_⟩
                intro W hW
                obtain ⟨h0, h1⟩ := hW
                go_simp
                try with_reducible rfl
              simp only [Act.put, List.setIfInBounds_toArray, List.set_cons_zero, List.set_cons_succ]
              refine wpAnyH_at 5 (v := ?vv185) rfl (by kernel_rfl) (by kernel_rfl) (by kernel_rfl) (fun _ _ _ h => h) ?hy185 HSv ?hh185
              case hy185 =>
                refine Or.inl ⟨by rfl, ?_⟩
                intro W hW
                obtain ⟨h0, h1⟩ := hW
                go_simp
                try with_reducible rfl
              simp only [Act.put, List.setIfInBounds_toArray, List.set_cons_zero, List.set_cons_succ]
              refine wpAnyH_at 6 (v := ?vv186) rfl (by kernel_rfl) (by kernel_rfl) (by kernel_rfl) (fun _ _ _ h => h) ?hy186 HSv ?hh186
              case hy186 =>
                refine Or.inl ⟨by rfl, ?_⟩
                intro W hW
                obtain ⟨h0, h1⟩ := hW
                go_simp
                try with_reducible rfl
              simp only [Act.put, List.setIfInBounds_toArray, List.set_cons_zero, List.set_cons_succ]
              refine wpAnyH_2 7 11 rfl rfl (by kernel_rfl) ?_ ?_
              · intro K hK
                rw [if_pos (by rfl)]
                try go_simp
                go_at_call 94
                refine (HFR.out _ (Below.refl _ _).drew).mono ?_
                rintro e w3 ⟨rfl, hb3⟩
                have HB3 := Lib.hid (show Below w2.heap.size w2 w3 from Below.trans (Below.refl _ _).drew hb3)
                have HSv : (fun Y : World => Y.cell? ⟨B.nb, 2, none⟩ = some X'.own ∧ Y.cell? ⟨ox, 0, none⟩ = some (.int .i64 t)) w3 := HS6.out _ HB3.out
                clear hb3
                refine hK _ _ (fun _ => HSv) ?_
                try simp only [Act.put, List.setIfInBounds_toArray, List.set_cons_zero, List.set_cons_succ]
                refine wpAnyH_at 8 (v := ?vv187) rfl (by kernel_rfl) (by kernel_rfl) (by kernel_rfl) (fun _ _ _ h => h) ?hy187 HSv ?hh187
                case hy187 =>
                  refine Or.inl ⟨by rfl, ?_⟩
                  intro W hW
                  obtain ⟨h0, h1⟩ := hW
                  go_simp
                  try with_reducible rfl
                simp only [Act.put, List.setIfInBounds_toArray, List.set_cons_zero, List.set_cons_succ]
                refine wpAnyH_at 9 (v := ?vv188) rfl (by kernel_rfl) (by kernel_rfl) (by kernel_rfl) (fun _ _ _ h => h) ?hy188 HSv ?hh188
                case hy188 =>
                  refine Or.inl ⟨by rfl, ?_⟩
                  intro W hW
                  obtain ⟨h0, h1⟩ := hW
                  go_simp
                  try with_reducible rfl
                simp only [Act.put, List.setIfInBounds_toArray, List.set_cons_zero, List.set_cons_succ]
                refine wpAnyH_at 10 (v := ?vv189) rfl (by kernel_rfl) (by kernel_rfl) (by kernel_rfl) (fun _ _ _ h => h) ?hy189 HSv ?hh189
                case hy189 =>
                  refine Or.inl ⟨by rfl, ?_⟩
                  intro W hW
                  obtain ⟨h0, h1⟩ := hW
                  go_simp
                  try with_reducible rfl
                simp only [Act.put, List.setIfInBounds_toArray, List.set_cons_zero, List.set_cons_succ]
                refine wpAnyH_1 11 rfl (by kernel_rfl) ?_
                intro K hK
                rw [if_pos (by rfl)]
                try go_simp
                have HB4 := Lib.hid (HB3.out.alloc HB3.out.size (.cells #[.int .i64 0, .int .i64 0, .int .i64 0, .int .i64 0, .string ⟨#[]⟩] 73 (0, 0)))
                have z4 := at1 w3 (.cells #[.int .i64 0, .int .i64 0, .int .i64 0, .int .i64 0, .string ⟨#[]⟩] 73 (0, 0))
                have hrx := HB3.out.size
                generalize w3.alloc (.cells #[.int .i64 0, .int .i64 0, .int .i64 0, .int .i64 0, .string ⟨#[]⟩] 73 (0, 0)) = w4 at HB4 z4 ⊢
                generalize w3.heap.size = rx at z4 hrx ⊢
                have HSv : (fun Y : World => Y.cell? ⟨B.nb, 2, none⟩ = some X'.own ∧ Y.cell? ⟨ox, 0, none⟩ = some (.int .i64 t)) w4 := HS6.out _ HB4.out
                have zf := fun o => fzOf z4 o
                have y0 := cellOf z4 0 (.int .i64 0) rfl
                have y1 := cellOf z4 1 (.int .i64 0) rfl
                have y2 := cellOf z4 2 (.int .i64 0) rfl
                have y3 := cellOf z4 3 (.int .i64 0) rfl
                have y4 := cellOf z4 4 (.string ⟨#[]⟩) rfl
                refine hK _ _ (fun _ => HSv) ?_
                try simp only [Act.put, List.setIfInBounds_toArray, List.set_cons_zero, List.set_cons_succ]
                clear HSv
                refine wpAnyH_1 12 rfl (by kernel_rfl) ?_
                intro K hK
                rw [if_pos (by rfl)]
                try go_simp
                have hr5 := set5 z4 (.int .i64 (ruleOf C.own t).t) (.int .i64 (ruleOf C.own t).len) (.int .i64 (ruleOf C.own t).min) (.int .i64 (ruleOf C.own t).max) (.string (ruleOf C.own t).s)
                have hb5 := below5 HB4.out hrx (.int .i64 (ruleOf C.own t).t) (.int .i64 (ruleOf C.own t).len) (.int .i64 (ruleOf C.own t).min) (.int .i64 (ruleOf C.own t).max) (.string (ruleOf C.own t).s)
                generalize ((((w4.setCell ⟨rx, 0, none⟩ (.int .i64 (ruleOf C.own t).t)).setCell ⟨rx, 1, none⟩ (.int .i64 (ruleOf C.own t).len)).setCell ⟨rx, 2, none⟩ (.int .i64 (ruleOf C.own t).min)).setCell ⟨rx, 3, none⟩ (.int .i64 (ruleOf C.own t).max)).setCell ⟨rx, 4, none⟩ (.string (ruleOf C.own t).s) = w5 at hr5 hb5 ⊢
                have HB5 := Lib.hid hb5
                have u1 := cellOf ((hb5.block _ hox2).trans HOX.out) 1 (.string v) rfl
                have r0 := cellOf hr5 0 (.int .i64 (ruleOf C.own t).t) rfl
                have r1 := cellOf hr5 1 (.int .i64 (ruleOf C.own t).len) rfl
                have r2 := cellOf hr5 2 (.int .i64 (ruleOf C.own t).min) rfl
                have r3 := cellOf hr5 3 (.int .i64 (ruleOf C.own t).max) rfl
                have r4 := cellOf hr5 4 (.string (ruleOf C.own t).s) rfl
                clear hr5 hb5 z4 y0 y1 y2 y3 y4 zf
                have HSv : (fun Y : World => Y.cell? ⟨B.nb, 2, none⟩ = some X'.own ∧ Y.cell? ⟨ox, 0, none⟩ = some (.int .i64 t)) w5 := HS6.out _ HB5.out
                refine hK _ _ (fun _ => HSv) ?_
                try simp only [Act.put, List.setIfInBounds_toArray, List.set_cons_zero, List.set_cons_succ]
                clear HSv
                refine wpAnyH_end 13 (fun j hj => rgH_end _ _ j (by omega)) (by rfl) (by kernel_rfl) ?_
                simp only [List.drop_succ_cons, List.drop_zero]
                go_wp2_with fail
                refine (HFT.out _).mono ?_
                rintro e w6 ⟨rfl, hb6⟩
                have HB6 := Lib.hid (HB5.out.trans (hb6.mono HB5.out.size))
                clear hb6 u1 r0 r1 r2 r3 r4
                go_wp2_with fail
                have HN9 := Lib.hid ((HN2.out.below HB6.out).below (show Below w6.heap.size w6 w6.drew from (Below.refl _ _).drew))
                have HSv : (fun Y : World => Y.cell? ⟨B.nb, 4, none⟩ = some X'.must ∧ Y.cell? ⟨ox, 0, none⟩ = some (.int .i64 t)) w6.drew := ⟨HN9.out.cell 4, cellOf ((HB6.out.drew.block _ hox2).trans HOX.out) 0 _ rfl⟩
                refine wp_region_H (rgH 0 9) (fun Y : World => Y.cell? ⟨B.nb, 4, none⟩ = some X'.must ∧ Y.cell? ⟨ox, 0, none⟩ = some (.int .i64 t)) (by kernel_rfl) ?_
                refine wpAnyH_at 0 (v := ?vv190) rfl (by kernel_rfl) (by kernel_rfl) (by kernel_rfl) (fun _ _ _ h => h) ?hy190 HSv ?hh190
                case hy190 =>
                  refine Or.inl ⟨by rfl, ?_⟩
                  intro W hW
                  obtain ⟨h0, h1⟩ := hW
                  go_simp
                  try with_reducible rfl
                simp only [Act.put, List.setIfInBounds_toArray, List.set_cons_zero, List.set_cons_succ]
                refine wpAnyH_at 1 (v := ?vv191) rfl (by kernel_rfl) (by kernel_rfl) (by kernel_rfl) (fun _ _ _ h => h) ?hy191 HSv ?hh191
                case hy191 =>
                  refine Or.inl ⟨by rfl, ?_⟩
                  intro W hW
                  obtain ⟨h0, h1⟩ := hW
                  go_simp
                  try with_reducible rfl
                simp only [Act.put, List.setIfInBounds_toArray, List.set_cons_zero, List.set_cons_succ]
                refine wpAnyH_at 2 (v := ?vv192) rfl (by kernel_rfl) (by kernel_rfl) (by kernel_rfl) (fun _ _ _ h => h) ?hy192 HSv ?hh192
                case hy192 =>
                  refine Or.inl ⟨by rfl, ?_⟩
                  intro W hW
                  obtain ⟨h0, h1⟩ := hW
                  go_simp
                  try with_reducible rfl
                simp only [Act.put, List.setIfInBounds_toArray, List.set_cons_zero, List.set_cons_succ]
                refine wpAnyH_at 3 (v := ?vv193) rfl (by kernel_rfl) (by kernel_rfl) (by kernel_rfl) (fun _ _ _ h => h) ?hy193 HSv ?hh193
                case hy193 =>
                  refine Or.inl ⟨by rfl, ?_⟩
                  intro W hW
                  obtain ⟨h0, h1⟩ := hW
                  go_simp
                  try with_reducible rfl
                simp only [Act.put, List.setIfInBounds_toArray, List.set_cons_zero, List.set_cons_succ]
                refine wpAnyH_at 4 (v := ?vv194) rfl (by kernel_rfl) (by kernel_rfl) (by kernel_rfl) (fun _ _ _ h => h) ?hy194 HSv ?hh194
                case hy194 =>
                  refine Or.inl ⟨by rfl, ?_⟩
                  intro W hW
                  obtain ⟨h0, h1⟩ := hW
                  go_simp
                  try with_reducible rfl
                simp only [Act.put, List.setIfInBounds_toArray, List.set_cons_zero, List.set_cons_succ]
                refine wpAnyH_at 5 (v := ?vv195) rfl (by kernel_rfl) (by kernel_rfl) (by kernel_rfl) (fun _ _ _ h => h) ?hy195 HSv ?hh195
                case hy195 =>
                  refine Or.inl ⟨by rfl, ?_⟩
                  intro W hW
                  obtain ⟨h0, h1⟩ := hW
                  go_simp
                  try with_reducible rfl
                simp only [Act.put, List.setIfInBounds_toArray, List.set_cons_zero, List.set_cons_succ]
                refine wpAnyH_at 6 (v := ?vv196) rfl (by kernel_rfl) (by kernel_rfl) (by kernel_rfl) (fun _ _ _ h => h) ?hy196 HSv ?hh196
                case hy196 =>
                  refine Or.inl ⟨by rfl, ?_⟩
                  intro W hW
                  obtain ⟨h0, h1⟩ := hW
                  go_simp
                  try with_reducible rfl
                simp only [Act.put, List.setIfInBounds_toArray, List.set_cons_zero, List.set_cons_succ]
                refine wpAnyH_1 7 rfl (by kernel_rfl) ?_
                intro K hK
                rw [if_pos (by rfl)]
                try go_simp
                go_at_call 108
                refine (HMU.out _ HN9.out.must).mono ?_
                rintro e _ ⟨rfl, rfl⟩
                refine hK _ _ (fun _ => HSv) ?_
                try simp only [Act.put, List.setIfInBounds_toArray, List.set_cons_zero, List.set_cons_succ]
                refine wpAnyH_at 8 (v := ?vv197) rfl (by kernel_rfl) (by kernel_rfl) (by kernel_rfl) (fun _ _ _ h => h) ?hy197 HSv ?hh197
                case hy197 =>
                  refine Or.inl ⟨by rfl, ?_⟩
                  intro W hW
                  obtain ⟨h0, h1⟩ := hW
                  go_simp
                  try with_reducible rfl
                simp only [Act.put, List.setIfInBounds_toArray, List.set_cons_zero, List.set_cons_succ]
                refine wpAnyH_end 9 (fun j hj => rgH_end _ _ j (by omega)) (by rfl) (by kernel_rfl) ?_
                simp only [List.drop_succ_cons, List.drop_zero]
                clear HSv
                have HKP9 := Lib.hid (HKP.out.trans (Keep.of_below B.t (HBA.out.trans (HB2.out.trans (HB6.out.drew.mono HB2.out.size) |>.mono HBA.out.size))))
                have hq9 : ORow w6.drew 0 X'.req req := HN9.out.req
                rw [HRQ.out] at hq9
                obtain ⟨cur, y1, y2, y3, y4, y5⟩ := hq9.blk2
                have HD := Lib.hid (delO_any g cap cur req i w6.drew HI0.out y1 y2 y3 y4 y5 (by have h : req.length ≤ 30 := HN2.out.lr; omega))
                rw [← HLE.out] at HD
                have g10 : w6.drew.cell? ⟨B.nb, 10, none⟩ = some (.slice (some ⟨g, 0, none⟩) len2 cap) := by have := HN9.out.cell 10; rw [show (negCells B C { st with req := req } X')[10]? = some X'.req from rfl, HRQ.out] at this; exact this
                clear y1 y2 y3 y4 y5 hq9
                go_wp2_with (go_at_call 115
                             refine HD.out.mono ?_
                             rintro e w8 ⟨rfl, r8, k8⟩
                             have hkr : Keep (fun b => X'.req.ownBlock = some b) w6.drew w8 := k8.mono (fun b _ hb => by rw [HRQ.out]; subst hb; rfl)
                             have hl8 : (req.eraseIdx i).length ≤ 30 := Nat.le_trans (List.length_eraseIdx_le _ _) HN2.out.lr
                             have hgr : g = B.rb := HN2.out.rq g (by rw [HRQ.out]; rfl)
                             have hNS := HN9.out.setReq hkr r8 (fun b hb => by cases hb; exact hgr) hl8
                             have y10 := (k8.block B.nb HN9.out.nlt (fun he => HN9.out.ne2 (by rw [← hgr]; exact he.symm))).trans HN9.out.blk
                             have f10 := fun o => fzOf y10 o
                             have g11 := cellOf y10 10 X'.req rfl
                             rw [HRQ.out] at g11
                             have HNS := Lib.hid hNS
                             have HK10 := Lib.hid (HKP9.out.trans hNS.2)
                             clear hkr hl8 hgr hNS y10 k8 r8)
                go_roundg (len - (k + 1))
                case measure => omega
                case rel => exact ⟨k + 1, by omega, rfl, by go_num, _, by rw [HSU.out, HEQ.out]; exact HNS.out.1, HK10.out, by rw [HLN.out]; exact HPX.out _ (HK10.out)⟩
              · intro K hK
                rw [if_pos (by rfl)]
                try go_simp
                have HB3 := Lib.hid (((Below.refl w2.heap.size w2).alloc (Nat.le_refl _) (.cells #[.int .i64 0, .int .i64 0, .int .i64 0, .int .i64 0, .string ⟨#[]⟩] 73 (0, 0))).drew)
                have z3 : (w2.alloc (.cells #[.int .i64 0, .int .i64 0, .int .i64 0, .int .i64 0, .string ⟨#[]⟩] 73 (0, 0))).drew.heap[w2.heap.size]? = _ := at1 w2 (.cells #[.int .i64 0, .int .i64 0, .int .i64 0, .int .i64 0, .string ⟨#[]⟩] 73 (0, 0))
                have hrx : w2.heap.size ≤ w2.heap.size := Nat.le_refl _
                generalize (w2.alloc (.cells #[.int .i64 0, .int .i64 0, .int .i64 0, .int .i64 0, .string ⟨#[]⟩] 73 (0, 0))).drew = w3 at HB3 z3 ⊢
                try simp only [show w2.drew.heap.size = w2.heap.size from rfl]
                have HSv : (fun Y : World => Y.cell? ⟨B.nb, 2, none⟩ = some X'.own ∧ Y.cell? ⟨ox, 0, none⟩ = some (.int .i64 t)) w3 := HS6.out _ HB3.out
                refine hK _ _ (fun _ => HSv) ?_
                try simp only [Act.put, List.setIfInBounds_toArray, List.set_cons_zero, List.set_cons_succ]
                refine wpAnyH_1 7 rfl (by kernel_rfl) ?_
                intro K hK
                rw [if_pos (by rfl)]
                try go_simp
                go_at_call 94
                refine (HFR.out _ HB3.out).mono ?_
                rintro e w4 ⟨rfl, hb4⟩
                have HB4 := Lib.hid (show Below w2.heap.size w2 w4 from HB3.out.trans (hb4.mono HB3.out.size))
                have z4 := (hb4.block _ (lt_of_heap' z3)).trans z3
                have HSv : (fun Y : World => Y.cell? ⟨B.nb, 2, none⟩ = some X'.own ∧ Y.cell? ⟨ox, 0, none⟩ = some (.int .i64 t)) w4 := HS6.out _ HB4.out
                have zf := fun o => fzOf z4 o
                have y0 := cellOf z4 0 (.int .i64 0) rfl
                have y1 := cellOf z4 1 (.int .i64 0) rfl
                have y2 := cellOf z4 2 (.int .i64 0) rfl
                have y3 := cellOf z4 3 (.int .i64 0) rfl
                have y4 := cellOf z4 4 (.string ⟨#[]⟩) rfl
                clear hb4 z3
                refine hK _ _ (fun _ => HSv) ?_
                try simp only [Act.put, List.setIfInBounds_toArray, List.set_cons_zero, List.set_cons_succ]
                refine wpAnyH_at 8 (v := ?vv198) rfl (by kernel_rfl) (by kernel_rfl) (by kernel_rfl) (fun _ _ _ h => h) ?hy198 HSv ?hh198
                case hy198 =>
                  refine Or.inl ⟨by rfl, ?_⟩
                  intro W hW
                  obtain ⟨h0, h1⟩ := hW
                  go_simp
                  try with_reducible rfl
                simp only [Act.put, List.setIfInBounds_toArray, List.set_cons_zero, List.set_cons_succ]
                refine wpAnyH_at 9 (v := ?vv199) rfl (by kernel_rfl) (by kernel_rfl) (by kernel_rfl) (fun _ _ _ h => h) ?hy199 HSv ?hh199
                case hy199 =>
                  refine Or.inl ⟨by rfl, ?_⟩
                  intro W hW
                  obtain ⟨h0, h1⟩ := hW
                  go_simp
                  try with_reducible rfl
                simp only [Act.put, List.setIfInBounds_toArray, List.set_cons_zero, List.set_cons_succ]
                refine wpAnyH_at 10 (v := ?vv200) rfl (by kernel_rfl) (by kernel_rfl) (by kernel_rfl) (fun _ _ _ h => h) ?hy200 HSv ?hh200
                case hy200 =>
                  refine Or.inl ⟨by rfl, ?_⟩
                  intro W hW
                  obtain ⟨h0, h1⟩ := hW
                  go_simp
                  try with_reducible rfl
                simp only [Act.put, List.setIfInBounds_toArray, List.set_cons_zero, List.set_cons_succ]
                clear HSv
                refine wpAnyH_1 12 rfl (by kernel_rfl) ?_
                intro K hK
                rw [if_pos (by rfl)]
                try go_simp
                have hr5 := set5 z4 (.int .i64 (ruleOf C.own t).t) (.int .i64 (ruleOf C.own t).len) (.int .i64 (ruleOf C.own t).min) (.int .i64 (ruleOf C.own t).max) (.string (ruleOf C.own t).s)
                have hb5 := below5 HB4.out hrx (.int .i64 (ruleOf C.own t).t) (.int .i64 (ruleOf C.own t).len) (.int .i64 (ruleOf C.own t).min) (.int .i64 (ruleOf C.own t).max) (.string (ruleOf C.own t).s)
                generalize ((((w4.setCell ⟨w2.heap.size, 0, none⟩ (.int .i64 (ruleOf C.own t).t)).setCell ⟨w2.heap.size, 1, none⟩ (.int .i64 (ruleOf C.own t).len)).setCell ⟨w2.heap.size, 2, none⟩ (.int .i64 (ruleOf C.own t).min)).setCell ⟨w2.heap.size, 3, none⟩ (.int .i64 (ruleOf C.own t).max)).setCell ⟨w2.heap.size, 4, none⟩ (.string (ruleOf C.own t).s) = w5 at hr5 hb5 ⊢
                have HB5 := Lib.hid hb5
                have u1 := cellOf ((hb5.block _ hox2).trans HOX.out) 1 (.string v) rfl
                have r0 := cellOf hr5 0 (.int .i64 (ruleOf C.own t).t) rfl
                have r1 := cellOf hr5 1 (.int .i64 (ruleOf C.own t).len) rfl
                have r2 := cellOf hr5 2 (.int .i64 (ruleOf C.own t).min) rfl
                have r3 := cellOf hr5 3 (.int .i64 (ruleOf C.own t).max) rfl
                have r4 := cellOf hr5 4 (.string (ruleOf C.own t).s) rfl
                clear hr5 hb5 z4 y0 y1 y2 y3 y4 zf
                have HSv : (fun Y : World => Y.cell? ⟨B.nb, 2, none⟩ = some X'.own ∧ Y.cell? ⟨ox, 0, none⟩ = some (.int .i64 t)) w5 := HS6.out _ HB5.out
                refine hK _ _ (fun _ => HSv) ?_
                try simp only [Act.put, List.setIfInBounds_toArray, List.set_cons_zero, List.set_cons_succ]
                clear HSv
                refine wpAnyH_end 13 (fun j hj => rgH_end _ _ j (by omega)) (by rfl) (by kernel_rfl) ?_
                simp only [List.drop_succ_cons, List.drop_zero]
                go_wp2_with fail
                refine (HFT.out _).mono ?_
                rintro e w6 ⟨rfl, hb6⟩
                have HB6 := Lib.hid (HB5.out.trans (hb6.mono HB5.out.size))
                clear hb6 u1 r0 r1 r2 r3 r4
                go_wp2_with fail
                have HN9 := Lib.hid ((HN2.out.below HB6.out).below (show Below w6.heap.size w6 w6.drew from (Below.refl _ _).drew))
                have HSv : (fun Y : World => Y.cell? ⟨B.nb, 4, none⟩ = some X'.must ∧ Y.cell? ⟨ox, 0, none⟩ = some (.int .i64 t)) w6.drew := ⟨HN9.out.cell 4, cellOf ((HB6.out.drew.block _ hox2).trans HOX.out) 0 _ rfl⟩
                refine wp_region_H (rgH 0 9) (fun Y : World => Y.cell? ⟨B.nb, 4, none⟩ = some X'.must ∧ Y.cell? ⟨ox, 0, none⟩ = some (.int .i64 t)) (by kernel_rfl) ?_
                refine wpAnyH_at 0 (v := ?vv201) rfl (by kernel_rfl) (by kernel_rfl) (by kernel_rfl) (fun _ _ _ h => h) ?hy201 HSv ?hh201
                case hy201 =>
                  refine Or.inl ⟨by rfl, ?_⟩
                  intro W hW
                  obtain ⟨h0, h1⟩ := hW
                  go_simp
                  try with_reducible rfl
                simp only [Act.put, List.setIfInBounds_toArray, List.set_cons_zero, List.set_cons_succ]
                refine wpAnyH_at 1 (v := ?vv202) rfl (by kernel_rfl) (by kernel_rfl) (by kernel_rfl) (fun _ _ _ h => h) ?hy202 HSv ?hh202
                case hy202 =>
                  refine Or.inl ⟨by rfl, ?_⟩
                  intro W hW
                  obtain ⟨h0, h1⟩ := hW
                  go_simp
                  try with_reducible rfl
                simp only [Act.put, List.setIfInBounds_toArray, List.set_cons_zero, List.set_cons_succ]
                refine wpAnyH_at 2 (v := ?vv203) rfl (by kernel_rfl) (by kernel_rfl) (by kernel_rfl) (fun _ _ _ h => h) ?hy203 HSv ?hh203
                case hy203 =>
                  refine Or.inl ⟨by rfl, ?_⟩
                  intro W hW
                  obtain ⟨h0, h1⟩ := hW
                  go_simp
                  try with_reducible rfl
                simp only [Act.put, List.setIfInBounds_toArray, List.set_cons_zero, List.set_cons_succ]
                refine wpAnyH_at 3 (v := ?vv204) rfl (by kernel_rfl) (by kernel_rfl) (by kernel_rfl) (fun _ _ _ h => h) ?hy204 HSv ?hh204
                case hy204 =>
                  refine Or.inl ⟨by rfl, ?_⟩
                  intro W hW
                  obtain ⟨h0, h1⟩ := hW
                  go_simp
                  try with_reducible rfl
                simp only [Act.put, List.setIfInBounds_toArray, List.set_cons_zero, List.set_cons_succ]
                refine wpAnyH_at 4 (v := ?vv205) rfl (by kernel_rfl) (by kernel_rfl) (by kernel_rfl) (fun _ _ _ h => h) ?hy205 HSv ?hh205
                case hy205 =>
                  refine Or.inl ⟨by rfl, ?_⟩
                  intro W hW
                  obtain ⟨h0, h1⟩ := hW
                  go_simp
                  try with_reducible rfl
                simp only [Act.put, List.setIfInBounds_toArray, List.set_cons_zero, List.set_cons_succ]
                refine wpAnyH_at 5 (v := ?vv206) rfl (by kernel_rfl) (by kernel_rfl) (by kernel_rfl) (fun _ _ _ h => h) ?hy206 HSv ?hh206
                case hy206 =>
                  refine Or.inl ⟨by rfl, ?_⟩
                  intro W hW
                  obtain ⟨h0, h1⟩ := hW
                  go_simp
                  try with_reducible rfl
                simp only [Act.put, List.setIfInBounds_toArray, List.set_cons_zero, List.set_cons_succ]
                refine wpAnyH_at 6 (v := ?vv207) rfl (by kernel_rfl) (by kernel_rfl) (by kernel_rfl) (fun _ _ _ h => h) ?hy207 HSv ?hh207
                case hy207 =>
                  refine Or.inl ⟨by rfl, ?_⟩
                  intro W hW
                  obtain ⟨h0, h1⟩ := hW
                  go_simp
                  try with_reducible rfl
                simp only [Act.put, List.setIfInBounds_toArray, List.set_cons_zero, List.set_cons_succ]
                refine wpAnyH_1 7 rfl (by kernel_rfl) ?_
                intro K hK
                rw [if_pos (by rfl)]
                try go_simp
                go_at_call 108
                refine (HMU.out _ HN9.out.must).mono ?_
                rintro e _ ⟨rfl, rfl⟩
                refine hK _ _ (fun _ => HSv) ?_
                try simp only [Act.put, List.setIfInBounds_toArray, List.set_cons_zero, List.set_cons_succ]
                refine wpAnyH_at 8 (v := ?vv208) rfl (by kernel_rfl) (by kernel_rfl) (by kernel_rfl) (fun _ _ _ h => h) ?hy208 HSv ?hh208
                case hy208 =>
                  refine Or.inl ⟨by rfl, ?_⟩
                  intro W hW
                  obtain ⟨h0, h1⟩ := hW
                  go_simp
                  try with_reducible rfl
                simp only [Act.put, List.setIfInBounds_toArray, List.set_cons_zero, List.set_cons_succ]
                refine wpAnyH_end 9 (fun j hj => rgH_end _ _ j (by omega)) (by rfl) (by kernel_rfl) ?_
                simp only [List.drop_succ_cons, List.drop_zero]
                clear HSv
                have HKP9 := Lib.hid (HKP.out.trans (Keep.of_below B.t (HBA.out.trans (HB2.out.trans (HB6.out.drew.mono HB2.out.size) |>.mono HBA.out.size))))
                have hq9 : ORow w6.drew 0 X'.req req := HN9.out.req
                rw [HRQ.out] at hq9
                obtain ⟨cur, y1, y2, y3, y4, y5⟩ := hq9.blk2
                have HD := Lib.hid (delO_any g cap cur req i w6.drew HI0.out y1 y2 y3 y4 y5 (by have h : req.length ≤ 30 := HN2.out.lr; omega))
                rw [← HLE.out] at HD
                have g10 : w6.drew.cell? ⟨B.nb, 10, none⟩ = some (.slice (some ⟨g, 0, none⟩) len2 cap) := by have := HN9.out.cell 10; rw [show (negCells B C { st with req := req } X')[10]? = some X'.req from rfl, HRQ.out] at this; exact this
                clear y1 y2 y3 y4 y5 hq9
                go_wp2_with (go_at_call 115
                             refine HD.out.mono ?_
                             rintro e w8 ⟨rfl, r8, k8⟩
                             have hkr : Keep (fun b => X'.req.ownBlock = some b) w6.drew w8 := k8.mono (fun b _ hb => by rw [HRQ.out]; subst hb; rfl)
                             have hl8 : (req.eraseIdx i).length ≤ 30 := Nat.le_trans (List.length_eraseIdx_le _ _) HN2.out.lr
                             have hgr : g = B.rb := HN2.out.rq g (by rw [HRQ.out]; rfl)
                             have hNS := HN9.out.setReq hkr r8 (fun b hb => by cases hb; exact hgr) hl8
                             have y10 := (k8.block B.nb HN9.out.nlt (fun he => HN9.out.ne2 (by rw [← hgr]; exact he.symm))).trans HN9.out.blk
                             have f10 := fun o => fzOf y10 o
                             have g11 := cellOf y10 10 X'.req rfl
                             rw [HRQ.out] at g11
                             have HNS := Lib.hid hNS
                             have HK10 := Lib.hid (HKP9.out.trans hNS.2)
                             clear hkr hl8 hgr hNS y10 k8 r8)
                go_roundg (len - (k + 1))
                case measure => omega
                case rel => exact ⟨k + 1, by omega, rfl, by go_num, _, by rw [HSU.out, HEQ.out]; exact HNS.out.1, HK10.out, by rw [HLN.out]; exact HPX.out _ (HK10.out)⟩
            | true =>
              have HEQ := Lib.hid (show nameOne C req ⟨t, v⟩ = req from HNO.out)
              refine wp_region_H (rgH 0 13) (fun Y : World => Y.cell? ⟨B.nb, 2, none⟩ = some X'.own ∧ Y.cell? ⟨ox, 0, none⟩ = some (.int .i64 t)) (by kernel_rfl) ?_
              have HSv : (fun Y : World => Y.cell? ⟨B.nb, 2, none⟩ = some X'.own ∧ Y.cell? ⟨ox, 0, none⟩ = some (.int .i64 t)) w2.drew := HS6.out _ (Below.refl _ _).drew
              refine wpAnyH_at 0 (v := ?vv209) rfl (by kernel_rfl) (by kernel_rfl) (by kernel_rfl) (fun _ _ _ h => h) ?hy209 HSv ?hh209
              case hy209 =>
                refine Or.inl ⟨by rfl, ?_⟩
                intro W hW
                obtain ⟨h0, h1⟩ := hW
                go_simp
                try with_reducible rfl
              simp only [Act.put, List.setIfInBounds_toArray, List.set_cons_zero, List.set_cons_succ]
              refine wpAnyH_at 1 (v := ?vv210) rfl (by kernel_rfl) (by kernel_rfl) (by kernel_rfl) (fun _ _ _ h => h) ?hy210 HSv ?hh210
              case hy210 =>
                refine Or.inl ⟨by rfl, ?_⟩
                intro W hW
                obtain ⟨h0, h1⟩ := hW
                go_simp
                try with_reducible rfl
              simp only [Act.put, List.setIfInBounds_toArray, List.set_cons_zero, List.set_cons_succ]
              refine wpAnyH_at 2 (v := ?vv211) rfl (by kernel_rfl) (by kernel_rfl) (by kernel_rfl) (fun _ _ _ h => h) ?hy211 HSv ?hh211
              case hy211 =>
                refine Or.inl ⟨by rfl, ?_⟩
                intro W hW
                obtain ⟨h0, h1⟩ := hW
                go_simp
                try with_reducible rfl
              simp only [Act.put, List.setIfInBounds_toArray, List.set_cons_zero, List.set_cons_succ]
              refine wpAnyH_at 3 (v := ?vv212) rfl (by kernel_rfl) (by kernel_rfl) (by kernel_rfl) (fun _ _ _ h => h) ?hy212 HSv ?hh212
              case hy212 =>
                refine Or.inl ⟨by rfl, ?_⟩
                intro W hW
                obtain ⟨h0, h1⟩ := hW
                go_simp
                try with_reducible rfl
              simp only [Act.put, List.setIfInBounds_toArray, List.set_cons_zero, List.set_cons_succ]
              refine wpAnyH_at 4 (v := ?vv213) rfl (by kernel_rfl) (by kernel_rfl) (by kernel_rfl) (fun _ _ _ h => h) ?hy213 HSv ?hh213
              case hy213 =>
                refine Or.inl ⟨by rfl, ?_⟩
                intro W hW
                obtain ⟨h0, h1⟩ := hW
                go_simp
                try with_reducible rfl
              simp only [Act.put, List.setIfInBounds_toArray, List.set_cons_zero, List.set_cons_succ]
              refine wpAnyH_at 5 (v := ?vv214) rfl (by kernel_rfl) (by kernel_rfl) (by kernel_rfl) (fun _ _ _ h => h) ?hy214 HSv ?hh214
              case hy214 =>
                refine Or.inl ⟨by rfl, ?_⟩
                intro W hW
                obtain ⟨h0, h1⟩ := hW
                go_simp
                try with_reducible rfl
              simp only [Act.put, List.setIfInBounds_toArray, List.set_cons_zero, List.set_cons_succ]
              refine wpAnyH_at 6 (v := ?vv215) rfl (by kernel_rfl) (by kernel_rfl) (by kernel_rfl) (fun _ _ _ h => h) ?hy215 HSv ?hh215
              case hy215 =>
                refine Or.inl ⟨by rfl, ?_⟩
                intro W hW
                obtain ⟨h0, h1⟩ := hW
                go_simp
                try with_reducible rfl
              simp only [Act.put, List.setIfInBounds_toArray, List.set_cons_zero, List.set_cons_succ]
              refine wpAnyH_2 7 11 rfl rfl (by kernel_rfl) ?_ ?_
              · intro K hK
                rw [if_pos (by rfl)]
                try go_simp
                go_at_call 94
                refine (HFR.out _ (Below.refl _ _).drew).mono ?_
                rintro e w3 ⟨rfl, hb3⟩
                have HB3 := Lib.hid (show Below w2.heap.size w2 w3 from Below.trans (Below.refl _ _).drew hb3)
                have HSv : (fun Y : World => Y.cell? ⟨B.nb, 2, none⟩ = some X'.own ∧ Y.cell? ⟨ox, 0, none⟩ = some (.int .i64 t)) w3 := HS6.out _ HB3.out
                clear hb3
                refine hK _ _ (fun _ => HSv) ?_
                try simp only [Act.put, List.setIfInBounds_toArray, List.set_cons_zero, List.set_cons_succ]
                refine wpAnyH_at 8 (v := ?vv216) rfl (by kernel_rfl) (by kernel_rfl) (by kernel_rfl) (fun _ _ _ h => h) ?hy216 HSv ?hh216
                case hy216 =>
                  refine Or.inl ⟨by rfl, ?_⟩
                  intro W hW
                  obtain ⟨h0, h1⟩ := hW
                  go_simp
                  try with_reducible rfl
                simp only [Act.put, List.setIfInBounds_toArray, List.set_cons_zero, List.set_cons_succ]
                refine wpAnyH_at 9 (v := ?vv217) rfl (by kernel_rfl) (by kernel_rfl) (by kernel_rfl) (fun _ _ _ h => h) ?hy217 HSv ?hh217
                case hy217 =>
                  refine Or.inl ⟨by rfl, ?_⟩
                  intro W hW
                  obtain ⟨h0, h1⟩ := hW
                  go_simp
                  try with_reducible rfl
                simp only [Act.put, List.setIfInBounds_toArray, List.set_cons_zero, List.set_cons_succ]
                refine wpAnyH_at 10 (v := ?vv218) rfl (by kernel_rfl) (by kernel_rfl) (by kernel_rfl) (fun _ _ _ h => h) ?hy218 HSv ?hh218
                case hy218 =>
                  refine Or.inl ⟨by rfl, ?_⟩
                  intro W hW
                  obtain ⟨h0, h1⟩ := hW
                  go_simp
                  try with_reducible rfl
                simp only [Act.put, List.setIfInBounds_toArray, List.set_cons_zero, List.set_cons_succ]
                refine wpAnyH_1 11 rfl (by kernel_rfl) ?_
                intro K hK
                rw [if_pos (by rfl)]
                try go_simp
                have HB4 := Lib.hid (HB3.out.alloc HB3.out.size (.cells #[.int .i64 0, .int .i64 0, .int .i64 0, .int .i64 0, .string ⟨#[]⟩] 73 (0, 0)))
                have z4 := at1 w3 (.cells #[.int .i64 0, .int .i64 0, .int .i64 0, .int .i64 0, .string ⟨#[]⟩] 73 (0, 0))
                have hrx := HB3.out.size
                generalize w3.alloc (.cells #[.int .i64 0, .int .i64 0, .int .i64 0, .int .i64 0, .string ⟨#[]⟩] 73 (0, 0)) = w4 at HB4 z4 ⊢
                generalize w3.heap.size = rx at z4 hrx ⊢
                have HSv : (fun Y : World => Y.cell? ⟨B.nb, 2, none⟩ = some X'.own ∧ Y.cell? ⟨ox, 0, none⟩ = some (.int .i64 t)) w4 := HS6.out _ HB4.out
                have zf := fun o => fzOf z4 o
                have y0 := cellOf z4 0 (.int .i64 0) rfl
                have y1 := cellOf z4 1 (.int .i64 0) rfl
                have y2 := cellOf z4 2 (.int .i64 0) rfl
                have y3 := cellOf z4 3 (.int .i64 0) rfl
                have y4 := cellOf z4 4 (.string ⟨#[]⟩) rfl
                refine hK _ _ (fun _ => HSv) ?_
                try simp only [Act.put, List.setIfInBounds_toArray, List.set_cons_zero, List.set_cons_succ]
                clear HSv
                refine wpAnyH_1 12 rfl (by kernel_rfl) ?_
                intro K hK
                rw [if_pos (by rfl)]
                try go_simp
                have hr5 := set5 z4 (.int .i64 (ruleOf C.own t).t) (.int .i64 (ruleOf C.own t).len) (.int .i64 (ruleOf C.own t).min) (.int .i64 (ruleOf C.own t).max) (.string (ruleOf C.own t).s)
                have hb5 := below5 HB4.out hrx (.int .i64 (ruleOf C.own t).t) (.int .i64 (ruleOf C.own t).len) (.int .i64 (ruleOf C.own t).min) (.int .i64 (ruleOf C.own t).max) (.string (ruleOf C.own t).s)
                generalize ((((w4.setCell ⟨rx, 0, none⟩ (.int .i64 (ruleOf C.own t).t)).setCell ⟨rx, 1, none⟩ (.int .i64 (ruleOf C.own t).len)).setCell ⟨rx, 2, none⟩ (.int .i64 (ruleOf C.own t).min)).setCell ⟨rx, 3, none⟩ (.int .i64 (ruleOf C.own t).max)).setCell ⟨rx, 4, none⟩ (.string (ruleOf C.own t).s) = w5 at hr5 hb5 ⊢
                have HB5 := Lib.hid hb5
                have u1 := cellOf ((hb5.block _ hox2).trans HOX.out) 1 (.string v) rfl
                have r0 := cellOf hr5 0 (.int .i64 (ruleOf C.own t).t) rfl
                have r1 := cellOf hr5 1 (.int .i64 (ruleOf C.own t).len) rfl
                have r2 := cellOf hr5 2 (.int .i64 (ruleOf C.own t).min) rfl
                have r3 := cellOf hr5 3 (.int .i64 (ruleOf C.own t).max) rfl
                have r4 := cellOf hr5 4 (.string (ruleOf C.own t).s) rfl
                clear hr5 hb5 z4 y0 y1 y2 y3 y4 zf
                have HSv : (fun Y : World => Y.cell? ⟨B.nb, 2, none⟩ = some X'.own ∧ Y.cell? ⟨ox, 0, none⟩ = some (.int .i64 t)) w5 := HS6.out _ HB5.out
                refine hK _ _ (fun _ => HSv) ?_
                try simp only [Act.put, List.setIfInBounds_toArray, List.set_cons_zero, List.set_cons_succ]
                clear HSv
                refine wpAnyH_end 13 (fun j hj => rgH_end _ _ j (by omega)) (by rfl) (by kernel_rfl) ?_
                simp only [List.drop_succ_cons, List.drop_zero]
                go_wp2_with fail
                refine (HFT.out _).mono ?_
                rintro e w6 ⟨rfl, hb6⟩
                have HB6 := Lib.hid (HB5.out.trans (hb6.mono HB5.out.size))
                clear hb6 u1 r0 r1 r2 r3 r4
                go_wp2_with fail
                have HN9 := Lib.hid ((HN2.out.below HB6.out).below (show Below w6.heap.size w6 w6.drew from (Below.refl _ _).drew))
                have HSv : (fun Y : World => Y.cell? ⟨B.nb, 4, none⟩ = some X'.must ∧ Y.cell? ⟨ox, 0, none⟩ = some (.int .i64 t)) w6.drew := ⟨HN9.out.cell 4, cellOf ((HB6.out.drew.block _ hox2).trans HOX.out) 0 _ rfl⟩
                refine wp_region_H (rgH 0 9) (fun Y : World => Y.cell? ⟨B.nb, 4, none⟩ = some X'.must ∧ Y.cell? ⟨ox, 0, none⟩ = some (.int .i64 t)) (by kernel_rfl) ?_
                refine wpAnyH_at 0 (v := ?vv219) rfl (by kernel_rfl) (by kernel_rfl) (by kernel_rfl) (fun _ _ _ h => h) ?hy219 HSv ?hh219
                case hy219 =>
                  refine Or.inl ⟨by rfl, ?_⟩
                  intro W hW
                  obtain ⟨h0, h1⟩ := hW
                  go_simp
                  try with_reducible rfl
                simp only [Act.put, List.setIfInBounds_toArray, List.set_cons_zero, List.set_cons_succ]
                refine wpAnyH_at 1 (v := ?vv220) rfl (by kernel_rfl) (by kernel_rfl) (by kernel_rfl) (fun _ _ _ h => h) ?hy220 HSv ?hh220
                case hy220 =>
                  refine Or.inl ⟨by rfl, ?_⟩
                  intro W hW
                  obtain ⟨h0, h1⟩ := hW
                  go_simp
                  try with_reducible rfl
                simp only [Act.put, List.setIfInBounds_toArray, List.set_cons_zero, List.set_cons_succ]
                refine wpAnyH_at 2 (v := ?vv221) rfl (by kernel_rfl) (by kernel_rfl) (by kernel_rfl) (fun _ _ _ h => h) ?hy221 HSv ?hh221
                case hy221 =>
                  refine Or.inl ⟨by rfl, ?_⟩
                  intro W hW
                  obtain ⟨h0, h1⟩ := hW
                  go_simp
                  try with_reducible rfl
                simp only [Act.put, List.setIfInBounds_toArray, List.set_cons_zero, List.set_cons_succ]
                refine wpAnyH_at 3 (v := ?vv222) rfl (by kernel_rfl) (by kernel_rfl) (by kernel_rfl) (fun _ _ _ h => h) ?hy222 HSv ?hh222
                case hy222 =>
                  refine Or.inl ⟨by rfl, ?_⟩
                  intro W hW
                  obtain ⟨h0, h1⟩ := hW
                  go_simp
                  try with_reducible rfl
                simp only [Act.put, List.setIfInBounds_toArray, List.set_cons_zero, List.set_cons_succ]
                refine wpAnyH_at 4 (v := ?vv223) rfl (by kernel_rfl) (by kernel_rfl) (by kernel_rfl) (fun _ _ _ h => h) ?hy223 HSv ?hh223
                case hy223 =>
                  refine Or.inl ⟨by rfl, ?_⟩
                  intro W hW
                  obtain ⟨h0, h1⟩ := hW
                  go_simp
                  try with_reducible rfl
                simp only [Act.put, List.setIfInBounds_toArray, List.set_cons_zero, List.set_cons_succ]
                refine wpAnyH_at 5 (v := ?vv224) rfl (by kernel_rfl) (by kernel_rfl) (by kernel_rfl) (fun _ _ _ h => h) ?hy224 HSv ?hh224
                case hy224 =>
                  refine Or.inl ⟨by rfl, ?_⟩
                  intro W hW
                  obtain ⟨h0, h1⟩ := hW
                  go_simp
                  try with_reducible rfl
                simp only [Act.put, List.setIfInBounds_toArray, List.set_cons_zero, List.set_cons_succ]
                refine wpAnyH_at 6 (v := ?vv225) rfl (by kernel_rfl) (by kernel_rfl) (by kernel_rfl) (fun _ _ _ h => h) ?hy225 HSv ?hh225
                case hy225 =>
                  refine Or.inl ⟨by rfl, ?_⟩
                  intro W hW
                  obtain ⟨h0, h1⟩ := hW
                  go_simp
                  try with_reducible rfl
                simp only [Act.put, List.setIfInBounds_toArray, List.set_cons_zero, List.set_cons_succ]
                refine wpAnyH_1 7 rfl (by kernel_rfl) ?_
                intro K hK
                rw [if_pos (by rfl)]
                try go_simp
                go_at_call 108
                refine (HMU.out _ HN9.out.must).mono ?_
                rintro e _ ⟨rfl, rfl⟩
                refine hK _ _ (fun _ => HSv) ?_
                try simp only [Act.put, List.setIfInBounds_toArray, List.set_cons_zero, List.set_cons_succ]
                refine wpAnyH_at 8 (v := ?vv226) rfl (by kernel_rfl) (by kernel_rfl) (by kernel_rfl) (fun _ _ _ h => h) ?hy226 HSv ?hh226
                case hy226 =>
                  refine Or.inl ⟨by rfl, ?_⟩
                  intro W hW
                  obtain ⟨h0, h1⟩ := hW
                  go_simp
                  try with_reducible rfl
                simp only [Act.put, List.setIfInBounds_toArray, List.set_cons_zero, List.set_cons_succ]
                refine wpAnyH_end 9 (fun j hj => rgH_end _ _ j (by omega)) (by rfl) (by kernel_rfl) ?_
                simp only [List.drop_succ_cons, List.drop_zero]
                clear HSv
                have HKP9 := Lib.hid (HKP.out.trans (Keep.of_below B.t (HBA.out.trans (HB2.out.trans (HB6.out.drew.mono HB2.out.size) |>.mono HBA.out.size))))
                go_wp2_with fail
                go_roundg (len - (k + 1))
                case measure => omega
                case rel => exact ⟨k + 1, by omega, rfl, by go_num, _, by rw [HSU.out, HEQ.out]; exact HN9.out, HKP9.out, by rw [HLN.out]; exact HPX.out _ (HKP9.out)⟩
              · intro K hK
                rw [if_pos (by rfl)]
                try go_simp
                have HB3 := Lib.hid (((Below.refl w2.heap.size w2).alloc (Nat.le_refl _) (.cells #[.int .i64 0, .int .i64 0, .int .i64 0, .int .i64 0, .string ⟨#[]⟩] 73 (0, 0))).drew)
                have z3 : (w2.alloc (.cells #[.int .i64 0, .int .i64 0, .int .i64 0, .int .i64 0, .string ⟨#[]⟩] 73 (0, 0))).drew.heap[w2.heap.size]? = _ := at1 w2 (.cells #[.int .i64 0, .int .i64 0, .int .i64 0, .int .i64 0, .string ⟨#[]⟩] 73 (0, 0))
                have hrx : w2.heap.size ≤ w2.heap.size := Nat.le_refl _
                generalize (w2.alloc (.cells #[.int .i64 0, .int .i64 0, .int .i64 0, .int .i64 0, .string ⟨#[]⟩] 73 (0, 0))).drew = w3 at HB3 z3 ⊢
                try simp only [show w2.drew.heap.size = w2.heap.size from rfl]
                have HSv : (fun Y : World => Y.cell? ⟨B.nb, 2, none⟩ = some X'.own ∧ Y.cell? ⟨ox, 0, none⟩ = some (.int .i64 t)) w3 := HS6.out _ HB3.out
                refine hK _ _ (fun _ => HSv) ?_
                try simp only [Act.put, List.setIfInBounds_toArray, List.set_cons_zero, List.set_cons_succ]
                refine wpAnyH_1 7 rfl (by kernel_rfl) ?_
                intro K hK
                rw [if_pos (by rfl)]
                try go_simp
                go_at_call 94
                refine (HFR.out _ HB3.out).mono ?_
                rintro e w4 ⟨rfl, hb4⟩
                have HB4 := Lib.hid (show Below w2.heap.size w2 w4 from HB3.out.trans (hb4.mono HB3.out.size))
                have z4 := (hb4.block _ (lt_of_heap' z3)).trans z3
                have HSv : (fun Y : World => Y.cell? ⟨B.nb, 2, none⟩ = some X'.own ∧ Y.cell? ⟨ox, 0, none⟩ = some (.int .i64 t)) w4 := HS6.out _ HB4.out
                have zf := fun o => fzOf z4 o
                have y0 := cellOf z4 0 (.int .i64 0) rfl
                have y1 := cellOf z4 1 (.int .i64 0) rfl
                have y2 := cellOf z4 2 (.int .i64 0) rfl
                have y3 := cellOf z4 3 (.int .i64 0) rfl
                have y4 := cellOf z4 4 (.string ⟨#[]⟩) rfl
                clear hb4 z3
                refine hK _ _ (fun _ => HSv) ?_
                try simp only [Act.put, List.setIfInBounds_toArray, List.set_cons_zero, List.set_cons_succ]
                refine wpAnyH_at 8 (v := ?vv227) rfl (by kernel_rfl) (by kernel_rfl) (by kernel_rfl) (fun _ _ _ h => h) ?hy227 HSv ?hh227
                case hy227 =>
                  refine Or.inl ⟨by rfl, ?_⟩
                  intro W hW
                  obtain ⟨h0, h1⟩ := hW
                  go_simp
                  try with_reducible rfl
                simp only [Act.put, List.setIfInBounds_toArray, List.set_cons_zero, List.set_cons_succ]
                refine wpAnyH_at 9 (v := ?vv228) rfl (by kernel_rfl) (by kernel_rfl) (by kernel_rfl) (fun _ _ _ h => h) ?hy228 HSv ?hh228
                case hy228 =>
                  refine Or.inl ⟨by rfl, ?_⟩
                  intro W hW
                  obtain ⟨h0, h1⟩ := hW
                  go_simp
                  try with_reducible rfl
                simp only [Act.put, List.setIfInBounds_toArray, List.set_cons_zero, List.set_cons_succ]
                refine wpAnyH_at 10 (v := ?vv229) rfl (by kernel_rfl) (by kernel_rfl) (by kernel_rfl) (fun _ _ _ h => h) ?hy229 HSv ?hh229
                case hy229 =>
                  refine Or.inl ⟨by rfl, ?_⟩
                  intro W hW
                  obtain ⟨h0, h1⟩ := hW
                  go_simp
                  try with_reducible rfl
                simp only [Act.put, List.setIfInBounds_toArray, List.set_cons_zero, List.set_cons_succ]
                clear HSv
                refine wpAnyH_1 12 rfl (by kernel_rfl) ?_
                intro K hK
                rw [if_pos (by rfl)]
                try go_simp
                have hr5 := set5 z4 (.int .i64 (ruleOf C.own t).t) (.int .i64 (ruleOf C.own t).len) (.int .i64 (ruleOf C.own t).min) (.int .i64 (ruleOf C.own t).max) (.string (ruleOf C.own t).s)
                have hb5 := below5 HB4.out hrx (.int .i64 (ruleOf C.own t).t) (.int .i64 (ruleOf C.own t).len) (.int .i64 (ruleOf C.own t).min) (.int .i64 (ruleOf C.own t).max) (.string (ruleOf C.own t).s)
                generalize ((((w4.setCell ⟨w2.heap.size, 0, none⟩ (.int .i64 (ruleOf C.own t).t)).setCell ⟨w2.heap.size, 1, none⟩ (.int .i64 (ruleOf C.own t).len)).setCell ⟨w2.heap.size, 2, none⟩ (.int .i64 (ruleOf C.own t).min)).setCell ⟨w2.heap.size, 3, none⟩ (.int .i64 (ruleOf C.own t).max)).setCell ⟨w2.heap.size, 4, none⟩ (.string (ruleOf C.own t).s) = w5 at hr5 hb5 ⊢
                have HB5 := Lib.hid hb5
                have u1 := cellOf ((hb5.block _ hox2).trans HOX.out) 1 (.string v) rfl
                have r0 := cellOf hr5 0 (.int .i64 (ruleOf C.own t).t) rfl
                have r1 := cellOf hr5 1 (.int .i64 (ruleOf C.own t).len) rfl
                have r2 := cellOf hr5 2 (.int .i64 (ruleOf C.own t).min) rfl
                have r3 := cellOf hr5 3 (.int .i64 (ruleOf C.own t).max) rfl
                have r4 := cellOf hr5 4 (.string (ruleOf C.own t).s) rfl
                clear hr5 hb5 z4 y0 y1 y2 y3 y4 zf
                have HSv : (fun Y : World => Y.cell? ⟨B.nb, 2, none⟩ = some X'.own ∧ Y.cell? ⟨ox, 0, none⟩ = some (.int .i64 t)) w5 := HS6.out _ HB5.out
                refine hK _ _ (fun _ => HSv) ?_
                try simp only [Act.put, List.setIfInBounds_toArray, List.set_cons_zero, List.set_cons_succ]
                clear HSv
                refine wpAnyH_end 13 (fun j hj => rgH_end _ _ j (by omega)) (by rfl) (by kernel_rfl) ?_
                simp only [List.drop_succ_cons, List.drop_zero]
                go_wp2_with fail
                refine (HFT.out _).mono ?_
                rintro e w6 ⟨rfl, hb6⟩
                have HB6 := Lib.hid (HB5.out.trans (hb6.mono HB5.out.size))
                clear hb6 u1 r0 r1 r2 r3 r4
                go_wp2_with fail
                have HN9 := Lib.hid ((HN2.out.below HB6.out).below (show Below w6.heap.size w6 w6.drew from (Below.refl _ _).drew))
                have HSv : (fun Y : World => Y.cell? ⟨B.nb, 4, none⟩ = some X'.must ∧ Y.cell? ⟨ox, 0, none⟩ = some (.int .i64 t)) w6.drew := ⟨HN9.out.cell 4, cellOf ((HB6.out.drew.block _ hox2).trans HOX.out) 0 _ rfl⟩
                refine wp_region_H (rgH 0 9) (fun Y : World => Y.cell? ⟨B.nb, 4, none⟩ = some X'.must ∧ Y.cell? ⟨ox, 0, none⟩ = some (.int .i64 t)) (by kernel_rfl) ?_
                refine wpAnyH_at 0 (v := ?vv230) rfl (by kernel_rfl) (by kernel_rfl) (by kernel_rfl) (fun _ _ _ h => h) ?hy230 HSv ?hh230
                case hy230 =>
                  refine Or.inl ⟨by rfl, ?_⟩
                  intro W hW
                  obtain ⟨h0, h1⟩ := hW
                  go_simp
                  try with_reducible rfl
                simp only [Act.put, List.setIfInBounds_toArray, List.set_cons_zero, List.set_cons_succ]
                refine wpAnyH_at 1 (v := ?vv231) rfl (by kernel_rfl) (by kernel_rfl) (by kernel_rfl) (fun _ _ _ h => h) ?hy231 HSv ?hh231
                case hy231 =>
                  refine Or.inl ⟨by rfl, ?_⟩
                  intro W hW
                  obtain ⟨h0, h1⟩ := hW
                  go_simp
                  try with_reducible rfl
                simp only [Act.put, List.setIfInBounds_toArray, List.set_cons_zero, List.set_cons_succ]
                refine wpAnyH_at 2 (v := ?vv232) rfl (by kernel_rfl) (by kernel_rfl) (by kernel_rfl) (fun _ _ _ h => h) ?hy232 HSv ?hh232
                case hy232 =>
                  refine Or.inl ⟨by rfl, ?_⟩
                  intro W hW
                  obtain ⟨h0, h1⟩ := hW
                  go_simp
                  try with_reducible rfl
                simp only [Act.put, List.setIfInBounds_toArray, List.set_cons_zero, List.set_cons_succ]
                refine wpAnyH_at 3 (v := ?vv233) rfl (by kernel_rfl) (by kernel_rfl) (by kernel_rfl) (fun _ _ _ h => h) ?hy233 HSv ?hh233
                case hy233 =>
                  refine Or.inl ⟨by rfl, ?_⟩
                  intro W hW
                  obtain ⟨h0, h1⟩ := hW
                  go_simp
                  try with_reducible rfl
                simp only [Act.put, List.setIfInBounds_toArray, List.set_cons_zero, List.set_cons_succ]
                refine wpAnyH_at 4 (v := ?vv234) rfl (by kernel_rfl) (by kernel_rfl) (by kernel_rfl) (fun _ _ _ h => h) ?hy234 HSv ?hh234
                case hy234 =>
                  refine Or.inl ⟨by rfl, ?_⟩
                  intro W hW
                  obtain ⟨h0, h1⟩ := hW
                  go_simp
                  try with_reducible rfl
                simp only [Act.put, List.setIfInBounds_toArray, List.set_cons_zero, List.set_cons_succ]
                refine wpAnyH_at 5 (v := ?vv235) rfl (by kernel_rfl) (by kernel_rfl) (by kernel_rfl) (fun _ _ _ h => h) ?hy235 HSv ?hh235
                case hy235 =>
                  refine Or.inl ⟨by rfl, ?_⟩
                  intro W hW
                  obtain ⟨h0, h1⟩ := hW
                  go_simp
                  try with_reducible rfl
                simp only [Act.put, List.setIfInBounds_toArray, List.set_cons_zero, List.set_cons_succ]
                refine wpAnyH_at 6 (v := ?vv236) rfl (by kernel_rfl) (by kernel_rfl) (by kernel_rfl) (fun _ _ _ h => h) ?hy236 HSv ?hh236
                case hy236 =>
                  refine Or.inl ⟨by rfl, ?_⟩
                  intro W hW
                  obtain ⟨h0, h1⟩ := hW
                  go_simp
                  try with_reducible rfl
                simp only [Act.put, List.setIfInBounds_toArray, List.set_cons_zero, List.set_cons_succ]
                refine wpAnyH_1 7 rfl (by kernel_rfl) ?_
                intro K hK
                rw [if_pos (by rfl)]
                try go_simp
                go_at_call 108
                refine (HMU.out _ HN9.out.must).mono ?_
                rintro e _ ⟨rfl, rfl⟩
                refine hK _ _ (fun _ => HSv) ?_
                try simp only [Act.put, List.setIfInBounds_toArray, List.set_cons_zero, List.set_cons_succ]
                refine wpAnyH_at 8 (v := ?vv237) rfl (by kernel_rfl) (by kernel_rfl) (by kernel_rfl) (fun _ _ _ h => h) ?hy237 HSv ?hh237
                case hy237 =>
                  refine Or.inl ⟨by rfl, ?_⟩
                  intro W hW
                  obtain ⟨h0, h1⟩ := hW
                  go_simp
                  try with_reducible rfl
                simp only [Act.put, List.setIfInBounds_toArray, List.set_cons_zero, List.set_cons_succ]
                refine wpAnyH_end 9 (fun j hj => rgH_end _ _ j (by omega)) (by rfl) (by kernel_rfl) ?_
                simp only [List.drop_succ_cons, List.drop_zero]
                clear HSv
                have HKP9 := Lib.hid (HKP.out.trans (Keep.of_below B.t (HBA.out.trans (HB2.out.trans (HB6.out.drew.mono HB2.out.size) |>.mono HBA.out.size))))
                go_wp2_with fail
                go_roundg (len - (k + 1))
                case measure => omega
                case rel => exact ⟨k + 1, by omega, rfl, by go_num, _, by rw [HSU.out, HEQ.out]; exact HN9.out, HKP9.out, by rw [HLN.out]; exact HPX.out _ (HKP9.out)⟩
    · obtain rfl : len = k := by omega
      have hq : (p.o.take len) = p.o := by rw [HLN.out, List.take_length]
      rw [hq] at HN
      have HE := Lib.hid (Event_at (ok := ok) rej p _ 9 (by decide) HN.out (HO.out wr HKP.out) HOK.out.1 HOK.out.2.1 (fun pa => sayAll_next rej B C _ _ _ _ 9 HN.out.ss (by decide)))
      unfold pkV at HE
      rw [← HLN.out] at HE
      have t1 := cellOf HPX2.out 0 (.int .i64 p.code) rfl
      have t2 := cellOf HPX2.out 1 (.int .i64 p.id) rfl
      have t3 := cellOf HPX2.out 2 (.slice a1 len k1) rfl
      have t4 := cellOf HPX2.out 3 (.string p.d) rfl
      clear hq
      go_wp2_with fail
      refine HE.out.mono ?_
      rintro e w6 ⟨v6, rfl, h6⟩
      go_wp2_with fail
      go_ret
      exact EvPost.fin ⟨_, rfl, h6⟩ ((Keep.of_below B.t HOK.out.2.2.1).trans HKP.out) (Nat.le_trans HOK.out.2.2.1.size HKP.out.size)
end
end Go.Proofs.YthhdackaopaojaaGreat
