import Derived.Test.YtignponfoheaeaaGreatJ3
/- The reference's Judge. -/
namespace Go.Proofs.YtignponfoheaeaaGreat
open Go.RowKit Go.Tg Go.Maps

structure JInv (w wr : World) (rej nak : Value) (rl nl : List Opt) : Prop where
  r : BRow 91 2 wr rej rl.length (oV rl)
  n : BRow 91 2 wr nak nl.length (oV nl)
  rf : ∀ g, rej.ownBlock = some g → w.heap.size ≤ g
  nf : ∀ g, nak.ownBlock = some g → w.heap.size ≤ g
  ne : ∀ g, rej.ownBlock = some g → nak.ownBlock = some g → False
  b : Below w.heap.size w wr
theorem JInv.below {w wr w' : World} {rej nak : Value} {rl nl : List Opt} (h : JInv w wr rej nak rl nl) (hb : Below wr.heap.size wr w') : JInv w w' rej nak rl nl :=
  { h with r := h.r.below hb, n := h.n.below hb, b := h.b.trans (hb.mono h.b.size) }
theorem JInv.rej {w wr w1 w6 : World} {rej nak v' : Value} {rl nl : List Opt} {o : Opt} (h : JInv w wr rej nak rl nl) (hb : Below wr.heap.size wr w1) (h6 : BRow 91 2 w6 v' (rl.length + 1) (oV rl ++ o.cells)) (k6 : Keep (fun g => rej.ownBlock = some g) w1 w6)
    (o6 : v'.ownBlock = rej.ownBlock ∨ v'.ownBlock = some w1.heap.size) : JInv w w6 v' nak (rl ++ [o]) nl where
  r := by
    have e : oV (rl ++ [o]) = oV rl ++ o.cells := by rw [oV_app]; simp [oV, optL]
    rw [e, List.length_append]; exact h6
  n := (h.n.below hb).keep k6 fun g h1 h2 => h.ne g h2 h1
  rf := fun g hg => by
    rcases o6 with h1 | h1
    · rw [h1] at hg; exact h.rf g hg
    · rw [h1] at hg; cases hg; exact Nat.le_trans h.b.size hb.size
  nf := h.nf
  ne := fun g hg hn => by
    rcases o6 with h1 | h1
    · rw [h1] at hg; exact h.ne g hg hn
    · rw [h1] at hg; cases hg; have := (h.n.blk hn).1; have := hb.size; omega
  b := (h.b.trans (hb.mono h.b.size)).trans (k6.below (Nat.le_trans h.b.size hb.size) fun g hg he => by have := h.rf g he; omega)
theorem JInv.nak {w wr w1 w6 : World} {rej nak v' : Value} {rl nl : List Opt} {o : Opt} (h : JInv w wr rej nak rl nl) (hb : Below wr.heap.size wr w1) (h6 : BRow 91 2 w6 v' (nl.length + 1) (oV nl ++ o.cells)) (k6 : Keep (fun g => nak.ownBlock = some g) w1 w6)
    (o6 : v'.ownBlock = nak.ownBlock ∨ v'.ownBlock = some w1.heap.size) : JInv w w6 rej v' rl (nl ++ [o]) where
  r := (h.r.below hb).keep k6 fun g h1 h2 => h.ne g h1 h2
  n := by
    have e : oV (nl ++ [o]) = oV nl ++ o.cells := by rw [oV_app]; simp [oV, optL]
    rw [e, List.length_append]; exact h6
  rf := h.rf
  nf := fun g hg => by
    rcases o6 with h1 | h1
    · rw [h1] at hg; exact h.nf g hg
    · rw [h1] at hg; cases hg; exact Nat.le_trans h.b.size hb.size
  ne := fun g hg hn => by
    rcases o6 with h1 | h1
    · rw [h1] at hn; exact h.ne g hg hn
    · rw [h1] at hn; cases hn; have := (h.r.blk hg).1; have := hb.size; omega
  b := (h.b.trans (hb.mono h.b.size)).trans (k6.below (Nat.le_trans h.b.size hb.size) fun g hg he => by have := h.nf g he; omega)

theorem JInv.nil (w : World) : JInv w w (.slice none 0 0) (.slice none 0 0) [] [] where
  r := BRow.nil _ _ _
  n := BRow.nil _ _ _
  rf := fun g h => by cases h
  nf := fun g h => by cases h
  ne := fun g h => by cases h
  b := Below.refl _ _

/-- What the loop has come to. -/
def J9At (rs : List Rl) (l : List Opt) (w wr : World) (rej nak : Value) (k : Nat) : Prop :=
  ∃ rl nl, JInv w wr rej nak rl nl ∧ rl = rejP (fun k => (findR rs k).isSome) [] (l.take k) ∧ (rl = [] → nl = nakP (fun o => fitsR (ruleOf rs o.t) o.v) (fun k => (ruleOf rs k).s) (l.take k)) ∧ rl.length ≤ k ∧ nl.length ≤ k

set_option maxHeartbeats 8000000 in
set_option maxRecDepth 100000 in
theorem judge9_any (rs : List Rl) (rv : Value) (okr : Nat → Prop) (l : List Opt) (lv : Value) (ok : Nat → Prop) (w : World) (hr : Rls w okr rv rs) (hrm : rs.length ≤ 1000000) (hl : Opts w ok lv l) (hmax : l.length ≤ 1000) (hnil : ∀ n c, lv = .slice none n c → c = 0)
    (hv : ∀ o ∈ l, o.v.size ≤ 100000) :
    Calls Tryz.prog 26 #[rv, lv] w fun e w' => ∃ v, e = .returned (.tuple #[.int .i64 (judgeS rs l).1, v]) ∧ Laid 91 2 w w' v (judgeS rs l).2.length (oV (judgeS rs l).2) := by
  obtain ⟨sa, c, rfl, hc, hm⟩ := hl.form
  obtain ⟨sr, cr, rfl, hcr, hmr⟩ := hr.form
  have hn0 : sa = none → l.length = 0 ∧ c = 0 := fun h => by subst h; have := hnil _ _ rfl; omega
  have hfl : ∀ ad, sa = some ad → ∀ j u, (oV l)[j]? = some u → w.cell? (ad.add j) = some u := fun ad h => by subst h; exact Rec.flat (by decide) hl
  have HF := Lib.hid (And.intro hn0 (And.intro hfl (And.intro (oV_len l) (oV_one l))))
  have H := Lib.hid (And.intro hr (And.intro hl hv))
  obtain ⟨len, hln⟩ : ∃ len, len = l.length := ⟨_, rfl⟩
  have HLN := Lib.hid hln
  rw [← hln] at hc hmax HF ⊢
  clear hr hl hv hn0 hfl hnil hln
  go_enter Tryz.func26, Tryz.ntmps26
  go_wp2_with fail
  go_loopg [6, 7, 8] len (fun x rej nak i wr => ∃ k : Nat, k ≤ len ∧ x = len - k ∧ i = .int .i64 k ∧ Hid (J9At rs l w wr rej nak k))
  case atStart => exact ⟨0, by omega, by omega, rfl, [], [], JInv.nil w, rfl, fun _ => rfl, Nat.le_refl _, Nat.le_refl _⟩
  case round =>
    obtain ⟨k, hk, rfl, rfl, hK⟩ := hrel
    obtain ⟨rl, nl, hJ, hrl, hnl, hrk, hnk⟩ := hK.out
    have HK := Lib.hid (And.intro hJ (And.intro hrl hnl))
    clear hK hrl hnl
    obtain ⟨s6, q6, rfl, -, -⟩ := hJ.r.form
    obtain ⟨s7, q7, rfl, -, -⟩ := hJ.n.form
    clear hJ
    by_cases hkl : k < len
    · have h1 : k < l.length := by have := HLN.out; omega
      obtain ⟨b, off, rfl, hb, -, -, -, -, c0, c1⟩ := H.out.2.1.at k h1
      have HC0 := Lib.hid (fun W (hW : Below w.heap.size w W) => And.intro ((hW.cell (p := ⟨b, off + k * 2, none⟩) hb).trans c0) ((hW.cell (p := ⟨b, off + k * 2 + 1, none⟩) hb).trans c1))
      have HT := Lib.hid (show l.take (k + 1) = l.take k ++ [l[k]] from List.take_succ_eq_append_getElem h1)
      have HTK := Lib.hid (show (l.take k).length ≤ 1000000 by rw [List.length_take]; omega)
      have hsz := H.out.2.2 _ (List.getElem_mem h1)
      clear c0 c1
      generalize l[k] = o at *
      obtain ⟨t, v⟩ := o
      simp only at HC0 hsz
      obtain ⟨d0, d1⟩ := HC0.out wr HK.out.1.b
      have HRU := Lib.hid (rule9_any rs _ okr t wr (H.out.1.below HK.out.1.b) hrm)
      have hre : ruleOf rs t = ⟨(ruleOf rs t).t, (ruleOf rs t).len, (ruleOf rs t).min, (ruleOf rs t).max, (ruleOf rs t).s⟩ := rfl
      have HRE := Lib.hid (rfl : ruleOf rs t = ruleOf rs t)
      generalize hro : ruleOf rs t = ro at HRU
      generalize hfo : (findR rs t).isSome = yb at HRU
      have HRO := Lib.hid (And.intro hro hfo)
      clear hre HRE hro hfo
      obtain ⟨r1, r2, r3, r4, r5⟩ := ro
      simp only at HRU
      go_wp2_with fail
      refine HRU.out.mono ?_
      rintro e w5 ⟨rfl, hb5⟩
      have HB5 := Lib.hid hb5
      clear hb5
      go_wp2_with fail
      have hb6 := b1 w5 (.cells #[.int .i64 r1, .int .i64 r2, .int .i64 r3, .int .i64 r4, .string r5] 64 (0, 0))
      have hz6 : (w5.alloc (.cells #[.int .i64 r1, .int .i64 r2, .int .i64 r3, .int .i64 r4, .string r5] 64 (0, 0))).heap[w5.heap.size]? = some _ := heap_alloc_new w5 _
      have HJ6 := Lib.hid (And.intro ((HK.out.1.below HB5.out).below hb6) hz6)
      clear hb6 hz6 d0 d1
      generalize w5.alloc (.cells #[.int .i64 r1, .int .i64 r2, .int .i64 r3, .int .i64 r4, .string r5] 64 (0, 0)) = w6 at *
      have hRJ : rejOne (fun k => (findR rs k).isSome) (l.take k) ⟨t, v⟩ = ((l.take k).any (fun x => x.t == t) || !yb) := by
        unfold rejOne
        rw [← HRO.out.2]
      have HFD := Lib.hid (fun W (hW : Below w.heap.size w W) => find9_any (l.take k) _ ok t W (Opts.take (H.out.2.1.below hW) k (by omega)) HTK.out)
      generalize ((l.take k).any (fun x => x.t == t)) = tb at *
      have HRJ' := Lib.hid hRJ
      clear hRJ
      refine wp_region_H (rgH 0 14) (fun Y : World => Y.cell? ⟨b, off + k * 2, none⟩ = some (.int .i64 t)) (by kernel_rfl) ?_
      have HSv : (fun Y : World => Y.cell? ⟨b, off + k * 2, none⟩ = some (.int .i64 t)) w6.drew := (HC0.out w6.drew HJ6.out.1.b.drew).1
      have hkc : k ≤ c := by omega
      refine wpAnyH_at 0 (v := ?vv1) rfl (by kernel_rfl) (by kernel_rfl) (by kernel_rfl) (fun _ _ _ h => h) ?hy1 HSv ?hh1
      case hy1 =>
        refine Or.inl ⟨by rfl, ?_⟩
        intro W hW
        obtain h0 := hW
        go_simp
        try with_reducible rfl
      simp only [Act.put, List.setIfInBounds_toArray, List.set_cons_zero, List.set_cons_succ]
      refine wpAnyH_at 1 (v := ?vv2) rfl (by kernel_rfl) (by kernel_rfl) (by kernel_rfl) (fun _ _ _ h => h) ?hy2 HSv ?hh2
      case hy2 =>
        refine Or.inl ⟨by rfl, ?_⟩
        intro W hW
        obtain h0 := hW
        go_simp
        try with_reducible rfl
      simp only [Act.put, List.setIfInBounds_toArray, List.set_cons_zero, List.set_cons_succ]
      refine wpAnyH_at 2 (v := ?vv3) rfl (by kernel_rfl) (by kernel_rfl) (by kernel_rfl) (fun _ _ _ h => h) ?hy3 HSv ?hh3
      case hy3 =>
        refine Or.inl ⟨by rfl, ?_⟩
        intro W hW
        obtain h0 := hW
        go_simp
        try with_reducible rfl
      simp only [Act.put, List.setIfInBounds_toArray, List.set_cons_zero, List.set_cons_succ]
      refine wpAnyH_at 3 (v := ?vv4) rfl (by kernel_rfl) (by kernel_rfl) (by kernel_rfl) (fun _ _ _ h => h) ?hy4 HSv ?hh4
      case hy4 =>
        refine Or.inl ⟨by rfl, ?_⟩
        intro W hW
        obtain h0 := hW
        go_simp
        try with_reducible rfl
      simp only [Act.put, List.setIfInBounds_toArray, List.set_cons_zero, List.set_cons_succ]
      refine wpAnyH_at 4 (v := ?vv5) rfl (by kernel_rfl) (by kernel_rfl) (by kernel_rfl) (fun _ _ _ h => h) ?hy5 HSv ?hh5
      case hy5 =>
        refine Or.inl ⟨by rfl, ?_⟩
        intro W hW
        obtain h0 := hW
        go_simp
        try with_reducible rfl
      simp only [Act.put, List.setIfInBounds_toArray, List.set_cons_zero, List.set_cons_succ]
      refine wpAnyH_at 5 (v := ?vv6) rfl (by kernel_rfl) (by kernel_rfl) (by kernel_rfl) (fun _ _ _ h => h) ?hy6 HSv ?hh6
      case hy6 =>
        refine Or.inl ⟨by rfl, ?_⟩
        intro W hW
        obtain h0 := hW
        go_simp
        try with_reducible rfl
      simp only [Act.put, List.setIfInBounds_toArray, List.set_cons_zero, List.set_cons_succ]
      refine wpAnyH_at 6 (v := ?vv7) rfl (by kernel_rfl) (by kernel_rfl) (by kernel_rfl) (fun _ _ _ h => h) ?hy7 HSv ?hh7
      case hy7 =>
        refine Or.inl ⟨by rfl, ?_⟩
        intro W hW
        obtain h0 := hW
        go_simp
        try with_reducible rfl
      simp only [Act.put, List.setIfInBounds_toArray, List.set_cons_zero, List.set_cons_succ]
      refine wpAnyH_at 7 (v := ?vv8) rfl (by kernel_rfl) (by kernel_rfl) (by kernel_rfl) (fun _ _ _ h => h) ?hy8 HSv ?hh8
      case hy8 =>
        refine Or.inl ⟨by rfl, ?_⟩
        intro W hW
        obtain h0 := hW
        go_simp
        try with_reducible rfl
      simp only [Act.put, List.setIfInBounds_toArray, List.set_cons_zero, List.set_cons_succ]
      refine wpAnyH_1 8 rfl (by kernel_rfl) ?_
      intro K hK
      rw [if_pos (by rfl)]
      try go_simp
      go_at_call 146
      refine (HFD.out w6.drew HJ6.out.1.b.drew).mono ?_
      rintro e w7 ⟨⟨s0, rfl⟩, hb7'⟩
      have hb7 : Below w6.heap.size w6 w7 := Below.trans (Below.refl _ _).drew hb7'
      have HJ7 := Lib.hid (And.intro (HJ6.out.1.below hb7) ((hb7.block _ (Array.getElem?_eq_some_iff.1 HJ6.out.2).1).trans HJ6.out.2))
      have HSv : w7.cell? ⟨b, off + k * 2, none⟩ = some (.int .i64 t) := (HC0.out w7 HJ7.out.1.b).1
      clear hb7 hb7' HJ6
      refine hK _ _ (fun _ => HSv) ?_
      try simp only [Act.put, List.setIfInBounds_toArray, List.set_cons_zero, List.set_cons_succ]
      refine wpAnyH_at 9 (v := ?vv9) rfl (by kernel_rfl) (by kernel_rfl) (by kernel_rfl) (fun _ _ _ h => h) ?hy9 HSv ?hh9
      case hy9 =>
        refine Or.inl ⟨by rfl, ?_⟩
        intro W hW
        obtain h0 := hW
        go_simp
        try with_reducible rfl
      simp only [Act.put, List.setIfInBounds_toArray, List.set_cons_zero, List.set_cons_succ]
      refine wpAnyH_at 10 (v := ?vv10) rfl (by kernel_rfl) (by kernel_rfl) (by kernel_rfl) (fun _ _ _ h => h) ?hy10 HSv ?hh10
      case hy10 =>
        refine Or.inl ⟨by rfl, ?_⟩
        intro W hW
        obtain h0 := hW
        go_simp
        try with_reducible rfl
      simp only [Act.put, List.setIfInBounds_toArray, List.set_cons_zero, List.set_cons_succ]
      refine wpAnyH_at 11 (v := ?vv11) rfl (by kernel_rfl) (by kernel_rfl) (by kernel_rfl) (fun _ _ _ h => h) ?hy11 HSv ?hh11
      case hy11 =>
        refine Or.inl ⟨by rfl, ?_⟩
        intro W hW
        obtain h0 := hW
        go_simp
        try with_reducible rfl
      simp only [Act.put, List.setIfInBounds_toArray, List.set_cons_zero, List.set_cons_succ]
      refine wpAnyH_at 12 (v := ?vv12) rfl (by kernel_rfl) (by kernel_rfl) (by kernel_rfl) (fun _ _ _ h => h) ?hy12 HSv ?hh12
      case hy12 =>
        refine Or.inl ⟨by rfl, ?_⟩
        intro W hW
        obtain h0 := hW
        go_simp
        try with_reducible rfl
      simp only [Act.put, List.setIfInBounds_toArray, List.set_cons_zero, List.set_cons_succ]
      refine wpAnyH_at 13 (v := ?vv13) rfl (by kernel_rfl) (by kernel_rfl) (by kernel_rfl) (fun _ _ _ h => h) ?hy13 HSv ?hh13
      case hy13 =>
        refine Or.inl ⟨by rfl, ?_⟩
        intro W hW
        obtain h0 := hW
        go_simp
        try with_reducible rfl
      simp only [Act.put, List.setIfInBounds_toArray, List.set_cons_zero, List.set_cons_succ]
      refine wpAnyH_end 14 (fun j hj => rgH_end _ _ j (by omega)) (by rfl) (by kernel_rfl) ?_
      simp only [List.drop_succ_cons, List.drop_zero]
      have HE7 := HC0.out w7 HJ7.out.1.b
      obtain ⟨e0, e1⟩ := HE7
      by_cases hyb : yb = false
      · subst hyb
        have HRJ := Lib.hid (show rejOne (fun k => (findR rs k).isSome) (l.take k) ⟨t, v⟩ = true by rw [HRJ'.out]; simp)
        go_wp2_with (at_builtin; refine wpl_append_rec opt_row rfl _ _ rfl _ rl.length (oV rl) rfl (HJ7.out.1.r.below (b1 _ _)) _ _ [.int .i64 t, .string v] rfl (cell_of_at _ _ _ rfl) rfl (fun u hu => by simp only [List.mem_cons, List.not_mem_nil, or_false] at hu; rcases hu with rfl | rfl <;> rfl) (by omega) ?_
                     intro g8 c8 w8 h8 k8 o8
                     have H8 := Lib.hid (HJ7.out.1.rej (o := ⟨t, v⟩) (b1 _ _) h8 k8 (o8.imp (fun h => h.symm) (fun h => by rw [h]; rfl)))
                     clear h8 k8 o8)
        go_roundg (len - (k + 1))
        case measure => omega
        case rel =>
          refine ⟨k + 1, by omega, rfl, by go_num, rl ++ [⟨t, v⟩], nl, ?_, ?_, fun h => absurd h (by simp), by simp; omega, by omega⟩
          · exact H8.out
          · rw [HT.out, rejP_snoc, ← HK.out.2.1, List.nil_append, if_pos HRJ.out]
      obtain rfl : yb = true := by simpa using hyb
      clear hyb
      by_cases htb : tb = true
      · subst htb
        have HRJ := Lib.hid (show rejOne (fun k => (findR rs k).isSome) (l.take k) ⟨t, v⟩ = true by rw [HRJ'.out]; simp)
        go_wp2_with (at_builtin; refine wpl_append_rec opt_row rfl _ _ rfl _ rl.length (oV rl) rfl (HJ7.out.1.r.below (b1 _ _)) _ _ [.int .i64 t, .string v] rfl (cell_of_at _ _ _ rfl) rfl (fun u hu => by simp only [List.mem_cons, List.not_mem_nil, or_false] at hu; rcases hu with rfl | rfl <;> rfl) (by omega) ?_
                     intro g8 c8 w8 h8 k8 o8
                     have H8 := Lib.hid (HJ7.out.1.rej (o := ⟨t, v⟩) (b1 _ _) h8 k8 (o8.imp (fun h => h.symm) (fun h => by rw [h]; rfl)))
                     clear h8 k8 o8)
        go_roundg (len - (k + 1))
        case measure => omega
        case rel =>
          refine ⟨k + 1, by omega, rfl, by go_num, rl ++ [⟨t, v⟩], nl, ?_, ?_, fun h => absurd h (by simp), by simp; omega, by omega⟩
          · exact H8.out
          · rw [HT.out, rejP_snoc, ← HK.out.2.1, List.nil_append, if_pos HRJ.out]
      obtain rfl : tb = false := by simpa using htb
      clear htb
      have HRJ := Lib.hid (show ¬ rejOne (fun k => (findR rs k).isSome) (l.take k) ⟨t, v⟩ = true by rw [HRJ'.out]; simp)
      have HNR := Lib.hid (show rl = rejP (fun k => (findR rs k).isSome) [] (l.take (k + 1)) by rw [HT.out, rejP_snoc, ← HK.out.2.1, List.nil_append, if_neg HRJ.out, List.append_nil])
      have HNK := Lib.hid (nakP_snoc (fun o => fitsR (ruleOf rs o.t) o.v) (fun k => (ruleOf rs k).s) (l.take k) ⟨t, v⟩)
      rw [← HT.out] at HNK
      simp only at HNK
      rw [HRO.out.1] at HNK
      have HFI := Lib.hid (fun W => fits9_any ⟨r1, r2, r3, r4, r5⟩ v W hsz)
      simp only at HFI HNK
      generalize fitsR ⟨r1, r2, r3, r4, r5⟩ v = fb at *
      go_wp2_with fail
      refine wp_region_H (rgH 0 9) (fun Y : World => Y.cell? ⟨w5.heap.size, 0, none⟩ = some (.int .i64 r1) ∧ Y.cell? ⟨w5.heap.size, 1, none⟩ = some (.int .i64 r2) ∧ Y.cell? ⟨w5.heap.size, 2, none⟩ = some (.int .i64 r3) ∧ Y.cell? ⟨w5.heap.size, 3, none⟩ = some (.int .i64 r4) ∧ Y.cell? ⟨w5.heap.size, 4, none⟩ = some (.string r5) ∧ Y.cell? ⟨b, off + k * 2 + 1, none⟩ = some (.string v)) (by kernel_rfl) ?_
      have HSW : Hid (∀ W, Below w7.heap.size w7 W → W.cell? ⟨w5.heap.size, 0, none⟩ = some (.int .i64 r1) ∧ W.cell? ⟨w5.heap.size, 1, none⟩ = some (.int .i64 r2) ∧ W.cell? ⟨w5.heap.size, 2, none⟩ = some (.int .i64 r3) ∧ W.cell? ⟨w5.heap.size, 3, none⟩ = some (.int .i64 r4) ∧ W.cell? ⟨w5.heap.size, 4, none⟩ = some (.string r5) ∧ W.cell? ⟨b, off + k * 2 + 1, none⟩ = some (.string v)) := Lib.hid fun W hW =>
        have hx := (hW.block _ (Array.getElem?_eq_some_iff.1 HJ7.out.2).1).trans HJ7.out.2
        ⟨cellOf hx 0 _ rfl, cellOf hx 1 _ rfl, cellOf hx 2 _ rfl, cellOf hx 3 _ rfl, cellOf hx 4 _ rfl, (HC0.out W (HJ7.out.1.b.trans (hW.mono HJ7.out.1.b.size))).2⟩
      have HSv := HSW.out w7.drew (Below.refl _ _).drew
      refine wpAnyH_at 0 (v := ?vv14) rfl (by kernel_rfl) (by kernel_rfl) (by kernel_rfl) (fun _ _ _ h => h) ?hy14 HSv ?hh14
      case hy14 =>
        refine Or.inl ⟨by rfl, ?_⟩
        intro W hW
        obtain ⟨h0, h1, h2, h3, h4, h5⟩ := hW
        go_simp
        try with_reducible rfl
      simp only [Act.put, List.setIfInBounds_toArray, List.set_cons_zero, List.set_cons_succ]
      refine wpAnyH_at 1 (v := ?vv15) rfl (by kernel_rfl) (by kernel_rfl) (by kernel_rfl) (fun _ _ _ h => h) ?hy15 HSv ?hh15
      case hy15 =>
        refine Or.inl ⟨by rfl, ?_⟩
        intro W hW
        obtain ⟨h0, h1, h2, h3, h4, h5⟩ := hW
        go_simp
        try with_reducible rfl
      simp only [Act.put, List.setIfInBounds_toArray, List.set_cons_zero, List.set_cons_succ]
      refine wpAnyH_at 2 (v := ?vv16) rfl (by kernel_rfl) (by kernel_rfl) (by kernel_rfl) (fun _ _ _ h => h) ?hy16 HSv ?hh16
      case hy16 =>
        refine Or.inl ⟨by rfl, ?_⟩
        intro W hW
        obtain ⟨h0, h1, h2, h3, h4, h5⟩ := hW
        go_simp
        try with_reducible rfl
      simp only [Act.put, List.setIfInBounds_toArray, List.set_cons_zero, List.set_cons_succ]
      refine wpAnyH_at 3 (v := ?vv17) rfl (by kernel_rfl) (by kernel_rfl) (by kernel_rfl) (fun _ _ _ h => h) ?hy17 HSv ?hh17
      case hy17 =>
        refine Or.inl ⟨by rfl, ?_⟩
        intro W hW
        obtain ⟨h0, h1, h2, h3, h4, h5⟩ := hW
        go_simp
        try with_reducible rfl
      simp only [Act.put, List.setIfInBounds_toArray, List.set_cons_zero, List.set_cons_succ]
      refine wpAnyH_at 4 (v := ?vv18) rfl (by kernel_rfl) (by kernel_rfl) (by kernel_rfl) (fun _ _ _ h => h) ?hy18 HSv ?hh18
      case hy18 =>
        refine Or.inl ⟨by rfl, ?_⟩
        intro W hW
        obtain ⟨h0, h1, h2, h3, h4, h5⟩ := hW
        go_simp
        try with_reducible rfl
      simp only [Act.put, List.setIfInBounds_toArray, List.set_cons_zero, List.set_cons_succ]
      refine wpAnyH_at 5 (v := ?vv19) rfl (by kernel_rfl) (by kernel_rfl) (by kernel_rfl) (fun _ _ _ h => h) ?hy19 HSv ?hh19
      case hy19 =>
        refine Or.inl ⟨by rfl, ?_⟩
        intro W hW
        obtain ⟨h0, h1, h2, h3, h4, h5⟩ := hW
        go_simp
        try with_reducible rfl
      simp only [Act.put, List.setIfInBounds_toArray, List.set_cons_zero, List.set_cons_succ]
      refine wpAnyH_1 6 rfl (by kernel_rfl) ?_
      intro K hK
      rw [if_pos (by rfl)]
      try go_simp
      go_at_call 32
      refine (HFI.out w7.drew).mono ?_
      rintro e w8 ⟨rfl, hb8'⟩
      have hb8 : Below w7.heap.size w7 w8 := Below.trans (Below.refl _ _).drew hb8'
      have HSv := HSW.out w8 hb8
      have HJ8 := Lib.hid (And.intro (HJ7.out.1.below hb8) ((hb8.block _ (Array.getElem?_eq_some_iff.1 HJ7.out.2).1).trans HJ7.out.2))
      clear hb8 hb8'
      refine hK _ _ (fun _ => HSv) ?_
      try simp only [Act.put, List.setIfInBounds_toArray, List.set_cons_zero, List.set_cons_succ]
      refine wpAnyH_at 7 (v := ?vv20) rfl (by kernel_rfl) (by kernel_rfl) (by kernel_rfl) (fun _ _ _ h => h) ?hy20 HSv ?hh20
      case hy20 =>
        refine Or.inl ⟨by rfl, ?_⟩
        intro W hW
        obtain ⟨h0, h1, h2, h3, h4, h5⟩ := hW
        go_simp
        try with_reducible rfl
      simp only [Act.put, List.setIfInBounds_toArray, List.set_cons_zero, List.set_cons_succ]
      refine wpAnyH_at 8 (v := ?vv21) rfl (by kernel_rfl) (by kernel_rfl) (by kernel_rfl) (fun _ _ _ h => h) ?hy21 HSv ?hh21
      case hy21 =>
        refine Or.inl ⟨by rfl, ?_⟩
        intro W hW
        obtain ⟨h0, h1, h2, h3, h4, h5⟩ := hW
        go_simp
        try with_reducible rfl
      simp only [Act.put, List.setIfInBounds_toArray, List.set_cons_zero, List.set_cons_succ]
      refine wpAnyH_end 9 (fun j hj => rgH_end _ _ j (by omega)) (by rfl) (by kernel_rfl) ?_
      simp only [List.drop_succ_cons, List.drop_zero]
      cases fb with
      | true =>
        go_wp2_with fail
        go_roundg (len - (k + 1))
        case measure => omega
        case rel =>
          refine ⟨k + 1, by omega, rfl, by go_num, rl, nl, HJ8.out.1, HNR.out, fun h => ?_, by omega, by omega⟩
          rw [HNK.out, ← HK.out.2.2 h]
          simp
      | false =>
        go_wp2_with fail
        refine wp_region_H (rgH 0 12) (fun Y : World => Y.cell? ⟨w5.heap.size, 4, none⟩ = some (.string r5) ∧ Y.cell? ⟨b, off + k * 2, none⟩ = some (.int .i64 t)) (by kernel_rfl) ?_
        have HSX : Hid (∀ W, Below w.heap.size w W → W.heap[w5.heap.size]? = some (.cells #[.int .i64 r1, .int .i64 r2, .int .i64 r3, .int .i64 r4, .string r5] 64 (0, 0)) → W.cell? ⟨w5.heap.size, 4, none⟩ = some (.string r5) ∧ W.cell? ⟨b, off + k * 2, none⟩ = some (.int .i64 t)) := Lib.hid fun W hW hx =>
          ⟨cellOf hx 4 _ rfl, (HC0.out W hW).1⟩
        have HSv := HSX.out w8.drew HJ8.out.1.b.drew HJ8.out.2
        refine wpAnyH_at 0 (v := ?vv22) rfl (by kernel_rfl) (by kernel_rfl) (by kernel_rfl) (fun _ _ _ h => h) ?hy22 HSv ?hh22
        case hy22 =>
          refine Or.inl ⟨by rfl, ?_⟩
          intro W hW
          obtain ⟨h0, h1⟩ := hW
          go_simp
          try with_reducible rfl
        simp only [Act.put, List.setIfInBounds_toArray, List.set_cons_zero, List.set_cons_succ]
        refine wpAnyH_at 1 (v := ?vv23) rfl (by kernel_rfl) (by kernel_rfl) (by kernel_rfl) (fun _ _ _ h => h) ?hy23 HSv ?hh23
        case hy23 =>
          refine Or.inl ⟨by rfl, ?_⟩
          intro W hW
          obtain ⟨h0, h1⟩ := hW
          go_simp
          try with_reducible rfl
        simp only [Act.put, List.setIfInBounds_toArray, List.set_cons_zero, List.set_cons_succ]
        refine wpAnyH_at 2 (v := ?vv24) rfl (by kernel_rfl) (by kernel_rfl) (by kernel_rfl) (fun _ _ _ h => h) ?hy24 HSv ?hh24
        case hy24 =>
          refine Or.inl ⟨by rfl, ?_⟩
          intro W hW
          obtain ⟨h0, h1⟩ := hW
          go_simp
          try with_reducible rfl
        simp only [Act.put, List.setIfInBounds_toArray, List.set_cons_zero, List.set_cons_succ]
        refine wpAnyH_at 3 (v := ?vv25) rfl (by kernel_rfl) (by kernel_rfl) (by kernel_rfl) (fun _ _ _ h => h) ?hy25 HSv ?hh25
        case hy25 =>
          refine Or.inl ⟨by rfl, ?_⟩
          intro W hW
          obtain ⟨h0, h1⟩ := hW
          go_simp
          try with_reducible rfl
        simp only [Act.put, List.setIfInBounds_toArray, List.set_cons_zero, List.set_cons_succ]
        refine wpAnyH_at 4 (v := ?vv26) rfl (by kernel_rfl) (by kernel_rfl) (by kernel_rfl) (fun _ _ _ h => h) ?hy26 HSv ?hh26
        case hy26 =>
          refine Or.inl ⟨by rfl, ?_⟩
          intro W hW
          obtain ⟨h0, h1⟩ := hW
          go_simp
          try with_reducible rfl
        simp only [Act.put, List.setIfInBounds_toArray, List.set_cons_zero, List.set_cons_succ]
        refine wpAnyH_at 5 (v := ?vv27) rfl (by kernel_rfl) (by kernel_rfl) (by kernel_rfl) (fun _ _ _ h => h) ?hy27 HSv ?hh27
        case hy27 =>
          refine Or.inl ⟨by rfl, ?_⟩
          intro W hW
          obtain ⟨h0, h1⟩ := hW
          go_simp
          try with_reducible rfl
        simp only [Act.put, List.setIfInBounds_toArray, List.set_cons_zero, List.set_cons_succ]
        refine wpAnyH_at 6 (v := ?vv28) rfl (by kernel_rfl) (by kernel_rfl) (by kernel_rfl) (fun _ _ _ h => h) ?hy28 HSv ?hh28
        case hy28 =>
          refine Or.inl ⟨by rfl, ?_⟩
          intro W hW
          obtain ⟨h0, h1⟩ := hW
          go_simp
          try with_reducible rfl
        simp only [Act.put, List.setIfInBounds_toArray, List.set_cons_zero, List.set_cons_succ]
        refine wpAnyH_at 7 (v := ?vv29) rfl (by kernel_rfl) (by kernel_rfl) (by kernel_rfl) (fun _ _ _ h => h) ?hy29 HSv ?hh29
        case hy29 =>
          refine Or.inl ⟨by rfl, ?_⟩
          intro W hW
          obtain ⟨h0, h1⟩ := hW
          go_simp
          try with_reducible rfl
        simp only [Act.put, List.setIfInBounds_toArray, List.set_cons_zero, List.set_cons_succ]
        refine wpAnyH_at 8 (v := ?vv30) rfl (by kernel_rfl) (by kernel_rfl) (by kernel_rfl) (fun _ _ _ h => h) ?hy30 HSv ?hh30
        case hy30 =>
          refine Or.inl ⟨by rfl, ?_⟩
          intro W hW
          obtain ⟨h0, h1⟩ := hW
          go_simp
          try with_reducible rfl
        simp only [Act.put, List.setIfInBounds_toArray, List.set_cons_zero, List.set_cons_succ]
        refine wpAnyH_1 9 rfl (by kernel_rfl) ?_
        intro K hK
        rw [if_pos (by rfl)]
        try go_simp
        have hb9 : Below w8.heap.size w8 (w8.drew.alloc (.cells #[.int .i64 t, .string r5] 91 (0, 0))) := Below.trans (Below.refl _ _).drew (b1 w8.drew _)
        have HSv := HSX.out _ (HJ8.out.1.b.trans (hb9.mono HJ8.out.1.b.size)) ((hb9.block _ (Array.getElem?_eq_some_iff.1 HJ8.out.2).1).trans HJ8.out.2)
        refine hK _ _ (fun _ => HSv) ?_
        try simp only [Act.put, List.setIfInBounds_toArray, List.set_cons_zero, List.set_cons_succ]
        refine wpAnyH_1 10 rfl (by kernel_rfl) ?_
        intro K hK
        refine step_append_rec opt_row rfl _ _ rfl _ nl.length (oV nl) rfl (HJ8.out.1.n.below hb9) _ _ [.int .i64 t, .string r5] rfl (cell_of_at _ _ _ rfl) rfl (fun u hu => by simp only [List.mem_cons, List.not_mem_nil, or_false] at hu; rcases hu with rfl | rfl <;> rfl) (by omega) ?_
        intro g9 c9 w9 h9 k9 o9
        have H9 := Lib.hid (HJ8.out.1.nak (o := ⟨t, r5⟩) hb9 h9 k9 (o9.imp (fun h => h.symm) (fun h => by rw [h]; rfl)))
        have hrb : (w8.drew.alloc (.cells #[.int .i64 t, .string r5] 91 (0, 0))).heap[w5.heap.size]? = some _ := (hb9.block _ (Array.getElem?_eq_some_iff.1 HJ8.out.2).1).trans HJ8.out.2
        have HSv := HSX.out w9 H9.out.b ((k9.block _ (Array.getElem?_eq_some_iff.1 hrb).1 (fun he => by
          have h1 := (HJ8.out.1.n.blk he).2
          obtain ⟨cur, h1⟩ := h1
          rw [HJ8.out.2] at h1
          cases h1)).trans hrb)
        clear h9 k9 o9 hrb hb9
        refine hK _ _ (fun _ => HSv) ?_
        try simp only [Act.put, List.setIfInBounds_toArray, List.set_cons_zero, List.set_cons_succ]
        refine wpAnyH_at 11 (v := ?vv31) rfl (by kernel_rfl) (by kernel_rfl) (by kernel_rfl) (fun _ _ _ h => h) ?hy31 HSv ?hh31
        case hy31 =>
          refine Or.inl ⟨by rfl, ?_⟩
          intro W hW
          obtain ⟨h0, h1⟩ := hW
          go_simp
          try with_reducible rfl
        simp only [Act.put, List.setIfInBounds_toArray, List.set_cons_zero, List.set_cons_succ]
        refine wpAnyH_end 12 (fun j hj => rgH_end _ _ j (by omega)) (by rfl) (by kernel_rfl) ?_
        simp only [List.drop_succ_cons, List.drop_zero]
        go_wp2_with fail
        go_roundg (len - (k + 1))
        case measure => omega
        case rel =>
          refine ⟨k + 1, by omega, rfl, by go_num, rl, nl ++ [⟨t, r5⟩], H9.out, HNR.out, fun h => ?_, by omega, by simp; omega⟩
          rw [HNK.out, ← HK.out.2.2 h]
          simp
    · obtain rfl : len = k := by omega
      have hta : l.take len = l := List.take_of_length_le (by have := HLN.out; omega)
      rw [hta] at HK
      by_cases hr0 : rl.length = 0
      · have hrn : rl = [] := List.eq_nil_of_length_eq_zero hr0
        by_cases hn0 : nl.length = 0
        · have HV := Lib.hid (show judgeS rs l = (2, l) by
            unfold judgeS answerS
            rw [← HK.out.2.1, ← HK.out.2.2 hrn, if_neg (by simpa using hr0), if_neg (by simpa using hn0)])
          have HL0 := Lib.hid (And.intro HK.out.1.b HLN.out)
          go_wp2_with (at_builtin; refine wpl_append_fl opt_row rfl _ _ rfl _ 0 [] rfl (BRow.nil _ _ _) sa len c (oV l) rfl HF.out.1 (fun ad ha j u hu => ?hf) HF.out.2.2.1 HF.out.2.2.2 (by omega) ?_
                       case hf =>
                         exact Rec.flat (by decide) (show Opts wr ok (.slice (some ad) l.length c) l by rw [← ha]; exact H.out.2.1.below HL0.out.1) j u hu
                       intro v6 w6 h6 k6 o6
                       rw [Nat.zero_add, List.nil_append] at h6
                       have H6 := Lib.hid (And.intro h6 (And.intro k6 o6))
                       clear h6 k6 o6)
          go_ret2
          rw [HV.out]
          refine ⟨v6, rfl, ?_⟩
          have h6 := H6.out.1
          rw [HLN.out] at h6
          refine ⟨h6, HL0.out.1.trans (H6.out.2.1.below HL0.out.1.size fun g hg he => ?_), fun g hg => ?_⟩
          · have h7 : (Value.slice none 0 0).ownBlock = some g := he
            cases h7
          · rcases H6.out.2.2 with h7 | h7
            · have h8 : v6.ownBlock = none := h7
              rw [h8] at hg; cases hg
            · rw [h7] at hg; cases hg; exact HL0.out.1.size
        · have HV := Lib.hid (show judgeS rs l = (3, nl) by
            unfold judgeS answerS
            rw [← HK.out.2.1, ← HK.out.2.2 hrn, if_neg (by simpa using hr0), if_pos (by simpa using hn0)])
          have hq : (0 : Int) < (nl.length : Int) := by omega
          go_wp2_with fail
          go_ret2
          rw [HV.out]
          exact ⟨_, rfl, HK.out.1.n, HK.out.1.b, HK.out.1.nf⟩
      · have HV := Lib.hid (show judgeS rs l = (4, rl) by
          unfold judgeS answerS
          rw [← HK.out.2.1, if_pos (by simpa using hr0)])
        have hq : (0 : Int) < (rl.length : Int) := by omega
        go_wp2_with fail
        go_ret2
        rw [HV.out]
        exact ⟨_, rfl, HK.out.1.r, HK.out.1.b, HK.out.1.rf⟩
end Go.Proofs.YtignponfoheaeaaGreat
