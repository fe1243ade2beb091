import Derived.Test.YthhdackaopaojaaGreatK21
/- A link is made with no tape given. -/
namespace Go.Proofs.YthhdackaopaojaaGreat
open Go.RowKit Go.Tg Go.Maps

def NewN (w w' : World) (e : Ending) (c : LCfg) : Prop := ∃ tb okt, NewL w w' e c tb okt ⟨[], 0⟩ ∧ (∀ b, okt b → w.heap.size ≤ b) ∧ w.heap.size ≤ tb

set_option maxHeartbeats 16000000 in
set_option maxRecDepth 100000 in
theorem lnew_nil (c : LCfg) (hc : c.Ok) (w : World) :
    Calls Tryz.prog 12 #[cfgV c, .pointer none] w fun e w' => NewN w w' e c := by
  have q1 : ∀ w, (binOp .eql 31 (.pointer none) (.pointer none)).run Tryz.prog w = .ok (.bool true) w := fun w => by kernel_rfl
  have L1 : ∀ w, Calls Tryz.prog 32 #[.int .i64 c.mru, .int .i64 64, .int .i64 1492] w fun e w' => e = .returned (.bool true) ∧ w = w' := fun w => (lin_any c.mru 64 1492 w).mono (fun e w' h => by have := hc.mru; refine ⟨by rw [h.1]; simp [this.1, this.2], h.2⟩)
  have L2 : ∀ w, Calls Tryz.prog 32 #[.int .i64 c.magic, .int .i64 0, .int .i64 4294967295] w fun e w' => e = .returned (.bool true) ∧ w = w' := fun w => (lin_any c.magic 0 4294967295 w).mono (fun e w' h => by have := hc.magic; refine ⟨by rw [h.1]; simp [this.1, this.2], h.2⟩)
  have L3 : ∀ w, Calls Tryz.prog 32 #[.int .i64 c.echo, .int .i64 0, .int .i64 100] w fun e w' => e = .returned (.bool true) ∧ w = w' := fun w => (lin_any c.echo 0 100 w).mono (fun e w' h => by have := hc.echo; refine ⟨by rw [h.1]; simp [this.1, this.2], h.2⟩)
  have HL := Lib.hid (And.intro L1 (And.intro L2 L3))
  have H := Lib.hid hc
  have hia : I64 c.auth := by rcases hc.auth with h | h | h <;> rw [h] <;> (unfold I64; decide)
  have HV := Lib.hid (fun w => lvalue_any c.auth w hia)
  have hva : c.auth ≠ 0 → (lvalS c.auth).toList.isEmpty = false := by
    intro h0
    rcases hc.auth with h | h | h
    · exact absurd h h0
    · rw [h, isE]; decide
    · rw [h, isE]; decide
  have hb0 := (Below.refl w.heap.size w).alloc (Nat.le_refl _) (cfgO c)
  have HB0 := Lib.hid (And.intro hb0 (And.intro (at1 w (cfgO c)) (alloc1 w (cfgO c))))
  have HIA := Lib.hid hia
  have HNN := Lib.hid (fun lb W1 WN sa ca rb ib h1 h2 h3 h4 => lnew_neg c hc lb W1 WN sa ca rb ib h1 h2 h3 h4)
  unfold cfgV
  clear L1 L2 L3 hc hia
  by_cases h0 : c.auth = 0
  · skip
    clear hva
    have hz := HB0.out.2.1
    unfold cfgO at hz
    have ea : (c.auth != 0) = false := by simp [h0]
    clear h0 hz
    go_enter Tryz.func12, Tryz.ntmps12
    go_wp2_with (first
      | (go_at_call 32; first | with_reducible refine (HL.out.1 _).mono ?_ | with_reducible refine (HL.out.2.1 _).mono ?_ | with_reducible refine (HL.out.2.2 _).mono ?_
         rintro e w1 ⟨rfl, rfl⟩)
      | (go_at_call 13; refine (tapeNew_any [] _ (fun _ => False) _ (Rec.nil _ _ _) (fun _ h => by cases h) (by decide)).mono ?_; rintro e wv ⟨tb, rfl, t5, s5, b5⟩
         have HT5 := Lib.hid (And.intro t5 (And.intro t5.lt (Nat.le_trans HB0.out.1.size s5)))
         have HZ := Lib.hid (show Below w.heap.size w wv ∧ wv.heap[w.heap.size]? = some (cfgO c) from ⟨HB0.out.1.trans (b5.mono HB0.out.1.size), (b5.block _ (Array.getElem?_eq_some_iff.1 HB0.out.2.1).1).trans HB0.out.2.1⟩)
         have hz := HZ.out.2
         unfold cfgO at hz
         have x0 := cellOf hz 0 _ rfl
         have x1 := cellOf hz 1 _ rfl
         have x2 := cellOf hz 2 _ rfl
         have x3 := cellOf hz 3 _ rfl
         have x4 := cellOf hz 4 _ rfl
         have x5 := cellOf hz 5 _ rfl
         have x6 := cellOf hz 6 _ rfl
         have x7 := cellOf hz 7 _ rfl
         clear t5 s5 b5 hz))
    clear x0 x1 x2 x3 x4 x5 x6 x7
    have hz1 : (wv.alloc (.cells #[.pointer none, .pointer (some ⟨tb, 0, none⟩), .int .i64 c.echo, .int .i64 c.magic, .int .i64 0, .int .i64 0, .int .i64 0] 64 (0, 0))).heap[w.heap.size]? = some (cfgO c) := (Below.heap_alloc _ _ _ (Array.getElem?_eq_some_iff.1 HZ.out.2).1).trans HZ.out.2
    have hl1 := at1 wv (.cells #[.pointer none, .pointer (some ⟨tb, 0, none⟩), .int .i64 c.echo, .int .i64 c.magic, .int .i64 0, .int .i64 0, .int .i64 0] 64 (0, 0))
    have hw1 : Below w.heap.size w (wv.alloc (.cells #[.pointer none, .pointer (some ⟨tb, 0, none⟩), .int .i64 c.echo, .int .i64 c.magic, .int .i64 0, .int .i64 0, .int .i64 0] 64 (0, 0))) := HZ.out.1.alloc HZ.out.1.size _
    have hs1 := alloc1 wv (.cells #[.pointer none, .pointer (some ⟨tb, 0, none⟩), .int .i64 c.echo, .int .i64 c.magic, .int .i64 0, .int .i64 0, .int .i64 0] 64 (0, 0))
    have hlb : w.heap.size < wv.heap.size := (Array.getElem?_eq_some_iff.1 HZ.out.2).1
    obtain ⟨okt, hokt⟩ : ∃ okt : Nat → Prop, okt = fun b => (w.alloc (cfgO c)).heap.size ≤ b ∧ b < tb := ⟨_, rfl⟩
    have ht1 : TapeAt (wv.alloc (.cells #[.pointer none, .pointer (some ⟨tb, 0, none⟩), .int .i64 c.echo, .int .i64 c.magic, .int .i64 0, .int .i64 0, .int .i64 0] 64 (0, 0))) tb okt ⟨[], 0⟩ := by rw [hokt]; exact HT5.out.1.below ((Below.refl _ _).alloc (Nat.le_refl _) _)
    have htl := HT5.out.2.1
    have HW := Lib.hid (And.intro (show ∀ b, okt b → w.heap.size ≤ b from fun b hb => by rw [hokt] at hb; exact Nat.le_trans HB0.out.1.size hb.1) HT5.out.2.2)
    have HOK := Lib.hid (show ∀ b, okt b → b < tb from fun b hb => by rw [hokt] at hb; exact hb.2)
    obtain ⟨lb, hlbe⟩ : ∃ lb, lb = wv.heap.size := ⟨_, rfl⟩
    generalize hW1 : wv.alloc (.cells #[.pointer none, .pointer (some ⟨tb, 0, none⟩), .int .i64 c.echo, .int .i64 c.magic, .int .i64 0, .int .i64 0, .int .i64 0] 64 (0, 0)) = W1 at hz1 hl1 hw1 hs1 ht1 ⊢
    rw [← hlbe] at hl1 hs1 hlb htl ⊢
    clear hW1 hlbe HZ hokt HT5
    have HZ := Lib.hid (And.intro hz1 (And.intro hl1 (And.intro hw1 (And.intro hs1 hlb))))
    have HS : Hid (∀ W, Below W1.heap.size W1 W → (fun Y : World => Y.cell? ⟨w.heap.size, 0, none⟩ = some (.int .i64 c.mru) ∧ Y.cell? ⟨w.heap.size, 1, none⟩ = some (.int .i64 c.auth) ∧ Y.cell? ⟨w.heap.size, 2, none⟩ = some (.int .i64 c.magic) ∧ Y.cell? ⟨w.heap.size, 3, none⟩ = some (.int .i64 c.echo) ∧ Y.cell? ⟨w.heap.size, 4, none⟩ = some (.int .i64 c.cf) ∧ Y.cell? ⟨w.heap.size, 5, none⟩ = some (.int .i64 c.tm) ∧ Y.cell? ⟨w.heap.size, 6, none⟩ = some (.int .i64 c.fl) ∧ Y.cell? ⟨w.heap.size, 7, none⟩ = some (.int .i64 c.wt)) W) := Lib.hid fun W hW => by
      have h : W.heap[w.heap.size]? = some (.cells #[.int .i64 c.mru, .int .i64 c.auth, .int .i64 c.magic, .int .i64 c.echo, .int .i64 c.cf, .int .i64 c.tm, .int .i64 c.fl, .int .i64 c.wt] 24 (0, 0)) := (hW.block _ (by have := HZ.out.2.2.2.1; have := HZ.out.2.2.2.2; omega)).trans HZ.out.1
      exact ⟨cellOf h 0 _ rfl, cellOf h 1 _ rfl, cellOf h 2 _ rfl, cellOf h 3 _ rfl, cellOf h 4 _ rfl, cellOf h 5 _ rfl, cellOf h 6 _ rfl, cellOf h 7 _ rfl⟩
    have HLO := Lib.hid (fun W => lopts_any c W HIA.out)
    unfold cfgV at HLO
    have a1 : ∀ (W : World) (O : Obj), W.heap.size < (W.alloc O).heap.size := fun W O => by rw [alloc1]; omega
    have HA1 := Lib.hid a1
    have HG := Lib.hid (fun wE B bE nE => lnew_end (c := c) (w := w) (W1 := W1) (wE := wE) (lb := lb) (tb := tb) (okt := okt) (t := ⟨[], 0⟩) (B := B) hw1 hl1 ht1 (fun b hb => by have := HOK.out b hb; omega) (by omega) (by omega) bE nE)
    obtain ⟨y0, y1, y2, y3, y4, y5, y6, y7⟩ := HS.out W1.drew (Below.refl _ _).drew
    clear hz1 hl1 hw1 hs1 hlb a1 ht1 htl
    refine wp_region_H (rgH 0 23) (fun Y : World => Y.cell? ⟨w.heap.size, 0, none⟩ = some (.int .i64 c.mru) ∧ Y.cell? ⟨w.heap.size, 1, none⟩ = some (.int .i64 c.auth) ∧ Y.cell? ⟨w.heap.size, 2, none⟩ = some (.int .i64 c.magic) ∧ Y.cell? ⟨w.heap.size, 3, none⟩ = some (.int .i64 c.echo) ∧ Y.cell? ⟨w.heap.size, 4, none⟩ = some (.int .i64 c.cf) ∧ Y.cell? ⟨w.heap.size, 5, none⟩ = some (.int .i64 c.tm) ∧ Y.cell? ⟨w.heap.size, 6, none⟩ = some (.int .i64 c.fl) ∧ Y.cell? ⟨w.heap.size, 7, none⟩ = some (.int .i64 c.wt)) (by kernel_rfl) ?_
    have HSv : (fun Y : World => Y.cell? ⟨w.heap.size, 0, none⟩ = some (.int .i64 c.mru) ∧ Y.cell? ⟨w.heap.size, 1, none⟩ = some (.int .i64 c.auth) ∧ Y.cell? ⟨w.heap.size, 2, none⟩ = some (.int .i64 c.magic) ∧ Y.cell? ⟨w.heap.size, 3, none⟩ = some (.int .i64 c.echo) ∧ Y.cell? ⟨w.heap.size, 4, none⟩ = some (.int .i64 c.cf) ∧ Y.cell? ⟨w.heap.size, 5, none⟩ = some (.int .i64 c.tm) ∧ Y.cell? ⟨w.heap.size, 6, none⟩ = some (.int .i64 c.fl) ∧ Y.cell? ⟨w.heap.size, 7, none⟩ = some (.int .i64 c.wt)) W1.drew := HS.out _ (Below.refl _ _).drew
    have HB := Lib.hid (show Below W1.heap.size W1 W1.drew from (Below.refl _ _).drew)
    refine wpAnyH_at 0 (v := ?vv320) rfl (by kernel_rfl) (by kernel_rfl) (by kernel_rfl) (fun _ _ _ h => h) ?hy320 HSv ?hh320
    case hy320 =>
      refine Or.inl ⟨by rfl, ?_⟩
      intro W hW
      obtain ⟨h0, h1, h2, h3, h4, h5, h6, h7⟩ := hW
      go_simp
      try with_reducible rfl
    simp only [Act.put, List.setIfInBounds_toArray, List.set_cons_zero, List.set_cons_succ]
    refine wpAnyH_at 6 (v := ?vv321) rfl (by kernel_rfl) (by kernel_rfl) (by kernel_rfl) (fun _ _ _ h => h) ?hy321 HSv ?hh321
    case hy321 =>
      refine Or.inl ⟨by rfl, ?_⟩
      intro W hW
      obtain ⟨h0, h1, h2, h3, h4, h5, h6, h7⟩ := hW
      go_simp
      try with_reducible rfl
    simp only [Act.put, List.setIfInBounds_toArray, List.set_cons_zero, List.set_cons_succ]
    refine wpAnyH_at 7 (v := ?vv322) rfl (by kernel_rfl) (by kernel_rfl) (by kernel_rfl) (fun _ _ _ h => h) ?hy322 HSv ?hh322
    case hy322 =>
      refine Or.inl ⟨by rfl, ?_⟩
      intro W hW
      obtain ⟨h0, h1, h2, h3, h4, h5, h6, h7⟩ := hW
      go_simp
      try with_reducible rfl
    simp only [Act.put, List.setIfInBounds_toArray, List.set_cons_zero, List.set_cons_succ]
    refine wpAnyH_at 8 (v := ?vv323) rfl (by kernel_rfl) (by kernel_rfl) (by kernel_rfl) (fun _ _ _ h => h) ?hy323 HSv ?hh323
    case hy323 =>
      refine Or.inl ⟨by rfl, ?_⟩
      intro W hW
      obtain ⟨h0, h1, h2, h3, h4, h5, h6, h7⟩ := hW
      go_simp
      try with_reducible rfl
    simp only [Act.put, List.setIfInBounds_toArray, List.set_cons_zero, List.set_cons_succ]
    refine wpAnyH_at 9 (v := ?vv324) rfl (by kernel_rfl) (by kernel_rfl) (by kernel_rfl) (fun _ _ _ h => h) ?hy324 HSv ?hh324
    case hy324 =>
      refine Or.inl ⟨by rfl, ?_⟩
      intro W hW
      obtain ⟨h0, h1, h2, h3, h4, h5, h6, h7⟩ := hW
      go_simp
      try with_reducible rfl
    simp only [Act.put, List.setIfInBounds_toArray, List.set_cons_zero, List.set_cons_succ]
    refine wpAnyH_at 10 (v := ?vv325) rfl (by kernel_rfl) (by kernel_rfl) (by kernel_rfl) (fun _ _ _ h => h) ?hy325 HSv ?hh325
    case hy325 =>
      refine Or.inl ⟨by rfl, ?_⟩
      intro W hW
      obtain ⟨h0, h1, h2, h3, h4, h5, h6, h7⟩ := hW
      go_simp
      try with_reducible rfl
    simp only [Act.put, List.setIfInBounds_toArray, List.set_cons_zero, List.set_cons_succ]
    refine wpAnyH_at 11 (v := ?vv326) rfl (by kernel_rfl) (by kernel_rfl) (by kernel_rfl) (fun _ _ _ h => h) ?hy326 HSv ?hh326
    case hy326 =>
      refine Or.inl ⟨by rfl, ?_⟩
      intro W hW
      obtain ⟨h0, h1, h2, h3, h4, h5, h6, h7⟩ := hW
      go_simp
      try with_reducible rfl
    simp only [Act.put, List.setIfInBounds_toArray, List.set_cons_zero, List.set_cons_succ]
    refine wpAnyH_at 12 (v := ?vv327) rfl (by kernel_rfl) (by kernel_rfl) (by kernel_rfl) (fun _ _ _ h => h) ?hy327 HSv ?hh327
    case hy327 =>
      refine Or.inl ⟨by rfl, ?_⟩
      intro W hW
      obtain ⟨h0, h1, h2, h3, h4, h5, h6, h7⟩ := hW
      go_simp
      try with_reducible rfl
    simp only [Act.put, List.setIfInBounds_toArray, List.set_cons_zero, List.set_cons_succ]
    refine wpAnyH_at 13 (v := ?vv328) rfl (by kernel_rfl) (by kernel_rfl) (by kernel_rfl) (fun _ _ _ h => h) ?hy328 HSv ?hh328
    case hy328 =>
      refine Or.inl ⟨by rfl, ?_⟩
      intro W hW
      obtain ⟨h0, h1, h2, h3, h4, h5, h6, h7⟩ := hW
      go_simp
      try with_reducible rfl
    simp only [Act.put, List.setIfInBounds_toArray, List.set_cons_zero, List.set_cons_succ]
    refine wpAnyH_at 15 (v := ?vv329) rfl (by kernel_rfl) (by kernel_rfl) (by kernel_rfl) (fun _ _ _ h => h) ?hy329 HSv ?hh329
    case hy329 =>
      refine Or.inl ⟨by rfl, ?_⟩
      intro W hW
      obtain ⟨h0, h1, h2, h3, h4, h5, h6, h7⟩ := hW
      go_simp
      try with_reducible rfl
    simp only [Act.put, List.setIfInBounds_toArray, List.set_cons_zero, List.set_cons_succ]
    refine wpAnyH_at 16 (v := ?vv330) rfl (by kernel_rfl) (by kernel_rfl) (by kernel_rfl) (fun _ _ _ h => h) ?hy330 HSv ?hh330
    case hy330 =>
      refine Or.inl ⟨by rfl, ?_⟩
      intro W hW
      obtain ⟨h0, h1, h2, h3, h4, h5, h6, h7⟩ := hW
      go_simp
      try with_reducible rfl
    simp only [Act.put, List.setIfInBounds_toArray, List.set_cons_zero, List.set_cons_succ]
    generalize W1.drew = W at HSv HB ⊢
    refine wpAnyH_2 1 5 rfl rfl (by kernel_rfl) ?_ ?_
    · intro K hK
      rw [if_pos (by rfl)]
      try go_simp
      go_at_call 18
      refine (HLO.out _).mono ?_
      rintro e W2 ⟨vA, rfl, rA, bA⟩
      obtain ⟨sA, cA, rfl⟩ := rA.form
      have HR := Lib.hid (rA.base HB.out.size)
      have HB := Lib.hid (HB.out.trans (bA.mono HB.out.size))
      have HSv : (fun Y : World => Y.cell? ⟨w.heap.size, 0, none⟩ = some (.int .i64 c.mru) ∧ Y.cell? ⟨w.heap.size, 1, none⟩ = some (.int .i64 c.auth) ∧ Y.cell? ⟨w.heap.size, 2, none⟩ = some (.int .i64 c.magic) ∧ Y.cell? ⟨w.heap.size, 3, none⟩ = some (.int .i64 c.echo) ∧ Y.cell? ⟨w.heap.size, 4, none⟩ = some (.int .i64 c.cf) ∧ Y.cell? ⟨w.heap.size, 5, none⟩ = some (.int .i64 c.tm) ∧ Y.cell? ⟨w.heap.size, 6, none⟩ = some (.int .i64 c.fl) ∧ Y.cell? ⟨w.heap.size, 7, none⟩ = some (.int .i64 c.wt)) W2 := HS.out _ HB.out
      refine hK _ _ (fun _ => HSv) ?_
      try simp only [Act.put, List.setIfInBounds_toArray, List.set_cons_zero, List.set_cons_succ]
      clear rA bA
      refine wpAnyH_2 2 5 rfl rfl (by kernel_rfl) ?_ ?_
      · intro K hK
        rw [if_pos (by rfl)]
        try go_simp
        go_at_call 35
        refine (units_any 1492 _).mono ?_
        rintro e W3 ⟨rfl, bA⟩
        have HR := Lib.hid (HR.out.below bA)
        have HB := Lib.hid (HB.out.trans (bA.mono HB.out.size))
        have HSv : (fun Y : World => Y.cell? ⟨w.heap.size, 0, none⟩ = some (.int .i64 c.mru) ∧ Y.cell? ⟨w.heap.size, 1, none⟩ = some (.int .i64 c.auth) ∧ Y.cell? ⟨w.heap.size, 2, none⟩ = some (.int .i64 c.magic) ∧ Y.cell? ⟨w.heap.size, 3, none⟩ = some (.int .i64 c.echo) ∧ Y.cell? ⟨w.heap.size, 4, none⟩ = some (.int .i64 c.cf) ∧ Y.cell? ⟨w.heap.size, 5, none⟩ = some (.int .i64 c.tm) ∧ Y.cell? ⟨w.heap.size, 6, none⟩ = some (.int .i64 c.fl) ∧ Y.cell? ⟨w.heap.size, 7, none⟩ = some (.int .i64 c.wt)) W3 := HS.out _ HB.out
        refine hK _ _ (fun _ => HSv) ?_
        try simp only [Act.put, List.setIfInBounds_toArray, List.set_cons_zero, List.set_cons_succ]
        clear bA
        refine wpAnyH_2 3 5 rfl rfl (by kernel_rfl) ?_ ?_
        · intro K hK
          rw [if_pos (by rfl)]
          try go_simp
          go_at_call 36
          refine (magics_any _).mono ?_
          rintro e W4 ⟨rfl, bA⟩
          have HR := Lib.hid (HR.out.below bA)
          have HB := Lib.hid (HB.out.trans (bA.mono HB.out.size))
          have HSv : (fun Y : World => Y.cell? ⟨w.heap.size, 0, none⟩ = some (.int .i64 c.mru) ∧ Y.cell? ⟨w.heap.size, 1, none⟩ = some (.int .i64 c.auth) ∧ Y.cell? ⟨w.heap.size, 2, none⟩ = some (.int .i64 c.magic) ∧ Y.cell? ⟨w.heap.size, 3, none⟩ = some (.int .i64 c.echo) ∧ Y.cell? ⟨w.heap.size, 4, none⟩ = some (.int .i64 c.cf) ∧ Y.cell? ⟨w.heap.size, 5, none⟩ = some (.int .i64 c.tm) ∧ Y.cell? ⟨w.heap.size, 6, none⟩ = some (.int .i64 c.fl) ∧ Y.cell? ⟨w.heap.size, 7, none⟩ = some (.int .i64 c.wt)) W4 := HS.out _ HB.out
          refine hK _ _ (fun _ => HSv) ?_
          try simp only [Act.put, List.setIfInBounds_toArray, List.set_cons_zero, List.set_cons_succ]
          clear bA
          refine wpAnyH_2 4 5 rfl rfl (by kernel_rfl) ?_ ?_
          · intro K hK
            rw [if_pos (by rfl)]
            try go_simp
            have bA : Below W4.heap.size W4 (W4.alloc (.cells #[.int .i64 1, .int .i64 2, .int .i64 64, .int .i64 1492, .string (be2 1492), .int .i64 5, .int .i64 4, .int .i64 1, .int .i64 4294967295, .string (be4 1)] 73 (0, 0))) := (Below.refl _ _).alloc (Nat.le_refl _) _
            have hz := at1 W4 (.cells #[.int .i64 1, .int .i64 2, .int .i64 64, .int .i64 1492, .string (be2 1492), .int .i64 5, .int .i64 4, .int .i64 1, .int .i64 4294967295, .string (be4 1)] 73 (0, 0))
            generalize hW5 : W4.alloc (.cells #[.int .i64 1, .int .i64 2, .int .i64 64, .int .i64 1492, .string (be2 1492), .int .i64 5, .int .i64 4, .int .i64 1, .int .i64 4294967295, .string (be4 1)] 73 (0, 0)) = W5 at bA hz ⊢
            obtain ⟨rb, hrb⟩ : ∃ rb, rb = W4.heap.size := ⟨_, rfl⟩
            rw [← hrb] at hz ⊢
            have HRu := Lib.hid hz
            have HR := Lib.hid (HR.out.below bA)
            have HB := Lib.hid (HB.out.trans (bA.mono HB.out.size))
            have HSv : (fun Y : World => Y.cell? ⟨w.heap.size, 0, none⟩ = some (.int .i64 c.mru) ∧ Y.cell? ⟨w.heap.size, 1, none⟩ = some (.int .i64 c.auth) ∧ Y.cell? ⟨w.heap.size, 2, none⟩ = some (.int .i64 c.magic) ∧ Y.cell? ⟨w.heap.size, 3, none⟩ = some (.int .i64 c.echo) ∧ Y.cell? ⟨w.heap.size, 4, none⟩ = some (.int .i64 c.cf) ∧ Y.cell? ⟨w.heap.size, 5, none⟩ = some (.int .i64 c.tm) ∧ Y.cell? ⟨w.heap.size, 6, none⟩ = some (.int .i64 c.fl) ∧ Y.cell? ⟨w.heap.size, 7, none⟩ = some (.int .i64 c.wt)) W5 := HS.out _ HB.out
            refine hK _ _ (fun _ => HSv) ?_
            try simp only [Act.put, List.setIfInBounds_toArray, List.set_cons_zero, List.set_cons_succ]
            clear bA hz hW5 hrb
            refine wpAnyH_1 5 rfl (by kernel_rfl) ?_
            intro K hK
            rw [if_pos (by rfl)]
            try go_simp
            have bA : Below W5.heap.size W5 (W5.alloc (.cells #[.int .i64 3] 3 (0, 0))) := (Below.refl _ _).alloc (Nat.le_refl _) _
            have hz := at1 W5 (.cells #[.int .i64 3] 3 (0, 0))
            generalize hW6 : W5.alloc (.cells #[.int .i64 3] 3 (0, 0)) = W6 at bA hz ⊢
            obtain ⟨ib, hib⟩ : ∃ ib, ib = W5.heap.size := ⟨_, rfl⟩
            rw [← hib] at hz ⊢
            have HI := Lib.hid hz
            have HR := Lib.hid (HR.out.below bA)
            have HRu := Lib.hid ((bA.block _ (Array.getElem?_eq_some_iff.1 HRu.out).1).trans HRu.out)
            have HB := Lib.hid (HB.out.trans (bA.mono HB.out.size))
            have HSv : (fun Y : World => Y.cell? ⟨w.heap.size, 0, none⟩ = some (.int .i64 c.mru) ∧ Y.cell? ⟨w.heap.size, 1, none⟩ = some (.int .i64 c.auth) ∧ Y.cell? ⟨w.heap.size, 2, none⟩ = some (.int .i64 c.magic) ∧ Y.cell? ⟨w.heap.size, 3, none⟩ = some (.int .i64 c.echo) ∧ Y.cell? ⟨w.heap.size, 4, none⟩ = some (.int .i64 c.cf) ∧ Y.cell? ⟨w.heap.size, 5, none⟩ = some (.int .i64 c.tm) ∧ Y.cell? ⟨w.heap.size, 6, none⟩ = some (.int .i64 c.fl) ∧ Y.cell? ⟨w.heap.size, 7, none⟩ = some (.int .i64 c.wt)) W6 := HS.out _ HB.out
            refine hK _ _ (fun _ => HSv) ?_
            try simp only [Act.put, List.setIfInBounds_toArray, List.set_cons_zero, List.set_cons_succ]
            clear bA hz hW6 hib
            refine wpAnyH_at 14 (v := ?vv331) rfl (by kernel_rfl) (by kernel_rfl) (by kernel_rfl) (fun _ _ _ h => h) ?hy331 HSv ?hh331
            case hy331 =>
              refine Or.inl ⟨by rfl, ?_⟩
              intro W hW
              obtain ⟨h0, h1, h2, h3, h4, h5, h6, h7⟩ := hW
              go_simp
              try with_reducible rfl
            simp only [Act.put, List.setIfInBounds_toArray, List.set_cons_zero, List.set_cons_succ]
            refine wpAnyH_1 17 rfl (by kernel_rfl) ?_
            intro K hK
            rw [if_pos (by rfl)]
            try go_simp
            go_at_call 34
            refine (HNN.out lb W1 W6 sA cA rb ib HB.out HR.out HRu.out HI.out).mono ?_
            rintro e wE ⟨B, rfl, nE, bE⟩
            have zl := (bE.block lb (Array.getElem?_eq_some_iff.1 HZ.out.2.1).1).trans HZ.out.2.1
            have f0 := fzOf zl 0
            have c0 : wE.cell? ⟨lb, 0, none⟩ = some (.pointer none) := cellOf zl 0 _ rfl
            have HN := Lib.hid (And.intro bE nE)
            have HSv : (fun Y : World => Y.cell? ⟨w.heap.size, 0, none⟩ = some (.int .i64 c.mru) ∧ Y.cell? ⟨w.heap.size, 1, none⟩ = some (.int .i64 c.auth) ∧ Y.cell? ⟨w.heap.size, 2, none⟩ = some (.int .i64 c.magic) ∧ Y.cell? ⟨w.heap.size, 3, none⟩ = some (.int .i64 c.echo) ∧ Y.cell? ⟨w.heap.size, 4, none⟩ = some (.int .i64 c.cf) ∧ Y.cell? ⟨w.heap.size, 5, none⟩ = some (.int .i64 c.tm) ∧ Y.cell? ⟨w.heap.size, 6, none⟩ = some (.int .i64 c.fl) ∧ Y.cell? ⟨w.heap.size, 7, none⟩ = some (.int .i64 c.wt)) wE := HS.out _ bE
            clear bE nE zl
            refine hK _ _ (fun _ => HSv) ?_
            try simp only [Act.put, List.setIfInBounds_toArray, List.set_cons_zero, List.set_cons_succ]
            refine wpAnyH_at 18 (v := ?vv332) rfl (by kernel_rfl) (by kernel_rfl) (by kernel_rfl) (fun _ _ _ h => h) ?hy332 HSv ?hh332
            case hy332 =>
              refine Or.inl ⟨by rfl, ?_⟩
              intro W hW
              obtain ⟨h0, h1, h2, h3, h4, h5, h6, h7⟩ := hW
              go_simp
              try with_reducible rfl
            simp only [Act.put, List.setIfInBounds_toArray, List.set_cons_zero, List.set_cons_succ]
            refine wpAnyH_at 19 (v := ?vv333) rfl (by kernel_rfl) (by kernel_rfl) (by kernel_rfl) (fun _ _ _ h => h) ?hy333 HSv ?hh333
            case hy333 =>
              refine Or.inl ⟨by rfl, ?_⟩
              intro W hW
              obtain ⟨h0, h1, h2, h3, h4, h5, h6, h7⟩ := hW
              go_simp
              try with_reducible rfl
            simp only [Act.put, List.setIfInBounds_toArray, List.set_cons_zero, List.set_cons_succ]
            refine wpAnyH_at 21 (v := ?vv334) rfl (by kernel_rfl) (by kernel_rfl) (by kernel_rfl) (fun _ _ _ h => h) ?hy334 HSv ?hh334
            case hy334 =>
              refine Or.inl ⟨by rfl, ?_⟩
              intro W hW
              obtain ⟨h0, h1, h2, h3, h4, h5, h6, h7⟩ := hW
              go_simp
              try with_reducible rfl
            simp only [Act.put, List.setIfInBounds_toArray, List.set_cons_zero, List.set_cons_succ]
            refine wpAnyH_at 20 (v := ?vv335) rfl (by kernel_rfl) (by kernel_rfl) (by kernel_rfl) (fun _ _ _ h => h) ?hy335 HSv ?hh335
            case hy335 =>
              refine Or.inl ⟨by rfl, ?_⟩
              intro W hW
              obtain ⟨h0, h1, h2, h3, h4, h5, h6, h7⟩ := hW
              go_simp
              try with_reducible rfl
            simp only [Act.put, List.setIfInBounds_toArray, List.set_cons_zero, List.set_cons_succ]
            refine wpAnyH_at 22 (v := ?vv336) rfl (by kernel_rfl) (by kernel_rfl) (by kernel_rfl) (fun _ _ _ h => h) ?hy336 HSv ?hh336
            case hy336 =>
              refine Or.inl ⟨by rfl, ?_⟩
              intro W hW
              obtain ⟨h0, h1, h2, h3, h4, h5, h6, h7⟩ := hW
              go_simp
              try with_reducible rfl
            simp only [Act.put, List.setIfInBounds_toArray, List.set_cons_zero, List.set_cons_succ]
            refine wpAnyH_end 23 (fun j hj => rgH_end _ _ j (by omega)) (by rfl) (by kernel_rfl) ?_
            simp only [List.drop_succ_cons, List.drop_zero]
            clear HSv
            go_wp2_with fail
            go_ret2
            exact ⟨tb, okt, HG.out wE B HN.out.1 HN.out.2, HW.out.1, HW.out.2⟩
          · intro K hK
            rw [if_pos (by rfl)]
            try go_simp
            have bA : Below W4.heap.size W4 (W4.alloc (.cells #[.int .i64 3] 3 (0, 0))) := (Below.refl _ _).alloc (Nat.le_refl _) _
            have hz := at1 W4 (.cells #[.int .i64 3] 3 (0, 0))
            generalize hW5 : W4.alloc (.cells #[.int .i64 3] 3 (0, 0)) = W5 at bA hz ⊢
            obtain ⟨ib, hib⟩ : ∃ ib, ib = W4.heap.size := ⟨_, rfl⟩
            rw [← hib] at hz ⊢
            have HI := Lib.hid hz
            have HR := Lib.hid (HR.out.below bA)
            have HB := Lib.hid (HB.out.trans (bA.mono HB.out.size))
            have HSv : (fun Y : World => Y.cell? ⟨w.heap.size, 0, none⟩ = some (.int .i64 c.mru) ∧ Y.cell? ⟨w.heap.size, 1, none⟩ = some (.int .i64 c.auth) ∧ Y.cell? ⟨w.heap.size, 2, none⟩ = some (.int .i64 c.magic) ∧ Y.cell? ⟨w.heap.size, 3, none⟩ = some (.int .i64 c.echo) ∧ Y.cell? ⟨w.heap.size, 4, none⟩ = some (.int .i64 c.cf) ∧ Y.cell? ⟨w.heap.size, 5, none⟩ = some (.int .i64 c.tm) ∧ Y.cell? ⟨w.heap.size, 6, none⟩ = some (.int .i64 c.fl) ∧ Y.cell? ⟨w.heap.size, 7, none⟩ = some (.int .i64 c.wt)) W5 := HS.out _ HB.out
            refine hK _ _ (fun _ => HSv) ?_
            try simp only [Act.put, List.setIfInBounds_toArray, List.set_cons_zero, List.set_cons_succ]
            clear bA hz hW5 hib
            refine wpAnyH_1 4 rfl (by kernel_rfl) ?_
            intro K hK
            rw [if_pos (by rfl)]
            try go_simp
            have bA : Below W5.heap.size W5 (W5.alloc (.cells #[.int .i64 1, .int .i64 2, .int .i64 64, .int .i64 1492, .string (be2 1492), .int .i64 5, .int .i64 4, .int .i64 1, .int .i64 4294967295, .string (be4 1)] 73 (0, 0))) := (Below.refl _ _).alloc (Nat.le_refl _) _
            have hz := at1 W5 (.cells #[.int .i64 1, .int .i64 2, .int .i64 64, .int .i64 1492, .string (be2 1492), .int .i64 5, .int .i64 4, .int .i64 1, .int .i64 4294967295, .string (be4 1)] 73 (0, 0))
            generalize hW6 : W5.alloc (.cells #[.int .i64 1, .int .i64 2, .int .i64 64, .int .i64 1492, .string (be2 1492), .int .i64 5, .int .i64 4, .int .i64 1, .int .i64 4294967295, .string (be4 1)] 73 (0, 0)) = W6 at bA hz ⊢
            obtain ⟨rb, hrb⟩ : ∃ rb, rb = W5.heap.size := ⟨_, rfl⟩
            rw [← hrb] at hz ⊢
            have HRu := Lib.hid hz
            have HR := Lib.hid (HR.out.below bA)
            have HB := Lib.hid (HB.out.trans (bA.mono HB.out.size))
            have HSv : (fun Y : World => Y.cell? ⟨w.heap.size, 0, none⟩ = some (.int .i64 c.mru) ∧ Y.cell? ⟨w.heap.size, 1, none⟩ = some (.int .i64 c.auth) ∧ Y.cell? ⟨w.heap.size, 2, none⟩ = some (.int .i64 c.magic) ∧ Y.cell? ⟨w.heap.size, 3, none⟩ = some (.int .i64 c.echo) ∧ Y.cell? ⟨w.heap.size, 4, none⟩ = some (.int .i64 c.cf) ∧ Y.cell? ⟨w.heap.size, 5, none⟩ = some (.int .i64 c.tm) ∧ Y.cell? ⟨w.heap.size, 6, none⟩ = some (.int .i64 c.fl) ∧ Y.cell? ⟨w.heap.size, 7, none⟩ = some (.int .i64 c.wt)) W6 := HS.out _ HB.out
            have HI := Lib.hid ((bA.block _ (Array.getElem?_eq_some_iff.1 HI.out).1).trans HI.out)
            refine hK _ _ (fun _ => HSv) ?_
            try simp only [Act.put, List.setIfInBounds_toArray, List.set_cons_zero, List.set_cons_succ]
            clear bA hz hW6 hrb
            refine wpAnyH_at 14 (v := ?vv337) rfl (by kernel_rfl) (by kernel_rfl) (by kernel_rfl) (fun _ _ _ h => h) ?hy337 HSv ?hh337
            case hy337 =>
              refine Or.inl ⟨by rfl, ?_⟩
              intro W hW
              obtain ⟨h0, h1, h2, h3, h4, h5, h6, h7⟩ := hW
              go_simp
              try with_reducible rfl
            simp only [Act.put, List.setIfInBounds_toArray, List.set_cons_zero, List.set_cons_succ]
            refine wpAnyH_1 17 rfl (by kernel_rfl) ?_
            intro K hK
            rw [if_pos (by rfl)]
            try go_simp
            go_at_call 34
            refine (HNN.out lb W1 W6 sA cA rb ib HB.out HR.out HRu.out HI.out).mono ?_
            rintro e wE ⟨B, rfl, nE, bE⟩
            have zl := (bE.block lb (Array.getElem?_eq_some_iff.1 HZ.out.2.1).1).trans HZ.out.2.1
            have f0 := fzOf zl 0
            have c0 : wE.cell? ⟨lb, 0, none⟩ = some (.pointer none) := cellOf zl 0 _ rfl
            have HN := Lib.hid (And.intro bE nE)
            have HSv : (fun Y : World => Y.cell? ⟨w.heap.size, 0, none⟩ = some (.int .i64 c.mru) ∧ Y.cell? ⟨w.heap.size, 1, none⟩ = some (.int .i64 c.auth) ∧ Y.cell? ⟨w.heap.size, 2, none⟩ = some (.int .i64 c.magic) ∧ Y.cell? ⟨w.heap.size, 3, none⟩ = some (.int .i64 c.echo) ∧ Y.cell? ⟨w.heap.size, 4, none⟩ = some (.int .i64 c.cf) ∧ Y.cell? ⟨w.heap.size, 5, none⟩ = some (.int .i64 c.tm) ∧ Y.cell? ⟨w.heap.size, 6, none⟩ = some (.int .i64 c.fl) ∧ Y.cell? ⟨w.heap.size, 7, none⟩ = some (.int .i64 c.wt)) wE := HS.out _ bE
            clear bE nE zl
            refine hK _ _ (fun _ => HSv) ?_
            try simp only [Act.put, List.setIfInBounds_toArray, List.set_cons_zero, List.set_cons_succ]
            refine wpAnyH_at 18 (v := ?vv338) rfl (by kernel_rfl) (by kernel_rfl) (by kernel_rfl) (fun _ _ _ h => h) ?hy338 HSv ?hh338
            case hy338 =>
              refine Or.inl ⟨by rfl, ?_⟩
              intro W hW
              obtain ⟨h0, h1, h2, h3, h4, h5, h6, h7⟩ := hW
              go_simp
              try with_reducible rfl
            simp only [Act.put, List.setIfInBounds_toArray, List.set_cons_zero, List.set_cons_succ]
            refine wpAnyH_at 19 (v := ?vv339) rfl (by kernel_rfl) (by kernel_rfl) (by kernel_rfl) (fun _ _ _ h => h) ?hy339 HSv ?hh339
            case hy339 =>
              refine Or.inl ⟨by rfl, ?_⟩
              intro W hW
              obtain ⟨h0, h1, h2, h3, h4, h5, h6, h7⟩ := hW
              go_simp
              try with_reducible rfl
            simp only [Act.put, List.setIfInBounds_toArray, List.set_cons_zero, List.set_cons_succ]
            refine wpAnyH_at 21 (v := ?vv340) rfl (by kernel_rfl) (by kernel_rfl) (by kernel_rfl) (fun _ _ _ h => h) ?hy340 HSv ?hh340
            case hy340 =>
              refine Or.inl ⟨by rfl, ?_⟩
              intro W hW
              obtain ⟨h0, h1, h2, h3, h4, h5, h6, h7⟩ := hW
              go_simp
              try with_reducible rfl
            simp only [Act.put, List.setIfInBounds_toArray, List.set_cons_zero, List.set_cons_succ]
            refine wpAnyH_at 20 (v := ?vv341) rfl (by kernel_rfl) (by kernel_rfl) (by kernel_rfl) (fun _ _ _ h => h) ?hy341 HSv ?hh341
            case hy341 =>
              refine Or.inl ⟨by rfl, ?_⟩
              intro W hW
              obtain ⟨h0, h1, h2, h3, h4, h5, h6, h7⟩ := hW
              go_simp
              try with_reducible rfl
            simp only [Act.put, List.setIfInBounds_toArray, List.set_cons_zero, List.set_cons_succ]
            refine wpAnyH_at 22 (v := ?vv342) rfl (by kernel_rfl) (by kernel_rfl) (by kernel_rfl) (fun _ _ _ h => h) ?hy342 HSv ?hh342
            case hy342 =>
              refine Or.inl ⟨by rfl, ?_⟩
              intro W hW
              obtain ⟨h0, h1, h2, h3, h4, h5, h6, h7⟩ := hW
              go_simp
              try with_reducible rfl
            simp only [Act.put, List.setIfInBounds_toArray, List.set_cons_zero, List.set_cons_succ]
            refine wpAnyH_end 23 (fun j hj => rgH_end _ _ j (by omega)) (by rfl) (by kernel_rfl) ?_
            simp only [List.drop_succ_cons, List.drop_zero]
            clear HSv
            go_wp2_with fail
            go_ret2
            exact ⟨tb, okt, HG.out wE B HN.out.1 HN.out.2, HW.out.1, HW.out.2⟩
        · intro K hK
          rw [if_pos (by rfl)]
          try go_simp
          have bA : Below W3.heap.size W3 (W3.alloc (.cells #[.int .i64 3] 3 (0, 0))) := (Below.refl _ _).alloc (Nat.le_refl _) _
          have hz := at1 W3 (.cells #[.int .i64 3] 3 (0, 0))
          generalize hW4 : W3.alloc (.cells #[.int .i64 3] 3 (0, 0)) = W4 at bA hz ⊢
          obtain ⟨ib, hib⟩ : ∃ ib, ib = W3.heap.size := ⟨_, rfl⟩
          rw [← hib] at hz ⊢
          have HI := Lib.hid hz
          have HR := Lib.hid (HR.out.below bA)
          have HB := Lib.hid (HB.out.trans (bA.mono HB.out.size))
          have HSv : (fun Y : World => Y.cell? ⟨w.heap.size, 0, none⟩ = some (.int .i64 c.mru) ∧ Y.cell? ⟨w.heap.size, 1, none⟩ = some (.int .i64 c.auth) ∧ Y.cell? ⟨w.heap.size, 2, none⟩ = some (.int .i64 c.magic) ∧ Y.cell? ⟨w.heap.size, 3, none⟩ = some (.int .i64 c.echo) ∧ Y.cell? ⟨w.heap.size, 4, none⟩ = some (.int .i64 c.cf) ∧ Y.cell? ⟨w.heap.size, 5, none⟩ = some (.int .i64 c.tm) ∧ Y.cell? ⟨w.heap.size, 6, none⟩ = some (.int .i64 c.fl) ∧ Y.cell? ⟨w.heap.size, 7, none⟩ = some (.int .i64 c.wt)) W4 := HS.out _ HB.out
          refine hK _ _ (fun _ => HSv) ?_
          try simp only [Act.put, List.setIfInBounds_toArray, List.set_cons_zero, List.set_cons_succ]
          clear bA hz hW4 hib
          refine wpAnyH_1 3 rfl (by kernel_rfl) ?_
          intro K hK
          rw [if_pos (by rfl)]
          try go_simp
          go_at_call 36
          refine (magics_any _).mono ?_
          rintro e W5 ⟨rfl, bA⟩
          have HR := Lib.hid (HR.out.below bA)
          have HB := Lib.hid (HB.out.trans (bA.mono HB.out.size))
          have HSv : (fun Y : World => Y.cell? ⟨w.heap.size, 0, none⟩ = some (.int .i64 c.mru) ∧ Y.cell? ⟨w.heap.size, 1, none⟩ = some (.int .i64 c.auth) ∧ Y.cell? ⟨w.heap.size, 2, none⟩ = some (.int .i64 c.magic) ∧ Y.cell? ⟨w.heap.size, 3, none⟩ = some (.int .i64 c.echo) ∧ Y.cell? ⟨w.heap.size, 4, none⟩ = some (.int .i64 c.cf) ∧ Y.cell? ⟨w.heap.size, 5, none⟩ = some (.int .i64 c.tm) ∧ Y.cell? ⟨w.heap.size, 6, none⟩ = some (.int .i64 c.fl) ∧ Y.cell? ⟨w.heap.size, 7, none⟩ = some (.int .i64 c.wt)) W5 := HS.out _ HB.out
          have HI := Lib.hid ((bA.block _ (Array.getElem?_eq_some_iff.1 HI.out).1).trans HI.out)
          refine hK _ _ (fun _ => HSv) ?_
          try simp only [Act.put, List.setIfInBounds_toArray, List.set_cons_zero, List.set_cons_succ]
          clear bA
          refine wpAnyH_1 4 rfl (by kernel_rfl) ?_
          intro K hK
          rw [if_pos (by rfl)]
          try go_simp
          have bA : Below W5.heap.size W5 (W5.alloc (.cells #[.int .i64 1, .int .i64 2, .int .i64 64, .int .i64 1492, .string (be2 1492), .int .i64 5, .int .i64 4, .int .i64 1, .int .i64 4294967295, .string (be4 1)] 73 (0, 0))) := (Below.refl _ _).alloc (Nat.le_refl _) _
          have hz := at1 W5 (.cells #[.int .i64 1, .int .i64 2, .int .i64 64, .int .i64 1492, .string (be2 1492), .int .i64 5, .int .i64 4, .int .i64 1, .int .i64 4294967295, .string (be4 1)] 73 (0, 0))
          generalize hW6 : W5.alloc (.cells #[.int .i64 1, .int .i64 2, .int .i64 64, .int .i64 1492, .string (be2 1492), .int .i64 5, .int .i64 4, .int .i64 1, .int .i64 4294967295, .string (be4 1)] 73 (0, 0)) = W6 at bA hz ⊢
          obtain ⟨rb, hrb⟩ : ∃ rb, rb = W5.heap.size := ⟨_, rfl⟩
          rw [← hrb] at hz ⊢
          have HRu := Lib.hid hz
          have HR := Lib.hid (HR.out.below bA)
          have HB := Lib.hid (HB.out.trans (bA.mono HB.out.size))
          have HSv : (fun Y : World => Y.cell? ⟨w.heap.size, 0, none⟩ = some (.int .i64 c.mru) ∧ Y.cell? ⟨w.heap.size, 1, none⟩ = some (.int .i64 c.auth) ∧ Y.cell? ⟨w.heap.size, 2, none⟩ = some (.int .i64 c.magic) ∧ Y.cell? ⟨w.heap.size, 3, none⟩ = some (.int .i64 c.echo) ∧ Y.cell? ⟨w.heap.size, 4, none⟩ = some (.int .i64 c.cf) ∧ Y.cell? ⟨w.heap.size, 5, none⟩ = some (.int .i64 c.tm) ∧ Y.cell? ⟨w.heap.size, 6, none⟩ = some (.int .i64 c.fl) ∧ Y.cell? ⟨w.heap.size, 7, none⟩ = some (.int .i64 c.wt)) W6 := HS.out _ HB.out
          have HI := Lib.hid ((bA.block _ (Array.getElem?_eq_some_iff.1 HI.out).1).trans HI.out)
          refine hK _ _ (fun _ => HSv) ?_
          try simp only [Act.put, List.setIfInBounds_toArray, List.set_cons_zero, List.set_cons_succ]
          clear bA hz hW6 hrb
          refine wpAnyH_at 14 (v := ?vv343) rfl (by kernel_rfl) (by kernel_rfl) (by kernel_rfl) (fun _ _ _ h => h) ?hy343 HSv ?hh343
          case hy343 =>
            refine Or.inl ⟨by rfl, ?_⟩
            intro W hW
            obtain ⟨h0, h1, h2, h3, h4, h5, h6, h7⟩ := hW
            go_simp
            try with_reducible rfl
          simp only [Act.put, List.setIfInBounds_toArray, List.set_cons_zero, List.set_cons_succ]
          refine wpAnyH_1 17 rfl (by kernel_rfl) ?_
          intro K hK
          rw [if_pos (by rfl)]
          try go_simp
          go_at_call 34
          refine (HNN.out lb W1 W6 sA cA rb ib HB.out HR.out HRu.out HI.out).mono ?_
          rintro e wE ⟨B, rfl, nE, bE⟩
          have zl := (bE.block lb (Array.getElem?_eq_some_iff.1 HZ.out.2.1).1).trans HZ.out.2.1
          have f0 := fzOf zl 0
          have c0 : wE.cell? ⟨lb, 0, none⟩ = some (.pointer none) := cellOf zl 0 _ rfl
          have HN := Lib.hid (And.intro bE nE)
          have HSv : (fun Y : World => Y.cell? ⟨w.heap.size, 0, none⟩ = some (.int .i64 c.mru) ∧ Y.cell? ⟨w.heap.size, 1, none⟩ = some (.int .i64 c.auth) ∧ Y.cell? ⟨w.heap.size, 2, none⟩ = some (.int .i64 c.magic) ∧ Y.cell? ⟨w.heap.size, 3, none⟩ = some (.int .i64 c.echo) ∧ Y.cell? ⟨w.heap.size, 4, none⟩ = some (.int .i64 c.cf) ∧ Y.cell? ⟨w.heap.size, 5, none⟩ = some (.int .i64 c.tm) ∧ Y.cell? ⟨w.heap.size, 6, none⟩ = some (.int .i64 c.fl) ∧ Y.cell? ⟨w.heap.size, 7, none⟩ = some (.int .i64 c.wt)) wE := HS.out _ bE
          clear bE nE zl
          refine hK _ _ (fun _ => HSv) ?_
          try simp only [Act.put, List.setIfInBounds_toArray, List.set_cons_zero, List.set_cons_succ]
          refine wpAnyH_at 18 (v := ?vv344) rfl (by kernel_rfl) (by kernel_rfl) (by kernel_rfl) (fun _ _ _ h => h) ?hy344 HSv ?hh344
          case hy344 =>
            refine Or.inl ⟨by rfl, ?_⟩
            intro W hW
            obtain ⟨h0, h1, h2, h3, h4, h5, h6, h7⟩ := hW
            go_simp
            try with_reducible rfl
          simp only [Act.put, List.setIfInBounds_toArray, List.set_cons_zero, List.set_cons_succ]
          refine wpAnyH_at 19 (v := ?vv345) rfl (by kernel_rfl) (by kernel_rfl) (by kernel_rfl) (fun _ _ _ h => h) ?hy345 HSv ?hh345
          case hy345 =>
            refine Or.inl ⟨by rfl, ?_⟩
            intro W hW
            obtain ⟨h0, h1, h2, h3, h4, h5, h6, h7⟩ := hW
            go_simp
            try with_reducible rfl
          simp only [Act.put, List.setIfInBounds_toArray, List.set_cons_zero, List.set_cons_succ]
          refine wpAnyH_at 21 (v := ?vv346) rfl (by kernel_rfl) (by kernel_rfl) (by kernel_rfl) (fun _ _ _ h => h) ?hy346 HSv ?hh346
          case hy346 =>
            refine Or.inl ⟨by rfl, ?_⟩
            intro W hW
            obtain ⟨h0, h1, h2, h3, h4, h5, h6, h7⟩ := hW
            go_simp
            try with_reducible rfl
          simp only [Act.put, List.setIfInBounds_toArray, List.set_cons_zero, List.set_cons_succ]
          refine wpAnyH_at 20 (v := ?vv347) rfl (by kernel_rfl) (by kernel_rfl) (by kernel_rfl) (fun _ _ _ h => h) ?hy347 HSv ?hh347
          case hy347 =>
            refine Or.inl ⟨by rfl, ?_⟩
            intro W hW
            obtain ⟨h0, h1, h2, h3, h4, h5, h6, h7⟩ := hW
            go_simp
            try with_reducible rfl
          simp only [Act.put, List.setIfInBounds_toArray, List.set_cons_zero, List.set_cons_succ]
          refine wpAnyH_at 22 (v := ?vv348) rfl (by kernel_rfl) (by kernel_rfl) (by kernel_rfl) (fun _ _ _ h => h) ?hy348 HSv ?hh348
          case hy348 =>
            refine Or.inl ⟨by rfl, ?_⟩
            intro W hW
            obtain ⟨h0, h1, h2, h3, h4, h5, h6, h7⟩ := hW
            go_simp
            try with_reducible rfl
          simp only [Act.put, List.setIfInBounds_toArray, List.set_cons_zero, List.set_cons_succ]
          refine wpAnyH_end 23 (fun j hj => rgH_end _ _ j (by omega)) (by rfl) (by kernel_rfl) ?_
          simp only [List.drop_succ_cons, List.drop_zero]
          clear HSv
          go_wp2_with fail
          go_ret2
          exact ⟨tb, okt, HG.out wE B HN.out.1 HN.out.2, HW.out.1, HW.out.2⟩
      · intro K hK
        rw [if_pos (by rfl)]
        try go_simp
        have bA : Below W2.heap.size W2 (W2.alloc (.cells #[.int .i64 3] 3 (0, 0))) := (Below.refl _ _).alloc (Nat.le_refl _) _
        have hz := at1 W2 (.cells #[.int .i64 3] 3 (0, 0))
        generalize hW3 : W2.alloc (.cells #[.int .i64 3] 3 (0, 0)) = W3 at bA hz ⊢
        obtain ⟨ib, hib⟩ : ∃ ib, ib = W2.heap.size := ⟨_, rfl⟩
        rw [← hib] at hz ⊢
        have HI := Lib.hid hz
        have HR := Lib.hid (HR.out.below bA)
        have HB := Lib.hid (HB.out.trans (bA.mono HB.out.size))
        have HSv : (fun Y : World => Y.cell? ⟨w.heap.size, 0, none⟩ = some (.int .i64 c.mru) ∧ Y.cell? ⟨w.heap.size, 1, none⟩ = some (.int .i64 c.auth) ∧ Y.cell? ⟨w.heap.size, 2, none⟩ = some (.int .i64 c.magic) ∧ Y.cell? ⟨w.heap.size, 3, none⟩ = some (.int .i64 c.echo) ∧ Y.cell? ⟨w.heap.size, 4, none⟩ = some (.int .i64 c.cf) ∧ Y.cell? ⟨w.heap.size, 5, none⟩ = some (.int .i64 c.tm) ∧ Y.cell? ⟨w.heap.size, 6, none⟩ = some (.int .i64 c.fl) ∧ Y.cell? ⟨w.heap.size, 7, none⟩ = some (.int .i64 c.wt)) W3 := HS.out _ HB.out
        refine hK _ _ (fun _ => HSv) ?_
        try simp only [Act.put, List.setIfInBounds_toArray, List.set_cons_zero, List.set_cons_succ]
        clear bA hz hW3 hib
        refine wpAnyH_1 2 rfl (by kernel_rfl) ?_
        intro K hK
        rw [if_pos (by rfl)]
        try go_simp
        go_at_call 35
        refine (units_any 1492 _).mono ?_
        rintro e W4 ⟨rfl, bA⟩
        have HR := Lib.hid (HR.out.below bA)
        have HB := Lib.hid (HB.out.trans (bA.mono HB.out.size))
        have HSv : (fun Y : World => Y.cell? ⟨w.heap.size, 0, none⟩ = some (.int .i64 c.mru) ∧ Y.cell? ⟨w.heap.size, 1, none⟩ = some (.int .i64 c.auth) ∧ Y.cell? ⟨w.heap.size, 2, none⟩ = some (.int .i64 c.magic) ∧ Y.cell? ⟨w.heap.size, 3, none⟩ = some (.int .i64 c.echo) ∧ Y.cell? ⟨w.heap.size, 4, none⟩ = some (.int .i64 c.cf) ∧ Y.cell? ⟨w.heap.size, 5, none⟩ = some (.int .i64 c.tm) ∧ Y.cell? ⟨w.heap.size, 6, none⟩ = some (.int .i64 c.fl) ∧ Y.cell? ⟨w.heap.size, 7, none⟩ = some (.int .i64 c.wt)) W4 := HS.out _ HB.out
        have HI := Lib.hid ((bA.block _ (Array.getElem?_eq_some_iff.1 HI.out).1).trans HI.out)
        refine hK _ _ (fun _ => HSv) ?_
        try simp only [Act.put, List.setIfInBounds_toArray, List.set_cons_zero, List.set_cons_succ]
        clear bA
        refine wpAnyH_1 3 rfl (by kernel_rfl) ?_
        intro K hK
        rw [if_pos (by rfl)]
        try go_simp
        go_at_call 36
        refine (magics_any _).mono ?_
        rintro e W5 ⟨rfl, bA⟩
        have HR := Lib.hid (HR.out.below bA)
        have HB := Lib.hid (HB.out.trans (bA.mono HB.out.size))
        have HSv : (fun Y : World => Y.cell? ⟨w.heap.size, 0, none⟩ = some (.int .i64 c.mru) ∧ Y.cell? ⟨w.heap.size, 1, none⟩ = some (.int .i64 c.auth) ∧ Y.cell? ⟨w.heap.size, 2, none⟩ = some (.int .i64 c.magic) ∧ Y.cell? ⟨w.heap.size, 3, none⟩ = some (.int .i64 c.echo) ∧ Y.cell? ⟨w.heap.size, 4, none⟩ = some (.int .i64 c.cf) ∧ Y.cell? ⟨w.heap.size, 5, none⟩ = some (.int .i64 c.tm) ∧ Y.cell? ⟨w.heap.size, 6, none⟩ = some (.int .i64 c.fl) ∧ Y.cell? ⟨w.heap.size, 7, none⟩ = some (.int .i64 c.wt)) W5 := HS.out _ HB.out
        have HI := Lib.hid ((bA.block _ (Array.getElem?_eq_some_iff.1 HI.out).1).trans HI.out)
        refine hK _ _ (fun _ => HSv) ?_
        try simp only [Act.put, List.setIfInBounds_toArray, List.set_cons_zero, List.set_cons_succ]
        clear bA
        refine wpAnyH_1 4 rfl (by kernel_rfl) ?_
        intro K hK
        rw [if_pos (by rfl)]
        try go_simp
        have bA : Below W5.heap.size W5 (W5.alloc (.cells #[.int .i64 1, .int .i64 2, .int .i64 64, .int .i64 1492, .string (be2 1492), .int .i64 5, .int .i64 4, .int .i64 1, .int .i64 4294967295, .string (be4 1)] 73 (0, 0))) := (Below.refl _ _).alloc (Nat.le_refl _) _
        have hz := at1 W5 (.cells #[.int .i64 1, .int .i64 2, .int .i64 64, .int .i64 1492, .string (be2 1492), .int .i64 5, .int .i64 4, .int .i64 1, .int .i64 4294967295, .string (be4 1)] 73 (0, 0))
        generalize hW6 : W5.alloc (.cells #[.int .i64 1, .int .i64 2, .int .i64 64, .int .i64 1492, .string (be2 1492), .int .i64 5, .int .i64 4, .int .i64 1, .int .i64 4294967295, .string (be4 1)] 73 (0, 0)) = W6 at bA hz ⊢
        obtain ⟨rb, hrb⟩ : ∃ rb, rb = W5.heap.size := ⟨_, rfl⟩
        rw [← hrb] at hz ⊢
        have HRu := Lib.hid hz
        have HR := Lib.hid (HR.out.below bA)
        have HB := Lib.hid (HB.out.trans (bA.mono HB.out.size))
        have HSv : (fun Y : World => Y.cell? ⟨w.heap.size, 0, none⟩ = some (.int .i64 c.mru) ∧ Y.cell? ⟨w.heap.size, 1, none⟩ = some (.int .i64 c.auth) ∧ Y.cell? ⟨w.heap.size, 2, none⟩ = some (.int .i64 c.magic) ∧ Y.cell? ⟨w.heap.size, 3, none⟩ = some (.int .i64 c.echo) ∧ Y.cell? ⟨w.heap.size, 4, none⟩ = some (.int .i64 c.cf) ∧ Y.cell? ⟨w.heap.size, 5, none⟩ = some (.int .i64 c.tm) ∧ Y.cell? ⟨w.heap.size, 6, none⟩ = some (.int .i64 c.fl) ∧ Y.cell? ⟨w.heap.size, 7, none⟩ = some (.int .i64 c.wt)) W6 := HS.out _ HB.out
        have HI := Lib.hid ((bA.block _ (Array.getElem?_eq_some_iff.1 HI.out).1).trans HI.out)
        refine hK _ _ (fun _ => HSv) ?_
        try simp only [Act.put, List.setIfInBounds_toArray, List.set_cons_zero, List.set_cons_succ]
        clear bA hz hW6 hrb
        refine wpAnyH_at 14 (v := ?vv349) rfl (by kernel_rfl) (by kernel_rfl) (by kernel_rfl) (fun _ _ _ h => h) ?hy349 HSv ?hh349
        case hy349 =>
          refine Or.inl ⟨by rfl, ?_⟩
          intro W hW
          obtain ⟨h0, h1, h2, h3, h4, h5, h6, h7⟩ := hW
          go_simp
          try with_reducible rfl
        simp only [Act.put, List.setIfInBounds_toArray, List.set_cons_zero, List.set_cons_succ]
        refine wpAnyH_1 17 rfl (by kernel_rfl) ?_
        intro K hK
        rw [if_pos (by rfl)]
        try go_simp
        go_at_call 34
        refine (HNN.out lb W1 W6 sA cA rb ib HB.out HR.out HRu.out HI.out).mono ?_
        rintro e wE ⟨B, rfl, nE, bE⟩
        have zl := (bE.block lb (Array.getElem?_eq_some_iff.1 HZ.out.2.1).1).trans HZ.out.2.1
        have f0 := fzOf zl 0
        have c0 : wE.cell? ⟨lb, 0, none⟩ = some (.pointer none) := cellOf zl 0 _ rfl
        have HN := Lib.hid (And.intro bE nE)
        have HSv : (fun Y : World => Y.cell? ⟨w.heap.size, 0, none⟩ = some (.int .i64 c.mru) ∧ Y.cell? ⟨w.heap.size, 1, none⟩ = some (.int .i64 c.auth) ∧ Y.cell? ⟨w.heap.size, 2, none⟩ = some (.int .i64 c.magic) ∧ Y.cell? ⟨w.heap.size, 3, none⟩ = some (.int .i64 c.echo) ∧ Y.cell? ⟨w.heap.size, 4, none⟩ = some (.int .i64 c.cf) ∧ Y.cell? ⟨w.heap.size, 5, none⟩ = some (.int .i64 c.tm) ∧ Y.cell? ⟨w.heap.size, 6, none⟩ = some (.int .i64 c.fl) ∧ Y.cell? ⟨w.heap.size, 7, none⟩ = some (.int .i64 c.wt)) wE := HS.out _ bE
        clear bE nE zl
        refine hK _ _ (fun _ => HSv) ?_
        try simp only [Act.put, List.setIfInBounds_toArray, List.set_cons_zero, List.set_cons_succ]
        refine wpAnyH_at 18 (v := ?vv350) rfl (by kernel_rfl) (by kernel_rfl) (by kernel_rfl) (fun _ _ _ h => h) ?hy350 HSv ?hh350
        case hy350 =>
          refine Or.inl ⟨by rfl, ?_⟩
          intro W hW
          obtain ⟨h0, h1, h2, h3, h4, h5, h6, h7⟩ := hW
          go_simp
          try with_reducible rfl
        simp only [Act.put, List.setIfInBounds_toArray, List.set_cons_zero, List.set_cons_succ]
        refine wpAnyH_at 19 (v := ?vv351) rfl (by kernel_rfl) (by kernel_rfl) (by kernel_rfl) (fun _ _ _ h => h) ?hy351 HSv ?hh351
        case hy351 =>
          refine Or.inl ⟨by rfl, ?_⟩
          intro W hW
          obtain ⟨h0, h1, h2, h3, h4, h5, h6, h7⟩ := hW
          go_simp
          try with_reducible rfl
        simp only [Act.put, List.setIfInBounds_toArray, List.set_cons_zero, List.set_cons_succ]
        refine wpAnyH_at 21 (v := ?vv352) rfl (by kernel_rfl) (by kernel_rfl) (by kernel_rfl) (fun _ _ _ h => h) ?hy352 HSv ?hh352
        case hy352 =>
          refine Or.inl ⟨by rfl, ?_⟩
          intro W hW
          obtain ⟨h0, h1, h2, h3, h4, h5, h6, h7⟩ := hW
          go_simp
          try with_reducible rfl
        simp only [Act.put, List.setIfInBounds_toArray, List.set_cons_zero, List.set_cons_succ]
        refine wpAnyH_at 20 (v := ?vv353) rfl (by kernel_rfl) (by kernel_rfl) (by kernel_rfl) (fun _ _ _ h => h) ?hy353 HSv ?hh353
        case hy353 =>
          refine Or.inl ⟨by rfl, ?_⟩
          intro W hW
          obtain ⟨h0, h1, h2, h3, h4, h5, h6, h7⟩ := hW
          go_simp
          try with_reducible rfl
        simp only [Act.put, List.setIfInBounds_toArray, List.set_cons_zero, List.set_cons_succ]
        refine wpAnyH_at 22 (v := ?vv354) rfl (by kernel_rfl) (by kernel_rfl) (by kernel_rfl) (fun _ _ _ h => h) ?hy354 HSv ?hh354
        case hy354 =>
          refine Or.inl ⟨by rfl, ?_⟩
          intro W hW
          obtain ⟨h0, h1, h2, h3, h4, h5, h6, h7⟩ := hW
          go_simp
          try with_reducible rfl
        simp only [Act.put, List.setIfInBounds_toArray, List.set_cons_zero, List.set_cons_succ]
        refine wpAnyH_end 23 (fun j hj => rgH_end _ _ j (by omega)) (by rfl) (by kernel_rfl) ?_
        simp only [List.drop_succ_cons, List.drop_zero]
        clear HSv
        go_wp2_with fail
        go_ret2
        exact ⟨tb, okt, HG.out wE B HN.out.1 HN.out.2, HW.out.1, HW.out.2⟩
    · intro K hK
      rw [if_pos (by rfl)]
      try go_simp
      have bA : Below W.heap.size W (W.alloc (.cells #[.int .i64 3] 3 (0, 0))) := (Below.refl _ _).alloc (Nat.le_refl _) _
      have hz := at1 W (.cells #[.int .i64 3] 3 (0, 0))
      generalize hW2 : W.alloc (.cells #[.int .i64 3] 3 (0, 0)) = W2 at bA hz ⊢
      obtain ⟨ib, hib⟩ : ∃ ib, ib = W.heap.size := ⟨_, rfl⟩
      rw [← hib] at hz ⊢
      have HI := Lib.hid hz
      have HB := Lib.hid (HB.out.trans (bA.mono HB.out.size))
      have HSv : (fun Y : World => Y.cell? ⟨w.heap.size, 0, none⟩ = some (.int .i64 c.mru) ∧ Y.cell? ⟨w.heap.size, 1, none⟩ = some (.int .i64 c.auth) ∧ Y.cell? ⟨w.heap.size, 2, none⟩ = some (.int .i64 c.magic) ∧ Y.cell? ⟨w.heap.size, 3, none⟩ = some (.int .i64 c.echo) ∧ Y.cell? ⟨w.heap.size, 4, none⟩ = some (.int .i64 c.cf) ∧ Y.cell? ⟨w.heap.size, 5, none⟩ = some (.int .i64 c.tm) ∧ Y.cell? ⟨w.heap.size, 6, none⟩ = some (.int .i64 c.fl) ∧ Y.cell? ⟨w.heap.size, 7, none⟩ = some (.int .i64 c.wt)) W2 := HS.out _ HB.out
      refine hK _ _ (fun _ => HSv) ?_
      try simp only [Act.put, List.setIfInBounds_toArray, List.set_cons_zero, List.set_cons_succ]
      clear bA hz hW2 hib
      refine wpAnyH_1 1 rfl (by kernel_rfl) ?_
      intro K hK
      rw [if_pos (by rfl)]
      try go_simp
      go_at_call 18
      refine (HLO.out _).mono ?_
      rintro e W3 ⟨vA, rfl, rA, bA⟩
      obtain ⟨sA, cA, rfl⟩ := rA.form
      have HR := Lib.hid (rA.base HB.out.size)
      have HB := Lib.hid (HB.out.trans (bA.mono HB.out.size))
      have HSv : (fun Y : World => Y.cell? ⟨w.heap.size, 0, none⟩ = some (.int .i64 c.mru) ∧ Y.cell? ⟨w.heap.size, 1, none⟩ = some (.int .i64 c.auth) ∧ Y.cell? ⟨w.heap.size, 2, none⟩ = some (.int .i64 c.magic) ∧ Y.cell? ⟨w.heap.size, 3, none⟩ = some (.int .i64 c.echo) ∧ Y.cell? ⟨w.heap.size, 4, none⟩ = some (.int .i64 c.cf) ∧ Y.cell? ⟨w.heap.size, 5, none⟩ = some (.int .i64 c.tm) ∧ Y.cell? ⟨w.heap.size, 6, none⟩ = some (.int .i64 c.fl) ∧ Y.cell? ⟨w.heap.size, 7, none⟩ = some (.int .i64 c.wt)) W3 := HS.out _ HB.out
      have HI := Lib.hid ((bA.block _ (Array.getElem?_eq_some_iff.1 HI.out).1).trans HI.out)
      refine hK _ _ (fun _ => HSv) ?_
      try simp only [Act.put, List.setIfInBounds_toArray, List.set_cons_zero, List.set_cons_succ]
      clear rA bA
      refine wpAnyH_1 2 rfl (by kernel_rfl) ?_
      intro K hK
      rw [if_pos (by rfl)]
      try go_simp
      go_at_call 35
      refine (units_any 1492 _).mono ?_
      rintro e W4 ⟨rfl, bA⟩
      have HR := Lib.hid (HR.out.below bA)
      have HB := Lib.hid (HB.out.trans (bA.mono HB.out.size))
      have HSv : (fun Y : World => Y.cell? ⟨w.heap.size, 0, none⟩ = some (.int .i64 c.mru) ∧ Y.cell? ⟨w.heap.size, 1, none⟩ = some (.int .i64 c.auth) ∧ Y.cell? ⟨w.heap.size, 2, none⟩ = some (.int .i64 c.magic) ∧ Y.cell? ⟨w.heap.size, 3, none⟩ = some (.int .i64 c.echo) ∧ Y.cell? ⟨w.heap.size, 4, none⟩ = some (.int .i64 c.cf) ∧ Y.cell? ⟨w.heap.size, 5, none⟩ = some (.int .i64 c.tm) ∧ Y.cell? ⟨w.heap.size, 6, none⟩ = some (.int .i64 c.fl) ∧ Y.cell? ⟨w.heap.size, 7, none⟩ = some (.int .i64 c.wt)) W4 := HS.out _ HB.out
      have HI := Lib.hid ((bA.block _ (Array.getElem?_eq_some_iff.1 HI.out).1).trans HI.out)
      refine hK _ _ (fun _ => HSv) ?_
      try simp only [Act.put, List.setIfInBounds_toArray, List.set_cons_zero, List.set_cons_succ]
      clear bA
      refine wpAnyH_1 3 rfl (by kernel_rfl) ?_
      intro K hK
      rw [if_pos (by rfl)]
      try go_simp
      go_at_call 36
      refine (magics_any _).mono ?_
      rintro e W5 ⟨rfl, bA⟩
      have HR := Lib.hid (HR.out.below bA)
      have HB := Lib.hid (HB.out.trans (bA.mono HB.out.size))
      have HSv : (fun Y : World => Y.cell? ⟨w.heap.size, 0, none⟩ = some (.int .i64 c.mru) ∧ Y.cell? ⟨w.heap.size, 1, none⟩ = some (.int .i64 c.auth) ∧ Y.cell? ⟨w.heap.size, 2, none⟩ = some (.int .i64 c.magic) ∧ Y.cell? ⟨w.heap.size, 3, none⟩ = some (.int .i64 c.echo) ∧ Y.cell? ⟨w.heap.size, 4, none⟩ = some (.int .i64 c.cf) ∧ Y.cell? ⟨w.heap.size, 5, none⟩ = some (.int .i64 c.tm) ∧ Y.cell? ⟨w.heap.size, 6, none⟩ = some (.int .i64 c.fl) ∧ Y.cell? ⟨w.heap.size, 7, none⟩ = some (.int .i64 c.wt)) W5 := HS.out _ HB.out
      have HI := Lib.hid ((bA.block _ (Array.getElem?_eq_some_iff.1 HI.out).1).trans HI.out)
      refine hK _ _ (fun _ => HSv) ?_
      try simp only [Act.put, List.setIfInBounds_toArray, List.set_cons_zero, List.set_cons_succ]
      clear bA
      refine wpAnyH_1 4 rfl (by kernel_rfl) ?_
      intro K hK
      rw [if_pos (by rfl)]
      try go_simp
      have bA : Below W5.heap.size W5 (W5.alloc (.cells #[.int .i64 1, .int .i64 2, .int .i64 64, .int .i64 1492, .string (be2 1492), .int .i64 5, .int .i64 4, .int .i64 1, .int .i64 4294967295, .string (be4 1)] 73 (0, 0))) := (Below.refl _ _).alloc (Nat.le_refl _) _
      have hz := at1 W5 (.cells #[.int .i64 1, .int .i64 2, .int .i64 64, .int .i64 1492, .string (be2 1492), .int .i64 5, .int .i64 4, .int .i64 1, .int .i64 4294967295, .string (be4 1)] 73 (0, 0))
      generalize hW6 : W5.alloc (.cells #[.int .i64 1, .int .i64 2, .int .i64 64, .int .i64 1492, .string (be2 1492), .int .i64 5, .int .i64 4, .int .i64 1, .int .i64 4294967295, .string (be4 1)] 73 (0, 0)) = W6 at bA hz ⊢
      obtain ⟨rb, hrb⟩ : ∃ rb, rb = W5.heap.size := ⟨_, rfl⟩
      rw [← hrb] at hz ⊢
      have HRu := Lib.hid hz
      have HR := Lib.hid (HR.out.below bA)
      have HB := Lib.hid (HB.out.trans (bA.mono HB.out.size))
      have HSv : (fun Y : World => Y.cell? ⟨w.heap.size, 0, none⟩ = some (.int .i64 c.mru) ∧ Y.cell? ⟨w.heap.size, 1, none⟩ = some (.int .i64 c.auth) ∧ Y.cell? ⟨w.heap.size, 2, none⟩ = some (.int .i64 c.magic) ∧ Y.cell? ⟨w.heap.size, 3, none⟩ = some (.int .i64 c.echo) ∧ Y.cell? ⟨w.heap.size, 4, none⟩ = some (.int .i64 c.cf) ∧ Y.cell? ⟨w.heap.size, 5, none⟩ = some (.int .i64 c.tm) ∧ Y.cell? ⟨w.heap.size, 6, none⟩ = some (.int .i64 c.fl) ∧ Y.cell? ⟨w.heap.size, 7, none⟩ = some (.int .i64 c.wt)) W6 := HS.out _ HB.out
      have HI := Lib.hid ((bA.block _ (Array.getElem?_eq_some_iff.1 HI.out).1).trans HI.out)
      refine hK _ _ (fun _ => HSv) ?_
      try simp only [Act.put, List.setIfInBounds_toArray, List.set_cons_zero, List.set_cons_succ]
      clear bA hz hW6 hrb
      refine wpAnyH_at 14 (v := ?vv355) rfl (by kernel_rfl) (by kernel_rfl) (by kernel_rfl) (fun _ _ _ h => h) ?hy355 HSv ?hh355
      case hy355 =>
        refine Or.inl ⟨by rfl, ?_⟩
        intro W hW
        obtain ⟨h0, h1, h2, h3, h4, h5, h6, h7⟩ := hW
        go_simp
        try with_reducible rfl
      simp only [Act.put, List.setIfInBounds_toArray, List.set_cons_zero, List.set_cons_succ]
      refine wpAnyH_1 17 rfl (by kernel_rfl) ?_
      intro K hK
      rw [if_pos (by rfl)]
      try go_simp
      go_at_call 34
      refine (HNN.out lb W1 W6 sA cA rb ib HB.out HR.out HRu.out HI.out).mono ?_
      rintro e wE ⟨B, rfl, nE, bE⟩
      have zl := (bE.block lb (Array.getElem?_eq_some_iff.1 HZ.out.2.1).1).trans HZ.out.2.1
      have f0 := fzOf zl 0
      have c0 : wE.cell? ⟨lb, 0, none⟩ = some (.pointer none) := cellOf zl 0 _ rfl
      have HN := Lib.hid (And.intro bE nE)
      have HSv : (fun Y : World => Y.cell? ⟨w.heap.size, 0, none⟩ = some (.int .i64 c.mru) ∧ Y.cell? ⟨w.heap.size, 1, none⟩ = some (.int .i64 c.auth) ∧ Y.cell? ⟨w.heap.size, 2, none⟩ = some (.int .i64 c.magic) ∧ Y.cell? ⟨w.heap.size, 3, none⟩ = some (.int .i64 c.echo) ∧ Y.cell? ⟨w.heap.size, 4, none⟩ = some (.int .i64 c.cf) ∧ Y.cell? ⟨w.heap.size, 5, none⟩ = some (.int .i64 c.tm) ∧ Y.cell? ⟨w.heap.size, 6, none⟩ = some (.int .i64 c.fl) ∧ Y.cell? ⟨w.heap.size, 7, none⟩ = some (.int .i64 c.wt)) wE := HS.out _ bE
      clear bE nE zl
      refine hK _ _ (fun _ => HSv) ?_
      try simp only [Act.put, List.setIfInBounds_toArray, List.set_cons_zero, List.set_cons_succ]
      refine wpAnyH_at 18 (v := ?vv356) rfl (by kernel_rfl) (by kernel_rfl) (by kernel_rfl) (fun _ _ _ h => h) ?hy356 HSv ?hh356
      case hy356 =>
        refine Or.inl ⟨by rfl, ?_⟩
        intro W hW
        obtain ⟨h0, h1, h2, h3, h4, h5, h6, h7⟩ := hW
        go_simp
        try with_reducible rfl
      simp only [Act.put, List.setIfInBounds_toArray, List.set_cons_zero, List.set_cons_succ]
      refine wpAnyH_at 19 (v := ?vv357) rfl (by kernel_rfl) (by kernel_rfl) (by kernel_rfl) (fun _ _ _ h => h) ?hy357 HSv ?hh357
      case hy357 =>
        refine Or.inl ⟨by rfl, ?_⟩
        intro W hW
        obtain ⟨h0, h1, h2, h3, h4, h5, h6, h7⟩ := hW
        go_simp
        try with_reducible rfl
      simp only [Act.put, List.setIfInBounds_toArray, List.set_cons_zero, List.set_cons_succ]
      refine wpAnyH_at 21 (v := ?vv358) rfl (by kernel_rfl) (by kernel_rfl) (by kernel_rfl) (fun _ _ _ h => h) ?hy358 HSv ?hh358
      case hy358 =>
        refine Or.inl ⟨by rfl, ?_⟩
        intro W hW
        obtain ⟨h0, h1, h2, h3, h4, h5, h6, h7⟩ := hW
        go_simp
        try with_reducible rfl
      simp only [Act.put, List.setIfInBounds_toArray, List.set_cons_zero, List.set_cons_succ]
      refine wpAnyH_at 20 (v := ?vv359) rfl (by kernel_rfl) (by kernel_rfl) (by kernel_rfl) (fun _ _ _ h => h) ?hy359 HSv ?hh359
      case hy359 =>
        refine Or.inl ⟨by rfl, ?_⟩
        intro W hW
        obtain ⟨h0, h1, h2, h3, h4, h5, h6, h7⟩ := hW
        go_simp
        try with_reducible rfl
      simp only [Act.put, List.setIfInBounds_toArray, List.set_cons_zero, List.set_cons_succ]
      refine wpAnyH_at 22 (v := ?vv360) rfl (by kernel_rfl) (by kernel_rfl) (by kernel_rfl) (fun _ _ _ h => h) ?hy360 HSv ?hh360
      case hy360 =>
        refine Or.inl ⟨by rfl, ?_⟩
        intro W hW
        obtain ⟨h0, h1, h2, h3, h4, h5, h6, h7⟩ := hW
        go_simp
        try with_reducible rfl
      simp only [Act.put, List.setIfInBounds_toArray, List.set_cons_zero, List.set_cons_succ]
      refine wpAnyH_end 23 (fun j hj => rgH_end _ _ j (by omega)) (by rfl) (by kernel_rfl) ?_
      simp only [List.drop_succ_cons, List.drop_zero]
      clear HSv
      go_wp2_with fail
      go_ret2
      exact ⟨tb, okt, HG.out wE B HN.out.1 HN.out.2, HW.out.1, HW.out.2⟩
  · have ea : (c.auth != 0) = true := by simpa using h0
    have ev := hva h0
    clear hva h0
    go_enter Tryz.func12, Tryz.ntmps12
    go_wp2_with (first
      | (go_at_call 32; first | with_reducible refine (HL.out.1 _).mono ?_ | with_reducible refine (HL.out.2.1 _).mono ?_ | with_reducible refine (HL.out.2.2 _).mono ?_
         rintro e w1 ⟨rfl, rfl⟩)
      | (go_at_call 33; refine (HV.out _).mono ?_; rintro e wu ⟨rfl, hb⟩
         have hz := (hb.block w.heap.size (by have := HB0.out.2.2; unfold cfgO at this; rw [this]; omega)).trans HB0.out.2.1
         have HZ0 := Lib.hid (And.intro (HB0.out.1.trans (hb.mono (by have := HB0.out.1.size; exact this))) hz)
         unfold cfgO at hz
         have x0 := cellOf hz 0 _ rfl
         have x1 := cellOf hz 1 _ rfl
         have x2 := cellOf hz 2 _ rfl
         have x3 := cellOf hz 3 _ rfl
         have x4 := cellOf hz 4 _ rfl
         have x5 := cellOf hz 5 _ rfl
         have x6 := cellOf hz 6 _ rfl
         have x7 := cellOf hz 7 _ rfl
         clear hb hz)
      | (go_at_call 13; refine (tapeNew_any [] _ (fun _ => False) _ (Rec.nil _ _ _) (fun _ h => by cases h) (by decide)).mono ?_; rintro e wv ⟨tb, rfl, t5, s5, b5⟩
         have HT5 := Lib.hid (And.intro t5 (And.intro t5.lt (Nat.le_trans HZ0.out.1.size s5)))
         have HZ := Lib.hid (show Below w.heap.size w wv ∧ wv.heap[w.heap.size]? = some (cfgO c) from ⟨HZ0.out.1.trans (b5.mono HZ0.out.1.size), (b5.block _ (Array.getElem?_eq_some_iff.1 HZ0.out.2).1).trans HZ0.out.2⟩)
         have hz := HZ.out.2
         unfold cfgO at hz
         have x0 := cellOf hz 0 _ rfl
         have x1 := cellOf hz 1 _ rfl
         have x2 := cellOf hz 2 _ rfl
         have x3 := cellOf hz 3 _ rfl
         have x4 := cellOf hz 4 _ rfl
         have x5 := cellOf hz 5 _ rfl
         have x6 := cellOf hz 6 _ rfl
         have x7 := cellOf hz 7 _ rfl
         clear t5 s5 b5 hz))
    clear x0 x1 x2 x3 x4 x5 x6 x7
    have hz1 : (wv.alloc (.cells #[.pointer none, .pointer (some ⟨tb, 0, none⟩), .int .i64 c.echo, .int .i64 c.magic, .int .i64 0, .int .i64 0, .int .i64 0] 64 (0, 0))).heap[w.heap.size]? = some (cfgO c) := (Below.heap_alloc _ _ _ (Array.getElem?_eq_some_iff.1 HZ.out.2).1).trans HZ.out.2
    have hl1 := at1 wv (.cells #[.pointer none, .pointer (some ⟨tb, 0, none⟩), .int .i64 c.echo, .int .i64 c.magic, .int .i64 0, .int .i64 0, .int .i64 0] 64 (0, 0))
    have hw1 : Below w.heap.size w (wv.alloc (.cells #[.pointer none, .pointer (some ⟨tb, 0, none⟩), .int .i64 c.echo, .int .i64 c.magic, .int .i64 0, .int .i64 0, .int .i64 0] 64 (0, 0))) := HZ.out.1.alloc HZ.out.1.size _
    have hs1 := alloc1 wv (.cells #[.pointer none, .pointer (some ⟨tb, 0, none⟩), .int .i64 c.echo, .int .i64 c.magic, .int .i64 0, .int .i64 0, .int .i64 0] 64 (0, 0))
    have hlb : w.heap.size < wv.heap.size := (Array.getElem?_eq_some_iff.1 HZ.out.2).1
    obtain ⟨okt, hokt⟩ : ∃ okt : Nat → Prop, okt = fun b => wu.heap.size ≤ b ∧ b < tb := ⟨_, rfl⟩
    have ht1 : TapeAt (wv.alloc (.cells #[.pointer none, .pointer (some ⟨tb, 0, none⟩), .int .i64 c.echo, .int .i64 c.magic, .int .i64 0, .int .i64 0, .int .i64 0] 64 (0, 0))) tb okt ⟨[], 0⟩ := by rw [hokt]; exact HT5.out.1.below ((Below.refl _ _).alloc (Nat.le_refl _) _)
    have htl := HT5.out.2.1
    have HW := Lib.hid (And.intro (show ∀ b, okt b → w.heap.size ≤ b from fun b hb => by rw [hokt] at hb; exact Nat.le_trans HZ0.out.1.size hb.1) HT5.out.2.2)
    have HOK := Lib.hid (show ∀ b, okt b → b < tb from fun b hb => by rw [hokt] at hb; exact hb.2)
    obtain ⟨lb, hlbe⟩ : ∃ lb, lb = wv.heap.size := ⟨_, rfl⟩
    generalize hW1 : wv.alloc (.cells #[.pointer none, .pointer (some ⟨tb, 0, none⟩), .int .i64 c.echo, .int .i64 c.magic, .int .i64 0, .int .i64 0, .int .i64 0] 64 (0, 0)) = W1 at hz1 hl1 hw1 hs1 ht1 ⊢
    rw [← hlbe] at hl1 hs1 hlb htl ⊢
    clear hW1 hlbe HZ hokt HT5
    have HZ := Lib.hid (And.intro hz1 (And.intro hl1 (And.intro hw1 (And.intro hs1 hlb))))
    have HS : Hid (∀ W, Below W1.heap.size W1 W → (fun Y : World => Y.cell? ⟨w.heap.size, 0, none⟩ = some (.int .i64 c.mru) ∧ Y.cell? ⟨w.heap.size, 1, none⟩ = some (.int .i64 c.auth) ∧ Y.cell? ⟨w.heap.size, 2, none⟩ = some (.int .i64 c.magic) ∧ Y.cell? ⟨w.heap.size, 3, none⟩ = some (.int .i64 c.echo) ∧ Y.cell? ⟨w.heap.size, 4, none⟩ = some (.int .i64 c.cf) ∧ Y.cell? ⟨w.heap.size, 5, none⟩ = some (.int .i64 c.tm) ∧ Y.cell? ⟨w.heap.size, 6, none⟩ = some (.int .i64 c.fl) ∧ Y.cell? ⟨w.heap.size, 7, none⟩ = some (.int .i64 c.wt)) W) := Lib.hid fun W hW => by
      have h : W.heap[w.heap.size]? = some (.cells #[.int .i64 c.mru, .int .i64 c.auth, .int .i64 c.magic, .int .i64 c.echo, .int .i64 c.cf, .int .i64 c.tm, .int .i64 c.fl, .int .i64 c.wt] 24 (0, 0)) := (hW.block _ (by have := HZ.out.2.2.2.1; have := HZ.out.2.2.2.2; omega)).trans HZ.out.1
      exact ⟨cellOf h 0 _ rfl, cellOf h 1 _ rfl, cellOf h 2 _ rfl, cellOf h 3 _ rfl, cellOf h 4 _ rfl, cellOf h 5 _ rfl, cellOf h 6 _ rfl, cellOf h 7 _ rfl⟩
    have HLO := Lib.hid (fun W => lopts_any c W HIA.out)
    unfold cfgV at HLO
    have a1 : ∀ (W : World) (O : Obj), W.heap.size < (W.alloc O).heap.size := fun W O => by rw [alloc1]; omega
    have HA1 := Lib.hid a1
    have HG := Lib.hid (fun wE B bE nE => lnew_end (c := c) (w := w) (W1 := W1) (wE := wE) (lb := lb) (tb := tb) (okt := okt) (t := ⟨[], 0⟩) (B := B) hw1 hl1 ht1 (fun b hb => by have := HOK.out b hb; omega) (by omega) (by omega) bE nE)
    obtain ⟨y0, y1, y2, y3, y4, y5, y6, y7⟩ := HS.out W1.drew (Below.refl _ _).drew
    clear hz1 hl1 hw1 hs1 hlb a1 ht1 htl
    refine wp_region_H (rgH 0 23) (fun Y : World => Y.cell? ⟨w.heap.size, 0, none⟩ = some (.int .i64 c.mru) ∧ Y.cell? ⟨w.heap.size, 1, none⟩ = some (.int .i64 c.auth) ∧ Y.cell? ⟨w.heap.size, 2, none⟩ = some (.int .i64 c.magic) ∧ Y.cell? ⟨w.heap.size, 3, none⟩ = some (.int .i64 c.echo) ∧ Y.cell? ⟨w.heap.size, 4, none⟩ = some (.int .i64 c.cf) ∧ Y.cell? ⟨w.heap.size, 5, none⟩ = some (.int .i64 c.tm) ∧ Y.cell? ⟨w.heap.size, 6, none⟩ = some (.int .i64 c.fl) ∧ Y.cell? ⟨w.heap.size, 7, none⟩ = some (.int .i64 c.wt)) (by kernel_rfl) ?_
    have HSv : (fun Y : World => Y.cell? ⟨w.heap.size, 0, none⟩ = some (.int .i64 c.mru) ∧ Y.cell? ⟨w.heap.size, 1, none⟩ = some (.int .i64 c.auth) ∧ Y.cell? ⟨w.heap.size, 2, none⟩ = some (.int .i64 c.magic) ∧ Y.cell? ⟨w.heap.size, 3, none⟩ = some (.int .i64 c.echo) ∧ Y.cell? ⟨w.heap.size, 4, none⟩ = some (.int .i64 c.cf) ∧ Y.cell? ⟨w.heap.size, 5, none⟩ = some (.int .i64 c.tm) ∧ Y.cell? ⟨w.heap.size, 6, none⟩ = some (.int .i64 c.fl) ∧ Y.cell? ⟨w.heap.size, 7, none⟩ = some (.int .i64 c.wt)) W1.drew := HS.out _ (Below.refl _ _).drew
    have HB := Lib.hid (show Below W1.heap.size W1 W1.drew from (Below.refl _ _).drew)
    refine wpAnyH_at 0 (v := ?vv361) rfl (by kernel_rfl) (by kernel_rfl) (by kernel_rfl) (fun _ _ _ h => h) ?hy361 HSv ?hh361
    case hy361 =>
      refine Or.inl ⟨by rfl, ?_⟩
      intro W hW
      obtain ⟨h0, h1, h2, h3, h4, h5, h6, h7⟩ := hW
      go_simp
      try with_reducible rfl
    simp only [Act.put, List.setIfInBounds_toArray, List.set_cons_zero, List.set_cons_succ]
    refine wpAnyH_at 6 (v := ?vv362) rfl (by kernel_rfl) (by kernel_rfl) (by kernel_rfl) (fun _ _ _ h => h) ?hy362 HSv ?hh362
    case hy362 =>
      refine Or.inl ⟨by rfl, ?_⟩
      intro W hW
      obtain ⟨h0, h1, h2, h3, h4, h5, h6, h7⟩ := hW
      go_simp
      try with_reducible rfl
    simp only [Act.put, List.setIfInBounds_toArray, List.set_cons_zero, List.set_cons_succ]
    refine wpAnyH_at 7 (v := ?vv363) rfl (by kernel_rfl) (by kernel_rfl) (by kernel_rfl) (fun _ _ _ h => h) ?hy363 HSv ?hh363
    case hy363 =>
      refine Or.inl ⟨by rfl, ?_⟩
      intro W hW
      obtain ⟨h0, h1, h2, h3, h4, h5, h6, h7⟩ := hW
      go_simp
      try with_reducible rfl
    simp only [Act.put, List.setIfInBounds_toArray, List.set_cons_zero, List.set_cons_succ]
    refine wpAnyH_at 8 (v := ?vv364) rfl (by kernel_rfl) (by kernel_rfl) (by kernel_rfl) (fun _ _ _ h => h) ?hy364 HSv ?hh364
    case hy364 =>
      refine Or.inl ⟨by rfl, ?_⟩
      intro W hW
      obtain ⟨h0, h1, h2, h3, h4, h5, h6, h7⟩ := hW
      go_simp
      try with_reducible rfl
    simp only [Act.put, List.setIfInBounds_toArray, List.set_cons_zero, List.set_cons_succ]
    refine wpAnyH_at 9 (v := ?vv365) rfl (by kernel_rfl) (by kernel_rfl) (by kernel_rfl) (fun _ _ _ h => h) ?hy365 HSv ?hh365
    case hy365 =>
      refine Or.inl ⟨by rfl, ?_⟩
      intro W hW
      obtain ⟨h0, h1, h2, h3, h4, h5, h6, h7⟩ := hW
      go_simp
      try with_reducible rfl
    simp only [Act.put, List.setIfInBounds_toArray, List.set_cons_zero, List.set_cons_succ]
    refine wpAnyH_at 10 (v := ?vv366) rfl (by kernel_rfl) (by kernel_rfl) (by kernel_rfl) (fun _ _ _ h => h) ?hy366 HSv ?hh366
    case hy366 =>
      refine Or.inl ⟨by rfl, ?_⟩
      intro W hW
      obtain ⟨h0, h1, h2, h3, h4, h5, h6, h7⟩ := hW
      go_simp
      try with_reducible rfl
    simp only [Act.put, List.setIfInBounds_toArray, List.set_cons_zero, List.set_cons_succ]
    refine wpAnyH_at 11 (v := ?vv367) rfl (by kernel_rfl) (by kernel_rfl) (by kernel_rfl) (fun _ _ _ h => h) ?hy367 HSv ?hh367
    case hy367 =>
      refine Or.inl ⟨by rfl, ?_⟩
      intro W hW
      obtain ⟨h0, h1, h2, h3, h4, h5, h6, h7⟩ := hW
      go_simp
      try with_reducible rfl
    simp only [Act.put, List.setIfInBounds_toArray, List.set_cons_zero, List.set_cons_succ]
    refine wpAnyH_at 12 (v := ?vv368) rfl (by kernel_rfl) (by kernel_rfl) (by kernel_rfl) (fun _ _ _ h => h) ?hy368 HSv ?hh368
    case hy368 =>
      refine Or.inl ⟨by rfl, ?_⟩
      intro W hW
      obtain ⟨h0, h1, h2, h3, h4, h5, h6, h7⟩ := hW
      go_simp
      try with_reducible rfl
    simp only [Act.put, List.setIfInBounds_toArray, List.set_cons_zero, List.set_cons_succ]
    refine wpAnyH_at 13 (v := ?vv369) rfl (by kernel_rfl) (by kernel_rfl) (by kernel_rfl) (fun _ _ _ h => h) ?hy369 HSv ?hh369
    case hy369 =>
      refine Or.inl ⟨by rfl, ?_⟩
      intro W hW
      obtain ⟨h0, h1, h2, h3, h4, h5, h6, h7⟩ := hW
      go_simp
      try with_reducible rfl
    simp only [Act.put, List.setIfInBounds_toArray, List.set_cons_zero, List.set_cons_succ]
    refine wpAnyH_at 15 (v := ?vv370) rfl (by kernel_rfl) (by kernel_rfl) (by kernel_rfl) (fun _ _ _ h => h) ?hy370 HSv ?hh370
    case hy370 =>
      refine Or.inl ⟨by rfl, ?_⟩
      intro W hW
      obtain ⟨h0, h1, h2, h3, h4, h5, h6, h7⟩ := hW
      go_simp
      try with_reducible rfl
    simp only [Act.put, List.setIfInBounds_toArray, List.set_cons_zero, List.set_cons_succ]
    refine wpAnyH_at 16 (v := ?vv371) rfl (by kernel_rfl) (by kernel_rfl) (by kernel_rfl) (fun _ _ _ h => h) ?hy371 HSv ?hh371
    case hy371 =>
      refine Or.inl ⟨by rfl, ?_⟩
      intro W hW
      obtain ⟨h0, h1, h2, h3, h4, h5, h6, h7⟩ := hW
      go_simp
      try with_reducible rfl
    simp only [Act.put, List.setIfInBounds_toArray, List.set_cons_zero, List.set_cons_succ]
    generalize W1.drew = W at HSv HB ⊢
    refine wpAnyH_2 1 5 rfl rfl (by kernel_rfl) ?_ ?_
    · intro K hK
      rw [if_pos (by rfl)]
      try go_simp
      go_at_call 18
      refine (HLO.out _).mono ?_
      rintro e W2 ⟨vA, rfl, rA, bA⟩
      obtain ⟨sA, cA, rfl⟩ := rA.form
      have HR := Lib.hid (rA.base HB.out.size)
      have HB := Lib.hid (HB.out.trans (bA.mono HB.out.size))
      have HSv : (fun Y : World => Y.cell? ⟨w.heap.size, 0, none⟩ = some (.int .i64 c.mru) ∧ Y.cell? ⟨w.heap.size, 1, none⟩ = some (.int .i64 c.auth) ∧ Y.cell? ⟨w.heap.size, 2, none⟩ = some (.int .i64 c.magic) ∧ Y.cell? ⟨w.heap.size, 3, none⟩ = some (.int .i64 c.echo) ∧ Y.cell? ⟨w.heap.size, 4, none⟩ = some (.int .i64 c.cf) ∧ Y.cell? ⟨w.heap.size, 5, none⟩ = some (.int .i64 c.tm) ∧ Y.cell? ⟨w.heap.size, 6, none⟩ = some (.int .i64 c.fl) ∧ Y.cell? ⟨w.heap.size, 7, none⟩ = some (.int .i64 c.wt)) W2 := HS.out _ HB.out
      refine hK _ _ (fun _ => HSv) ?_
      try simp only [Act.put, List.setIfInBounds_toArray, List.set_cons_zero, List.set_cons_succ]
      clear rA bA
      refine wpAnyH_2 2 5 rfl rfl (by kernel_rfl) ?_ ?_
      · intro K hK
        rw [if_pos (by rfl)]
        try go_simp
        go_at_call 35
        refine (units_any 1492 _).mono ?_
        rintro e W3 ⟨rfl, bA⟩
        have HR := Lib.hid (HR.out.below bA)
        have HB := Lib.hid (HB.out.trans (bA.mono HB.out.size))
        have HSv : (fun Y : World => Y.cell? ⟨w.heap.size, 0, none⟩ = some (.int .i64 c.mru) ∧ Y.cell? ⟨w.heap.size, 1, none⟩ = some (.int .i64 c.auth) ∧ Y.cell? ⟨w.heap.size, 2, none⟩ = some (.int .i64 c.magic) ∧ Y.cell? ⟨w.heap.size, 3, none⟩ = some (.int .i64 c.echo) ∧ Y.cell? ⟨w.heap.size, 4, none⟩ = some (.int .i64 c.cf) ∧ Y.cell? ⟨w.heap.size, 5, none⟩ = some (.int .i64 c.tm) ∧ Y.cell? ⟨w.heap.size, 6, none⟩ = some (.int .i64 c.fl) ∧ Y.cell? ⟨w.heap.size, 7, none⟩ = some (.int .i64 c.wt)) W3 := HS.out _ HB.out
        refine hK _ _ (fun _ => HSv) ?_
        try simp only [Act.put, List.setIfInBounds_toArray, List.set_cons_zero, List.set_cons_succ]
        clear bA
        refine wpAnyH_2 3 5 rfl rfl (by kernel_rfl) ?_ ?_
        · intro K hK
          rw [if_pos (by rfl)]
          try go_simp
          go_at_call 36
          refine (magics_any _).mono ?_
          rintro e W4 ⟨rfl, bA⟩
          have HR := Lib.hid (HR.out.below bA)
          have HB := Lib.hid (HB.out.trans (bA.mono HB.out.size))
          have HSv : (fun Y : World => Y.cell? ⟨w.heap.size, 0, none⟩ = some (.int .i64 c.mru) ∧ Y.cell? ⟨w.heap.size, 1, none⟩ = some (.int .i64 c.auth) ∧ Y.cell? ⟨w.heap.size, 2, none⟩ = some (.int .i64 c.magic) ∧ Y.cell? ⟨w.heap.size, 3, none⟩ = some (.int .i64 c.echo) ∧ Y.cell? ⟨w.heap.size, 4, none⟩ = some (.int .i64 c.cf) ∧ Y.cell? ⟨w.heap.size, 5, none⟩ = some (.int .i64 c.tm) ∧ Y.cell? ⟨w.heap.size, 6, none⟩ = some (.int .i64 c.fl) ∧ Y.cell? ⟨w.heap.size, 7, none⟩ = some (.int .i64 c.wt)) W4 := HS.out _ HB.out
          refine hK _ _ (fun _ => HSv) ?_
          try simp only [Act.put, List.setIfInBounds_toArray, List.set_cons_zero, List.set_cons_succ]
          clear bA
          refine wpAnyH_2 4 5 rfl rfl (by kernel_rfl) ?_ ?_
          · intro K hK
            rw [if_pos (by rfl)]
            try go_simp
            have bA : Below W4.heap.size W4 (W4.alloc (.cells #[.int .i64 1, .int .i64 2, .int .i64 64, .int .i64 1492, .string (be2 1492), .int .i64 5, .int .i64 4, .int .i64 1, .int .i64 4294967295, .string (be4 1)] 73 (0, 0))) := (Below.refl _ _).alloc (Nat.le_refl _) _
            have hz := at1 W4 (.cells #[.int .i64 1, .int .i64 2, .int .i64 64, .int .i64 1492, .string (be2 1492), .int .i64 5, .int .i64 4, .int .i64 1, .int .i64 4294967295, .string (be4 1)] 73 (0, 0))
            generalize hW5 : W4.alloc (.cells #[.int .i64 1, .int .i64 2, .int .i64 64, .int .i64 1492, .string (be2 1492), .int .i64 5, .int .i64 4, .int .i64 1, .int .i64 4294967295, .string (be4 1)] 73 (0, 0)) = W5 at bA hz ⊢
            obtain ⟨rb, hrb⟩ : ∃ rb, rb = W4.heap.size := ⟨_, rfl⟩
            rw [← hrb] at hz ⊢
            have HRu := Lib.hid hz
            have HR := Lib.hid (HR.out.below bA)
            have HB := Lib.hid (HB.out.trans (bA.mono HB.out.size))
            have HSv : (fun Y : World => Y.cell? ⟨w.heap.size, 0, none⟩ = some (.int .i64 c.mru) ∧ Y.cell? ⟨w.heap.size, 1, none⟩ = some (.int .i64 c.auth) ∧ Y.cell? ⟨w.heap.size, 2, none⟩ = some (.int .i64 c.magic) ∧ Y.cell? ⟨w.heap.size, 3, none⟩ = some (.int .i64 c.echo) ∧ Y.cell? ⟨w.heap.size, 4, none⟩ = some (.int .i64 c.cf) ∧ Y.cell? ⟨w.heap.size, 5, none⟩ = some (.int .i64 c.tm) ∧ Y.cell? ⟨w.heap.size, 6, none⟩ = some (.int .i64 c.fl) ∧ Y.cell? ⟨w.heap.size, 7, none⟩ = some (.int .i64 c.wt)) W5 := HS.out _ HB.out
            refine hK _ _ (fun _ => HSv) ?_
            try simp only [Act.put, List.setIfInBounds_toArray, List.set_cons_zero, List.set_cons_succ]
            clear bA hz hW5 hrb
            refine wpAnyH_1 5 rfl (by kernel_rfl) ?_
            intro K hK
            rw [if_pos (by rfl)]
            try go_simp
            have bA : Below W5.heap.size W5 (W5.alloc (.cells #[.int .i64 3] 3 (0, 0))) := (Below.refl _ _).alloc (Nat.le_refl _) _
            have hz := at1 W5 (.cells #[.int .i64 3] 3 (0, 0))
            generalize hW6 : W5.alloc (.cells #[.int .i64 3] 3 (0, 0)) = W6 at bA hz ⊢
            obtain ⟨ib, hib⟩ : ∃ ib, ib = W5.heap.size := ⟨_, rfl⟩
            rw [← hib] at hz ⊢
            have HI := Lib.hid hz
            have HR := Lib.hid (HR.out.below bA)
            have HRu := Lib.hid ((bA.block _ (Array.getElem?_eq_some_iff.1 HRu.out).1).trans HRu.out)
            have HB := Lib.hid (HB.out.trans (bA.mono HB.out.size))
            have HSv : (fun Y : World => Y.cell? ⟨w.heap.size, 0, none⟩ = some (.int .i64 c.mru) ∧ Y.cell? ⟨w.heap.size, 1, none⟩ = some (.int .i64 c.auth) ∧ Y.cell? ⟨w.heap.size, 2, none⟩ = some (.int .i64 c.magic) ∧ Y.cell? ⟨w.heap.size, 3, none⟩ = some (.int .i64 c.echo) ∧ Y.cell? ⟨w.heap.size, 4, none⟩ = some (.int .i64 c.cf) ∧ Y.cell? ⟨w.heap.size, 5, none⟩ = some (.int .i64 c.tm) ∧ Y.cell? ⟨w.heap.size, 6, none⟩ = some (.int .i64 c.fl) ∧ Y.cell? ⟨w.heap.size, 7, none⟩ = some (.int .i64 c.wt)) W6 := HS.out _ HB.out
            refine hK _ _ (fun _ => HSv) ?_
            try simp only [Act.put, List.setIfInBounds_toArray, List.set_cons_zero, List.set_cons_succ]
            clear bA hz hW6 hib
            refine wpAnyH_at 14 (v := ?vv372) rfl (by kernel_rfl) (by kernel_rfl) (by kernel_rfl) (fun _ _ _ h => h) ?hy372 HSv ?hh372
            case hy372 =>
              refine Or.inl ⟨by rfl, ?_⟩
              intro W hW
              obtain ⟨h0, h1, h2, h3, h4, h5, h6, h7⟩ := hW
              go_simp
              try with_reducible rfl
            simp only [Act.put, List.setIfInBounds_toArray, List.set_cons_zero, List.set_cons_succ]
            refine wpAnyH_1 17 rfl (by kernel_rfl) ?_
            intro K hK
            rw [if_pos (by rfl)]
            try go_simp
            go_at_call 34
            refine (HNN.out lb W1 W6 sA cA rb ib HB.out HR.out HRu.out HI.out).mono ?_
            rintro e wE ⟨B, rfl, nE, bE⟩
            have zl := (bE.block lb (Array.getElem?_eq_some_iff.1 HZ.out.2.1).1).trans HZ.out.2.1
            have f0 := fzOf zl 0
            have c0 : wE.cell? ⟨lb, 0, none⟩ = some (.pointer none) := cellOf zl 0 _ rfl
            have HN := Lib.hid (And.intro bE nE)
            have HSv : (fun Y : World => Y.cell? ⟨w.heap.size, 0, none⟩ = some (.int .i64 c.mru) ∧ Y.cell? ⟨w.heap.size, 1, none⟩ = some (.int .i64 c.auth) ∧ Y.cell? ⟨w.heap.size, 2, none⟩ = some (.int .i64 c.magic) ∧ Y.cell? ⟨w.heap.size, 3, none⟩ = some (.int .i64 c.echo) ∧ Y.cell? ⟨w.heap.size, 4, none⟩ = some (.int .i64 c.cf) ∧ Y.cell? ⟨w.heap.size, 5, none⟩ = some (.int .i64 c.tm) ∧ Y.cell? ⟨w.heap.size, 6, none⟩ = some (.int .i64 c.fl) ∧ Y.cell? ⟨w.heap.size, 7, none⟩ = some (.int .i64 c.wt)) wE := HS.out _ bE
            clear bE nE zl
            refine hK _ _ (fun _ => HSv) ?_
            try simp only [Act.put, List.setIfInBounds_toArray, List.set_cons_zero, List.set_cons_succ]
            refine wpAnyH_at 18 (v := ?vv373) rfl (by kernel_rfl) (by kernel_rfl) (by kernel_rfl) (fun _ _ _ h => h) ?hy373 HSv ?hh373
            case hy373 =>
              refine Or.inl ⟨by rfl, ?_⟩
              intro W hW
              obtain ⟨h0, h1, h2, h3, h4, h5, h6, h7⟩ := hW
              go_simp
              try with_reducible rfl
            simp only [Act.put, List.setIfInBounds_toArray, List.set_cons_zero, List.set_cons_succ]
            refine wpAnyH_at 19 (v := ?vv374) rfl (by kernel_rfl) (by kernel_rfl) (by kernel_rfl) (fun _ _ _ h => h) ?hy374 HSv ?hh374
            case hy374 =>
              refine Or.inl ⟨by rfl, ?_⟩
              intro W hW
              obtain ⟨h0, h1, h2, h3, h4, h5, h6, h7⟩ := hW
              go_simp
              try with_reducible rfl
            simp only [Act.put, List.setIfInBounds_toArray, List.set_cons_zero, List.set_cons_succ]
            refine wpAnyH_at 21 (v := ?vv375) rfl (by kernel_rfl) (by kernel_rfl) (by kernel_rfl) (fun _ _ _ h => h) ?hy375 HSv ?hh375
            case hy375 =>
              refine Or.inl ⟨by rfl, ?_⟩
              intro W hW
              obtain ⟨h0, h1, h2, h3, h4, h5, h6, h7⟩ := hW
              go_simp
              try with_reducible rfl
            simp only [Act.put, List.setIfInBounds_toArray, List.set_cons_zero, List.set_cons_succ]
            refine wpAnyH_at 20 (v := ?vv376) rfl (by kernel_rfl) (by kernel_rfl) (by kernel_rfl) (fun _ _ _ h => h) ?hy376 HSv ?hh376
            case hy376 =>
              refine Or.inl ⟨by rfl, ?_⟩
              intro W hW
              obtain ⟨h0, h1, h2, h3, h4, h5, h6, h7⟩ := hW
              go_simp
              try with_reducible rfl
            simp only [Act.put, List.setIfInBounds_toArray, List.set_cons_zero, List.set_cons_succ]
            refine wpAnyH_at 22 (v := ?vv377) rfl (by kernel_rfl) (by kernel_rfl) (by kernel_rfl) (fun _ _ _ h => h) ?hy377 HSv ?hh377
            case hy377 =>
              refine Or.inl ⟨by rfl, ?_⟩
              intro W hW
              obtain ⟨h0, h1, h2, h3, h4, h5, h6, h7⟩ := hW
              go_simp
              try with_reducible rfl
            simp only [Act.put, List.setIfInBounds_toArray, List.set_cons_zero, List.set_cons_succ]
            refine wpAnyH_end 23 (fun j hj => rgH_end _ _ j (by omega)) (by rfl) (by kernel_rfl) ?_
            simp only [List.drop_succ_cons, List.drop_zero]
            clear HSv
            go_wp2_with fail
            go_ret2
            exact ⟨tb, okt, HG.out wE B HN.out.1 HN.out.2, HW.out.1, HW.out.2⟩
          · intro K hK
            rw [if_pos (by rfl)]
            try go_simp
            have bA : Below W4.heap.size W4 (W4.alloc (.cells #[.int .i64 3] 3 (0, 0))) := (Below.refl _ _).alloc (Nat.le_refl _) _
            have hz := at1 W4 (.cells #[.int .i64 3] 3 (0, 0))
            generalize hW5 : W4.alloc (.cells #[.int .i64 3] 3 (0, 0)) = W5 at bA hz ⊢
            obtain ⟨ib, hib⟩ : ∃ ib, ib = W4.heap.size := ⟨_, rfl⟩
            rw [← hib] at hz ⊢
            have HI := Lib.hid hz
            have HR := Lib.hid (HR.out.below bA)
            have HB := Lib.hid (HB.out.trans (bA.mono HB.out.size))
            have HSv : (fun Y : World => Y.cell? ⟨w.heap.size, 0, none⟩ = some (.int .i64 c.mru) ∧ Y.cell? ⟨w.heap.size, 1, none⟩ = some (.int .i64 c.auth) ∧ Y.cell? ⟨w.heap.size, 2, none⟩ = some (.int .i64 c.magic) ∧ Y.cell? ⟨w.heap.size, 3, none⟩ = some (.int .i64 c.echo) ∧ Y.cell? ⟨w.heap.size, 4, none⟩ = some (.int .i64 c.cf) ∧ Y.cell? ⟨w.heap.size, 5, none⟩ = some (.int .i64 c.tm) ∧ Y.cell? ⟨w.heap.size, 6, none⟩ = some (.int .i64 c.fl) ∧ Y.cell? ⟨w.heap.size, 7, none⟩ = some (.int .i64 c.wt)) W5 := HS.out _ HB.out
            refine hK _ _ (fun _ => HSv) ?_
            try simp only [Act.put, List.setIfInBounds_toArray, List.set_cons_zero, List.set_cons_succ]
            clear bA hz hW5 hib
            refine wpAnyH_1 4 rfl (by kernel_rfl) ?_
            intro K hK
            rw [if_pos (by rfl)]
            try go_simp
            have bA : Below W5.heap.size W5 (W5.alloc (.cells #[.int .i64 1, .int .i64 2, .int .i64 64, .int .i64 1492, .string (be2 1492), .int .i64 5, .int .i64 4, .int .i64 1, .int .i64 4294967295, .string (be4 1)] 73 (0, 0))) := (Below.refl _ _).alloc (Nat.le_refl _) _
            have hz := at1 W5 (.cells #[.int .i64 1, .int .i64 2, .int .i64 64, .int .i64 1492, .string (be2 1492), .int .i64 5, .int .i64 4, .int .i64 1, .int .i64 4294967295, .string (be4 1)] 73 (0, 0))
            generalize hW6 : W5.alloc (.cells #[.int .i64 1, .int .i64 2, .int .i64 64, .int .i64 1492, .string (be2 1492), .int .i64 5, .int .i64 4, .int .i64 1, .int .i64 4294967295, .string (be4 1)] 73 (0, 0)) = W6 at bA hz ⊢
            obtain ⟨rb, hrb⟩ : ∃ rb, rb = W5.heap.size := ⟨_, rfl⟩
            rw [← hrb] at hz ⊢
            have HRu := Lib.hid hz
            have HR := Lib.hid (HR.out.below bA)
            have HB := Lib.hid (HB.out.trans (bA.mono HB.out.size))
            have HSv : (fun Y : World => Y.cell? ⟨w.heap.size, 0, none⟩ = some (.int .i64 c.mru) ∧ Y.cell? ⟨w.heap.size, 1, none⟩ = some (.int .i64 c.auth) ∧ Y.cell? ⟨w.heap.size, 2, none⟩ = some (.int .i64 c.magic) ∧ Y.cell? ⟨w.heap.size, 3, none⟩ = some (.int .i64 c.echo) ∧ Y.cell? ⟨w.heap.size, 4, none⟩ = some (.int .i64 c.cf) ∧ Y.cell? ⟨w.heap.size, 5, none⟩ = some (.int .i64 c.tm) ∧ Y.cell? ⟨w.heap.size, 6, none⟩ = some (.int .i64 c.fl) ∧ Y.cell? ⟨w.heap.size, 7, none⟩ = some (.int .i64 c.wt)) W6 := HS.out _ HB.out
            have HI := Lib.hid ((bA.block _ (Array.getElem?_eq_some_iff.1 HI.out).1).trans HI.out)
            refine hK _ _ (fun _ => HSv) ?_
            try simp only [Act.put, List.setIfInBounds_toArray, List.set_cons_zero, List.set_cons_succ]
            clear bA hz hW6 hrb
            refine wpAnyH_at 14 (v := ?vv378) rfl (by kernel_rfl) (by kernel_rfl) (by kernel_rfl) (fun _ _ _ h => h) ?hy378 HSv ?hh378
            case hy378 =>
              refine Or.inl ⟨by rfl, ?_⟩
              intro W hW
              obtain ⟨h0, h1, h2, h3, h4, h5, h6, h7⟩ := hW
              go_simp
              try with_reducible rfl
            simp only [Act.put, List.setIfInBounds_toArray, List.set_cons_zero, List.set_cons_succ]
            refine wpAnyH_1 17 rfl (by kernel_rfl) ?_
            intro K hK
            rw [if_pos (by rfl)]
            try go_simp
            go_at_call 34
            refine (HNN.out lb W1 W6 sA cA rb ib HB.out HR.out HRu.out HI.out).mono ?_
            rintro e wE ⟨B, rfl, nE, bE⟩
            have zl := (bE.block lb (Array.getElem?_eq_some_iff.1 HZ.out.2.1).1).trans HZ.out.2.1
            have f0 := fzOf zl 0
            have c0 : wE.cell? ⟨lb, 0, none⟩ = some (.pointer none) := cellOf zl 0 _ rfl
            have HN := Lib.hid (And.intro bE nE)
            have HSv : (fun Y : World => Y.cell? ⟨w.heap.size, 0, none⟩ = some (.int .i64 c.mru) ∧ Y.cell? ⟨w.heap.size, 1, none⟩ = some (.int .i64 c.auth) ∧ Y.cell? ⟨w.heap.size, 2, none⟩ = some (.int .i64 c.magic) ∧ Y.cell? ⟨w.heap.size, 3, none⟩ = some (.int .i64 c.echo) ∧ Y.cell? ⟨w.heap.size, 4, none⟩ = some (.int .i64 c.cf) ∧ Y.cell? ⟨w.heap.size, 5, none⟩ = some (.int .i64 c.tm) ∧ Y.cell? ⟨w.heap.size, 6, none⟩ = some (.int .i64 c.fl) ∧ Y.cell? ⟨w.heap.size, 7, none⟩ = some (.int .i64 c.wt)) wE := HS.out _ bE
            clear bE nE zl
            refine hK _ _ (fun _ => HSv) ?_
            try simp only [Act.put, List.setIfInBounds_toArray, List.set_cons_zero, List.set_cons_succ]
            refine wpAnyH_at 18 (v := ?vv379) rfl (by kernel_rfl) (by kernel_rfl) (by kernel_rfl) (fun _ _ _ h => h) ?hy379 HSv ?hh379
            case hy379 =>
              refine Or.inl ⟨by rfl, ?_⟩
              intro W hW
              obtain ⟨h0, h1, h2, h3, h4, h5, h6, h7⟩ := hW
              go_simp
              try with_reducible rfl
            simp only [Act.put, List.setIfInBounds_toArray, List.set_cons_zero, List.set_cons_succ]
            refine wpAnyH_at 19 (v := ?vv380) rfl (by kernel_rfl) (by kernel_rfl) (by kernel_rfl) (fun _ _ _ h => h) ?hy380 HSv ?hh380
            case hy380 =>
              refine Or.inl ⟨by rfl, ?_⟩
              intro W hW
              obtain ⟨h0, h1, h2, h3, h4, h5, h6, h7⟩ := hW
              go_simp
              try with_reducible rfl
            simp only [Act.put, List.setIfInBounds_toArray, List.set_cons_zero, List.set_cons_succ]
            refine wpAnyH_at 21 (v := ?vv381) rfl (by kernel_rfl) (by kernel_rfl) (by kernel_rfl) (fun _ _ _ h => h) ?hy381 HSv ?hh381
            case hy381 =>
              refine Or.inl ⟨by rfl, ?_⟩
              intro W hW
              obtain ⟨h0, h1, h2, h3, h4, h5, h6, h7⟩ := hW
              go_simp
              try with_reducible rfl
            simp only [Act.put, List.setIfInBounds_toArray, List.set_cons_zero, List.set_cons_succ]
            refine wpAnyH_at 20 (v := ?vv382) rfl (by kernel_rfl) (by kernel_rfl) (by kernel_rfl) (fun _ _ _ h => h) ?hy382 HSv ?hh382
            case hy382 =>
              refine Or.inl ⟨by rfl, ?_⟩
              intro W hW
              obtain ⟨h0, h1, h2, h3, h4, h5, h6, h7⟩ := hW
              go_simp
              try with_reducible rfl
            simp only [Act.put, List.setIfInBounds_toArray, List.set_cons_zero, List.set_cons_succ]
            refine wpAnyH_at 22 (v := ?vv383) rfl (by kernel_rfl) (by kernel_rfl) (by kernel_rfl) (fun _ _ _ h => h) ?hy383 HSv ?hh383
            case hy383 =>
              refine Or.inl ⟨by rfl, ?_⟩
              intro W hW
              obtain ⟨h0, h1, h2, h3, h4, h5, h6, h7⟩ := hW
              go_simp
              try with_reducible rfl
            simp only [Act.put, List.setIfInBounds_toArray, List.set_cons_zero, List.set_cons_succ]
            refine wpAnyH_end 23 (fun j hj => rgH_end _ _ j (by omega)) (by rfl) (by kernel_rfl) ?_
            simp only [List.drop_succ_cons, List.drop_zero]
            clear HSv
            go_wp2_with fail
            go_ret2
            exact ⟨tb, okt, HG.out wE B HN.out.1 HN.out.2, HW.out.1, HW.out.2⟩
        · intro K hK
          rw [if_pos (by rfl)]
          try go_simp
          have bA : Below W3.heap.size W3 (W3.alloc (.cells #[.int .i64 3] 3 (0, 0))) := (Below.refl _ _).alloc (Nat.le_refl _) _
          have hz := at1 W3 (.cells #[.int .i64 3] 3 (0, 0))
          generalize hW4 : W3.alloc (.cells #[.int .i64 3] 3 (0, 0)) = W4 at bA hz ⊢
          obtain ⟨ib, hib⟩ : ∃ ib, ib = W3.heap.size := ⟨_, rfl⟩
          rw [← hib] at hz ⊢
          have HI := Lib.hid hz
          have HR := Lib.hid (HR.out.below bA)
          have HB := Lib.hid (HB.out.trans (bA.mono HB.out.size))
          have HSv : (fun Y : World => Y.cell? ⟨w.heap.size, 0, none⟩ = some (.int .i64 c.mru) ∧ Y.cell? ⟨w.heap.size, 1, none⟩ = some (.int .i64 c.auth) ∧ Y.cell? ⟨w.heap.size, 2, none⟩ = some (.int .i64 c.magic) ∧ Y.cell? ⟨w.heap.size, 3, none⟩ = some (.int .i64 c.echo) ∧ Y.cell? ⟨w.heap.size, 4, none⟩ = some (.int .i64 c.cf) ∧ Y.cell? ⟨w.heap.size, 5, none⟩ = some (.int .i64 c.tm) ∧ Y.cell? ⟨w.heap.size, 6, none⟩ = some (.int .i64 c.fl) ∧ Y.cell? ⟨w.heap.size, 7, none⟩ = some (.int .i64 c.wt)) W4 := HS.out _ HB.out
          refine hK _ _ (fun _ => HSv) ?_
          try simp only [Act.put, List.setIfInBounds_toArray, List.set_cons_zero, List.set_cons_succ]
          clear bA hz hW4 hib
          refine wpAnyH_1 3 rfl (by kernel_rfl) ?_
          intro K hK
          rw [if_pos (by rfl)]
          try go_simp
          go_at_call 36
          refine (magics_any _).mono ?_
          rintro e W5 ⟨rfl, bA⟩
          have HR := Lib.hid (HR.out.below bA)
          have HB := Lib.hid (HB.out.trans (bA.mono HB.out.size))
          have HSv : (fun Y : World => Y.cell? ⟨w.heap.size, 0, none⟩ = some (.int .i64 c.mru) ∧ Y.cell? ⟨w.heap.size, 1, none⟩ = some (.int .i64 c.auth) ∧ Y.cell? ⟨w.heap.size, 2, none⟩ = some (.int .i64 c.magic) ∧ Y.cell? ⟨w.heap.size, 3, none⟩ = some (.int .i64 c.echo) ∧ Y.cell? ⟨w.heap.size, 4, none⟩ = some (.int .i64 c.cf) ∧ Y.cell? ⟨w.heap.size, 5, none⟩ = some (.int .i64 c.tm) ∧ Y.cell? ⟨w.heap.size, 6, none⟩ = some (.int .i64 c.fl) ∧ Y.cell? ⟨w.heap.size, 7, none⟩ = some (.int .i64 c.wt)) W5 := HS.out _ HB.out
          have HI := Lib.hid ((bA.block _ (Array.getElem?_eq_some_iff.1 HI.out).1).trans HI.out)
          refine hK _ _ (fun _ => HSv) ?_
          try simp only [Act.put, List.setIfInBounds_toArray, List.set_cons_zero, List.set_cons_succ]
          clear bA
          refine wpAnyH_1 4 rfl (by kernel_rfl) ?_
          intro K hK
          rw [if_pos (by rfl)]
          try go_simp
          have bA : Below W5.heap.size W5 (W5.alloc (.cells #[.int .i64 1, .int .i64 2, .int .i64 64, .int .i64 1492, .string (be2 1492), .int .i64 5, .int .i64 4, .int .i64 1, .int .i64 4294967295, .string (be4 1)] 73 (0, 0))) := (Below.refl _ _).alloc (Nat.le_refl _) _
          have hz := at1 W5 (.cells #[.int .i64 1, .int .i64 2, .int .i64 64, .int .i64 1492, .string (be2 1492), .int .i64 5, .int .i64 4, .int .i64 1, .int .i64 4294967295, .string (be4 1)] 73 (0, 0))
          generalize hW6 : W5.alloc (.cells #[.int .i64 1, .int .i64 2, .int .i64 64, .int .i64 1492, .string (be2 1492), .int .i64 5, .int .i64 4, .int .i64 1, .int .i64 4294967295, .string (be4 1)] 73 (0, 0)) = W6 at bA hz ⊢
          obtain ⟨rb, hrb⟩ : ∃ rb, rb = W5.heap.size := ⟨_, rfl⟩
          rw [← hrb] at hz ⊢
          have HRu := Lib.hid hz
          have HR := Lib.hid (HR.out.below bA)
          have HB := Lib.hid (HB.out.trans (bA.mono HB.out.size))
          have HSv : (fun Y : World => Y.cell? ⟨w.heap.size, 0, none⟩ = some (.int .i64 c.mru) ∧ Y.cell? ⟨w.heap.size, 1, none⟩ = some (.int .i64 c.auth) ∧ Y.cell? ⟨w.heap.size, 2, none⟩ = some (.int .i64 c.magic) ∧ Y.cell? ⟨w.heap.size, 3, none⟩ = some (.int .i64 c.echo) ∧ Y.cell? ⟨w.heap.size, 4, none⟩ = some (.int .i64 c.cf) ∧ Y.cell? ⟨w.heap.size, 5, none⟩ = some (.int .i64 c.tm) ∧ Y.cell? ⟨w.heap.size, 6, none⟩ = some (.int .i64 c.fl) ∧ Y.cell? ⟨w.heap.size, 7, none⟩ = some (.int .i64 c.wt)) W6 := HS.out _ HB.out
          have HI := Lib.hid ((bA.block _ (Array.getElem?_eq_some_iff.1 HI.out).1).trans HI.out)
          refine hK _ _ (fun _ => HSv) ?_
          try simp only [Act.put, List.setIfInBounds_toArray, List.set_cons_zero, List.set_cons_succ]
          clear bA hz hW6 hrb
          refine wpAnyH_at 14 (v := ?vv384) rfl (by kernel_rfl) (by kernel_rfl) (by kernel_rfl) (fun _ _ _ h => h) ?hy384 HSv ?hh384
          case hy384 =>
            refine Or.inl ⟨by rfl, ?_⟩
            intro W hW
            obtain ⟨h0, h1, h2, h3, h4, h5, h6, h7⟩ := hW
            go_simp
            try with_reducible rfl
          simp only [Act.put, List.setIfInBounds_toArray, List.set_cons_zero, List.set_cons_succ]
          refine wpAnyH_1 17 rfl (by kernel_rfl) ?_
          intro K hK
          rw [if_pos (by rfl)]
          try go_simp
          go_at_call 34
          refine (HNN.out lb W1 W6 sA cA rb ib HB.out HR.out HRu.out HI.out).mono ?_
          rintro e wE ⟨B, rfl, nE, bE⟩
          have zl := (bE.block lb (Array.getElem?_eq_some_iff.1 HZ.out.2.1).1).trans HZ.out.2.1
          have f0 := fzOf zl 0
          have c0 : wE.cell? ⟨lb, 0, none⟩ = some (.pointer none) := cellOf zl 0 _ rfl
          have HN := Lib.hid (And.intro bE nE)
          have HSv : (fun Y : World => Y.cell? ⟨w.heap.size, 0, none⟩ = some (.int .i64 c.mru) ∧ Y.cell? ⟨w.heap.size, 1, none⟩ = some (.int .i64 c.auth) ∧ Y.cell? ⟨w.heap.size, 2, none⟩ = some (.int .i64 c.magic) ∧ Y.cell? ⟨w.heap.size, 3, none⟩ = some (.int .i64 c.echo) ∧ Y.cell? ⟨w.heap.size, 4, none⟩ = some (.int .i64 c.cf) ∧ Y.cell? ⟨w.heap.size, 5, none⟩ = some (.int .i64 c.tm) ∧ Y.cell? ⟨w.heap.size, 6, none⟩ = some (.int .i64 c.fl) ∧ Y.cell? ⟨w.heap.size, 7, none⟩ = some (.int .i64 c.wt)) wE := HS.out _ bE
          clear bE nE zl
          refine hK _ _ (fun _ => HSv) ?_
          try simp only [Act.put, List.setIfInBounds_toArray, List.set_cons_zero, List.set_cons_succ]
          refine wpAnyH_at 18 (v := ?vv385) rfl (by kernel_rfl) (by kernel_rfl) (by kernel_rfl) (fun _ _ _ h => h) ?hy385 HSv ?hh385
          case hy385 =>
            refine Or.inl ⟨by rfl, ?_⟩
            intro W hW
            obtain ⟨h0, h1, h2, h3, h4, h5, h6, h7⟩ := hW
            go_simp
            try with_reducible rfl
          simp only [Act.put, List.setIfInBounds_toArray, List.set_cons_zero, List.set_cons_succ]
          refine wpAnyH_at 19 (v := ?vv386) rfl (by kernel_rfl) (by kernel_rfl) (by kernel_rfl) (fun _ _ _ h => h) ?hy386 HSv ?hh386
          case hy386 =>
            refine Or.inl ⟨by rfl, ?_⟩
            intro W hW
            obtain ⟨h0, h1, h2, h3, h4, h5, h6, h7⟩ := hW
            go_simp
            try with_reducible rfl
          simp only [Act.put, List.setIfInBounds_toArray, List.set_cons_zero, List.set_cons_succ]
          refine wpAnyH_at 21 (v := ?vv387) rfl (by kernel_rfl) (by kernel_rfl) (by kernel_rfl) (fun _ _ _ h => h) ?hy387 HSv ?hh387
          case hy387 =>
            refine Or.inl ⟨by rfl, ?_⟩
            intro W hW
            obtain ⟨h0, h1, h2, h3, h4, h5, h6, h7⟩ := hW
            go_simp
            try with_reducible rfl
          simp only [Act.put, List.setIfInBounds_toArray, List.set_cons_zero, List.set_cons_succ]
          refine wpAnyH_at 20 (v := ?vv388) rfl (by kernel_rfl) (by kernel_rfl) (by kernel_rfl) (fun _ _ _ h => h) ?hy388 HSv ?hh388
          case hy388 =>
            refine Or.inl ⟨by rfl, ?_⟩
            intro W hW
            obtain ⟨h0, h1, h2, h3, h4, h5, h6, h7⟩ := hW
            go_simp
            try with_reducible rfl
          simp only [Act.put, List.setIfInBounds_toArray, List.set_cons_zero, List.set_cons_succ]
          refine wpAnyH_at 22 (v := ?vv389) rfl (by kernel_rfl) (by kernel_rfl) (by kernel_rfl) (fun _ _ _ h => h) ?hy389 HSv ?hh389
          case hy389 =>
            refine Or.inl ⟨by rfl, ?_⟩
            intro W hW
            obtain ⟨h0, h1, h2, h3, h4, h5, h6, h7⟩ := hW
            go_simp
            try with_reducible rfl
          simp only [Act.put, List.setIfInBounds_toArray, List.set_cons_zero, List.set_cons_succ]
          refine wpAnyH_end 23 (fun j hj => rgH_end _ _ j (by omega)) (by rfl) (by kernel_rfl) ?_
          simp only [List.drop_succ_cons, List.drop_zero]
          clear HSv
          go_wp2_with fail
          go_ret2
          exact ⟨tb, okt, HG.out wE B HN.out.1 HN.out.2, HW.out.1, HW.out.2⟩
      · intro K hK
        rw [if_pos (by rfl)]
        try go_simp
        have bA : Below W2.heap.size W2 (W2.alloc (.cells #[.int .i64 3] 3 (0, 0))) := (Below.refl _ _).alloc (Nat.le_refl _) _
        have hz := at1 W2 (.cells #[.int .i64 3] 3 (0, 0))
        generalize hW3 : W2.alloc (.cells #[.int .i64 3] 3 (0, 0)) = W3 at bA hz ⊢
        obtain ⟨ib, hib⟩ : ∃ ib, ib = W2.heap.size := ⟨_, rfl⟩
        rw [← hib] at hz ⊢
        have HI := Lib.hid hz
        have HR := Lib.hid (HR.out.below bA)
        have HB := Lib.hid (HB.out.trans (bA.mono HB.out.size))
        have HSv : (fun Y : World => Y.cell? ⟨w.heap.size, 0, none⟩ = some (.int .i64 c.mru) ∧ Y.cell? ⟨w.heap.size, 1, none⟩ = some (.int .i64 c.auth) ∧ Y.cell? ⟨w.heap.size, 2, none⟩ = some (.int .i64 c.magic) ∧ Y.cell? ⟨w.heap.size, 3, none⟩ = some (.int .i64 c.echo) ∧ Y.cell? ⟨w.heap.size, 4, none⟩ = some (.int .i64 c.cf) ∧ Y.cell? ⟨w.heap.size, 5, none⟩ = some (.int .i64 c.tm) ∧ Y.cell? ⟨w.heap.size, 6, none⟩ = some (.int .i64 c.fl) ∧ Y.cell? ⟨w.heap.size, 7, none⟩ = some (.int .i64 c.wt)) W3 := HS.out _ HB.out
        refine hK _ _ (fun _ => HSv) ?_
        try simp only [Act.put, List.setIfInBounds_toArray, List.set_cons_zero, List.set_cons_succ]
        clear bA hz hW3 hib
        refine wpAnyH_1 2 rfl (by kernel_rfl) ?_
        intro K hK
        rw [if_pos (by rfl)]
        try go_simp
        go_at_call 35
        refine (units_any 1492 _).mono ?_
        rintro e W4 ⟨rfl, bA⟩
        have HR := Lib.hid (HR.out.below bA)
        have HB := Lib.hid (HB.out.trans (bA.mono HB.out.size))
        have HSv : (fun Y : World => Y.cell? ⟨w.heap.size, 0, none⟩ = some (.int .i64 c.mru) ∧ Y.cell? ⟨w.heap.size, 1, none⟩ = some (.int .i64 c.auth) ∧ Y.cell? ⟨w.heap.size, 2, none⟩ = some (.int .i64 c.magic) ∧ Y.cell? ⟨w.heap.size, 3, none⟩ = some (.int .i64 c.echo) ∧ Y.cell? ⟨w.heap.size, 4, none⟩ = some (.int .i64 c.cf) ∧ Y.cell? ⟨w.heap.size, 5, none⟩ = some (.int .i64 c.tm) ∧ Y.cell? ⟨w.heap.size, 6, none⟩ = some (.int .i64 c.fl) ∧ Y.cell? ⟨w.heap.size, 7, none⟩ = some (.int .i64 c.wt)) W4 := HS.out _ HB.out
        have HI := Lib.hid ((bA.block _ (Array.getElem?_eq_some_iff.1 HI.out).1).trans HI.out)
        refine hK _ _ (fun _ => HSv) ?_
        try simp only [Act.put, List.setIfInBounds_toArray, List.set_cons_zero, List.set_cons_succ]
        clear bA
        refine wpAnyH_1 3 rfl (by kernel_rfl) ?_
        intro K hK
        rw [if_pos (by rfl)]
        try go_simp
        go_at_call 36
        refine (magics_any _).mono ?_
        rintro e W5 ⟨rfl, bA⟩
        have HR := Lib.hid (HR.out.below bA)
        have HB := Lib.hid (HB.out.trans (bA.mono HB.out.size))
        have HSv : (fun Y : World => Y.cell? ⟨w.heap.size, 0, none⟩ = some (.int .i64 c.mru) ∧ Y.cell? ⟨w.heap.size, 1, none⟩ = some (.int .i64 c.auth) ∧ Y.cell? ⟨w.heap.size, 2, none⟩ = some (.int .i64 c.magic) ∧ Y.cell? ⟨w.heap.size, 3, none⟩ = some (.int .i64 c.echo) ∧ Y.cell? ⟨w.heap.size, 4, none⟩ = some (.int .i64 c.cf) ∧ Y.cell? ⟨w.heap.size, 5, none⟩ = some (.int .i64 c.tm) ∧ Y.cell? ⟨w.heap.size, 6, none⟩ = some (.int .i64 c.fl) ∧ Y.cell? ⟨w.heap.size, 7, none⟩ = some (.int .i64 c.wt)) W5 := HS.out _ HB.out
        have HI := Lib.hid ((bA.block _ (Array.getElem?_eq_some_iff.1 HI.out).1).trans HI.out)
        refine hK _ _ (fun _ => HSv) ?_
        try simp only [Act.put, List.setIfInBounds_toArray, List.set_cons_zero, List.set_cons_succ]
        clear bA
        refine wpAnyH_1 4 rfl (by kernel_rfl) ?_
        intro K hK
        rw [if_pos (by rfl)]
        try go_simp
        have bA : Below W5.heap.size W5 (W5.alloc (.cells #[.int .i64 1, .int .i64 2, .int .i64 64, .int .i64 1492, .string (be2 1492), .int .i64 5, .int .i64 4, .int .i64 1, .int .i64 4294967295, .string (be4 1)] 73 (0, 0))) := (Below.refl _ _).alloc (Nat.le_refl _) _
        have hz := at1 W5 (.cells #[.int .i64 1, .int .i64 2, .int .i64 64, .int .i64 1492, .string (be2 1492), .int .i64 5, .int .i64 4, .int .i64 1, .int .i64 4294967295, .string (be4 1)] 73 (0, 0))
        generalize hW6 : W5.alloc (.cells #[.int .i64 1, .int .i64 2, .int .i64 64, .int .i64 1492, .string (be2 1492), .int .i64 5, .int .i64 4, .int .i64 1, .int .i64 4294967295, .string (be4 1)] 73 (0, 0)) = W6 at bA hz ⊢
        obtain ⟨rb, hrb⟩ : ∃ rb, rb = W5.heap.size := ⟨_, rfl⟩
        rw [← hrb] at hz ⊢
        have HRu := Lib.hid hz
        have HR := Lib.hid (HR.out.below bA)
        have HB := Lib.hid (HB.out.trans (bA.mono HB.out.size))
        have HSv : (fun Y : World => Y.cell? ⟨w.heap.size, 0, none⟩ = some (.int .i64 c.mru) ∧ Y.cell? ⟨w.heap.size, 1, none⟩ = some (.int .i64 c.auth) ∧ Y.cell? ⟨w.heap.size, 2, none⟩ = some (.int .i64 c.magic) ∧ Y.cell? ⟨w.heap.size, 3, none⟩ = some (.int .i64 c.echo) ∧ Y.cell? ⟨w.heap.size, 4, none⟩ = some (.int .i64 c.cf) ∧ Y.cell? ⟨w.heap.size, 5, none⟩ = some (.int .i64 c.tm) ∧ Y.cell? ⟨w.heap.size, 6, none⟩ = some (.int .i64 c.fl) ∧ Y.cell? ⟨w.heap.size, 7, none⟩ = some (.int .i64 c.wt)) W6 := HS.out _ HB.out
        have HI := Lib.hid ((bA.block _ (Array.getElem?_eq_some_iff.1 HI.out).1).trans HI.out)
        refine hK _ _ (fun _ => HSv) ?_
        try simp only [Act.put, List.setIfInBounds_toArray, List.set_cons_zero, List.set_cons_succ]
        clear bA hz hW6 hrb
        refine wpAnyH_at 14 (v := ?vv390) rfl (by kernel_rfl) (by kernel_rfl) (by kernel_rfl) (fun _ _ _ h => h) ?hy390 HSv ?hh390
        case hy390 =>
          refine Or.inl ⟨by rfl, ?_⟩
          intro W hW
          obtain ⟨h0, h1, h2, h3, h4, h5, h6, h7⟩ := hW
          go_simp
          try with_reducible rfl
        simp only [Act.put, List.setIfInBounds_toArray, List.set_cons_zero, List.set_cons_succ]
        refine wpAnyH_1 17 rfl (by kernel_rfl) ?_
        intro K hK
        rw [if_pos (by rfl)]
        try go_simp
        go_at_call 34
        refine (HNN.out lb W1 W6 sA cA rb ib HB.out HR.out HRu.out HI.out).mono ?_
        rintro e wE ⟨B, rfl, nE, bE⟩
        have zl := (bE.block lb (Array.getElem?_eq_some_iff.1 HZ.out.2.1).1).trans HZ.out.2.1
        have f0 := fzOf zl 0
        have c0 : wE.cell? ⟨lb, 0, none⟩ = some (.pointer none) := cellOf zl 0 _ rfl
        have HN := Lib.hid (And.intro bE nE)
        have HSv : (fun Y : World => Y.cell? ⟨w.heap.size, 0, none⟩ = some (.int .i64 c.mru) ∧ Y.cell? ⟨w.heap.size, 1, none⟩ = some (.int .i64 c.auth) ∧ Y.cell? ⟨w.heap.size, 2, none⟩ = some (.int .i64 c.magic) ∧ Y.cell? ⟨w.heap.size, 3, none⟩ = some (.int .i64 c.echo) ∧ Y.cell? ⟨w.heap.size, 4, none⟩ = some (.int .i64 c.cf) ∧ Y.cell? ⟨w.heap.size, 5, none⟩ = some (.int .i64 c.tm) ∧ Y.cell? ⟨w.heap.size, 6, none⟩ = some (.int .i64 c.fl) ∧ Y.cell? ⟨w.heap.size, 7, none⟩ = some (.int .i64 c.wt)) wE := HS.out _ bE
        clear bE nE zl
        refine hK _ _ (fun _ => HSv) ?_
        try simp only [Act.put, List.setIfInBounds_toArray, List.set_cons_zero, List.set_cons_succ]
        refine wpAnyH_at 18 (v := ?vv391) rfl (by kernel_rfl) (by kernel_rfl) (by kernel_rfl) (fun _ _ _ h => h) ?hy391 HSv ?hh391
        case hy391 =>
          refine Or.inl ⟨by rfl, ?_⟩
          intro W hW
          obtain ⟨h0, h1, h2, h3, h4, h5, h6, h7⟩ := hW
          go_simp
          try with_reducible rfl
        simp only [Act.put, List.setIfInBounds_toArray, List.set_cons_zero, List.set_cons_succ]
        refine wpAnyH_at 19 (v := ?vv392) rfl (by kernel_rfl) (by kernel_rfl) (by kernel_rfl) (fun _ _ _ h => h) ?hy392 HSv ?hh392
        case hy392 =>
          refine Or.inl ⟨by rfl, ?_⟩
          intro W hW
          obtain ⟨h0, h1, h2, h3, h4, h5, h6, h7⟩ := hW
          go_simp
          try with_reducible rfl
        simp only [Act.put, List.setIfInBounds_toArray, List.set_cons_zero, List.set_cons_succ]
        refine wpAnyH_at 21 (v := ?vv393) rfl (by kernel_rfl) (by kernel_rfl) (by kernel_rfl) (fun _ _ _ h => h) ?hy393 HSv ?hh393
        case hy393 =>
          refine Or.inl ⟨by rfl, ?_⟩
          intro W hW
          obtain ⟨h0, h1, h2, h3, h4, h5, h6, h7⟩ := hW
          go_simp
          try with_reducible rfl
        simp only [Act.put, List.setIfInBounds_toArray, List.set_cons_zero, List.set_cons_succ]
        refine wpAnyH_at 20 (v := ?vv394) rfl (by kernel_rfl) (by kernel_rfl) (by kernel_rfl) (fun _ _ _ h => h) ?hy394 HSv ?hh394
        case hy394 =>
          refine Or.inl ⟨by rfl, ?_⟩
          intro W hW
          obtain ⟨h0, h1, h2, h3, h4, h5, h6, h7⟩ := hW
          go_simp
          try with_reducible rfl
        simp only [Act.put, List.setIfInBounds_toArray, List.set_cons_zero, List.set_cons_succ]
        refine wpAnyH_at 22 (v := ?vv395) rfl (by kernel_rfl) (by kernel_rfl) (by kernel_rfl) (fun _ _ _ h => h) ?hy395 HSv ?hh395
        case hy395 =>
          refine Or.inl ⟨by rfl, ?_⟩
          intro W hW
          obtain ⟨h0, h1, h2, h3, h4, h5, h6, h7⟩ := hW
          go_simp
          try with_reducible rfl
        simp only [Act.put, List.setIfInBounds_toArray, List.set_cons_zero, List.set_cons_succ]
        refine wpAnyH_end 23 (fun j hj => rgH_end _ _ j (by omega)) (by rfl) (by kernel_rfl) ?_
        simp only [List.drop_succ_cons, List.drop_zero]
        clear HSv
        go_wp2_with fail
        go_ret2
        exact ⟨tb, okt, HG.out wE B HN.out.1 HN.out.2, HW.out.1, HW.out.2⟩
    · intro K hK
      rw [if_pos (by rfl)]
      try go_simp
      have bA : Below W.heap.size W (W.alloc (.cells #[.int .i64 3] 3 (0, 0))) := (Below.refl _ _).alloc (Nat.le_refl _) _
      have hz := at1 W (.cells #[.int .i64 3] 3 (0, 0))
      generalize hW2 : W.alloc (.cells #[.int .i64 3] 3 (0, 0)) = W2 at bA hz ⊢
      obtain ⟨ib, hib⟩ : ∃ ib, ib = W.heap.size := ⟨_, rfl⟩
      rw [← hib] at hz ⊢
      have HI := Lib.hid hz
      have HB := Lib.hid (HB.out.trans (bA.mono HB.out.size))
      have HSv : (fun Y : World => Y.cell? ⟨w.heap.size, 0, none⟩ = some (.int .i64 c.mru) ∧ Y.cell? ⟨w.heap.size, 1, none⟩ = some (.int .i64 c.auth) ∧ Y.cell? ⟨w.heap.size, 2, none⟩ = some (.int .i64 c.magic) ∧ Y.cell? ⟨w.heap.size, 3, none⟩ = some (.int .i64 c.echo) ∧ Y.cell? ⟨w.heap.size, 4, none⟩ = some (.int .i64 c.cf) ∧ Y.cell? ⟨w.heap.size, 5, none⟩ = some (.int .i64 c.tm) ∧ Y.cell? ⟨w.heap.size, 6, none⟩ = some (.int .i64 c.fl) ∧ Y.cell? ⟨w.heap.size, 7, none⟩ = some (.int .i64 c.wt)) W2 := HS.out _ HB.out
      refine hK _ _ (fun _ => HSv) ?_
      try simp only [Act.put, List.setIfInBounds_toArray, List.set_cons_zero, List.set_cons_succ]
      clear bA hz hW2 hib
      refine wpAnyH_1 1 rfl (by kernel_rfl) ?_
      intro K hK
      rw [if_pos (by rfl)]
      try go_simp
      go_at_call 18
      refine (HLO.out _).mono ?_
      rintro e W3 ⟨vA, rfl, rA, bA⟩
      obtain ⟨sA, cA, rfl⟩ := rA.form
      have HR := Lib.hid (rA.base HB.out.size)
      have HB := Lib.hid (HB.out.trans (bA.mono HB.out.size))
      have HSv : (fun Y : World => Y.cell? ⟨w.heap.size, 0, none⟩ = some (.int .i64 c.mru) ∧ Y.cell? ⟨w.heap.size, 1, none⟩ = some (.int .i64 c.auth) ∧ Y.cell? ⟨w.heap.size, 2, none⟩ = some (.int .i64 c.magic) ∧ Y.cell? ⟨w.heap.size, 3, none⟩ = some (.int .i64 c.echo) ∧ Y.cell? ⟨w.heap.size, 4, none⟩ = some (.int .i64 c.cf) ∧ Y.cell? ⟨w.heap.size, 5, none⟩ = some (.int .i64 c.tm) ∧ Y.cell? ⟨w.heap.size, 6, none⟩ = some (.int .i64 c.fl) ∧ Y.cell? ⟨w.heap.size, 7, none⟩ = some (.int .i64 c.wt)) W3 := HS.out _ HB.out
      have HI := Lib.hid ((bA.block _ (Array.getElem?_eq_some_iff.1 HI.out).1).trans HI.out)
      refine hK _ _ (fun _ => HSv) ?_
      try simp only [Act.put, List.setIfInBounds_toArray, List.set_cons_zero, List.set_cons_succ]
      clear rA bA
      refine wpAnyH_1 2 rfl (by kernel_rfl) ?_
      intro K hK
      rw [if_pos (by rfl)]
      try go_simp
      go_at_call 35
      refine (units_any 1492 _).mono ?_
      rintro e W4 ⟨rfl, bA⟩
      have HR := Lib.hid (HR.out.below bA)
      have HB := Lib.hid (HB.out.trans (bA.mono HB.out.size))
      have HSv : (fun Y : World => Y.cell? ⟨w.heap.size, 0, none⟩ = some (.int .i64 c.mru) ∧ Y.cell? ⟨w.heap.size, 1, none⟩ = some (.int .i64 c.auth) ∧ Y.cell? ⟨w.heap.size, 2, none⟩ = some (.int .i64 c.magic) ∧ Y.cell? ⟨w.heap.size, 3, none⟩ = some (.int .i64 c.echo) ∧ Y.cell? ⟨w.heap.size, 4, none⟩ = some (.int .i64 c.cf) ∧ Y.cell? ⟨w.heap.size, 5, none⟩ = some (.int .i64 c.tm) ∧ Y.cell? ⟨w.heap.size, 6, none⟩ = some (.int .i64 c.fl) ∧ Y.cell? ⟨w.heap.size, 7, none⟩ = some (.int .i64 c.wt)) W4 := HS.out _ HB.out
      have HI := Lib.hid ((bA.block _ (Array.getElem?_eq_some_iff.1 HI.out).1).trans HI.out)
      refine hK _ _ (fun _ => HSv) ?_
      try simp only [Act.put, List.setIfInBounds_toArray, List.set_cons_zero, List.set_cons_succ]
      clear bA
      refine wpAnyH_1 3 rfl (by kernel_rfl) ?_
      intro K hK
      rw [if_pos (by rfl)]
      try go_simp
      go_at_call 36
      refine (magics_any _).mono ?_
      rintro e W5 ⟨rfl, bA⟩
      have HR := Lib.hid (HR.out.below bA)
      have HB := Lib.hid (HB.out.trans (bA.mono HB.out.size))
      have HSv : (fun Y : World => Y.cell? ⟨w.heap.size, 0, none⟩ = some (.int .i64 c.mru) ∧ Y.cell? ⟨w.heap.size, 1, none⟩ = some (.int .i64 c.auth) ∧ Y.cell? ⟨w.heap.size, 2, none⟩ = some (.int .i64 c.magic) ∧ Y.cell? ⟨w.heap.size, 3, none⟩ = some (.int .i64 c.echo) ∧ Y.cell? ⟨w.heap.size, 4, none⟩ = some (.int .i64 c.cf) ∧ Y.cell? ⟨w.heap.size, 5, none⟩ = some (.int .i64 c.tm) ∧ Y.cell? ⟨w.heap.size, 6, none⟩ = some (.int .i64 c.fl) ∧ Y.cell? ⟨w.heap.size, 7, none⟩ = some (.int .i64 c.wt)) W5 := HS.out _ HB.out
      have HI := Lib.hid ((bA.block _ (Array.getElem?_eq_some_iff.1 HI.out).1).trans HI.out)
      refine hK _ _ (fun _ => HSv) ?_
      try simp only [Act.put, List.setIfInBounds_toArray, List.set_cons_zero, List.set_cons_succ]
      clear bA
      refine wpAnyH_1 4 rfl (by kernel_rfl) ?_
      intro K hK
      rw [if_pos (by rfl)]
      try go_simp
      have bA : Below W5.heap.size W5 (W5.alloc (.cells #[.int .i64 1, .int .i64 2, .int .i64 64, .int .i64 1492, .string (be2 1492), .int .i64 5, .int .i64 4, .int .i64 1, .int .i64 4294967295, .string (be4 1)] 73 (0, 0))) := (Below.refl _ _).alloc (Nat.le_refl _) _
      have hz := at1 W5 (.cells #[.int .i64 1, .int .i64 2, .int .i64 64, .int .i64 1492, .string (be2 1492), .int .i64 5, .int .i64 4, .int .i64 1, .int .i64 4294967295, .string (be4 1)] 73 (0, 0))
      generalize hW6 : W5.alloc (.cells #[.int .i64 1, .int .i64 2, .int .i64 64, .int .i64 1492, .string (be2 1492), .int .i64 5, .int .i64 4, .int .i64 1, .int .i64 4294967295, .string (be4 1)] 73 (0, 0)) = W6 at bA hz ⊢
      obtain ⟨rb, hrb⟩ : ∃ rb, rb = W5.heap.size := ⟨_, rfl⟩
      rw [← hrb] at hz ⊢
      have HRu := Lib.hid hz
      have HR := Lib.hid (HR.out.below bA)
      have HB := Lib.hid (HB.out.trans (bA.mono HB.out.size))
      have HSv : (fun Y : World => Y.cell? ⟨w.heap.size, 0, none⟩ = some (.int .i64 c.mru) ∧ Y.cell? ⟨w.heap.size, 1, none⟩ = some (.int .i64 c.auth) ∧ Y.cell? ⟨w.heap.size, 2, none⟩ = some (.int .i64 c.magic) ∧ Y.cell? ⟨w.heap.size, 3, none⟩ = some (.int .i64 c.echo) ∧ Y.cell? ⟨w.heap.size, 4, none⟩ = some (.int .i64 c.cf) ∧ Y.cell? ⟨w.heap.size, 5, none⟩ = some (.int .i64 c.tm) ∧ Y.cell? ⟨w.heap.size, 6, none⟩ = some (.int .i64 c.fl) ∧ Y.cell? ⟨w.heap.size, 7, none⟩ = some (.int .i64 c.wt)) W6 := HS.out _ HB.out
      have HI := Lib.hid ((bA.block _ (Array.getElem?_eq_some_iff.1 HI.out).1).trans HI.out)
      refine hK _ _ (fun _ => HSv) ?_
      try simp only [Act.put, List.setIfInBounds_toArray, List.set_cons_zero, List.set_cons_succ]
      clear bA hz hW6 hrb
      refine wpAnyH_at 14 (v := ?vv396) rfl (by kernel_rfl) (by kernel_rfl) (by kernel_rfl) (fun _ _ _ h => h) ?hy396 HSv ?hh396
      case hy396 =>
        refine Or.inl ⟨by rfl, ?_⟩
        intro W hW
        obtain ⟨h0, h1, h2, h3, h4, h5, h6, h7⟩ := hW
        go_simp
        try with_reducible rfl
      simp only [Act.put, List.setIfInBounds_toArray, List.set_cons_zero, List.set_cons_succ]
      refine wpAnyH_1 17 rfl (by kernel_rfl) ?_
      intro K hK
      rw [if_pos (by rfl)]
      try go_simp
      go_at_call 34
      refine (HNN.out lb W1 W6 sA cA rb ib HB.out HR.out HRu.out HI.out).mono ?_
      rintro e wE ⟨B, rfl, nE, bE⟩
      have zl := (bE.block lb (Array.getElem?_eq_some_iff.1 HZ.out.2.1).1).trans HZ.out.2.1
      have f0 := fzOf zl 0
      have c0 : wE.cell? ⟨lb, 0, none⟩ = some (.pointer none) := cellOf zl 0 _ rfl
      have HN := Lib.hid (And.intro bE nE)
      have HSv : (fun Y : World => Y.cell? ⟨w.heap.size, 0, none⟩ = some (.int .i64 c.mru) ∧ Y.cell? ⟨w.heap.size, 1, none⟩ = some (.int .i64 c.auth) ∧ Y.cell? ⟨w.heap.size, 2, none⟩ = some (.int .i64 c.magic) ∧ Y.cell? ⟨w.heap.size, 3, none⟩ = some (.int .i64 c.echo) ∧ Y.cell? ⟨w.heap.size, 4, none⟩ = some (.int .i64 c.cf) ∧ Y.cell? ⟨w.heap.size, 5, none⟩ = some (.int .i64 c.tm) ∧ Y.cell? ⟨w.heap.size, 6, none⟩ = some (.int .i64 c.fl) ∧ Y.cell? ⟨w.heap.size, 7, none⟩ = some (.int .i64 c.wt)) wE := HS.out _ bE
      clear bE nE zl
      refine hK _ _ (fun _ => HSv) ?_
      try simp only [Act.put, List.setIfInBounds_toArray, List.set_cons_zero, List.set_cons_succ]
      refine wpAnyH_at 18 (v := ?vv397) rfl (by kernel_rfl) (by kernel_rfl) (by kernel_rfl) (fun _ _ _ h => h) ?hy397 HSv ?hh397
      case hy397 =>
        refine Or.inl ⟨by rfl, ?_⟩
        intro W hW
        obtain ⟨h0, h1, h2, h3, h4, h5, h6, h7⟩ := hW
        go_simp
        try with_reducible rfl
      simp only [Act.put, List.setIfInBounds_toArray, List.set_cons_zero, List.set_cons_succ]
      refine wpAnyH_at 19 (v := ?vv398) rfl (by kernel_rfl) (by kernel_rfl) (by kernel_rfl) (fun _ _ _ h => h) ?hy398 HSv ?hh398
      case hy398 =>
        refine Or.inl ⟨by rfl, ?_⟩
        intro W hW
        obtain ⟨h0, h1, h2, h3, h4, h5, h6, h7⟩ := hW
        go_simp
        try with_reducible rfl
      simp only [Act.put, List.setIfInBounds_toArray, List.set_cons_zero, List.set_cons_succ]
      refine wpAnyH_at 21 (v := ?vv399) rfl (by kernel_rfl) (by kernel_rfl) (by kernel_rfl) (fun _ _ _ h => h) ?hy399 HSv ?hh399
      case hy399 =>
        refine Or.inl ⟨by rfl, ?_⟩
        intro W hW
        obtain ⟨h0, h1, h2, h3, h4, h5, h6, h7⟩ := hW
        go_simp
        try with_reducible rfl
      simp only [Act.put, List.setIfInBounds_toArray, List.set_cons_zero, List.set_cons_succ]
      refine wpAnyH_at 20 (v := ?vv400) rfl (by kernel_rfl) (by kernel_rfl) (by kernel_rfl) (fun _ _ _ h => h) ?hy400 HSv ?hh400
      case hy400 =>
        refine Or.inl ⟨by rfl, ?_⟩
        intro W hW
        obtain ⟨h0, h1, h2, h3, h4, h5, h6, h7⟩ := hW
        go_simp
        try with_reducible rfl
      simp only [Act.put, List.setIfInBounds_toArray, List.set_cons_zero, List.set_cons_succ]
      refine wpAnyH_at 22 (v := ?vv401) rfl (by kernel_rfl) (by kernel_rfl) (by kernel_rfl) (fun _ _ _ h => h) ?hy401 HSv ?hh401
      case hy401 =>
        refine Or.inl ⟨by rfl, ?_⟩
        intro W hW
        obtain ⟨h0, h1, h2, h3, h4, h5, h6, h7⟩ := hW
        go_simp
        try with_reducible rfl
      simp only [Act.put, List.setIfInBounds_toArray, List.set_cons_zero, List.set_cons_succ]
      refine wpAnyH_end 23 (fun j hj => rgH_end _ _ j (by omega)) (by rfl) (by kernel_rfl) ?_
      simp only [List.drop_succ_cons, List.drop_zero]
      clear HSv
      go_wp2_with fail
      go_ret2
      exact ⟨tb, okt, HG.out wE B HN.out.1 HN.out.2, HW.out.1, HW.out.2⟩
end Go.Proofs.YthhdackaopaojaaGreat
