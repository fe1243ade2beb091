import Derived.Test.YthhdackaopaojaaGreatK21
/- A link is made with no tape given. -/
namespace Go.Proofs.YthhdackaopaojaaGreat
open Go.RowKit Go.Tg Go.Maps

def NewN (w w' : World) (e : Ending) (c : LCfg) : Prop := ∃ tb okt, NewL w w' e c tb okt ⟨[], 0⟩ ∧ (∀ b, okt b → w.heap.size ≤ b) ∧ w.heap.size ≤ tb

set_option maxHeartbeats 16000000 in
set_option maxRecDepth 100000 in
theorem lnew_nil (c : LCfg) (hc : c.Ok) (w : World) :
    Calls Tryz.prog 12 #[cfgV c, .pointer none] w fun e w' => NewN w w' e c := by
  have q1 : ∀ w, (binOp .eql 31 (.pointer none) (.pointer none)).run Tryz.prog w = .ok (.bool true) w := fun w => by kernel_rfl
  have L1 : ∀ w, Calls Tryz.prog 32 #[.int .i64 c.mru, .int .i64 64, .int .i64 1492] w fun e w' => e = .returned (.bool true) ∧ w = w' := fun w => (lin_any c.mru 64 1492 w).mono (fun e w' h => by have := hc.mru; refine ⟨by rw [h.1]; simp [this.1, this.2], h.2⟩)
  have L2 : ∀ w, Calls Tryz.prog 32 #[.int .i64 c.magic, .int .i64 0, .int .i64 4294967295] w fun e w' => e = .returned (.bool true) ∧ w = w' := fun w => (lin_any c.magic 0 4294967295 w).mono (fun e w' h => by have := hc.magic; refine ⟨by rw [h.1]; simp [this.1, this.2], h.2⟩)
  have L3 : ∀ w, Calls Tryz.prog 32 #[.int .i64 c.echo, .int .i64 0, .int .i64 100] w fun e w' => e = .returned (.bool true) ∧ w = w' := fun w => (lin_any c.echo 0 100 w).mono (fun e w' h => by have := hc.echo; refine ⟨by rw [h.1]; simp [this.1, this.2], h.2⟩)
  have HL := Lib.hid (And.intro L1 (And.intro L2 L3))
  have H := Lib.hid hc
  have hia : I64 c.auth := by rcases hc.auth with h | h | h <;> rw [h] <;> (unfold I64; decide)
  have HV := Lib.hid (fun w => lvalue_any c.auth w hia)
  have hva : c.auth ≠ 0 → (lvalS c.auth).toList.isEmpty = false := by
    intro h0
    rcases hc.auth with h | h | h
    · exact absurd h h0
    · rw [h, isE]; decide
    · rw [h, isE]; decide
  have hb0 := (Below.refl w.heap.size w).alloc (Nat.le_refl _) (cfgO c)
  have HB0 := Lib.hid (And.intro hb0 (And.intro (at1 w (cfgO c)) (alloc1 w (cfgO c))))
  have HIA := Lib.hid hia
  have HNN := Lib.hid (fun lb W1 WN sa ca rb ib h1 h2 h3 h4 => lnew_neg c hc lb W1 WN sa ca rb ib h1 h2 h3 h4)
  unfold cfgV
  clear L1 L2 L3 hc hia
  by_cases h0 : c.auth = 0
  · skip
    clear hva
    have hz := HB0.out.2.1
    unfold cfgO at hz
    have ea : (c.auth != 0) = false := by simp [h0]
    clear h0 hz
    go_enter Tryz.func12, Tryz.ntmps12
    go_wp2_with (first
      | (go_at_call 32; first | with_reducible refine (HL.out.1 _).mono ?_ | with_reducible refine (HL.out.2.1 _).mono ?_ | with_reducible refine (HL.out.2.2 _).mono ?_
         rintro e w1 ⟨rfl, rfl⟩)
      | (go_at_call 13; refine (tapeNew_any [] _ (fun _ => False) _ (Rec.nil _ _ _) (fun _ h => by cases h) (by decide)).mono ?_; rintro e wv ⟨tb, rfl, t5, s5, b5⟩
         have HT5 := Lib.hid (And.intro t5 (And.intro t5.lt (Nat.le_trans HB0.out.1.size s5)))
         have HZ := Lib.hid (show Below w.heap.size w wv ∧ wv.heap[w.heap.size]? = some (cfgO c) from ⟨HB0.out.1.trans (b5.mono HB0.out.1.size), (b5.block _ (Array.getElem?_eq_some_iff.1 HB0.out.2.1).1).trans HB0.out.2.1⟩)
         have hz := HZ.out.2
         unfold cfgO at hz
         have x0 := cellOf hz 0 _ rfl
         have x1 := cellOf hz 1 _ rfl
         have x2 := cellOf hz 2 _ rfl
         have x3 := cellOf hz 3 _ rfl
         have x4 := cellOf hz 4 _ rfl
         have x5 := cellOf hz 5 _ rfl
         have x6 := cellOf hz 6 _ rfl
         have x7 := cellOf hz 7 _ rfl
         clear t5 s5 b5 hz))
    clear x0 x1 x2 x3 x4 x5 x6 x7
    have hz1 : (wv.alloc (.cells #[.pointer none, .pointer (some ⟨tb, 0, none⟩), .int .i64 c.echo, .int .i64 c.magic, .int .i64 0, .int .i64 0, .int .i64 0] 64 (0, 0))).heap[w.heap.size]? = some (cfgO c) := (Below.heap_alloc _ _ _ (Array.getElem?_eq_some_iff.1 HZ.out.2).1).trans HZ.out.2
    have hl1 := at1 wv (.cells #[.pointer none, .pointer (some ⟨tb, 0, none⟩), .int .i64 c.echo, .int .i64 c.magic, .int .i64 0, .int .i64 0, .int .i64 0] 64 (0, 0))
    have hw1 : Below w.heap.size w (wv.alloc (.cells #[.pointer none, .pointer (some ⟨tb, 0, none⟩), .int .i64 c.echo, .int .i64 c.magic, .int .i64 0, .int .i64 0, .int .i64 0] 64 (0, 0))) := HZ.out.1.alloc HZ.out.1.size _
    have hs1 := alloc1 wv (.cells #[.pointer none, .pointer (some ⟨tb, 0, none⟩), .int .i64 c.echo, .int .i64 c.magic, .int .i64 0, .int .i64 0, .int .i64 0] 64 (0, 0))
    have hlb : w.heap.size < wv.heap.size := (Array.getElem?_eq_some_iff.1 HZ.out.2).1
    obtain ⟨okt, hokt⟩ : ∃ okt : Nat → Prop, okt = fun b => (w.alloc (cfgO c)).heap.size ≤ b ∧ b < tb := ⟨_, rfl⟩
    have ht1 : TapeAt (wv.alloc (.cells #[.pointer none, .pointer (some ⟨tb, 0, none⟩), .int .i64 c.echo, .int .i64 c.magic, .int .i64 0, .int .i64 0, .int .i64 0] 64 (0, 0))) tb okt ⟨[], 0⟩ := by rw [hokt]; exact HT5.out.1.below ((Below.refl _ _).alloc (Nat.le_refl _) _)
    have htl := HT5.out.2.1
    have HW := Lib.hid (And.intro (show ∀ b, okt b → w.heap.size ≤ b from fun b hb => by rw [hokt] at hb; exact Nat.le_trans HB0.out.1.size hb.1) HT5.out.2.2)
    have HOK := Lib.hid (show ∀ b, okt b → b < tb from fun b hb => by rw [hokt] at hb; exact hb.2)
    obtain ⟨lb, hlbe⟩ : ∃ lb, lb = wv.heap.size := ⟨_, rfl⟩
    generalize hW1 : wv.alloc (.cells #[.pointer none, .pointer (some ⟨tb, 0, none⟩), .int .i64 c.echo, .int .i64 c.magic, .int .i64 0, .int .i64 0, .int .i64 0] 64 (0, 0)) = W1 at hz1 hl1 hw1 hs1 ht1 ⊢
    rw [← hlbe] at hl1 hs1 hlb htl ⊢
    clear hW1 hlbe HZ hokt HT5
    have HZ := Lib.hid (And.intro hz1 (And.intro hl1 (And.intro hw1 (And.intro hs1 hlb))))
    have HS : Hid (∀ W, Below W1.heap.size W1 W → (fun Y : World => Y.cell? ⟨w.heap.size, 0, none⟩ = some (.int .i64 c.mru) ∧ Y.cell? ⟨w.heap.size, 1, none⟩ = some (.int .i64 c.auth) ∧ Y.cell? ⟨w.heap.size, 2, none⟩ = some (.int .i64 c.magic) ∧ Y.cell? ⟨w.heap.size, 3, none⟩ = some (.int .i64 c.echo) ∧ Y.cell? ⟨w.heap.size, 4, none⟩ = some (.int .i64 c.cf) ∧ Y.cell? ⟨w.heap.size, 5, none⟩ = some (.int .i64 c.tm) ∧ Y.cell? ⟨w.heap.size, 6, none⟩ = some (.int .i64 c.fl) ∧ Y.cell? ⟨w.heap.size, 7, none⟩ = some (.int .i64 c.wt)) W) := Lib.hid fun W hW => by
      have h : W.heap[w.heap.size]? = some (.cells #[.int .i64 c.mru, .int .i64 c.auth, .int .i64 c.magic, .int .i64 c.echo, .int .i64 c.cf, .int .i64 c.tm, .int .i64 c.fl, .int .i64 c.wt] 24 (0, 0)) := (hW.block _ (by have := HZ.out.2.2.2.1; have := HZ.out.2.2.2.2; omega)).trans HZ.out.1
      exact ⟨cellOf h 0 _ rfl, cellOf h 1 _ rfl, cellOf h 2 _ rfl, cellOf h 3 _ rfl, cellOf h 4 _ rfl, cellOf h 5 _ rfl, cellOf h 6 _ rfl, cellOf h 7 _ rfl⟩
    have HLO := Lib.hid (fun W => lopts_any c W HIA.out)
    unfold cfgV at HLO
    have a1 : ∀ (W : World) (O : Obj), W.heap.size < (W.alloc O).heap.size := fun W O => by rw [alloc1]; omega
    have HA1 := Lib.hid a1
    have HG := Lib.hid (fun wE B bE nE => lnew_end (c := c) (w := w) (W1 := W1) (wE := wE) (lb := lb) (tb := tb) (okt := okt) (t := ⟨[], 0⟩) (B := B) hw1 hl1 ht1 (fun b hb => by have := HOK.out b hb; omega) (by omega) (by omega) bE nE)
    obtain ⟨y0, y1, y2, y3, y4, y5, y6, y7⟩ := HS.out W1.drew (Below.refl _ _).drew
    clear hz1 hl1 hw1 hs1 hlb a1 ht1 htl
    refine wp_region_H (rgH 0 23) (fun Y : World => Y.cell? ⟨w.heap.size, 0, none⟩ = some (.int .i64 c.mru) ∧ Y.cell? ⟨w.heap.size, 1, none⟩ = some (.int .i64 c.auth) ∧ Y.cell? ⟨w.heap.size, 2, none⟩ = some (.int .i64 c.magic) ∧ Y.cell? ⟨w.heap.size, 3, none⟩ = some (.int .i64 c.echo) ∧ Y.cell? ⟨w.heap.size, 4, none⟩ = some (.int .i64 c.cf) ∧ Y.cell? ⟨w.heap.size, 5, none⟩ = some (.int .i64 c.tm) ∧ Y.cell? ⟨w.heap.size, 6, none⟩ = some (.int .i64 c.fl) ∧ Y.cell? ⟨w.heap.size, 7, none⟩ = some (.int .i64 c.wt)) (by kernel_rfl) ?_
    have HSv : (fun Y : World => Y.cell? ⟨w.heap.size, 0, none⟩ = some (.int .i64 c.mru) ∧ Y.cell? ⟨w.heap.size, 1, none⟩ = some (.int .i64 c.auth) ∧ Y.cell? ⟨w.heap.size, 2, none⟩ = some (.int .i64 c.magic) ∧ Y.cell? ⟨w.heap.size, 3, none⟩ = some (.int .i64 c.echo) ∧ Y.cell? ⟨w.heap.size, 4, none⟩ = some (.int .i64 c.cf) ∧ Y.cell? ⟨w.heap.size, 5, none⟩ = some (.int .i64 c.tm) ∧ Y.cell? ⟨w.heap.size, 6, none⟩ = some (.int .i64 c.fl) ∧ Y.cell? ⟨w.heap.size, 7, none⟩ = some (.int .i64 c.wt)) W1.drew := HS.out _ (Below.refl _ _).drew
    have HB := Lib.hid (show Below W1.heap.size W1 W1.drew from (Below.refl _ _).drew)
    refine wpAnyH_at 0 (v := ?vv87) rfl (by kernel_rfl) (by kernel_rfl) (by kernel_rfl) (fun _ _ _ h => h) ?hy87 HSv ?hh87
    case hy87 =>
      refine Or.inl ⟨by rfl, ?_⟩
      intro W hW
      obtain ⟨h0, h1, h2, h3, h4, h5, h6, h7⟩ := hW
      go_simp
      try with_reducible rfl
    simp only [Act.put, List.setIfInBounds_toArray, List.set_cons_zero, List.set_cons_succ]
    refine wpAnyH_at 6 (v := ?vv88) rfl (by kernel_rfl) (by kernel_rfl) (by kernel_rfl) (fun _ _ _ h => h) ?hy88 HSv ?hh88
    case hy88 =>
      refine Or.inl ⟨by rfl, ?_⟩
      intro W hW
      obtain ⟨h0, h1, h2, h3, h4, h5, h6, h7⟩ := hW
      go_simp
      try with_reducible rfl
    simp only [Act.put, List.setIfInBounds_toArray, List.set_cons_zero, List.set_cons_succ]
    refine wpAnyH_at 7 (v := ?vv89) rfl (by kernel_rfl) (by kernel_rfl) (by kernel_rfl) (fun _ _ _ h => h) ?hy89 HSv ?hh89
    case hy89 =>
      refine Or.inl ⟨by rfl, ?_⟩
      intro W hW
      obtain ⟨h0, h1, h2, h3, h4, h5, h6, h7⟩ := hW
      go_simp
      try with_reducible rfl
    simp only [Act.put, List.setIfInBounds_toArray, List.set_cons_zero, List.set_cons_succ]
    refine wpAnyH_at 8 (v := ?vv90) rfl (by kernel_rfl) (by kernel_rfl) (by kernel_rfl) (fun _ _ _ h => h) ?hy90 HSv ?hh90
    case hy90 =>
      refine Or.inl ⟨by rfl, ?_⟩
      intro W hW
      obtain ⟨h0, h1, h2, h3, h4, h5, h6, h7⟩ := hW
      go_simp
      try with_reducible rfl
    simp only [Act.put, List.setIfInBounds_toArray, List.set_cons_zero, List.set_cons_succ]
    refine wpAnyH_at 9 (v := ?vv91) rfl (by kernel_rfl) (by kernel_rfl) (by kernel_rfl) (fun _ _ _ h => h) ?hy91 HSv ?hh91
    case hy91 =>
      refine Or.inl ⟨by rfl, ?_⟩
      intro W hW
      obtain ⟨h0, h1, h2, h3, h4, h5, h6, h7⟩ := hW
      go_simp
      try with_reducible rfl
    simp only [Act.put, List.setIfInBounds_toArray, List.set_cons_zero, List.set_cons_succ]
    refine wpAnyH_at 10 (v := ?vv92) rfl (by kernel_rfl) (by kernel_rfl) (by kernel_rfl) (fun _ _ _ h => h) ?hy92 HSv ?hh92
    case hy92 =>
      refine Or.inl ⟨by rfl, ?_⟩
      intro W hW
      obtain ⟨h0, h1, h2, h3, h4, h5, h6, h7⟩ := hW
      go_simp
      try with_reducible rfl
    simp only [Act.put, List.setIfInBounds_toArray, List.set_cons_zero, List.set_cons_succ]
    refine wpAnyH_at 11 (v := ?vv93) rfl (by kernel_rfl) (by kernel_rfl) (by kernel_rfl) (fun _ _ _ h => h) ?hy93 HSv ?hh93
    case hy93 =>
      refine Or.inl ⟨by rfl, ?_⟩
      intro W hW
      obtain ⟨h0, h1, h2, h3, h4, h5, h6, h7⟩ := hW
      go_simp
      try with_reducible rfl
    simp only [Act.put, List.setIfInBounds_toArray, List.set_cons_zero, List.set_cons_succ]
    refine wpAnyH_at 12 (v := ?vv94) rfl (by kernel_rfl) (by kernel_rfl) (by kernel_rfl) (fun _ _ _ h => h) ?hy94 HSv ?hh94
    case hy94 =>
      refine Or.inl ⟨by rfl, ?_⟩
      intro W hW
      obtain ⟨h0, h1, h2, h3, h4, h5, h6, h7⟩ := hW
      go_simp
      try with_reducible rfl
    simp only [Act.put, List.setIfInBounds_toArray, List.set_cons_zero, List.set_cons_succ]
    refine wpAnyH_at 13 (v := ?vv95) rfl (by kernel_rfl) (by kernel_rfl) (by kernel_rfl) (fun _ _ _ h => h) ?hy95 HSv ?hh95
    case hy95 =>
      refine Or.inl ⟨by rfl, ?_⟩
      intro W hW
      obtain ⟨h0, h1, h2, h3, h4, h5, h6, h7⟩ := hW
      go_simp
      try with_reducible rfl
    simp only [Act.put, List.setIfInBounds_toArray, List.set_cons_zero, List.set_cons_succ]
    refine wpAnyH_at 15 (v := ?vv96) rfl (by kernel_rfl) (by kernel_rfl) (by kernel_rfl) (fun _ _ _ h => h) ?hy96 HSv ?hh96
    case hy96 =>
      refine Or.inl ⟨by rfl, ?_⟩
      intro W hW
      obtain ⟨h0, h1, h2, h3, h4, h5, h6, h7⟩ := hW
      go_simp
      try with_reducible rfl
    simp only [Act.put, List.setIfInBounds_toArray, List.set_cons_zero, List.set_cons_succ]
    refine wpAnyH_at 16 (v := ?vv97) rfl (by kernel_rfl) (by kernel_rfl) (by kernel_rfl) (fun _ _ _ h => h) ?hy97 HSv ?hh97
    case hy97 =>
      refine Or.inl ⟨by rfl, ?_⟩
      intro W hW
      obtain ⟨h0, h1, h2, h3, h4, h5, h6, h7⟩ := hW
      go_simp
      try with_reducible rfl
    simp only [Act.put, List.setIfInBounds_toArray, List.set_cons_zero, List.set_cons_succ]
    generalize W1.drew = W at HSv HB ⊢
    refine wpAnyH_2 1 5 rfl rfl (by kernel_rfl) ?_ ?_
    · intro K hK
      rw [if_pos (by rfl)]
      try go_simp
      go_at_call 18
      refine (HLO.out _).mono ?_
      rintro e W2 ⟨vA, rfl, rA, bA⟩
      obtain ⟨sA, cA, rfl⟩ := rA.form
      have HR := Lib.hid (rA.base HB.out.size)
      have HB := Lib.hid (HB.out.trans (bA.mono HB.out.size))
      have HSv : (fun Y : World => Y.cell? ⟨w.heap.size, 0, none⟩ = some (.int .i64 c.mru) ∧ Y.cell? ⟨w.heap.size, 1, none⟩ = some (.int .i64 c.auth) ∧ Y.cell? ⟨w.heap.size, 2, none⟩ = some (.int .i64 c.magic) ∧ Y.cell? ⟨w.heap.size, 3, none⟩ = some (.int .i64 c.echo) ∧ Y.cell? ⟨w.heap.size, 4, none⟩ = some (.int .i64 c.cf) ∧ Y.cell? ⟨w.heap.size, 5, none⟩ = some (.int .i64 c.tm) ∧ Y.cell? ⟨w.heap.size, 6, none⟩ = some (.int .i64 c.fl) ∧ Y.cell? ⟨w.heap.size, 7, none⟩ = some (.int .i64 c.wt)) W2 := HS.out _ HB.out
      refine hK _ _ (fun _ => HSv) ?_
      try simp only [Act.put, List.setIfInBounds_toArray, List.set_cons_zero, List.set_cons_succ]
      clear rA bA
      refine wpAnyH_2 2 5 rfl rfl (by kernel_rfl) ?_ ?_
      · intro K hK
        rw [if_pos (by rfl)]
        try go_simp
        go_at_call 35
        refine (units_any 1492 _).mono ?_
        rintro e W3 ⟨rfl, bA⟩
        have HR := Lib.hid (HR.out.below bA)
        have HB := Lib.hid (HB.out.trans (bA.mono HB.out.size))
        have HSv : (fun Y : World => Y.cell? ⟨w.heap.size, 0, none⟩ = some (.int .i64 c.mru) ∧ Y.cell? ⟨w.heap.size, 1, none⟩ = some (.int .i64 c.auth) ∧ Y.cell? ⟨w.heap.size, 2, none⟩ = some (.int .i64 c.magic) ∧ Y.cell? ⟨w.heap.size, 3, none⟩ = some (.int .i64 c.echo) ∧ Y.cell? ⟨w.heap.size, 4, none⟩ = some (.int .i64 c.cf) ∧ Y.cell? ⟨w.heap.size, 5, none⟩ = some (.int .i64 c.tm) ∧ Y.cell? ⟨w.heap.size, 6, none⟩ = some (.int .i64 c.fl) ∧ Y.cell? ⟨w.heap.size, 7, none⟩ = some (.int .i64 c.wt)) W3 := HS.out _ HB.out
        refine hK _ _ (fun _ => HSv) ?_
        try simp only [Act.put, List.setIfInBounds_toArray, List.set_cons_zero, List.set_cons_succ]
        clear bA
        refine wpAnyH_2 3 5 rfl rfl (by kernel_rfl) ?_ ?_
        · intro K hK
          rw [if_pos (by rfl)]
          try go_simp
          go_at_call 36
          refine (magics_any _).mono ?_
          rintro e W4 ⟨rfl, bA⟩
          have HR := Lib.hid (HR.out.below bA)
          have HB := Lib.hid (HB.out.trans (bA.mono HB.out.size))
          have HSv : (fun Y : World => Y.cell? ⟨w.heap.size, 0, none⟩ = some (.int .i64 c.mru) ∧ Y.cell? ⟨w.heap.size, 1, none⟩ = some (.int .i64 c.auth) ∧ Y.cell? ⟨w.heap.size, 2, none⟩ = some (.int .i64 c.magic) ∧ Y.cell? ⟨w.heap.size, 3, none⟩ = some (.int .i64 c.echo) ∧ Y.cell? ⟨w.heap.size, 4, none⟩ = some (.int .i64 c.cf) ∧ Y.cell? ⟨w.heap.size, 5, none⟩ = some (.int .i64 c.tm) ∧ Y.cell? ⟨w.heap.size, 6, none⟩ = some (.int .i64 c.fl) ∧ Y.cell? ⟨w.heap.size, 7, none⟩ = some (.int .i64 c.wt)) W4 := HS.out _ HB.out
          refine hK _ _ (fun _ => HSv) ?_
          try simp only [Act.put, List.setIfInBounds_toArray, List.set_cons_zero, List.set_cons_succ]
          clear bA
          refine wpAnyH_2 4 5 rfl rfl (by kernel_rfl) ?_ ?_
          · intro K hK
            rw [if_pos (by rfl)]
            try go_simp
            have bA : Below W4.heap.size W4 (W4.alloc (.cells #[.int .i64 1, .int .i64 2, .int .i64 64, .int .i64 1492, .string (be2 1492), .int .i64 5, .int .i64 4, .int .i64 1, .int .i64 4294967295, .string (be4 1)] 73 (0, 0))) := (Below.refl _ _).alloc (Nat.le_refl _) _
            have hz := at1 W4 (.cells #[.int .i64 1, .int .i64 2, .int .i64 64, .int .i64 1492, .string (be2 1492), .int .i64 5, .int .i64 4, .int .i64 1, .int .i64 4294967295, .string (be4 1)] 73 (0, 0))
            generalize hW5 : W4.alloc (.cells #[.int .i64 1, .int .i64 2, .int .i64 64, .int .i64 1492, .string (be2 1492), .int .i64 5, .int .i64 4, .int .i64 1, .int .i64 4294967295, .string (be4 1)] 73 (0, 0)) = W5 at bA hz ⊢
            obtain ⟨rb, hrb⟩ : ∃ rb, rb = W4.heap.size := ⟨_, rfl⟩
            rw [← hrb] at hz ⊢
            have HRu := Lib.hid hz
            have HR := Lib.hid (HR.out.below bA)
            have HB := Lib.hid (HB.out.trans (bA.mono HB.out.size))
            have HSv : (fun Y : World => Y.cell? ⟨w.heap.size, 0, none⟩ = some (.int .i64 c.mru) ∧ Y.cell? ⟨w.heap.size, 1, none⟩ = some (.int .i64 c.auth) ∧ Y.cell? ⟨w.heap.size, 2, none⟩ = some (.int .i64 c.magic) ∧ Y.cell? ⟨w.heap.size, 3, none⟩ = some (.int .i64 c.echo) ∧ Y.cell? ⟨w.heap.size, 4, none⟩ = some (.int .i64 c.cf) ∧ Y.cell? ⟨w.heap.size, 5, none⟩ = some (.int .i64 c.tm) ∧ Y.cell? ⟨w.heap.size, 6, none⟩ = some (.int .i64 c.fl) ∧ Y.cell? ⟨w.heap.size, 7, none⟩ = some (.int .i64 c.wt)) W5 := HS.out _ HB.out
            refine hK _ _ (fun _ => HSv) ?_
            try simp only [Act.put, List.setIfInBounds_toArray, List.set_cons_zero, List.set_cons_succ]
            clear bA hz hW5 hrb
            refine wpAnyH_1 5 rfl (by kernel_rfl) ?_
            intro K hK
            rw [if_pos (by rfl)]
            try go_simp
            have bA : Below W5.heap.size W5 (W5.alloc (.cells #[.int .i64 3] 3 (0, 0))) := (Below.refl _ _).alloc (Nat.le_refl _) _
            have hz := at1 W5 (.cells #[.int .i64 3] 3 (0, 0))
            generalize hW6 : W5.alloc (.cells #[.int .i64 3] 3 (0, 0)) = W6 at bA hz ⊢
            obtain ⟨ib, hib⟩ : ∃ ib, ib = W5.heap.size := ⟨_, rfl⟩
            rw [← hib] at hz ⊢
            have HI := Lib.hid hz
            have HR := Lib.hid (HR.out.below bA)
            have HRu := Lib.hid ((bA.block _ (Array.getElem?_eq_some_iff.1 HRu.out).1).trans HRu.out)
            have HB := Lib.hid (HB.out.trans (bA.mono HB.out.size))
            have HSv : (fun Y : World => Y.cell? ⟨w.heap.size, 0, none⟩ = some (.int .i64 c.mru) ∧ Y.cell? ⟨w.heap.size, 1, none⟩ = some (.int .i64 c.auth) ∧ Y.cell? ⟨w.heap.size, 2, none⟩ = some (.int .i64 c.magic) ∧ Y.cell? ⟨w.heap.size, 3, none⟩ = some (.int .i64 c.echo) ∧ Y.cell? ⟨w.heap.size, 4, none⟩ = some (.int .i64 c.cf) ∧ Y.cell? ⟨w.heap.size, 5, none⟩ = some (.int .i64 c.tm) ∧ Y.cell? ⟨w.heap.size, 6, none⟩ = some (.int .i64 c.fl) ∧ Y.cell? ⟨w.heap.size, 7, none⟩ = some (.int .i64 c.wt)) W6 := HS.out _ HB.out
            refine hK _ _ (fun _ => HSv) ?_
            try simp only [Act.put, List.setIfInBounds_toArray, List.set_cons_zero, List.set_cons_succ]
            clear bA hz hW6 hib
            refine wpAnyH_at 14 (v := ?vv98) rfl (by kernel_rfl) (by kernel_rfl) (by kernel_rfl) (fun _ _ _ h => h) ?hy98 HSv ?hh98
            case hy98 =>
              refine Or.inl ⟨by rfl, ?_⟩
              intro W hW
              obtain ⟨h0, h1, h2, h3, h4, h5, h6, h7⟩ := hW
              go_simp
              try with_reducible rfl
            simp only [Act.put, List.setIfInBounds_toArray, List.set_cons_zero, List.set_cons_succ]
            refine wpAnyH_1 17 rfl (by kernel_rfl) ?_
            intro K hK
            rw [if_pos (by rfl)]
            try go_simp
            go_at_call 34
            refine (HNN.out lb W1 W6 sA cA rb ib HB.out HR.out HRu.out HI.out).mono ?_
            rintro e wE ⟨B, rfl, nE, bE⟩
            have zl := (bE.block lb (Array.getElem?_eq_some_iff.1 HZ.out.2.1).1).trans HZ.out.2.1
            have f0 := fzOf zl 0
            have c0 : wE.cell? ⟨lb, 0, none⟩ = some (.pointer none) := cellOf zl 0 _ rfl
            have HN := Lib.hid (And.intro bE nE)
            have HSv : (fun Y : World => Y.cell? ⟨w.heap.size, 0, none⟩ = some (.int .i64 c.mru) ∧ Y.cell? ⟨w.heap.size, 1, none⟩ = some (.int .i64 c.auth) ∧ Y.cell? ⟨w.heap.size, 2, none⟩ = some (.int .i64 c.magic) ∧ Y.cell? ⟨w.heap.size, 3, none⟩ = some (.int .i64 c.echo) ∧ Y.cell? ⟨w.heap.size, 4, none⟩ = some (.int .i64 c.cf) ∧ Y.cell? ⟨w.heap.size, 5, none⟩ = some (.int .i64 c.tm) ∧ Y.cell? ⟨w.heap.size, 6, none⟩ = some (.int .i64 c.fl) ∧ Y.cell? ⟨w.heap.size, 7, none⟩ = some (.int .i64 c.wt)) wE := HS.out _ bE
            clear bE nE zl
            refine hK _ _ (fun _ => HSv) ?_
            try simp only [Act.put, List.setIfInBounds_toArray, List.set_cons_zero, List.set_cons_succ]
            refine wpAnyH_at 18 (v := ?vv99) rfl (by kernel_rfl) (by kernel_rfl) (by kernel_rfl) (fun _ _ _ h => h) ?hy99 HSv ?hh99
            case hy99 =>
              refine Or.inl ⟨by rfl, ?_⟩
              intro W hW
              obtain ⟨h0, h1, h2, h3, h4, h5, h6, h7⟩ := hW
              go_simp
              try with_reducible rfl
            simp only [Act.put, List.setIfInBounds_toArray, List.set_cons_zero, List.set_cons_succ]
            refine wpAnyH_at 19 (v := ?vv100) rfl (by kernel_rfl) (by kernel_rfl) (by kernel_rfl) (fun _ _ _ h => h) ?hy100 HSv ?hh100
            case hy100 =>
              refine Or.inl ⟨by rfl, ?_⟩
              intro W hW
              obtain ⟨h0, h1, h2, h3, h4, h5, h6, h7⟩ := hW
              go_simp
              try with_reducible rfl
            simp only [Act.put, List.setIfInBounds_toArray, List.set_cons_zero, List.set_cons_succ]
            refine wpAnyH_at 21 (v := ?vv101) rfl (by kernel_rfl) (by kernel_rfl) (by kernel_rfl) (fun _ _ _ h => h) ?hy101 HSv ?hh101
            case hy101 =>
              refine Or.inl ⟨by rfl, ?_⟩
              intro W hW
              obtain ⟨h0, h1, h2, h3, h4, h5, h6, h7⟩ := hW
              go_simp
              try with_reducible rfl
            simp only [Act.put, List.setIfInBounds_toArray, List.set_cons_zero, List.set_cons_succ]
            refine wpAnyH_at 20 (v := ?vv102) rfl (by kernel_rfl) (by kernel_rfl) (by kernel_rfl) (fun _ _ _ h => h) ?hy102 HSv ?hh102
            case hy102 =>
              refine Or.inl ⟨by rfl, ?_⟩
              intro W hW
              obtain ⟨h0, h1, h2, h3, h4, h5, h6, h7⟩ := hW
              go_simp
              try with_reducible rfl
            simp only [Act.put, List.setIfInBounds_toArray, List.set_cons_zero, List.set_cons_succ]
            refine wpAnyH_at 22 (v := ?vv103) rfl (by kernel_rfl) (by kernel_rfl) (by kernel_rfl) (fun _ _ _ h => h) ?hy103 HSv ?hh103
            case hy103 =>
              refine Or.inl ⟨by rfl, ?_⟩
              intro W hW
              obtain ⟨h0, h1, h2, h3, h4, h5, h6, h7⟩ := hW
              go_simp
              try with_reducible rfl
            simp only [Act.put, List.setIfInBounds_toArray, List.set_cons_zero, List.set_cons_succ]
            refine wpAnyH_end 23 (fun j hj => rgH_end _ _ j (by omega)) (by rfl) (by kernel_rfl) ?_
            simp only [List.drop_succ_cons, List.drop_zero]
            clear HSv
            go_wp2_with fail
            go_ret2
            exact ⟨tb, okt, HG.out wE B HN.out.1 HN.out.2, HW.out.1, HW.out.2⟩
          · intro K hK
            rw [if_pos (by rfl)]
            try go_simp
            have bA : Below W4.heap.size W4 (W4.alloc (.cells #[.int .i64 3] 3 (0, 0))) := (Below.refl _ _).alloc (Nat.le_refl _) _
            have hz := at1 W4 (.cells #[.int .i64 3] 3 (0, 0))
            generalize hW5 : W4.alloc (.cells #[.int .i64 3] 3 (0, 0)) = W5 at bA hz ⊢
            obtain ⟨ib, hib⟩ : ∃ ib, ib = W4.heap.size := ⟨_, rfl⟩
            rw [← hib] at hz ⊢
            have HI := Lib.hid hz
            have HR := Lib.hid (HR.out.below bA)
            have HB := Lib.hid (HB.out.trans (bA.mono HB.out.size))
            have HSv : (fun Y : World => Y.cell? ⟨w.heap.size, 0, none⟩ = some (.int .i64 c.mru) ∧ Y.cell? ⟨w.heap.size, 1, none⟩ = some (.int .i64 c.auth) ∧ Y.cell? ⟨w.heap.size, 2, none⟩ = some (.int .i64 c.magic) ∧ Y.cell? ⟨w.heap.size, 3, none⟩ = some (.int .i64 c.echo) ∧ Y.cell? ⟨w.heap.size, 4, none⟩ = some (.int .i64 c.cf) ∧ Y.cell? ⟨w.heap.size, 5, none⟩ = some (.int .i64 c.tm) ∧ Y.cell? ⟨w.heap.size, 6, none⟩ = some (.int .i64 c.fl) ∧ Y.cell? ⟨w.heap.size, 7, none⟩ = some (.int .i64 c.wt)) W5 := HS.out _ HB.out
            refine hK _ _ (fun _ => HSv) ?_
            try simp only [Act.put, List.setIfInBounds_toArray, List.set_cons_zero, List.set_cons_succ]
            clear bA hz hW5 hib
            refine wpAnyH_1 4 rfl (by kernel_rfl) ?_
            intro K hK
            rw [if_pos (by rfl)]
            try go_simp
            have bA : Below W5.heap.size W5 (W5.alloc (.cells #[.int .i64 1, .int .i64 2, .int .i64 64, .int .i64 1492, .string (be2 1492), .int .i64 5, .int .i64 4, .int .i64 1, .int .i64 4294967295, .string (be4 1)] 73 (0, 0))) := (Below.refl _ _).alloc (Nat.le_refl _) _
            have hz := at1 W5 (.cells #[.int .i64 1, .int .i64 2, .int .i64 64, .int .i64 1492, .string (be2 1492), .int .i64 5, .int .i64 4, .int .i64 1, .int .i64 4294967295, .string (be4 1)] 73 (0, 0))
            generalize hW6 : W5.alloc (.cells #[.int .i64 1, .int .i64 2, .int .i64 64, .int .i64 1492, .string (be2 1492), .int .i64 5, .int .i64 4, .int .i64 1, .int .i64 4294967295, .string (be4 1)] 73 (0, 0)) = W6 at bA hz ⊢
            obtain ⟨rb, hrb⟩ : ∃ rb, rb = W5.heap.size := ⟨_, rfl⟩
            rw [← hrb] at hz ⊢
            have HRu := Lib.hid hz
            have HR := Lib.hid (HR.out.below bA)
            have HB := Lib.hid (HB.out.trans (bA.mono HB.out.size))
            have HSv : (fun Y : World => Y.cell? ⟨w.heap.size, 0, none⟩ = some (.int .i64 c.mru) ∧ Y.cell? ⟨w.heap.size, 1, none⟩ = some (.int .i64 c.auth) ∧ Y.cell? ⟨w.heap.size, 2, none⟩ = some (.int .i64 c.magic) ∧ Y.cell? ⟨w.heap.size, 3, none⟩ = some (.int .i64 c.echo) ∧ Y.cell? ⟨w.heap.size, 4, none⟩ = some (.int .i64 c.cf) ∧ Y.cell? ⟨w.heap.size, 5, none⟩ = some (.int .i64 c.tm) ∧ Y.cell? ⟨w.heap.size, 6, none⟩ = some (.int .i64 c.fl) ∧ Y.cell? ⟨w.heap.size, 7, none⟩ = some (.int .i64 c.wt)) W6 := HS.out _ HB.out
            have HI := Lib.hid ((bA.block _ (Array.getElem?_eq_some_iff.1 HI.out).1).trans HI.out)
            refine hK _ _ (fun _ => HSv) ?_
            try simp only [Act.put, List.setIfInBounds_toArray, List.set_cons_zero, List.set_cons_succ]
            clear bA hz hW6 hrb
            refine wpAnyH_at 14 (v := ?vv104) rfl (by kernel_rfl) (by kernel_rfl) (by kernel_rfl) (fun _ _ _ h => h) ?hy104 HSv ?hh104
            case hy104 =>
              refine Or.inl ⟨by rfl, ?_⟩
              intro W hW
              obtain ⟨h0, h1, h2, h3, h4, h5, h6, h7⟩ := hW
              go_simp
              try with_reducible rfl
            simp only [Act.put, List.setIfInBounds_toArray, List.set_cons_zero, List.set_cons_succ]
            refine wpAnyH_1 17 rfl (by kernel_rfl) ?_
            intro K hK
            rw [if_pos (by rfl)]
            try go_simp
            go_at_call 34
            refine (HNN.out lb W1 W6 sA cA rb ib HB.out HR.out HRu.out HI.out).mono ?_
            rintro e wE ⟨B, rfl, nE, bE⟩
            have zl := (bE.block lb (Array.getElem?_eq_some_iff.1 HZ.out.2.1).1).trans HZ.out.2.1
            have f0 := fzOf zl 0
            have c0 : wE.cell? ⟨lb, 0, none⟩ = some (.pointer none) := cellOf zl 0 _ rfl
            have HN := Lib.hid (And.intro bE nE)
            have HSv : (fun Y : World => Y.cell? ⟨w.heap.size, 0, none⟩ = some (.int .i64 c.mru) ∧ Y.cell? ⟨w.heap.size, 1, none⟩ = some (.int .i64 c.auth) ∧ Y.cell? ⟨w.heap.size, 2, none⟩ = some (.int .i64 c.magic) ∧ Y.cell? ⟨w.heap.size, 3, none⟩ = some (.int .i64 c.echo) ∧ Y.cell? ⟨w.heap.size, 4, none⟩ = some (.int .i64 c.cf) ∧ Y.cell? ⟨w.heap.size, 5, none⟩ = some (.int .i64 c.tm) ∧ Y.cell? ⟨w.heap.size, 6, none⟩ = some (.int .i64 c.fl) ∧ Y.cell? ⟨w.heap.size, 7, none⟩ = some (.int .i64 c.wt)) wE := HS.out _ bE
            clear bE nE zl
            refine hK _ _ (fun _ => HSv) ?_
            try simp only [Act.put, List.setIfInBounds_toArray, List.set_cons_zero, List.set_cons_succ]
            refine wpAnyH_at 18 (v := ?vv105) rfl (by kernel_rfl) (by kernel_rfl) (by kernel_rfl) (fun _ _ _ h => h) ?hy105 HSv ?hh105
            case hy105 =>
              refine Or.inl ⟨by rfl, ?_⟩
              intro W hW
              obtain ⟨h0, h1, h2, h3, h4, h5, h6, h7⟩ := hW
              go_simp
              try with_reducible rfl
            simp only [Act.put, List.setIfInBounds_toArray, List.set_cons_zero, List.set_cons_succ]
            refine wpAnyH_at 19 (v := ?vv106) rfl (by kernel_rfl) (by kernel_rfl) (by kernel_rfl) (fun _ _ _ h => h) ?hy106 HSv ?hh106
            case hy106 =>
              refine Or.inl ⟨by rfl, ?_⟩
              intro W hW
              obtain ⟨h0, h1, h2, h3, h4, h5, h6, h7⟩ := hW
              go_simp
              try with_reducible rfl
            simp only [Act.put, List.setIfInBounds_toArray, List.set_cons_zero, List.set_cons_succ]
            refine wpAnyH_at 21 (v := ?vv107) rfl (by kernel_rfl) (by kernel_rfl) (by kernel_rfl) (fun _ _ _ h => h) ?hy107 HSv ?hh107
            case hy107 =>
              refine Or.inl ⟨by rfl, ?_⟩
              intro W hW
              obtain ⟨h0, h1, h2, h3, h4, h5, h6, h7⟩ := hW
              go_simp
              try with_reducible rfl
            simp only [Act.put, List.setIfInBounds_toArray, List.set_cons_zero, List.set_cons_succ]
            refine wpAnyH_at 20 (v := ?vv108) rfl (by kernel_rfl) (by kernel_rfl) (by kernel_rfl) (fun _ _ _ h => h) ?hy108 HSv ?hh108
            case hy108 =>
              refine Or.inl ⟨by rfl, ?_⟩
              intro W hW
              obtain ⟨h0, h1, h2, h3, h4, h5, h6, h7⟩ := hW
              go_simp
              try with_reducible rfl
            simp only [Act.put, List.setIfInBounds_toArray, List.set_cons_zero, List.set_cons_succ]
            refine wpAnyH_at 22 (v := ?vv109) rfl (by kernel_rfl) (by kernel_rfl) (by kernel_rfl) (fun _ _ _ h => h) ?hy109 HSv ?hh109
            case hy109 =>
              refine Or.inl ⟨by rfl, ?_⟩
              intro W hW
              obtain ⟨h0, h1, h2, h3, h4, h5, h6, h7⟩ := hW
              go_simp
              try with_reducible rfl
            simp only [Act.put, List.setIfInBounds_toArray, List.set_cons_zero, List.set_cons_succ]
            refine wpAnyH_end 23 (fun j hj => rgH_end _ _ j (by omega)) (by rfl) (by kernel_rfl) ?_
            simp only [List.drop_succ_cons, List.drop_zero]
            clear HSv
            go_wp2_with fail
            go_ret2
            exact ⟨tb, okt, HG.out wE B HN.out.1 HN.out.2, HW.out.1, HW.out.2⟩
        · intro K hK
          rw [if_pos (by rfl)]
          try go_simp
          have bA : Below W3.heap.size W3 (W3.alloc (.cells #[.int .i64 3] 3 (0, 0))) := (Below.refl _ _).alloc (Nat.le_refl _) _
          have hz := at1 W3 (.cells #[.int .i64 3] 3 (0, 0))
          generalize hW4 : W3.alloc (.cells #[.int .i64 3] 3 (0, 0)) = W4 at bA hz ⊢
          obtain ⟨ib, hib⟩ : ∃ ib, ib = W3.heap.size := ⟨_, rfl⟩
          rw [← hib] at hz ⊢
          have HI := Lib.hid hz
          have HR := Lib.hid (HR.out.below bA)
          have HB := Lib.hid (HB.out.trans (bA.mono HB.out.size))
          have HSv : (fun Y : World => Y.cell? ⟨w.heap.size, 0, none⟩ = some (.int .i64 c.mru) ∧ Y.cell? ⟨w.heap.size, 1, none⟩ = some (.int .i64 c.auth) ∧ Y.cell? ⟨w.heap.size, 2, none⟩ = some (.int .i64 c.magic) ∧ Y.cell? ⟨w.heap.size, 3, none⟩ = some (.int .i64 c.echo) ∧ Y.cell? ⟨w.heap.size, 4, none⟩ = some (.int .i64 c.cf) ∧ Y.cell? ⟨w.heap.size, 5, none⟩ = some (.int .i64 c.tm) ∧ Y.cell? ⟨w.heap.size, 6, none⟩ = some (.int .i64 c.fl) ∧ Y.cell? ⟨w.heap.size, 7, none⟩ = some (.int .i64 c.wt)) W4 := HS.out _ HB.out
          refine hK _ _ (fun _ => HSv) ?_
          try simp only [Act.put, List.setIfInBounds_toArray, List.set_cons_zero, List.set_cons_succ]
          clear bA hz hW4 hib
          refine wpAnyH_1 3 rfl (by kernel_rfl) ?_
          intro K hK
          rw [if_pos (by rfl)]
          try go_simp
          go_at_call 36
          refine (magics_any _).mono ?_
          rintro e W5 ⟨rfl, bA⟩
          have HR := Lib.hid (HR.out.below bA)
          have HB := Lib.hid (HB.out.trans (bA.mono HB.out.size))
          have HSv : (fun Y : World => Y.cell? ⟨w.heap.size, 0, none⟩ = some (.int .i64 c.mru) ∧ Y.cell? ⟨w.heap.size, 1, none⟩ = some (.int .i64 c.auth) ∧ Y.cell? ⟨w.heap.size, 2, none⟩ = some (.int .i64 c.magic) ∧ Y.cell? ⟨w.heap.size, 3, none⟩ = some (.int .i64 c.echo) ∧ Y.cell? ⟨w.heap.size, 4, none⟩ = some (.int .i64 c.cf) ∧ Y.cell? ⟨w.heap.size, 5, none⟩ = some (.int .i64 c.tm) ∧ Y.cell? ⟨w.heap.size, 6, none⟩ = some (.int .i64 c.fl) ∧ Y.cell? ⟨w.heap.size, 7, none⟩ = some (.int .i64 c.wt)) W5 := HS.out _ HB.out
          have HI := Lib.hid ((bA.block _ (Array.getElem?_eq_some_iff.1 HI.out).1).trans HI.out)
          refine hK _ _ (fun _ => HSv) ?_
          try simp only [Act.put, List.setIfInBounds_toArray, List.set_cons_zero, List.set_cons_succ]
          clear bA
          refine wpAnyH_1 4 rfl (by kernel_rfl) ?_
          intro K hK
          rw [if_pos (by rfl)]
          try go_simp
          have bA : Below W5.heap.size W5 (W5.alloc (.cells #[.int .i64 1, .int .i64 2, .int .i64 64, .int .i64 1492, .string (be2 1492), .int .i64 5, .int .i64 4, .int .i64 1, .int .i64 4294967295, .string (be4 1)] 73 (0, 0))) := (Below.refl _ _).alloc (Nat.le_refl _) _
          have hz := at1 W5 (.cells #[.int .i64 1, .int .i64 2, .int .i64 64, .int .i64 1492, .string (be2 1492), .int .i64 5, .int .i64 4, .int .i64 1, .int .i64 4294967295, .string (be4 1)] 73 (0, 0))
          generalize hW6 : W5.alloc (.cells #[.int .i64 1, .int .i64 2, .int .i64 64, .int .i64 1492, .string (be2 1492), .int .i64 5, .int .i64 4, .int .i64 1, .int .i64 4294967295, .string (be4 1)] 73 (0, 0)) = W6 at bA hz ⊢
          obtain ⟨rb, hrb⟩ : ∃ rb, rb = W5.heap.size := ⟨_, rfl⟩
          rw [← hrb] at hz ⊢
          have HRu := Lib.hid hz
          have HR := Lib.hid (HR.out.below bA)
          have HB := Lib.hid (HB.out.trans (bA.mono HB.out.size))
          have HSv : (fun Y : World => Y.cell? ⟨w.heap.size, 0, none⟩ = some (.int .i64 c.mru) ∧ Y.cell? ⟨w.heap.size, 1, none⟩ = some (.int .i64 c.auth) ∧ Y.cell? ⟨w.heap.size, 2, none⟩ = some (.int .i64 c.magic) ∧ Y.cell? ⟨w.heap.size, 3, none⟩ = some (.int .i64 c.echo) ∧ Y.cell? ⟨w.heap.size, 4, none⟩ = some (.int .i64 c.cf) ∧ Y.cell? ⟨w.heap.size, 5, none⟩ = some (.int .i64 c.tm) ∧ Y.cell? ⟨w.heap.size, 6, none⟩ = some (.int .i64 c.fl) ∧ Y.cell? ⟨w.heap.size, 7, none⟩ = some (.int .i64 c.wt)) W6 := HS.out _ HB.out
          have HI := Lib.hid ((bA.block _ (Array.getElem?_eq_some_iff.1 HI.out).1).trans HI.out)
          refine hK _ _ (fun _ => HSv) ?_
          try simp only [Act.put, List.setIfInBounds_toArray, List.set_cons_zero, List.set_cons_succ]
          clear bA hz hW6 hrb
          refine wpAnyH_at 14 (v := ?vv110) rfl (by kernel_rfl) (by kernel_rfl) (by kernel_rfl) (fun _ _ _ h => h) ?hy110 HSv ?hh110
          case hy110 =>
            refine Or.inl ⟨by rfl, ?_⟩
            intro W hW
            obtain ⟨h0, h1, h2, h3, h4, h5, h6, h7⟩ := hW
            go_simp
            try with_reducible rfl
          simp only [Act.put, List.setIfInBounds_toArray, List.set_cons_zero, List.set_cons_succ]
          refine wpAnyH_1 17 rfl (by kernel_rfl) ?_
          intro K hK
          rw [if_pos (by rfl)]
          try go_simp
          go_at_call 34
          refine (HNN.out lb W1 W6 sA cA rb ib HB.out HR.out HRu.out HI.out).mono ?_
          rintro e wE ⟨B, rfl, nE, bE⟩
          have zl := (bE.block lb (Array.getElem?_eq_some_iff.1 HZ.out.2.1).1).trans HZ.out.2.1
          have f0 := fzOf zl 0
          have c0 : wE.cell? ⟨lb, 0, none⟩ = some (.pointer none) := cellOf zl 0 _ rfl
          have HN := Lib.hid (And.intro bE nE)
          have HSv : (fun Y : World => Y.cell? ⟨w.heap.size, 0, none⟩ = some (.int .i64 c.mru) ∧ Y.cell? ⟨w.heap.size, 1, none⟩ = some (.int .i64 c.auth) ∧ Y.cell? ⟨w.heap.size, 2, none⟩ = some (.int .i64 c.magic) ∧ Y.cell? ⟨w.heap.size, 3, none⟩ = some (.int .i64 c.echo) ∧ Y.cell? ⟨w.heap.size, 4, none⟩ = some (.int .i64 c.cf) ∧ Y.cell? ⟨w.heap.size, 5, none⟩ = some (.int .i64 c.tm) ∧ Y.cell? ⟨w.heap.size, 6, none⟩ = some (.int .i64 c.fl) ∧ Y.cell? ⟨w.heap.size, 7, none⟩ = some (.int .i64 c.wt)) wE := HS.out _ bE
          clear bE nE zl
          refine hK _ _ (fun _ => HSv) ?_
          try simp only [Act.put, List.setIfInBounds_toArray, List.set_cons_zero, List.set_cons_succ]
          refine wpAnyH_at 18 (v := ?vv111) rfl (by kernel_rfl) (by kernel_rfl) (by kernel_rfl) (fun _ _ _ h => h) ?hy111 HSv ?hh111
          case hy111 =>
            refine Or.inl ⟨by rfl, ?_⟩
            intro W hW
            obtain ⟨h0, h1, h2, h3, h4, h5, h6, h7⟩ := hW
            go_simp
            try with_reducible rfl
          simp only [Act.put, List.setIfInBounds_toArray, List.set_cons_zero, List.set_cons_succ]
          refine wpAnyH_at 19 (v := ?vv112) rfl (by kernel_rfl) (by kernel_rfl) (by kernel_rfl) (fun _ _ _ h => h) ?hy112 HSv ?hh112
          case hy112 =>
            refine Or.inl ⟨by rfl, ?_⟩
            intro W hW
            obtain ⟨h0, h1, h2, h3, h4, h5, h6, h7⟩ := hW
            go_simp
            try with_reducible rfl
          simp only [Act.put, List.setIfInBounds_toArray, List.set_cons_zero, List.set_cons_succ]
          refine wpAnyH_at 21 (v := ?vv113) rfl (by kernel_rfl) (by kernel_rfl) (by kernel_rfl) (fun _ _ _ h => h) ?hy113 HSv ?hh113
          case hy113 =>
            refine Or.inl ⟨by rfl, ?_⟩
            intro W hW
            obtain ⟨h0, h1, h2, h3, h4, h5, h6, h7⟩ := hW
            go_simp
            try with_reducible rfl
          simp only [Act.put, List.setIfInBounds_toArray, List.set_cons_zero, List.set_cons_succ]
          refine wpAnyH_at 20 (v := ?vv114) rfl (by kernel_rfl) (by kernel_rfl) (by kernel_rfl) (fun _ _ _ h => h) ?hy114 HSv ?hh114
          case hy114 =>
            refine Or.inl ⟨by rfl, ?_⟩
            intro W hW
            obtain ⟨h0, h1, h2, h3, h4, h5, h6, h7⟩ := hW
            go_simp
            try with_reducible rfl
          simp only [Act.put, List.setIfInBounds_toArray, List.set_cons_zero, List.set_cons_succ]
          refine wpAnyH_at 22 (v := ?vv115) rfl (by kernel_rfl) (by kernel_rfl) (by kernel_rfl) (fun _ _ _ h => h) ?hy115 HSv ?hh115
          case hy115 =>
            refine Or.inl ⟨by rfl, ?_⟩
            intro W hW
            obtain ⟨h0, h1, h2, h3, h4, h5, h6, h7⟩ := hW
            go_simp
            try with_reducible rfl
          simp only [Act.put, List.setIfInBounds_toArray, List.set_cons_zero, List.set_cons_succ]
          refine wpAnyH_end 23 (fun j hj => rgH_end _ _ j (by omega)) (by rfl) (by kernel_rfl) ?_
          simp only [List.drop_succ_cons, List.drop_zero]
          clear HSv
          go_wp2_with fail
          go_ret2
          exact ⟨tb, okt, HG.out wE B HN.out.1 HN.out.2, HW.out.1, HW.out.2⟩
      · intro K hK
        rw [if_pos (by rfl)]
        try go_simp
        have bA : Below W2.heap.size W2 (W2.alloc (.cells #[.int .i64 3] 3 (0, 0))) := (Below.refl _ _).alloc (Nat.le_refl _) _
        have hz := at1 W2 (.cells #[.int .i64 3] 3 (0, 0))
        generalize hW3 : W2.alloc (.cells #[.int .i64 3] 3 (0, 0)) = W3 at bA hz ⊢
        obtain ⟨ib, hib⟩ : ∃ ib, ib = W2.heap.size := ⟨_, rfl⟩
        rw [← hib] at hz ⊢
        have HI := Lib.hid hz
        have HR := Lib.hid (HR.out.below bA)
        have HB := Lib.hid (HB.out.trans (bA.mono HB.out.size))
        have HSv : (fun Y : World => Y.cell? ⟨w.heap.size, 0, none⟩ = some (.int .i64 c.mru) ∧ Y.cell? ⟨w.heap.size, 1, none⟩ = some (.int .i64 c.auth) ∧ Y.cell? ⟨w.heap.size, 2, none⟩ = some (.int .i64 c.magic) ∧ Y.cell? ⟨w.heap.size, 3, none⟩ = some (.int .i64 c.echo) ∧ Y.cell? ⟨w.heap.size, 4, none⟩ = some (.int .i64 c.cf) ∧ Y.cell? ⟨w.heap.size, 5, none⟩ = some (.int .i64 c.tm) ∧ Y.cell? ⟨w.heap.size, 6, none⟩ = some (.int .i64 c.fl) ∧ Y.cell? ⟨w.heap.size, 7, none⟩ = some (.int .i64 c.wt)) W3 := HS.out _ HB.out
        refine hK _ _ (fun _ => HSv) ?_
        try simp only [Act.put, List.setIfInBounds_toArray, List.set_cons_zero, List.set_cons_succ]
        clear bA hz hW3 hib
        refine wpAnyH_1 2 rfl (by kernel_rfl) ?_
        intro K hK
        rw [if_pos (by rfl)]
        try go_simp
        go_at_call 35
        refine (units_any 1492 _).mono ?_
        rintro e W4 ⟨rfl, bA⟩
        have HR := Lib.hid (HR.out.below bA)
        have HB := Lib.hid (HB.out.trans (bA.mono HB.out.size))
        have HSv : (fun Y : World => Y.cell? ⟨w.heap.size, 0, none⟩ = some (.int .i64 c.mru) ∧ Y.cell? ⟨w.heap.size, 1, none⟩ = some (.int .i64 c.auth) ∧ Y.cell? ⟨w.heap.size, 2, none⟩ = some (.int .i64 c.magic) ∧ Y.cell? ⟨w.heap.size, 3, none⟩ = some (.int .i64 c.echo) ∧ Y.cell? ⟨w.heap.size, 4, none⟩ = some (.int .i64 c.cf) ∧ Y.cell? ⟨w.heap.size, 5, none⟩ = some (.int .i64 c.tm) ∧ Y.cell? ⟨w.heap.size, 6, none⟩ = some (.int .i64 c.fl) ∧ Y.cell? ⟨w.heap.size, 7, none⟩ = some (.int .i64 c.wt)) W4 := HS.out _ HB.out
        have HI := Lib.hid ((bA.block _ (Array.getElem?_eq_some_iff.1 HI.out).1).trans HI.out)
        refine hK _ _ (fun _ => HSv) ?_
        try simp only [Act.put, List.setIfInBounds_toArray, List.set_cons_zero, List.set_cons_succ]
        clear bA
        refine wpAnyH_1 3 rfl (by kernel_rfl) ?_
        intro K hK
        rw [if_pos (by rfl)]
        try go_simp
        go_at_call 36
        refine (magics_any _).mono ?_
        rintro e W5 ⟨rfl, bA⟩
        have HR := Lib.hid (HR.out.below bA)
        have HB := Lib.hid (HB.out.trans (bA.mono HB.out.size))
        have HSv : (fun Y : World => Y.cell? ⟨w.heap.size, 0, none⟩ = some (.int .i64 c.mru) ∧ Y.cell? ⟨w.heap.size, 1, none⟩ = some (.int .i64 c.auth) ∧ Y.cell? ⟨w.heap.size, 2, none⟩ = some (.int .i64 c.magic) ∧ Y.cell? ⟨w.heap.size, 3, none⟩ = some (.int .i64 c.echo) ∧ Y.cell? ⟨w.heap.size, 4, none⟩ = some (.int .i64 c.cf) ∧ Y.cell? ⟨w.heap.size, 5, none⟩ = some (.int .i64 c.tm) ∧ Y.cell? ⟨w.heap.size, 6, none⟩ = some (.int .i64 c.fl) ∧ Y.cell? ⟨w.heap.size, 7, none⟩ = some (.int .i64 c.wt)) W5 := HS.out _ HB.out
        have HI := Lib.hid ((bA.block _ (Array.getElem?_eq_some_iff.1 HI.out).1).trans HI.out)
        refine hK _ _ (fun _ => HSv) ?_
        try simp only [Act.put, List.setIfInBounds_toArray, List.set_cons_zero, List.set_cons_succ]
        clear bA
        refine wpAnyH_1 4 rfl (by kernel_rfl) ?_
        intro K hK
        rw [if_pos (by rfl)]
        try go_simp
        have bA : Below W5.heap.size W5 (W5.alloc (.cells #[.int .i64 1, .int .i64 2, .int .i64 64, .int .i64 1492, .string (be2 1492), .int .i64 5, .int .i64 4, .int .i64 1, .int .i64 4294967295, .string (be4 1)] 73 (0, 0))) := (Below.refl _ _).alloc (Nat.le_refl _) _
        have hz := at1 W5 (.cells #[.int .i64 1, .int .i64 2, .int .i64 64, .int .i64 1492, .string (be2 1492), .int .i64 5, .int .i64 4, .int .i64 1, .int .i64 4294967295, .string (be4 1)] 73 (0, 0))
        generalize hW6 : W5.alloc (.cells #[.int .i64 1, .int .i64 2, .int .i64 64, .int .i64 1492, .string (be2 1492), .int .i64 5, .int .i64 4, .int .i64 1, .int .i64 4294967295, .string (be4 1)] 73 (0, 0)) = W6 at bA hz ⊢
        obtain ⟨rb, hrb⟩ : ∃ rb, rb = W5.heap.size := ⟨_, rfl⟩
        rw [← hrb] at hz ⊢
        have HRu := Lib.hid hz
        have HR := Lib.hid (HR.out.below bA)
        have HB := Lib.hid (HB.out.trans (bA.mono HB.out.size))
        have HSv : (fun Y : World => Y.cell? ⟨w.heap.size, 0, none⟩ = some (.int .i64 c.mru) ∧ Y.cell? ⟨w.heap.size, 1, none⟩ = some (.int .i64 c.auth) ∧ Y.cell? ⟨w.heap.size, 2, none⟩ = some (.int .i64 c.magic) ∧ Y.cell? ⟨w.heap.size, 3, none⟩ = some (.int .i64 c.echo) ∧ Y.cell? ⟨w.heap.size, 4, none⟩ = some (.int .i64 c.cf) ∧ Y.cell? ⟨w.heap.size, 5, none⟩ = some (.int .i64 c.tm) ∧ Y.cell? ⟨w.heap.size, 6, none⟩ = some (.int .i64 c.fl) ∧ Y.cell? ⟨w.heap.size, 7, none⟩ = some (.int .i64 c.wt)) W6 := HS.out _ HB.out
        have HI := Lib.hid ((bA.block _ (Array.getElem?_eq_some_iff.1 HI.out).1).trans HI.out)
        refine hK _ _ (fun _ => HSv) ?_
        try simp only [Act.put, List.setIfInBounds_toArray, List.set_cons_zero, List.set_cons_succ]
        clear bA hz hW6 hrb
        refine wpAnyH_at 14 (v := ?vv116) rfl (by kernel_rfl) (by kernel_rfl) (by kernel_rfl) (fun _ _ _ h => h) ?hy116 HSv ?hh116
        case hy116 =>
          refine Or.inl ⟨by rfl, ?_⟩
          intro W hW
          obtain ⟨h0, h1, h2, h3, h4, h5, h6, h7⟩ := hW
          go_simp
          try with_reducible rfl
        simp only [Act.put, List.setIfInBounds_toArray, List.set_cons_zero, List.set_cons_succ]
        refine wpAnyH_1 17 rfl (by kernel_rfl) ?_
        intro K hK
        rw [if_pos (by rfl)]
        try go_simp
        go_at_call 34
        refine (HNN.out lb W1 W6 sA cA rb ib HB.out HR.out HRu.out HI.out).mono ?_
        rintro e wE ⟨B, rfl, nE, bE⟩
        have zl := (bE.block lb (Array.getElem?_eq_some_iff.1 HZ.out.2.1).1).trans HZ.out.2.1
        have f0 := fzOf zl 0
        have c0 : wE.cell? ⟨lb, 0, none⟩ = some (.pointer none) := cellOf zl 0 _ rfl
        have HN := Lib.hid (And.intro bE nE)
        have HSv : (fun Y : World => Y.cell? ⟨w.heap.size, 0, none⟩ = some (.int .i64 c.mru) ∧ Y.cell? ⟨w.heap.size, 1, none⟩ = some (.int .i64 c.auth) ∧ Y.cell? ⟨w.heap.size, 2, none⟩ = some (.int .i64 c.magic) ∧ Y.cell? ⟨w.heap.size, 3, none⟩ = some (.int .i64 c.echo) ∧ Y.cell? ⟨w.heap.size, 4, none⟩ = some (.int .i64 c.cf) ∧ Y.cell? ⟨w.heap.size, 5, none⟩ = some (.int .i64 c.tm) ∧ Y.cell? ⟨w.heap.size, 6, none⟩ = some (.int .i64 c.fl) ∧ Y.cell? ⟨w.heap.size, 7, none⟩ = some (.int .i64 c.wt)) wE := HS.out _ bE
        clear bE nE zl
        refine hK _ _ (fun _ => HSv) ?_
        try simp only [Act.put, List.setIfInBounds_toArray, List.set_cons_zero, List.set_cons_succ]
        refine wpAnyH_at 18 (v := ?vv117) rfl (by kernel_rfl) (by kernel_rfl) (by kernel_rfl) (fun _ _ _ h => h) ?hy117 HSv ?hh117
        case hy117 =>
          refine Or.inl ⟨by rfl, ?_⟩
          intro W hW
          obtain ⟨h0, h1, h2, h3, h4, h5, h6, h7⟩ := hW
          go_simp
          try with_reducible rfl
        simp only [Act.put, List.setIfInBounds_toArray, List.set_cons_zero, List.set_cons_succ]
        refine wpAnyH_at 19 (v := ?vv118) rfl (by kernel_rfl) (by kernel_rfl) (by kernel_rfl) (fun _ _ _ h => h) ?hy118 HSv ?hh118
        case hy118 =>
          refine Or.inl ⟨by rfl, ?_⟩
          intro W hW
          obtain ⟨h0, h1, h2, h3, h4, h5, h6, h7⟩ := hW
          go_simp
          try with_reducible rfl
        simp only [Act.put, List.setIfInBounds_toArray, List.set_cons_zero, List.set_cons_succ]
        refine wpAnyH_at 21 (v := ?vv119) rfl (by kernel_rfl) (by kernel_rfl) (by kernel_rfl) (fun _ _ _ h => h) ?hy119 HSv ?hh119
        case hy119 =>
          refine Or.inl ⟨by rfl, ?_⟩
          intro W hW
          obtain ⟨h0, h1, h2, h3, h4, h5, h6, h7⟩ := hW
          go_simp
          try with_reducible rfl
        simp only [Act.put, List.setIfInBounds_toArray, List.set_cons_zero, List.set_cons_succ]
        refine wpAnyH_at 20 (v := ?vv120) rfl (by kernel_rfl) (by kernel_rfl) (by kernel_rfl) (fun _ _ _ h => h) ?hy120 HSv ?hh120
        case hy120 =>
          refine Or.inl ⟨by rfl, ?_⟩
          intro W hW
          obtain ⟨h0, h1, h2, h3, h4, h5, h6, h7⟩ := hW
          go_simp
          try with_reducible rfl
        simp only [Act.put, List.setIfInBounds_toArray, List.set_cons_zero, List.set_cons_succ]
        refine wpAnyH_at 22 (v := ?vv121) rfl (by kernel_rfl) (by kernel_rfl) (by kernel_rfl) (fun _ _ _ h => h) ?hy121 HSv ?hh121
        case hy121 =>
          refine Or.inl ⟨by rfl, ?_⟩
          intro W hW
          obtain ⟨h0, h1, h2, h3, h4, h5, h6, h7⟩ := hW
          go_simp
          try with_reducible rfl
        simp only [Act.put, List.setIfInBounds_toArray, List.set_cons_zero, List.set_cons_succ]
        refine wpAnyH_end 23 (fun j hj => rgH_end _ _ j (by omega)) (by rfl) (by kernel_rfl) ?_
        simp only [List.drop_succ_cons, List.drop_zero]
        clear HSv
        go_wp2_with fail
        go_ret2
        exact ⟨tb, okt, HG.out wE B HN.out.1 HN.out.2, HW.out.1, HW.out.2⟩
    · intro K hK
      rw [if_pos (by rfl)]
      try go_simp
      have bA : Below W.heap.size W (W.alloc (.cells #[.int .i64 3] 3 (0, 0))) := (Below.refl _ _).alloc (Nat.le_refl _) _
      have hz := at1 W (.cells #[.int .i64 3] 3 (0, 0))
      generalize hW2 : W.alloc (.cells #[.int .i64 3] 3 (0, 0)) = W2 at bA hz ⊢
      obtain ⟨ib, hib⟩ : ∃ ib, ib = W.heap.size := ⟨_, rfl⟩
      rw [← hib] at hz ⊢
      have HI := Lib.hid hz
      have HB := Lib.hid (HB.out.trans (bA.mono HB.out.size))
      have HSv : (fun Y : World => Y.cell? ⟨w.heap.size, 0, none⟩ = some (.int .i64 c.mru) ∧ Y.cell? ⟨w.heap.size, 1, none⟩ = some (.int .i64 c.auth) ∧ Y.cell? ⟨w.heap.size, 2, none⟩ = some (.int .i64 c.magic) ∧ Y.cell? ⟨w.heap.size, 3, none⟩ = some (.int .i64 c.echo) ∧ Y.cell? ⟨w.heap.size, 4, none⟩ = some (.int .i64 c.cf) ∧ Y.cell? ⟨w.heap.size, 5, none⟩ = some (.int .i64 c.tm) ∧ Y.cell? ⟨w.heap.size, 6, none⟩ = some (.int .i64 c.fl) ∧ Y.cell? ⟨w.heap.size, 7, none⟩ = some (.int .i64 c.wt)) W2 := HS.out _ HB.out
      refine hK _ _ (fun _ => HSv) ?_
      try simp only [Act.put, List.setIfInBounds_toArray, List.set_cons_zero, List.set_cons_succ]
      clear bA hz hW2 hib
      refine wpAnyH_1 1 rfl (by kernel_rfl) ?_
      intro K hK
      rw [if_pos (by rfl)]
      try go_simp
      go_at_call 18
      refine (HLO.out _).mono ?_
      rintro e W3 ⟨vA, rfl, rA, bA⟩
      obtain ⟨sA, cA, rfl⟩ := rA.form
      have HR := Lib.hid (rA.base HB.out.size)
      have HB := Lib.hid (HB.out.trans (bA.mono HB.out.size))
      have HSv : (fun Y : World => Y.cell? ⟨w.heap.size, 0, none⟩ = some (.int .i64 c.mru) ∧ Y.cell? ⟨w.heap.size, 1, none⟩ = some (.int .i64 c.auth) ∧ Y.cell? ⟨w.heap.size, 2, none⟩ = some (.int .i64 c.magic) ∧ Y.cell? ⟨w.heap.size, 3, none⟩ = some (.int .i64 c.echo) ∧ Y.cell? ⟨w.heap.size, 4, none⟩ = some (.int .i64 c.cf) ∧ Y.cell? ⟨w.heap.size, 5, none⟩ = some (.int .i64 c.tm) ∧ Y.cell? ⟨w.heap.size, 6, none⟩ = some (.int .i64 c.fl) ∧ Y.cell? ⟨w.heap.size, 7, none⟩ = some (.int .i64 c.wt)) W3 := HS.out _ HB.out
      have HI := Lib.hid ((bA.block _ (Array.getElem?_eq_some_iff.1 HI.out).1).trans HI.out)
      refine hK _ _ (fun _ => HSv) ?_
      try simp only [Act.put, List.setIfInBounds_toArray, List.set_cons_zero, List.set_cons_succ]
      clear rA bA
      refine wpAnyH_1 2 rfl (by kernel_rfl) ?_
      intro K hK
      rw [if_pos (by rfl)]
      try go_simp
      go_at_call 35
      refine (units_any 1492 _).mono ?_
      rintro e W4 ⟨rfl, bA⟩
      have HR := Lib.hid (HR.out.below bA)
      have HB := Lib.hid (HB.out.trans (bA.mono HB.out.size))
      have HSv : (fun Y : World => Y.cell? ⟨w.heap.size, 0, none⟩ = some (.int .i64 c.mru) ∧ Y.cell? ⟨w.heap.size, 1, none⟩ = some (.int .i64 c.auth) ∧ Y.cell? ⟨w.heap.size, 2, none⟩ = some (.int .i64 c.magic) ∧ Y.cell? ⟨w.heap.size, 3, none⟩ = some (.int .i64 c.echo) ∧ Y.cell? ⟨w.heap.size, 4, none⟩ = some (.int .i64 c.cf) ∧ Y.cell? ⟨w.heap.size, 5, none⟩ = some (.int .i64 c.tm) ∧ Y.cell? ⟨w.heap.size, 6, none⟩ = some (.int .i64 c.fl) ∧ Y.cell? ⟨w.heap.size, 7, none⟩ = some (.int .i64 c.wt)) W4 := HS.out _ HB.out
      have HI := Lib.hid ((bA.block _ (Array.getElem?_eq_some_iff.1 HI.out).1).trans HI.out)
      refine hK _ _ (fun _ => HSv) ?_
      try simp only [Act.put, List.setIfInBounds_toArray, List.set_cons_zero, List.set_cons_succ]
      clear bA
      refine wpAnyH_1 3 rfl (by kernel_rfl) ?_
      intro K hK
      rw [if_pos (by rfl)]
      try go_simp
      go_at_call 36
      refine (magics_any _).mono ?_
      rintro e W5 ⟨rfl, bA⟩
      have HR := Lib.hid (HR.out.below bA)
      have HB := Lib.hid (HB.out.trans (bA.mono HB.out.size))
      have HSv : (fun Y : World => Y.cell? ⟨w.heap.size, 0, none⟩ = some (.int .i64 c.mru) ∧ Y.cell? ⟨w.heap.size, 1, none⟩ = some (.int .i64 c.auth) ∧ Y.cell? ⟨w.heap.size, 2, none⟩ = some (.int .i64 c.magic) ∧ Y.cell? ⟨w.heap.size, 3, none⟩ = some (.int .i64 c.echo) ∧ Y.cell? ⟨w.heap.size, 4, none⟩ = some (.int .i64 c.cf) ∧ Y.cell? ⟨w.heap.size, 5, none⟩ = some (.int .i64 c.tm) ∧ Y.cell? ⟨w.heap.size, 6, none⟩ = some (.int .i64 c.fl) ∧ Y.cell? ⟨w.heap.size, 7, none⟩ = some (.int .i64 c.wt)) W5 := HS.out _ HB.out
      have HI := Lib.hid ((bA.block _ (Array.getElem?_eq_some_iff.1 HI.out).1).trans HI.out)
      refine hK _ _ (fun _ => HSv) ?_
      try simp only [Act.put, List.setIfInBounds_toArray, List.set_cons_zero, List.set_cons_succ]
      clear bA
      refine wpAnyH_1 4 rfl (by kernel_rfl) ?_
      intro K hK
      rw [if_pos (by rfl)]
      try go_simp
      have bA : Below W5.heap.size W5 (W5.alloc (.cells #[.int .i64 1, .int .i64 2, .int .i64 64, .int .i64 1492, .string (be2 1492), .int .i64 5, .int .i64 4, .int .i64 1, .int .i64 4294967295, .string (be4 1)] 73 (0, 0))) := (Below.refl _ _).alloc (Nat.le_refl _) _
      have hz := at1 W5 (.cells #[.int .i64 1, .int .i64 2, .int .i64 64, .int .i64 1492, .string (be2 1492), .int .i64 5, .int .i64 4, .int .i64 1, .int .i64 4294967295, .string (be4 1)] 73 (0, 0))
      generalize hW6 : W5.alloc (.cells #[.int .i64 1, .int .i64 2, .int .i64 64, .int .i64 1492, .string (be2 1492), .int .i64 5, .int .i64 4, .int .i64 1, .int .i64 4294967295, .string (be4 1)] 73 (0, 0)) = W6 at bA hz ⊢
      obtain ⟨rb, hrb⟩ : ∃ rb, rb = W5.heap.size := ⟨_, rfl⟩
      rw [← hrb] at hz ⊢
      have HRu := Lib.hid hz
      have HR := Lib.hid (HR.out.below bA)
      have HB := Lib.hid (HB.out.trans (bA.mono HB.out.size))
      have HSv : (fun Y : World => Y.cell? ⟨w.heap.size, 0, none⟩ = some (.int .i64 c.mru) ∧ Y.cell? ⟨w.heap.size, 1, none⟩ = some (.int .i64 c.auth) ∧ Y.cell? ⟨w.heap.size, 2, none⟩ = some (.int .i64 c.magic) ∧ Y.cell? ⟨w.heap.size, 3, none⟩ = some (.int .i64 c.echo) ∧ Y.cell? ⟨w.heap.size, 4, none⟩ = some (.int .i64 c.cf) ∧ Y.cell? ⟨w.heap.size, 5, none⟩ = some (.int .i64 c.tm) ∧ Y.cell? ⟨w.heap.size, 6, none⟩ = some (.int .i64 c.fl) ∧ Y.cell? ⟨w.heap.size, 7, none⟩ = some (.int .i64 c.wt)) W6 := HS.out _ HB.out
      have HI := Lib.hid ((bA.block _ (Array.getElem?_eq_some_iff.1 HI.out).1).trans HI.out)
      refine hK _ _ (fun _ => HSv) ?_
      try simp only [Act.put, List.setIfInBounds_toArray, List.set_cons_zero, List.set_cons_succ]
      clear bA hz hW6 hrb
      refine wpAnyH_at 14 (v := ?vv122) rfl (by kernel_rfl) (by kernel_rfl) (by kernel_rfl) (fun _ _ _ h => h) ?hy122 HSv ?hh122
      case hy122 =>
        refine Or.inl ⟨by rfl, ?_⟩
        intro W hW
        obtain ⟨h0, h1, h2, h3, h4, h5, h6, h7⟩ := hW
        go_simp
        try with_reducible rfl
      simp only [Act.put, List.setIfInBounds_toArray, List.set_cons_zero, List.set_cons_succ]
      refine wpAnyH_1 17 rfl (by kernel_rfl) ?_
      intro K hK
      rw [if_pos (by rfl)]
      try go_simp
      go_at_call 34
      refine (HNN.out lb W1 W6 sA cA rb ib HB.out HR.out HRu.out HI.out).mono ?_
      rintro e wE ⟨B, rfl, nE, bE⟩
      have zl := (bE.block lb (Array.getElem?_eq_some_iff.1 HZ.out.2.1).1).trans HZ.out.2.1
      have f0 := fzOf zl 0
      have c0 : wE.cell? ⟨lb, 0, none⟩ = some (.pointer none) := cellOf zl 0 _ rfl
      have HN := Lib.hid (And.intro bE nE)
      have HSv : (fun Y : World => Y.cell? ⟨w.heap.size, 0, none⟩ = some (.int .i64 c.mru) ∧ Y.cell? ⟨w.heap.size, 1, none⟩ = some (.int .i64 c.auth) ∧ Y.cell? ⟨w.heap.size, 2, none⟩ = some (.int .i64 c.magic) ∧ Y.cell? ⟨w.heap.size, 3, none⟩ = some (.int .i64 c.echo) ∧ Y.cell? ⟨w.heap.size, 4, none⟩ = some (.int .i64 c.cf) ∧ Y.cell? ⟨w.heap.size, 5, none⟩ = some (.int .i64 c.tm) ∧ Y.cell? ⟨w.heap.size, 6, none⟩ = some (.int .i64 c.fl) ∧ Y.cell? ⟨w.heap.size, 7, none⟩ = some (.int .i64 c.wt)) wE := HS.out _ bE
      clear bE nE zl
      refine hK _ _ (fun _ => HSv) ?_
      try simp only [Act.put, List.setIfInBounds_toArray, List.set_cons_zero, List.set_cons_succ]
      refine wpAnyH_at 18 (v := ?vv123) rfl (by kernel_rfl) (by kernel_rfl) (by kernel_rfl) (fun _ _ _ h => h) ?hy123 HSv ?hh123
      case hy123 =>
        refine Or.inl ⟨by rfl, ?_⟩
        intro W hW
        obtain ⟨h0, h1, h2, h3, h4, h5, h6, h7⟩ := hW
        go_simp
        try with_reducible rfl
      simp only [Act.put, List.setIfInBounds_toArray, List.set_cons_zero, List.set_cons_succ]
      refine wpAnyH_at 19 (v := ?vv124) rfl (by kernel_rfl) (by kernel_rfl) (by kernel_rfl) (fun _ _ _ h => h) ?hy124 HSv ?hh124
      case hy124 =>
        refine Or.inl ⟨by rfl, ?_⟩
        intro W hW
        obtain ⟨h0, h1, h2, h3, h4, h5, h6, h7⟩ := hW
        go_simp
        try with_reducible rfl
      simp only [Act.put, List.setIfInBounds_toArray, List.set_cons_zero, List.set_cons_succ]
      refine wpAnyH_at 21 (v := ?vv125) rfl (by kernel_rfl) (by kernel_rfl) (by kernel_rfl) (fun _ _ _ h => h) ?hy125 HSv ?hh125
      case hy125 =>
        refine Or.inl ⟨by rfl, ?_⟩
        intro W hW
        obtain ⟨h0, h1, h2, h3, h4, h5, h6, h7⟩ := hW
        go_simp
        try with_reducible rfl
      simp only [Act.put, List.setIfInBounds_toArray, List.set_cons_zero, List.set_cons_succ]
      refine wpAnyH_at 20 (v := ?vv126) rfl (by kernel_rfl) (by kernel_rfl) (by kernel_rfl) (fun _ _ _ h => h) ?hy126 HSv ?hh126
      case hy126 =>
        refine Or.inl ⟨by rfl, ?_⟩
        intro W hW
        obtain ⟨h0, h1, h2, h3, h4, h5, h6, h7⟩ := hW
        go_simp
        try with_reducible rfl
      simp only [Act.put, List.setIfInBounds_toArray, List.set_cons_zero, List.set_cons_succ]
      refine wpAnyH_at 22 (v := ?vv127) rfl (by kernel_rfl) (by kernel_rfl) (by kernel_rfl) (fun _ _ _ h => h) ?hy127 HSv ?hh127
      case hy127 =>
        refine Or.inl ⟨by rfl, ?_⟩
        intro W hW
        obtain ⟨h0, h1, h2, h3, h4, h5, h6, h7⟩ := hW
        go_simp
        try with_reducible rfl
      simp only [Act.put, List.setIfInBounds_toArray, List.set_cons_zero, List.set_cons_succ]
      refine wpAnyH_end 23 (fun j hj => rgH_end _ _ j (by omega)) (by rfl) (by kernel_rfl) ?_
      simp only [List.drop_succ_cons, List.drop_zero]
      clear HSv
      go_wp2_with fail
      go_ret2
      exact ⟨tb, okt, HG.out wE B HN.out.1 HN.out.2, HW.out.1, HW.out.2⟩
  · have ea : (c.auth != 0) = true := by simpa using h0
    have ev := hva h0
    clear hva h0
    go_enter Tryz.func12, Tryz.ntmps12
    go_wp2_with (first
      | (go_at_call 32; first | with_reducible refine (HL.out.1 _).mono ?_ | with_reducible refine (HL.out.2.1 _).mono ?_ | with_reducible refine (HL.out.2.2 _).mono ?_
         rintro e w1 ⟨rfl, rfl⟩)
      | (go_at_call 33; refine (HV.out _).mono ?_; rintro e wu ⟨rfl, hb⟩
         have hz := (hb.block w.heap.size (by have := HB0.out.2.2; unfold cfgO at this; rw [this]; omega)).trans HB0.out.2.1
         have HZ0 := Lib.hid (And.intro (HB0.out.1.trans (hb.mono (by have := HB0.out.1.size; exact this))) hz)
         unfold cfgO at hz
         have x0 := cellOf hz 0 _ rfl
         have x1 := cellOf hz 1 _ rfl
         have x2 := cellOf hz 2 _ rfl
         have x3 := cellOf hz 3 _ rfl
         have x4 := cellOf hz 4 _ rfl
         have x5 := cellOf hz 5 _ rfl
         have x6 := cellOf hz 6 _ rfl
         have x7 := cellOf hz 7 _ rfl
         clear hb hz)
      | (go_at_call 13; refine (tapeNew_any [] _ (fun _ => False) _ (Rec.nil _ _ _) (fun _ h => by cases h) (by decide)).mono ?_; rintro e wv ⟨tb, rfl, t5, s5, b5⟩
         have HT5 := Lib.hid (And.intro t5 (And.intro t5.lt (Nat.le_trans HZ0.out.1.size s5)))
         have HZ := Lib.hid (show Below w.heap.size w wv ∧ wv.heap[w.heap.size]? = some (cfgO c) from ⟨HZ0.out.1.trans (b5.mono HZ0.out.1.size), (b5.block _ (Array.getElem?_eq_some_iff.1 HZ0.out.2).1).trans HZ0.out.2⟩)
         have hz := HZ.out.2
         unfold cfgO at hz
         have x0 := cellOf hz 0 _ rfl
         have x1 := cellOf hz 1 _ rfl
         have x2 := cellOf hz 2 _ rfl
         have x3 := cellOf hz 3 _ rfl
         have x4 := cellOf hz 4 _ rfl
         have x5 := cellOf hz 5 _ rfl
         have x6 := cellOf hz 6 _ rfl
         have x7 := cellOf hz 7 _ rfl
         clear t5 s5 b5 hz))
    clear x0 x1 x2 x3 x4 x5 x6 x7
    have hz1 : (wv.alloc (.cells #[.pointer none, .pointer (some ⟨tb, 0, none⟩), .int .i64 c.echo, .int .i64 c.magic, .int .i64 0, .int .i64 0, .int .i64 0] 64 (0, 0))).heap[w.heap.size]? = some (cfgO c) := (Below.heap_alloc _ _ _ (Array.getElem?_eq_some_iff.1 HZ.out.2).1).trans HZ.out.2
    have hl1 := at1 wv (.cells #[.pointer none, .pointer (some ⟨tb, 0, none⟩), .int .i64 c.echo, .int .i64 c.magic, .int .i64 0, .int .i64 0, .int .i64 0] 64 (0, 0))
    have hw1 : Below w.heap.size w (wv.alloc (.cells #[.pointer none, .pointer (some ⟨tb, 0, none⟩), .int .i64 c.echo, .int .i64 c.magic, .int .i64 0, .int .i64 0, .int .i64 0] 64 (0, 0))) := HZ.out.1.alloc HZ.out.1.size _
    have hs1 := alloc1 wv (.cells #[.pointer none, .pointer (some ⟨tb, 0, none⟩), .int .i64 c.echo, .int .i64 c.magic, .int .i64 0, .int .i64 0, .int .i64 0] 64 (0, 0))
    have hlb : w.heap.size < wv.heap.size := (Array.getElem?_eq_some_iff.1 HZ.out.2).1
    obtain ⟨okt, hokt⟩ : ∃ okt : Nat → Prop, okt = fun b => wu.heap.size ≤ b ∧ b < tb := ⟨_, rfl⟩
    have ht1 : TapeAt (wv.alloc (.cells #[.pointer none, .pointer (some ⟨tb, 0, none⟩), .int .i64 c.echo, .int .i64 c.magic, .int .i64 0, .int .i64 0, .int .i64 0] 64 (0, 0))) tb okt ⟨[], 0⟩ := by rw [hokt]; exact HT5.out.1.below ((Below.refl _ _).alloc (Nat.le_refl _) _)
    have htl := HT5.out.2.1
    have HW := Lib.hid (And.intro (show ∀ b, okt b → w.heap.size ≤ b from fun b hb => by rw [hokt] at hb; exact Nat.le_trans HZ0.out.1.size hb.1) HT5.out.2.2)
    have HOK := Lib.hid (show ∀ b, okt b → b < tb from fun b hb => by rw [hokt] at hb; exact hb.2)
    obtain ⟨lb, hlbe⟩ : ∃ lb, lb = wv.heap.size := ⟨_, rfl⟩
    generalize hW1 : wv.alloc (.cells #[.pointer none, .pointer (some ⟨tb, 0, none⟩), .int .i64 c.echo, .int .i64 c.magic, .int .i64 0, .int .i64 0, .int .i64 0] 64 (0, 0)) = W1 at hz1 hl1 hw1 hs1 ht1 ⊢
    rw [← hlbe] at hl1 hs1 hlb htl ⊢
    clear hW1 hlbe HZ hokt HT5
    have HZ := Lib.hid (And.intro hz1 (And.intro hl1 (And.intro hw1 (And.intro hs1 hlb))))
    have HS : Hid (∀ W, Below W1.heap.size W1 W → (fun Y : World => Y.cell? ⟨w.heap.size, 0, none⟩ = some (.int .i64 c.mru) ∧ Y.cell? ⟨w.heap.size, 1, none⟩ = some (.int .i64 c.auth) ∧ Y.cell? ⟨w.heap.size, 2, none⟩ = some (.int .i64 c.magic) ∧ Y.cell? ⟨w.heap.size, 3, none⟩ = some (.int .i64 c.echo) ∧ Y.cell? ⟨w.heap.size, 4, none⟩ = some (.int .i64 c.cf) ∧ Y.cell? ⟨w.heap.size, 5, none⟩ = some (.int .i64 c.tm) ∧ Y.cell? ⟨w.heap.size, 6, none⟩ = some (.int .i64 c.fl) ∧ Y.cell? ⟨w.heap.size, 7, none⟩ = some (.int .i64 c.wt)) W) := Lib.hid fun W hW => by
      have h : W.heap[w.heap.size]? = some (.cells #[.int .i64 c.mru, .int .i64 c.auth, .int .i64 c.magic, .int .i64 c.echo, .int .i64 c.cf, .int .i64 c.tm, .int .i64 c.fl, .int .i64 c.wt] 24 (0, 0)) := (hW.block _ (by have := HZ.out.2.2.2.1; have := HZ.out.2.2.2.2; omega)).trans HZ.out.1
      exact ⟨cellOf h 0 _ rfl, cellOf h 1 _ rfl, cellOf h 2 _ rfl, cellOf h 3 _ rfl, cellOf h 4 _ rfl, cellOf h 5 _ rfl, cellOf h 6 _ rfl, cellOf h 7 _ rfl⟩
    have HLO := Lib.hid (fun W => lopts_any c W HIA.out)
    unfold cfgV at HLO
    have a1 : ∀ (W : World) (O : Obj), W.heap.size < (W.alloc O).heap.size := fun W O => by rw [alloc1]; omega
    have HA1 := Lib.hid a1
    have HG := Lib.hid (fun wE B bE nE => lnew_end (c := c) (w := w) (W1 := W1) (wE := wE) (lb := lb) (tb := tb) (okt := okt) (t := ⟨[], 0⟩) (B := B) hw1 hl1 ht1 (fun b hb => by have := HOK.out b hb; omega) (by omega) (by omega) bE nE)
    obtain ⟨y0, y1, y2, y3, y4, y5, y6, y7⟩ := HS.out W1.drew (Below.refl _ _).drew
    clear hz1 hl1 hw1 hs1 hlb a1 ht1 htl
    refine wp_region_H (rgH 0 23) (fun Y : World => Y.cell? ⟨w.heap.size, 0, none⟩ = some (.int .i64 c.mru) ∧ Y.cell? ⟨w.heap.size, 1, none⟩ = some (.int .i64 c.auth) ∧ Y.cell? ⟨w.heap.size, 2, none⟩ = some (.int .i64 c.magic) ∧ Y.cell? ⟨w.heap.size, 3, none⟩ = some (.int .i64 c.echo) ∧ Y.cell? ⟨w.heap.size, 4, none⟩ = some (.int .i64 c.cf) ∧ Y.cell? ⟨w.heap.size, 5, none⟩ = some (.int .i64 c.tm) ∧ Y.cell? ⟨w.heap.size, 6, none⟩ = some (.int .i64 c.fl) ∧ Y.cell? ⟨w.heap.size, 7, none⟩ = some (.int .i64 c.wt)) (by kernel_rfl) ?_
    have HSv : (fun Y : World => Y.cell? ⟨w.heap.size, 0, none⟩ = some (.int .i64 c.mru) ∧ Y.cell? ⟨w.heap.size, 1, none⟩ = some (.int .i64 c.auth) ∧ Y.cell? ⟨w.heap.size, 2, none⟩ = some (.int .i64 c.magic) ∧ Y.cell? ⟨w.heap.size, 3, none⟩ = some (.int .i64 c.echo) ∧ Y.cell? ⟨w.heap.size, 4, none⟩ = some (.int .i64 c.cf) ∧ Y.cell? ⟨w.heap.size, 5, none⟩ = some (.int .i64 c.tm) ∧ Y.cell? ⟨w.heap.size, 6, none⟩ = some (.int .i64 c.fl) ∧ Y.cell? ⟨w.heap.size, 7, none⟩ = some (.int .i64 c.wt)) W1.drew := HS.out _ (Below.refl _ _).drew
    have HB := Lib.hid (show Below W1.heap.size W1 W1.drew from (Below.refl _ _).drew)
    refine wpAnyH_at 0 (v := ?vv128) rfl (by kernel_rfl) (by kernel_rfl) (by kernel_rfl) (fun _ _ _ h => h) ?hy128 HSv ?hh128
    case hy128 =>
      refine Or.inl ⟨by rfl, ?_⟩
      intro W hW
      obtain ⟨h0, h1, h2, h3, h4, h5, h6, h7⟩ := hW
      go_simp
      try with_reducible rfl
    simp only [Act.put, List.setIfInBounds_toArray, List.set_cons_zero, List.set_cons_succ]
    refine wpAnyH_at 6 (v := ?vv129) rfl (by kernel_rfl) (by kernel_rfl) (by kernel_rfl) (fun _ _ _ h => h) ?hy129 HSv ?hh129
    case hy129 =>
      refine Or.inl ⟨by rfl, ?_⟩
      intro W hW
      obtain ⟨h0, h1, h2, h3, h4, h5, h6, h7⟩ := hW
      go_simp
      try with_reducible rfl
    simp only [Act.put, List.setIfInBounds_toArray, List.set_cons_zero, List.set_cons_succ]
    refine wpAnyH_at 7 (v := ?vv130) rfl (by kernel_rfl) (by kernel_rfl) (by kernel_rfl) (fun _ _ _ h => h) ?hy130 HSv ?hh130
    case hy130 =>
      refine Or.inl ⟨by rfl, ?_⟩
      intro W hW
      obtain ⟨h0, h1, h2, h3, h4, h5, h6, h7⟩ := hW
      go_simp
      try with_reducible rfl
    simp only [Act.put, List.setIfInBounds_toArray, List.set_cons_zero, List.set_cons_succ]
    refine wpAnyH_at 8 (v := ?vv131) rfl (by kernel_rfl) (by kernel_rfl) (by kernel_rfl) (fun _ _ _ h => h) ?hy131 HSv ?hh131
    case hy131 =>
      refine Or.inl ⟨by rfl, ?_⟩
      intro W hW
      obtain ⟨h0, h1, h2, h3, h4, h5, h6, h7⟩ := hW
      go_simp
      try with_reducible rfl
    simp only [Act.put, List.setIfInBounds_toArray, List.set_cons_zero, List.set_cons_succ]
    refine wpAnyH_at 9 (v := ?vv132) rfl (by kernel_rfl) (by kernel_rfl) (by kernel_rfl) (fun _ _ _ h => h) ?hy132 HSv ?hh132
    case hy132 =>
      refine Or.inl ⟨by rfl, ?_⟩
      intro W hW
      obtain ⟨h0, h1, h2, h3, h4, h5, h6, h7⟩ := hW
      go_simp
      try with_reducible rfl
    simp only [Act.put, List.setIfInBounds_toArray, List.set_cons_zero, List.set_cons_succ]
    refine wpAnyH_at 10 (v := ?vv133) rfl (by kernel_rfl) (by kernel_rfl) (by kernel_rfl) (fun _ _ _ h => h) ?hy133 HSv ?hh133
    case hy133 =>
      refine Or.inl ⟨by rfl, ?_⟩
      intro W hW
      obtain ⟨h0, h1, h2, h3, h4, h5, h6, h7⟩ := hW
      go_simp
      try with_reducible rfl
    simp only [Act.put, List.setIfInBounds_toArray, List.set_cons_zero, List.set_cons_succ]
    refine wpAnyH_at 11 (v := ?vv134) rfl (by kernel_rfl) (by kernel_rfl) (by kernel_rfl) (fun _ _ _ h => h) ?hy134 HSv ?hh134
    case hy134 =>
      refine Or.inl ⟨by rfl, ?_⟩
      intro W hW
      obtain ⟨h0, h1, h2, h3, h4, h5, h6, h7⟩ := hW
      go_simp
      try with_reducible rfl
    simp only [Act.put, List.setIfInBounds_toArray, List.set_cons_zero, List.set_cons_succ]
    refine wpAnyH_at 12 (v := ?vv135) rfl (by kernel_rfl) (by kernel_rfl) (by kernel_rfl) (fun _ _ _ h => h) ?hy135 HSv ?hh135
    case hy135 =>
      refine Or.inl ⟨by rfl, ?_⟩
      intro W hW
      obtain ⟨h0, h1, h2, h3, h4, h5, h6, h7⟩ := hW
      go_simp
      try with_reducible rfl
    simp only [Act.put, List.setIfInBounds_toArray, List.set_cons_zero, List.set_cons_succ]
    refine wpAnyH_at 13 (v := ?vv136) rfl (by kernel_rfl) (by kernel_rfl) (by kernel_rfl) (fun _ _ _ h => h) ?hy136 HSv ?hh136
    case hy136 =>
      refine Or.inl ⟨by rfl, ?_⟩
      intro W hW
      obtain ⟨h0, h1, h2, h3, h4, h5, h6, h7⟩ := hW
      go_simp
      try with_reducible rfl
    simp only [Act.put, List.setIfInBounds_toArray, List.set_cons_zero, List.set_cons_succ]
    refine wpAnyH_at 15 (v := ?vv137) rfl (by kernel_rfl) (by kernel_rfl) (by kernel_rfl) (fun _ _ _ h => h) ?hy137 HSv ?hh137
    case hy137 =>
      refine Or.inl ⟨by rfl, ?_⟩
      intro W hW
      obtain ⟨h0, h1, h2, h3, h4, h5, h6, h7⟩ := hW
      go_simp
      try with_reducible rfl
    simp only [Act.put, List.setIfInBounds_toArray, List.set_cons_zero, List.set_cons_succ]
    refine wpAnyH_at 16 (v := ?vv138) rfl (by kernel_rfl) (by kernel_rfl) (by kernel_rfl) (fun _ _ _ h => h) ?hy138 HSv ?hh138
    case hy138 =>
      refine Or.inl ⟨by rfl, ?_⟩
      intro W hW
      obtain ⟨h0, h1, h2, h3, h4, h5, h6, h7⟩ := hW
      go_simp
      try with_reducible rfl
    simp only [Act.put, List.setIfInBounds_toArray, List.set_cons_zero, List.set_cons_succ]
    generalize W1.drew = W at HSv HB ⊢
    refine wpAnyH_2 1 5 rfl rfl (by kernel_rfl) ?_ ?_
    · intro K hK
      rw [if_pos (by rfl)]
      try go_simp
      go_at_call 18
      refine (HLO.out _).mono ?_
      rintro e W2 ⟨vA, rfl, rA, bA⟩
      obtain ⟨sA, cA, rfl⟩ := rA.form
      have HR := Lib.hid (rA.base HB.out.size)
      have HB := Lib.hid (HB.out.trans (bA.mono HB.out.size))
      have HSv : (fun Y : World => Y.cell? ⟨w.heap.size, 0, none⟩ = some (.int .i64 c.mru) ∧ Y.cell? ⟨w.heap.size, 1, none⟩ = some (.int .i64 c.auth) ∧ Y.cell? ⟨w.heap.size, 2, none⟩ = some (.int .i64 c.magic) ∧ Y.cell? ⟨w.heap.size, 3, none⟩ = some (.int .i64 c.echo) ∧ Y.cell? ⟨w.heap.size, 4, none⟩ = some (.int .i64 c.cf) ∧ Y.cell? ⟨w.heap.size, 5, none⟩ = some (.int .i64 c.tm) ∧ Y.cell? ⟨w.heap.size, 6, none⟩ = some (.int .i64 c.fl) ∧ Y.cell? ⟨w.heap.size, 7, none⟩ = some (.int .i64 c.wt)) W2 := HS.out _ HB.out
      refine hK _ _ (fun _ => HSv) ?_
      try simp only [Act.put, List.setIfInBounds_toArray, List.set_cons_zero, List.set_cons_succ]
      clear rA bA
      refine wpAnyH_2 2 5 rfl rfl (by kernel_rfl) ?_ ?_
      · intro K hK
        rw [if_pos (by rfl)]
        try go_simp
        go_at_call 35
        refine (units_any 1492 _).mono ?_
        rintro e W3 ⟨rfl, bA⟩
        have HR := Lib.hid (HR.out.below bA)
        have HB := Lib.hid (HB.out.trans (bA.mono HB.out.size))
        have HSv : (fun Y : World => Y.cell? ⟨w.heap.size, 0, none⟩ = some (.int .i64 c.mru) ∧ Y.cell? ⟨w.heap.size, 1, none⟩ = some (.int .i64 c.auth) ∧ Y.cell? ⟨w.heap.size, 2, none⟩ = some (.int .i64 c.magic) ∧ Y.cell? ⟨w.heap.size, 3, none⟩ = some (.int .i64 c.echo) ∧ Y.cell? ⟨w.heap.size, 4, none⟩ = some (.int .i64 c.cf) ∧ Y.cell? ⟨w.heap.size, 5, none⟩ = some (.int .i64 c.tm) ∧ Y.cell? ⟨w.heap.size, 6, none⟩ = some (.int .i64 c.fl) ∧ Y.cell? ⟨w.heap.size, 7, none⟩ = some (.int .i64 c.wt)) W3 := HS.out _ HB.out
        refine hK _ _ (fun _ => HSv) ?_
        try simp only [Act.put, List.setIfInBounds_toArray, List.set_cons_zero, List.set_cons_succ]
        clear bA
        refine wpAnyH_2 3 5 rfl rfl (by kernel_rfl) ?_ ?_
        · intro K hK
          rw [if_pos (by rfl)]
          try go_simp
          go_at_call 36
          refine (magics_any _).mono ?_
          rintro e W4 ⟨rfl, bA⟩
          have HR := Lib.hid (HR.out.below bA)
          have HB := Lib.hid (HB.out.trans (bA.mono HB.out.size))
          have HSv : (fun Y : World => Y.cell? ⟨w.heap.size, 0, none⟩ = some (.int .i64 c.mru) ∧ Y.cell? ⟨w.heap.size, 1, none⟩ = some (.int .i64 c.auth) ∧ Y.cell? ⟨w.heap.size, 2, none⟩ = some (.int .i64 c.magic) ∧ Y.cell? ⟨w.heap.size, 3, none⟩ = some (.int .i64 c.echo) ∧ Y.cell? ⟨w.heap.size, 4, none⟩ = some (.int .i64 c.cf) ∧ Y.cell? ⟨w.heap.size, 5, none⟩ = some (.int .i64 c.tm) ∧ Y.cell? ⟨w.heap.size, 6, none⟩ = some (.int .i64 c.fl) ∧ Y.cell? ⟨w.heap.size, 7, none⟩ = some (.int .i64 c.wt)) W4 := HS.out _ HB.out
          refine hK _ _ (fun _ => HSv) ?_
          try simp only [Act.put, List.setIfInBounds_toArray, List.set_cons_zero, List.set_cons_succ]
          clear bA
          refine wpAnyH_2 4 5 rfl rfl (by kernel_rfl) ?_ ?_
          · intro K hK
            rw [if_pos (by rfl)]
            try go_simp
            have bA : Below W4.heap.size W4 (W4.alloc (.cells #[.int .i64 1, .int .i64 2, .int .i64 64, .int .i64 1492, .string (be2 1492), .int .i64 5, .int .i64 4, .int .i64 1, .int .i64 4294967295, .string (be4 1)] 73 (0, 0))) := (Below.refl _ _).alloc (Nat.le_refl _) _
            have hz := at1 W4 (.cells #[.int .i64 1, .int .i64 2, .int .i64 64, .int .i64 1492, .string (be2 1492), .int .i64 5, .int .i64 4, .int .i64 1, .int .i64 4294967295, .string (be4 1)] 73 (0, 0))
            generalize hW5 : W4.alloc (.cells #[.int .i64 1, .int .i64 2, .int .i64 64, .int .i64 1492, .string (be2 1492), .int .i64 5, .int .i64 4, .int .i64 1, .int .i64 4294967295, .string (be4 1)] 73 (0, 0)) = W5 at bA hz ⊢
            obtain ⟨rb, hrb⟩ : ∃ rb, rb = W4.heap.size := ⟨_, rfl⟩
            rw [← hrb] at hz ⊢
            have HRu := Lib.hid hz
            have HR := Lib.hid (HR.out.below bA)
            have HB := Lib.hid (HB.out.trans (bA.mono HB.out.size))
            have HSv : (fun Y : World => Y.cell? ⟨w.heap.size, 0, none⟩ = some (.int .i64 c.mru) ∧ Y.cell? ⟨w.heap.size, 1, none⟩ = some (.int .i64 c.auth) ∧ Y.cell? ⟨w.heap.size, 2, none⟩ = some (.int .i64 c.magic) ∧ Y.cell? ⟨w.heap.size, 3, none⟩ = some (.int .i64 c.echo) ∧ Y.cell? ⟨w.heap.size, 4, none⟩ = some (.int .i64 c.cf) ∧ Y.cell? ⟨w.heap.size, 5, none⟩ = some (.int .i64 c.tm) ∧ Y.cell? ⟨w.heap.size, 6, none⟩ = some (.int .i64 c.fl) ∧ Y.cell? ⟨w.heap.size, 7, none⟩ = some (.int .i64 c.wt)) W5 := HS.out _ HB.out
            refine hK _ _ (fun _ => HSv) ?_
            try simp only [Act.put, List.setIfInBounds_toArray, List.set_cons_zero, List.set_cons_succ]
            clear bA hz hW5 hrb
            refine wpAnyH_1 5 rfl (by kernel_rfl) ?_
            intro K hK
            rw [if_pos (by rfl)]
            try go_simp
            have bA : Below W5.heap.size W5 (W5.alloc (.cells #[.int .i64 3] 3 (0, 0))) := (Below.refl _ _).alloc (Nat.le_refl _) _
            have hz := at1 W5 (.cells #[.int .i64 3] 3 (0, 0))
            generalize hW6 : W5.alloc (.cells #[.int .i64 3] 3 (0, 0)) = W6 at bA hz ⊢
            obtain ⟨ib, hib⟩ : ∃ ib, ib = W5.heap.size := ⟨_, rfl⟩
            rw [← hib] at hz ⊢
            have HI := Lib.hid hz
            have HR := Lib.hid (HR.out.below bA)
            have HRu := Lib.hid ((bA.block _ (Array.getElem?_eq_some_iff.1 HRu.out).1).trans HRu.out)
            have HB := Lib.hid (HB.out.trans (bA.mono HB.out.size))
            have HSv : (fun Y : World => Y.cell? ⟨w.heap.size, 0, none⟩ = some (.int .i64 c.mru) ∧ Y.cell? ⟨w.heap.size, 1, none⟩ = some (.int .i64 c.auth) ∧ Y.cell? ⟨w.heap.size, 2, none⟩ = some (.int .i64 c.magic) ∧ Y.cell? ⟨w.heap.size, 3, none⟩ = some (.int .i64 c.echo) ∧ Y.cell? ⟨w.heap.size, 4, none⟩ = some (.int .i64 c.cf) ∧ Y.cell? ⟨w.heap.size, 5, none⟩ = some (.int .i64 c.tm) ∧ Y.cell? ⟨w.heap.size, 6, none⟩ = some (.int .i64 c.fl) ∧ Y.cell? ⟨w.heap.size, 7, none⟩ = some (.int .i64 c.wt)) W6 := HS.out _ HB.out
            refine hK _ _ (fun _ => HSv) ?_
            try simp only [Act.put, List.setIfInBounds_toArray, List.set_cons_zero, List.set_cons_succ]
            clear bA hz hW6 hib
            refine wpAnyH_at 14 (v := ?vv139) rfl (by kernel_rfl) (by kernel_rfl) (by kernel_rfl) (fun _ _ _ h => h) ?hy139 HSv ?hh139
            case hy139 =>
              refine Or.inl ⟨by rfl, ?_⟩
              intro W hW
              obtain ⟨h0, h1, h2, h3, h4, h5, h6, h7⟩ := hW
              go_simp
              try with_reducible rfl
            simp only [Act.put, List.setIfInBounds_toArray, List.set_cons_zero, List.set_cons_succ]
            refine wpAnyH_1 17 rfl (by kernel_rfl) ?_
            intro K hK
            rw [if_pos (by rfl)]
            try go_simp
            go_at_call 34
            refine (HNN.out lb W1 W6 sA cA rb ib HB.out HR.out HRu.out HI.out).mono ?_
            rintro e wE ⟨B, rfl, nE, bE⟩
            have zl := (bE.block lb (Array.getElem?_eq_some_iff.1 HZ.out.2.1).1).trans HZ.out.2.1
            have f0 := fzOf zl 0
            have c0 : wE.cell? ⟨lb, 0, none⟩ = some (.pointer none) := cellOf zl 0 _ rfl
            have HN := Lib.hid (And.intro bE nE)
            have HSv : (fun Y : World => Y.cell? ⟨w.heap.size, 0, none⟩ = some (.int .i64 c.mru) ∧ Y.cell? ⟨w.heap.size, 1, none⟩ = some (.int .i64 c.auth) ∧ Y.cell? ⟨w.heap.size, 2, none⟩ = some (.int .i64 c.magic) ∧ Y.cell? ⟨w.heap.size, 3, none⟩ = some (.int .i64 c.echo) ∧ Y.cell? ⟨w.heap.size, 4, none⟩ = some (.int .i64 c.cf) ∧ Y.cell? ⟨w.heap.size, 5, none⟩ = some (.int .i64 c.tm) ∧ Y.cell? ⟨w.heap.size, 6, none⟩ = some (.int .i64 c.fl) ∧ Y.cell? ⟨w.heap.size, 7, none⟩ = some (.int .i64 c.wt)) wE := HS.out _ bE
            clear bE nE zl
            refine hK _ _ (fun _ => HSv) ?_
            try simp only [Act.put, List.setIfInBounds_toArray, List.set_cons_zero, List.set_cons_succ]
            refine wpAnyH_at 18 (v := ?vv140) rfl (by kernel_rfl) (by kernel_rfl) (by kernel_rfl) (fun _ _ _ h => h) ?hy140 HSv ?hh140
            case hy140 =>
              refine Or.inl ⟨by rfl, ?_⟩
              intro W hW
              obtain ⟨h0, h1, h2, h3, h4, h5, h6, h7⟩ := hW
              go_simp
              try with_reducible rfl
            simp only [Act.put, List.setIfInBounds_toArray, List.set_cons_zero, List.set_cons_succ]
            refine wpAnyH_at 19 (v := ?vv141) rfl (by kernel_rfl) (by kernel_rfl) (by kernel_rfl) (fun _ _ _ h => h) ?hy141 HSv ?hh141
            case hy141 =>
              refine Or.inl ⟨by rfl, ?_⟩
              intro W hW
              obtain ⟨h0, h1, h2, h3, h4, h5, h6, h7⟩ := hW
              go_simp
              try with_reducible rfl
            simp only [Act.put, List.setIfInBounds_toArray, List.set_cons_zero, List.set_cons_succ]
            refine wpAnyH_at 21 (v := ?vv142) rfl (by kernel_rfl) (by kernel_rfl) (by kernel_rfl) (fun _ _ _ h => h) ?hy142 HSv ?hh142
            case hy142 =>
              refine Or.inl ⟨by rfl, ?_⟩
              intro W hW
              obtain ⟨h0, h1, h2, h3, h4, h5, h6, h7⟩ := hW
              go_simp
              try with_reducible rfl
            simp only [Act.put, List.setIfInBounds_toArray, List.set_cons_zero, List.set_cons_succ]
            refine wpAnyH_at 20 (v := ?vv143) rfl (by kernel_rfl) (by kernel_rfl) (by kernel_rfl) (fun _ _ _ h => h) ?hy143 HSv ?hh143
            case hy143 =>
              refine Or.inl ⟨by rfl, ?_⟩
              intro W hW
              obtain ⟨h0, h1, h2, h3, h4, h5, h6, h7⟩ := hW
              go_simp
              try with_reducible rfl
            simp only [Act.put, List.setIfInBounds_toArray, List.set_cons_zero, List.set_cons_succ]
            refine wpAnyH_at 22 (v := ?vv144) rfl (by kernel_rfl) (by kernel_rfl) (by kernel_rfl) (fun _ _ _ h => h) ?hy144 HSv ?hh144
            case hy144 =>
              refine Or.inl ⟨by rfl, ?_⟩
              intro W hW
              obtain ⟨h0, h1, h2, h3, h4, h5, h6, h7⟩ := hW
              go_simp
              try with_reducible rfl
            simp only [Act.put, List.setIfInBounds_toArray, List.set_cons_zero, List.set_cons_succ]
            refine wpAnyH_end 23 (fun j hj => rgH_end _ _ j (by omega)) (by rfl) (by kernel_rfl) ?_
            simp only [List.drop_succ_cons, List.drop_zero]
            clear HSv
            go_wp2_with fail
            go_ret2
            exact ⟨tb, okt, HG.out wE B HN.out.1 HN.out.2, HW.out.1, HW.out.2⟩
          · intro K hK
            rw [if_pos (by rfl)]
            try go_simp
            have bA : Below W4.heap.size W4 (W4.alloc (.cells #[.int .i64 3] 3 (0, 0))) := (Below.refl _ _).alloc (Nat.le_refl _) _
            have hz := at1 W4 (.cells #[.int .i64 3] 3 (0, 0))
            generalize hW5 : W4.alloc (.cells #[.int .i64 3] 3 (0, 0)) = W5 at bA hz ⊢
            obtain ⟨ib, hib⟩ : ∃ ib, ib = W4.heap.size := ⟨_, rfl⟩
            rw [← hib] at hz ⊢
            have HI := Lib.hid hz
            have HR := Lib.hid (HR.out.below bA)
            have HB := Lib.hid (HB.out.trans (bA.mono HB.out.size))
            have HSv : (fun Y : World => Y.cell? ⟨w.heap.size, 0, none⟩ = some (.int .i64 c.mru) ∧ Y.cell? ⟨w.heap.size, 1, none⟩ = some (.int .i64 c.auth) ∧ Y.cell? ⟨w.heap.size, 2, none⟩ = some (.int .i64 c.magic) ∧ Y.cell? ⟨w.heap.size, 3, none⟩ = some (.int .i64 c.echo) ∧ Y.cell? ⟨w.heap.size, 4, none⟩ = some (.int .i64 c.cf) ∧ Y.cell? ⟨w.heap.size, 5, none⟩ = some (.int .i64 c.tm) ∧ Y.cell? ⟨w.heap.size, 6, none⟩ = some (.int .i64 c.fl) ∧ Y.cell? ⟨w.heap.size, 7, none⟩ = some (.int .i64 c.wt)) W5 := HS.out _ HB.out
            refine hK _ _ (fun _ => HSv) ?_
            try simp only [Act.put, List.setIfInBounds_toArray, List.set_cons_zero, List.set_cons_succ]
            clear bA hz hW5 hib
            refine wpAnyH_1 4 rfl (by kernel_rfl) ?_
            intro K hK
            rw [if_pos (by rfl)]
            try go_simp
            have bA : Below W5.heap.size W5 (W5.alloc (.cells #[.int .i64 1, .int .i64 2, .int .i64 64, .int .i64 1492, .string (be2 1492), .int .i64 5, .int .i64 4, .int .i64 1, .int .i64 4294967295, .string (be4 1)] 73 (0, 0))) := (Below.refl _ _).alloc (Nat.le_refl _) _
            have hz := at1 W5 (.cells #[.int .i64 1, .int .i64 2, .int .i64 64, .int .i64 1492, .string (be2 1492), .int .i64 5, .int .i64 4, .int .i64 1, .int .i64 4294967295, .string (be4 1)] 73 (0, 0))
            generalize hW6 : W5.alloc (.cells #[.int .i64 1, .int .i64 2, .int .i64 64, .int .i64 1492, .string (be2 1492), .int .i64 5, .int .i64 4, .int .i64 1, .int .i64 4294967295, .string (be4 1)] 73 (0, 0)) = W6 at bA hz ⊢
            obtain ⟨rb, hrb⟩ : ∃ rb, rb = W5.heap.size := ⟨_, rfl⟩
            rw [← hrb] at hz ⊢
            have HRu := Lib.hid hz
            have HR := Lib.hid (HR.out.below bA)
            have HB := Lib.hid (HB.out.trans (bA.mono HB.out.size))
            have HSv : (fun Y : World => Y.cell? ⟨w.heap.size, 0, none⟩ = some (.int .i64 c.mru) ∧ Y.cell? ⟨w.heap.size, 1, none⟩ = some (.int .i64 c.auth) ∧ Y.cell? ⟨w.heap.size, 2, none⟩ = some (.int .i64 c.magic) ∧ Y.cell? ⟨w.heap.size, 3, none⟩ = some (.int .i64 c.echo) ∧ Y.cell? ⟨w.heap.size, 4, none⟩ = some (.int .i64 c.cf) ∧ Y.cell? ⟨w.heap.size, 5, none⟩ = some (.int .i64 c.tm) ∧ Y.cell? ⟨w.heap.size, 6, none⟩ = some (.int .i64 c.fl) ∧ Y.cell? ⟨w.heap.size, 7, none⟩ = some (.int .i64 c.wt)) W6 := HS.out _ HB.out
            have HI := Lib.hid ((bA.block _ (Array.getElem?_eq_some_iff.1 HI.out).1).trans HI.out)
            refine hK _ _ (fun _ => HSv) ?_
            try simp only [Act.put, List.setIfInBounds_toArray, List.set_cons_zero, List.set_cons_succ]
            clear bA hz hW6 hrb
            refine wpAnyH_at 14 (v := ?vv145) rfl (by kernel_rfl) (by kernel_rfl) (by kernel_rfl) (fun _ _ _ h => h) ?hy145 HSv ?hh145
            case hy145 =>
              refine Or.inl ⟨by rfl, ?_⟩
              intro W hW
              obtain ⟨h0, h1, h2, h3, h4, h5, h6, h7⟩ := hW
              go_simp
              try with_reducible rfl
            simp only [Act.put, List.setIfInBounds_toArray, List.set_cons_zero, List.set_cons_succ]
            refine wpAnyH_1 17 rfl (by kernel_rfl) ?_
            intro K hK
            rw [if_pos (by rfl)]
            try go_simp
            go_at_call 34
            refine (HNN.out lb W1 W6 sA cA rb ib HB.out HR.out HRu.out HI.out).mono ?_
            rintro e wE ⟨B, rfl, nE, bE⟩
            have zl := (bE.block lb (Array.getElem?_eq_some_iff.1 HZ.out.2.1).1).trans HZ.out.2.1
            have f0 := fzOf zl 0
            have c0 : wE.cell? ⟨lb, 0, none⟩ = some (.pointer none) := cellOf zl 0 _ rfl
            have HN := Lib.hid (And.intro bE nE)
            have HSv : (fun Y : World => Y.cell? ⟨w.heap.size, 0, none⟩ = some (.int .i64 c.mru) ∧ Y.cell? ⟨w.heap.size, 1, none⟩ = some (.int .i64 c.auth) ∧ Y.cell? ⟨w.heap.size, 2, none⟩ = some (.int .i64 c.magic) ∧ Y.cell? ⟨w.heap.size, 3, none⟩ = some (.int .i64 c.echo) ∧ Y.cell? ⟨w.heap.size, 4, none⟩ = some (.int .i64 c.cf) ∧ Y.cell? ⟨w.heap.size, 5, none⟩ = some (.int .i64 c.tm) ∧ Y.cell? ⟨w.heap.size, 6, none⟩ = some (.int .i64 c.fl) ∧ Y.cell? ⟨w.heap.size, 7, none⟩ = some (.int .i64 c.wt)) wE := HS.out _ bE
            clear bE nE zl
            refine hK _ _ (fun _ => HSv) ?_
            try simp only [Act.put, List.setIfInBounds_toArray, List.set_cons_zero, List.set_cons_succ]
            refine wpAnyH_at 18 (v := ?vv146) rfl (by kernel_rfl) (by kernel_rfl) (by kernel_rfl) (fun _ _ _ h => h) ?hy146 HSv ?hh146
            case hy146 =>
              refine Or.inl ⟨by rfl, ?_⟩
              intro W hW
              obtain ⟨h0, h1, h2, h3, h4, h5, h6, h7⟩ := hW
              go_simp
              try with_reducible rfl
            simp only [Act.put, List.setIfInBounds_toArray, List.set_cons_zero, List.set_cons_succ]
            refine wpAnyH_at 19 (v := ?vv147) rfl (by kernel_rfl) (by kernel_rfl) (by kernel_rfl) (fun _ _ _ h => h) ?hy147 HSv ?hh147
            case hy147 =>
              refine Or.inl ⟨by rfl, ?_⟩
              intro W hW
              obtain ⟨h0, h1, h2, h3, h4, h5, h6, h7⟩ := hW
              go_simp
              try with_reducible rfl
            simp only [Act.put, List.setIfInBounds_toArray, List.set_cons_zero, List.set_cons_succ]
            refine wpAnyH_at 21 (v := ?vv148) rfl (by kernel_rfl) (by kernel_rfl) (by kernel_rfl) (fun _ _ _ h => h) ?hy148 HSv ?hh148
            case hy148 =>
              refine Or.inl ⟨by rfl, ?_⟩
              intro W hW
              obtain ⟨h0, h1, h2, h3, h4, h5, h6, h7⟩ := hW
              go_simp
              try with_reducible rfl
            simp only [Act.put, List.setIfInBounds_toArray, List.set_cons_zero, List.set_cons_succ]
            refine wpAnyH_at 20 (v := ?vv149) rfl (by kernel_rfl) (by kernel_rfl) (by kernel_rfl) (fun _ _ _ h => h) ?hy149 HSv ?hh149
            case hy149 =>
              refine Or.inl ⟨by rfl, ?_⟩
              intro W hW
              obtain ⟨h0, h1, h2, h3, h4, h5, h6, h7⟩ := hW
              go_simp
              try with_reducible rfl
            simp only [Act.put, List.setIfInBounds_toArray, List.set_cons_zero, List.set_cons_succ]
            refine wpAnyH_at 22 (v := ?vv150) rfl (by kernel_rfl) (by kernel_rfl) (by kernel_rfl) (fun _ _ _ h => h) ?hy150 HSv ?hh150
            case hy150 =>
              refine Or.inl ⟨by rfl, ?_⟩
              intro W hW
              obtain ⟨h0, h1, h2, h3, h4, h5, h6, h7⟩ := hW
              go_simp
              try with_reducible rfl
            simp only [Act.put, List.setIfInBounds_toArray, List.set_cons_zero, List.set_cons_succ]
            refine wpAnyH_end 23 (fun j hj => rgH_end _ _ j (by omega)) (by rfl) (by kernel_rfl) ?_
            simp only [List.drop_succ_cons, List.drop_zero]
            clear HSv
            go_wp2_with fail
            go_ret2
            exact ⟨tb, okt, HG.out wE B HN.out.1 HN.out.2, HW.out.1, HW.out.2⟩
        · intro K hK
          rw [if_pos (by rfl)]
          try go_simp
          have bA : Below W3.heap.size W3 (W3.alloc (.cells #[.int .i64 3] 3 (0, 0))) := (Below.refl _ _).alloc (Nat.le_refl _) _
          have hz := at1 W3 (.cells #[.int .i64 3] 3 (0, 0))
          generalize hW4 : W3.alloc (.cells #[.int .i64 3] 3 (0, 0)) = W4 at bA hz ⊢
          obtain ⟨ib, hib⟩ : ∃ ib, ib = W3.heap.size := ⟨_, rfl⟩
          rw [← hib] at hz ⊢
          have HI := Lib.hid hz
          have HR := Lib.hid (HR.out.below bA)
          have HB := Lib.hid (HB.out.trans (bA.mono HB.out.size))
          have HSv : (fun Y : World => Y.cell? ⟨w.heap.size, 0, none⟩ = some (.int .i64 c.mru) ∧ Y.cell? ⟨w.heap.size, 1, none⟩ = some (.int .i64 c.auth) ∧ Y.cell? ⟨w.heap.size, 2, none⟩ = some (.int .i64 c.magic) ∧ Y.cell? ⟨w.heap.size, 3, none⟩ = some (.int .i64 c.echo) ∧ Y.cell? ⟨w.heap.size, 4, none⟩ = some (.int .i64 c.cf) ∧ Y.cell? ⟨w.heap.size, 5, none⟩ = some (.int .i64 c.tm) ∧ Y.cell? ⟨w.heap.size, 6, none⟩ = some (.int .i64 c.fl) ∧ Y.cell? ⟨w.heap.size, 7, none⟩ = some (.int .i64 c.wt)) W4 := HS.out _ HB.out
          refine hK _ _ (fun _ => HSv) ?_
          try simp only [Act.put, List.setIfInBounds_toArray, List.set_cons_zero, List.set_cons_succ]
          clear bA hz hW4 hib
          refine wpAnyH_1 3 rfl (by kernel_rfl) ?_
          intro K hK
          rw [if_pos (by rfl)]
          try go_simp
          go_at_call 36
          refine (magics_any _).mono ?_
          rintro e W5 ⟨rfl, bA⟩
          have HR := Lib.hid (HR.out.below bA)
          have HB := Lib.hid (HB.out.trans (bA.mono HB.out.size))
          have HSv : (fun Y : World => Y.cell? ⟨w.heap.size, 0, none⟩ = some (.int .i64 c.mru) ∧ Y.cell? ⟨w.heap.size, 1, none⟩ = some (.int .i64 c.auth) ∧ Y.cell? ⟨w.heap.size, 2, none⟩ = some (.int .i64 c.magic) ∧ Y.cell? ⟨w.heap.size, 3, none⟩ = some (.int .i64 c.echo) ∧ Y.cell? ⟨w.heap.size, 4, none⟩ = some (.int .i64 c.cf) ∧ Y.cell? ⟨w.heap.size, 5, none⟩ = some (.int .i64 c.tm) ∧ Y.cell? ⟨w.heap.size, 6, none⟩ = some (.int .i64 c.fl) ∧ Y.cell? ⟨w.heap.size, 7, none⟩ = some (.int .i64 c.wt)) W5 := HS.out _ HB.out
          have HI := Lib.hid ((bA.block _ (Array.getElem?_eq_some_iff.1 HI.out).1).trans HI.out)
          refine hK _ _ (fun _ => HSv) ?_
          try simp only [Act.put, List.setIfInBounds_toArray, List.set_cons_zero, List.set_cons_succ]
          clear bA
          refine wpAnyH_1 4 rfl (by kernel_rfl) ?_
          intro K hK
          rw [if_pos (by rfl)]
          try go_simp
          have bA : Below W5.heap.size W5 (W5.alloc (.cells #[.int .i64 1, .int .i64 2, .int .i64 64, .int .i64 1492, .string (be2 1492), .int .i64 5, .int .i64 4, .int .i64 1, .int .i64 4294967295, .string (be4 1)] 73 (0, 0))) := (Below.refl _ _).alloc (Nat.le_refl _) _
          have hz := at1 W5 (.cells #[.int .i64 1, .int .i64 2, .int .i64 64, .int .i64 1492, .string (be2 1492), .int .i64 5, .int .i64 4, .int .i64 1, .int .i64 4294967295, .string (be4 1)] 73 (0, 0))
          generalize hW6 : W5.alloc (.cells #[.int .i64 1, .int .i64 2, .int .i64 64, .int .i64 1492, .string (be2 1492), .int .i64 5, .int .i64 4, .int .i64 1, .int .i64 4294967295, .string (be4 1)] 73 (0, 0)) = W6 at bA hz ⊢
          obtain ⟨rb, hrb⟩ : ∃ rb, rb = W5.heap.size := ⟨_, rfl⟩
          rw [← hrb] at hz ⊢
          have HRu := Lib.hid hz
          have HR := Lib.hid (HR.out.below bA)
          have HB := Lib.hid (HB.out.trans (bA.mono HB.out.size))
          have HSv : (fun Y : World => Y.cell? ⟨w.heap.size, 0, none⟩ = some (.int .i64 c.mru) ∧ Y.cell? ⟨w.heap.size, 1, none⟩ = some (.int .i64 c.auth) ∧ Y.cell? ⟨w.heap.size, 2, none⟩ = some (.int .i64 c.magic) ∧ Y.cell? ⟨w.heap.size, 3, none⟩ = some (.int .i64 c.echo) ∧ Y.cell? ⟨w.heap.size, 4, none⟩ = some (.int .i64 c.cf) ∧ Y.cell? ⟨w.heap.size, 5, none⟩ = some (.int .i64 c.tm) ∧ Y.cell? ⟨w.heap.size, 6, none⟩ = some (.int .i64 c.fl) ∧ Y.cell? ⟨w.heap.size, 7, none⟩ = some (.int .i64 c.wt)) W6 := HS.out _ HB.out
          have HI := Lib.hid ((bA.block _ (Array.getElem?_eq_some_iff.1 HI.out).1).trans HI.out)
          refine hK _ _ (fun _ => HSv) ?_
          try simp only [Act.put, List.setIfInBounds_toArray, List.set_cons_zero, List.set_cons_succ]
          clear bA hz hW6 hrb
          refine wpAnyH_at 14 (v := ?vv151) rfl (by kernel_rfl) (by kernel_rfl) (by kernel_rfl) (fun _ _ _ h => h) ?hy151 HSv ?hh151
          case hy151 =>
            refine Or.inl ⟨by rfl, ?_⟩
            intro W hW
            obtain ⟨h0, h1, h2, h3, h4, h5, h6, h7⟩ := hW
            go_simp
            try with_reducible rfl
          simp only [Act.put, List.setIfInBounds_toArray, List.set_cons_zero, List.set_cons_succ]
          refine wpAnyH_1 17 rfl (by kernel_rfl) ?_
          intro K hK
          rw [if_pos (by rfl)]
          try go_simp
          go_at_call 34
          refine (HNN.out lb W1 W6 sA cA rb ib HB.out HR.out HRu.out HI.out).mono ?_
          rintro e wE ⟨B, rfl, nE, bE⟩
          have zl := (bE.block lb (Array.getElem?_eq_some_iff.1 HZ.out.2.1).1).trans HZ.out.2.1
          have f0 := fzOf zl 0
          have c0 : wE.cell? ⟨lb, 0, none⟩ = some (.pointer none) := cellOf zl 0 _ rfl
          have HN := Lib.hid (And.intro bE nE)
          have HSv : (fun Y : World => Y.cell? ⟨w.heap.size, 0, none⟩ = some (.int .i64 c.mru) ∧ Y.cell? ⟨w.heap.size, 1, none⟩ = some (.int .i64 c.auth) ∧ Y.cell? ⟨w.heap.size, 2, none⟩ = some (.int .i64 c.magic) ∧ Y.cell? ⟨w.heap.size, 3, none⟩ = some (.int .i64 c.echo) ∧ Y.cell? ⟨w.heap.size, 4, none⟩ = some (.int .i64 c.cf) ∧ Y.cell? ⟨w.heap.size, 5, none⟩ = some (.int .i64 c.tm) ∧ Y.cell? ⟨w.heap.size, 6, none⟩ = some (.int .i64 c.fl) ∧ Y.cell? ⟨w.heap.size, 7, none⟩ = some (.int .i64 c.wt)) wE := HS.out _ bE
          clear bE nE zl
          refine hK _ _ (fun _ => HSv) ?_
          try simp only [Act.put, List.setIfInBounds_toArray, List.set_cons_zero, List.set_cons_succ]
          refine wpAnyH_at 18 (v := ?vv152) rfl (by kernel_rfl) (by kernel_rfl) (by kernel_rfl) (fun _ _ _ h => h) ?hy152 HSv ?hh152
          case hy152 =>
            refine Or.inl ⟨by rfl, ?_⟩
            intro W hW
            obtain ⟨h0, h1, h2, h3, h4, h5, h6, h7⟩ := hW
            go_simp
            try with_reducible rfl
          simp only [Act.put, List.setIfInBounds_toArray, List.set_cons_zero, List.set_cons_succ]
          refine wpAnyH_at 19 (v := ?vv153) rfl (by kernel_rfl) (by kernel_rfl) (by kernel_rfl) (fun _ _ _ h => h) ?hy153 HSv ?hh153
          case hy153 =>
            refine Or.inl ⟨by rfl, ?_⟩
            intro W hW
            obtain ⟨h0, h1, h2, h3, h4, h5, h6, h7⟩ := hW
            go_simp
            try with_reducible rfl
          simp only [Act.put, List.setIfInBounds_toArray, List.set_cons_zero, List.set_cons_succ]
          refine wpAnyH_at 21 (v := ?vv154) rfl (by kernel_rfl) (by kernel_rfl) (by kernel_rfl) (fun _ _ _ h => h) ?hy154 HSv ?hh154
          case hy154 =>
            refine Or.inl ⟨by rfl, ?_⟩
            intro W hW
            obtain ⟨h0, h1, h2, h3, h4, h5, h6, h7⟩ := hW
            go_simp
            try with_reducible rfl
          simp only [Act.put, List.setIfInBounds_toArray, List.set_cons_zero, List.set_cons_succ]
          refine wpAnyH_at 20 (v := ?vv155) rfl (by kernel_rfl) (by kernel_rfl) (by kernel_rfl) (fun _ _ _ h => h) ?hy155 HSv ?hh155
          case hy155 =>
            refine Or.inl ⟨by rfl, ?_⟩
            intro W hW
            obtain ⟨h0, h1, h2, h3, h4, h5, h6, h7⟩ := hW
            go_simp
            try with_reducible rfl
          simp only [Act.put, List.setIfInBounds_toArray, List.set_cons_zero, List.set_cons_succ]
          refine wpAnyH_at 22 (v := ?vv156) rfl (by kernel_rfl) (by kernel_rfl) (by kernel_rfl) (fun _ _ _ h => h) ?hy156 HSv ?hh156
          case hy156 =>
            refine Or.inl ⟨by rfl, ?_⟩
            intro W hW
            obtain ⟨h0, h1, h2, h3, h4, h5, h6, h7⟩ := hW
            go_simp
            try with_reducible rfl
          simp only [Act.put, List.setIfInBounds_toArray, List.set_cons_zero, List.set_cons_succ]
          refine wpAnyH_end 23 (fun j hj => rgH_end _ _ j (by omega)) (by rfl) (by kernel_rfl) ?_
          simp only [List.drop_succ_cons, List.drop_zero]
          clear HSv
          go_wp2_with fail
          go_ret2
          exact ⟨tb, okt, HG.out wE B HN.out.1 HN.out.2, HW.out.1, HW.out.2⟩
      · intro K hK
        rw [if_pos (by rfl)]
        try go_simp
        have bA : Below W2.heap.size W2 (W2.alloc (.cells #[.int .i64 3] 3 (0, 0))) := (Below.refl _ _).alloc (Nat.le_refl _) _
        have hz := at1 W2 (.cells #[.int .i64 3] 3 (0, 0))
        generalize hW3 : W2.alloc (.cells #[.int .i64 3] 3 (0, 0)) = W3 at bA hz ⊢
        obtain ⟨ib, hib⟩ : ∃ ib, ib = W2.heap.size := ⟨_, rfl⟩
        rw [← hib] at hz ⊢
        have HI := Lib.hid hz
        have HR := Lib.hid (HR.out.below bA)
        have HB := Lib.hid (HB.out.trans (bA.mono HB.out.size))
        have HSv : (fun Y : World => Y.cell? ⟨w.heap.size, 0, none⟩ = some (.int .i64 c.mru) ∧ Y.cell? ⟨w.heap.size, 1, none⟩ = some (.int .i64 c.auth) ∧ Y.cell? ⟨w.heap.size, 2, none⟩ = some (.int .i64 c.magic) ∧ Y.cell? ⟨w.heap.size, 3, none⟩ = some (.int .i64 c.echo) ∧ Y.cell? ⟨w.heap.size, 4, none⟩ = some (.int .i64 c.cf) ∧ Y.cell? ⟨w.heap.size, 5, none⟩ = some (.int .i64 c.tm) ∧ Y.cell? ⟨w.heap.size, 6, none⟩ = some (.int .i64 c.fl) ∧ Y.cell? ⟨w.heap.size, 7, none⟩ = some (.int .i64 c.wt)) W3 := HS.out _ HB.out
        refine hK _ _ (fun _ => HSv) ?_
        try simp only [Act.put, List.setIfInBounds_toArray, List.set_cons_zero, List.set_cons_succ]
        clear bA hz hW3 hib
        refine wpAnyH_1 2 rfl (by kernel_rfl) ?_
        intro K hK
        rw [if_pos (by rfl)]
        try go_simp
        go_at_call 35
        refine (units_any 1492 _).mono ?_
        rintro e W4 ⟨rfl, bA⟩
        have HR := Lib.hid (HR.out.below bA)
        have HB := Lib.hid (HB.out.trans (bA.mono HB.out.size))
        have HSv : (fun Y : World => Y.cell? ⟨w.heap.size, 0, none⟩ = some (.int .i64 c.mru) ∧ Y.cell? ⟨w.heap.size, 1, none⟩ = some (.int .i64 c.auth) ∧ Y.cell? ⟨w.heap.size, 2, none⟩ = some (.int .i64 c.magic) ∧ Y.cell? ⟨w.heap.size, 3, none⟩ = some (.int .i64 c.echo) ∧ Y.cell? ⟨w.heap.size, 4, none⟩ = some (.int .i64 c.cf) ∧ Y.cell? ⟨w.heap.size, 5, none⟩ = some (.int .i64 c.tm) ∧ Y.cell? ⟨w.heap.size, 6, none⟩ = some (.int .i64 c.fl) ∧ Y.cell? ⟨w.heap.size, 7, none⟩ = some (.int .i64 c.wt)) W4 := HS.out _ HB.out
        have HI := Lib.hid ((bA.block _ (Array.getElem?_eq_some_iff.1 HI.out).1).trans HI.out)
        refine hK _ _ (fun _ => HSv) ?_
        try simp only [Act.put, List.setIfInBounds_toArray, List.set_cons_zero, List.set_cons_succ]
        clear bA
        refine wpAnyH_1 3 rfl (by kernel_rfl) ?_
        intro K hK
        rw [if_pos (by rfl)]
        try go_simp
        go_at_call 36
        refine (magics_any _).mono ?_
        rintro e W5 ⟨rfl, bA⟩
        have HR := Lib.hid (HR.out.below bA)
        have HB := Lib.hid (HB.out.trans (bA.mono HB.out.size))
        have HSv : (fun Y : World => Y.cell? ⟨w.heap.size, 0, none⟩ = some (.int .i64 c.mru) ∧ Y.cell? ⟨w.heap.size, 1, none⟩ = some (.int .i64 c.auth) ∧ Y.cell? ⟨w.heap.size, 2, none⟩ = some (.int .i64 c.magic) ∧ Y.cell? ⟨w.heap.size, 3, none⟩ = some (.int .i64 c.echo) ∧ Y.cell? ⟨w.heap.size, 4, none⟩ = some (.int .i64 c.cf) ∧ Y.cell? ⟨w.heap.size, 5, none⟩ = some (.int .i64 c.tm) ∧ Y.cell? ⟨w.heap.size, 6, none⟩ = some (.int .i64 c.fl) ∧ Y.cell? ⟨w.heap.size, 7, none⟩ = some (.int .i64 c.wt)) W5 := HS.out _ HB.out
        have HI := Lib.hid ((bA.block _ (Array.getElem?_eq_some_iff.1 HI.out).1).trans HI.out)
        refine hK _ _ (fun _ => HSv) ?_
        try simp only [Act.put, List.setIfInBounds_toArray, List.set_cons_zero, List.set_cons_succ]
        clear bA
        refine wpAnyH_1 4 rfl (by kernel_rfl) ?_
        intro K hK
        rw [if_pos (by rfl)]
        try go_simp
        have bA : Below W5.heap.size W5 (W5.alloc (.cells #[.int .i64 1, .int .i64 2, .int .i64 64, .int .i64 1492, .string (be2 1492), .int .i64 5, .int .i64 4, .int .i64 1, .int .i64 4294967295, .string (be4 1)] 73 (0, 0))) := (Below.refl _ _).alloc (Nat.le_refl _) _
        have hz := at1 W5 (.cells #[.int .i64 1, .int .i64 2, .int .i64 64, .int .i64 1492, .string (be2 1492), .int .i64 5, .int .i64 4, .int .i64 1, .int .i64 4294967295, .string (be4 1)] 73 (0, 0))
        generalize hW6 : W5.alloc (.cells #[.int .i64 1, .int .i64 2, .int .i64 64, .int .i64 1492, .string (be2 1492), .int .i64 5, .int .i64 4, .int .i64 1, .int .i64 4294967295, .string (be4 1)] 73 (0, 0)) = W6 at bA hz ⊢
        obtain ⟨rb, hrb⟩ : ∃ rb, rb = W5.heap.size := ⟨_, rfl⟩
        rw [← hrb] at hz ⊢
        have HRu := Lib.hid hz
        have HR := Lib.hid (HR.out.below bA)
        have HB := Lib.hid (HB.out.trans (bA.mono HB.out.size))
        have HSv : (fun Y : World => Y.cell? ⟨w.heap.size, 0, none⟩ = some (.int .i64 c.mru) ∧ Y.cell? ⟨w.heap.size, 1, none⟩ = some (.int .i64 c.auth) ∧ Y.cell? ⟨w.heap.size, 2, none⟩ = some (.int .i64 c.magic) ∧ Y.cell? ⟨w.heap.size, 3, none⟩ = some (.int .i64 c.echo) ∧ Y.cell? ⟨w.heap.size, 4, none⟩ = some (.int .i64 c.cf) ∧ Y.cell? ⟨w.heap.size, 5, none⟩ = some (.int .i64 c.tm) ∧ Y.cell? ⟨w.heap.size, 6, none⟩ = some (.int .i64 c.fl) ∧ Y.cell? ⟨w.heap.size, 7, none⟩ = some (.int .i64 c.wt)) W6 := HS.out _ HB.out
        have HI := Lib.hid ((bA.block _ (Array.getElem?_eq_some_iff.1 HI.out).1).trans HI.out)
        refine hK _ _ (fun _ => HSv) ?_
        try simp only [Act.put, List.setIfInBounds_toArray, List.set_cons_zero, List.set_cons_succ]
        clear bA hz hW6 hrb
        refine wpAnyH_at 14 (v := ?vv157) rfl (by kernel_rfl) (by kernel_rfl) (by kernel_rfl) (fun _ _ _ h => h) ?hy157 HSv ?hh157
        case hy157 =>
          refine Or.inl ⟨by rfl, ?_⟩
          intro W hW
          obtain ⟨h0, h1, h2, h3, h4, h5, h6, h7⟩ := hW
          go_simp
          try with_reducible rfl
        simp only [Act.put, List.setIfInBounds_toArray, List.set_cons_zero, List.set_cons_succ]
        refine wpAnyH_1 17 rfl (by kernel_rfl) ?_
        intro K hK
        rw [if_pos (by rfl)]
        try go_simp
        go_at_call 34
        refine (HNN.out lb W1 W6 sA cA rb ib HB.out HR.out HRu.out HI.out).mono ?_
        rintro e wE ⟨B, rfl, nE, bE⟩
        have zl := (bE.block lb (Array.getElem?_eq_some_iff.1 HZ.out.2.1).1).trans HZ.out.2.1
        have f0 := fzOf zl 0
        have c0 : wE.cell? ⟨lb, 0, none⟩ = some (.pointer none) := cellOf zl 0 _ rfl
        have HN := Lib.hid (And.intro bE nE)
        have HSv : (fun Y : World => Y.cell? ⟨w.heap.size, 0, none⟩ = some (.int .i64 c.mru) ∧ Y.cell? ⟨w.heap.size, 1, none⟩ = some (.int .i64 c.auth) ∧ Y.cell? ⟨w.heap.size, 2, none⟩ = some (.int .i64 c.magic) ∧ Y.cell? ⟨w.heap.size, 3, none⟩ = some (.int .i64 c.echo) ∧ Y.cell? ⟨w.heap.size, 4, none⟩ = some (.int .i64 c.cf) ∧ Y.cell? ⟨w.heap.size, 5, none⟩ = some (.int .i64 c.tm) ∧ Y.cell? ⟨w.heap.size, 6, none⟩ = some (.int .i64 c.fl) ∧ Y.cell? ⟨w.heap.size, 7, none⟩ = some (.int .i64 c.wt)) wE := HS.out _ bE
        clear bE nE zl
        refine hK _ _ (fun _ => HSv) ?_
        try simp only [Act.put, List.setIfInBounds_toArray, List.set_cons_zero, List.set_cons_succ]
        refine wpAnyH_at 18 (v := ?vv158) rfl (by kernel_rfl) (by kernel_rfl) (by kernel_rfl) (fun _ _ _ h => h) ?hy158 HSv ?hh158
        case hy158 =>
          refine Or.inl ⟨by rfl, ?_⟩
          intro W hW
          obtain ⟨h0, h1, h2, h3, h4, h5, h6, h7⟩ := hW
          go_simp
          try with_reducible rfl
        simp only [Act.put, List.setIfInBounds_toArray, List.set_cons_zero, List.set_cons_succ]
        refine wpAnyH_at 19 (v := ?vv159) rfl (by kernel_rfl) (by kernel_rfl) (by kernel_rfl) (fun _ _ _ h => h) ?hy159 HSv ?hh159
        case hy159 =>
          refine Or.inl ⟨by rfl, ?_⟩
          intro W hW
          obtain ⟨h0, h1, h2, h3, h4, h5, h6, h7⟩ := hW
          go_simp
          try with_reducible rfl
        simp only [Act.put, List.setIfInBounds_toArray, List.set_cons_zero, List.set_cons_succ]
        refine wpAnyH_at 21 (v := ?vv160) rfl (by kernel_rfl) (by kernel_rfl) (by kernel_rfl) (fun _ _ _ h => h) ?hy160 HSv ?hh160
        case hy160 =>
          refine Or.inl ⟨by rfl, ?_⟩
          intro W hW
          obtain ⟨h0, h1, h2, h3, h4, h5, h6, h7⟩ := hW
          go_simp
          try with_reducible rfl
        simp only [Act.put, List.setIfInBounds_toArray, List.set_cons_zero, List.set_cons_succ]
        refine wpAnyH_at 20 (v := ?vv161) rfl (by kernel_rfl) (by kernel_rfl) (by kernel_rfl) (fun _ _ _ h => h) ?hy161 HSv ?hh161
        case hy161 =>
          refine Or.inl ⟨by rfl, ?_⟩
          intro W hW
          obtain ⟨h0, h1, h2, h3, h4, h5, h6, h7⟩ := hW
          go_simp
          try with_reducible rfl
        simp only [Act.put, List.setIfInBounds_toArray, List.set_cons_zero, List.set_cons_succ]
        refine wpAnyH_at 22 (v := ?vv162) rfl (by kernel_rfl) (by kernel_rfl) (by kernel_rfl) (fun _ _ _ h => h) ?hy162 HSv ?hh162
        case hy162 =>
          refine Or.inl ⟨by rfl, ?_⟩
          intro W hW
          obtain ⟨h0, h1, h2, h3, h4, h5, h6, h7⟩ := hW
          go_simp
          try with_reducible rfl
        simp only [Act.put, List.setIfInBounds_toArray, List.set_cons_zero, List.set_cons_succ]
        refine wpAnyH_end 23 (fun j hj => rgH_end _ _ j (by omega)) (by rfl) (by kernel_rfl) ?_
        simp only [List.drop_succ_cons, List.drop_zero]
        clear HSv
        go_wp2_with fail
        go_ret2
        exact ⟨tb, okt, HG.out wE B HN.out.1 HN.out.2, HW.out.1, HW.out.2⟩
    · intro K hK
      rw [if_pos (by rfl)]
      try go_simp
      have bA : Below W.heap.size W (W.alloc (.cells #[.int .i64 3] 3 (0, 0))) := (Below.refl _ _).alloc (Nat.le_refl _) _
      have hz := at1 W (.cells #[.int .i64 3] 3 (0, 0))
      generalize hW2 : W.alloc (.cells #[.int .i64 3] 3 (0, 0)) = W2 at bA hz ⊢
      obtain ⟨ib, hib⟩ : ∃ ib, ib = W.heap.size := ⟨_, rfl⟩
      rw [← hib] at hz ⊢
      have HI := Lib.hid hz
      have HB := Lib.hid (HB.out.trans (bA.mono HB.out.size))
      have HSv : (fun Y : World => Y.cell? ⟨w.heap.size, 0, none⟩ = some (.int .i64 c.mru) ∧ Y.cell? ⟨w.heap.size, 1, none⟩ = some (.int .i64 c.auth) ∧ Y.cell? ⟨w.heap.size, 2, none⟩ = some (.int .i64 c.magic) ∧ Y.cell? ⟨w.heap.size, 3, none⟩ = some (.int .i64 c.echo) ∧ Y.cell? ⟨w.heap.size, 4, none⟩ = some (.int .i64 c.cf) ∧ Y.cell? ⟨w.heap.size, 5, none⟩ = some (.int .i64 c.tm) ∧ Y.cell? ⟨w.heap.size, 6, none⟩ = some (.int .i64 c.fl) ∧ Y.cell? ⟨w.heap.size, 7, none⟩ = some (.int .i64 c.wt)) W2 := HS.out _ HB.out
      refine hK _ _ (fun _ => HSv) ?_
      try simp only [Act.put, List.setIfInBounds_toArray, List.set_cons_zero, List.set_cons_succ]
      clear bA hz hW2 hib
      refine wpAnyH_1 1 rfl (by kernel_rfl) ?_
      intro K hK
      rw [if_pos (by rfl)]
      try go_simp
      go_at_call 18
      refine (HLO.out _).mono ?_
      rintro e W3 ⟨vA, rfl, rA, bA⟩
      obtain ⟨sA, cA, rfl⟩ := rA.form
      have HR := Lib.hid (rA.base HB.out.size)
      have HB := Lib.hid (HB.out.trans (bA.mono HB.out.size))
      have HSv : (fun Y : World => Y.cell? ⟨w.heap.size, 0, none⟩ = some (.int .i64 c.mru) ∧ Y.cell? ⟨w.heap.size, 1, none⟩ = some (.int .i64 c.auth) ∧ Y.cell? ⟨w.heap.size, 2, none⟩ = some (.int .i64 c.magic) ∧ Y.cell? ⟨w.heap.size, 3, none⟩ = some (.int .i64 c.echo) ∧ Y.cell? ⟨w.heap.size, 4, none⟩ = some (.int .i64 c.cf) ∧ Y.cell? ⟨w.heap.size, 5, none⟩ = some (.int .i64 c.tm) ∧ Y.cell? ⟨w.heap.size, 6, none⟩ = some (.int .i64 c.fl) ∧ Y.cell? ⟨w.heap.size, 7, none⟩ = some (.int .i64 c.wt)) W3 := HS.out _ HB.out
      have HI := Lib.hid ((bA.block _ (Array.getElem?_eq_some_iff.1 HI.out).1).trans HI.out)
      refine hK _ _ (fun _ => HSv) ?_
      try simp only [Act.put, List.setIfInBounds_toArray, List.set_cons_zero, List.set_cons_succ]
      clear rA bA
      refine wpAnyH_1 2 rfl (by kernel_rfl) ?_
      intro K hK
      rw [if_pos (by rfl)]
      try go_simp
      go_at_call 35
      refine (units_any 1492 _).mono ?_
      rintro e W4 ⟨rfl, bA⟩
      have HR := Lib.hid (HR.out.below bA)
      have HB := Lib.hid (HB.out.trans (bA.mono HB.out.size))
      have HSv : (fun Y : World => Y.cell? ⟨w.heap.size, 0, none⟩ = some (.int .i64 c.mru) ∧ Y.cell? ⟨w.heap.size, 1, none⟩ = some (.int .i64 c.auth) ∧ Y.cell? ⟨w.heap.size, 2, none⟩ = some (.int .i64 c.magic) ∧ Y.cell? ⟨w.heap.size, 3, none⟩ = some (.int .i64 c.echo) ∧ Y.cell? ⟨w.heap.size, 4, none⟩ = some (.int .i64 c.cf) ∧ Y.cell? ⟨w.heap.size, 5, none⟩ = some (.int .i64 c.tm) ∧ Y.cell? ⟨w.heap.size, 6, none⟩ = some (.int .i64 c.fl) ∧ Y.cell? ⟨w.heap.size, 7, none⟩ = some (.int .i64 c.wt)) W4 := HS.out _ HB.out
      have HI := Lib.hid ((bA.block _ (Array.getElem?_eq_some_iff.1 HI.out).1).trans HI.out)
      refine hK _ _ (fun _ => HSv) ?_
      try simp only [Act.put, List.setIfInBounds_toArray, List.set_cons_zero, List.set_cons_succ]
      clear bA
      refine wpAnyH_1 3 rfl (by kernel_rfl) ?_
      intro K hK
      rw [if_pos (by rfl)]
      try go_simp
      go_at_call 36
      refine (magics_any _).mono ?_
      rintro e W5 ⟨rfl, bA⟩
      have HR := Lib.hid (HR.out.below bA)
      have HB := Lib.hid (HB.out.trans (bA.mono HB.out.size))
      have HSv : (fun Y : World => Y.cell? ⟨w.heap.size, 0, none⟩ = some (.int .i64 c.mru) ∧ Y.cell? ⟨w.heap.size, 1, none⟩ = some (.int .i64 c.auth) ∧ Y.cell? ⟨w.heap.size, 2, none⟩ = some (.int .i64 c.magic) ∧ Y.cell? ⟨w.heap.size, 3, none⟩ = some (.int .i64 c.echo) ∧ Y.cell? ⟨w.heap.size, 4, none⟩ = some (.int .i64 c.cf) ∧ Y.cell? ⟨w.heap.size, 5, none⟩ = some (.int .i64 c.tm) ∧ Y.cell? ⟨w.heap.size, 6, none⟩ = some (.int .i64 c.fl) ∧ Y.cell? ⟨w.heap.size, 7, none⟩ = some (.int .i64 c.wt)) W5 := HS.out _ HB.out
      have HI := Lib.hid ((bA.block _ (Array.getElem?_eq_some_iff.1 HI.out).1).trans HI.out)
      refine hK _ _ (fun _ => HSv) ?_
      try simp only [Act.put, List.setIfInBounds_toArray, List.set_cons_zero, List.set_cons_succ]
      clear bA
      refine wpAnyH_1 4 rfl (by kernel_rfl) ?_
      intro K hK
      rw [if_pos (by rfl)]
      try go_simp
      have bA : Below W5.heap.size W5 (W5.alloc (.cells #[.int .i64 1, .int .i64 2, .int .i64 64, .int .i64 1492, .string (be2 1492), .int .i64 5, .int .i64 4, .int .i64 1, .int .i64 4294967295, .string (be4 1)] 73 (0, 0))) := (Below.refl _ _).alloc (Nat.le_refl _) _
      have hz := at1 W5 (.cells #[.int .i64 1, .int .i64 2, .int .i64 64, .int .i64 1492, .string (be2 1492), .int .i64 5, .int .i64 4, .int .i64 1, .int .i64 4294967295, .string (be4 1)] 73 (0, 0))
      generalize hW6 : W5.alloc (.cells #[.int .i64 1, .int .i64 2, .int .i64 64, .int .i64 1492, .string (be2 1492), .int .i64 5, .int .i64 4, .int .i64 1, .int .i64 4294967295, .string (be4 1)] 73 (0, 0)) = W6 at bA hz ⊢
      obtain ⟨rb, hrb⟩ : ∃ rb, rb = W5.heap.size := ⟨_, rfl⟩
      rw [← hrb] at hz ⊢
      have HRu := Lib.hid hz
      have HR := Lib.hid (HR.out.below bA)
      have HB := Lib.hid (HB.out.trans (bA.mono HB.out.size))
      have HSv : (fun Y : World => Y.cell? ⟨w.heap.size, 0, none⟩ = some (.int .i64 c.mru) ∧ Y.cell? ⟨w.heap.size, 1, none⟩ = some (.int .i64 c.auth) ∧ Y.cell? ⟨w.heap.size, 2, none⟩ = some (.int .i64 c.magic) ∧ Y.cell? ⟨w.heap.size, 3, none⟩ = some (.int .i64 c.echo) ∧ Y.cell? ⟨w.heap.size, 4, none⟩ = some (.int .i64 c.cf) ∧ Y.cell? ⟨w.heap.size, 5, none⟩ = some (.int .i64 c.tm) ∧ Y.cell? ⟨w.heap.size, 6, none⟩ = some (.int .i64 c.fl) ∧ Y.cell? ⟨w.heap.size, 7, none⟩ = some (.int .i64 c.wt)) W6 := HS.out _ HB.out
      have HI := Lib.hid ((bA.block _ (Array.getElem?_eq_some_iff.1 HI.out).1).trans HI.out)
      refine hK _ _ (fun _ => HSv) ?_
      try simp only [Act.put, List.setIfInBounds_toArray, List.set_cons_zero, List.set_cons_succ]
      clear bA hz hW6 hrb
      refine wpAnyH_at 14 (v := ?vv163) rfl (by kernel_rfl) (by kernel_rfl) (by kernel_rfl) (fun _ _ _ h => h) ?hy163 HSv ?hh163
      case hy163 =>
        refine Or.inl ⟨by rfl, ?_⟩
        intro W hW
        obtain ⟨h0, h1, h2, h3, h4, h5, h6, h7⟩ := hW
        go_simp
        try with_reducible rfl
      simp only [Act.put, List.setIfInBounds_toArray, List.set_cons_zero, List.set_cons_succ]
      refine wpAnyH_1 17 rfl (by kernel_rfl) ?_
      intro K hK
      rw [if_pos (by rfl)]
      try go_simp
      go_at_call 34
      refine (HNN.out lb W1 W6 sA cA rb ib HB.out HR.out HRu.out HI.out).mono ?_
      rintro e wE ⟨B, rfl, nE, bE⟩
      have zl := (bE.block lb (Array.getElem?_eq_some_iff.1 HZ.out.2.1).1).trans HZ.out.2.1
      have f0 := fzOf zl 0
      have c0 : wE.cell? ⟨lb, 0, none⟩ = some (.pointer none) := cellOf zl 0 _ rfl
      have HN := Lib.hid (And.intro bE nE)
      have HSv : (fun Y : World => Y.cell? ⟨w.heap.size, 0, none⟩ = some (.int .i64 c.mru) ∧ Y.cell? ⟨w.heap.size, 1, none⟩ = some (.int .i64 c.auth) ∧ Y.cell? ⟨w.heap.size, 2, none⟩ = some (.int .i64 c.magic) ∧ Y.cell? ⟨w.heap.size, 3, none⟩ = some (.int .i64 c.echo) ∧ Y.cell? ⟨w.heap.size, 4, none⟩ = some (.int .i64 c.cf) ∧ Y.cell? ⟨w.heap.size, 5, none⟩ = some (.int .i64 c.tm) ∧ Y.cell? ⟨w.heap.size, 6, none⟩ = some (.int .i64 c.fl) ∧ Y.cell? ⟨w.heap.size, 7, none⟩ = some (.int .i64 c.wt)) wE := HS.out _ bE
      clear bE nE zl
      refine hK _ _ (fun _ => HSv) ?_
      try simp only [Act.put, List.setIfInBounds_toArray, List.set_cons_zero, List.set_cons_succ]
      refine wpAnyH_at 18 (v := ?vv164) rfl (by kernel_rfl) (by kernel_rfl) (by kernel_rfl) (fun _ _ _ h => h) ?hy164 HSv ?hh164
      case hy164 =>
        refine Or.inl ⟨by rfl, ?_⟩
        intro W hW
        obtain ⟨h0, h1, h2, h3, h4, h5, h6, h7⟩ := hW
        go_simp
        try with_reducible rfl
      simp only [Act.put, List.setIfInBounds_toArray, List.set_cons_zero, List.set_cons_succ]
      refine wpAnyH_at 19 (v := ?vv165) rfl (by kernel_rfl) (by kernel_rfl) (by kernel_rfl) (fun _ _ _ h => h) ?hy165 HSv ?hh165
      case hy165 =>
        refine Or.inl ⟨by rfl, ?_⟩
        intro W hW
        obtain ⟨h0, h1, h2, h3, h4, h5, h6, h7⟩ := hW
        go_simp
        try with_reducible rfl
      simp only [Act.put, List.setIfInBounds_toArray, List.set_cons_zero, List.set_cons_succ]
      refine wpAnyH_at 21 (v := ?vv166) rfl (by kernel_rfl) (by kernel_rfl) (by kernel_rfl) (fun _ _ _ h => h) ?hy166 HSv ?hh166
      case hy166 =>
        refine Or.inl ⟨by rfl, ?_⟩
        intro W hW
        obtain ⟨h0, h1, h2, h3, h4, h5, h6, h7⟩ := hW
        go_simp
        try with_reducible rfl
      simp only [Act.put, List.setIfInBounds_toArray, List.set_cons_zero, List.set_cons_succ]
      refine wpAnyH_at 20 (v := ?vv167) rfl (by kernel_rfl) (by kernel_rfl) (by kernel_rfl) (fun _ _ _ h => h) ?hy167 HSv ?hh167
      case hy167 =>
        refine Or.inl ⟨by rfl, ?_⟩
        intro W hW
        obtain ⟨h0, h1, h2, h3, h4, h5, h6, h7⟩ := hW
        go_simp
        try with_reducible rfl
      simp only [Act.put, List.setIfInBounds_toArray, List.set_cons_zero, List.set_cons_succ]
      refine wpAnyH_at 22 (v := ?vv168) rfl (by kernel_rfl) (by kernel_rfl) (by kernel_rfl) (fun _ _ _ h => h) ?hy168 HSv ?hh168
      case hy168 =>
        refine Or.inl ⟨by rfl, ?_⟩
        intro W hW
        obtain ⟨h0, h1, h2, h3, h4, h5, h6, h7⟩ := hW
        go_simp
        try with_reducible rfl
      simp only [Act.put, List.setIfInBounds_toArray, List.set_cons_zero, List.set_cons_succ]
      refine wpAnyH_end 23 (fun j hj => rgH_end _ _ j (by omega)) (by rfl) (by kernel_rfl) ?_
      simp only [List.drop_succ_cons, List.drop_zero]
      clear HSv
      go_wp2_with fail
      go_ret2
      exact ⟨tb, okt, HG.out wE B HN.out.1 HN.out.2, HW.out.1, HW.out.2⟩
end Go.Proofs.YthhdackaopaojaaGreat
