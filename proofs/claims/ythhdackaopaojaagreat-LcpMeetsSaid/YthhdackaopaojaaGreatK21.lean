import Derived.Test.YthhdackaopaojaaGreatK20
import Derived.Test.YthhdackaopaojaaGreatK11
/- A link is made. -/
namespace Go.Proofs.YthhdackaopaojaaGreat
open Go.RowKit Go.Tg Go.Maps

def lC (c : LCfg) (lb : Nat) : NegC := ⟨[unitR 1492, magicR], [], [3], c.cf, c.tm, c.fl, c.wt, judgeV lb⟩
def lst0 (c : LCfg) (t : TpS) : LSt := ⟨st0 (optsS c), c.magic, 0, 0, 0, t⟩
def NewL (w w' : World) (e : Ending) (c : LCfg) (tb : Nat) (okt : Nat → Prop) (t : TpS) : Prop :=
  ∃ L S X, e = .returned (.tuple #[.pointer (some ⟨L.lb, 0, none⟩), .int .i64 0]) ∧ L.tb = tb ∧ LcpAt w' S okt L (lC c L.lb) c.echo (lst0 c t) X ∧ (∀ b, S b → w.heap.size ≤ b) ∧ w.heap.size ≤ L.lb ∧ Below w.heap.size w w'

def cfgO (c : LCfg) : Obj := .cells #[.int .i64 c.mru, .int .i64 c.auth, .int .i64 c.magic, .int .i64 c.echo, .int .i64 c.cf, .int .i64 c.tm, .int .i64 c.fl, .int .i64 c.wt] 24 (0, 0)

theorem lnew_end {c : LCfg} {w W1 wE : World} {lb tb : Nat} {okt : Nat → Prop} {t : TpS} {B : NegB} (hw1 : Below w.heap.size w W1) (hl : W1.heap[lb]? = some (.cells #[.pointer none, .pointer (some ⟨tb, 0, none⟩), .int .i64 c.echo, .int .i64 c.magic, .int .i64 0, .int .i64 0, .int .i64 0] 64 (0, 0))) (ht : TapeAt W1 tb okt t) (ho : ∀ b, okt b → b < W1.heap.size ∧ b ≠ lb) (hne : lb ≠ tb)
    (hlb : w.heap.size ≤ lb) (bE : Below W1.heap.size W1 wE) (nE : NegV wE (fun b => W1.heap.size ≤ b) B (lC c lb) (st0 (optsS c))) :
    NewL w (wE.setCell ⟨lb, 0, none⟩ (.pointer (some ⟨B.nb, 0, none⟩))) (.returned (.tuple #[.pointer (some ⟨lb, 0, none⟩), .int .i64 0])) c tb okt t := by
  obtain ⟨X, nE⟩ := nE
  have hlt := (Array.getElem?_eq_some_iff.1 hl).1
  have hk := (Keep.refl (fun b => b = lb) wE).setCell ⟨lb, 0, none⟩ (Or.inr rfl) (.pointer (some ⟨B.nb, 0, none⟩))
  refine ⟨⟨lb, tb, B⟩, fun b => W1.heap.size ≤ b, X, rfl, rfl, ?_, fun b hb => Nat.le_trans hw1.size hb, hlb, (hw1.trans (bE.mono hw1.size)).trans (hk.below (Nat.le_trans hw1.size bE.size) (fun k hk he => by omega))⟩
  exact { blk := by have h := set_block ((bE.block lb hlt).trans hl) 0 (.pointer (some ⟨B.nb, 0, none⟩)); simpa [lcpCells, lst0] using h
          neg := nE.keep hk (fun b _ hb he => by have hb : W1.heap.size ≤ b := hb; omega)
          tape := (ht.below bE).keep hk (fun he => hne he.symm) (fun b _ hb he => (ho b hb).2 he)
          ne := hne
          n1 := fun hb => by have hb : W1.heap.size ≤ lb := hb; omega
          n2 := fun hb => by have hb : W1.heap.size ≤ tb := hb; have := ht.lt; omega
          n3 := fun b hb => ⟨fun h => by have h : W1.heap.size ≤ b := h; have := (ho b hb).1; omega, (ho b hb).2, Nat.lt_of_lt_of_le (ho b hb).1 (Nat.le_trans bE.size hk.size)⟩
          jd := rfl }

theorem lnew_neg (c : LCfg) (hc : c.Ok) (lb : Nat) (W1 WN : World) (sa : Option Addr) (ca rb ib : Nat) (h1 : Below W1.heap.size W1 WN) (h2 : ORow WN W1.heap.size (.slice sa (optsS c).length ca) (optsS c)) (h3 : WN.heap[rb]? = some (.cells #[.int .i64 1, .int .i64 2, .int .i64 64, .int .i64 1492, .string (be2 1492), .int .i64 5, .int .i64 4, .int .i64 1, .int .i64 4294967295, .string (be4 1)] 73 (0, 0))) (h4 : WN.heap[ib]? = some (.cells #[.int .i64 3] 3 (0, 0))) :
    Calls Tryz.prog 34 #[.agg #[.slice sa (optsS c).length ca, .slice (some ⟨rb, 0, none⟩) 2 2, .slice none 0 0, .slice (some ⟨ib, 0, none⟩) 1 1, .int .i64 c.cf, .int .i64 c.tm, .int .i64 c.fl, .int .i64 c.wt], .func (.func 37) #[.pointer (some ⟨lb, 0, none⟩)] #[]] WN fun e w' => ∃ B, e = .returned (.tuple #[.pointer (some ⟨B.nb, 0, none⟩), .int .i64 0]) ∧ NegV w' (fun b => W1.heap.size ≤ b) B (lC c lb) (st0 (optsS c)) ∧ Below W1.heap.size W1 w' := by
  obtain ⟨o1, o2, o3, o4⟩ := optsS_ok c hc.auth
  have hr : RRow WN 0 (.slice (some ⟨rb, 0, none⟩) 2 2) [unitR 1492, magicR] := ⟨rfl, Or.inr ⟨rb, 2, _, rfl, Nat.zero_le _, h3, Nat.le_refl _, by unfold maxLen; omega, rfl, rfl⟩⟩
  have hi : NRow WN 0 (.slice (some ⟨ib, 0, none⟩) 1 1) [3] := ⟨rfl, Or.inr ⟨ib, 1, _, rfl, Nat.zero_le _, h4, Nat.le_refl _, by unfold maxLen; omega, rfl, rfl⟩⟩
  refine (newByJ 37 (.pointer (some ⟨lb, 0, none⟩)) (optsS c) [unitR 1492, magicR] [] [3] _ _ _ _ (fun b => 0 ≤ b) c.cf c.tm c.fl c.wt WN (Rec.mono (h2.opts (by unfold maxLen; omega)) (fun b _ => Nat.zero_le _)) (hr.rls (by unfold maxLen; decide)) (Rec.nil _ _ _) (hi.nums (by unfold maxLen; decide))
    (fun n c h => by cases h) (fun n c h => by cases h; rfl) (by decide) (by decide) (by decide) hc.cf hc.tm hc.fl.1 hc.fl.2 hc.wt.1 hc.wt.2 (fun o ho => Nat.le_trans (o1 o ho) (by decide)) o2 o3 (by decide) (by decide)).mono ?_
  rintro e w' ⟨v, rfl, B, rfl, q1, q2⟩
  exact ⟨B, rfl, q1.mono (fun b hb => Nat.le_trans h1.size hb), h1.trans (q2.mono h1.size)⟩

set_option maxHeartbeats 16000000 in
set_option maxRecDepth 100000 in
theorem lnew_tape (c : LCfg) (hc : c.Ok) (tb : Nat) (okt : Nat → Prop) (t : TpS) (w : World) (ht : TapeAt w tb okt t) (ho : ∀ b, okt b → b < w.heap.size) :
    Calls Tryz.prog 12 #[cfgV c, .pointer (some ⟨tb, 0, none⟩)] w fun e w' => NewL w w' e c tb okt t := by
  have q1 : ∀ w a, (binOp .eql 31 (.pointer (some a)) (.pointer none)).run Tryz.prog w = .ok (.bool false) w := fun w a => by kernel_rfl
  have L1 : ∀ w, Calls Tryz.prog 32 #[.int .i64 c.mru, .int .i64 64, .int .i64 1492] w fun e w' => e = .returned (.bool true) ∧ w = w' := fun w => (lin_any c.mru 64 1492 w).mono (fun e w' h => by have := hc.mru; refine ⟨by rw [h.1]; simp [this.1, this.2], h.2⟩)
  have L2 : ∀ w, Calls Tryz.prog 32 #[.int .i64 c.magic, .int .i64 0, .int .i64 4294967295] w fun e w' => e = .returned (.bool true) ∧ w = w' := fun w => (lin_any c.magic 0 4294967295 w).mono (fun e w' h => by have := hc.magic; refine ⟨by rw [h.1]; simp [this.1, this.2], h.2⟩)
  have L3 : ∀ w, Calls Tryz.prog 32 #[.int .i64 c.echo, .int .i64 0, .int .i64 100] w fun e w' => e = .returned (.bool true) ∧ w = w' := fun w => (lin_any c.echo 0 100 w).mono (fun e w' h => by have := hc.echo; refine ⟨by rw [h.1]; simp [this.1, this.2], h.2⟩)
  have HL := Lib.hid (And.intro L1 (And.intro L2 L3))
  have H := Lib.hid (And.intro hc (And.intro ht ho))
  have hia : I64 c.auth := by rcases hc.auth with h | h | h <;> rw [h] <;> (unfold I64; decide)
  have HV := Lib.hid (fun w => lvalue_any c.auth w hia)
  have hva : c.auth ≠ 0 → (lvalS c.auth).toList.isEmpty = false := by
    intro h0
    rcases hc.auth with h | h | h
    · exact absurd h h0
    · rw [h, isE]; decide
    · rw [h, isE]; decide
  have hb0 := (Below.refl w.heap.size w).alloc (Nat.le_refl _) (cfgO c)
  have HB0 := Lib.hid (And.intro hb0 (And.intro (at1 w (cfgO c)) (alloc1 w (cfgO c))))
  have HIA := Lib.hid hia
  have HNN := Lib.hid (fun lb W1 WN sa ca rb ib h1 h2 h3 h4 => lnew_neg c hc lb W1 WN sa ca rb ib h1 h2 h3 h4)
  unfold cfgV
  clear L1 L2 L3 hc ht ho hia
  by_cases h0 : c.auth = 0
  · skip
    clear hva
    have hz := HB0.out.2.1
    unfold cfgO at hz
    have ea : (c.auth != 0) = false := by simp [h0]
    have HZ := Lib.hid (And.intro HB0.out.1 HB0.out.2.1)
    clear h0 hz
    go_enter Tryz.func12, Tryz.ntmps12
    go_wp2_with (go_at_call 32; first | with_reducible refine (HL.out.1 _).mono ?_ | with_reducible refine (HL.out.2.1 _).mono ?_ | with_reducible refine (HL.out.2.2 _).mono ?_
                 rintro e w1 ⟨rfl, rfl⟩)
    have hwv : w.alloc (.cells #[.int .i64 c.mru, .int .i64 c.auth, .int .i64 c.magic, .int .i64 c.echo, .int .i64 c.cf, .int .i64 c.tm, .int .i64 c.fl, .int .i64 c.wt] 24 (0, 0)) = w.alloc (cfgO c) := rfl
    try rw [hwv]
    generalize w.alloc (cfgO c) = wv at *
    clear hwv
    rw [show w.heap.size + 1 = wv.heap.size from HB0.out.2.2.symm]
    have hz1 : (wv.alloc (.cells #[.pointer none, .pointer (some ⟨tb, 0, none⟩), .int .i64 c.echo, .int .i64 c.magic, .int .i64 0, .int .i64 0, .int .i64 0] 64 (0, 0))).heap[w.heap.size]? = some (cfgO c) := (Below.heap_alloc _ _ _ (Array.getElem?_eq_some_iff.1 HZ.out.2).1).trans HZ.out.2
    have hl1 := at1 wv (.cells #[.pointer none, .pointer (some ⟨tb, 0, none⟩), .int .i64 c.echo, .int .i64 c.magic, .int .i64 0, .int .i64 0, .int .i64 0] 64 (0, 0))
    have hw1 : Below w.heap.size w (wv.alloc (.cells #[.pointer none, .pointer (some ⟨tb, 0, none⟩), .int .i64 c.echo, .int .i64 c.magic, .int .i64 0, .int .i64 0, .int .i64 0] 64 (0, 0))) := HZ.out.1.alloc HZ.out.1.size _
    have hs1 := alloc1 wv (.cells #[.pointer none, .pointer (some ⟨tb, 0, none⟩), .int .i64 c.echo, .int .i64 c.magic, .int .i64 0, .int .i64 0, .int .i64 0] 64 (0, 0))
    have hlb : w.heap.size < wv.heap.size := (Array.getElem?_eq_some_iff.1 HZ.out.2).1
    obtain ⟨lb, hlbe⟩ : ∃ lb, lb = wv.heap.size := ⟨_, rfl⟩
    generalize hW1 : wv.alloc (.cells #[.pointer none, .pointer (some ⟨tb, 0, none⟩), .int .i64 c.echo, .int .i64 c.magic, .int .i64 0, .int .i64 0, .int .i64 0] 64 (0, 0)) = W1 at hz1 hl1 hw1 hs1 ⊢
    rw [← hlbe] at hl1 hs1 hlb ⊢
    clear hW1 hlbe HZ
    have HZ := Lib.hid (And.intro hz1 (And.intro hl1 (And.intro hw1 (And.intro hs1 hlb))))
    have HS : Hid (∀ W, Below W1.heap.size W1 W → (fun Y : World => Y.cell? ⟨w.heap.size, 0, none⟩ = some (.int .i64 c.mru) ∧ Y.cell? ⟨w.heap.size, 1, none⟩ = some (.int .i64 c.auth) ∧ Y.cell? ⟨w.heap.size, 2, none⟩ = some (.int .i64 c.magic) ∧ Y.cell? ⟨w.heap.size, 3, none⟩ = some (.int .i64 c.echo) ∧ Y.cell? ⟨w.heap.size, 4, none⟩ = some (.int .i64 c.cf) ∧ Y.cell? ⟨w.heap.size, 5, none⟩ = some (.int .i64 c.tm) ∧ Y.cell? ⟨w.heap.size, 6, none⟩ = some (.int .i64 c.fl) ∧ Y.cell? ⟨w.heap.size, 7, none⟩ = some (.int .i64 c.wt)) W) := Lib.hid fun W hW => by
      have h : W.heap[w.heap.size]? = some (.cells #[.int .i64 c.mru, .int .i64 c.auth, .int .i64 c.magic, .int .i64 c.echo, .int .i64 c.cf, .int .i64 c.tm, .int .i64 c.fl, .int .i64 c.wt] 24 (0, 0)) := (hW.block _ (by have := HZ.out.2.2.2.1; have := HZ.out.2.2.2.2; omega)).trans HZ.out.1
      exact ⟨cellOf h 0 _ rfl, cellOf h 1 _ rfl, cellOf h 2 _ rfl, cellOf h 3 _ rfl, cellOf h 4 _ rfl, cellOf h 5 _ rfl, cellOf h 6 _ rfl, cellOf h 7 _ rfl⟩
    have HLO := Lib.hid (fun W => lopts_any c W HIA.out)
    unfold cfgV at HLO
    have a1 : ∀ (W : World) (O : Obj), W.heap.size < (W.alloc O).heap.size := fun W O => by rw [alloc1]; omega
    have HA1 := Lib.hid a1
    have HG := Lib.hid (fun wE B bE nE => lnew_end (c := c) (w := w) (W1 := W1) (wE := wE) (lb := lb) (tb := tb) (okt := okt) (t := t) (B := B) hw1 hl1 (by have := H.out.2.1; exact TapeAt.keep this (Keep.of_below (fun _ => False) hw1) (fun h => h) (fun _ _ _ h => h)) (fun b hb => ⟨Nat.lt_of_lt_of_le (H.out.2.2 b hb) hw1.size, by have := H.out.2.2 b hb; omega⟩) (by have := H.out.2.1.lt; omega) (by omega) bE nE)
    obtain ⟨y0, y1, y2, y3, y4, y5, y6, y7⟩ := HS.out W1.drew (Below.refl _ _).drew
    clear hz1 hl1 hw1 hs1 hlb a1
    refine wp_region_H (rgH 0 23) (fun Y : World => Y.cell? ⟨w.heap.size, 0, none⟩ = some (.int .i64 c.mru) ∧ Y.cell? ⟨w.heap.size, 1, none⟩ = some (.int .i64 c.auth) ∧ Y.cell? ⟨w.heap.size, 2, none⟩ = some (.int .i64 c.magic) ∧ Y.cell? ⟨w.heap.size, 3, none⟩ = some (.int .i64 c.echo) ∧ Y.cell? ⟨w.heap.size, 4, none⟩ = some (.int .i64 c.cf) ∧ Y.cell? ⟨w.heap.size, 5, none⟩ = some (.int .i64 c.tm) ∧ Y.cell? ⟨w.heap.size, 6, none⟩ = some (.int .i64 c.fl) ∧ Y.cell? ⟨w.heap.size, 7, none⟩ = some (.int .i64 c.wt)) (by kernel_rfl) ?_
    have HSv : (fun Y : World => Y.cell? ⟨w.heap.size, 0, none⟩ = some (.int .i64 c.mru) ∧ Y.cell? ⟨w.heap.size, 1, none⟩ = some (.int .i64 c.auth) ∧ Y.cell? ⟨w.heap.size, 2, none⟩ = some (.int .i64 c.magic) ∧ Y.cell? ⟨w.heap.size, 3, none⟩ = some (.int .i64 c.echo) ∧ Y.cell? ⟨w.heap.size, 4, none⟩ = some (.int .i64 c.cf) ∧ Y.cell? ⟨w.heap.size, 5, none⟩ = some (.int .i64 c.tm) ∧ Y.cell? ⟨w.heap.size, 6, none⟩ = some (.int .i64 c.fl) ∧ Y.cell? ⟨w.heap.size, 7, none⟩ = some (.int .i64 c.wt)) W1.drew := HS.out _ (Below.refl _ _).drew
    have HB := Lib.hid (show Below W1.heap.size W1 W1.drew from (Below.refl _ _).drew)
    refine wpAnyH_at 0 (v := ?vv238) rfl (by kernel_rfl) (by kernel_rfl) (by kernel_rfl) (fun _ _ _ h => h) ?hy238 HSv ?hh238
    case hy238 =>
      refine Or.inl ⟨by rfl, ?_⟩
      intro W hW
      obtain ⟨h0, h1, h2, h3, h4, h5, h6, h7⟩ := hW
      go_simp
      try with_reducible rfl
    simp only [Act.put, List.setIfInBounds_toArray, List.set_cons_zero, List.set_cons_succ]
    refine wpAnyH_at 6 (v := ?vv239) rfl (by kernel_rfl) (by kernel_rfl) (by kernel_rfl) (fun _ _ _ h => h) ?hy239 HSv ?hh239
    case hy239 =>
      refine Or.inl ⟨by rfl, ?_⟩
      intro W hW
      obtain ⟨h0, h1, h2, h3, h4, h5, h6, h7⟩ := hW
      go_simp
      try with_reducible rfl
    simp only [Act.put, List.setIfInBounds_toArray, List.set_cons_zero, List.set_cons_succ]
    refine wpAnyH_at 7 (v := ?vv240) rfl (by kernel_rfl) (by kernel_rfl) (by kernel_rfl) (fun _ _ _ h => h) ?hy240 HSv ?hh240
    case hy240 =>
      refine Or.inl ⟨by rfl, ?_⟩
      intro W hW
      obtain ⟨h0, h1, h2, h3, h4, h5, h6, h7⟩ := hW
      go_simp
      try with_reducible rfl
    simp only [Act.put, List.setIfInBounds_toArray, List.set_cons_zero, List.set_cons_succ]
    refine wpAnyH_at 8 (v := ?vv241) rfl (by kernel_rfl) (by kernel_rfl) (by kernel_rfl) (fun _ _ _ h => h) ?hy241 HSv ?hh241
    case hy241 =>
      refine Or.inl ⟨by rfl, ?_⟩
      intro W hW
      obtain ⟨h0, h1, h2, h3, h4, h5, h6, h7⟩ := hW
      go_simp
      try with_reducible rfl
    simp only [Act.put, List.setIfInBounds_toArray, List.set_cons_zero, List.set_cons_succ]
    refine wpAnyH_at 9 (v := ?vv242) rfl (by kernel_rfl) (by kernel_rfl) (by kernel_rfl) (fun _ _ _ h => h) ?hy242 HSv ?hh242
    case hy242 =>
      refine Or.inl ⟨by rfl, ?_⟩
      intro W hW
      obtain ⟨h0, h1, h2, h3, h4, h5, h6, h7⟩ := hW
      go_simp
      try with_reducible rfl
    simp only [Act.put, List.setIfInBounds_toArray, List.set_cons_zero, List.set_cons_succ]
    refine wpAnyH_at 10 (v := ?vv243) rfl (by kernel_rfl) (by kernel_rfl) (by kernel_rfl) (fun _ _ _ h => h) ?hy243 HSv ?hh243
    case hy243 =>
      refine Or.inl ⟨by rfl, ?_⟩
      intro W hW
      obtain ⟨h0, h1, h2, h3, h4, h5, h6, h7⟩ := hW
      go_simp
      try with_reducible rfl
    simp only [Act.put, List.setIfInBounds_toArray, List.set_cons_zero, List.set_cons_succ]
    refine wpAnyH_at 11 (v := ?vv244) rfl (by kernel_rfl) (by kernel_rfl) (by kernel_rfl) (fun _ _ _ h => h) ?hy244 HSv ?hh244
    case hy244 =>
      refine Or.inl ⟨by rfl, ?_⟩
      intro W hW
      obtain ⟨h0, h1, h2, h3, h4, h5, h6, h7⟩ := hW
      go_simp
      try with_reducible rfl
    simp only [Act.put, List.setIfInBounds_toArray, List.set_cons_zero, List.set_cons_succ]
    refine wpAnyH_at 12 (v := ?vv245) rfl (by kernel_rfl) (by kernel_rfl) (by kernel_rfl) (fun _ _ _ h => h) ?hy245 HSv ?hh245
    case hy245 =>
      refine Or.inl ⟨by rfl, ?_⟩
      intro W hW
      obtain ⟨h0, h1, h2, h3, h4, h5, h6, h7⟩ := hW
      go_simp
      try with_reducible rfl
    simp only [Act.put, List.setIfInBounds_toArray, List.set_cons_zero, List.set_cons_succ]
    refine wpAnyH_at 13 (v := ?vv246) rfl (by kernel_rfl) (by kernel_rfl) (by kernel_rfl) (fun _ _ _ h => h) ?hy246 HSv ?hh246
    case hy246 =>
      refine Or.inl ⟨by rfl, ?_⟩
      intro W hW
      obtain ⟨h0, h1, h2, h3, h4, h5, h6, h7⟩ := hW
      go_simp
      try with_reducible rfl
    simp only [Act.put, List.setIfInBounds_toArray, List.set_cons_zero, List.set_cons_succ]
    refine wpAnyH_at 15 (v := ?vv247) rfl (by kernel_rfl) (by kernel_rfl) (by kernel_rfl) (fun _ _ _ h => h) ?hy247 HSv ?hh247
    case hy247 =>
      refine Or.inl ⟨by rfl, ?_⟩
      intro W hW
      obtain ⟨h0, h1, h2, h3, h4, h5, h6, h7⟩ := hW
      go_simp
      try with_reducible rfl
    simp only [Act.put, List.setIfInBounds_toArray, List.set_cons_zero, List.set_cons_succ]
    refine wpAnyH_at 16 (v := ?vv248) rfl (by kernel_rfl) (by kernel_rfl) (by kernel_rfl) (fun _ _ _ h => h) ?hy248 HSv ?hh248
    case hy248 =>
      refine Or.inl ⟨by rfl, ?_⟩
      intro W hW
      obtain ⟨h0, h1, h2, h3, h4, h5, h6, h7⟩ := hW
      go_simp
      try with_reducible rfl
    simp only [Act.put, List.setIfInBounds_toArray, List.set_cons_zero, List.set_cons_succ]
    generalize W1.drew = W at HSv HB ⊢
    refine wpAnyH_2 1 5 rfl rfl (by kernel_rfl) ?_ ?_
    · intro K hK
      rw [if_pos (by rfl)]
      try go_simp
      go_at_call 18
      refine (HLO.out _).mono ?_
      rintro e W2 ⟨vA, rfl, rA, bA⟩
      obtain ⟨sA, cA, rfl⟩ := rA.form
      have HR := Lib.hid (rA.base HB.out.size)
      have HB := Lib.hid (HB.out.trans (bA.mono HB.out.size))
      have HSv : (fun Y : World => Y.cell? ⟨w.heap.size, 0, none⟩ = some (.int .i64 c.mru) ∧ Y.cell? ⟨w.heap.size, 1, none⟩ = some (.int .i64 c.auth) ∧ Y.cell? ⟨w.heap.size, 2, none⟩ = some (.int .i64 c.magic) ∧ Y.cell? ⟨w.heap.size, 3, none⟩ = some (.int .i64 c.echo) ∧ Y.cell? ⟨w.heap.size, 4, none⟩ = some (.int .i64 c.cf) ∧ Y.cell? ⟨w.heap.size, 5, none⟩ = some (.int .i64 c.tm) ∧ Y.cell? ⟨w.heap.size, 6, none⟩ = some (.int .i64 c.fl) ∧ Y.cell? ⟨w.heap.size, 7, none⟩ = some (.int .i64 c.wt)) W2 := HS.out _ HB.out
      refine hK _ _ (fun _ => HSv) ?_
      try simp only [Act.put, List.setIfInBounds_toArray, List.set_cons_zero, List.set_cons_succ]
      clear rA bA
      refine wpAnyH_2 2 5 rfl rfl (by kernel_rfl) ?_ ?_
      · intro K hK
        rw [if_pos (by rfl)]
        try go_simp
        go_at_call 35
        refine (units_any 1492 _).mono ?_
        rintro e W3 ⟨rfl, bA⟩
        have HR := Lib.hid (HR.out.below bA)
        have HB := Lib.hid (HB.out.trans (bA.mono HB.out.size))
        have HSv : (fun Y : World => Y.cell? ⟨w.heap.size, 0, none⟩ = some (.int .i64 c.mru) ∧ Y.cell? ⟨w.heap.size, 1, none⟩ = some (.int .i64 c.auth) ∧ Y.cell? ⟨w.heap.size, 2, none⟩ = some (.int .i64 c.magic) ∧ Y.cell? ⟨w.heap.size, 3, none⟩ = some (.int .i64 c.echo) ∧ Y.cell? ⟨w.heap.size, 4, none⟩ = some (.int .i64 c.cf) ∧ Y.cell? ⟨w.heap.size, 5, none⟩ = some (.int .i64 c.tm) ∧ Y.cell? ⟨w.heap.size, 6, none⟩ = some (.int .i64 c.fl) ∧ Y.cell? ⟨w.heap.size, 7, none⟩ = some (.int .i64 c.wt)) W3 := HS.out _ HB.out
        refine hK _ _ (fun _ => HSv) ?_
        try simp only [Act.put, List.setIfInBounds_toArray, List.set_cons_zero, List.set_cons_succ]
        clear bA
        refine wpAnyH_2 3 5 rfl rfl (by kernel_rfl) ?_ ?_
        · intro K hK
          rw [if_pos (by rfl)]
          try go_simp
          go_at_call 36
          refine (magics_any _).mono ?_
          rintro e W4 ⟨rfl, bA⟩
          have HR := Lib.hid (HR.out.below bA)
          have HB := Lib.hid (HB.out.trans (bA.mono HB.out.size))
          have HSv : (fun Y : World => Y.cell? ⟨w.heap.size, 0, none⟩ = some (.int .i64 c.mru) ∧ Y.cell? ⟨w.heap.size, 1, none⟩ = some (.int .i64 c.auth) ∧ Y.cell? ⟨w.heap.size, 2, none⟩ = some (.int .i64 c.magic) ∧ Y.cell? ⟨w.heap.size, 3, none⟩ = some (.int .i64 c.echo) ∧ Y.cell? ⟨w.heap.size, 4, none⟩ = some (.int .i64 c.cf) ∧ Y.cell? ⟨w.heap.size, 5, none⟩ = some (.int .i64 c.tm) ∧ Y.cell? ⟨w.heap.size, 6, none⟩ = some (.int .i64 c.fl) ∧ Y.cell? ⟨w.heap.size, 7, none⟩ = some (.int .i64 c.wt)) W4 := HS.out _ HB.out
          refine hK _ _ (fun _ => HSv) ?_
          try simp only [Act.put, List.setIfInBounds_toArray, List.set_cons_zero, List.set_cons_succ]
          clear bA
          refine wpAnyH_2 4 5 rfl rfl (by kernel_rfl) ?_ ?_
          · intro K hK
            rw [if_pos (by rfl)]
            try go_simp
            have bA : Below W4.heap.size W4 (W4.alloc (.cells #[.int .i64 1, .int .i64 2, .int .i64 64, .int .i64 1492, .string (be2 1492), .int .i64 5, .int .i64 4, .int .i64 1, .int .i64 4294967295, .string (be4 1)] 73 (0, 0))) := (Below.refl _ _).alloc (Nat.le_refl _) _
            have hz := at1 W4 (.cells #[.int .i64 1, .int .i64 2, .int .i64 64, .int .i64 1492, .string (be2 1492), .int .i64 5, .int .i64 4, .int .i64 1, .int .i64 4294967295, .string (be4 1)] 73 (0, 0))
            generalize hW5 : W4.alloc (.cells #[.int .i64 1, .int .i64 2, .int .i64 64, .int .i64 1492, .string (be2 1492), .int .i64 5, .int .i64 4, .int .i64 1, .int .i64 4294967295, .string (be4 1)] 73 (0, 0)) = W5 at bA hz ⊢
            obtain ⟨rb, hrb⟩ : ∃ rb, rb = W4.heap.size := ⟨_, rfl⟩
            rw [← hrb] at hz ⊢
            have HRu := Lib.hid hz
            have HR := Lib.hid (HR.out.below bA)
            have HB := Lib.hid (HB.out.trans (bA.mono HB.out.size))
            have HSv : (fun Y : World => Y.cell? ⟨w.heap.size, 0, none⟩ = some (.int .i64 c.mru) ∧ Y.cell? ⟨w.heap.size, 1, none⟩ = some (.int .i64 c.auth) ∧ Y.cell? ⟨w.heap.size, 2, none⟩ = some (.int .i64 c.magic) ∧ Y.cell? ⟨w.heap.size, 3, none⟩ = some (.int .i64 c.echo) ∧ Y.cell? ⟨w.heap.size, 4, none⟩ = some (.int .i64 c.cf) ∧ Y.cell? ⟨w.heap.size, 5, none⟩ = some (.int .i64 c.tm) ∧ Y.cell? ⟨w.heap.size, 6, none⟩ = some (.int .i64 c.fl) ∧ Y.cell? ⟨w.heap.size, 7, none⟩ = some (.int .i64 c.wt)) W5 := HS.out _ HB.out
            refine hK _ _ (fun _ => HSv) ?_
            try simp only [Act.put, List.setIfInBounds_toArray, List.set_cons_zero, List.set_cons_succ]
            clear bA hz hW5 hrb
            refine wpAnyH_1 5 rfl (by kernel_rfl) ?_
            intro K hK
            rw [if_pos (by rfl)]
            try go_simp
            have bA : Below W5.heap.size W5 (W5.alloc (.cells #[.int .i64 3] 3 (0, 0))) := (Below.refl _ _).alloc (Nat.le_refl _) _
            have hz := at1 W5 (.cells #[.int .i64 3] 3 (0, 0))
            generalize hW6 : W5.alloc (.cells #[.int .i64 3] 3 (0, 0)) = W6 at bA hz ⊢
            obtain ⟨ib, hib⟩ : ∃ ib, ib = W5.heap.size := ⟨_, rfl⟩
            rw [← hib] at hz ⊢
            have HI := Lib.hid hz
            have HR := Lib.hid (HR.out.below bA)
            have HRu := Lib.hid ((bA.block _ (Array.getElem?_eq_some_iff.1 HRu.out).1).trans HRu.out)
            have HB := Lib.hid (HB.out.trans (bA.mono HB.out.size))
            have HSv : (fun Y : World => Y.cell? ⟨w.heap.size, 0, none⟩ = some (.int .i64 c.mru) ∧ Y.cell? ⟨w.heap.size, 1, none⟩ = some (.int .i64 c.auth) ∧ Y.cell? ⟨w.heap.size, 2, none⟩ = some (.int .i64 c.magic) ∧ Y.cell? ⟨w.heap.size, 3, none⟩ = some (.int .i64 c.echo) ∧ Y.cell? ⟨w.heap.size, 4, none⟩ = some (.int .i64 c.cf) ∧ Y.cell? ⟨w.heap.size, 5, none⟩ = some (.int .i64 c.tm) ∧ Y.cell? ⟨w.heap.size, 6, none⟩ = some (.int .i64 c.fl) ∧ Y.cell? ⟨w.heap.size, 7, none⟩ = some (.int .i64 c.wt)) W6 := HS.out _ HB.out
            refine hK _ _ (fun _ => HSv) ?_
            try simp only [Act.put, List.setIfInBounds_toArray, List.set_cons_zero, List.set_cons_succ]
            clear bA hz hW6 hib
            refine wpAnyH_at 14 (v := ?vv249) rfl (by kernel_rfl) (by kernel_rfl) (by kernel_rfl) (fun _ _ _ h => h) ?hy249 HSv ?hh249
            case hy249 =>
              refine Or.inl ⟨by rfl, ?_⟩
              intro W hW
              obtain ⟨h0, h1, h2, h3, h4, h5, h6, h7⟩ := hW
              go_simp
              try with_reducible rfl
            simp only [Act.put, List.setIfInBounds_toArray, List.set_cons_zero, List.set_cons_succ]
            refine wpAnyH_1 17 rfl (by kernel_rfl) ?_
            intro K hK
            rw [if_pos (by rfl)]
            try go_simp
            go_at_call 34
            refine (HNN.out lb W1 W6 sA cA rb ib HB.out HR.out HRu.out HI.out).mono ?_
            rintro e wE ⟨B, rfl, nE, bE⟩
            have zl := (bE.block lb (Array.getElem?_eq_some_iff.1 HZ.out.2.1).1).trans HZ.out.2.1
            have f0 := fzOf zl 0
            have c0 : wE.cell? ⟨lb, 0, none⟩ = some (.pointer none) := cellOf zl 0 _ rfl
            have HN := Lib.hid (And.intro bE nE)
            have HSv : (fun Y : World => Y.cell? ⟨w.heap.size, 0, none⟩ = some (.int .i64 c.mru) ∧ Y.cell? ⟨w.heap.size, 1, none⟩ = some (.int .i64 c.auth) ∧ Y.cell? ⟨w.heap.size, 2, none⟩ = some (.int .i64 c.magic) ∧ Y.cell? ⟨w.heap.size, 3, none⟩ = some (.int .i64 c.echo) ∧ Y.cell? ⟨w.heap.size, 4, none⟩ = some (.int .i64 c.cf) ∧ Y.cell? ⟨w.heap.size, 5, none⟩ = some (.int .i64 c.tm) ∧ Y.cell? ⟨w.heap.size, 6, none⟩ = some (.int .i64 c.fl) ∧ Y.cell? ⟨w.heap.size, 7, none⟩ = some (.int .i64 c.wt)) wE := HS.out _ bE
            clear bE nE zl
            refine hK _ _ (fun _ => HSv) ?_
            try simp only [Act.put, List.setIfInBounds_toArray, List.set_cons_zero, List.set_cons_succ]
            refine wpAnyH_at 18 (v := ?vv250) rfl (by kernel_rfl) (by kernel_rfl) (by kernel_rfl) (fun _ _ _ h => h) ?hy250 HSv ?hh250
            case hy250 =>
              refine Or.inl ⟨by rfl, ?_⟩
              intro W hW
              obtain ⟨h0, h1, h2, h3, h4, h5, h6, h7⟩ := hW
              go_simp
              try with_reducible rfl
            simp only [Act.put, List.setIfInBounds_toArray, List.set_cons_zero, List.set_cons_succ]
            refine wpAnyH_at 19 (v := ?vv251) rfl (by kernel_rfl) (by kernel_rfl) (by kernel_rfl) (fun _ _ _ h => h) ?hy251 HSv ?hh251
            case hy251 =>
              refine Or.inl ⟨by rfl, ?_⟩
              intro W hW
              obtain ⟨h0, h1, h2, h3, h4, h5, h6, h7⟩ := hW
              go_simp
              try with_reducible rfl
            simp only [Act.put, List.setIfInBounds_toArray, List.set_cons_zero, List.set_cons_succ]
            refine wpAnyH_at 21 (v := ?vv252) rfl (by kernel_rfl) (by kernel_rfl) (by kernel_rfl) (fun _ _ _ h => h) ?hy252 HSv ?hh252
            case hy252 =>
              refine Or.inl ⟨by rfl, ?_⟩
              intro W hW
              obtain ⟨h0, h1, h2, h3, h4, h5, h6, h7⟩ := hW
              go_simp
              try with_reducible rfl
            simp only [Act.put, List.setIfInBounds_toArray, List.set_cons_zero, List.set_cons_succ]
            refine wpAnyH_at 20 (v := ?vv253) rfl (by kernel_rfl) (by kernel_rfl) (by kernel_rfl) (fun _ _ _ h => h) ?hy253 HSv ?hh253
            case hy253 =>
              refine Or.inl ⟨by rfl, ?_⟩
              intro W hW
              obtain ⟨h0, h1, h2, h3, h4, h5, h6, h7⟩ := hW
              go_simp
              try with_reducible rfl
            simp only [Act.put, List.setIfInBounds_toArray, List.set_cons_zero, List.set_cons_succ]
            refine wpAnyH_at 22 (v := ?vv254) rfl (by kernel_rfl) (by kernel_rfl) (by kernel_rfl) (fun _ _ _ h => h) ?hy254 HSv ?hh254
            case hy254 =>
              refine Or.inl ⟨by rfl, ?_⟩
              intro W hW
              obtain ⟨h0, h1, h2, h3, h4, h5, h6, h7⟩ := hW
              go_simp
              try with_reducible rfl
            simp only [Act.put, List.setIfInBounds_toArray, List.set_cons_zero, List.set_cons_succ]
            refine wpAnyH_end 23 (fun j hj => rgH_end _ _ j (by omega)) (by rfl) (by kernel_rfl) ?_
            simp only [List.drop_succ_cons, List.drop_zero]
            clear HSv
            go_wp2_with fail
            go_ret2
            exact HG.out wE B HN.out.1 HN.out.2
          · intro K hK
            rw [if_pos (by rfl)]
            try go_simp
            have bA : Below W4.heap.size W4 (W4.alloc (.cells #[.int .i64 3] 3 (0, 0))) := (Below.refl _ _).alloc (Nat.le_refl _) _
            have hz := at1 W4 (.cells #[.int .i64 3] 3 (0, 0))
            generalize hW5 : W4.alloc (.cells #[.int .i64 3] 3 (0, 0)) = W5 at bA hz ⊢
            obtain ⟨ib, hib⟩ : ∃ ib, ib = W4.heap.size := ⟨_, rfl⟩
            rw [← hib] at hz ⊢
            have HI := Lib.hid hz
            have HR := Lib.hid (HR.out.below bA)
            have HB := Lib.hid (HB.out.trans (bA.mono HB.out.size))
            have HSv : (fun Y : World => Y.cell? ⟨w.heap.size, 0, none⟩ = some (.int .i64 c.mru) ∧ Y.cell? ⟨w.heap.size, 1, none⟩ = some (.int .i64 c.auth) ∧ Y.cell? ⟨w.heap.size, 2, none⟩ = some (.int .i64 c.magic) ∧ Y.cell? ⟨w.heap.size, 3, none⟩ = some (.int .i64 c.echo) ∧ Y.cell? ⟨w.heap.size, 4, none⟩ = some (.int .i64 c.cf) ∧ Y.cell? ⟨w.heap.size, 5, none⟩ = some (.int .i64 c.tm) ∧ Y.cell? ⟨w.heap.size, 6, none⟩ = some (.int .i64 c.fl) ∧ Y.cell? ⟨w.heap.size, 7, none⟩ = some (.int .i64 c.wt)) W5 := HS.out _ HB.out
            refine hK _ _ (fun _ => HSv) ?_
            try simp only [Act.put, List.setIfInBounds_toArray, List.set_cons_zero, List.set_cons_succ]
            clear bA hz hW5 hib
            refine wpAnyH_1 4 rfl (by kernel_rfl) ?_
            intro K hK
            rw [if_pos (by rfl)]
            try go_simp
            have bA : Below W5.heap.size W5 (W5.alloc (.cells #[.int .i64 1, .int .i64 2, .int .i64 64, .int .i64 1492, .string (be2 1492), .int .i64 5, .int .i64 4, .int .i64 1, .int .i64 4294967295, .string (be4 1)] 73 (0, 0))) := (Below.refl _ _).alloc (Nat.le_refl _) _
            have hz := at1 W5 (.cells #[.int .i64 1, .int .i64 2, .int .i64 64, .int .i64 1492, .string (be2 1492), .int .i64 5, .int .i64 4, .int .i64 1, .int .i64 4294967295, .string (be4 1)] 73 (0, 0))
            generalize hW6 : W5.alloc (.cells #[.int .i64 1, .int .i64 2, .int .i64 64, .int .i64 1492, .string (be2 1492), .int .i64 5, .int .i64 4, .int .i64 1, .int .i64 4294967295, .string (be4 1)] 73 (0, 0)) = W6 at bA hz ⊢
            obtain ⟨rb, hrb⟩ : ∃ rb, rb = W5.heap.size := ⟨_, rfl⟩
            rw [← hrb] at hz ⊢
            have HRu := Lib.hid hz
            have HR := Lib.hid (HR.out.below bA)
            have HB := Lib.hid (HB.out.trans (bA.mono HB.out.size))
            have HSv : (fun Y : World => Y.cell? ⟨w.heap.size, 0, none⟩ = some (.int .i64 c.mru) ∧ Y.cell? ⟨w.heap.size, 1, none⟩ = some (.int .i64 c.auth) ∧ Y.cell? ⟨w.heap.size, 2, none⟩ = some (.int .i64 c.magic) ∧ Y.cell? ⟨w.heap.size, 3, none⟩ = some (.int .i64 c.echo) ∧ Y.cell? ⟨w.heap.size, 4, none⟩ = some (.int .i64 c.cf) ∧ Y.cell? ⟨w.heap.size, 5, none⟩ = some (.int .i64 c.tm) ∧ Y.cell? ⟨w.heap.size, 6, none⟩ = some (.int .i64 c.fl) ∧ Y.cell? ⟨w.heap.size, 7, none⟩ = some (.int .i64 c.wt)) W6 := HS.out _ HB.out
            have HI := Lib.hid ((bA.block _ (Array.getElem?_eq_some_iff.1 HI.out).1).trans HI.out)
            refine hK _ _ (fun _ => HSv) ?_
            try simp only [Act.put, List.setIfInBounds_toArray, List.set_cons_zero, List.set_cons_succ]
            clear bA hz hW6 hrb
            refine wpAnyH_at 14 (v := ?vv255) rfl (by kernel_rfl) (by kernel_rfl) (by kernel_rfl) (fun _ _ _ h => h) ?hy255 HSv ?hh255
            case hy255 =>
              refine Or.inl ⟨by rfl, ?_⟩
              intro W hW
              obtain ⟨h0, h1, h2, h3, h4, h5, h6, h7⟩ := hW
              go_simp
              try with_reducible rfl
            simp only [Act.put, List.setIfInBounds_toArray, List.set_cons_zero, List.set_cons_succ]
            refine wpAnyH_1 17 rfl (by kernel_rfl) ?_
            intro K hK
            rw [if_pos (by rfl)]
            try go_simp
            go_at_call 34
            refine (HNN.out lb W1 W6 sA cA rb ib HB.out HR.out HRu.out HI.out).mono ?_
            rintro e wE ⟨B, rfl, nE, bE⟩
            have zl := (bE.block lb (Array.getElem?_eq_some_iff.1 HZ.out.2.1).1).trans HZ.out.2.1
            have f0 := fzOf zl 0
            have c0 : wE.cell? ⟨lb, 0, none⟩ = some (.pointer none) := cellOf zl 0 _ rfl
            have HN := Lib.hid (And.intro bE nE)
            have HSv : (fun Y : World => Y.cell? ⟨w.heap.size, 0, none⟩ = some (.int .i64 c.mru) ∧ Y.cell? ⟨w.heap.size, 1, none⟩ = some (.int .i64 c.auth) ∧ Y.cell? ⟨w.heap.size, 2, none⟩ = some (.int .i64 c.magic) ∧ Y.cell? ⟨w.heap.size, 3, none⟩ = some (.int .i64 c.echo) ∧ Y.cell? ⟨w.heap.size, 4, none⟩ = some (.int .i64 c.cf) ∧ Y.cell? ⟨w.heap.size, 5, none⟩ = some (.int .i64 c.tm) ∧ Y.cell? ⟨w.heap.size, 6, none⟩ = some (.int .i64 c.fl) ∧ Y.cell? ⟨w.heap.size, 7, none⟩ = some (.int .i64 c.wt)) wE := HS.out _ bE
            clear bE nE zl
            refine hK _ _ (fun _ => HSv) ?_
            try simp only [Act.put, List.setIfInBounds_toArray, List.set_cons_zero, List.set_cons_succ]
            refine wpAnyH_at 18 (v := ?vv256) rfl (by kernel_rfl) (by kernel_rfl) (by kernel_rfl) (fun _ _ _ h => h) ?hy256 HSv ?hh256
            case hy256 =>
              refine Or.inl ⟨by rfl, ?_⟩
              intro W hW
              obtain ⟨h0, h1, h2, h3, h4, h5, h6, h7⟩ := hW
              go_simp
              try with_reducible rfl
            simp only [Act.put, List.setIfInBounds_toArray, List.set_cons_zero, List.set_cons_succ]
            refine wpAnyH_at 19 (v := ?vv257) rfl (by kernel_rfl) (by kernel_rfl) (by kernel_rfl) (fun _ _ _ h => h) ?hy257 HSv ?hh257
            case hy257 =>
              refine Or.inl ⟨by rfl, ?_⟩
              intro W hW
              obtain ⟨h0, h1, h2, h3, h4, h5, h6, h7⟩ := hW
              go_simp
              try with_reducible rfl
            simp only [Act.put, List.setIfInBounds_toArray, List.set_cons_zero, List.set_cons_succ]
            refine wpAnyH_at 21 (v := ?vv258) rfl (by kernel_rfl) (by kernel_rfl) (by kernel_rfl) (fun _ _ _ h => h) ?hy258 HSv ?hh258
            case hy258 =>
              refine Or.inl ⟨by rfl, ?_⟩
              intro W hW
              obtain ⟨h0, h1, h2, h3, h4, h5, h6, h7⟩ := hW
              go_simp
              try with_reducible rfl
            simp only [Act.put, List.setIfInBounds_toArray, List.set_cons_zero, List.set_cons_succ]
            refine wpAnyH_at 20 (v := ?vv259) rfl (by kernel_rfl) (by kernel_rfl) (by kernel_rfl) (fun _ _ _ h => h) ?hy259 HSv ?hh259
            case hy259 =>
              refine Or.inl ⟨by rfl, ?_⟩
              intro W hW
              obtain ⟨h0, h1, h2, h3, h4, h5, h6, h7⟩ := hW
              go_simp
              try with_reducible rfl
            simp only [Act.put, List.setIfInBounds_toArray, List.set_cons_zero, List.set_cons_succ]
            refine wpAnyH_at 22 (v := ?vv260) rfl (by kernel_rfl) (by kernel_rfl) (by kernel_rfl) (fun _ _ _ h => h) ?hy260 HSv ?hh260
            case hy260 =>
              refine Or.inl ⟨by rfl, ?_⟩
              intro W hW
              obtain ⟨h0, h1, h2, h3, h4, h5, h6, h7⟩ := hW
              go_simp
              try with_reducible rfl
            simp only [Act.put, List.setIfInBounds_toArray, List.set_cons_zero, List.set_cons_succ]
            refine wpAnyH_end 23 (fun j hj => rgH_end _ _ j (by omega)) (by rfl) (by kernel_rfl) ?_
            simp only [List.drop_succ_cons, List.drop_zero]
            clear HSv
            go_wp2_with fail
            go_ret2
            exact HG.out wE B HN.out.1 HN.out.2
        · intro K hK
          rw [if_pos (by rfl)]
          try go_simp
          have bA : Below W3.heap.size W3 (W3.alloc (.cells #[.int .i64 3] 3 (0, 0))) := (Below.refl _ _).alloc (Nat.le_refl _) _
          have hz := at1 W3 (.cells #[.int .i64 3] 3 (0, 0))
          generalize hW4 : W3.alloc (.cells #[.int .i64 3] 3 (0, 0)) = W4 at bA hz ⊢
          obtain ⟨ib, hib⟩ : ∃ ib, ib = W3.heap.size := ⟨_, rfl⟩
          rw [← hib] at hz ⊢
          have HI := Lib.hid hz
          have HR := Lib.hid (HR.out.below bA)
          have HB := Lib.hid (HB.out.trans (bA.mono HB.out.size))
          have HSv : (fun Y : World => Y.cell? ⟨w.heap.size, 0, none⟩ = some (.int .i64 c.mru) ∧ Y.cell? ⟨w.heap.size, 1, none⟩ = some (.int .i64 c.auth) ∧ Y.cell? ⟨w.heap.size, 2, none⟩ = some (.int .i64 c.magic) ∧ Y.cell? ⟨w.heap.size, 3, none⟩ = some (.int .i64 c.echo) ∧ Y.cell? ⟨w.heap.size, 4, none⟩ = some (.int .i64 c.cf) ∧ Y.cell? ⟨w.heap.size, 5, none⟩ = some (.int .i64 c.tm) ∧ Y.cell? ⟨w.heap.size, 6, none⟩ = some (.int .i64 c.fl) ∧ Y.cell? ⟨w.heap.size, 7, none⟩ = some (.int .i64 c.wt)) W4 := HS.out _ HB.out
          refine hK _ _ (fun _ => HSv) ?_
          try simp only [Act.put, List.setIfInBounds_toArray, List.set_cons_zero, List.set_cons_succ]
          clear bA hz hW4 hib
          refine wpAnyH_1 3 rfl (by kernel_rfl) ?_
          intro K hK
          rw [if_pos (by rfl)]
          try go_simp
          go_at_call 36
          refine (magics_any _).mono ?_
          rintro e W5 ⟨rfl, bA⟩
          have HR := Lib.hid (HR.out.below bA)
          have HB := Lib.hid (HB.out.trans (bA.mono HB.out.size))
          have HSv : (fun Y : World => Y.cell? ⟨w.heap.size, 0, none⟩ = some (.int .i64 c.mru) ∧ Y.cell? ⟨w.heap.size, 1, none⟩ = some (.int .i64 c.auth) ∧ Y.cell? ⟨w.heap.size, 2, none⟩ = some (.int .i64 c.magic) ∧ Y.cell? ⟨w.heap.size, 3, none⟩ = some (.int .i64 c.echo) ∧ Y.cell? ⟨w.heap.size, 4, none⟩ = some (.int .i64 c.cf) ∧ Y.cell? ⟨w.heap.size, 5, none⟩ = some (.int .i64 c.tm) ∧ Y.cell? ⟨w.heap.size, 6, none⟩ = some (.int .i64 c.fl) ∧ Y.cell? ⟨w.heap.size, 7, none⟩ = some (.int .i64 c.wt)) W5 := HS.out _ HB.out
          have HI := Lib.hid ((bA.block _ (Array.getElem?_eq_some_iff.1 HI.out).1).trans HI.out)
          refine hK _ _ (fun _ => HSv) ?_
          try simp only [Act.put, List.setIfInBounds_toArray, List.set_cons_zero, List.set_cons_succ]
          clear bA
          refine wpAnyH_1 4 rfl (by kernel_rfl) ?_
          intro K hK
          rw [if_pos (by rfl)]
          try go_simp
          have bA : Below W5.heap.size W5 (W5.alloc (.cells #[.int .i64 1, .int .i64 2, .int .i64 64, .int .i64 1492, .string (be2 1492), .int .i64 5, .int .i64 4, .int .i64 1, .int .i64 4294967295, .string (be4 1)] 73 (0, 0))) := (Below.refl _ _).alloc (Nat.le_refl _) _
          have hz := at1 W5 (.cells #[.int .i64 1, .int .i64 2, .int .i64 64, .int .i64 1492, .string (be2 1492), .int .i64 5, .int .i64 4, .int .i64 1, .int .i64 4294967295, .string (be4 1)] 73 (0, 0))
          generalize hW6 : W5.alloc (.cells #[.int .i64 1, .int .i64 2, .int .i64 64, .int .i64 1492, .string (be2 1492), .int .i64 5, .int .i64 4, .int .i64 1, .int .i64 4294967295, .string (be4 1)] 73 (0, 0)) = W6 at bA hz ⊢
          obtain ⟨rb, hrb⟩ : ∃ rb, rb = W5.heap.size := ⟨_, rfl⟩
          rw [← hrb] at hz ⊢
          have HRu := Lib.hid hz
          have HR := Lib.hid (HR.out.below bA)
          have HB := Lib.hid (HB.out.trans (bA.mono HB.out.size))
          have HSv : (fun Y : World => Y.cell? ⟨w.heap.size, 0, none⟩ = some (.int .i64 c.mru) ∧ Y.cell? ⟨w.heap.size, 1, none⟩ = some (.int .i64 c.auth) ∧ Y.cell? ⟨w.heap.size, 2, none⟩ = some (.int .i64 c.magic) ∧ Y.cell? ⟨w.heap.size, 3, none⟩ = some (.int .i64 c.echo) ∧ Y.cell? ⟨w.heap.size, 4, none⟩ = some (.int .i64 c.cf) ∧ Y.cell? ⟨w.heap.size, 5, none⟩ = some (.int .i64 c.tm) ∧ Y.cell? ⟨w.heap.size, 6, none⟩ = some (.int .i64 c.fl) ∧ Y.cell? ⟨w.heap.size, 7, none⟩ = some (.int .i64 c.wt)) W6 := HS.out _ HB.out
          have HI := Lib.hid ((bA.block _ (Array.getElem?_eq_some_iff.1 HI.out).1).trans HI.out)
          refine hK _ _ (fun _ => HSv) ?_
          try simp only [Act.put, List.setIfInBounds_toArray, List.set_cons_zero, List.set_cons_succ]
          clear bA hz hW6 hrb
          refine wpAnyH_at 14 (v := ?vv261) rfl (by kernel_rfl) (by kernel_rfl) (by kernel_rfl) (fun _ _ _ h => h) ?hy261 HSv ?hh261
          case hy261 =>
            refine Or.inl ⟨by rfl, ?_⟩
            intro W hW
            obtain ⟨h0, h1, h2, h3, h4, h5, h6, h7⟩ := hW
            go_simp
            try with_reducible rfl
          simp only [Act.put, List.setIfInBounds_toArray, List.set_cons_zero, List.set_cons_succ]
          refine wpAnyH_1 17 rfl (by kernel_rfl) ?_
          intro K hK
          rw [if_pos (by rfl)]
          try go_simp
          go_at_call 34
          refine (HNN.out lb W1 W6 sA cA rb ib HB.out HR.out HRu.out HI.out).mono ?_
          rintro e wE ⟨B, rfl, nE, bE⟩
          have zl := (bE.block lb (Array.getElem?_eq_some_iff.1 HZ.out.2.1).1).trans HZ.out.2.1
          have f0 := fzOf zl 0
          have c0 : wE.cell? ⟨lb, 0, none⟩ = some (.pointer none) := cellOf zl 0 _ rfl
          have HN := Lib.hid (And.intro bE nE)
          have HSv : (fun Y : World => Y.cell? ⟨w.heap.size, 0, none⟩ = some (.int .i64 c.mru) ∧ Y.cell? ⟨w.heap.size, 1, none⟩ = some (.int .i64 c.auth) ∧ Y.cell? ⟨w.heap.size, 2, none⟩ = some (.int .i64 c.magic) ∧ Y.cell? ⟨w.heap.size, 3, none⟩ = some (.int .i64 c.echo) ∧ Y.cell? ⟨w.heap.size, 4, none⟩ = some (.int .i64 c.cf) ∧ Y.cell? ⟨w.heap.size, 5, none⟩ = some (.int .i64 c.tm) ∧ Y.cell? ⟨w.heap.size, 6, none⟩ = some (.int .i64 c.fl) ∧ Y.cell? ⟨w.heap.size, 7, none⟩ = some (.int .i64 c.wt)) wE := HS.out _ bE
          clear bE nE zl
          refine hK _ _ (fun _ => HSv) ?_
          try simp only [Act.put, List.setIfInBounds_toArray, List.set_cons_zero, List.set_cons_succ]
          refine wpAnyH_at 18 (v := ?vv262) rfl (by kernel_rfl) (by kernel_rfl) (by kernel_rfl) (fun _ _ _ h => h) ?hy262 HSv ?hh262
          case hy262 =>
            refine Or.inl ⟨by rfl, ?_⟩
            intro W hW
            obtain ⟨h0, h1, h2, h3, h4, h5, h6, h7⟩ := hW
            go_simp
            try with_reducible rfl
          simp only [Act.put, List.setIfInBounds_toArray, List.set_cons_zero, List.set_cons_succ]
          refine wpAnyH_at 19 (v := ?vv263) rfl (by kernel_rfl) (by kernel_rfl) (by kernel_rfl) (fun _ _ _ h => h) ?hy263 HSv ?hh263
          case hy263 =>
            refine Or.inl ⟨by rfl, ?_⟩
            intro W hW
            obtain ⟨h0, h1, h2, h3, h4, h5, h6, h7⟩ := hW
            go_simp
            try with_reducible rfl
          simp only [Act.put, List.setIfInBounds_toArray, List.set_cons_zero, List.set_cons_succ]
          refine wpAnyH_at 21 (v := ?vv264) rfl (by kernel_rfl) (by kernel_rfl) (by kernel_rfl) (fun _ _ _ h => h) ?hy264 HSv ?hh264
          case hy264 =>
            refine Or.inl ⟨by rfl, ?_⟩
            intro W hW
            obtain ⟨h0, h1, h2, h3, h4, h5, h6, h7⟩ := hW
            go_simp
            try with_reducible rfl
          simp only [Act.put, List.setIfInBounds_toArray, List.set_cons_zero, List.set_cons_succ]
          refine wpAnyH_at 20 (v := ?vv265) rfl (by kernel_rfl) (by kernel_rfl) (by kernel_rfl) (fun _ _ _ h => h) ?hy265 HSv ?hh265
          case hy265 =>
            refine Or.inl ⟨by rfl, ?_⟩
            intro W hW
            obtain ⟨h0, h1, h2, h3, h4, h5, h6, h7⟩ := hW
            go_simp
            try with_reducible rfl
          simp only [Act.put, List.setIfInBounds_toArray, List.set_cons_zero, List.set_cons_succ]
          refine wpAnyH_at 22 (v := ?vv266) rfl (by kernel_rfl) (by kernel_rfl) (by kernel_rfl) (fun _ _ _ h => h) ?hy266 HSv ?hh266
          case hy266 =>
            refine Or.inl ⟨by rfl, ?_⟩
            intro W hW
            obtain ⟨h0, h1, h2, h3, h4, h5, h6, h7⟩ := hW
            go_simp
            try with_reducible rfl
          simp only [Act.put, List.setIfInBounds_toArray, List.set_cons_zero, List.set_cons_succ]
          refine wpAnyH_end 23 (fun j hj => rgH_end _ _ j (by omega)) (by rfl) (by kernel_rfl) ?_
          simp only [List.drop_succ_cons, List.drop_zero]
          clear HSv
          go_wp2_with fail
          go_ret2
          exact HG.out wE B HN.out.1 HN.out.2
      · intro K hK
        rw [if_pos (by rfl)]
        try go_simp
        have bA : Below W2.heap.size W2 (W2.alloc (.cells #[.int .i64 3] 3 (0, 0))) := (Below.refl _ _).alloc (Nat.le_refl _) _
        have hz := at1 W2 (.cells #[.int .i64 3] 3 (0, 0))
        generalize hW3 : W2.alloc (.cells #[.int .i64 3] 3 (0, 0)) = W3 at bA hz ⊢
        obtain ⟨ib, hib⟩ : ∃ ib, ib = W2.heap.size := ⟨_, rfl⟩
        rw [← hib] at hz ⊢
        have HI := Lib.hid hz
        have HR := Lib.hid (HR.out.below bA)
        have HB := Lib.hid (HB.out.trans (bA.mono HB.out.size))
        have HSv : (fun Y : World => Y.cell? ⟨w.heap.size, 0, none⟩ = some (.int .i64 c.mru) ∧ Y.cell? ⟨w.heap.size, 1, none⟩ = some (.int .i64 c.auth) ∧ Y.cell? ⟨w.heap.size, 2, none⟩ = some (.int .i64 c.magic) ∧ Y.cell? ⟨w.heap.size, 3, none⟩ = some (.int .i64 c.echo) ∧ Y.cell? ⟨w.heap.size, 4, none⟩ = some (.int .i64 c.cf) ∧ Y.cell? ⟨w.heap.size, 5, none⟩ = some (.int .i64 c.tm) ∧ Y.cell? ⟨w.heap.size, 6, none⟩ = some (.int .i64 c.fl) ∧ Y.cell? ⟨w.heap.size, 7, none⟩ = some (.int .i64 c.wt)) W3 := HS.out _ HB.out
        refine hK _ _ (fun _ => HSv) ?_
        try simp only [Act.put, List.setIfInBounds_toArray, List.set_cons_zero, List.set_cons_succ]
        clear bA hz hW3 hib
        refine wpAnyH_1 2 rfl (by kernel_rfl) ?_
        intro K hK
        rw [if_pos (by rfl)]
        try go_simp
        go_at_call 35
        refine (units_any 1492 _).mono ?_
        rintro e W4 ⟨rfl, bA⟩
        have HR := Lib.hid (HR.out.below bA)
        have HB := Lib.hid (HB.out.trans (bA.mono HB.out.size))
        have HSv : (fun Y : World => Y.cell? ⟨w.heap.size, 0, none⟩ = some (.int .i64 c.mru) ∧ Y.cell? ⟨w.heap.size, 1, none⟩ = some (.int .i64 c.auth) ∧ Y.cell? ⟨w.heap.size, 2, none⟩ = some (.int .i64 c.magic) ∧ Y.cell? ⟨w.heap.size, 3, none⟩ = some (.int .i64 c.echo) ∧ Y.cell? ⟨w.heap.size, 4, none⟩ = some (.int .i64 c.cf) ∧ Y.cell? ⟨w.heap.size, 5, none⟩ = some (.int .i64 c.tm) ∧ Y.cell? ⟨w.heap.size, 6, none⟩ = some (.int .i64 c.fl) ∧ Y.cell? ⟨w.heap.size, 7, none⟩ = some (.int .i64 c.wt)) W4 := HS.out _ HB.out
        have HI := Lib.hid ((bA.block _ (Array.getElem?_eq_some_iff.1 HI.out).1).trans HI.out)
        refine hK _ _ (fun _ => HSv) ?_
        try simp only [Act.put, List.setIfInBounds_toArray, List.set_cons_zero, List.set_cons_succ]
        clear bA
        refine wpAnyH_1 3 rfl (by kernel_rfl) ?_
        intro K hK
        rw [if_pos (by rfl)]
        try go_simp
        go_at_call 36
        refine (magics_any _).mono ?_
        rintro e W5 ⟨rfl, bA⟩
        have HR := Lib.hid (HR.out.below bA)
        have HB := Lib.hid (HB.out.trans (bA.mono HB.out.size))
        have HSv : (fun Y : World => Y.cell? ⟨w.heap.size, 0, none⟩ = some (.int .i64 c.mru) ∧ Y.cell? ⟨w.heap.size, 1, none⟩ = some (.int .i64 c.auth) ∧ Y.cell? ⟨w.heap.size, 2, none⟩ = some (.int .i64 c.magic) ∧ Y.cell? ⟨w.heap.size, 3, none⟩ = some (.int .i64 c.echo) ∧ Y.cell? ⟨w.heap.size, 4, none⟩ = some (.int .i64 c.cf) ∧ Y.cell? ⟨w.heap.size, 5, none⟩ = some (.int .i64 c.tm) ∧ Y.cell? ⟨w.heap.size, 6, none⟩ = some (.int .i64 c.fl) ∧ Y.cell? ⟨w.heap.size, 7, none⟩ = some (.int .i64 c.wt)) W5 := HS.out _ HB.out
        have HI := Lib.hid ((bA.block _ (Array.getElem?_eq_some_iff.1 HI.out).1).trans HI.out)
        refine hK _ _ (fun _ => HSv) ?_
        try simp only [Act.put, List.setIfInBounds_toArray, List.set_cons_zero, List.set_cons_succ]
        clear bA
        refine wpAnyH_1 4 rfl (by kernel_rfl) ?_
        intro K hK
        rw [if_pos (by rfl)]
        try go_simp
        have bA : Below W5.heap.size W5 (W5.alloc (.cells #[.int .i64 1, .int .i64 2, .int .i64 64, .int .i64 1492, .string (be2 1492), .int .i64 5, .int .i64 4, .int .i64 1, .int .i64 4294967295, .string (be4 1)] 73 (0, 0))) := (Below.refl _ _).alloc (Nat.le_refl _) _
        have hz := at1 W5 (.cells #[.int .i64 1, .int .i64 2, .int .i64 64, .int .i64 1492, .string (be2 1492), .int .i64 5, .int .i64 4, .int .i64 1, .int .i64 4294967295, .string (be4 1)] 73 (0, 0))
        generalize hW6 : W5.alloc (.cells #[.int .i64 1, .int .i64 2, .int .i64 64, .int .i64 1492, .string (be2 1492), .int .i64 5, .int .i64 4, .int .i64 1, .int .i64 4294967295, .string (be4 1)] 73 (0, 0)) = W6 at bA hz ⊢
        obtain ⟨rb, hrb⟩ : ∃ rb, rb = W5.heap.size := ⟨_, rfl⟩
        rw [← hrb] at hz ⊢
        have HRu := Lib.hid hz
        have HR := Lib.hid (HR.out.below bA)
        have HB := Lib.hid (HB.out.trans (bA.mono HB.out.size))
        have HSv : (fun Y : World => Y.cell? ⟨w.heap.size, 0, none⟩ = some (.int .i64 c.mru) ∧ Y.cell? ⟨w.heap.size, 1, none⟩ = some (.int .i64 c.auth) ∧ Y.cell? ⟨w.heap.size, 2, none⟩ = some (.int .i64 c.magic) ∧ Y.cell? ⟨w.heap.size, 3, none⟩ = some (.int .i64 c.echo) ∧ Y.cell? ⟨w.heap.size, 4, none⟩ = some (.int .i64 c.cf) ∧ Y.cell? ⟨w.heap.size, 5, none⟩ = some (.int .i64 c.tm) ∧ Y.cell? ⟨w.heap.size, 6, none⟩ = some (.int .i64 c.fl) ∧ Y.cell? ⟨w.heap.size, 7, none⟩ = some (.int .i64 c.wt)) W6 := HS.out _ HB.out
        have HI := Lib.hid ((bA.block _ (Array.getElem?_eq_some_iff.1 HI.out).1).trans HI.out)
        refine hK _ _ (fun _ => HSv) ?_
        try simp only [Act.put, List.setIfInBounds_toArray, List.set_cons_zero, List.set_cons_succ]
        clear bA hz hW6 hrb
        refine wpAnyH_at 14 (v := ?vv267) rfl (by kernel_rfl) (by kernel_rfl) (by kernel_rfl) (fun _ _ _ h => h) ?hy267 HSv ?hh267
        case hy267 =>
          refine Or.inl ⟨by rfl, ?_⟩
          intro W hW
          obtain ⟨h0, h1, h2, h3, h4, h5, h6, h7⟩ := hW
          go_simp
          try with_reducible rfl
        simp only [Act.put, List.setIfInBounds_toArray, List.set_cons_zero, List.set_cons_succ]
        refine wpAnyH_1 17 rfl (by kernel_rfl) ?_
        intro K hK
        rw [if_pos (by rfl)]
        try go_simp
        go_at_call 34
        refine (HNN.out lb W1 W6 sA cA rb ib HB.out HR.out HRu.out HI.out).mono ?_
        rintro e wE ⟨B, rfl, nE, bE⟩
        have zl := (bE.block lb (Array.getElem?_eq_some_iff.1 HZ.out.2.1).1).trans HZ.out.2.1
        have f0 := fzOf zl 0
        have c0 : wE.cell? ⟨lb, 0, none⟩ = some (.pointer none) := cellOf zl 0 _ rfl
        have HN := Lib.hid (And.intro bE nE)
        have HSv : (fun Y : World => Y.cell? ⟨w.heap.size, 0, none⟩ = some (.int .i64 c.mru) ∧ Y.cell? ⟨w.heap.size, 1, none⟩ = some (.int .i64 c.auth) ∧ Y.cell? ⟨w.heap.size, 2, none⟩ = some (.int .i64 c.magic) ∧ Y.cell? ⟨w.heap.size, 3, none⟩ = some (.int .i64 c.echo) ∧ Y.cell? ⟨w.heap.size, 4, none⟩ = some (.int .i64 c.cf) ∧ Y.cell? ⟨w.heap.size, 5, none⟩ = some (.int .i64 c.tm) ∧ Y.cell? ⟨w.heap.size, 6, none⟩ = some (.int .i64 c.fl) ∧ Y.cell? ⟨w.heap.size, 7, none⟩ = some (.int .i64 c.wt)) wE := HS.out _ bE
        clear bE nE zl
        refine hK _ _ (fun _ => HSv) ?_
        try simp only [Act.put, List.setIfInBounds_toArray, List.set_cons_zero, List.set_cons_succ]
        refine wpAnyH_at 18 (v := ?vv268) rfl (by kernel_rfl) (by kernel_rfl) (by kernel_rfl) (fun _ _ _ h => h) ?hy268 HSv ?hh268
        case hy268 =>
          refine Or.inl ⟨by rfl, ?_⟩
          intro W hW
          obtain ⟨h0, h1, h2, h3, h4, h5, h6, h7⟩ := hW
          go_simp
          try with_reducible rfl
        simp only [Act.put, List.setIfInBounds_toArray, List.set_cons_zero, List.set_cons_succ]
        refine wpAnyH_at 19 (v := ?vv269) rfl (by kernel_rfl) (by kernel_rfl) (by kernel_rfl) (fun _ _ _ h => h) ?hy269 HSv ?hh269
        case hy269 =>
          refine Or.inl ⟨by rfl, ?_⟩
          intro W hW
          obtain ⟨h0, h1, h2, h3, h4, h5, h6, h7⟩ := hW
          go_simp
          try with_reducible rfl
        simp only [Act.put, List.setIfInBounds_toArray, List.set_cons_zero, List.set_cons_succ]
        refine wpAnyH_at 21 (v := ?vv270) rfl (by kernel_rfl) (by kernel_rfl) (by kernel_rfl) (fun _ _ _ h => h) ?hy270 HSv ?hh270
        case hy270 =>
          refine Or.inl ⟨by rfl, ?_⟩
          intro W hW
          obtain ⟨h0, h1, h2, h3, h4, h5, h6, h7⟩ := hW
          go_simp
          try with_reducible rfl
        simp only [Act.put, List.setIfInBounds_toArray, List.set_cons_zero, List.set_cons_succ]
        refine wpAnyH_at 20 (v := ?vv271) rfl (by kernel_rfl) (by kernel_rfl) (by kernel_rfl) (fun _ _ _ h => h) ?hy271 HSv ?hh271
        case hy271 =>
          refine Or.inl ⟨by rfl, ?_⟩
          intro W hW
          obtain ⟨h0, h1, h2, h3, h4, h5, h6, h7⟩ := hW
          go_simp
          try with_reducible rfl
        simp only [Act.put, List.setIfInBounds_toArray, List.set_cons_zero, List.set_cons_succ]
        refine wpAnyH_at 22 (v := ?vv272) rfl (by kernel_rfl) (by kernel_rfl) (by kernel_rfl) (fun _ _ _ h => h) ?hy272 HSv ?hh272
        case hy272 =>
          refine Or.inl ⟨by rfl, ?_⟩
          intro W hW
          obtain ⟨h0, h1, h2, h3, h4, h5, h6, h7⟩ := hW
          go_simp
          try with_reducible rfl
        simp only [Act.put, List.setIfInBounds_toArray, List.set_cons_zero, List.set_cons_succ]
        refine wpAnyH_end 23 (fun j hj => rgH_end _ _ j (by omega)) (by rfl) (by kernel_rfl) ?_
        simp only [List.drop_succ_cons, List.drop_zero]
        clear HSv
        go_wp2_with fail
        go_ret2
        exact HG.out wE B HN.out.1 HN.out.2
    · intro K hK
      rw [if_pos (by rfl)]
      try go_simp
      have bA : Below W.heap.size W (W.alloc (.cells #[.int .i64 3] 3 (0, 0))) := (Below.refl _ _).alloc (Nat.le_refl _) _
      have hz := at1 W (.cells #[.int .i64 3] 3 (0, 0))
      generalize hW2 : W.alloc (.cells #[.int .i64 3] 3 (0, 0)) = W2 at bA hz ⊢
      obtain ⟨ib, hib⟩ : ∃ ib, ib = W.heap.size := ⟨_, rfl⟩
      rw [← hib] at hz ⊢
      have HI := Lib.hid hz
      have HB := Lib.hid (HB.out.trans (bA.mono HB.out.size))
      have HSv : (fun Y : World => Y.cell? ⟨w.heap.size, 0, none⟩ = some (.int .i64 c.mru) ∧ Y.cell? ⟨w.heap.size, 1, none⟩ = some (.int .i64 c.auth) ∧ Y.cell? ⟨w.heap.size, 2, none⟩ = some (.int .i64 c.magic) ∧ Y.cell? ⟨w.heap.size, 3, none⟩ = some (.int .i64 c.echo) ∧ Y.cell? ⟨w.heap.size, 4, none⟩ = some (.int .i64 c.cf) ∧ Y.cell? ⟨w.heap.size, 5, none⟩ = some (.int .i64 c.tm) ∧ Y.cell? ⟨w.heap.size, 6, none⟩ = some (.int .i64 c.fl) ∧ Y.cell? ⟨w.heap.size, 7, none⟩ = some (.int .i64 c.wt)) W2 := HS.out _ HB.out
      refine hK _ _ (fun _ => HSv) ?_
      try simp only [Act.put, List.setIfInBounds_toArray, List.set_cons_zero, List.set_cons_succ]
      clear bA hz hW2 hib
      refine wpAnyH_1 1 rfl (by kernel_rfl) ?_
      intro K hK
      rw [if_pos (by rfl)]
      try go_simp
      go_at_call 18
      refine (HLO.out _).mono ?_
      rintro e W3 ⟨vA, rfl, rA, bA⟩
      obtain ⟨sA, cA, rfl⟩ := rA.form
      have HR := Lib.hid (rA.base HB.out.size)
      have HB := Lib.hid (HB.out.trans (bA.mono HB.out.size))
      have HSv : (fun Y : World => Y.cell? ⟨w.heap.size, 0, none⟩ = some (.int .i64 c.mru) ∧ Y.cell? ⟨w.heap.size, 1, none⟩ = some (.int .i64 c.auth) ∧ Y.cell? ⟨w.heap.size, 2, none⟩ = some (.int .i64 c.magic) ∧ Y.cell? ⟨w.heap.size, 3, none⟩ = some (.int .i64 c.echo) ∧ Y.cell? ⟨w.heap.size, 4, none⟩ = some (.int .i64 c.cf) ∧ Y.cell? ⟨w.heap.size, 5, none⟩ = some (.int .i64 c.tm) ∧ Y.cell? ⟨w.heap.size, 6, none⟩ = some (.int .i64 c.fl) ∧ Y.cell? ⟨w.heap.size, 7, none⟩ = some (.int .i64 c.wt)) W3 := HS.out _ HB.out
      have HI := Lib.hid ((bA.block _ (Array.getElem?_eq_some_iff.1 HI.out).1).trans HI.out)
      refine hK _ _ (fun _ => HSv) ?_
      try simp only [Act.put, List.setIfInBounds_toArray, List.set_cons_zero, List.set_cons_succ]
      clear rA bA
      refine wpAnyH_1 2 rfl (by kernel_rfl) ?_
      intro K hK
      rw [if_pos (by rfl)]
      try go_simp
      go_at_call 35
      refine (units_any 1492 _).mono ?_
      rintro e W4 ⟨rfl, bA⟩
      have HR := Lib.hid (HR.out.below bA)
      have HB := Lib.hid (HB.out.trans (bA.mono HB.out.size))
      have HSv : (fun Y : World => Y.cell? ⟨w.heap.size, 0, none⟩ = some (.int .i64 c.mru) ∧ Y.cell? ⟨w.heap.size, 1, none⟩ = some (.int .i64 c.auth) ∧ Y.cell? ⟨w.heap.size, 2, none⟩ = some (.int .i64 c.magic) ∧ Y.cell? ⟨w.heap.size, 3, none⟩ = some (.int .i64 c.echo) ∧ Y.cell? ⟨w.heap.size, 4, none⟩ = some (.int .i64 c.cf) ∧ Y.cell? ⟨w.heap.size, 5, none⟩ = some (.int .i64 c.tm) ∧ Y.cell? ⟨w.heap.size, 6, none⟩ = some (.int .i64 c.fl) ∧ Y.cell? ⟨w.heap.size, 7, none⟩ = some (.int .i64 c.wt)) W4 := HS.out _ HB.out
      have HI := Lib.hid ((bA.block _ (Array.getElem?_eq_some_iff.1 HI.out).1).trans HI.out)
      refine hK _ _ (fun _ => HSv) ?_
      try simp only [Act.put, List.setIfInBounds_toArray, List.set_cons_zero, List.set_cons_succ]
      clear bA
      refine wpAnyH_1 3 rfl (by kernel_rfl) ?_
      intro K hK
      rw [if_pos (by rfl)]
      try go_simp
      go_at_call 36
      refine (magics_any _).mono ?_
      rintro e W5 ⟨rfl, bA⟩
      have HR := Lib.hid (HR.out.below bA)
      have HB := Lib.hid (HB.out.trans (bA.mono HB.out.size))
      have HSv : (fun Y : World => Y.cell? ⟨w.heap.size, 0, none⟩ = some (.int .i64 c.mru) ∧ Y.cell? ⟨w.heap.size, 1, none⟩ = some (.int .i64 c.auth) ∧ Y.cell? ⟨w.heap.size, 2, none⟩ = some (.int .i64 c.magic) ∧ Y.cell? ⟨w.heap.size, 3, none⟩ = some (.int .i64 c.echo) ∧ Y.cell? ⟨w.heap.size, 4, none⟩ = some (.int .i64 c.cf) ∧ Y.cell? ⟨w.heap.size, 5, none⟩ = some (.int .i64 c.tm) ∧ Y.cell? ⟨w.heap.size, 6, none⟩ = some (.int .i64 c.fl) ∧ Y.cell? ⟨w.heap.size, 7, none⟩ = some (.int .i64 c.wt)) W5 := HS.out _ HB.out
      have HI := Lib.hid ((bA.block _ (Array.getElem?_eq_some_iff.1 HI.out).1).trans HI.out)
      refine hK _ _ (fun _ => HSv) ?_
      try simp only [Act.put, List.setIfInBounds_toArray, List.set_cons_zero, List.set_cons_succ]
      clear bA
      refine wpAnyH_1 4 rfl (by kernel_rfl) ?_
      intro K hK
      rw [if_pos (by rfl)]
      try go_simp
      have bA : Below W5.heap.size W5 (W5.alloc (.cells #[.int .i64 1, .int .i64 2, .int .i64 64, .int .i64 1492, .string (be2 1492), .int .i64 5, .int .i64 4, .int .i64 1, .int .i64 4294967295, .string (be4 1)] 73 (0, 0))) := (Below.refl _ _).alloc (Nat.le_refl _) _
      have hz := at1 W5 (.cells #[.int .i64 1, .int .i64 2, .int .i64 64, .int .i64 1492, .string (be2 1492), .int .i64 5, .int .i64 4, .int .i64 1, .int .i64 4294967295, .string (be4 1)] 73 (0, 0))
      generalize hW6 : W5.alloc (.cells #[.int .i64 1, .int .i64 2, .int .i64 64, .int .i64 1492, .string (be2 1492), .int .i64 5, .int .i64 4, .int .i64 1, .int .i64 4294967295, .string (be4 1)] 73 (0, 0)) = W6 at bA hz ⊢
      obtain ⟨rb, hrb⟩ : ∃ rb, rb = W5.heap.size := ⟨_, rfl⟩
      rw [← hrb] at hz ⊢
      have HRu := Lib.hid hz
      have HR := Lib.hid (HR.out.below bA)
      have HB := Lib.hid (HB.out.trans (bA.mono HB.out.size))
      have HSv : (fun Y : World => Y.cell? ⟨w.heap.size, 0, none⟩ = some (.int .i64 c.mru) ∧ Y.cell? ⟨w.heap.size, 1, none⟩ = some (.int .i64 c.auth) ∧ Y.cell? ⟨w.heap.size, 2, none⟩ = some (.int .i64 c.magic) ∧ Y.cell? ⟨w.heap.size, 3, none⟩ = some (.int .i64 c.echo) ∧ Y.cell? ⟨w.heap.size, 4, none⟩ = some (.int .i64 c.cf) ∧ Y.cell? ⟨w.heap.size, 5, none⟩ = some (.int .i64 c.tm) ∧ Y.cell? ⟨w.heap.size, 6, none⟩ = some (.int .i64 c.fl) ∧ Y.cell? ⟨w.heap.size, 7, none⟩ = some (.int .i64 c.wt)) W6 := HS.out _ HB.out
      have HI := Lib.hid ((bA.block _ (Array.getElem?_eq_some_iff.1 HI.out).1).trans HI.out)
      refine hK _ _ (fun _ => HSv) ?_
      try simp only [Act.put, List.setIfInBounds_toArray, List.set_cons_zero, List.set_cons_succ]
      clear bA hz hW6 hrb
      refine wpAnyH_at 14 (v := ?vv273) rfl (by kernel_rfl) (by kernel_rfl) (by kernel_rfl) (fun _ _ _ h => h) ?hy273 HSv ?hh273
      case hy273 =>
        refine Or.inl ⟨by rfl, ?_⟩
        intro W hW
        obtain ⟨h0, h1, h2, h3, h4, h5, h6, h7⟩ := hW
        go_simp
        try with_reducible rfl
      simp only [Act.put, List.setIfInBounds_toArray, List.set_cons_zero, List.set_cons_succ]
      refine wpAnyH_1 17 rfl (by kernel_rfl) ?_
      intro K hK
      rw [if_pos (by rfl)]
      try go_simp
      go_at_call 34
      refine (HNN.out lb W1 W6 sA cA rb ib HB.out HR.out HRu.out HI.out).mono ?_
      rintro e wE ⟨B, rfl, nE, bE⟩
      have zl := (bE.block lb (Array.getElem?_eq_some_iff.1 HZ.out.2.1).1).trans HZ.out.2.1
      have f0 := fzOf zl 0
      have c0 : wE.cell? ⟨lb, 0, none⟩ = some (.pointer none) := cellOf zl 0 _ rfl
      have HN := Lib.hid (And.intro bE nE)
      have HSv : (fun Y : World => Y.cell? ⟨w.heap.size, 0, none⟩ = some (.int .i64 c.mru) ∧ Y.cell? ⟨w.heap.size, 1, none⟩ = some (.int .i64 c.auth) ∧ Y.cell? ⟨w.heap.size, 2, none⟩ = some (.int .i64 c.magic) ∧ Y.cell? ⟨w.heap.size, 3, none⟩ = some (.int .i64 c.echo) ∧ Y.cell? ⟨w.heap.size, 4, none⟩ = some (.int .i64 c.cf) ∧ Y.cell? ⟨w.heap.size, 5, none⟩ = some (.int .i64 c.tm) ∧ Y.cell? ⟨w.heap.size, 6, none⟩ = some (.int .i64 c.fl) ∧ Y.cell? ⟨w.heap.size, 7, none⟩ = some (.int .i64 c.wt)) wE := HS.out _ bE
      clear bE nE zl
      refine hK _ _ (fun _ => HSv) ?_
      try simp only [Act.put, List.setIfInBounds_toArray, List.set_cons_zero, List.set_cons_succ]
      refine wpAnyH_at 18 (v := ?vv274) rfl (by kernel_rfl) (by kernel_rfl) (by kernel_rfl) (fun _ _ _ h => h) ?hy274 HSv ?hh274
      case hy274 =>
        refine Or.inl ⟨by rfl, ?_⟩
        intro W hW
        obtain ⟨h0, h1, h2, h3, h4, h5, h6, h7⟩ := hW
        go_simp
        try with_reducible rfl
      simp only [Act.put, List.setIfInBounds_toArray, List.set_cons_zero, List.set_cons_succ]
      refine wpAnyH_at 19 (v := ?vv275) rfl (by kernel_rfl) (by kernel_rfl) (by kernel_rfl) (fun _ _ _ h => h) ?hy275 HSv ?hh275
      case hy275 =>
        refine Or.inl ⟨by rfl, ?_⟩
        intro W hW
        obtain ⟨h0, h1, h2, h3, h4, h5, h6, h7⟩ := hW
        go_simp
        try with_reducible rfl
      simp only [Act.put, List.setIfInBounds_toArray, List.set_cons_zero, List.set_cons_succ]
      refine wpAnyH_at 21 (v := ?vv276) rfl (by kernel_rfl) (by kernel_rfl) (by kernel_rfl) (fun _ _ _ h => h) ?hy276 HSv ?hh276
      case hy276 =>
        refine Or.inl ⟨by rfl, ?_⟩
        intro W hW
        obtain ⟨h0, h1, h2, h3, h4, h5, h6, h7⟩ := hW
        go_simp
        try with_reducible rfl
      simp only [Act.put, List.setIfInBounds_toArray, List.set_cons_zero, List.set_cons_succ]
      refine wpAnyH_at 20 (v := ?vv277) rfl (by kernel_rfl) (by kernel_rfl) (by kernel_rfl) (fun _ _ _ h => h) ?hy277 HSv ?hh277
      case hy277 =>
        refine Or.inl ⟨by rfl, ?_⟩
        intro W hW
        obtain ⟨h0, h1, h2, h3, h4, h5, h6, h7⟩ := hW
        go_simp
        try with_reducible rfl
      simp only [Act.put, List.setIfInBounds_toArray, List.set_cons_zero, List.set_cons_succ]
      refine wpAnyH_at 22 (v := ?vv278) rfl (by kernel_rfl) (by kernel_rfl) (by kernel_rfl) (fun _ _ _ h => h) ?hy278 HSv ?hh278
      case hy278 =>
        refine Or.inl ⟨by rfl, ?_⟩
        intro W hW
        obtain ⟨h0, h1, h2, h3, h4, h5, h6, h7⟩ := hW
        go_simp
        try with_reducible rfl
      simp only [Act.put, List.setIfInBounds_toArray, List.set_cons_zero, List.set_cons_succ]
      refine wpAnyH_end 23 (fun j hj => rgH_end _ _ j (by omega)) (by rfl) (by kernel_rfl) ?_
      simp only [List.drop_succ_cons, List.drop_zero]
      clear HSv
      go_wp2_with fail
      go_ret2
      exact HG.out wE B HN.out.1 HN.out.2
  · have ea : (c.auth != 0) = true := by simpa using h0
    have ev := hva h0
    clear hva h0
    go_enter Tryz.func12, Tryz.ntmps12
    go_wp2_with (first
      | (go_at_call 32; first | with_reducible refine (HL.out.1 _).mono ?_ | with_reducible refine (HL.out.2.1 _).mono ?_ | with_reducible refine (HL.out.2.2 _).mono ?_
         rintro e w1 ⟨rfl, rfl⟩)
      | (go_at_call 33; refine (HV.out _).mono ?_; rintro e wv ⟨rfl, hb⟩
         have hz := (hb.block w.heap.size (by have := HB0.out.2.2; unfold cfgO at this; rw [this]; omega)).trans HB0.out.2.1
         have HZ := Lib.hid (And.intro (HB0.out.1.trans (hb.mono (by have := HB0.out.1.size; exact this))) hz)
         unfold cfgO at hz
         have x0 := cellOf hz 0 _ rfl
         have x1 := cellOf hz 1 _ rfl
         have x2 := cellOf hz 2 _ rfl
         have x3 := cellOf hz 3 _ rfl
         have x4 := cellOf hz 4 _ rfl
         have x5 := cellOf hz 5 _ rfl
         have x6 := cellOf hz 6 _ rfl
         have x7 := cellOf hz 7 _ rfl
         clear hb hz))
    clear x0 x1 x2 x3 x4 x5 x6 x7
    have hz1 : (wv.alloc (.cells #[.pointer none, .pointer (some ⟨tb, 0, none⟩), .int .i64 c.echo, .int .i64 c.magic, .int .i64 0, .int .i64 0, .int .i64 0] 64 (0, 0))).heap[w.heap.size]? = some (cfgO c) := (Below.heap_alloc _ _ _ (Array.getElem?_eq_some_iff.1 HZ.out.2).1).trans HZ.out.2
    have hl1 := at1 wv (.cells #[.pointer none, .pointer (some ⟨tb, 0, none⟩), .int .i64 c.echo, .int .i64 c.magic, .int .i64 0, .int .i64 0, .int .i64 0] 64 (0, 0))
    have hw1 : Below w.heap.size w (wv.alloc (.cells #[.pointer none, .pointer (some ⟨tb, 0, none⟩), .int .i64 c.echo, .int .i64 c.magic, .int .i64 0, .int .i64 0, .int .i64 0] 64 (0, 0))) := HZ.out.1.alloc HZ.out.1.size _
    have hs1 := alloc1 wv (.cells #[.pointer none, .pointer (some ⟨tb, 0, none⟩), .int .i64 c.echo, .int .i64 c.magic, .int .i64 0, .int .i64 0, .int .i64 0] 64 (0, 0))
    have hlb : w.heap.size < wv.heap.size := (Array.getElem?_eq_some_iff.1 HZ.out.2).1
    obtain ⟨lb, hlbe⟩ : ∃ lb, lb = wv.heap.size := ⟨_, rfl⟩
    generalize hW1 : wv.alloc (.cells #[.pointer none, .pointer (some ⟨tb, 0, none⟩), .int .i64 c.echo, .int .i64 c.magic, .int .i64 0, .int .i64 0, .int .i64 0] 64 (0, 0)) = W1 at hz1 hl1 hw1 hs1 ⊢
    rw [← hlbe] at hl1 hs1 hlb ⊢
    clear hW1 hlbe HZ
    have HZ := Lib.hid (And.intro hz1 (And.intro hl1 (And.intro hw1 (And.intro hs1 hlb))))
    have HS : Hid (∀ W, Below W1.heap.size W1 W → (fun Y : World => Y.cell? ⟨w.heap.size, 0, none⟩ = some (.int .i64 c.mru) ∧ Y.cell? ⟨w.heap.size, 1, none⟩ = some (.int .i64 c.auth) ∧ Y.cell? ⟨w.heap.size, 2, none⟩ = some (.int .i64 c.magic) ∧ Y.cell? ⟨w.heap.size, 3, none⟩ = some (.int .i64 c.echo) ∧ Y.cell? ⟨w.heap.size, 4, none⟩ = some (.int .i64 c.cf) ∧ Y.cell? ⟨w.heap.size, 5, none⟩ = some (.int .i64 c.tm) ∧ Y.cell? ⟨w.heap.size, 6, none⟩ = some (.int .i64 c.fl) ∧ Y.cell? ⟨w.heap.size, 7, none⟩ = some (.int .i64 c.wt)) W) := Lib.hid fun W hW => by
      have h : W.heap[w.heap.size]? = some (.cells #[.int .i64 c.mru, .int .i64 c.auth, .int .i64 c.magic, .int .i64 c.echo, .int .i64 c.cf, .int .i64 c.tm, .int .i64 c.fl, .int .i64 c.wt] 24 (0, 0)) := (hW.block _ (by have := HZ.out.2.2.2.1; have := HZ.out.2.2.2.2; omega)).trans HZ.out.1
      exact ⟨cellOf h 0 _ rfl, cellOf h 1 _ rfl, cellOf h 2 _ rfl, cellOf h 3 _ rfl, cellOf h 4 _ rfl, cellOf h 5 _ rfl, cellOf h 6 _ rfl, cellOf h 7 _ rfl⟩
    have HLO := Lib.hid (fun W => lopts_any c W HIA.out)
    unfold cfgV at HLO
    have a1 : ∀ (W : World) (O : Obj), W.heap.size < (W.alloc O).heap.size := fun W O => by rw [alloc1]; omega
    have HA1 := Lib.hid a1
    have HG := Lib.hid (fun wE B bE nE => lnew_end (c := c) (w := w) (W1 := W1) (wE := wE) (lb := lb) (tb := tb) (okt := okt) (t := t) (B := B) hw1 hl1 (by have := H.out.2.1; exact TapeAt.keep this (Keep.of_below (fun _ => False) hw1) (fun h => h) (fun _ _ _ h => h)) (fun b hb => ⟨Nat.lt_of_lt_of_le (H.out.2.2 b hb) hw1.size, by have := H.out.2.2 b hb; omega⟩) (by have := H.out.2.1.lt; omega) (by omega) bE nE)
    obtain ⟨y0, y1, y2, y3, y4, y5, y6, y7⟩ := HS.out W1.drew (Below.refl _ _).drew
    clear hz1 hl1 hw1 hs1 hlb a1
    refine wp_region_H (rgH 0 23) (fun Y : World => Y.cell? ⟨w.heap.size, 0, none⟩ = some (.int .i64 c.mru) ∧ Y.cell? ⟨w.heap.size, 1, none⟩ = some (.int .i64 c.auth) ∧ Y.cell? ⟨w.heap.size, 2, none⟩ = some (.int .i64 c.magic) ∧ Y.cell? ⟨w.heap.size, 3, none⟩ = some (.int .i64 c.echo) ∧ Y.cell? ⟨w.heap.size, 4, none⟩ = some (.int .i64 c.cf) ∧ Y.cell? ⟨w.heap.size, 5, none⟩ = some (.int .i64 c.tm) ∧ Y.cell? ⟨w.heap.size, 6, none⟩ = some (.int .i64 c.fl) ∧ Y.cell? ⟨w.heap.size, 7, none⟩ = some (.int .i64 c.wt)) (by kernel_rfl) ?_
    have HSv : (fun Y : World => Y.cell? ⟨w.heap.size, 0, none⟩ = some (.int .i64 c.mru) ∧ Y.cell? ⟨w.heap.size, 1, none⟩ = some (.int .i64 c.auth) ∧ Y.cell? ⟨w.heap.size, 2, none⟩ = some (.int .i64 c.magic) ∧ Y.cell? ⟨w.heap.size, 3, none⟩ = some (.int .i64 c.echo) ∧ Y.cell? ⟨w.heap.size, 4, none⟩ = some (.int .i64 c.cf) ∧ Y.cell? ⟨w.heap.size, 5, none⟩ = some (.int .i64 c.tm) ∧ Y.cell? ⟨w.heap.size, 6, none⟩ = some (.int .i64 c.fl) ∧ Y.cell? ⟨w.heap.size, 7, none⟩ = some (.int .i64 c.wt)) W1.drew := HS.out _ (Below.refl _ _).drew
    have HB := Lib.hid (show Below W1.heap.size W1 W1.drew from (Below.refl _ _).drew)
    refine wpAnyH_at 0 (v := ?vv279) rfl (by kernel_rfl) (by kernel_rfl) (by kernel_rfl) (fun _ _ _ h => h) ?hy279 HSv ?hh279
    case hy279 =>
      refine Or.inl ⟨by rfl, ?_⟩
      intro W hW
      obtain ⟨h0, h1, h2, h3, h4, h5, h6, h7⟩ := hW
      go_simp
      try with_reducible rfl
    simp only [Act.put, List.setIfInBounds_toArray, List.set_cons_zero, List.set_cons_succ]
    refine wpAnyH_at 6 (v := ?vv280) rfl (by kernel_rfl) (by kernel_rfl) (by kernel_rfl) (fun _ _ _ h => h) ?hy280 HSv ?hh280
    case hy280 =>
      refine Or.inl ⟨by rfl, ?_⟩
      intro W hW
      obtain ⟨h0, h1, h2, h3, h4, h5, h6, h7⟩ := hW
      go_simp
      try with_reducible rfl
    simp only [Act.put, List.setIfInBounds_toArray, List.set_cons_zero, List.set_cons_succ]
    refine wpAnyH_at 7 (v := ?vv281) rfl (by kernel_rfl) (by kernel_rfl) (by kernel_rfl) (fun _ _ _ h => h) ?hy281 HSv ?hh281
    case hy281 =>
      refine Or.inl ⟨by rfl, ?_⟩
      intro W hW
      obtain ⟨h0, h1, h2, h3, h4, h5, h6, h7⟩ := hW
      go_simp
      try with_reducible rfl
    simp only [Act.put, List.setIfInBounds_toArray, List.set_cons_zero, List.set_cons_succ]
    refine wpAnyH_at 8 (v := ?vv282) rfl (by kernel_rfl) (by kernel_rfl) (by kernel_rfl) (fun _ _ _ h => h) ?hy282 HSv ?hh282
    case hy282 =>
      refine Or.inl ⟨by rfl, ?_⟩
      intro W hW
      obtain ⟨h0, h1, h2, h3, h4, h5, h6, h7⟩ := hW
      go_simp
      try with_reducible rfl
    simp only [Act.put, List.setIfInBounds_toArray, List.set_cons_zero, List.set_cons_succ]
    refine wpAnyH_at 9 (v := ?vv283) rfl (by kernel_rfl) (by kernel_rfl) (by kernel_rfl) (fun _ _ _ h => h) ?hy283 HSv ?hh283
    case hy283 =>
      refine Or.inl ⟨by rfl, ?_⟩
      intro W hW
      obtain ⟨h0, h1, h2, h3, h4, h5, h6, h7⟩ := hW
      go_simp
      try with_reducible rfl
    simp only [Act.put, List.setIfInBounds_toArray, List.set_cons_zero, List.set_cons_succ]
    refine wpAnyH_at 10 (v := ?vv284) rfl (by kernel_rfl) (by kernel_rfl) (by kernel_rfl) (fun _ _ _ h => h) ?hy284 HSv ?hh284
    case hy284 =>
      refine Or.inl ⟨by rfl, ?_⟩
      intro W hW
      obtain ⟨h0, h1, h2, h3, h4, h5, h6, h7⟩ := hW
      go_simp
      try with_reducible rfl
    simp only [Act.put, List.setIfInBounds_toArray, List.set_cons_zero, List.set_cons_succ]
    refine wpAnyH_at 11 (v := ?vv285) rfl (by kernel_rfl) (by kernel_rfl) (by kernel_rfl) (fun _ _ _ h => h) ?hy285 HSv ?hh285
    case hy285 =>
      refine Or.inl ⟨by rfl, ?_⟩
      intro W hW
      obtain ⟨h0, h1, h2, h3, h4, h5, h6, h7⟩ := hW
      go_simp
      try with_reducible rfl
    simp only [Act.put, List.setIfInBounds_toArray, List.set_cons_zero, List.set_cons_succ]
    refine wpAnyH_at 12 (v := ?vv286) rfl (by kernel_rfl) (by kernel_rfl) (by kernel_rfl) (fun _ _ _ h => h) ?hy286 HSv ?hh286
    case hy286 =>
      refine Or.inl ⟨by rfl, ?_⟩
      intro W hW
      obtain ⟨h0, h1, h2, h3, h4, h5, h6, h7⟩ := hW
      go_simp
      try with_reducible rfl
    simp only [Act.put, List.setIfInBounds_toArray, List.set_cons_zero, List.set_cons_succ]
    refine wpAnyH_at 13 (v := ?vv287) rfl (by kernel_rfl) (by kernel_rfl) (by kernel_rfl) (fun _ _ _ h => h) ?hy287 HSv ?hh287
    case hy287 =>
      refine Or.inl ⟨by rfl, ?_⟩
      intro W hW
      obtain ⟨h0, h1, h2, h3, h4, h5, h6, h7⟩ := hW
      go_simp
      try with_reducible rfl
    simp only [Act.put, List.setIfInBounds_toArray, List.set_cons_zero, List.set_cons_succ]
    refine wpAnyH_at 15 (v := ?vv288) rfl (by kernel_rfl) (by kernel_rfl) (by kernel_rfl) (fun _ _ _ h => h) ?hy288 HSv ?hh288
    case hy288 =>
      refine Or.inl ⟨by rfl, ?_⟩
      intro W hW
      obtain ⟨h0, h1, h2, h3, h4, h5, h6, h7⟩ := hW
      go_simp
      try with_reducible rfl
    simp only [Act.put, List.setIfInBounds_toArray, List.set_cons_zero, List.set_cons_succ]
    refine wpAnyH_at 16 (v := ?vv289) rfl (by kernel_rfl) (by kernel_rfl) (by kernel_rfl) (fun _ _ _ h => h) ?hy289 HSv ?hh289
    case hy289 =>
      refine Or.inl ⟨by rfl, ?_⟩
      intro W hW
      obtain ⟨h0, h1, h2, h3, h4, h5, h6, h7⟩ := hW
      go_simp
      try with_reducible rfl
    simp only [Act.put, List.setIfInBounds_toArray, List.set_cons_zero, List.set_cons_succ]
    generalize W1.drew = W at HSv HB ⊢
    refine wpAnyH_2 1 5 rfl rfl (by kernel_rfl) ?_ ?_
    · intro K hK
      rw [if_pos (by rfl)]
      try go_simp
      go_at_call 18
      refine (HLO.out _).mono ?_
      rintro e W2 ⟨vA, rfl, rA, bA⟩
      obtain ⟨sA, cA, rfl⟩ := rA.form
      have HR := Lib.hid (rA.base HB.out.size)
      have HB := Lib.hid (HB.out.trans (bA.mono HB.out.size))
      have HSv : (fun Y : World => Y.cell? ⟨w.heap.size, 0, none⟩ = some (.int .i64 c.mru) ∧ Y.cell? ⟨w.heap.size, 1, none⟩ = some (.int .i64 c.auth) ∧ Y.cell? ⟨w.heap.size, 2, none⟩ = some (.int .i64 c.magic) ∧ Y.cell? ⟨w.heap.size, 3, none⟩ = some (.int .i64 c.echo) ∧ Y.cell? ⟨w.heap.size, 4, none⟩ = some (.int .i64 c.cf) ∧ Y.cell? ⟨w.heap.size, 5, none⟩ = some (.int .i64 c.tm) ∧ Y.cell? ⟨w.heap.size, 6, none⟩ = some (.int .i64 c.fl) ∧ Y.cell? ⟨w.heap.size, 7, none⟩ = some (.int .i64 c.wt)) W2 := HS.out _ HB.out
      refine hK _ _ (fun _ => HSv) ?_
      try simp only [Act.put, List.setIfInBounds_toArray, List.set_cons_zero, List.set_cons_succ]
      clear rA bA
      refine wpAnyH_2 2 5 rfl rfl (by kernel_rfl) ?_ ?_
      · intro K hK
        rw [if_pos (by rfl)]
        try go_simp
        go_at_call 35
        refine (units_any 1492 _).mono ?_
        rintro e W3 ⟨rfl, bA⟩
        have HR := Lib.hid (HR.out.below bA)
        have HB := Lib.hid (HB.out.trans (bA.mono HB.out.size))
        have HSv : (fun Y : World => Y.cell? ⟨w.heap.size, 0, none⟩ = some (.int .i64 c.mru) ∧ Y.cell? ⟨w.heap.size, 1, none⟩ = some (.int .i64 c.auth) ∧ Y.cell? ⟨w.heap.size, 2, none⟩ = some (.int .i64 c.magic) ∧ Y.cell? ⟨w.heap.size, 3, none⟩ = some (.int .i64 c.echo) ∧ Y.cell? ⟨w.heap.size, 4, none⟩ = some (.int .i64 c.cf) ∧ Y.cell? ⟨w.heap.size, 5, none⟩ = some (.int .i64 c.tm) ∧ Y.cell? ⟨w.heap.size, 6, none⟩ = some (.int .i64 c.fl) ∧ Y.cell? ⟨w.heap.size, 7, none⟩ = some (.int .i64 c.wt)) W3 := HS.out _ HB.out
        refine hK _ _ (fun _ => HSv) ?_
        try simp only [Act.put, List.setIfInBounds_toArray, List.set_cons_zero, List.set_cons_succ]
        clear bA
        refine wpAnyH_2 3 5 rfl rfl (by kernel_rfl) ?_ ?_
        · intro K hK
          rw [if_pos (by rfl)]
          try go_simp
          go_at_call 36
          refine (magics_any _).mono ?_
          rintro e W4 ⟨rfl, bA⟩
          have HR := Lib.hid (HR.out.below bA)
          have HB := Lib.hid (HB.out.trans (bA.mono HB.out.size))
          have HSv : (fun Y : World => Y.cell? ⟨w.heap.size, 0, none⟩ = some (.int .i64 c.mru) ∧ Y.cell? ⟨w.heap.size, 1, none⟩ = some (.int .i64 c.auth) ∧ Y.cell? ⟨w.heap.size, 2, none⟩ = some (.int .i64 c.magic) ∧ Y.cell? ⟨w.heap.size, 3, none⟩ = some (.int .i64 c.echo) ∧ Y.cell? ⟨w.heap.size, 4, none⟩ = some (.int .i64 c.cf) ∧ Y.cell? ⟨w.heap.size, 5, none⟩ = some (.int .i64 c.tm) ∧ Y.cell? ⟨w.heap.size, 6, none⟩ = some (.int .i64 c.fl) ∧ Y.cell? ⟨w.heap.size, 7, none⟩ = some (.int .i64 c.wt)) W4 := HS.out _ HB.out
          refine hK _ _ (fun _ => HSv) ?_
          try simp only [Act.put, List.setIfInBounds_toArray, List.set_cons_zero, List.set_cons_succ]
          clear bA
          refine wpAnyH_2 4 5 rfl rfl (by kernel_rfl) ?_ ?_
          · intro K hK
            rw [if_pos (by rfl)]
            try go_simp
            have bA : Below W4.heap.size W4 (W4.alloc (.cells #[.int .i64 1, .int .i64 2, .int .i64 64, .int .i64 1492, .string (be2 1492), .int .i64 5, .int .i64 4, .int .i64 1, .int .i64 4294967295, .string (be4 1)] 73 (0, 0))) := (Below.refl _ _).alloc (Nat.le_refl _) _
            have hz := at1 W4 (.cells #[.int .i64 1, .int .i64 2, .int .i64 64, .int .i64 1492, .string (be2 1492), .int .i64 5, .int .i64 4, .int .i64 1, .int .i64 4294967295, .string (be4 1)] 73 (0, 0))
            generalize hW5 : W4.alloc (.cells #[.int .i64 1, .int .i64 2, .int .i64 64, .int .i64 1492, .string (be2 1492), .int .i64 5, .int .i64 4, .int .i64 1, .int .i64 4294967295, .string (be4 1)] 73 (0, 0)) = W5 at bA hz ⊢
            obtain ⟨rb, hrb⟩ : ∃ rb, rb = W4.heap.size := ⟨_, rfl⟩
            rw [← hrb] at hz ⊢
            have HRu := Lib.hid hz
            have HR := Lib.hid (HR.out.below bA)
            have HB := Lib.hid (HB.out.trans (bA.mono HB.out.size))
            have HSv : (fun Y : World => Y.cell? ⟨w.heap.size, 0, none⟩ = some (.int .i64 c.mru) ∧ Y.cell? ⟨w.heap.size, 1, none⟩ = some (.int .i64 c.auth) ∧ Y.cell? ⟨w.heap.size, 2, none⟩ = some (.int .i64 c.magic) ∧ Y.cell? ⟨w.heap.size, 3, none⟩ = some (.int .i64 c.echo) ∧ Y.cell? ⟨w.heap.size, 4, none⟩ = some (.int .i64 c.cf) ∧ Y.cell? ⟨w.heap.size, 5, none⟩ = some (.int .i64 c.tm) ∧ Y.cell? ⟨w.heap.size, 6, none⟩ = some (.int .i64 c.fl) ∧ Y.cell? ⟨w.heap.size, 7, none⟩ = some (.int .i64 c.wt)) W5 := HS.out _ HB.out
            refine hK _ _ (fun _ => HSv) ?_
            try simp only [Act.put, List.setIfInBounds_toArray, List.set_cons_zero, List.set_cons_succ]
            clear bA hz hW5 hrb
            refine wpAnyH_1 5 rfl (by kernel_rfl) ?_
            intro K hK
            rw [if_pos (by rfl)]
            try go_simp
            have bA : Below W5.heap.size W5 (W5.alloc (.cells #[.int .i64 3] 3 (0, 0))) := (Below.refl _ _).alloc (Nat.le_refl _) _
            have hz := at1 W5 (.cells #[.int .i64 3] 3 (0, 0))
            generalize hW6 : W5.alloc (.cells #[.int .i64 3] 3 (0, 0)) = W6 at bA hz ⊢
            obtain ⟨ib, hib⟩ : ∃ ib, ib = W5.heap.size := ⟨_, rfl⟩
            rw [← hib] at hz ⊢
            have HI := Lib.hid hz
            have HR := Lib.hid (HR.out.below bA)
            have HRu := Lib.hid ((bA.block _ (Array.getElem?_eq_some_iff.1 HRu.out).1).trans HRu.out)
            have HB := Lib.hid (HB.out.trans (bA.mono HB.out.size))
            have HSv : (fun Y : World => Y.cell? ⟨w.heap.size, 0, none⟩ = some (.int .i64 c.mru) ∧ Y.cell? ⟨w.heap.size, 1, none⟩ = some (.int .i64 c.auth) ∧ Y.cell? ⟨w.heap.size, 2, none⟩ = some (.int .i64 c.magic) ∧ Y.cell? ⟨w.heap.size, 3, none⟩ = some (.int .i64 c.echo) ∧ Y.cell? ⟨w.heap.size, 4, none⟩ = some (.int .i64 c.cf) ∧ Y.cell? ⟨w.heap.size, 5, none⟩ = some (.int .i64 c.tm) ∧ Y.cell? ⟨w.heap.size, 6, none⟩ = some (.int .i64 c.fl) ∧ Y.cell? ⟨w.heap.size, 7, none⟩ = some (.int .i64 c.wt)) W6 := HS.out _ HB.out
            refine hK _ _ (fun _ => HSv) ?_
            try simp only [Act.put, List.setIfInBounds_toArray, List.set_cons_zero, List.set_cons_succ]
            clear bA hz hW6 hib
            refine wpAnyH_at 14 (v := ?vv290) rfl (by kernel_rfl) (by kernel_rfl) (by kernel_rfl) (fun _ _ _ h => h) ?hy290 HSv ?hh290
            case hy290 =>
              refine Or.inl ⟨by rfl, ?_⟩
              intro W hW
              obtain ⟨h0, h1, h2, h3, h4, h5, h6, h7⟩ := hW
              go_simp
              try with_reducible rfl
            simp only [Act.put, List.setIfInBounds_toArray, List.set_cons_zero, List.set_cons_succ]
            refine wpAnyH_1 17 rfl (by kernel_rfl) ?_
            intro K hK
            rw [if_pos (by rfl)]
            try go_simp
            go_at_call 34
            refine (HNN.out lb W1 W6 sA cA rb ib HB.out HR.out HRu.out HI.out).mono ?_
            rintro e wE ⟨B, rfl, nE, bE⟩
            have zl := (bE.block lb (Array.getElem?_eq_some_iff.1 HZ.out.2.1).1).trans HZ.out.2.1
            have f0 := fzOf zl 0
            have c0 : wE.cell? ⟨lb, 0, none⟩ = some (.pointer none) := cellOf zl 0 _ rfl
            have HN := Lib.hid (And.intro bE nE)
            have HSv : (fun Y : World => Y.cell? ⟨w.heap.size, 0, none⟩ = some (.int .i64 c.mru) ∧ Y.cell? ⟨w.heap.size, 1, none⟩ = some (.int .i64 c.auth) ∧ Y.cell? ⟨w.heap.size, 2, none⟩ = some (.int .i64 c.magic) ∧ Y.cell? ⟨w.heap.size, 3, none⟩ = some (.int .i64 c.echo) ∧ Y.cell? ⟨w.heap.size, 4, none⟩ = some (.int .i64 c.cf) ∧ Y.cell? ⟨w.heap.size, 5, none⟩ = some (.int .i64 c.tm) ∧ Y.cell? ⟨w.heap.size, 6, none⟩ = some (.int .i64 c.fl) ∧ Y.cell? ⟨w.heap.size, 7, none⟩ = some (.int .i64 c.wt)) wE := HS.out _ bE
            clear bE nE zl
            refine hK _ _ (fun _ => HSv) ?_
            try simp only [Act.put, List.setIfInBounds_toArray, List.set_cons_zero, List.set_cons_succ]
            refine wpAnyH_at 18 (v := ?vv291) rfl (by kernel_rfl) (by kernel_rfl) (by kernel_rfl) (fun _ _ _ h => h) ?hy291 HSv ?hh291
            case hy291 =>
              refine Or.inl ⟨by rfl, ?_⟩
              intro W hW
              obtain ⟨h0, h1, h2, h3, h4, h5, h6, h7⟩ := hW
              go_simp
              try with_reducible rfl
            simp only [Act.put, List.setIfInBounds_toArray, List.set_cons_zero, List.set_cons_succ]
            refine wpAnyH_at 19 (v := ?vv292) rfl (by kernel_rfl) (by kernel_rfl) (by kernel_rfl) (fun _ _ _ h => h) ?hy292 HSv ?hh292
            case hy292 =>
              refine Or.inl ⟨by rfl, ?_⟩
              intro W hW
              obtain ⟨h0, h1, h2, h3, h4, h5, h6, h7⟩ := hW
              go_simp
              try with_reducible rfl
            simp only [Act.put, List.setIfInBounds_toArray, List.set_cons_zero, List.set_cons_succ]
            refine wpAnyH_at 21 (v := ?vv293) rfl (by kernel_rfl) (by kernel_rfl) (by kernel_rfl) (fun _ _ _ h => h) ?hy293 HSv ?hh293
            case hy293 =>
              refine Or.inl ⟨by rfl, ?_⟩
              intro W hW
              obtain ⟨h0, h1, h2, h3, h4, h5, h6, h7⟩ := hW
              go_simp
              try with_reducible rfl
            simp only [Act.put, List.setIfInBounds_toArray, List.set_cons_zero, List.set_cons_succ]
            refine wpAnyH_at 20 (v := ?vv294) rfl (by kernel_rfl) (by kernel_rfl) (by kernel_rfl) (fun _ _ _ h => h) ?hy294 HSv ?hh294
            case hy294 =>
              refine Or.inl ⟨by rfl, ?_⟩
              intro W hW
              obtain ⟨h0, h1, h2, h3, h4, h5, h6, h7⟩ := hW
              go_simp
              try with_reducible rfl
            simp only [Act.put, List.setIfInBounds_toArray, List.set_cons_zero, List.set_cons_succ]
            refine wpAnyH_at 22 (v := ?vv295) rfl (by kernel_rfl) (by kernel_rfl) (by kernel_rfl) (fun _ _ _ h => h) ?hy295 HSv ?hh295
            case hy295 =>
              refine Or.inl ⟨by rfl, ?_⟩
              intro W hW
              obtain ⟨h0, h1, h2, h3, h4, h5, h6, h7⟩ := hW
              go_simp
              try with_reducible rfl
            simp only [Act.put, List.setIfInBounds_toArray, List.set_cons_zero, List.set_cons_succ]
            refine wpAnyH_end 23 (fun j hj => rgH_end _ _ j (by omega)) (by rfl) (by kernel_rfl) ?_
            simp only [List.drop_succ_cons, List.drop_zero]
            clear HSv
            go_wp2_with fail
            go_ret2
            exact HG.out wE B HN.out.1 HN.out.2
          · intro K hK
            rw [if_pos (by rfl)]
            try go_simp
            have bA : Below W4.heap.size W4 (W4.alloc (.cells #[.int .i64 3] 3 (0, 0))) := (Below.refl _ _).alloc (Nat.le_refl _) _
            have hz := at1 W4 (.cells #[.int .i64 3] 3 (0, 0))
            generalize hW5 : W4.alloc (.cells #[.int .i64 3] 3 (0, 0)) = W5 at bA hz ⊢
            obtain ⟨ib, hib⟩ : ∃ ib, ib = W4.heap.size := ⟨_, rfl⟩
            rw [← hib] at hz ⊢
            have HI := Lib.hid hz
            have HR := Lib.hid (HR.out.below bA)
            have HB := Lib.hid (HB.out.trans (bA.mono HB.out.size))
            have HSv : (fun Y : World => Y.cell? ⟨w.heap.size, 0, none⟩ = some (.int .i64 c.mru) ∧ Y.cell? ⟨w.heap.size, 1, none⟩ = some (.int .i64 c.auth) ∧ Y.cell? ⟨w.heap.size, 2, none⟩ = some (.int .i64 c.magic) ∧ Y.cell? ⟨w.heap.size, 3, none⟩ = some (.int .i64 c.echo) ∧ Y.cell? ⟨w.heap.size, 4, none⟩ = some (.int .i64 c.cf) ∧ Y.cell? ⟨w.heap.size, 5, none⟩ = some (.int .i64 c.tm) ∧ Y.cell? ⟨w.heap.size, 6, none⟩ = some (.int .i64 c.fl) ∧ Y.cell? ⟨w.heap.size, 7, none⟩ = some (.int .i64 c.wt)) W5 := HS.out _ HB.out
            refine hK _ _ (fun _ => HSv) ?_
            try simp only [Act.put, List.setIfInBounds_toArray, List.set_cons_zero, List.set_cons_succ]
            clear bA hz hW5 hib
            refine wpAnyH_1 4 rfl (by kernel_rfl) ?_
            intro K hK
            rw [if_pos (by rfl)]
            try go_simp
            have bA : Below W5.heap.size W5 (W5.alloc (.cells #[.int .i64 1, .int .i64 2, .int .i64 64, .int .i64 1492, .string (be2 1492), .int .i64 5, .int .i64 4, .int .i64 1, .int .i64 4294967295, .string (be4 1)] 73 (0, 0))) := (Below.refl _ _).alloc (Nat.le_refl _) _
            have hz := at1 W5 (.cells #[.int .i64 1, .int .i64 2, .int .i64 64, .int .i64 1492, .string (be2 1492), .int .i64 5, .int .i64 4, .int .i64 1, .int .i64 4294967295, .string (be4 1)] 73 (0, 0))
            generalize hW6 : W5.alloc (.cells #[.int .i64 1, .int .i64 2, .int .i64 64, .int .i64 1492, .string (be2 1492), .int .i64 5, .int .i64 4, .int .i64 1, .int .i64 4294967295, .string (be4 1)] 73 (0, 0)) = W6 at bA hz ⊢
            obtain ⟨rb, hrb⟩ : ∃ rb, rb = W5.heap.size := ⟨_, rfl⟩
            rw [← hrb] at hz ⊢
            have HRu := Lib.hid hz
            have HR := Lib.hid (HR.out.below bA)
            have HB := Lib.hid (HB.out.trans (bA.mono HB.out.size))
            have HSv : (fun Y : World => Y.cell? ⟨w.heap.size, 0, none⟩ = some (.int .i64 c.mru) ∧ Y.cell? ⟨w.heap.size, 1, none⟩ = some (.int .i64 c.auth) ∧ Y.cell? ⟨w.heap.size, 2, none⟩ = some (.int .i64 c.magic) ∧ Y.cell? ⟨w.heap.size, 3, none⟩ = some (.int .i64 c.echo) ∧ Y.cell? ⟨w.heap.size, 4, none⟩ = some (.int .i64 c.cf) ∧ Y.cell? ⟨w.heap.size, 5, none⟩ = some (.int .i64 c.tm) ∧ Y.cell? ⟨w.heap.size, 6, none⟩ = some (.int .i64 c.fl) ∧ Y.cell? ⟨w.heap.size, 7, none⟩ = some (.int .i64 c.wt)) W6 := HS.out _ HB.out
            have HI := Lib.hid ((bA.block _ (Array.getElem?_eq_some_iff.1 HI.out).1).trans HI.out)
            refine hK _ _ (fun _ => HSv) ?_
            try simp only [Act.put, List.setIfInBounds_toArray, List.set_cons_zero, List.set_cons_succ]
            clear bA hz hW6 hrb
            refine wpAnyH_at 14 (v := ?vv296) rfl (by kernel_rfl) (by kernel_rfl) (by kernel_rfl) (fun _ _ _ h => h) ?hy296 HSv ?hh296
            case hy296 =>
              refine Or.inl ⟨by rfl, ?_⟩
              intro W hW
              obtain ⟨h0, h1, h2, h3, h4, h5, h6, h7⟩ := hW
              go_simp
              try with_reducible rfl
            simp only [Act.put, List.setIfInBounds_toArray, List.set_cons_zero, List.set_cons_succ]
            refine wpAnyH_1 17 rfl (by kernel_rfl) ?_
            intro K hK
            rw [if_pos (by rfl)]
            try go_simp
            go_at_call 34
            refine (HNN.out lb W1 W6 sA cA rb ib HB.out HR.out HRu.out HI.out).mono ?_
            rintro e wE ⟨B, rfl, nE, bE⟩
            have zl := (bE.block lb (Array.getElem?_eq_some_iff.1 HZ.out.2.1).1).trans HZ.out.2.1
            have f0 := fzOf zl 0
            have c0 : wE.cell? ⟨lb, 0, none⟩ = some (.pointer none) := cellOf zl 0 _ rfl
            have HN := Lib.hid (And.intro bE nE)
            have HSv : (fun Y : World => Y.cell? ⟨w.heap.size, 0, none⟩ = some (.int .i64 c.mru) ∧ Y.cell? ⟨w.heap.size, 1, none⟩ = some (.int .i64 c.auth) ∧ Y.cell? ⟨w.heap.size, 2, none⟩ = some (.int .i64 c.magic) ∧ Y.cell? ⟨w.heap.size, 3, none⟩ = some (.int .i64 c.echo) ∧ Y.cell? ⟨w.heap.size, 4, none⟩ = some (.int .i64 c.cf) ∧ Y.cell? ⟨w.heap.size, 5, none⟩ = some (.int .i64 c.tm) ∧ Y.cell? ⟨w.heap.size, 6, none⟩ = some (.int .i64 c.fl) ∧ Y.cell? ⟨w.heap.size, 7, none⟩ = some (.int .i64 c.wt)) wE := HS.out _ bE
            clear bE nE zl
            refine hK _ _ (fun _ => HSv) ?_
            try simp only [Act.put, List.setIfInBounds_toArray, List.set_cons_zero, List.set_cons_succ]
            refine wpAnyH_at 18 (v := ?vv297) rfl (by kernel_rfl) (by kernel_rfl) (by kernel_rfl) (fun _ _ _ h => h) ?hy297 HSv ?hh297
            case hy297 =>
              refine Or.inl ⟨by rfl, ?_⟩
              intro W hW
              obtain ⟨h0, h1, h2, h3, h4, h5, h6, h7⟩ := hW
              go_simp
              try with_reducible rfl
            simp only [Act.put, List.setIfInBounds_toArray, List.set_cons_zero, List.set_cons_succ]
            refine wpAnyH_at 19 (v := ?vv298) rfl (by kernel_rfl) (by kernel_rfl) (by kernel_rfl) (fun _ _ _ h => h) ?hy298 HSv ?hh298
            case hy298 =>
              refine Or.inl ⟨by rfl, ?_⟩
              intro W hW
              obtain ⟨h0, h1, h2, h3, h4, h5, h6, h7⟩ := hW
              go_simp
              try with_reducible rfl
            simp only [Act.put, List.setIfInBounds_toArray, List.set_cons_zero, List.set_cons_succ]
            refine wpAnyH_at 21 (v := ?vv299) rfl (by kernel_rfl) (by kernel_rfl) (by kernel_rfl) (fun _ _ _ h => h) ?hy299 HSv ?hh299
            case hy299 =>
              refine Or.inl ⟨by rfl, ?_⟩
              intro W hW
              obtain ⟨h0, h1, h2, h3, h4, h5, h6, h7⟩ := hW
              go_simp
              try with_reducible rfl
            simp only [Act.put, List.setIfInBounds_toArray, List.set_cons_zero, List.set_cons_succ]
            refine wpAnyH_at 20 (v := ?vv300) rfl (by kernel_rfl) (by kernel_rfl) (by kernel_rfl) (fun _ _ _ h => h) ?hy300 HSv ?hh300
            case hy300 =>
              refine Or.inl ⟨by rfl, ?_⟩
              intro W hW
              obtain ⟨h0, h1, h2, h3, h4, h5, h6, h7⟩ := hW
              go_simp
              try with_reducible rfl
            simp only [Act.put, List.setIfInBounds_toArray, List.set_cons_zero, List.set_cons_succ]
            refine wpAnyH_at 22 (v := ?vv301) rfl (by kernel_rfl) (by kernel_rfl) (by kernel_rfl) (fun _ _ _ h => h) ?hy301 HSv ?hh301
            case hy301 =>
              refine Or.inl ⟨by rfl, ?_⟩
              intro W hW
              obtain ⟨h0, h1, h2, h3, h4, h5, h6, h7⟩ := hW
              go_simp
              try with_reducible rfl
            simp only [Act.put, List.setIfInBounds_toArray, List.set_cons_zero, List.set_cons_succ]
            refine wpAnyH_end 23 (fun j hj => rgH_end _ _ j (by omega)) (by rfl) (by kernel_rfl) ?_
            simp only [List.drop_succ_cons, List.drop_zero]
            clear HSv
            go_wp2_with fail
            go_ret2
            exact HG.out wE B HN.out.1 HN.out.2
        · intro K hK
          rw [if_pos (by rfl)]
          try go_simp
          have bA : Below W3.heap.size W3 (W3.alloc (.cells #[.int .i64 3] 3 (0, 0))) := (Below.refl _ _).alloc (Nat.le_refl _) _
          have hz := at1 W3 (.cells #[.int .i64 3] 3 (0, 0))
          generalize hW4 : W3.alloc (.cells #[.int .i64 3] 3 (0, 0)) = W4 at bA hz ⊢
          obtain ⟨ib, hib⟩ : ∃ ib, ib = W3.heap.size := ⟨_, rfl⟩
          rw [← hib] at hz ⊢
          have HI := Lib.hid hz
          have HR := Lib.hid (HR.out.below bA)
          have HB := Lib.hid (HB.out.trans (bA.mono HB.out.size))
          have HSv : (fun Y : World => Y.cell? ⟨w.heap.size, 0, none⟩ = some (.int .i64 c.mru) ∧ Y.cell? ⟨w.heap.size, 1, none⟩ = some (.int .i64 c.auth) ∧ Y.cell? ⟨w.heap.size, 2, none⟩ = some (.int .i64 c.magic) ∧ Y.cell? ⟨w.heap.size, 3, none⟩ = some (.int .i64 c.echo) ∧ Y.cell? ⟨w.heap.size, 4, none⟩ = some (.int .i64 c.cf) ∧ Y.cell? ⟨w.heap.size, 5, none⟩ = some (.int .i64 c.tm) ∧ Y.cell? ⟨w.heap.size, 6, none⟩ = some (.int .i64 c.fl) ∧ Y.cell? ⟨w.heap.size, 7, none⟩ = some (.int .i64 c.wt)) W4 := HS.out _ HB.out
          refine hK _ _ (fun _ => HSv) ?_
          try simp only [Act.put, List.setIfInBounds_toArray, List.set_cons_zero, List.set_cons_succ]
          clear bA hz hW4 hib
          refine wpAnyH_1 3 rfl (by kernel_rfl) ?_
          intro K hK
          rw [if_pos (by rfl)]
          try go_simp
          go_at_call 36
          refine (magics_any _).mono ?_
          rintro e W5 ⟨rfl, bA⟩
          have HR := Lib.hid (HR.out.below bA)
          have HB := Lib.hid (HB.out.trans (bA.mono HB.out.size))
          have HSv : (fun Y : World => Y.cell? ⟨w.heap.size, 0, none⟩ = some (.int .i64 c.mru) ∧ Y.cell? ⟨w.heap.size, 1, none⟩ = some (.int .i64 c.auth) ∧ Y.cell? ⟨w.heap.size, 2, none⟩ = some (.int .i64 c.magic) ∧ Y.cell? ⟨w.heap.size, 3, none⟩ = some (.int .i64 c.echo) ∧ Y.cell? ⟨w.heap.size, 4, none⟩ = some (.int .i64 c.cf) ∧ Y.cell? ⟨w.heap.size, 5, none⟩ = some (.int .i64 c.tm) ∧ Y.cell? ⟨w.heap.size, 6, none⟩ = some (.int .i64 c.fl) ∧ Y.cell? ⟨w.heap.size, 7, none⟩ = some (.int .i64 c.wt)) W5 := HS.out _ HB.out
          have HI := Lib.hid ((bA.block _ (Array.getElem?_eq_some_iff.1 HI.out).1).trans HI.out)
          refine hK _ _ (fun _ => HSv) ?_
          try simp only [Act.put, List.setIfInBounds_toArray, List.set_cons_zero, List.set_cons_succ]
          clear bA
          refine wpAnyH_1 4 rfl (by kernel_rfl) ?_
          intro K hK
          rw [if_pos (by rfl)]
          try go_simp
          have bA : Below W5.heap.size W5 (W5.alloc (.cells #[.int .i64 1, .int .i64 2, .int .i64 64, .int .i64 1492, .string (be2 1492), .int .i64 5, .int .i64 4, .int .i64 1, .int .i64 4294967295, .string (be4 1)] 73 (0, 0))) := (Below.refl _ _).alloc (Nat.le_refl _) _
          have hz := at1 W5 (.cells #[.int .i64 1, .int .i64 2, .int .i64 64, .int .i64 1492, .string (be2 1492), .int .i64 5, .int .i64 4, .int .i64 1, .int .i64 4294967295, .string (be4 1)] 73 (0, 0))
          generalize hW6 : W5.alloc (.cells #[.int .i64 1, .int .i64 2, .int .i64 64, .int .i64 1492, .string (be2 1492), .int .i64 5, .int .i64 4, .int .i64 1, .int .i64 4294967295, .string (be4 1)] 73 (0, 0)) = W6 at bA hz ⊢
          obtain ⟨rb, hrb⟩ : ∃ rb, rb = W5.heap.size := ⟨_, rfl⟩
          rw [← hrb] at hz ⊢
          have HRu := Lib.hid hz
          have HR := Lib.hid (HR.out.below bA)
          have HB := Lib.hid (HB.out.trans (bA.mono HB.out.size))
          have HSv : (fun Y : World => Y.cell? ⟨w.heap.size, 0, none⟩ = some (.int .i64 c.mru) ∧ Y.cell? ⟨w.heap.size, 1, none⟩ = some (.int .i64 c.auth) ∧ Y.cell? ⟨w.heap.size, 2, none⟩ = some (.int .i64 c.magic) ∧ Y.cell? ⟨w.heap.size, 3, none⟩ = some (.int .i64 c.echo) ∧ Y.cell? ⟨w.heap.size, 4, none⟩ = some (.int .i64 c.cf) ∧ Y.cell? ⟨w.heap.size, 5, none⟩ = some (.int .i64 c.tm) ∧ Y.cell? ⟨w.heap.size, 6, none⟩ = some (.int .i64 c.fl) ∧ Y.cell? ⟨w.heap.size, 7, none⟩ = some (.int .i64 c.wt)) W6 := HS.out _ HB.out
          have HI := Lib.hid ((bA.block _ (Array.getElem?_eq_some_iff.1 HI.out).1).trans HI.out)
          refine hK _ _ (fun _ => HSv) ?_
          try simp only [Act.put, List.setIfInBounds_toArray, List.set_cons_zero, List.set_cons_succ]
          clear bA hz hW6 hrb
          refine wpAnyH_at 14 (v := ?vv302) rfl (by kernel_rfl) (by kernel_rfl) (by kernel_rfl) (fun _ _ _ h => h) ?hy302 HSv ?hh302
          case hy302 =>
            refine Or.inl ⟨by rfl, ?_⟩
            intro W hW
            obtain ⟨h0, h1, h2, h3, h4, h5, h6, h7⟩ := hW
            go_simp
            try with_reducible rfl
          simp only [Act.put, List.setIfInBounds_toArray, List.set_cons_zero, List.set_cons_succ]
          refine wpAnyH_1 17 rfl (by kernel_rfl) ?_
          intro K hK
          rw [if_pos (by rfl)]
          try go_simp
          go_at_call 34
          refine (HNN.out lb W1 W6 sA cA rb ib HB.out HR.out HRu.out HI.out).mono ?_
          rintro e wE ⟨B, rfl, nE, bE⟩
          have zl := (bE.block lb (Array.getElem?_eq_some_iff.1 HZ.out.2.1).1).trans HZ.out.2.1
          have f0 := fzOf zl 0
          have c0 : wE.cell? ⟨lb, 0, none⟩ = some (.pointer none) := cellOf zl 0 _ rfl
          have HN := Lib.hid (And.intro bE nE)
          have HSv : (fun Y : World => Y.cell? ⟨w.heap.size, 0, none⟩ = some (.int .i64 c.mru) ∧ Y.cell? ⟨w.heap.size, 1, none⟩ = some (.int .i64 c.auth) ∧ Y.cell? ⟨w.heap.size, 2, none⟩ = some (.int .i64 c.magic) ∧ Y.cell? ⟨w.heap.size, 3, none⟩ = some (.int .i64 c.echo) ∧ Y.cell? ⟨w.heap.size, 4, none⟩ = some (.int .i64 c.cf) ∧ Y.cell? ⟨w.heap.size, 5, none⟩ = some (.int .i64 c.tm) ∧ Y.cell? ⟨w.heap.size, 6, none⟩ = some (.int .i64 c.fl) ∧ Y.cell? ⟨w.heap.size, 7, none⟩ = some (.int .i64 c.wt)) wE := HS.out _ bE
          clear bE nE zl
          refine hK _ _ (fun _ => HSv) ?_
          try simp only [Act.put, List.setIfInBounds_toArray, List.set_cons_zero, List.set_cons_succ]
          refine wpAnyH_at 18 (v := ?vv303) rfl (by kernel_rfl) (by kernel_rfl) (by kernel_rfl) (fun _ _ _ h => h) ?hy303 HSv ?hh303
          case hy303 =>
            refine Or.inl ⟨by rfl, ?_⟩
            intro W hW
            obtain ⟨h0, h1, h2, h3, h4, h5, h6, h7⟩ := hW
            go_simp
            try with_reducible rfl
          simp only [Act.put, List.setIfInBounds_toArray, List.set_cons_zero, List.set_cons_succ]
          refine wpAnyH_at 19 (v := ?vv304) rfl (by kernel_rfl) (by kernel_rfl) (by kernel_rfl) (fun _ _ _ h => h) ?hy304 HSv ?hh304
          case hy304 =>
            refine Or.inl ⟨by rfl, ?_⟩
            intro W hW
            obtain ⟨h0, h1, h2, h3, h4, h5, h6, h7⟩ := hW
            go_simp
            try with_reducible rfl
          simp only [Act.put, List.setIfInBounds_toArray, List.set_cons_zero, List.set_cons_succ]
          refine wpAnyH_at 21 (v := ?vv305) rfl (by kernel_rfl) (by kernel_rfl) (by kernel_rfl) (fun _ _ _ h => h) ?hy305 HSv ?hh305
          case hy305 =>
            refine Or.inl ⟨by rfl, ?_⟩
            intro W hW
            obtain ⟨h0, h1, h2, h3, h4, h5, h6, h7⟩ := hW
            go_simp
            try with_reducible rfl
          simp only [Act.put, List.setIfInBounds_toArray, List.set_cons_zero, List.set_cons_succ]
          refine wpAnyH_at 20 (v := ?vv306) rfl (by kernel_rfl) (by kernel_rfl) (by kernel_rfl) (fun _ _ _ h => h) ?hy306 HSv ?hh306
          case hy306 =>
            refine Or.inl ⟨by rfl, ?_⟩
            intro W hW
            obtain ⟨h0, h1, h2, h3, h4, h5, h6, h7⟩ := hW
            go_simp
            try with_reducible rfl
          simp only [Act.put, List.setIfInBounds_toArray, List.set_cons_zero, List.set_cons_succ]
          refine wpAnyH_at 22 (v := ?vv307) rfl (by kernel_rfl) (by kernel_rfl) (by kernel_rfl) (fun _ _ _ h => h) ?hy307 HSv ?hh307
          case hy307 =>
            refine Or.inl ⟨by rfl, ?_⟩
            intro W hW
            obtain ⟨h0, h1, h2, h3, h4, h5, h6, h7⟩ := hW
            go_simp
            try with_reducible rfl
          simp only [Act.put, List.setIfInBounds_toArray, List.set_cons_zero, List.set_cons_succ]
          refine wpAnyH_end 23 (fun j hj => rgH_end _ _ j (by omega)) (by rfl) (by kernel_rfl) ?_
          simp only [List.drop_succ_cons, List.drop_zero]
          clear HSv
          go_wp2_with fail
          go_ret2
          exact HG.out wE B HN.out.1 HN.out.2
      · intro K hK
        rw [if_pos (by rfl)]
        try go_simp
        have bA : Below W2.heap.size W2 (W2.alloc (.cells #[.int .i64 3] 3 (0, 0))) := (Below.refl _ _).alloc (Nat.le_refl _) _
        have hz := at1 W2 (.cells #[.int .i64 3] 3 (0, 0))
        generalize hW3 : W2.alloc (.cells #[.int .i64 3] 3 (0, 0)) = W3 at bA hz ⊢
        obtain ⟨ib, hib⟩ : ∃ ib, ib = W2.heap.size := ⟨_, rfl⟩
        rw [← hib] at hz ⊢
        have HI := Lib.hid hz
        have HR := Lib.hid (HR.out.below bA)
        have HB := Lib.hid (HB.out.trans (bA.mono HB.out.size))
        have HSv : (fun Y : World => Y.cell? ⟨w.heap.size, 0, none⟩ = some (.int .i64 c.mru) ∧ Y.cell? ⟨w.heap.size, 1, none⟩ = some (.int .i64 c.auth) ∧ Y.cell? ⟨w.heap.size, 2, none⟩ = some (.int .i64 c.magic) ∧ Y.cell? ⟨w.heap.size, 3, none⟩ = some (.int .i64 c.echo) ∧ Y.cell? ⟨w.heap.size, 4, none⟩ = some (.int .i64 c.cf) ∧ Y.cell? ⟨w.heap.size, 5, none⟩ = some (.int .i64 c.tm) ∧ Y.cell? ⟨w.heap.size, 6, none⟩ = some (.int .i64 c.fl) ∧ Y.cell? ⟨w.heap.size, 7, none⟩ = some (.int .i64 c.wt)) W3 := HS.out _ HB.out
        refine hK _ _ (fun _ => HSv) ?_
        try simp only [Act.put, List.setIfInBounds_toArray, List.set_cons_zero, List.set_cons_succ]
        clear bA hz hW3 hib
        refine wpAnyH_1 2 rfl (by kernel_rfl) ?_
        intro K hK
        rw [if_pos (by rfl)]
        try go_simp
        go_at_call 35
        refine (units_any 1492 _).mono ?_
        rintro e W4 ⟨rfl, bA⟩
        have HR := Lib.hid (HR.out.below bA)
        have HB := Lib.hid (HB.out.trans (bA.mono HB.out.size))
        have HSv : (fun Y : World => Y.cell? ⟨w.heap.size, 0, none⟩ = some (.int .i64 c.mru) ∧ Y.cell? ⟨w.heap.size, 1, none⟩ = some (.int .i64 c.auth) ∧ Y.cell? ⟨w.heap.size, 2, none⟩ = some (.int .i64 c.magic) ∧ Y.cell? ⟨w.heap.size, 3, none⟩ = some (.int .i64 c.echo) ∧ Y.cell? ⟨w.heap.size, 4, none⟩ = some (.int .i64 c.cf) ∧ Y.cell? ⟨w.heap.size, 5, none⟩ = some (.int .i64 c.tm) ∧ Y.cell? ⟨w.heap.size, 6, none⟩ = some (.int .i64 c.fl) ∧ Y.cell? ⟨w.heap.size, 7, none⟩ = some (.int .i64 c.wt)) W4 := HS.out _ HB.out
        have HI := Lib.hid ((bA.block _ (Array.getElem?_eq_some_iff.1 HI.out).1).trans HI.out)
        refine hK _ _ (fun _ => HSv) ?_
        try simp only [Act.put, List.setIfInBounds_toArray, List.set_cons_zero, List.set_cons_succ]
        clear bA
        refine wpAnyH_1 3 rfl (by kernel_rfl) ?_
        intro K hK
        rw [if_pos (by rfl)]
        try go_simp
        go_at_call 36
        refine (magics_any _).mono ?_
        rintro e W5 ⟨rfl, bA⟩
        have HR := Lib.hid (HR.out.below bA)
        have HB := Lib.hid (HB.out.trans (bA.mono HB.out.size))
        have HSv : (fun Y : World => Y.cell? ⟨w.heap.size, 0, none⟩ = some (.int .i64 c.mru) ∧ Y.cell? ⟨w.heap.size, 1, none⟩ = some (.int .i64 c.auth) ∧ Y.cell? ⟨w.heap.size, 2, none⟩ = some (.int .i64 c.magic) ∧ Y.cell? ⟨w.heap.size, 3, none⟩ = some (.int .i64 c.echo) ∧ Y.cell? ⟨w.heap.size, 4, none⟩ = some (.int .i64 c.cf) ∧ Y.cell? ⟨w.heap.size, 5, none⟩ = some (.int .i64 c.tm) ∧ Y.cell? ⟨w.heap.size, 6, none⟩ = some (.int .i64 c.fl) ∧ Y.cell? ⟨w.heap.size, 7, none⟩ = some (.int .i64 c.wt)) W5 := HS.out _ HB.out
        have HI := Lib.hid ((bA.block _ (Array.getElem?_eq_some_iff.1 HI.out).1).trans HI.out)
        refine hK _ _ (fun _ => HSv) ?_
        try simp only [Act.put, List.setIfInBounds_toArray, List.set_cons_zero, List.set_cons_succ]
        clear bA
        refine wpAnyH_1 4 rfl (by kernel_rfl) ?_
        intro K hK
        rw [if_pos (by rfl)]
        try go_simp
        have bA : Below W5.heap.size W5 (W5.alloc (.cells #[.int .i64 1, .int .i64 2, .int .i64 64, .int .i64 1492, .string (be2 1492), .int .i64 5, .int .i64 4, .int .i64 1, .int .i64 4294967295, .string (be4 1)] 73 (0, 0))) := (Below.refl _ _).alloc (Nat.le_refl _) _
        have hz := at1 W5 (.cells #[.int .i64 1, .int .i64 2, .int .i64 64, .int .i64 1492, .string (be2 1492), .int .i64 5, .int .i64 4, .int .i64 1, .int .i64 4294967295, .string (be4 1)] 73 (0, 0))
        generalize hW6 : W5.alloc (.cells #[.int .i64 1, .int .i64 2, .int .i64 64, .int .i64 1492, .string (be2 1492), .int .i64 5, .int .i64 4, .int .i64 1, .int .i64 4294967295, .string (be4 1)] 73 (0, 0)) = W6 at bA hz ⊢
        obtain ⟨rb, hrb⟩ : ∃ rb, rb = W5.heap.size := ⟨_, rfl⟩
        rw [← hrb] at hz ⊢
        have HRu := Lib.hid hz
        have HR := Lib.hid (HR.out.below bA)
        have HB := Lib.hid (HB.out.trans (bA.mono HB.out.size))
        have HSv : (fun Y : World => Y.cell? ⟨w.heap.size, 0, none⟩ = some (.int .i64 c.mru) ∧ Y.cell? ⟨w.heap.size, 1, none⟩ = some (.int .i64 c.auth) ∧ Y.cell? ⟨w.heap.size, 2, none⟩ = some (.int .i64 c.magic) ∧ Y.cell? ⟨w.heap.size, 3, none⟩ = some (.int .i64 c.echo) ∧ Y.cell? ⟨w.heap.size, 4, none⟩ = some (.int .i64 c.cf) ∧ Y.cell? ⟨w.heap.size, 5, none⟩ = some (.int .i64 c.tm) ∧ Y.cell? ⟨w.heap.size, 6, none⟩ = some (.int .i64 c.fl) ∧ Y.cell? ⟨w.heap.size, 7, none⟩ = some (.int .i64 c.wt)) W6 := HS.out _ HB.out
        have HI := Lib.hid ((bA.block _ (Array.getElem?_eq_some_iff.1 HI.out).1).trans HI.out)
        refine hK _ _ (fun _ => HSv) ?_
        try simp only [Act.put, List.setIfInBounds_toArray, List.set_cons_zero, List.set_cons_succ]
        clear bA hz hW6 hrb
        refine wpAnyH_at 14 (v := ?vv308) rfl (by kernel_rfl) (by kernel_rfl) (by kernel_rfl) (fun _ _ _ h => h) ?hy308 HSv ?hh308
        case hy308 =>
          refine Or.inl ⟨by rfl, ?_⟩
          intro W hW
          obtain ⟨h0, h1, h2, h3, h4, h5, h6, h7⟩ := hW
          go_simp
          try with_reducible rfl
        simp only [Act.put, List.setIfInBounds_toArray, List.set_cons_zero, List.set_cons_succ]
        refine wpAnyH_1 17 rfl (by kernel_rfl) ?_
        intro K hK
        rw [if_pos (by rfl)]
        try go_simp
        go_at_call 34
        refine (HNN.out lb W1 W6 sA cA rb ib HB.out HR.out HRu.out HI.out).mono ?_
        rintro e wE ⟨B, rfl, nE, bE⟩
        have zl := (bE.block lb (Array.getElem?_eq_some_iff.1 HZ.out.2.1).1).trans HZ.out.2.1
        have f0 := fzOf zl 0
        have c0 : wE.cell? ⟨lb, 0, none⟩ = some (.pointer none) := cellOf zl 0 _ rfl
        have HN := Lib.hid (And.intro bE nE)
        have HSv : (fun Y : World => Y.cell? ⟨w.heap.size, 0, none⟩ = some (.int .i64 c.mru) ∧ Y.cell? ⟨w.heap.size, 1, none⟩ = some (.int .i64 c.auth) ∧ Y.cell? ⟨w.heap.size, 2, none⟩ = some (.int .i64 c.magic) ∧ Y.cell? ⟨w.heap.size, 3, none⟩ = some (.int .i64 c.echo) ∧ Y.cell? ⟨w.heap.size, 4, none⟩ = some (.int .i64 c.cf) ∧ Y.cell? ⟨w.heap.size, 5, none⟩ = some (.int .i64 c.tm) ∧ Y.cell? ⟨w.heap.size, 6, none⟩ = some (.int .i64 c.fl) ∧ Y.cell? ⟨w.heap.size, 7, none⟩ = some (.int .i64 c.wt)) wE := HS.out _ bE
        clear bE nE zl
        refine hK _ _ (fun _ => HSv) ?_
        try simp only [Act.put, List.setIfInBounds_toArray, List.set_cons_zero, List.set_cons_succ]
        refine wpAnyH_at 18 (v := ?vv309) rfl (by kernel_rfl) (by kernel_rfl) (by kernel_rfl) (fun _ _ _ h => h) ?hy309 HSv ?hh309
        case hy309 =>
          refine Or.inl ⟨by rfl, ?_⟩
          intro W hW
          obtain ⟨h0, h1, h2, h3, h4, h5, h6, h7⟩ := hW
          go_simp
          try with_reducible rfl
        simp only [Act.put, List.setIfInBounds_toArray, List.set_cons_zero, List.set_cons_succ]
        refine wpAnyH_at 19 (v := ?vv310) rfl (by kernel_rfl) (by kernel_rfl) (by kernel_rfl) (fun _ _ _ h => h) ?hy310 HSv ?hh310
        case hy310 =>
          refine Or.inl ⟨by rfl, ?_⟩
          intro W hW
          obtain ⟨h0, h1, h2, h3, h4, h5, h6, h7⟩ := hW
          go_simp
          try with_reducible rfl
        simp only [Act.put, List.setIfInBounds_toArray, List.set_cons_zero, List.set_cons_succ]
        refine wpAnyH_at 21 (v := ?vv311) rfl (by kernel_rfl) (by kernel_rfl) (by kernel_rfl) (fun _ _ _ h => h) ?hy311 HSv ?hh311
        case hy311 =>
          refine Or.inl ⟨by rfl, ?_⟩
          intro W hW
          obtain ⟨h0, h1, h2, h3, h4, h5, h6, h7⟩ := hW
          go_simp
          try with_reducible rfl
        simp only [Act.put, List.setIfInBounds_toArray, List.set_cons_zero, List.set_cons_succ]
        refine wpAnyH_at 20 (v := ?vv312) rfl (by kernel_rfl) (by kernel_rfl) (by kernel_rfl) (fun _ _ _ h => h) ?hy312 HSv ?hh312
        case hy312 =>
          refine Or.inl ⟨by rfl, ?_⟩
          intro W hW
          obtain ⟨h0, h1, h2, h3, h4, h5, h6, h7⟩ := hW
          go_simp
          try with_reducible rfl
        simp only [Act.put, List.setIfInBounds_toArray, List.set_cons_zero, List.set_cons_succ]
        refine wpAnyH_at 22 (v := ?vv313) rfl (by kernel_rfl) (by kernel_rfl) (by kernel_rfl) (fun _ _ _ h => h) ?hy313 HSv ?hh313
        case hy313 =>
          refine Or.inl ⟨by rfl, ?_⟩
          intro W hW
          obtain ⟨h0, h1, h2, h3, h4, h5, h6, h7⟩ := hW
          go_simp
          try with_reducible rfl
        simp only [Act.put, List.setIfInBounds_toArray, List.set_cons_zero, List.set_cons_succ]
        refine wpAnyH_end 23 (fun j hj => rgH_end _ _ j (by omega)) (by rfl) (by kernel_rfl) ?_
        simp only [List.drop_succ_cons, List.drop_zero]
        clear HSv
        go_wp2_with fail
        go_ret2
        exact HG.out wE B HN.out.1 HN.out.2
    · intro K hK
      rw [if_pos (by rfl)]
      try go_simp
      have bA : Below W.heap.size W (W.alloc (.cells #[.int .i64 3] 3 (0, 0))) := (Below.refl _ _).alloc (Nat.le_refl _) _
      have hz := at1 W (.cells #[.int .i64 3] 3 (0, 0))
      generalize hW2 : W.alloc (.cells #[.int .i64 3] 3 (0, 0)) = W2 at bA hz ⊢
      obtain ⟨ib, hib⟩ : ∃ ib, ib = W.heap.size := ⟨_, rfl⟩
      rw [← hib] at hz ⊢
      have HI := Lib.hid hz
      have HB := Lib.hid (HB.out.trans (bA.mono HB.out.size))
      have HSv : (fun Y : World => Y.cell? ⟨w.heap.size, 0, none⟩ = some (.int .i64 c.mru) ∧ Y.cell? ⟨w.heap.size, 1, none⟩ = some (.int .i64 c.auth) ∧ Y.cell? ⟨w.heap.size, 2, none⟩ = some (.int .i64 c.magic) ∧ Y.cell? ⟨w.heap.size, 3, none⟩ = some (.int .i64 c.echo) ∧ Y.cell? ⟨w.heap.size, 4, none⟩ = some (.int .i64 c.cf) ∧ Y.cell? ⟨w.heap.size, 5, none⟩ = some (.int .i64 c.tm) ∧ Y.cell? ⟨w.heap.size, 6, none⟩ = some (.int .i64 c.fl) ∧ Y.cell? ⟨w.heap.size, 7, none⟩ = some (.int .i64 c.wt)) W2 := HS.out _ HB.out
      refine hK _ _ (fun _ => HSv) ?_
      try simp only [Act.put, List.setIfInBounds_toArray, List.set_cons_zero, List.set_cons_succ]
      clear bA hz hW2 hib
      refine wpAnyH_1 1 rfl (by kernel_rfl) ?_
      intro K hK
      rw [if_pos (by rfl)]
      try go_simp
      go_at_call 18
      refine (HLO.out _).mono ?_
      rintro e W3 ⟨vA, rfl, rA, bA⟩
      obtain ⟨sA, cA, rfl⟩ := rA.form
      have HR := Lib.hid (rA.base HB.out.size)
      have HB := Lib.hid (HB.out.trans (bA.mono HB.out.size))
      have HSv : (fun Y : World => Y.cell? ⟨w.heap.size, 0, none⟩ = some (.int .i64 c.mru) ∧ Y.cell? ⟨w.heap.size, 1, none⟩ = some (.int .i64 c.auth) ∧ Y.cell? ⟨w.heap.size, 2, none⟩ = some (.int .i64 c.magic) ∧ Y.cell? ⟨w.heap.size, 3, none⟩ = some (.int .i64 c.echo) ∧ Y.cell? ⟨w.heap.size, 4, none⟩ = some (.int .i64 c.cf) ∧ Y.cell? ⟨w.heap.size, 5, none⟩ = some (.int .i64 c.tm) ∧ Y.cell? ⟨w.heap.size, 6, none⟩ = some (.int .i64 c.fl) ∧ Y.cell? ⟨w.heap.size, 7, none⟩ = some (.int .i64 c.wt)) W3 := HS.out _ HB.out
      have HI := Lib.hid ((bA.block _ (Array.getElem?_eq_some_iff.1 HI.out).1).trans HI.out)
      refine hK _ _ (fun _ => HSv) ?_
      try simp only [Act.put, List.setIfInBounds_toArray, List.set_cons_zero, List.set_cons_succ]
      clear rA bA
      refine wpAnyH_1 2 rfl (by kernel_rfl) ?_
      intro K hK
      rw [if_pos (by rfl)]
      try go_simp
      go_at_call 35
      refine (units_any 1492 _).mono ?_
      rintro e W4 ⟨rfl, bA⟩
      have HR := Lib.hid (HR.out.below bA)
      have HB := Lib.hid (HB.out.trans (bA.mono HB.out.size))
      have HSv : (fun Y : World => Y.cell? ⟨w.heap.size, 0, none⟩ = some (.int .i64 c.mru) ∧ Y.cell? ⟨w.heap.size, 1, none⟩ = some (.int .i64 c.auth) ∧ Y.cell? ⟨w.heap.size, 2, none⟩ = some (.int .i64 c.magic) ∧ Y.cell? ⟨w.heap.size, 3, none⟩ = some (.int .i64 c.echo) ∧ Y.cell? ⟨w.heap.size, 4, none⟩ = some (.int .i64 c.cf) ∧ Y.cell? ⟨w.heap.size, 5, none⟩ = some (.int .i64 c.tm) ∧ Y.cell? ⟨w.heap.size, 6, none⟩ = some (.int .i64 c.fl) ∧ Y.cell? ⟨w.heap.size, 7, none⟩ = some (.int .i64 c.wt)) W4 := HS.out _ HB.out
      have HI := Lib.hid ((bA.block _ (Array.getElem?_eq_some_iff.1 HI.out).1).trans HI.out)
      refine hK _ _ (fun _ => HSv) ?_
      try simp only [Act.put, List.setIfInBounds_toArray, List.set_cons_zero, List.set_cons_succ]
      clear bA
      refine wpAnyH_1 3 rfl (by kernel_rfl) ?_
      intro K hK
      rw [if_pos (by rfl)]
      try go_simp
      go_at_call 36
      refine (magics_any _).mono ?_
      rintro e W5 ⟨rfl, bA⟩
      have HR := Lib.hid (HR.out.below bA)
      have HB := Lib.hid (HB.out.trans (bA.mono HB.out.size))
      have HSv : (fun Y : World => Y.cell? ⟨w.heap.size, 0, none⟩ = some (.int .i64 c.mru) ∧ Y.cell? ⟨w.heap.size, 1, none⟩ = some (.int .i64 c.auth) ∧ Y.cell? ⟨w.heap.size, 2, none⟩ = some (.int .i64 c.magic) ∧ Y.cell? ⟨w.heap.size, 3, none⟩ = some (.int .i64 c.echo) ∧ Y.cell? ⟨w.heap.size, 4, none⟩ = some (.int .i64 c.cf) ∧ Y.cell? ⟨w.heap.size, 5, none⟩ = some (.int .i64 c.tm) ∧ Y.cell? ⟨w.heap.size, 6, none⟩ = some (.int .i64 c.fl) ∧ Y.cell? ⟨w.heap.size, 7, none⟩ = some (.int .i64 c.wt)) W5 := HS.out _ HB.out
      have HI := Lib.hid ((bA.block _ (Array.getElem?_eq_some_iff.1 HI.out).1).trans HI.out)
      refine hK _ _ (fun _ => HSv) ?_
      try simp only [Act.put, List.setIfInBounds_toArray, List.set_cons_zero, List.set_cons_succ]
      clear bA
      refine wpAnyH_1 4 rfl (by kernel_rfl) ?_
      intro K hK
      rw [if_pos (by rfl)]
      try go_simp
      have bA : Below W5.heap.size W5 (W5.alloc (.cells #[.int .i64 1, .int .i64 2, .int .i64 64, .int .i64 1492, .string (be2 1492), .int .i64 5, .int .i64 4, .int .i64 1, .int .i64 4294967295, .string (be4 1)] 73 (0, 0))) := (Below.refl _ _).alloc (Nat.le_refl _) _
      have hz := at1 W5 (.cells #[.int .i64 1, .int .i64 2, .int .i64 64, .int .i64 1492, .string (be2 1492), .int .i64 5, .int .i64 4, .int .i64 1, .int .i64 4294967295, .string (be4 1)] 73 (0, 0))
      generalize hW6 : W5.alloc (.cells #[.int .i64 1, .int .i64 2, .int .i64 64, .int .i64 1492, .string (be2 1492), .int .i64 5, .int .i64 4, .int .i64 1, .int .i64 4294967295, .string (be4 1)] 73 (0, 0)) = W6 at bA hz ⊢
      obtain ⟨rb, hrb⟩ : ∃ rb, rb = W5.heap.size := ⟨_, rfl⟩
      rw [← hrb] at hz ⊢
      have HRu := Lib.hid hz
      have HR := Lib.hid (HR.out.below bA)
      have HB := Lib.hid (HB.out.trans (bA.mono HB.out.size))
      have HSv : (fun Y : World => Y.cell? ⟨w.heap.size, 0, none⟩ = some (.int .i64 c.mru) ∧ Y.cell? ⟨w.heap.size, 1, none⟩ = some (.int .i64 c.auth) ∧ Y.cell? ⟨w.heap.size, 2, none⟩ = some (.int .i64 c.magic) ∧ Y.cell? ⟨w.heap.size, 3, none⟩ = some (.int .i64 c.echo) ∧ Y.cell? ⟨w.heap.size, 4, none⟩ = some (.int .i64 c.cf) ∧ Y.cell? ⟨w.heap.size, 5, none⟩ = some (.int .i64 c.tm) ∧ Y.cell? ⟨w.heap.size, 6, none⟩ = some (.int .i64 c.fl) ∧ Y.cell? ⟨w.heap.size, 7, none⟩ = some (.int .i64 c.wt)) W6 := HS.out _ HB.out
      have HI := Lib.hid ((bA.block _ (Array.getElem?_eq_some_iff.1 HI.out).1).trans HI.out)
      refine hK _ _ (fun _ => HSv) ?_
      try simp only [Act.put, List.setIfInBounds_toArray, List.set_cons_zero, List.set_cons_succ]
      clear bA hz hW6 hrb
      refine wpAnyH_at 14 (v := ?vv314) rfl (by kernel_rfl) (by kernel_rfl) (by kernel_rfl) (fun _ _ _ h => h) ?hy314 HSv ?hh314
      case hy314 =>
        refine Or.inl ⟨by rfl, ?_⟩
        intro W hW
        obtain ⟨h0, h1, h2, h3, h4, h5, h6, h7⟩ := hW
        go_simp
        try with_reducible rfl
      simp only [Act.put, List.setIfInBounds_toArray, List.set_cons_zero, List.set_cons_succ]
      refine wpAnyH_1 17 rfl (by kernel_rfl) ?_
      intro K hK
      rw [if_pos (by rfl)]
      try go_simp
      go_at_call 34
      refine (HNN.out lb W1 W6 sA cA rb ib HB.out HR.out HRu.out HI.out).mono ?_
      rintro e wE ⟨B, rfl, nE, bE⟩
      have zl := (bE.block lb (Array.getElem?_eq_some_iff.1 HZ.out.2.1).1).trans HZ.out.2.1
      have f0 := fzOf zl 0
      have c0 : wE.cell? ⟨lb, 0, none⟩ = some (.pointer none) := cellOf zl 0 _ rfl
      have HN := Lib.hid (And.intro bE nE)
      have HSv : (fun Y : World => Y.cell? ⟨w.heap.size, 0, none⟩ = some (.int .i64 c.mru) ∧ Y.cell? ⟨w.heap.size, 1, none⟩ = some (.int .i64 c.auth) ∧ Y.cell? ⟨w.heap.size, 2, none⟩ = some (.int .i64 c.magic) ∧ Y.cell? ⟨w.heap.size, 3, none⟩ = some (.int .i64 c.echo) ∧ Y.cell? ⟨w.heap.size, 4, none⟩ = some (.int .i64 c.cf) ∧ Y.cell? ⟨w.heap.size, 5, none⟩ = some (.int .i64 c.tm) ∧ Y.cell? ⟨w.heap.size, 6, none⟩ = some (.int .i64 c.fl) ∧ Y.cell? ⟨w.heap.size, 7, none⟩ = some (.int .i64 c.wt)) wE := HS.out _ bE
      clear bE nE zl
      refine hK _ _ (fun _ => HSv) ?_
      try simp only [Act.put, List.setIfInBounds_toArray, List.set_cons_zero, List.set_cons_succ]
      refine wpAnyH_at 18 (v := ?vv315) rfl (by kernel_rfl) (by kernel_rfl) (by kernel_rfl) (fun _ _ _ h => h) ?hy315 HSv ?hh315
      case hy315 =>
        refine Or.inl ⟨by rfl, ?_⟩
        intro W hW
        obtain ⟨h0, h1, h2, h3, h4, h5, h6, h7⟩ := hW
        go_simp
        try with_reducible rfl
      simp only [Act.put, List.setIfInBounds_toArray, List.set_cons_zero, List.set_cons_succ]
      refine wpAnyH_at 19 (v := ?vv316) rfl (by kernel_rfl) (by kernel_rfl) (by kernel_rfl) (fun _ _ _ h => h) ?hy316 HSv ?hh316
      case hy316 =>
        refine Or.inl ⟨by rfl, ?_⟩
        intro W hW
        obtain ⟨h0, h1, h2, h3, h4, h5, h6, h7⟩ := hW
        go_simp
        try with_reducible rfl
      simp only [Act.put, List.setIfInBounds_toArray, List.set_cons_zero, List.set_cons_succ]
      refine wpAnyH_at 21 (v := ?vv317) rfl (by kernel_rfl) (by kernel_rfl) (by kernel_rfl) (fun _ _ _ h => h) ?hy317 HSv ?hh317
      case hy317 =>
        refine Or.inl ⟨by rfl, ?_⟩
        intro W hW
        obtain ⟨h0, h1, h2, h3, h4, h5, h6, h7⟩ := hW
        go_simp
        try with_reducible rfl
      simp only [Act.put, List.setIfInBounds_toArray, List.set_cons_zero, List.set_cons_succ]
      refine wpAnyH_at 20 (v := ?vv318) rfl (by kernel_rfl) (by kernel_rfl) (by kernel_rfl) (fun _ _ _ h => h) ?hy318 HSv ?hh318
      case hy318 =>
        refine Or.inl ⟨by rfl, ?_⟩
        intro W hW
        obtain ⟨h0, h1, h2, h3, h4, h5, h6, h7⟩ := hW
        go_simp
        try with_reducible rfl
      simp only [Act.put, List.setIfInBounds_toArray, List.set_cons_zero, List.set_cons_succ]
      refine wpAnyH_at 22 (v := ?vv319) rfl (by kernel_rfl) (by kernel_rfl) (by kernel_rfl) (fun _ _ _ h => h) ?hy319 HSv ?hh319
      case hy319 =>
        refine Or.inl ⟨by rfl, ?_⟩
        intro W hW
        obtain ⟨h0, h1, h2, h3, h4, h5, h6, h7⟩ := hW
        go_simp
        try with_reducible rfl
      simp only [Act.put, List.setIfInBounds_toArray, List.set_cons_zero, List.set_cons_succ]
      refine wpAnyH_end 23 (fun j hj => rgH_end _ _ j (by omega)) (by rfl) (by kernel_rfl) ?_
      simp only [List.drop_succ_cons, List.drop_zero]
      clear HSv
      go_wp2_with fail
      go_ret2
      exact HG.out wE B HN.out.1 HN.out.2
end Go.Proofs.YthhdackaopaojaaGreat
