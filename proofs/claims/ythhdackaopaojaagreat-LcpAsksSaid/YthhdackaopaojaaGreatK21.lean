import Derived.Test.YthhdackaopaojaaGreatK20
import Derived.Test.YthhdackaopaojaaGreatK11
/- A link is made. -/
namespace Go.Proofs.YthhdackaopaojaaGreat
open Go.RowKit Go.Tg Go.Maps

def lC (c : LCfg) (lb : Nat) : NegC := ⟨[unitR 1492, magicR], [], [3], c.cf, c.tm, c.fl, c.wt, judgeV lb⟩
def lst0 (c : LCfg) (t : TpS) : LSt := ⟨st0 (optsS c), c.magic, 0, 0, 0, t⟩
def NewL (w w' : World) (e : Ending) (c : LCfg) (tb : Nat) (okt : Nat → Prop) (t : TpS) : Prop :=
  ∃ L S X, e = .returned (.tuple #[.pointer (some ⟨L.lb, 0, none⟩), .int .i64 0]) ∧ L.tb = tb ∧ LcpAt w' S okt L (lC c L.lb) c.echo (lst0 c t) X ∧ (∀ b, S b → w.heap.size ≤ b) ∧ w.heap.size ≤ L.lb ∧ Below w.heap.size w w'

def cfgO (c : LCfg) : Obj := .cells #[.int .i64 c.mru, .int .i64 c.auth, .int .i64 c.magic, .int .i64 c.echo, .int .i64 c.cf, .int .i64 c.tm, .int .i64 c.fl, .int .i64 c.wt] 24 (0, 0)

theorem lnew_end {c : LCfg} {w W1 wE : World} {lb tb : Nat} {okt : Nat → Prop} {t : TpS} {B : NegB} (hw1 : Below w.heap.size w W1) (hl : W1.heap[lb]? = some (.cells #[.pointer none, .pointer (some ⟨tb, 0, none⟩), .int .i64 c.echo, .int .i64 c.magic, .int .i64 0, .int .i64 0, .int .i64 0] 64 (0, 0))) (ht : TapeAt W1 tb okt t) (ho : ∀ b, okt b → b < W1.heap.size ∧ b ≠ lb) (hne : lb ≠ tb)
    (hlb : w.heap.size ≤ lb) (bE : Below W1.heap.size W1 wE) (nE : NegV wE (fun b => W1.heap.size ≤ b) B (lC c lb) (st0 (optsS c))) :
    NewL w (wE.setCell ⟨lb, 0, none⟩ (.pointer (some ⟨B.nb, 0, none⟩))) (.returned (.tuple #[.pointer (some ⟨lb, 0, none⟩), .int .i64 0])) c tb okt t := by
  obtain ⟨X, nE⟩ := nE
  have hlt := (Array.getElem?_eq_some_iff.1 hl).1
  have hk := (Keep.refl (fun b => b = lb) wE).setCell ⟨lb, 0, none⟩ (Or.inr rfl) (.pointer (some ⟨B.nb, 0, none⟩))
  refine ⟨⟨lb, tb, B⟩, fun b => W1.heap.size ≤ b, X, rfl, rfl, ?_, fun b hb => Nat.le_trans hw1.size hb, hlb, (hw1.trans (bE.mono hw1.size)).trans (hk.below (Nat.le_trans hw1.size bE.size) (fun k hk he => by omega))⟩
  exact { blk := by have h := set_block ((bE.block lb hlt).trans hl) 0 (.pointer (some ⟨B.nb, 0, none⟩)); simpa [lcpCells, lst0] using h
          neg := nE.keep hk (fun b _ hb he => by have hb : W1.heap.size ≤ b := hb; omega)
          tape := (ht.below bE).keep hk (fun he => hne he.symm) (fun b _ hb he => (ho b hb).2 he)
          ne := hne
          n1 := fun hb => by have hb : W1.heap.size ≤ lb := hb; omega
          n2 := fun hb => by have hb : W1.heap.size ≤ tb := hb; have := ht.lt; omega
          n3 := fun b hb => ⟨fun h => by have h : W1.heap.size ≤ b := h; have := (ho b hb).1; omega, (ho b hb).2, Nat.lt_of_lt_of_le (ho b hb).1 (Nat.le_trans bE.size hk.size)⟩
          jd := rfl }

theorem lnew_neg (c : LCfg) (hc : c.Ok) (lb : Nat) (W1 WN : World) (sa : Option Addr) (ca rb ib : Nat) (h1 : Below W1.heap.size W1 WN) (h2 : ORow WN W1.heap.size (.slice sa (optsS c).length ca) (optsS c)) (h3 : WN.heap[rb]? = some (.cells #[.int .i64 1, .int .i64 2, .int .i64 64, .int .i64 1492, .string (be2 1492), .int .i64 5, .int .i64 4, .int .i64 1, .int .i64 4294967295, .string (be4 1)] 73 (0, 0))) (h4 : WN.heap[ib]? = some (.cells #[.int .i64 3] 3 (0, 0))) :
    Calls Tryz.prog 34 #[.agg #[.slice sa (optsS c).length ca, .slice (some ⟨rb, 0, none⟩) 2 2, .slice none 0 0, .slice (some ⟨ib, 0, none⟩) 1 1, .int .i64 c.cf, .int .i64 c.tm, .int .i64 c.fl, .int .i64 c.wt], .func (.func 37) #[.pointer (some ⟨lb, 0, none⟩)] #[]] WN fun e w' => ∃ B, e = .returned (.tuple #[.pointer (some ⟨B.nb, 0, none⟩), .int .i64 0]) ∧ NegV w' (fun b => W1.heap.size ≤ b) B (lC c lb) (st0 (optsS c)) ∧ Below W1.heap.size W1 w' := by
  obtain ⟨o1, o2, o3, o4⟩ := optsS_ok c hc.auth
  have hr : RRow WN 0 (.slice (some ⟨rb, 0, none⟩) 2 2) [unitR 1492, magicR] := ⟨rfl, Or.inr ⟨rb, 2, _, rfl, Nat.zero_le _, h3, Nat.le_refl _, by unfold maxLen; omega, rfl, rfl⟩⟩
  have hi : NRow WN 0 (.slice (some ⟨ib, 0, none⟩) 1 1) [3] := ⟨rfl, Or.inr ⟨ib, 1, _, rfl, Nat.zero_le _, h4, Nat.le_refl _, by unfold maxLen; omega, rfl, rfl⟩⟩
  refine (newByJ 37 (.pointer (some ⟨lb, 0, none⟩)) (optsS c) [unitR 1492, magicR] [] [3] _ _ _ _ (fun b => 0 ≤ b) c.cf c.tm c.fl c.wt WN (Rec.mono (h2.opts (by unfold maxLen; omega)) (fun b _ => Nat.zero_le _)) (hr.rls (by unfold maxLen; decide)) (Rec.nil _ _ _) (hi.nums (by unfold maxLen; decide))
    (fun n c h => by cases h) (fun n c h => by cases h; rfl) (by decide) (by decide) (by decide) hc.cf hc.tm hc.fl.1 hc.fl.2 hc.wt.1 hc.wt.2 (fun o ho => Nat.le_trans (o1 o ho) (by decide)) o2 o3 (by decide) (by decide)).mono ?_
  rintro e w' ⟨v, rfl, B, rfl, q1, q2⟩
  exact ⟨B, rfl, q1.mono (fun b hb => Nat.le_trans h1.size hb), h1.trans (q2.mono h1.size)⟩

set_option maxHeartbeats 16000000 in
set_option maxRecDepth 100000 in
theorem lnew_tape (c : LCfg) (hc : c.Ok) (tb : Nat) (okt : Nat → Prop) (t : TpS) (w : World) (ht : TapeAt w tb okt t) (ho : ∀ b, okt b → b < w.heap.size) :
    Calls Tryz.prog 12 #[cfgV c, .pointer (some ⟨tb, 0, none⟩)] w fun e w' => NewL w w' e c tb okt t := by
  have q1 : ∀ w a, (binOp .eql 31 (.pointer (some a)) (.pointer none)).run Tryz.prog w = .ok (.bool false) w := fun w a => by kernel_rfl
  have L1 : ∀ w, Calls Tryz.prog 32 #[.int .i64 c.mru, .int .i64 64, .int .i64 1492] w fun e w' => e = .returned (.bool true) ∧ w = w' := fun w => (lin_any c.mru 64 1492 w).mono (fun e w' h => by have := hc.mru; refine ⟨by rw [h.1]; simp [this.1, this.2], h.2⟩)
  have L2 : ∀ w, Calls Tryz.prog 32 #[.int .i64 c.magic, .int .i64 0, .int .i64 4294967295] w fun e w' => e = .returned (.bool true) ∧ w = w' := fun w => (lin_any c.magic 0 4294967295 w).mono (fun e w' h => by have := hc.magic; refine ⟨by rw [h.1]; simp [this.1, this.2], h.2⟩)
  have L3 : ∀ w, Calls Tryz.prog 32 #[.int .i64 c.echo, .int .i64 0, .int .i64 100] w fun e w' => e = .returned (.bool true) ∧ w = w' := fun w => (lin_any c.echo 0 100 w).mono (fun e w' h => by have := hc.echo; refine ⟨by rw [h.1]; simp [this.1, this.2], h.2⟩)
  have HL := Lib.hid (And.intro L1 (And.intro L2 L3))
  have H := Lib.hid (And.intro hc (And.intro ht ho))
  have hia : I64 c.auth := by rcases hc.auth with h | h | h <;> rw [h] <;> (unfold I64; decide)
  have HV := Lib.hid (fun w => lvalue_any c.auth w hia)
  have hva : c.auth ≠ 0 → (lvalS c.auth).toList.isEmpty = false := by
    intro h0
    rcases hc.auth with h | h | h
    · exact absurd h h0
    · rw [h, isE]; decide
    · rw [h, isE]; decide
  have hb0 := (Below.refl w.heap.size w).alloc (Nat.le_refl _) (cfgO c)
  have HB0 := Lib.hid (And.intro hb0 (And.intro (at1 w (cfgO c)) (alloc1 w (cfgO c))))
  have HIA := Lib.hid hia
  have HNN := Lib.hid (fun lb W1 WN sa ca rb ib h1 h2 h3 h4 => lnew_neg c hc lb W1 WN sa ca rb ib h1 h2 h3 h4)
  unfold cfgV
  clear L1 L2 L3 hc ht ho hia
  by_cases h0 : c.auth = 0
  · skip
    clear hva
    have hz := HB0.out.2.1
    unfold cfgO at hz
    have ea : (c.auth != 0) = false := by simp [h0]
    have HZ := Lib.hid (And.intro HB0.out.1 HB0.out.2.1)
    clear h0 hz
    go_enter Tryz.func12, Tryz.ntmps12
    go_wp2_with (go_at_call 32; first | with_reducible refine (HL.out.1 _).mono ?_ | with_reducible refine (HL.out.2.1 _).mono ?_ | with_reducible refine (HL.out.2.2 _).mono ?_
                 rintro e w1 ⟨rfl, rfl⟩)
    have hwv : w.alloc (.cells #[.int .i64 c.mru, .int .i64 c.auth, .int .i64 c.magic, .int .i64 c.echo, .int .i64 c.cf, .int .i64 c.tm, .int .i64 c.fl, .int .i64 c.wt] 24 (0, 0)) = w.alloc (cfgO c) := rfl
    try rw [hwv]
    generalize w.alloc (cfgO c) = wv at *
    clear hwv
    rw [show w.heap.size + 1 = wv.heap.size from HB0.out.2.2.symm]
    have hz1 : (wv.alloc (.cells #[.pointer none, .pointer (some ⟨tb, 0, none⟩), .int .i64 c.echo, .int .i64 c.magic, .int .i64 0, .int .i64 0, .int .i64 0] 64 (0, 0))).heap[w.heap.size]? = some (cfgO c) := (Below.heap_alloc _ _ _ (Array.getElem?_eq_some_iff.1 HZ.out.2).1).trans HZ.out.2
    have hl1 := at1 wv (.cells #[.pointer none, .pointer (some ⟨tb, 0, none⟩), .int .i64 c.echo, .int .i64 c.magic, .int .i64 0, .int .i64 0, .int .i64 0] 64 (0, 0))
    have hw1 : Below w.heap.size w (wv.alloc (.cells #[.pointer none, .pointer (some ⟨tb, 0, none⟩), .int .i64 c.echo, .int .i64 c.magic, .int .i64 0, .int .i64 0, .int .i64 0] 64 (0, 0))) := HZ.out.1.alloc HZ.out.1.size _
    have hs1 := alloc1 wv (.cells #[.pointer none, .pointer (some ⟨tb, 0, none⟩), .int .i64 c.echo, .int .i64 c.magic, .int .i64 0, .int .i64 0, .int .i64 0] 64 (0, 0))
    have hlb : w.heap.size < wv.heap.size := (Array.getElem?_eq_some_iff.1 HZ.out.2).1
    obtain ⟨lb, hlbe⟩ : ∃ lb, lb = wv.heap.size := ⟨_, rfl⟩
    generalize hW1 : wv.alloc (.cells #[.pointer none, .pointer (some ⟨tb, 0, none⟩), .int .i64 c.echo, .int .i64 c.magic, .int .i64 0, .int .i64 0, .int .i64 0] 64 (0, 0)) = W1 at hz1 hl1 hw1 hs1 ⊢
    rw [← hlbe] at hl1 hs1 hlb ⊢
    clear hW1 hlbe HZ
    have HZ := Lib.hid (And.intro hz1 (And.intro hl1 (And.intro hw1 (And.intro hs1 hlb))))
    have HS : Hid (∀ W, Below W1.heap.size W1 W → (fun Y : World => Y.cell? ⟨w.heap.size, 0, none⟩ = some (.int .i64 c.mru) ∧ Y.cell? ⟨w.heap.size, 1, none⟩ = some (.int .i64 c.auth) ∧ Y.cell? ⟨w.heap.size, 2, none⟩ = some (.int .i64 c.magic) ∧ Y.cell? ⟨w.heap.size, 3, none⟩ = some (.int .i64 c.echo) ∧ Y.cell? ⟨w.heap.size, 4, none⟩ = some (.int .i64 c.cf) ∧ Y.cell? ⟨w.heap.size, 5, none⟩ = some (.int .i64 c.tm) ∧ Y.cell? ⟨w.heap.size, 6, none⟩ = some (.int .i64 c.fl) ∧ Y.cell? ⟨w.heap.size, 7, none⟩ = some (.int .i64 c.wt)) W) := Lib.hid fun W hW => by
      have h : W.heap[w.heap.size]? = some (.cells #[.int .i64 c.mru, .int .i64 c.auth, .int .i64 c.magic, .int .i64 c.echo, .int .i64 c.cf, .int .i64 c.tm, .int .i64 c.fl, .int .i64 c.wt] 24 (0, 0)) := (hW.block _ (by have := HZ.out.2.2.2.1; have := HZ.out.2.2.2.2; omega)).trans HZ.out.1
      exact ⟨cellOf h 0 _ rfl, cellOf h 1 _ rfl, cellOf h 2 _ rfl, cellOf h 3 _ rfl, cellOf h 4 _ rfl, cellOf h 5 _ rfl, cellOf h 6 _ rfl, cellOf h 7 _ rfl⟩
    have HLO := Lib.hid (fun W => lopts_any c W HIA.out)
    unfold cfgV at HLO
    have a1 : ∀ (W : World) (O : Obj), W.heap.size < (W.alloc O).heap.size := fun W O => by rw [alloc1]; omega
    have HA1 := Lib.hid a1
    have HG := Lib.hid (fun wE B bE nE => lnew_end (c := c) (w := w) (W1 := W1) (wE := wE) (lb := lb) (tb := tb) (okt := okt) (t := t) (B := B) hw1 hl1 (by have := H.out.2.1; exact TapeAt.keep this (Keep.of_below (fun _ => False) hw1) (fun h => h) (fun _ _ _ h => h)) (fun b hb => ⟨Nat.lt_of_lt_of_le (H.out.2.2 b hb) hw1.size, by have := H.out.2.2 b hb; omega⟩) (by have := H.out.2.1.lt; omega) (by omega) bE nE)
    obtain ⟨y0, y1, y2, y3, y4, y5, y6, y7⟩ := HS.out W1.drew (Below.refl _ _).drew
    clear hz1 hl1 hw1 hs1 hlb a1
    refine wp_region_H (rgH 0 23) (fun Y : World => Y.cell? ⟨w.heap.size, 0, none⟩ = some (.int .i64 c.mru) ∧ Y.cell? ⟨w.heap.size, 1, none⟩ = some (.int .i64 c.auth) ∧ Y.cell? ⟨w.heap.size, 2, none⟩ = some (.int .i64 c.magic) ∧ Y.cell? ⟨w.heap.size, 3, none⟩ = some (.int .i64 c.echo) ∧ Y.cell? ⟨w.heap.size, 4, none⟩ = some (.int .i64 c.cf) ∧ Y.cell? ⟨w.heap.size, 5, none⟩ = some (.int .i64 c.tm) ∧ Y.cell? ⟨w.heap.size, 6, none⟩ = some (.int .i64 c.fl) ∧ Y.cell? ⟨w.heap.size, 7, none⟩ = some (.int .i64 c.wt)) (by kernel_rfl) ?_
    have HSv : (fun Y : World => Y.cell? ⟨w.heap.size, 0, none⟩ = some (.int .i64 c.mru) ∧ Y.cell? ⟨w.heap.size, 1, none⟩ = some (.int .i64 c.auth) ∧ Y.cell? ⟨w.heap.size, 2, none⟩ = some (.int .i64 c.magic) ∧ Y.cell? ⟨w.heap.size, 3, none⟩ = some (.int .i64 c.echo) ∧ Y.cell? ⟨w.heap.size, 4, none⟩ = some (.int .i64 c.cf) ∧ Y.cell? ⟨w.heap.size, 5, none⟩ = some (.int .i64 c.tm) ∧ Y.cell? ⟨w.heap.size, 6, none⟩ = some (.int .i64 c.fl) ∧ Y.cell? ⟨w.heap.size, 7, none⟩ = some (.int .i64 c.wt)) W1.drew := HS.out _ (Below.refl _ _).drew
    have HB := Lib.hid (show Below W1.heap.size W1 W1.drew from (Below.refl _ _).drew)
    refine wpAnyH_at 0 (v := ?vv5) rfl (by kernel_rfl) (by kernel_rfl) (by kernel_rfl) (fun _ _ _ h => h) ?hy5 HSv ?hh5
    case hy5 =>
      refine Or.inl ⟨by rfl, ?_⟩
      intro W hW
      obtain ⟨h0, h1, h2, h3, h4, h5, h6, h7⟩ := hW
      go_simp
      try with_reducible rfl
    simp only [Act.put, List.setIfInBounds_toArray, List.set_cons_zero, List.set_cons_succ]
    refine wpAnyH_at 6 (v := ?vv6) rfl (by kernel_rfl) (by kernel_rfl) (by kernel_rfl) (fun _ _ _ h => h) ?hy6 HSv ?hh6
    case hy6 =>
      refine Or.inl ⟨by rfl, ?_⟩
      intro W hW
      obtain ⟨h0, h1, h2, h3, h4, h5, h6, h7⟩ := hW
      go_simp
      try with_reducible rfl
    simp only [Act.put, List.setIfInBounds_toArray, List.set_cons_zero, List.set_cons_succ]
    refine wpAnyH_at 7 (v := ?vv7) rfl (by kernel_rfl) (by kernel_rfl) (by kernel_rfl) (fun _ _ _ h => h) ?hy7 HSv ?hh7
    case hy7 =>
      refine Or.inl ⟨by rfl, ?_⟩
      intro W hW
      obtain ⟨h0, h1, h2, h3, h4, h5, h6, h7⟩ := hW
      go_simp
      try with_reducible rfl
    simp only [Act.put, List.setIfInBounds_toArray, List.set_cons_zero, List.set_cons_succ]
    refine wpAnyH_at 8 (v := ?vv8) rfl (by kernel_rfl) (by kernel_rfl) (by kernel_rfl) (fun _ _ _ h => h) ?hy8 HSv ?hh8
    case hy8 =>
      refine Or.inl ⟨by rfl, ?_⟩
      intro W hW
      obtain ⟨h0, h1, h2, h3, h4, h5, h6, h7⟩ := hW
      go_simp
      try with_reducible rfl
    simp only [Act.put, List.setIfInBounds_toArray, List.set_cons_zero, List.set_cons_succ]
    refine wpAnyH_at 9 (v := ?vv9) rfl (by kernel_rfl) (by kernel_rfl) (by kernel_rfl) (fun _ _ _ h => h) ?hy9 HSv ?hh9
    case hy9 =>
      refine Or.inl ⟨by rfl, ?_⟩
      intro W hW
      obtain ⟨h0, h1, h2, h3, h4, h5, h6, h7⟩ := hW
      go_simp
      try with_reducible rfl
    simp only [Act.put, List.setIfInBounds_toArray, List.set_cons_zero, List.set_cons_succ]
    refine wpAnyH_at 10 (v := ?vv10) rfl (by kernel_rfl) (by kernel_rfl) (by kernel_rfl) (fun _ _ _ h => h) ?hy10 HSv ?hh10
    case hy10 =>
      refine Or.inl ⟨by rfl, ?_⟩
      intro W hW
      obtain ⟨h0, h1, h2, h3, h4, h5, h6, h7⟩ := hW
      go_simp
      try with_reducible rfl
    simp only [Act.put, List.setIfInBounds_toArray, List.set_cons_zero, List.set_cons_succ]
    refine wpAnyH_at 11 (v := ?vv11) rfl (by kernel_rfl) (by kernel_rfl) (by kernel_rfl) (fun _ _ _ h => h) ?hy11 HSv ?hh11
    case hy11 =>
      refine Or.inl ⟨by rfl, ?_⟩
      intro W hW
      obtain ⟨h0, h1, h2, h3, h4, h5, h6, h7⟩ := hW
      go_simp
      try with_reducible rfl
    simp only [Act.put, List.setIfInBounds_toArray, List.set_cons_zero, List.set_cons_succ]
    refine wpAnyH_at 12 (v := ?vv12) rfl (by kernel_rfl) (by kernel_rfl) (by kernel_rfl) (fun _ _ _ h => h) ?hy12 HSv ?hh12
    case hy12 =>
      refine Or.inl ⟨by rfl, ?_⟩
      intro W hW
      obtain ⟨h0, h1, h2, h3, h4, h5, h6, h7⟩ := hW
      go_simp
      try with_reducible rfl
    simp only [Act.put, List.setIfInBounds_toArray, List.set_cons_zero, List.set_cons_succ]
    refine wpAnyH_at 13 (v := ?vv13) rfl (by kernel_rfl) (by kernel_rfl) (by kernel_rfl) (fun _ _ _ h => h) ?hy13 HSv ?hh13
    case hy13 =>
      refine Or.inl ⟨by rfl, ?_⟩
      intro W hW
      obtain ⟨h0, h1, h2, h3, h4, h5, h6, h7⟩ := hW
      go_simp
      try with_reducible rfl
    simp only [Act.put, List.setIfInBounds_toArray, List.set_cons_zero, List.set_cons_succ]
    refine wpAnyH_at 15 (v := ?vv14) rfl (by kernel_rfl) (by kernel_rfl) (by kernel_rfl) (fun _ _ _ h => h) ?hy14 HSv ?hh14
    case hy14 =>
      refine Or.inl ⟨by rfl, ?_⟩
      intro W hW
      obtain ⟨h0, h1, h2, h3, h4, h5, h6, h7⟩ := hW
      go_simp
      try with_reducible rfl
    simp only [Act.put, List.setIfInBounds_toArray, List.set_cons_zero, List.set_cons_succ]
    refine wpAnyH_at 16 (v := ?vv15) rfl (by kernel_rfl) (by kernel_rfl) (by kernel_rfl) (fun _ _ _ h => h) ?hy15 HSv ?hh15
    case hy15 =>
      refine Or.inl ⟨by rfl, ?_⟩
      intro W hW
      obtain ⟨h0, h1, h2, h3, h4, h5, h6, h7⟩ := hW
      go_simp
      try with_reducible rfl
    simp only [Act.put, List.setIfInBounds_toArray, List.set_cons_zero, List.set_cons_succ]
    generalize W1.drew = W at HSv HB ⊢
    refine wpAnyH_2 1 5 rfl rfl (by kernel_rfl) ?_ ?_
    · intro K hK
      rw [if_pos (by rfl)]
      try go_simp
      go_at_call 18
      refine (HLO.out _).mono ?_
      rintro e W2 ⟨vA, rfl, rA, bA⟩
      obtain ⟨sA, cA, rfl⟩ := rA.form
      have HR := Lib.hid (rA.base HB.out.size)
      have HB := Lib.hid (HB.out.trans (bA.mono HB.out.size))
      have HSv : (fun Y : World => Y.cell? ⟨w.heap.size, 0, none⟩ = some (.int .i64 c.mru) ∧ Y.cell? ⟨w.heap.size, 1, none⟩ = some (.int .i64 c.auth) ∧ Y.cell? ⟨w.heap.size, 2, none⟩ = some (.int .i64 c.magic) ∧ Y.cell? ⟨w.heap.size, 3, none⟩ = some (.int .i64 c.echo) ∧ Y.cell? ⟨w.heap.size, 4, none⟩ = some (.int .i64 c.cf) ∧ Y.cell? ⟨w.heap.size, 5, none⟩ = some (.int .i64 c.tm) ∧ Y.cell? ⟨w.heap.size, 6, none⟩ = some (.int .i64 c.fl) ∧ Y.cell? ⟨w.heap.size, 7, none⟩ = some (.int .i64 c.wt)) W2 := HS.out _ HB.out
      refine hK _ _ (fun _ => HSv) ?_
      try simp only [Act.put, List.setIfInBounds_toArray, List.set_cons_zero, List.set_cons_succ]
      clear rA bA
      refine wpAnyH_2 2 5 rfl rfl (by kernel_rfl) ?_ ?_
      · intro K hK
        rw [if_pos (by rfl)]
        try go_simp
        go_at_call 35
        refine (units_any 1492 _).mono ?_
        rintro e W3 ⟨rfl, bA⟩
        have HR := Lib.hid (HR.out.below bA)
        have HB := Lib.hid (HB.out.trans (bA.mono HB.out.size))
        have HSv : (fun Y : World => Y.cell? ⟨w.heap.size, 0, none⟩ = some (.int .i64 c.mru) ∧ Y.cell? ⟨w.heap.size, 1, none⟩ = some (.int .i64 c.auth) ∧ Y.cell? ⟨w.heap.size, 2, none⟩ = some (.int .i64 c.magic) ∧ Y.cell? ⟨w.heap.size, 3, none⟩ = some (.int .i64 c.echo) ∧ Y.cell? ⟨w.heap.size, 4, none⟩ = some (.int .i64 c.cf) ∧ Y.cell? ⟨w.heap.size, 5, none⟩ = some (.int .i64 c.tm) ∧ Y.cell? ⟨w.heap.size, 6, none⟩ = some (.int .i64 c.fl) ∧ Y.cell? ⟨w.heap.size, 7, none⟩ = some (.int .i64 c.wt)) W3 := HS.out _ HB.out
        refine hK _ _ (fun _ => HSv) ?_
        try simp only [Act.put, List.setIfInBounds_toArray, List.set_cons_zero, List.set_cons_succ]
        clear bA
        refine wpAnyH_2 3 5 rfl rfl (by kernel_rfl) ?_ ?_
        · intro K hK
          rw [if_pos (by rfl)]
          try go_simp
          go_at_call 36
          refine (magics_any _).mono ?_
          rintro e W4 ⟨rfl, bA⟩
          have HR := Lib.hid (HR.out.below bA)
          have HB := Lib.hid (HB.out.trans (bA.mono HB.out.size))
          have HSv : (fun Y : World => Y.cell? ⟨w.heap.size, 0, none⟩ = some (.int .i64 c.mru) ∧ Y.cell? ⟨w.heap.size, 1, none⟩ = some (.int .i64 c.auth) ∧ Y.cell? ⟨w.heap.size, 2, none⟩ = some (.int .i64 c.magic) ∧ Y.cell? ⟨w.heap.size, 3, none⟩ = some (.int .i64 c.echo) ∧ Y.cell? ⟨w.heap.size, 4, none⟩ = some (.int .i64 c.cf) ∧ Y.cell? ⟨w.heap.size, 5, none⟩ = some (.int .i64 c.tm) ∧ Y.cell? ⟨w.heap.size, 6, none⟩ = some (.int .i64 c.fl) ∧ Y.cell? ⟨w.heap.size, 7, none⟩ = some (.int .i64 c.wt)) W4 := HS.out _ HB.out
          refine hK _ _ (fun _ => HSv) ?_
          try simp only [Act.put, List.setIfInBounds_toArray, List.set_cons_zero, List.set_cons_succ]
          clear bA
          refine wpAnyH_2 4 5 rfl rfl (by kernel_rfl) ?_ ?_
          · intro K hK
            rw [if_pos (by rfl)]
            try go_simp
            have bA : Below W4.heap.size W4 (W4.alloc (.cells #[.int .i64 1, .int .i64 2, .int .i64 64, .int .i64 1492, .string (be2 1492), .int .i64 5, .int .i64 4, .int .i64 1, .int .i64 4294967295, .string (be4 1)] 73 (0, 0))) := (Below.refl _ _).alloc (Nat.le_refl _) _
            have hz := at1 W4 (.cells #[.int .i64 1, .int .i64 2, .int .i64 64, .int .i64 1492, .string (be2 1492), .int .i64 5, .int .i64 4, .int .i64 1, .int .i64 4294967295, .string (be4 1)] 73 (0, 0))
            generalize hW5 : W4.alloc (.cells #[.int .i64 1, .int .i64 2, .int .i64 64, .int .i64 1492, .string (be2 1492), .int .i64 5, .int .i64 4, .int .i64 1, .int .i64 4294967295, .string (be4 1)] 73 (0, 0)) = W5 at bA hz ⊢
            obtain ⟨rb, hrb⟩ : ∃ rb, rb = W4.heap.size := ⟨_, rfl⟩
            rw [← hrb] at hz ⊢
            have HRu := Lib.hid hz
            have HR := Lib.hid (HR.out.below bA)
            have HB := Lib.hid (HB.out.trans (bA.mono HB.out.size))
            have HSv : (fun Y : World => Y.cell? ⟨w.heap.size, 0, none⟩ = some (.int .i64 c.mru) ∧ Y.cell? ⟨w.heap.size, 1, none⟩ = some (.int .i64 c.auth) ∧ Y.cell? ⟨w.heap.size, 2, none⟩ = some (.int .i64 c.magic) ∧ Y.cell? ⟨w.heap.size, 3, none⟩ = some (.int .i64 c.echo) ∧ Y.cell? ⟨w.heap.size, 4, none⟩ = some (.int .i64 c.cf) ∧ Y.cell? ⟨w.heap.size, 5, none⟩ = some (.int .i64 c.tm) ∧ Y.cell? ⟨w.heap.size, 6, none⟩ = some (.int .i64 c.fl) ∧ Y.cell? ⟨w.heap.size, 7, none⟩ = some (.int .i64 c.wt)) W5 := HS.out _ HB.out
            refine hK _ _ (fun _ => HSv) ?_
            try simp only [Act.put, List.setIfInBounds_toArray, List.set_cons_zero, List.set_cons_succ]
            clear bA hz hW5 hrb
            refine wpAnyH_1 5 rfl (by kernel_rfl) ?_
            intro K hK
            rw [if_pos (by rfl)]
            try go_simp
            have bA : Below W5.heap.size W5 (W5.alloc (.cells #[.int .i64 3] 3 (0, 0))) := (Below.refl _ _).alloc (Nat.le_refl _) _
            have hz := at1 W5 (.cells #[.int .i64 3] 3 (0, 0))
            generalize hW6 : W5.alloc (.cells #[.int .i64 3] 3 (0, 0)) = W6 at bA hz ⊢
            obtain ⟨ib, hib⟩ : ∃ ib, ib = W5.heap.size := ⟨_, rfl⟩
            rw [← hib] at hz ⊢
            have HI := Lib.hid hz
            have HR := Lib.hid (HR.out.below bA)
            have HRu := Lib.hid ((bA.block _ (Array.getElem?_eq_some_iff.1 HRu.out).1).trans HRu.out)
            have HB := Lib.hid (HB.out.trans (bA.mono HB.out.size))
            have HSv : (fun Y : World => Y.cell? ⟨w.heap.size, 0, none⟩ = some (.int .i64 c.mru) ∧ Y.cell? ⟨w.heap.size, 1, none⟩ = some (.int .i64 c.auth) ∧ Y.cell? ⟨w.heap.size, 2, none⟩ = some (.int .i64 c.magic) ∧ Y.cell? ⟨w.heap.size, 3, none⟩ = some (.int .i64 c.echo) ∧ Y.cell? ⟨w.heap.size, 4, none⟩ = some (.int .i64 c.cf) ∧ Y.cell? ⟨w.heap.size, 5, none⟩ = some (.int .i64 c.tm) ∧ Y.cell? ⟨w.heap.size, 6, none⟩ = some (.int .i64 c.fl) ∧ Y.cell? ⟨w.heap.size, 7, none⟩ = some (.int .i64 c.wt)) W6 := HS.out _ HB.out
            refine hK _ _ (fun _ => HSv) ?_
            try simp only [Act.put, List.setIfInBounds_toArray, List.set_cons_zero, List.set_cons_succ]
            clear bA hz hW6 hib
            refine wpAnyH_at 14 (v := ?vv16) rfl (by kernel_rfl) (by kernel_rfl) (by kernel_rfl) (fun _ _ _ h => h) ?hy16 HSv ?hh16
            case hy16 =>
              refine Or.inl ⟨by rfl, ?_⟩
              intro W hW
              obtain ⟨h0, h1, h2, h3, h4, h5, h6, h7⟩ := hW
              go_simp
              try with_reducible rfl
            simp only [Act.put, List.setIfInBounds_toArray, List.set_cons_zero, List.set_cons_succ]
            refine wpAnyH_1 17 rfl (by kernel_rfl) ?_
            intro K hK
            rw [if_pos (by rfl)]
            try go_simp
            go_at_call 34
            refine (HNN.out lb W1 W6 sA cA rb ib HB.out HR.out HRu.out HI.out).mono ?_
            rintro e wE ⟨B, rfl, nE, bE⟩
            have zl := (bE.block lb (Array.getElem?_eq_some_iff.1 HZ.out.2.1).1).trans HZ.out.2.1
            have f0 := fzOf zl 0
            have c0 : wE.cell? ⟨lb, 0, none⟩ = some (.pointer none) := cellOf zl 0 _ rfl
            have HN := Lib.hid (And.intro bE nE)
            have HSv : (fun Y : World => Y.cell? ⟨w.heap.size, 0, none⟩ = some (.int .i64 c.mru) ∧ Y.cell? ⟨w.heap.size, 1, none⟩ = some (.int .i64 c.auth) ∧ Y.cell? ⟨w.heap.size, 2, none⟩ = some (.int .i64 c.magic) ∧ Y.cell? ⟨w.heap.size, 3, none⟩ = some (.int .i64 c.echo) ∧ Y.cell? ⟨w.heap.size, 4, none⟩ = some (.int .i64 c.cf) ∧ Y.cell? ⟨w.heap.size, 5, none⟩ = some (.int .i64 c.tm) ∧ Y.cell? ⟨w.heap.size, 6, none⟩ = some (.int .i64 c.fl) ∧ Y.cell? ⟨w.heap.size, 7, none⟩ = some (.int .i64 c.wt)) wE := HS.out _ bE
            clear bE nE zl
            refine hK _ _ (fun _ => HSv) ?_
            try simp only [Act.put, List.setIfInBounds_toArray, List.set_cons_zero, List.set_cons_succ]
            refine wpAnyH_at 18 (v := ?vv17) rfl (by kernel_rfl) (by kernel_rfl) (by kernel_rfl) (fun _ _ _ h => h) ?hy17 HSv ?hh17
            case hy17 =>
              refine Or.inl ⟨by rfl, ?_⟩
              intro W hW
              obtain ⟨h0, h1, h2, h3, h4, h5, h6, h7⟩ := hW
              go_simp
              try with_reducible rfl
            simp only [Act.put, List.setIfInBounds_toArray, List.set_cons_zero, List.set_cons_succ]
            refine wpAnyH_at 19 (v := ?vv18) rfl (by kernel_rfl) (by kernel_rfl) (by kernel_rfl) (fun _ _ _ h => h) ?hy18 HSv ?hh18
            case hy18 =>
              refine Or.inl ⟨by rfl, ?_⟩
              intro W hW
              obtain ⟨h0, h1, h2, h3, h4, h5, h6, h7⟩ := hW
              go_simp
              try with_reducible rfl
            simp only [Act.put, List.setIfInBounds_toArray, List.set_cons_zero, List.set_cons_succ]
            refine wpAnyH_at 21 (v := ?vv19) rfl (by kernel_rfl) (by kernel_rfl) (by kernel_rfl) (fun _ _ _ h => h) ?hy19 HSv ?hh19
            case hy19 =>
              refine Or.inl ⟨by rfl, ?_⟩
              intro W hW
              obtain ⟨h0, h1, h2, h3, h4, h5, h6, h7⟩ := hW
              go_simp
              try with_reducible rfl
            simp only [Act.put, List.setIfInBounds_toArray, List.set_cons_zero, List.set_cons_succ]
            refine wpAnyH_at 20 (v := ?vv20) rfl (by kernel_rfl) (by kernel_rfl) (by kernel_rfl) (fun _ _ _ h => h) ?hy20 HSv ?hh20
            case hy20 =>
              refine Or.inl ⟨by rfl, ?_⟩
              intro W hW
              obtain ⟨h0, h1, h2, h3, h4, h5, h6, h7⟩ := hW
              go_simp
              try with_reducible rfl
            simp only [Act.put, List.setIfInBounds_toArray, List.set_cons_zero, List.set_cons_succ]
            refine wpAnyH_at 22 (v := ?vv21) rfl (by kernel_rfl) (by kernel_rfl) (by kernel_rfl) (fun _ _ _ h => h) ?hy21 HSv ?hh21
            case hy21 =>
              refine Or.inl ⟨by rfl, ?_⟩
              intro W hW
              obtain ⟨h0, h1, h2, h3, h4, h5, h6, h7⟩ := hW
              go_simp
              try with_reducible rfl
            simp only [Act.put, List.setIfInBounds_toArray, List.set_cons_zero, List.set_cons_succ]
            refine wpAnyH_end 23 (fun j hj => rgH_end _ _ j (by omega)) (by rfl) (by kernel_rfl) ?_
            simp only [List.drop_succ_cons, List.drop_zero]
            clear HSv
            go_wp2_with fail
            go_ret2
            exact HG.out wE B HN.out.1 HN.out.2
          · intro K hK
            rw [if_pos (by rfl)]
            try go_simp
            have bA : Below W4.heap.size W4 (W4.alloc (.cells #[.int .i64 3] 3 (0, 0))) := (Below.refl _ _).alloc (Nat.le_refl _) _
            have hz := at1 W4 (.cells #[.int .i64 3] 3 (0, 0))
            generalize hW5 : W4.alloc (.cells #[.int .i64 3] 3 (0, 0)) = W5 at bA hz ⊢
            obtain ⟨ib, hib⟩ : ∃ ib, ib = W4.heap.size := ⟨_, rfl⟩
            rw [← hib] at hz ⊢
            have HI := Lib.hid hz
            have HR := Lib.hid (HR.out.below bA)
            have HB := Lib.hid (HB.out.trans (bA.mono HB.out.size))
            have HSv : (fun Y : World => Y.cell? ⟨w.heap.size, 0, none⟩ = some (.int .i64 c.mru) ∧ Y.cell? ⟨w.heap.size, 1, none⟩ = some (.int .i64 c.auth) ∧ Y.cell? ⟨w.heap.size, 2, none⟩ = some (.int .i64 c.magic) ∧ Y.cell? ⟨w.heap.size, 3, none⟩ = some (.int .i64 c.echo) ∧ Y.cell? ⟨w.heap.size, 4, none⟩ = some (.int .i64 c.cf) ∧ Y.cell? ⟨w.heap.size, 5, none⟩ = some (.int .i64 c.tm) ∧ Y.cell? ⟨w.heap.size, 6, none⟩ = some (.int .i64 c.fl) ∧ Y.cell? ⟨w.heap.size, 7, none⟩ = some (.int .i64 c.wt)) W5 := HS.out _ HB.out
            refine hK _ _ (fun _ => HSv) ?_
            try simp only [Act.put, List.setIfInBounds_toArray, List.set_cons_zero, List.set_cons_succ]
            clear bA hz hW5 hib
            refine wpAnyH_1 4 rfl (by kernel_rfl) ?_
            intro K hK
            rw [if_pos (by rfl)]
            try go_simp
            have bA : Below W5.heap.size W5 (W5.alloc (.cells #[.int .i64 1, .int .i64 2, .int .i64 64, .int .i64 1492, .string (be2 1492), .int .i64 5, .int .i64 4, .int .i64 1, .int .i64 4294967295, .string (be4 1)] 73 (0, 0))) := (Below.refl _ _).alloc (Nat.le_refl _) _
            have hz := at1 W5 (.cells #[.int .i64 1, .int .i64 2, .int .i64 64, .int .i64 1492, .string (be2 1492), .int .i64 5, .int .i64 4, .int .i64 1, .int .i64 4294967295, .string (be4 1)] 73 (0, 0))
            generalize hW6 : W5.alloc (.cells #[.int .i64 1, .int .i64 2, .int .i64 64, .int .i64 1492, .string (be2 1492), .int .i64 5, .int .i64 4, .int .i64 1, .int .i64 4294967295, .string (be4 1)] 73 (0, 0)) = W6 at bA hz ⊢
            obtain ⟨rb, hrb⟩ : ∃ rb, rb = W5.heap.size := ⟨_, rfl⟩
            rw [← hrb] at hz ⊢
            have HRu := Lib.hid hz
            have HR := Lib.hid (HR.out.below bA)
            have HB := Lib.hid (HB.out.trans (bA.mono HB.out.size))
            have HSv : (fun Y : World => Y.cell? ⟨w.heap.size, 0, none⟩ = some (.int .i64 c.mru) ∧ Y.cell? ⟨w.heap.size, 1, none⟩ = some (.int .i64 c.auth) ∧ Y.cell? ⟨w.heap.size, 2, none⟩ = some (.int .i64 c.magic) ∧ Y.cell? ⟨w.heap.size, 3, none⟩ = some (.int .i64 c.echo) ∧ Y.cell? ⟨w.heap.size, 4, none⟩ = some (.int .i64 c.cf) ∧ Y.cell? ⟨w.heap.size, 5, none⟩ = some (.int .i64 c.tm) ∧ Y.cell? ⟨w.heap.size, 6, none⟩ = some (.int .i64 c.fl) ∧ Y.cell? ⟨w.heap.size, 7, none⟩ = some (.int .i64 c.wt)) W6 := HS.out _ HB.out
            have HI := Lib.hid ((bA.block _ (Array.getElem?_eq_some_iff.1 HI.out).1).trans HI.out)
            refine hK _ _ (fun _ => HSv) ?_
            try simp only [Act.put, List.setIfInBounds_toArray, List.set_cons_zero, List.set_cons_succ]
            clear bA hz hW6 hrb
            refine wpAnyH_at 14 (v := ?vv22) rfl (by kernel_rfl) (by kernel_rfl) (by kernel_rfl) (fun _ _ _ h => h) ?hy22 HSv ?hh22
            case hy22 =>
              refine Or.inl ⟨by rfl, ?_⟩
              intro W hW
              obtain ⟨h0, h1, h2, h3, h4, h5, h6, h7⟩ := hW
              go_simp
              try with_reducible rfl
            simp only [Act.put, List.setIfInBounds_toArray, List.set_cons_zero, List.set_cons_succ]
            refine wpAnyH_1 17 rfl (by kernel_rfl) ?_
            intro K hK
            rw [if_pos (by rfl)]
            try go_simp
            go_at_call 34
            refine (HNN.out lb W1 W6 sA cA rb ib HB.out HR.out HRu.out HI.out).mono ?_
            rintro e wE ⟨B, rfl, nE, bE⟩
            have zl := (bE.block lb (Array.getElem?_eq_some_iff.1 HZ.out.2.1).1).trans HZ.out.2.1
            have f0 := fzOf zl 0
            have c0 : wE.cell? ⟨lb, 0, none⟩ = some (.pointer none) := cellOf zl 0 _ rfl
            have HN := Lib.hid (And.intro bE nE)
            have HSv : (fun Y : World => Y.cell? ⟨w.heap.size, 0, none⟩ = some (.int .i64 c.mru) ∧ Y.cell? ⟨w.heap.size, 1, none⟩ = some (.int .i64 c.auth) ∧ Y.cell? ⟨w.heap.size, 2, none⟩ = some (.int .i64 c.magic) ∧ Y.cell? ⟨w.heap.size, 3, none⟩ = some (.int .i64 c.echo) ∧ Y.cell? ⟨w.heap.size, 4, none⟩ = some (.int .i64 c.cf) ∧ Y.cell? ⟨w.heap.size, 5, none⟩ = some (.int .i64 c.tm) ∧ Y.cell? ⟨w.heap.size, 6, none⟩ = some (.int .i64 c.fl) ∧ Y.cell? ⟨w.heap.size, 7, none⟩ = some (.int .i64 c.wt)) wE := HS.out _ bE
            clear bE nE zl
            refine hK _ _ (fun _ => HSv) ?_
            try simp only [Act.put, List.setIfInBounds_toArray, List.set_cons_zero, List.set_cons_succ]
            refine wpAnyH_at 18 (v := ?vv23) rfl (by kernel_rfl) (by kernel_rfl) (by kernel_rfl) (fun _ _ _ h => h) ?hy23 HSv ?hh23
            case hy23 =>
              refine Or.inl ⟨by rfl, ?_⟩
              intro W hW
              obtain ⟨h0, h1, h2, h3, h4, h5, h6, h7⟩ := hW
              go_simp
              try with_reducible rfl
            simp only [Act.put, List.setIfInBounds_toArray, List.set_cons_zero, List.set_cons_succ]
            refine wpAnyH_at 19 (v := ?vv24) rfl (by kernel_rfl) (by kernel_rfl) (by kernel_rfl) (fun _ _ _ h => h) ?hy24 HSv ?hh24
            case hy24 =>
              refine Or.inl ⟨by rfl, ?_⟩
              intro W hW
              obtain ⟨h0, h1, h2, h3, h4, h5, h6, h7⟩ := hW
              go_simp
              try with_reducible rfl
            simp only [Act.put, List.setIfInBounds_toArray, List.set_cons_zero, List.set_cons_succ]
            refine wpAnyH_at 21 (v := ?vv25) rfl (by kernel_rfl) (by kernel_rfl) (by kernel_rfl) (fun _ _ _ h => h) ?hy25 HSv ?hh25
            case hy25 =>
              refine Or.inl ⟨by rfl, ?_⟩
              intro W hW
              obtain ⟨h0, h1, h2, h3, h4, h5, h6, h7⟩ := hW
              go_simp
              try with_reducible rfl
            simp only [Act.put, List.setIfInBounds_toArray, List.set_cons_zero, List.set_cons_succ]
            refine wpAnyH_at 20 (v := ?vv26) rfl (by kernel_rfl) (by kernel_rfl) (by kernel_rfl) (fun _ _ _ h => h) ?hy26 HSv ?hh26
            case hy26 =>
              refine Or.inl ⟨by rfl, ?_⟩
              intro W hW
              obtain ⟨h0, h1, h2, h3, h4, h5, h6, h7⟩ := hW
              go_simp
              try with_reducible rfl
            simp only [Act.put, List.setIfInBounds_toArray, List.set_cons_zero, List.set_cons_succ]
            refine wpAnyH_at 22 (v := ?vv27) rfl (by kernel_rfl) (by kernel_rfl) (by kernel_rfl) (fun _ _ _ h => h) ?hy27 HSv ?hh27
            case hy27 =>
              refine Or.inl ⟨by rfl, ?_⟩
              intro W hW
              obtain ⟨h0, h1, h2, h3, h4, h5, h6, h7⟩ := hW
              go_simp
              try with_reducible rfl
            simp only [Act.put, List.setIfInBounds_toArray, List.set_cons_zero, List.set_cons_succ]
            refine wpAnyH_end 23 (fun j hj => rgH_end _ _ j (by omega)) (by rfl) (by kernel_rfl) ?_
            simp only [List.drop_succ_cons, List.drop_zero]
            clear HSv
            go_wp2_with fail
            go_ret2
            exact HG.out wE B HN.out.1 HN.out.2
        · intro K hK
          rw [if_pos (by rfl)]
          try go_simp
          have bA : Below W3.heap.size W3 (W3.alloc (.cells #[.int .i64 3] 3 (0, 0))) := (Below.refl _ _).alloc (Nat.le_refl _) _
          have hz := at1 W3 (.cells #[.int .i64 3] 3 (0, 0))
          generalize hW4 : W3.alloc (.cells #[.int .i64 3] 3 (0, 0)) = W4 at bA hz ⊢
          obtain ⟨ib, hib⟩ : ∃ ib, ib = W3.heap.size := ⟨_, rfl⟩
          rw [← hib] at hz ⊢
          have HI := Lib.hid hz
          have HR := Lib.hid (HR.out.below bA)
          have HB := Lib.hid (HB.out.trans (bA.mono HB.out.size))
          have HSv : (fun Y : World => Y.cell? ⟨w.heap.size, 0, none⟩ = some (.int .i64 c.mru) ∧ Y.cell? ⟨w.heap.size, 1, none⟩ = some (.int .i64 c.auth) ∧ Y.cell? ⟨w.heap.size, 2, none⟩ = some (.int .i64 c.magic) ∧ Y.cell? ⟨w.heap.size, 3, none⟩ = some (.int .i64 c.echo) ∧ Y.cell? ⟨w.heap.size, 4, none⟩ = some (.int .i64 c.cf) ∧ Y.cell? ⟨w.heap.size, 5, none⟩ = some (.int .i64 c.tm) ∧ Y.cell? ⟨w.heap.size, 6, none⟩ = some (.int .i64 c.fl) ∧ Y.cell? ⟨w.heap.size, 7, none⟩ = some (.int .i64 c.wt)) W4 := HS.out _ HB.out
          refine hK _ _ (fun _ => HSv) ?_
          try simp only [Act.put, List.setIfInBounds_toArray, List.set_cons_zero, List.set_cons_succ]
          clear bA hz hW4 hib
          refine wpAnyH_1 3 rfl (by kernel_rfl) ?_
          intro K hK
          rw [if_pos (by rfl)]
          try go_simp
          go_at_call 36
          refine (magics_any _).mono ?_
          rintro e W5 ⟨rfl, bA⟩
          have HR := Lib.hid (HR.out.below bA)
          have HB := Lib.hid (HB.out.trans (bA.mono HB.out.size))
          have HSv : (fun Y : World => Y.cell? ⟨w.heap.size, 0, none⟩ = some (.int .i64 c.mru) ∧ Y.cell? ⟨w.heap.size, 1, none⟩ = some (.int .i64 c.auth) ∧ Y.cell? ⟨w.heap.size, 2, none⟩ = some (.int .i64 c.magic) ∧ Y.cell? ⟨w.heap.size, 3, none⟩ = some (.int .i64 c.echo) ∧ Y.cell? ⟨w.heap.size, 4, none⟩ = some (.int .i64 c.cf) ∧ Y.cell? ⟨w.heap.size, 5, none⟩ = some (.int .i64 c.tm) ∧ Y.cell? ⟨w.heap.size, 6, none⟩ = some (.int .i64 c.fl) ∧ Y.cell? ⟨w.heap.size, 7, none⟩ = some (.int .i64 c.wt)) W5 := HS.out _ HB.out
          have HI := Lib.hid ((bA.block _ (Array.getElem?_eq_some_iff.1 HI.out).1).trans HI.out)
          refine hK _ _ (fun _ => HSv) ?_
          try simp only [Act.put, List.setIfInBounds_toArray, List.set_cons_zero, List.set_cons_succ]
          clear bA
          refine wpAnyH_1 4 rfl (by kernel_rfl) ?_
          intro K hK
          rw [if_pos (by rfl)]
          try go_simp
          have bA : Below W5.heap.size W5 (W5.alloc (.cells #[.int .i64 1, .int .i64 2, .int .i64 64, .int .i64 1492, .string (be2 1492), .int .i64 5, .int .i64 4, .int .i64 1, .int .i64 4294967295, .string (be4 1)] 73 (0, 0))) := (Below.refl _ _).alloc (Nat.le_refl _) _
          have hz := at1 W5 (.cells #[.int .i64 1, .int .i64 2, .int .i64 64, .int .i64 1492, .string (be2 1492), .int .i64 5, .int .i64 4, .int .i64 1, .int .i64 4294967295, .string (be4 1)] 73 (0, 0))
          generalize hW6 : W5.alloc (.cells #[.int .i64 1, .int .i64 2, .int .i64 64, .int .i64 1492, .string (be2 1492), .int .i64 5, .int .i64 4, .int .i64 1, .int .i64 4294967295, .string (be4 1)] 73 (0, 0)) = W6 at bA hz ⊢
          obtain ⟨rb, hrb⟩ : ∃ rb, rb = W5.heap.size := ⟨_, rfl⟩
          rw [← hrb] at hz ⊢
          have HRu := Lib.hid hz
          have HR := Lib.hid (HR.out.below bA)
          have HB := Lib.hid (HB.out.trans (bA.mono HB.out.size))
          have HSv : (fun Y : World => Y.cell? ⟨w.heap.size, 0, none⟩ = some (.int .i64 c.mru) ∧ Y.cell? ⟨w.heap.size, 1, none⟩ = some (.int .i64 c.auth) ∧ Y.cell? ⟨w.heap.size, 2, none⟩ = some (.int .i64 c.magic) ∧ Y.cell? ⟨w.heap.size, 3, none⟩ = some (.int .i64 c.echo) ∧ Y.cell? ⟨w.heap.size, 4, none⟩ = some (.int .i64 c.cf) ∧ Y.cell? ⟨w.heap.size, 5, none⟩ = some (.int .i64 c.tm) ∧ Y.cell? ⟨w.heap.size, 6, none⟩ = some (.int .i64 c.fl) ∧ Y.cell? ⟨w.heap.size, 7, none⟩ = some (.int .i64 c.wt)) W6 := HS.out _ HB.out
          have HI := Lib.hid ((bA.block _ (Array.getElem?_eq_some_iff.1 HI.out).1).trans HI.out)
          refine hK _ _ (fun _ => HSv) ?_
          try simp only [Act.put, List.setIfInBounds_toArray, List.set_cons_zero, List.set_cons_succ]
          clear bA hz hW6 hrb
          refine wpAnyH_at 14 (v := ?vv28) rfl (by kernel_rfl) (by kernel_rfl) (by kernel_rfl) (fun _ _ _ h => h) ?hy28 HSv ?hh28
          case hy28 =>
            refine Or.inl ⟨by rfl, ?_⟩
            intro W hW
            obtain ⟨h0, h1, h2, h3, h4, h5, h6, h7⟩ := hW
            go_simp
            try with_reducible rfl
          simp only [Act.put, List.setIfInBounds_toArray, List.set_cons_zero, List.set_cons_succ]
          refine wpAnyH_1 17 rfl (by kernel_rfl) ?_
          intro K hK
          rw [if_pos (by rfl)]
          try go_simp
          go_at_call 34
          refine (HNN.out lb W1 W6 sA cA rb ib HB.out HR.out HRu.out HI.out).mono ?_
          rintro e wE ⟨B, rfl, nE, bE⟩
          have zl := (bE.block lb (Array.getElem?_eq_some_iff.1 HZ.out.2.1).1).trans HZ.out.2.1
          have f0 := fzOf zl 0
          have c0 : wE.cell? ⟨lb, 0, none⟩ = some (.pointer none) := cellOf zl 0 _ rfl
          have HN := Lib.hid (And.intro bE nE)
          have HSv : (fun Y : World => Y.cell? ⟨w.heap.size, 0, none⟩ = some (.int .i64 c.mru) ∧ Y.cell? ⟨w.heap.size, 1, none⟩ = some (.int .i64 c.auth) ∧ Y.cell? ⟨w.heap.size, 2, none⟩ = some (.int .i64 c.magic) ∧ Y.cell? ⟨w.heap.size, 3, none⟩ = some (.int .i64 c.echo) ∧ Y.cell? ⟨w.heap.size, 4, none⟩ = some (.int .i64 c.cf) ∧ Y.cell? ⟨w.heap.size, 5, none⟩ = some (.int .i64 c.tm) ∧ Y.cell? ⟨w.heap.size, 6, none⟩ = some (.int .i64 c.fl) ∧ Y.cell? ⟨w.heap.size, 7, none⟩ = some (.int .i64 c.wt)) wE := HS.out _ bE
          clear bE nE zl
          refine hK _ _ (fun _ => HSv) ?_
          try simp only [Act.put, List.setIfInBounds_toArray, List.set_cons_zero, List.set_cons_succ]
          refine wpAnyH_at 18 (v := ?vv29) rfl (by kernel_rfl) (by kernel_rfl) (by kernel_rfl) (fun _ _ _ h => h) ?hy29 HSv ?hh29
          case hy29 =>
            refine Or.inl ⟨by rfl, ?_⟩
            intro W hW
            obtain ⟨h0, h1, h2, h3, h4, h5, h6, h7⟩ := hW
            go_simp
            try with_reducible rfl
          simp only [Act.put, List.setIfInBounds_toArray, List.set_cons_zero, List.set_cons_succ]
          refine wpAnyH_at 19 (v := ?vv30) rfl (by kernel_rfl) (by kernel_rfl) (by kernel_rfl) (fun _ _ _ h => h) ?hy30 HSv ?hh30
          case hy30 =>
            refine Or.inl ⟨by rfl, ?_⟩
            intro W hW
            obtain ⟨h0, h1, h2, h3, h4, h5, h6, h7⟩ := hW
            go_simp
            try with_reducible rfl
          simp only [Act.put, List.setIfInBounds_toArray, List.set_cons_zero, List.set_cons_succ]
          refine wpAnyH_at 21 (v := ?vv31) rfl (by kernel_rfl) (by kernel_rfl) (by kernel_rfl) (fun _ _ _ h => h) ?hy31 HSv ?hh31
          case hy31 =>
            refine Or.inl ⟨by rfl, ?_⟩
            intro W hW
            obtain ⟨h0, h1, h2, h3, h4, h5, h6, h7⟩ := hW
            go_simp
            try with_reducible rfl
          simp only [Act.put, List.setIfInBounds_toArray, List.set_cons_zero, List.set_cons_succ]
          refine wpAnyH_at 20 (v := ?vv32) rfl (by kernel_rfl) (by kernel_rfl) (by kernel_rfl) (fun _ _ _ h => h) ?hy32 HSv ?hh32
          case hy32 =>
            refine Or.inl ⟨by rfl, ?_⟩
            intro W hW
            obtain ⟨h0, h1, h2, h3, h4, h5, h6, h7⟩ := hW
            go_simp
            try with_reducible rfl
          simp only [Act.put, List.setIfInBounds_toArray, List.set_cons_zero, List.set_cons_succ]
          refine wpAnyH_at 22 (v := ?vv33) rfl (by kernel_rfl) (by kernel_rfl) (by kernel_rfl) (fun _ _ _ h => h) ?hy33 HSv ?hh33
          case hy33 =>
            refine Or.inl ⟨by rfl, ?_⟩
            intro W hW
            obtain ⟨h0, h1, h2, h3, h4, h5, h6, h7⟩ := hW
            go_simp
            try with_reducible rfl
          simp only [Act.put, List.setIfInBounds_toArray, List.set_cons_zero, List.set_cons_succ]
          refine wpAnyH_end 23 (fun j hj => rgH_end _ _ j (by omega)) (by rfl) (by kernel_rfl) ?_
          simp only [List.drop_succ_cons, List.drop_zero]
          clear HSv
          go_wp2_with fail
          go_ret2
          exact HG.out wE B HN.out.1 HN.out.2
      · intro K hK
        rw [if_pos (by rfl)]
        try go_simp
        have bA : Below W2.heap.size W2 (W2.alloc (.cells #[.int .i64 3] 3 (0, 0))) := (Below.refl _ _).alloc (Nat.le_refl _) _
        have hz := at1 W2 (.cells #[.int .i64 3] 3 (0, 0))
        generalize hW3 : W2.alloc (.cells #[.int .i64 3] 3 (0, 0)) = W3 at bA hz ⊢
        obtain ⟨ib, hib⟩ : ∃ ib, ib = W2.heap.size := ⟨_, rfl⟩
        rw [← hib] at hz ⊢
        have HI := Lib.hid hz
        have HR := Lib.hid (HR.out.below bA)
        have HB := Lib.hid (HB.out.trans (bA.mono HB.out.size))
        have HSv : (fun Y : World => Y.cell? ⟨w.heap.size, 0, none⟩ = some (.int .i64 c.mru) ∧ Y.cell? ⟨w.heap.size, 1, none⟩ = some (.int .i64 c.auth) ∧ Y.cell? ⟨w.heap.size, 2, none⟩ = some (.int .i64 c.magic) ∧ Y.cell? ⟨w.heap.size, 3, none⟩ = some (.int .i64 c.echo) ∧ Y.cell? ⟨w.heap.size, 4, none⟩ = some (.int .i64 c.cf) ∧ Y.cell? ⟨w.heap.size, 5, none⟩ = some (.int .i64 c.tm) ∧ Y.cell? ⟨w.heap.size, 6, none⟩ = some (.int .i64 c.fl) ∧ Y.cell? ⟨w.heap.size, 7, none⟩ = some (.int .i64 c.wt)) W3 := HS.out _ HB.out
        refine hK _ _ (fun _ => HSv) ?_
        try simp only [Act.put, List.setIfInBounds_toArray, List.set_cons_zero, List.set_cons_succ]
        clear bA hz hW3 hib
        refine wpAnyH_1 2 rfl (by kernel_rfl) ?_
        intro K hK
        rw [if_pos (by rfl)]
        try go_simp
        go_at_call 35
        refine (units_any 1492 _).mono ?_
        rintro e W4 ⟨rfl, bA⟩
        have HR := Lib.hid (HR.out.below bA)
        have HB := Lib.hid (HB.out.trans (bA.mono HB.out.size))
        have HSv : (fun Y : World => Y.cell? ⟨w.heap.size, 0, none⟩ = some (.int .i64 c.mru) ∧ Y.cell? ⟨w.heap.size, 1, none⟩ = some (.int .i64 c.auth) ∧ Y.cell? ⟨w.heap.size, 2, none⟩ = some (.int .i64 c.magic) ∧ Y.cell? ⟨w.heap.size, 3, none⟩ = some (.int .i64 c.echo) ∧ Y.cell? ⟨w.heap.size, 4, none⟩ = some (.int .i64 c.cf) ∧ Y.cell? ⟨w.heap.size, 5, none⟩ = some (.int .i64 c.tm) ∧ Y.cell? ⟨w.heap.size, 6, none⟩ = some (.int .i64 c.fl) ∧ Y.cell? ⟨w.heap.size, 7, none⟩ = some (.int .i64 c.wt)) W4 := HS.out _ HB.out
        have HI := Lib.hid ((bA.block _ (Array.getElem?_eq_some_iff.1 HI.out).1).trans HI.out)
        refine hK _ _ (fun _ => HSv) ?_
        try simp only [Act.put, List.setIfInBounds_toArray, List.set_cons_zero, List.set_cons_succ]
        clear bA
        refine wpAnyH_1 3 rfl (by kernel_rfl) ?_
        intro K hK
        rw [if_pos (by rfl)]
        try go_simp
        go_at_call 36
        refine (magics_any _).mono ?_
        rintro e W5 ⟨rfl, bA⟩
        have HR := Lib.hid (HR.out.below bA)
        have HB := Lib.hid (HB.out.trans (bA.mono HB.out.size))
        have HSv : (fun Y : World => Y.cell? ⟨w.heap.size, 0, none⟩ = some (.int .i64 c.mru) ∧ Y.cell? ⟨w.heap.size, 1, none⟩ = some (.int .i64 c.auth) ∧ Y.cell? ⟨w.heap.size, 2, none⟩ = some (.int .i64 c.magic) ∧ Y.cell? ⟨w.heap.size, 3, none⟩ = some (.int .i64 c.echo) ∧ Y.cell? ⟨w.heap.size, 4, none⟩ = some (.int .i64 c.cf) ∧ Y.cell? ⟨w.heap.size, 5, none⟩ = some (.int .i64 c.tm) ∧ Y.cell? ⟨w.heap.size, 6, none⟩ = some (.int .i64 c.fl) ∧ Y.cell? ⟨w.heap.size, 7, none⟩ = some (.int .i64 c.wt)) W5 := HS.out _ HB.out
        have HI := Lib.hid ((bA.block _ (Array.getElem?_eq_some_iff.1 HI.out).1).trans HI.out)
        refine hK _ _ (fun _ => HSv) ?_
        try simp only [Act.put, List.setIfInBounds_toArray, List.set_cons_zero, List.set_cons_succ]
        clear bA
        refine wpAnyH_1 4 rfl (by kernel_rfl) ?_
        intro K hK
        rw [if_pos (by rfl)]
        try go_simp
        have bA : Below W5.heap.size W5 (W5.alloc (.cells #[.int .i64 1, .int .i64 2, .int .i64 64, .int .i64 1492, .string (be2 1492), .int .i64 5, .int .i64 4, .int .i64 1, .int .i64 4294967295, .string (be4 1)] 73 (0, 0))) := (Below.refl _ _).alloc (Nat.le_refl _) _
        have hz := at1 W5 (.cells #[.int .i64 1, .int .i64 2, .int .i64 64, .int .i64 1492, .string (be2 1492), .int .i64 5, .int .i64 4, .int .i64 1, .int .i64 4294967295, .string (be4 1)] 73 (0, 0))
        generalize hW6 : W5.alloc (.cells #[.int .i64 1, .int .i64 2, .int .i64 64, .int .i64 1492, .string (be2 1492), .int .i64 5, .int .i64 4, .int .i64 1, .int .i64 4294967295, .string (be4 1)] 73 (0, 0)) = W6 at bA hz ⊢
        obtain ⟨rb, hrb⟩ : ∃ rb, rb = W5.heap.size := ⟨_, rfl⟩
        rw [← hrb] at hz ⊢
        have HRu := Lib.hid hz
        have HR := Lib.hid (HR.out.below bA)
        have HB := Lib.hid (HB.out.trans (bA.mono HB.out.size))
        have HSv : (fun Y : World => Y.cell? ⟨w.heap.size, 0, none⟩ = some (.int .i64 c.mru) ∧ Y.cell? ⟨w.heap.size, 1, none⟩ = some (.int .i64 c.auth) ∧ Y.cell? ⟨w.heap.size, 2, none⟩ = some (.int .i64 c.magic) ∧ Y.cell? ⟨w.heap.size, 3, none⟩ = some (.int .i64 c.echo) ∧ Y.cell? ⟨w.heap.size, 4, none⟩ = some (.int .i64 c.cf) ∧ Y.cell? ⟨w.heap.size, 5, none⟩ = some (.int .i64 c.tm) ∧ Y.cell? ⟨w.heap.size, 6, none⟩ = some (.int .i64 c.fl) ∧ Y.cell? ⟨w.heap.size, 7, none⟩ = some (.int .i64 c.wt)) W6 := HS.out _ HB.out
        have HI := Lib.hid ((bA.block _ (Array.getElem?_eq_some_iff.1 HI.out).1).trans HI.out)
        refine hK _ _ (fun _ => HSv) ?_
        try simp only [Act.put, List.setIfInBounds_toArray, List.set_cons_zero, List.set_cons_succ]
        clear bA hz hW6 hrb
        refine wpAnyH_at 14 (v := ?vv34) rfl (by kernel_rfl) (by kernel_rfl) (by kernel_rfl) (fun _ _ _ h => h) ?hy34 HSv ?hh34
        case hy34 =>
          refine Or.inl ⟨by rfl, ?_⟩
          intro W hW
          obtain ⟨h0, h1, h2, h3, h4, h5, h6, h7⟩ := hW
          go_simp
          try with_reducible rfl
        simp only [Act.put, List.setIfInBounds_toArray, List.set_cons_zero, List.set_cons_succ]
        refine wpAnyH_1 17 rfl (by kernel_rfl) ?_
        intro K hK
        rw [if_pos (by rfl)]
        try go_simp
        go_at_call 34
        refine (HNN.out lb W1 W6 sA cA rb ib HB.out HR.out HRu.out HI.out).mono ?_
        rintro e wE ⟨B, rfl, nE, bE⟩
        have zl := (bE.block lb (Array.getElem?_eq_some_iff.1 HZ.out.2.1).1).trans HZ.out.2.1
        have f0 := fzOf zl 0
        have c0 : wE.cell? ⟨lb, 0, none⟩ = some (.pointer none) := cellOf zl 0 _ rfl
        have HN := Lib.hid (And.intro bE nE)
        have HSv : (fun Y : World => Y.cell? ⟨w.heap.size, 0, none⟩ = some (.int .i64 c.mru) ∧ Y.cell? ⟨w.heap.size, 1, none⟩ = some (.int .i64 c.auth) ∧ Y.cell? ⟨w.heap.size, 2, none⟩ = some (.int .i64 c.magic) ∧ Y.cell? ⟨w.heap.size, 3, none⟩ = some (.int .i64 c.echo) ∧ Y.cell? ⟨w.heap.size, 4, none⟩ = some (.int .i64 c.cf) ∧ Y.cell? ⟨w.heap.size, 5, none⟩ = some (.int .i64 c.tm) ∧ Y.cell? ⟨w.heap.size, 6, none⟩ = some (.int .i64 c.fl) ∧ Y.cell? ⟨w.heap.size, 7, none⟩ = some (.int .i64 c.wt)) wE := HS.out _ bE
        clear bE nE zl
        refine hK _ _ (fun _ => HSv) ?_
        try simp only [Act.put, List.setIfInBounds_toArray, List.set_cons_zero, List.set_cons_succ]
        refine wpAnyH_at 18 (v := ?vv35) rfl (by kernel_rfl) (by kernel_rfl) (by kernel_rfl) (fun _ _ _ h => h) ?hy35 HSv ?hh35
        case hy35 =>
          refine Or.inl ⟨by rfl, ?_⟩
          intro W hW
          obtain ⟨h0, h1, h2, h3, h4, h5, h6, h7⟩ := hW
          go_simp
          try with_reducible rfl
        simp only [Act.put, List.setIfInBounds_toArray, List.set_cons_zero, List.set_cons_succ]
        refine wpAnyH_at 19 (v := ?vv36) rfl (by kernel_rfl) (by kernel_rfl) (by kernel_rfl) (fun _ _ _ h => h) ?hy36 HSv ?hh36
        case hy36 =>
          refine Or.inl ⟨by rfl, ?_⟩
          intro W hW
          obtain ⟨h0, h1, h2, h3, h4, h5, h6, h7⟩ := hW
          go_simp
          try with_reducible rfl
        simp only [Act.put, List.setIfInBounds_toArray, List.set_cons_zero, List.set_cons_succ]
        refine wpAnyH_at 21 (v := ?vv37) rfl (by kernel_rfl) (by kernel_rfl) (by kernel_rfl) (fun _ _ _ h => h) ?hy37 HSv ?hh37
        case hy37 =>
          refine Or.inl ⟨by rfl, ?_⟩
          intro W hW
          obtain ⟨h0, h1, h2, h3, h4, h5, h6, h7⟩ := hW
          go_simp
          try with_reducible rfl
        simp only [Act.put, List.setIfInBounds_toArray, List.set_cons_zero, List.set_cons_succ]
        refine wpAnyH_at 20 (v := ?vv38) rfl (by kernel_rfl) (by kernel_rfl) (by kernel_rfl) (fun _ _ _ h => h) ?hy38 HSv ?hh38
        case hy38 =>
          refine Or.inl ⟨by rfl, ?_⟩
          intro W hW
          obtain ⟨h0, h1, h2, h3, h4, h5, h6, h7⟩ := hW
          go_simp
          try with_reducible rfl
        simp only [Act.put, List.setIfInBounds_toArray, List.set_cons_zero, List.set_cons_succ]
        refine wpAnyH_at 22 (v := ?vv39) rfl (by kernel_rfl) (by kernel_rfl) (by kernel_rfl) (fun _ _ _ h => h) ?hy39 HSv ?hh39
        case hy39 =>
          refine Or.inl ⟨by rfl, ?_⟩
          intro W hW
          obtain ⟨h0, h1, h2, h3, h4, h5, h6, h7⟩ := hW
          go_simp
          try with_reducible rfl
        simp only [Act.put, List.setIfInBounds_toArray, List.set_cons_zero, List.set_cons_succ]
        refine wpAnyH_end 23 (fun j hj => rgH_end _ _ j (by omega)) (by rfl) (by kernel_rfl) ?_
        simp only [List.drop_succ_cons, List.drop_zero]
        clear HSv
        go_wp2_with fail
        go_ret2
        exact HG.out wE B HN.out.1 HN.out.2
    · intro K hK
      rw [if_pos (by rfl)]
      try go_simp
      have bA : Below W.heap.size W (W.alloc (.cells #[.int .i64 3] 3 (0, 0))) := (Below.refl _ _).alloc (Nat.le_refl _) _
      have hz := at1 W (.cells #[.int .i64 3] 3 (0, 0))
      generalize hW2 : W.alloc (.cells #[.int .i64 3] 3 (0, 0)) = W2 at bA hz ⊢
      obtain ⟨ib, hib⟩ : ∃ ib, ib = W.heap.size := ⟨_, rfl⟩
      rw [← hib] at hz ⊢
      have HI := Lib.hid hz
      have HB := Lib.hid (HB.out.trans (bA.mono HB.out.size))
      have HSv : (fun Y : World => Y.cell? ⟨w.heap.size, 0, none⟩ = some (.int .i64 c.mru) ∧ Y.cell? ⟨w.heap.size, 1, none⟩ = some (.int .i64 c.auth) ∧ Y.cell? ⟨w.heap.size, 2, none⟩ = some (.int .i64 c.magic) ∧ Y.cell? ⟨w.heap.size, 3, none⟩ = some (.int .i64 c.echo) ∧ Y.cell? ⟨w.heap.size, 4, none⟩ = some (.int .i64 c.cf) ∧ Y.cell? ⟨w.heap.size, 5, none⟩ = some (.int .i64 c.tm) ∧ Y.cell? ⟨w.heap.size, 6, none⟩ = some (.int .i64 c.fl) ∧ Y.cell? ⟨w.heap.size, 7, none⟩ = some (.int .i64 c.wt)) W2 := HS.out _ HB.out
      refine hK _ _ (fun _ => HSv) ?_
      try simp only [Act.put, List.setIfInBounds_toArray, List.set_cons_zero, List.set_cons_succ]
      clear bA hz hW2 hib
      refine wpAnyH_1 1 rfl (by kernel_rfl) ?_
      intro K hK
      rw [if_pos (by rfl)]
      try go_simp
      go_at_call 18
      refine (HLO.out _).mono ?_
      rintro e W3 ⟨vA, rfl, rA, bA⟩
      obtain ⟨sA, cA, rfl⟩ := rA.form
      have HR := Lib.hid (rA.base HB.out.size)
      have HB := Lib.hid (HB.out.trans (bA.mono HB.out.size))
      have HSv : (fun Y : World => Y.cell? ⟨w.heap.size, 0, none⟩ = some (.int .i64 c.mru) ∧ Y.cell? ⟨w.heap.size, 1, none⟩ = some (.int .i64 c.auth) ∧ Y.cell? ⟨w.heap.size, 2, none⟩ = some (.int .i64 c.magic) ∧ Y.cell? ⟨w.heap.size, 3, none⟩ = some (.int .i64 c.echo) ∧ Y.cell? ⟨w.heap.size, 4, none⟩ = some (.int .i64 c.cf) ∧ Y.cell? ⟨w.heap.size, 5, none⟩ = some (.int .i64 c.tm) ∧ Y.cell? ⟨w.heap.size, 6, none⟩ = some (.int .i64 c.fl) ∧ Y.cell? ⟨w.heap.size, 7, none⟩ = some (.int .i64 c.wt)) W3 := HS.out _ HB.out
      have HI := Lib.hid ((bA.block _ (Array.getElem?_eq_some_iff.1 HI.out).1).trans HI.out)
      refine hK _ _ (fun _ => HSv) ?_
      try simp only [Act.put, List.setIfInBounds_toArray, List.set_cons_zero, List.set_cons_succ]
      clear rA bA
      refine wpAnyH_1 2 rfl (by kernel_rfl) ?_
      intro K hK
      rw [if_pos (by rfl)]
      try go_simp
      go_at_call 35
      refine (units_any 1492 _).mono ?_
      rintro e W4 ⟨rfl, bA⟩
      have HR := Lib.hid (HR.out.below bA)
      have HB := Lib.hid (HB.out.trans (bA.mono HB.out.size))
      have HSv : (fun Y : World => Y.cell? ⟨w.heap.size, 0, none⟩ = some (.int .i64 c.mru) ∧ Y.cell? ⟨w.heap.size, 1, none⟩ = some (.int .i64 c.auth) ∧ Y.cell? ⟨w.heap.size, 2, none⟩ = some (.int .i64 c.magic) ∧ Y.cell? ⟨w.heap.size, 3, none⟩ = some (.int .i64 c.echo) ∧ Y.cell? ⟨w.heap.size, 4, none⟩ = some (.int .i64 c.cf) ∧ Y.cell? ⟨w.heap.size, 5, none⟩ = some (.int .i64 c.tm) ∧ Y.cell? ⟨w.heap.size, 6, none⟩ = some (.int .i64 c.fl) ∧ Y.cell? ⟨w.heap.size, 7, none⟩ = some (.int .i64 c.wt)) W4 := HS.out _ HB.out
      have HI := Lib.hid ((bA.block _ (Array.getElem?_eq_some_iff.1 HI.out).1).trans HI.out)
      refine hK _ _ (fun _ => HSv) ?_
      try simp only [Act.put, List.setIfInBounds_toArray, List.set_cons_zero, List.set_cons_succ]
      clear bA
      refine wpAnyH_1 3 rfl (by kernel_rfl) ?_
      intro K hK
      rw [if_pos (by rfl)]
      try go_simp
      go_at_call 36
      refine (magics_any _).mono ?_
      rintro e W5 ⟨rfl, bA⟩
      have HR := Lib.hid (HR.out.below bA)
      have HB := Lib.hid (HB.out.trans (bA.mono HB.out.size))
      have HSv : (fun Y : World => Y.cell? ⟨w.heap.size, 0, none⟩ = some (.int .i64 c.mru) ∧ Y.cell? ⟨w.heap.size, 1, none⟩ = some (.int .i64 c.auth) ∧ Y.cell? ⟨w.heap.size, 2, none⟩ = some (.int .i64 c.magic) ∧ Y.cell? ⟨w.heap.size, 3, none⟩ = some (.int .i64 c.echo) ∧ Y.cell? ⟨w.heap.size, 4, none⟩ = some (.int .i64 c.cf) ∧ Y.cell? ⟨w.heap.size, 5, none⟩ = some (.int .i64 c.tm) ∧ Y.cell? ⟨w.heap.size, 6, none⟩ = some (.int .i64 c.fl) ∧ Y.cell? ⟨w.heap.size, 7, none⟩ = some (.int .i64 c.wt)) W5 := HS.out _ HB.out
      have HI := Lib.hid ((bA.block _ (Array.getElem?_eq_some_iff.1 HI.out).1).trans HI.out)
      refine hK _ _ (fun _ => HSv) ?_
      try simp only [Act.put, List.setIfInBounds_toArray, List.set_cons_zero, List.set_cons_succ]
      clear bA
      refine wpAnyH_1 4 rfl (by kernel_rfl) ?_
      intro K hK
      rw [if_pos (by rfl)]
      try go_simp
      have bA : Below W5.heap.size W5 (W5.alloc (.cells #[.int .i64 1, .int .i64 2, .int .i64 64, .int .i64 1492, .string (be2 1492), .int .i64 5, .int .i64 4, .int .i64 1, .int .i64 4294967295, .string (be4 1)] 73 (0, 0))) := (Below.refl _ _).alloc (Nat.le_refl _) _
      have hz := at1 W5 (.cells #[.int .i64 1, .int .i64 2, .int .i64 64, .int .i64 1492, .string (be2 1492), .int .i64 5, .int .i64 4, .int .i64 1, .int .i64 4294967295, .string (be4 1)] 73 (0, 0))
      generalize hW6 : W5.alloc (.cells #[.int .i64 1, .int .i64 2, .int .i64 64, .int .i64 1492, .string (be2 1492), .int .i64 5, .int .i64 4, .int .i64 1, .int .i64 4294967295, .string (be4 1)] 73 (0, 0)) = W6 at bA hz ⊢
      obtain ⟨rb, hrb⟩ : ∃ rb, rb = W5.heap.size := ⟨_, rfl⟩
      rw [← hrb] at hz ⊢
      have HRu := Lib.hid hz
      have HR := Lib.hid (HR.out.below bA)
      have HB := Lib.hid (HB.out.trans (bA.mono HB.out.size))
      have HSv : (fun Y : World => Y.cell? ⟨w.heap.size, 0, none⟩ = some (.int .i64 c.mru) ∧ Y.cell? ⟨w.heap.size, 1, none⟩ = some (.int .i64 c.auth) ∧ Y.cell? ⟨w.heap.size, 2, none⟩ = some (.int .i64 c.magic) ∧ Y.cell? ⟨w.heap.size, 3, none⟩ = some (.int .i64 c.echo) ∧ Y.cell? ⟨w.heap.size, 4, none⟩ = some (.int .i64 c.cf) ∧ Y.cell? ⟨w.heap.size, 5, none⟩ = some (.int .i64 c.tm) ∧ Y.cell? ⟨w.heap.size, 6, none⟩ = some (.int .i64 c.fl) ∧ Y.cell? ⟨w.heap.size, 7, none⟩ = some (.int .i64 c.wt)) W6 := HS.out _ HB.out
      have HI := Lib.hid ((bA.block _ (Array.getElem?_eq_some_iff.1 HI.out).1).trans HI.out)
      refine hK _ _ (fun _ => HSv) ?_
      try simp only [Act.put, List.setIfInBounds_toArray, List.set_cons_zero, List.set_cons_succ]
      clear bA hz hW6 hrb
      refine wpAnyH_at 14 (v := ?vv40) rfl (by kernel_rfl) (by kernel_rfl) (by kernel_rfl) (fun _ _ _ h => h) ?hy40 HSv ?hh40
      case hy40 =>
        refine Or.inl ⟨by rfl, ?_⟩
        intro W hW
        obtain ⟨h0, h1, h2, h3, h4, h5, h6, h7⟩ := hW
        go_simp
        try with_reducible rfl
      simp only [Act.put, List.setIfInBounds_toArray, List.set_cons_zero, List.set_cons_succ]
      refine wpAnyH_1 17 rfl (by kernel_rfl) ?_
      intro K hK
      rw [if_pos (by rfl)]
      try go_simp
      go_at_call 34
      refine (HNN.out lb W1 W6 sA cA rb ib HB.out HR.out HRu.out HI.out).mono ?_
      rintro e wE ⟨B, rfl, nE, bE⟩
      have zl := (bE.block lb (Array.getElem?_eq_some_iff.1 HZ.out.2.1).1).trans HZ.out.2.1
      have f0 := fzOf zl 0
      have c0 : wE.cell? ⟨lb, 0, none⟩ = some (.pointer none) := cellOf zl 0 _ rfl
      have HN := Lib.hid (And.intro bE nE)
      have HSv : (fun Y : World => Y.cell? ⟨w.heap.size, 0, none⟩ = some (.int .i64 c.mru) ∧ Y.cell? ⟨w.heap.size, 1, none⟩ = some (.int .i64 c.auth) ∧ Y.cell? ⟨w.heap.size, 2, none⟩ = some (.int .i64 c.magic) ∧ Y.cell? ⟨w.heap.size, 3, none⟩ = some (.int .i64 c.echo) ∧ Y.cell? ⟨w.heap.size, 4, none⟩ = some (.int .i64 c.cf) ∧ Y.cell? ⟨w.heap.size, 5, none⟩ = some (.int .i64 c.tm) ∧ Y.cell? ⟨w.heap.size, 6, none⟩ = some (.int .i64 c.fl) ∧ Y.cell? ⟨w.heap.size, 7, none⟩ = some (.int .i64 c.wt)) wE := HS.out _ bE
      clear bE nE zl
      refine hK _ _ (fun _ => HSv) ?_
      try simp only [Act.put, List.setIfInBounds_toArray, List.set_cons_zero, List.set_cons_succ]
      refine wpAnyH_at 18 (v := ?vv41) rfl (by kernel_rfl) (by kernel_rfl) (by kernel_rfl) (fun _ _ _ h => h) ?hy41 HSv ?hh41
      case hy41 =>
        refine Or.inl ⟨by rfl, ?_⟩
        intro W hW
        obtain ⟨h0, h1, h2, h3, h4, h5, h6, h7⟩ := hW
        go_simp
        try with_reducible rfl
      simp only [Act.put, List.setIfInBounds_toArray, List.set_cons_zero, List.set_cons_succ]
      refine wpAnyH_at 19 (v := ?vv42) rfl (by kernel_rfl) (by kernel_rfl) (by kernel_rfl) (fun _ _ _ h => h) ?hy42 HSv ?hh42
      case hy42 =>
        refine Or.inl ⟨by rfl, ?_⟩
        intro W hW
        obtain ⟨h0, h1, h2, h3, h4, h5, h6, h7⟩ := hW
        go_simp
        try with_reducible rfl
      simp only [Act.put, List.setIfInBounds_toArray, List.set_cons_zero, List.set_cons_succ]
      refine wpAnyH_at 21 (v := ?vv43) rfl (by kernel_rfl) (by kernel_rfl) (by kernel_rfl) (fun _ _ _ h => h) ?hy43 HSv ?hh43
      case hy43 =>
        refine Or.inl ⟨by rfl, ?_⟩
        intro W hW
        obtain ⟨h0, h1, h2, h3, h4, h5, h6, h7⟩ := hW
        go_simp
        try with_reducible rfl
      simp only [Act.put, List.setIfInBounds_toArray, List.set_cons_zero, List.set_cons_succ]
      refine wpAnyH_at 20 (v := ?vv44) rfl (by kernel_rfl) (by kernel_rfl) (by kernel_rfl) (fun _ _ _ h => h) ?hy44 HSv ?hh44
      case hy44 =>
        refine Or.inl ⟨by rfl, ?_⟩
        intro W hW
        obtain ⟨h0, h1, h2, h3, h4, h5, h6, h7⟩ := hW
        go_simp
        try with_reducible rfl
      simp only [Act.put, List.setIfInBounds_toArray, List.set_cons_zero, List.set_cons_succ]
      refine wpAnyH_at 22 (v := ?vv45) rfl (by kernel_rfl) (by kernel_rfl) (by kernel_rfl) (fun _ _ _ h => h) ?hy45 HSv ?hh45
      case hy45 =>
        refine Or.inl ⟨by rfl, ?_⟩
        intro W hW
        obtain ⟨h0, h1, h2, h3, h4, h5, h6, h7⟩ := hW
        go_simp
        try with_reducible rfl
      simp only [Act.put, List.setIfInBounds_toArray, List.set_cons_zero, List.set_cons_succ]
      refine wpAnyH_end 23 (fun j hj => rgH_end _ _ j (by omega)) (by rfl) (by kernel_rfl) ?_
      simp only [List.drop_succ_cons, List.drop_zero]
      clear HSv
      go_wp2_with fail
      go_ret2
      exact HG.out wE B HN.out.1 HN.out.2
  · have ea : (c.auth != 0) = true := by simpa using h0
    have ev := hva h0
    clear hva h0
    go_enter Tryz.func12, Tryz.ntmps12
    go_wp2_with (first
      | (go_at_call 32; first | with_reducible refine (HL.out.1 _).mono ?_ | with_reducible refine (HL.out.2.1 _).mono ?_ | with_reducible refine (HL.out.2.2 _).mono ?_
         rintro e w1 ⟨rfl, rfl⟩)
      | (go_at_call 33; refine (HV.out _).mono ?_; rintro e wv ⟨rfl, hb⟩
         have hz := (hb.block w.heap.size (by have := HB0.out.2.2; unfold cfgO at this; rw [this]; omega)).trans HB0.out.2.1
         have HZ := Lib.hid (And.intro (HB0.out.1.trans (hb.mono (by have := HB0.out.1.size; exact this))) hz)
         unfold cfgO at hz
         have x0 := cellOf hz 0 _ rfl
         have x1 := cellOf hz 1 _ rfl
         have x2 := cellOf hz 2 _ rfl
         have x3 := cellOf hz 3 _ rfl
         have x4 := cellOf hz 4 _ rfl
         have x5 := cellOf hz 5 _ rfl
         have x6 := cellOf hz 6 _ rfl
         have x7 := cellOf hz 7 _ rfl
         clear hb hz))
    clear x0 x1 x2 x3 x4 x5 x6 x7
    have hz1 : (wv.alloc (.cells #[.pointer none, .pointer (some ⟨tb, 0, none⟩), .int .i64 c.echo, .int .i64 c.magic, .int .i64 0, .int .i64 0, .int .i64 0] 64 (0, 0))).heap[w.heap.size]? = some (cfgO c) := (Below.heap_alloc _ _ _ (Array.getElem?_eq_some_iff.1 HZ.out.2).1).trans HZ.out.2
    have hl1 := at1 wv (.cells #[.pointer none, .pointer (some ⟨tb, 0, none⟩), .int .i64 c.echo, .int .i64 c.magic, .int .i64 0, .int .i64 0, .int .i64 0] 64 (0, 0))
    have hw1 : Below w.heap.size w (wv.alloc (.cells #[.pointer none, .pointer (some ⟨tb, 0, none⟩), .int .i64 c.echo, .int .i64 c.magic, .int .i64 0, .int .i64 0, .int .i64 0] 64 (0, 0))) := HZ.out.1.alloc HZ.out.1.size _
    have hs1 := alloc1 wv (.cells #[.pointer none, .pointer (some ⟨tb, 0, none⟩), .int .i64 c.echo, .int .i64 c.magic, .int .i64 0, .int .i64 0, .int .i64 0] 64 (0, 0))
    have hlb : w.heap.size < wv.heap.size := (Array.getElem?_eq_some_iff.1 HZ.out.2).1
    obtain ⟨lb, hlbe⟩ : ∃ lb, lb = wv.heap.size := ⟨_, rfl⟩
    generalize hW1 : wv.alloc (.cells #[.pointer none, .pointer (some ⟨tb, 0, none⟩), .int .i64 c.echo, .int .i64 c.magic, .int .i64 0, .int .i64 0, .int .i64 0] 64 (0, 0)) = W1 at hz1 hl1 hw1 hs1 ⊢
    rw [← hlbe] at hl1 hs1 hlb ⊢
    clear hW1 hlbe HZ
    have HZ := Lib.hid (And.intro hz1 (And.intro hl1 (And.intro hw1 (And.intro hs1 hlb))))
    have HS : Hid (∀ W, Below W1.heap.size W1 W → (fun Y : World => Y.cell? ⟨w.heap.size, 0, none⟩ = some (.int .i64 c.mru) ∧ Y.cell? ⟨w.heap.size, 1, none⟩ = some (.int .i64 c.auth) ∧ Y.cell? ⟨w.heap.size, 2, none⟩ = some (.int .i64 c.magic) ∧ Y.cell? ⟨w.heap.size, 3, none⟩ = some (.int .i64 c.echo) ∧ Y.cell? ⟨w.heap.size, 4, none⟩ = some (.int .i64 c.cf) ∧ Y.cell? ⟨w.heap.size, 5, none⟩ = some (.int .i64 c.tm) ∧ Y.cell? ⟨w.heap.size, 6, none⟩ = some (.int .i64 c.fl) ∧ Y.cell? ⟨w.heap.size, 7, none⟩ = some (.int .i64 c.wt)) W) := Lib.hid fun W hW => by
      have h : W.heap[w.heap.size]? = some (.cells #[.int .i64 c.mru, .int .i64 c.auth, .int .i64 c.magic, .int .i64 c.echo, .int .i64 c.cf, .int .i64 c.tm, .int .i64 c.fl, .int .i64 c.wt] 24 (0, 0)) := (hW.block _ (by have := HZ.out.2.2.2.1; have := HZ.out.2.2.2.2; omega)).trans HZ.out.1
      exact ⟨cellOf h 0 _ rfl, cellOf h 1 _ rfl, cellOf h 2 _ rfl, cellOf h 3 _ rfl, cellOf h 4 _ rfl, cellOf h 5 _ rfl, cellOf h 6 _ rfl, cellOf h 7 _ rfl⟩
    have HLO := Lib.hid (fun W => lopts_any c W HIA.out)
    unfold cfgV at HLO
    have a1 : ∀ (W : World) (O : Obj), W.heap.size < (W.alloc O).heap.size := fun W O => by rw [alloc1]; omega
    have HA1 := Lib.hid a1
    have HG := Lib.hid (fun wE B bE nE => lnew_end (c := c) (w := w) (W1 := W1) (wE := wE) (lb := lb) (tb := tb) (okt := okt) (t := t) (B := B) hw1 hl1 (by have := H.out.2.1; exact TapeAt.keep this (Keep.of_below (fun _ => False) hw1) (fun h => h) (fun _ _ _ h => h)) (fun b hb => ⟨Nat.lt_of_lt_of_le (H.out.2.2 b hb) hw1.size, by have := H.out.2.2 b hb; omega⟩) (by have := H.out.2.1.lt; omega) (by omega) bE nE)
    obtain ⟨y0, y1, y2, y3, y4, y5, y6, y7⟩ := HS.out W1.drew (Below.refl _ _).drew
    clear hz1 hl1 hw1 hs1 hlb a1
    refine wp_region_H (rgH 0 23) (fun Y : World => Y.cell? ⟨w.heap.size, 0, none⟩ = some (.int .i64 c.mru) ∧ Y.cell? ⟨w.heap.size, 1, none⟩ = some (.int .i64 c.auth) ∧ Y.cell? ⟨w.heap.size, 2, none⟩ = some (.int .i64 c.magic) ∧ Y.cell? ⟨w.heap.size, 3, none⟩ = some (.int .i64 c.echo) ∧ Y.cell? ⟨w.heap.size, 4, none⟩ = some (.int .i64 c.cf) ∧ Y.cell? ⟨w.heap.size, 5, none⟩ = some (.int .i64 c.tm) ∧ Y.cell? ⟨w.heap.size, 6, none⟩ = some (.int .i64 c.fl) ∧ Y.cell? ⟨w.heap.size, 7, none⟩ = some (.int .i64 c.wt)) (by kernel_rfl) ?_
    have HSv : (fun Y : World => Y.cell? ⟨w.heap.size, 0, none⟩ = some (.int .i64 c.mru) ∧ Y.cell? ⟨w.heap.size, 1, none⟩ = some (.int .i64 c.auth) ∧ Y.cell? ⟨w.heap.size, 2, none⟩ = some (.int .i64 c.magic) ∧ Y.cell? ⟨w.heap.size, 3, none⟩ = some (.int .i64 c.echo) ∧ Y.cell? ⟨w.heap.size, 4, none⟩ = some (.int .i64 c.cf) ∧ Y.cell? ⟨w.heap.size, 5, none⟩ = some (.int .i64 c.tm) ∧ Y.cell? ⟨w.heap.size, 6, none⟩ = some (.int .i64 c.fl) ∧ Y.cell? ⟨w.heap.size, 7, none⟩ = some (.int .i64 c.wt)) W1.drew := HS.out _ (Below.refl _ _).drew
    have HB := Lib.hid (show Below W1.heap.size W1 W1.drew from (Below.refl _ _).drew)
    refine wpAnyH_at 0 (v := ?vv46) rfl (by kernel_rfl) (by kernel_rfl) (by kernel_rfl) (fun _ _ _ h => h) ?hy46 HSv ?hh46
    case hy46 =>
      refine Or.inl ⟨by rfl, ?_⟩
      intro W hW
      obtain ⟨h0, h1, h2, h3, h4, h5, h6, h7⟩ := hW
      go_simp
      try with_reducible rfl
    simp only [Act.put, List.setIfInBounds_toArray, List.set_cons_zero, List.set_cons_succ]
    refine wpAnyH_at 6 (v := ?vv47) rfl (by kernel_rfl) (by kernel_rfl) (by kernel_rfl) (fun _ _ _ h => h) ?hy47 HSv ?hh47
    case hy47 =>
      refine Or.inl ⟨by rfl, ?_⟩
      intro W hW
      obtain ⟨h0, h1, h2, h3, h4, h5, h6, h7⟩ := hW
      go_simp
      try with_reducible rfl
    simp only [Act.put, List.setIfInBounds_toArray, List.set_cons_zero, List.set_cons_succ]
    refine wpAnyH_at 7 (v := ?vv48) rfl (by kernel_rfl) (by kernel_rfl) (by kernel_rfl) (fun _ _ _ h => h) ?hy48 HSv ?hh48
    case hy48 =>
      refine Or.inl ⟨by rfl, ?_⟩
      intro W hW
      obtain ⟨h0, h1, h2, h3, h4, h5, h6, h7⟩ := hW
      go_simp
      try with_reducible rfl
    simp only [Act.put, List.setIfInBounds_toArray, List.set_cons_zero, List.set_cons_succ]
    refine wpAnyH_at 8 (v := ?vv49) rfl (by kernel_rfl) (by kernel_rfl) (by kernel_rfl) (fun _ _ _ h => h) ?hy49 HSv ?hh49
    case hy49 =>
      refine Or.inl ⟨by rfl, ?_⟩
      intro W hW
      obtain ⟨h0, h1, h2, h3, h4, h5, h6, h7⟩ := hW
      go_simp
      try with_reducible rfl
    simp only [Act.put, List.setIfInBounds_toArray, List.set_cons_zero, List.set_cons_succ]
    refine wpAnyH_at 9 (v := ?vv50) rfl (by kernel_rfl) (by kernel_rfl) (by kernel_rfl) (fun _ _ _ h => h) ?hy50 HSv ?hh50
    case hy50 =>
      refine Or.inl ⟨by rfl, ?_⟩
      intro W hW
      obtain ⟨h0, h1, h2, h3, h4, h5, h6, h7⟩ := hW
      go_simp
      try with_reducible rfl
    simp only [Act.put, List.setIfInBounds_toArray, List.set_cons_zero, List.set_cons_succ]
    refine wpAnyH_at 10 (v := ?vv51) rfl (by kernel_rfl) (by kernel_rfl) (by kernel_rfl) (fun _ _ _ h => h) ?hy51 HSv ?hh51
    case hy51 =>
      refine Or.inl ⟨by rfl, ?_⟩
      intro W hW
      obtain ⟨h0, h1, h2, h3, h4, h5, h6, h7⟩ := hW
      go_simp
      try with_reducible rfl
    simp only [Act.put, List.setIfInBounds_toArray, List.set_cons_zero, List.set_cons_succ]
    refine wpAnyH_at 11 (v := ?vv52) rfl (by kernel_rfl) (by kernel_rfl) (by kernel_rfl) (fun _ _ _ h => h) ?hy52 HSv ?hh52
    case hy52 =>
      refine Or.inl ⟨by rfl, ?_⟩
      intro W hW
      obtain ⟨h0, h1, h2, h3, h4, h5, h6, h7⟩ := hW
      go_simp
      try with_reducible rfl
    simp only [Act.put, List.setIfInBounds_toArray, List.set_cons_zero, List.set_cons_succ]
    refine wpAnyH_at 12 (v := ?vv53) rfl (by kernel_rfl) (by kernel_rfl) (by kernel_rfl) (fun _ _ _ h => h) ?hy53 HSv ?hh53
    case hy53 =>
      refine Or.inl ⟨by rfl, ?_⟩
      intro W hW
      obtain ⟨h0, h1, h2, h3, h4, h5, h6, h7⟩ := hW
      go_simp
      try with_reducible rfl
    simp only [Act.put, List.setIfInBounds_toArray, List.set_cons_zero, List.set_cons_succ]
    refine wpAnyH_at 13 (v := ?vv54) rfl (by kernel_rfl) (by kernel_rfl) (by kernel_rfl) (fun _ _ _ h => h) ?hy54 HSv ?hh54
    case hy54 =>
      refine Or.inl ⟨by rfl, ?_⟩
      intro W hW
      obtain ⟨h0, h1, h2, h3, h4, h5, h6, h7⟩ := hW
      go_simp
      try with_reducible rfl
    simp only [Act.put, List.setIfInBounds_toArray, List.set_cons_zero, List.set_cons_succ]
    refine wpAnyH_at 15 (v := ?vv55) rfl (by kernel_rfl) (by kernel_rfl) (by kernel_rfl) (fun _ _ _ h => h) ?hy55 HSv ?hh55
    case hy55 =>
      refine Or.inl ⟨by rfl, ?_⟩
      intro W hW
      obtain ⟨h0, h1, h2, h3, h4, h5, h6, h7⟩ := hW
      go_simp
      try with_reducible rfl
    simp only [Act.put, List.setIfInBounds_toArray, List.set_cons_zero, List.set_cons_succ]
    refine wpAnyH_at 16 (v := ?vv56) rfl (by kernel_rfl) (by kernel_rfl) (by kernel_rfl) (fun _ _ _ h => h) ?hy56 HSv ?hh56
    case hy56 =>
      refine Or.inl ⟨by rfl, ?_⟩
      intro W hW
      obtain ⟨h0, h1, h2, h3, h4, h5, h6, h7⟩ := hW
      go_simp
      try with_reducible rfl
    simp only [Act.put, List.setIfInBounds_toArray, List.set_cons_zero, List.set_cons_succ]
    generalize W1.drew = W at HSv HB ⊢
    refine wpAnyH_2 1 5 rfl rfl (by kernel_rfl) ?_ ?_
    · intro K hK
      rw [if_pos (by rfl)]
      try go_simp
      go_at_call 18
      refine (HLO.out _).mono ?_
      rintro e W2 ⟨vA, rfl, rA, bA⟩
      obtain ⟨sA, cA, rfl⟩ := rA.form
      have HR := Lib.hid (rA.base HB.out.size)
      have HB := Lib.hid (HB.out.trans (bA.mono HB.out.size))
      have HSv : (fun Y : World => Y.cell? ⟨w.heap.size, 0, none⟩ = some (.int .i64 c.mru) ∧ Y.cell? ⟨w.heap.size, 1, none⟩ = some (.int .i64 c.auth) ∧ Y.cell? ⟨w.heap.size, 2, none⟩ = some (.int .i64 c.magic) ∧ Y.cell? ⟨w.heap.size, 3, none⟩ = some (.int .i64 c.echo) ∧ Y.cell? ⟨w.heap.size, 4, none⟩ = some (.int .i64 c.cf) ∧ Y.cell? ⟨w.heap.size, 5, none⟩ = some (.int .i64 c.tm) ∧ Y.cell? ⟨w.heap.size, 6, none⟩ = some (.int .i64 c.fl) ∧ Y.cell? ⟨w.heap.size, 7, none⟩ = some (.int .i64 c.wt)) W2 := HS.out _ HB.out
      refine hK _ _ (fun _ => HSv) ?_
      try simp only [Act.put, List.setIfInBounds_toArray, List.set_cons_zero, List.set_cons_succ]
      clear rA bA
      refine wpAnyH_2 2 5 rfl rfl (by kernel_rfl) ?_ ?_
      · intro K hK
        rw [if_pos (by rfl)]
        try go_simp
        go_at_call 35
        refine (units_any 1492 _).mono ?_
        rintro e W3 ⟨rfl, bA⟩
        have HR := Lib.hid (HR.out.below bA)
        have HB := Lib.hid (HB.out.trans (bA.mono HB.out.size))
        have HSv : (fun Y : World => Y.cell? ⟨w.heap.size, 0, none⟩ = some (.int .i64 c.mru) ∧ Y.cell? ⟨w.heap.size, 1, none⟩ = some (.int .i64 c.auth) ∧ Y.cell? ⟨w.heap.size, 2, none⟩ = some (.int .i64 c.magic) ∧ Y.cell? ⟨w.heap.size, 3, none⟩ = some (.int .i64 c.echo) ∧ Y.cell? ⟨w.heap.size, 4, none⟩ = some (.int .i64 c.cf) ∧ Y.cell? ⟨w.heap.size, 5, none⟩ = some (.int .i64 c.tm) ∧ Y.cell? ⟨w.heap.size, 6, none⟩ = some (.int .i64 c.fl) ∧ Y.cell? ⟨w.heap.size, 7, none⟩ = some (.int .i64 c.wt)) W3 := HS.out _ HB.out
        refine hK _ _ (fun _ => HSv) ?_
        try simp only [Act.put, List.setIfInBounds_toArray, List.set_cons_zero, List.set_cons_succ]
        clear bA
        refine wpAnyH_2 3 5 rfl rfl (by kernel_rfl) ?_ ?_
        · intro K hK
          rw [if_pos (by rfl)]
          try go_simp
          go_at_call 36
          refine (magics_any _).mono ?_
          rintro e W4 ⟨rfl, bA⟩
          have HR := Lib.hid (HR.out.below bA)
          have HB := Lib.hid (HB.out.trans (bA.mono HB.out.size))
          have HSv : (fun Y : World => Y.cell? ⟨w.heap.size, 0, none⟩ = some (.int .i64 c.mru) ∧ Y.cell? ⟨w.heap.size, 1, none⟩ = some (.int .i64 c.auth) ∧ Y.cell? ⟨w.heap.size, 2, none⟩ = some (.int .i64 c.magic) ∧ Y.cell? ⟨w.heap.size, 3, none⟩ = some (.int .i64 c.echo) ∧ Y.cell? ⟨w.heap.size, 4, none⟩ = some (.int .i64 c.cf) ∧ Y.cell? ⟨w.heap.size, 5, none⟩ = some (.int .i64 c.tm) ∧ Y.cell? ⟨w.heap.size, 6, none⟩ = some (.int .i64 c.fl) ∧ Y.cell? ⟨w.heap.size, 7, none⟩ = some (.int .i64 c.wt)) W4 := HS.out _ HB.out
          refine hK _ _ (fun _ => HSv) ?_
          try simp only [Act.put, List.setIfInBounds_toArray, List.set_cons_zero, List.set_cons_succ]
          clear bA
          refine wpAnyH_2 4 5 rfl rfl (by kernel_rfl) ?_ ?_
          · intro K hK
            rw [if_pos (by rfl)]
            try go_simp
            have bA : Below W4.heap.size W4 (W4.alloc (.cells #[.int .i64 1, .int .i64 2, .int .i64 64, .int .i64 1492, .string (be2 1492), .int .i64 5, .int .i64 4, .int .i64 1, .int .i64 4294967295, .string (be4 1)] 73 (0, 0))) := (Below.refl _ _).alloc (Nat.le_refl _) _
            have hz := at1 W4 (.cells #[.int .i64 1, .int .i64 2, .int .i64 64, .int .i64 1492, .string (be2 1492), .int .i64 5, .int .i64 4, .int .i64 1, .int .i64 4294967295, .string (be4 1)] 73 (0, 0))
            generalize hW5 : W4.alloc (.cells #[.int .i64 1, .int .i64 2, .int .i64 64, .int .i64 1492, .string (be2 1492), .int .i64 5, .int .i64 4, .int .i64 1, .int .i64 4294967295, .string (be4 1)] 73 (0, 0)) = W5 at bA hz ⊢
            obtain ⟨rb, hrb⟩ : ∃ rb, rb = W4.heap.size := ⟨_, rfl⟩
            rw [← hrb] at hz ⊢
            have HRu := Lib.hid hz
            have HR := Lib.hid (HR.out.below bA)
            have HB := Lib.hid (HB.out.trans (bA.mono HB.out.size))
            have HSv : (fun Y : World => Y.cell? ⟨w.heap.size, 0, none⟩ = some (.int .i64 c.mru) ∧ Y.cell? ⟨w.heap.size, 1, none⟩ = some (.int .i64 c.auth) ∧ Y.cell? ⟨w.heap.size, 2, none⟩ = some (.int .i64 c.magic) ∧ Y.cell? ⟨w.heap.size, 3, none⟩ = some (.int .i64 c.echo) ∧ Y.cell? ⟨w.heap.size, 4, none⟩ = some (.int .i64 c.cf) ∧ Y.cell? ⟨w.heap.size, 5, none⟩ = some (.int .i64 c.tm) ∧ Y.cell? ⟨w.heap.size, 6, none⟩ = some (.int .i64 c.fl) ∧ Y.cell? ⟨w.heap.size, 7, none⟩ = some (.int .i64 c.wt)) W5 := HS.out _ HB.out
            refine hK _ _ (fun _ => HSv) ?_
            try simp only [Act.put, List.setIfInBounds_toArray, List.set_cons_zero, List.set_cons_succ]
            clear bA hz hW5 hrb
            refine wpAnyH_1 5 rfl (by kernel_rfl) ?_
            intro K hK
            rw [if_pos (by rfl)]
            try go_simp
            have bA : Below W5.heap.size W5 (W5.alloc (.cells #[.int .i64 3] 3 (0, 0))) := (Below.refl _ _).alloc (Nat.le_refl _) _
            have hz := at1 W5 (.cells #[.int .i64 3] 3 (0, 0))
            generalize hW6 : W5.alloc (.cells #[.int .i64 3] 3 (0, 0)) = W6 at bA hz ⊢
            obtain ⟨ib, hib⟩ : ∃ ib, ib = W5.heap.size := ⟨_, rfl⟩
            rw [← hib] at hz ⊢
            have HI := Lib.hid hz
            have HR := Lib.hid (HR.out.below bA)
            have HRu := Lib.hid ((bA.block _ (Array.getElem?_eq_some_iff.1 HRu.out).1).trans HRu.out)
            have HB := Lib.hid (HB.out.trans (bA.mono HB.out.size))
            have HSv : (fun Y : World => Y.cell? ⟨w.heap.size, 0, none⟩ = some (.int .i64 c.mru) ∧ Y.cell? ⟨w.heap.size, 1, none⟩ = some (.int .i64 c.auth) ∧ Y.cell? ⟨w.heap.size, 2, none⟩ = some (.int .i64 c.magic) ∧ Y.cell? ⟨w.heap.size, 3, none⟩ = some (.int .i64 c.echo) ∧ Y.cell? ⟨w.heap.size, 4, none⟩ = some (.int .i64 c.cf) ∧ Y.cell? ⟨w.heap.size, 5, none⟩ = some (.int .i64 c.tm) ∧ Y.cell? ⟨w.heap.size, 6, none⟩ = some (.int .i64 c.fl) ∧ Y.cell? ⟨w.heap.size, 7, none⟩ = some (.int .i64 c.wt)) W6 := HS.out _ HB.out
            refine hK _ _ (fun _ => HSv) ?_
            try simp only [Act.put, List.setIfInBounds_toArray, List.set_cons_zero, List.set_cons_succ]
            clear bA hz hW6 hib
            refine wpAnyH_at 14 (v := ?vv57) rfl (by kernel_rfl) (by kernel_rfl) (by kernel_rfl) (fun _ _ _ h => h) ?hy57 HSv ?hh57
            case hy57 =>
              refine Or.inl ⟨by rfl, ?_⟩
              intro W hW
              obtain ⟨h0, h1, h2, h3, h4, h5, h6, h7⟩ := hW
              go_simp
              try with_reducible rfl
            simp only [Act.put, List.setIfInBounds_toArray, List.set_cons_zero, List.set_cons_succ]
            refine wpAnyH_1 17 rfl (by kernel_rfl) ?_
            intro K hK
            rw [if_pos (by rfl)]
            try go_simp
            go_at_call 34
            refine (HNN.out lb W1 W6 sA cA rb ib HB.out HR.out HRu.out HI.out).mono ?_
            rintro e wE ⟨B, rfl, nE, bE⟩
            have zl := (bE.block lb (Array.getElem?_eq_some_iff.1 HZ.out.2.1).1).trans HZ.out.2.1
            have f0 := fzOf zl 0
            have c0 : wE.cell? ⟨lb, 0, none⟩ = some (.pointer none) := cellOf zl 0 _ rfl
            have HN := Lib.hid (And.intro bE nE)
            have HSv : (fun Y : World => Y.cell? ⟨w.heap.size, 0, none⟩ = some (.int .i64 c.mru) ∧ Y.cell? ⟨w.heap.size, 1, none⟩ = some (.int .i64 c.auth) ∧ Y.cell? ⟨w.heap.size, 2, none⟩ = some (.int .i64 c.magic) ∧ Y.cell? ⟨w.heap.size, 3, none⟩ = some (.int .i64 c.echo) ∧ Y.cell? ⟨w.heap.size, 4, none⟩ = some (.int .i64 c.cf) ∧ Y.cell? ⟨w.heap.size, 5, none⟩ = some (.int .i64 c.tm) ∧ Y.cell? ⟨w.heap.size, 6, none⟩ = some (.int .i64 c.fl) ∧ Y.cell? ⟨w.heap.size, 7, none⟩ = some (.int .i64 c.wt)) wE := HS.out _ bE
            clear bE nE zl
            refine hK _ _ (fun _ => HSv) ?_
            try simp only [Act.put, List.setIfInBounds_toArray, List.set_cons_zero, List.set_cons_succ]
            refine wpAnyH_at 18 (v := ?vv58) rfl (by kernel_rfl) (by kernel_rfl) (by kernel_rfl) (fun _ _ _ h => h) ?hy58 HSv ?hh58
            case hy58 =>
              refine Or.inl ⟨by rfl, ?_⟩
              intro W hW
              obtain ⟨h0, h1, h2, h3, h4, h5, h6, h7⟩ := hW
              go_simp
              try with_reducible rfl
            simp only [Act.put, List.setIfInBounds_toArray, List.set_cons_zero, List.set_cons_succ]
            refine wpAnyH_at 19 (v := ?vv59) rfl (by kernel_rfl) (by kernel_rfl) (by kernel_rfl) (fun _ _ _ h => h) ?hy59 HSv ?hh59
            case hy59 =>
              refine Or.inl ⟨by rfl, ?_⟩
              intro W hW
              obtain ⟨h0, h1, h2, h3, h4, h5, h6, h7⟩ := hW
              go_simp
              try with_reducible rfl
            simp only [Act.put, List.setIfInBounds_toArray, List.set_cons_zero, List.set_cons_succ]
            refine wpAnyH_at 21 (v := ?vv60) rfl (by kernel_rfl) (by kernel_rfl) (by kernel_rfl) (fun _ _ _ h => h) ?hy60 HSv ?hh60
            case hy60 =>
              refine Or.inl ⟨by rfl, ?_⟩
              intro W hW
              obtain ⟨h0, h1, h2, h3, h4, h5, h6, h7⟩ := hW
              go_simp
              try with_reducible rfl
            simp only [Act.put, List.setIfInBounds_toArray, List.set_cons_zero, List.set_cons_succ]
            refine wpAnyH_at 20 (v := ?vv61) rfl (by kernel_rfl) (by kernel_rfl) (by kernel_rfl) (fun _ _ _ h => h) ?hy61 HSv ?hh61
            case hy61 =>
              refine Or.inl ⟨by rfl, ?_⟩
              intro W hW
              obtain ⟨h0, h1, h2, h3, h4, h5, h6, h7⟩ := hW
              go_simp
              try with_reducible rfl
            simp only [Act.put, List.setIfInBounds_toArray, List.set_cons_zero, List.set_cons_succ]
            refine wpAnyH_at 22 (v := ?vv62) rfl (by kernel_rfl) (by kernel_rfl) (by kernel_rfl) (fun _ _ _ h => h) ?hy62 HSv ?hh62
            case hy62 =>
              refine Or.inl ⟨by rfl, ?_⟩
              intro W hW
              obtain ⟨h0, h1, h2, h3, h4, h5, h6, h7⟩ := hW
              go_simp
              try with_reducible rfl
            simp only [Act.put, List.setIfInBounds_toArray, List.set_cons_zero, List.set_cons_succ]
            refine wpAnyH_end 23 (fun j hj => rgH_end _ _ j (by omega)) (by rfl) (by kernel_rfl) ?_
            simp only [List.drop_succ_cons, List.drop_zero]
            clear HSv
            go_wp2_with fail
            go_ret2
            exact HG.out wE B HN.out.1 HN.out.2
          · intro K hK
            rw [if_pos (by rfl)]
            try go_simp
            have bA : Below W4.heap.size W4 (W4.alloc (.cells #[.int .i64 3] 3 (0, 0))) := (Below.refl _ _).alloc (Nat.le_refl _) _
            have hz := at1 W4 (.cells #[.int .i64 3] 3 (0, 0))
            generalize hW5 : W4.alloc (.cells #[.int .i64 3] 3 (0, 0)) = W5 at bA hz ⊢
            obtain ⟨ib, hib⟩ : ∃ ib, ib = W4.heap.size := ⟨_, rfl⟩
            rw [← hib] at hz ⊢
            have HI := Lib.hid hz
            have HR := Lib.hid (HR.out.below bA)
            have HB := Lib.hid (HB.out.trans (bA.mono HB.out.size))
            have HSv : (fun Y : World => Y.cell? ⟨w.heap.size, 0, none⟩ = some (.int .i64 c.mru) ∧ Y.cell? ⟨w.heap.size, 1, none⟩ = some (.int .i64 c.auth) ∧ Y.cell? ⟨w.heap.size, 2, none⟩ = some (.int .i64 c.magic) ∧ Y.cell? ⟨w.heap.size, 3, none⟩ = some (.int .i64 c.echo) ∧ Y.cell? ⟨w.heap.size, 4, none⟩ = some (.int .i64 c.cf) ∧ Y.cell? ⟨w.heap.size, 5, none⟩ = some (.int .i64 c.tm) ∧ Y.cell? ⟨w.heap.size, 6, none⟩ = some (.int .i64 c.fl) ∧ Y.cell? ⟨w.heap.size, 7, none⟩ = some (.int .i64 c.wt)) W5 := HS.out _ HB.out
            refine hK _ _ (fun _ => HSv) ?_
            try simp only [Act.put, List.setIfInBounds_toArray, List.set_cons_zero, List.set_cons_succ]
            clear bA hz hW5 hib
            refine wpAnyH_1 4 rfl (by kernel_rfl) ?_
            intro K hK
            rw [if_pos (by rfl)]
            try go_simp
            have bA : Below W5.heap.size W5 (W5.alloc (.cells #[.int .i64 1, .int .i64 2, .int .i64 64, .int .i64 1492, .string (be2 1492), .int .i64 5, .int .i64 4, .int .i64 1, .int .i64 4294967295, .string (be4 1)] 73 (0, 0))) := (Below.refl _ _).alloc (Nat.le_refl _) _
            have hz := at1 W5 (.cells #[.int .i64 1, .int .i64 2, .int .i64 64, .int .i64 1492, .string (be2 1492), .int .i64 5, .int .i64 4, .int .i64 1, .int .i64 4294967295, .string (be4 1)] 73 (0, 0))
            generalize hW6 : W5.alloc (.cells #[.int .i64 1, .int .i64 2, .int .i64 64, .int .i64 1492, .string (be2 1492), .int .i64 5, .int .i64 4, .int .i64 1, .int .i64 4294967295, .string (be4 1)] 73 (0, 0)) = W6 at bA hz ⊢
            obtain ⟨rb, hrb⟩ : ∃ rb, rb = W5.heap.size := ⟨_, rfl⟩
            rw [← hrb] at hz ⊢
            have HRu := Lib.hid hz
            have HR := Lib.hid (HR.out.below bA)
            have HB := Lib.hid (HB.out.trans (bA.mono HB.out.size))
            have HSv : (fun Y : World => Y.cell? ⟨w.heap.size, 0, none⟩ = some (.int .i64 c.mru) ∧ Y.cell? ⟨w.heap.size, 1, none⟩ = some (.int .i64 c.auth) ∧ Y.cell? ⟨w.heap.size, 2, none⟩ = some (.int .i64 c.magic) ∧ Y.cell? ⟨w.heap.size, 3, none⟩ = some (.int .i64 c.echo) ∧ Y.cell? ⟨w.heap.size, 4, none⟩ = some (.int .i64 c.cf) ∧ Y.cell? ⟨w.heap.size, 5, none⟩ = some (.int .i64 c.tm) ∧ Y.cell? ⟨w.heap.size, 6, none⟩ = some (.int .i64 c.fl) ∧ Y.cell? ⟨w.heap.size, 7, none⟩ = some (.int .i64 c.wt)) W6 := HS.out _ HB.out
            have HI := Lib.hid ((bA.block _ (Array.getElem?_eq_some_iff.1 HI.out).1).trans HI.out)
            refine hK _ _ (fun _ => HSv) ?_
            try simp only [Act.put, List.setIfInBounds_toArray, List.set_cons_zero, List.set_cons_succ]
            clear bA hz hW6 hrb
            refine wpAnyH_at 14 (v := ?vv63) rfl (by kernel_rfl) (by kernel_rfl) (by kernel_rfl) (fun _ _ _ h => h) ?hy63 HSv ?hh63
            case hy63 =>
              refine Or.inl ⟨by rfl, ?_⟩
              intro W hW
              obtain ⟨h0, h1, h2, h3, h4, h5, h6, h7⟩ := hW
              go_simp
              try with_reducible rfl
            simp only [Act.put, List.setIfInBounds_toArray, List.set_cons_zero, List.set_cons_succ]
            refine wpAnyH_1 17 rfl (by kernel_rfl) ?_
            intro K hK
            rw [if_pos (by rfl)]
            try go_simp
            go_at_call 34
            refine (HNN.out lb W1 W6 sA cA rb ib HB.out HR.out HRu.out HI.out).mono ?_
            rintro e wE ⟨B, rfl, nE, bE⟩
            have zl := (bE.block lb (Array.getElem?_eq_some_iff.1 HZ.out.2.1).1).trans HZ.out.2.1
            have f0 := fzOf zl 0
            have c0 : wE.cell? ⟨lb, 0, none⟩ = some (.pointer none) := cellOf zl 0 _ rfl
            have HN := Lib.hid (And.intro bE nE)
            have HSv : (fun Y : World => Y.cell? ⟨w.heap.size, 0, none⟩ = some (.int .i64 c.mru) ∧ Y.cell? ⟨w.heap.size, 1, none⟩ = some (.int .i64 c.auth) ∧ Y.cell? ⟨w.heap.size, 2, none⟩ = some (.int .i64 c.magic) ∧ Y.cell? ⟨w.heap.size, 3, none⟩ = some (.int .i64 c.echo) ∧ Y.cell? ⟨w.heap.size, 4, none⟩ = some (.int .i64 c.cf) ∧ Y.cell? ⟨w.heap.size, 5, none⟩ = some (.int .i64 c.tm) ∧ Y.cell? ⟨w.heap.size, 6, none⟩ = some (.int .i64 c.fl) ∧ Y.cell? ⟨w.heap.size, 7, none⟩ = some (.int .i64 c.wt)) wE := HS.out _ bE
            clear bE nE zl
            refine hK _ _ (fun _ => HSv) ?_
            try simp only [Act.put, List.setIfInBounds_toArray, List.set_cons_zero, List.set_cons_succ]
            refine wpAnyH_at 18 (v := ?vv64) rfl (by kernel_rfl) (by kernel_rfl) (by kernel_rfl) (fun _ _ _ h => h) ?hy64 HSv ?hh64
            case hy64 =>
              refine Or.inl ⟨by rfl, ?_⟩
              intro W hW
              obtain ⟨h0, h1, h2, h3, h4, h5, h6, h7⟩ := hW
              go_simp
              try with_reducible rfl
            simp only [Act.put, List.setIfInBounds_toArray, List.set_cons_zero, List.set_cons_succ]
            refine wpAnyH_at 19 (v := ?vv65) rfl (by kernel_rfl) (by kernel_rfl) (by kernel_rfl) (fun _ _ _ h => h) ?hy65 HSv ?hh65
            case hy65 =>
              refine Or.inl ⟨by rfl, ?_⟩
              intro W hW
              obtain ⟨h0, h1, h2, h3, h4, h5, h6, h7⟩ := hW
              go_simp
              try with_reducible rfl
            simp only [Act.put, List.setIfInBounds_toArray, List.set_cons_zero, List.set_cons_succ]
            refine wpAnyH_at 21 (v := ?vv66) rfl (by kernel_rfl) (by kernel_rfl) (by kernel_rfl) (fun _ _ _ h => h) ?hy66 HSv ?hh66
            case hy66 =>
              refine Or.inl ⟨by rfl, ?_⟩
              intro W hW
              obtain ⟨h0, h1, h2, h3, h4, h5, h6, h7⟩ := hW
              go_simp
              try with_reducible rfl
            simp only [Act.put, List.setIfInBounds_toArray, List.set_cons_zero, List.set_cons_succ]
            refine wpAnyH_at 20 (v := ?vv67) rfl (by kernel_rfl) (by kernel_rfl) (by kernel_rfl) (fun _ _ _ h => h) ?hy67 HSv ?hh67
            case hy67 =>
              refine Or.inl ⟨by rfl, ?_⟩
              intro W hW
              obtain ⟨h0, h1, h2, h3, h4, h5, h6, h7⟩ := hW
              go_simp
              try with_reducible rfl
            simp only [Act.put, List.setIfInBounds_toArray, List.set_cons_zero, List.set_cons_succ]
            refine wpAnyH_at 22 (v := ?vv68) rfl (by kernel_rfl) (by kernel_rfl) (by kernel_rfl) (fun _ _ _ h => h) ?hy68 HSv ?hh68
            case hy68 =>
              refine Or.inl ⟨by rfl, ?_⟩
              intro W hW
              obtain ⟨h0, h1, h2, h3, h4, h5, h6, h7⟩ := hW
              go_simp
              try with_reducible rfl
            simp only [Act.put, List.setIfInBounds_toArray, List.set_cons_zero, List.set_cons_succ]
            refine wpAnyH_end 23 (fun j hj => rgH_end _ _ j (by omega)) (by rfl) (by kernel_rfl) ?_
            simp only [List.drop_succ_cons, List.drop_zero]
            clear HSv
            go_wp2_with fail
            go_ret2
            exact HG.out wE B HN.out.1 HN.out.2
        · intro K hK
          rw [if_pos (by rfl)]
          try go_simp
          have bA : Below W3.heap.size W3 (W3.alloc (.cells #[.int .i64 3] 3 (0, 0))) := (Below.refl _ _).alloc (Nat.le_refl _) _
          have hz := at1 W3 (.cells #[.int .i64 3] 3 (0, 0))
          generalize hW4 : W3.alloc (.cells #[.int .i64 3] 3 (0, 0)) = W4 at bA hz ⊢
          obtain ⟨ib, hib⟩ : ∃ ib, ib = W3.heap.size := ⟨_, rfl⟩
          rw [← hib] at hz ⊢
          have HI := Lib.hid hz
          have HR := Lib.hid (HR.out.below bA)
          have HB := Lib.hid (HB.out.trans (bA.mono HB.out.size))
          have HSv : (fun Y : World => Y.cell? ⟨w.heap.size, 0, none⟩ = some (.int .i64 c.mru) ∧ Y.cell? ⟨w.heap.size, 1, none⟩ = some (.int .i64 c.auth) ∧ Y.cell? ⟨w.heap.size, 2, none⟩ = some (.int .i64 c.magic) ∧ Y.cell? ⟨w.heap.size, 3, none⟩ = some (.int .i64 c.echo) ∧ Y.cell? ⟨w.heap.size, 4, none⟩ = some (.int .i64 c.cf) ∧ Y.cell? ⟨w.heap.size, 5, none⟩ = some (.int .i64 c.tm) ∧ Y.cell? ⟨w.heap.size, 6, none⟩ = some (.int .i64 c.fl) ∧ Y.cell? ⟨w.heap.size, 7, none⟩ = some (.int .i64 c.wt)) W4 := HS.out _ HB.out
          refine hK _ _ (fun _ => HSv) ?_
          try simp only [Act.put, List.setIfInBounds_toArray, List.set_cons_zero, List.set_cons_succ]
          clear bA hz hW4 hib
          refine wpAnyH_1 3 rfl (by kernel_rfl) ?_
          intro K hK
          rw [if_pos (by rfl)]
          try go_simp
          go_at_call 36
          refine (magics_any _).mono ?_
          rintro e W5 ⟨rfl, bA⟩
          have HR := Lib.hid (HR.out.below bA)
          have HB := Lib.hid (HB.out.trans (bA.mono HB.out.size))
          have HSv : (fun Y : World => Y.cell? ⟨w.heap.size, 0, none⟩ = some (.int .i64 c.mru) ∧ Y.cell? ⟨w.heap.size, 1, none⟩ = some (.int .i64 c.auth) ∧ Y.cell? ⟨w.heap.size, 2, none⟩ = some (.int .i64 c.magic) ∧ Y.cell? ⟨w.heap.size, 3, none⟩ = some (.int .i64 c.echo) ∧ Y.cell? ⟨w.heap.size, 4, none⟩ = some (.int .i64 c.cf) ∧ Y.cell? ⟨w.heap.size, 5, none⟩ = some (.int .i64 c.tm) ∧ Y.cell? ⟨w.heap.size, 6, none⟩ = some (.int .i64 c.fl) ∧ Y.cell? ⟨w.heap.size, 7, none⟩ = some (.int .i64 c.wt)) W5 := HS.out _ HB.out
          have HI := Lib.hid ((bA.block _ (Array.getElem?_eq_some_iff.1 HI.out).1).trans HI.out)
          refine hK _ _ (fun _ => HSv) ?_
          try simp only [Act.put, List.setIfInBounds_toArray, List.set_cons_zero, List.set_cons_succ]
          clear bA
          refine wpAnyH_1 4 rfl (by kernel_rfl) ?_
          intro K hK
          rw [if_pos (by rfl)]
          try go_simp
          have bA : Below W5.heap.size W5 (W5.alloc (.cells #[.int .i64 1, .int .i64 2, .int .i64 64, .int .i64 1492, .string (be2 1492), .int .i64 5, .int .i64 4, .int .i64 1, .int .i64 4294967295, .string (be4 1)] 73 (0, 0))) := (Below.refl _ _).alloc (Nat.le_refl _) _
          have hz := at1 W5 (.cells #[.int .i64 1, .int .i64 2, .int .i64 64, .int .i64 1492, .string (be2 1492), .int .i64 5, .int .i64 4, .int .i64 1, .int .i64 4294967295, .string (be4 1)] 73 (0, 0))
          generalize hW6 : W5.alloc (.cells #[.int .i64 1, .int .i64 2, .int .i64 64, .int .i64 1492, .string (be2 1492), .int .i64 5, .int .i64 4, .int .i64 1, .int .i64 4294967295, .string (be4 1)] 73 (0, 0)) = W6 at bA hz ⊢
          obtain ⟨rb, hrb⟩ : ∃ rb, rb = W5.heap.size := ⟨_, rfl⟩
          rw [← hrb] at hz ⊢
          have HRu := Lib.hid hz
          have HR := Lib.hid (HR.out.below bA)
          have HB := Lib.hid (HB.out.trans (bA.mono HB.out.size))
          have HSv : (fun Y : World => Y.cell? ⟨w.heap.size, 0, none⟩ = some (.int .i64 c.mru) ∧ Y.cell? ⟨w.heap.size, 1, none⟩ = some (.int .i64 c.auth) ∧ Y.cell? ⟨w.heap.size, 2, none⟩ = some (.int .i64 c.magic) ∧ Y.cell? ⟨w.heap.size, 3, none⟩ = some (.int .i64 c.echo) ∧ Y.cell? ⟨w.heap.size, 4, none⟩ = some (.int .i64 c.cf) ∧ Y.cell? ⟨w.heap.size, 5, none⟩ = some (.int .i64 c.tm) ∧ Y.cell? ⟨w.heap.size, 6, none⟩ = some (.int .i64 c.fl) ∧ Y.cell? ⟨w.heap.size, 7, none⟩ = some (.int .i64 c.wt)) W6 := HS.out _ HB.out
          have HI := Lib.hid ((bA.block _ (Array.getElem?_eq_some_iff.1 HI.out).1).trans HI.out)
          refine hK _ _ (fun _ => HSv) ?_
          try simp only [Act.put, List.setIfInBounds_toArray, List.set_cons_zero, List.set_cons_succ]
          clear bA hz hW6 hrb
          refine wpAnyH_at 14 (v := ?vv69) rfl (by kernel_rfl) (by kernel_rfl) (by kernel_rfl) (fun _ _ _ h => h) ?hy69 HSv ?hh69
          case hy69 =>
            refine Or.inl ⟨by rfl, ?_⟩
            intro W hW
            obtain ⟨h0, h1, h2, h3, h4, h5, h6, h7⟩ := hW
            go_simp
            try with_reducible rfl
          simp only [Act.put, List.setIfInBounds_toArray, List.set_cons_zero, List.set_cons_succ]
          refine wpAnyH_1 17 rfl (by kernel_rfl) ?_
          intro K hK
          rw [if_pos (by rfl)]
          try go_simp
          go_at_call 34
          refine (HNN.out lb W1 W6 sA cA rb ib HB.out HR.out HRu.out HI.out).mono ?_
          rintro e wE ⟨B, rfl, nE, bE⟩
          have zl := (bE.block lb (Array.getElem?_eq_some_iff.1 HZ.out.2.1).1).trans HZ.out.2.1
          have f0 := fzOf zl 0
          have c0 : wE.cell? ⟨lb, 0, none⟩ = some (.pointer none) := cellOf zl 0 _ rfl
          have HN := Lib.hid (And.intro bE nE)
          have HSv : (fun Y : World => Y.cell? ⟨w.heap.size, 0, none⟩ = some (.int .i64 c.mru) ∧ Y.cell? ⟨w.heap.size, 1, none⟩ = some (.int .i64 c.auth) ∧ Y.cell? ⟨w.heap.size, 2, none⟩ = some (.int .i64 c.magic) ∧ Y.cell? ⟨w.heap.size, 3, none⟩ = some (.int .i64 c.echo) ∧ Y.cell? ⟨w.heap.size, 4, none⟩ = some (.int .i64 c.cf) ∧ Y.cell? ⟨w.heap.size, 5, none⟩ = some (.int .i64 c.tm) ∧ Y.cell? ⟨w.heap.size, 6, none⟩ = some (.int .i64 c.fl) ∧ Y.cell? ⟨w.heap.size, 7, none⟩ = some (.int .i64 c.wt)) wE := HS.out _ bE
          clear bE nE zl
          refine hK _ _ (fun _ => HSv) ?_
          try simp only [Act.put, List.setIfInBounds_toArray, List.set_cons_zero, List.set_cons_succ]
          refine wpAnyH_at 18 (v := ?vv70) rfl (by kernel_rfl) (by kernel_rfl) (by kernel_rfl) (fun _ _ _ h => h) ?hy70 HSv ?hh70
          case hy70 =>
            refine Or.inl ⟨by rfl, ?_⟩
            intro W hW
            obtain ⟨h0, h1, h2, h3, h4, h5, h6, h7⟩ := hW
            go_simp
            try with_reducible rfl
          simp only [Act.put, List.setIfInBounds_toArray, List.set_cons_zero, List.set_cons_succ]
          refine wpAnyH_at 19 (v := ?vv71) rfl (by kernel_rfl) (by kernel_rfl) (by kernel_rfl) (fun _ _ _ h => h) ?hy71 HSv ?hh71
          case hy71 =>
            refine Or.inl ⟨by rfl, ?_⟩
            intro W hW
            obtain ⟨h0, h1, h2, h3, h4, h5, h6, h7⟩ := hW
            go_simp
            try with_reducible rfl
          simp only [Act.put, List.setIfInBounds_toArray, List.set_cons_zero, List.set_cons_succ]
          refine wpAnyH_at 21 (v := ?vv72) rfl (by kernel_rfl) (by kernel_rfl) (by kernel_rfl) (fun _ _ _ h => h) ?hy72 HSv ?hh72
          case hy72 =>
            refine Or.inl ⟨by rfl, ?_⟩
            intro W hW
            obtain ⟨h0, h1, h2, h3, h4, h5, h6, h7⟩ := hW
            go_simp
            try with_reducible rfl
          simp only [Act.put, List.setIfInBounds_toArray, List.set_cons_zero, List.set_cons_succ]
          refine wpAnyH_at 20 (v := ?vv73) rfl (by kernel_rfl) (by kernel_rfl) (by kernel_rfl) (fun _ _ _ h => h) ?hy73 HSv ?hh73
          case hy73 =>
            refine Or.inl ⟨by rfl, ?_⟩
            intro W hW
            obtain ⟨h0, h1, h2, h3, h4, h5, h6, h7⟩ := hW
            go_simp
            try with_reducible rfl
          simp only [Act.put, List.setIfInBounds_toArray, List.set_cons_zero, List.set_cons_succ]
          refine wpAnyH_at 22 (v := ?vv74) rfl (by kernel_rfl) (by kernel_rfl) (by kernel_rfl) (fun _ _ _ h => h) ?hy74 HSv ?hh74
          case hy74 =>
            refine Or.inl ⟨by rfl, ?_⟩
            intro W hW
            obtain ⟨h0, h1, h2, h3, h4, h5, h6, h7⟩ := hW
            go_simp
            try with_reducible rfl
          simp only [Act.put, List.setIfInBounds_toArray, List.set_cons_zero, List.set_cons_succ]
          refine wpAnyH_end 23 (fun j hj => rgH_end _ _ j (by omega)) (by rfl) (by kernel_rfl) ?_
          simp only [List.drop_succ_cons, List.drop_zero]
          clear HSv
          go_wp2_with fail
          go_ret2
          exact HG.out wE B HN.out.1 HN.out.2
      · intro K hK
        rw [if_pos (by rfl)]
        try go_simp
        have bA : Below W2.heap.size W2 (W2.alloc (.cells #[.int .i64 3] 3 (0, 0))) := (Below.refl _ _).alloc (Nat.le_refl _) _
        have hz := at1 W2 (.cells #[.int .i64 3] 3 (0, 0))
        generalize hW3 : W2.alloc (.cells #[.int .i64 3] 3 (0, 0)) = W3 at bA hz ⊢
        obtain ⟨ib, hib⟩ : ∃ ib, ib = W2.heap.size := ⟨_, rfl⟩
        rw [← hib] at hz ⊢
        have HI := Lib.hid hz
        have HR := Lib.hid (HR.out.below bA)
        have HB := Lib.hid (HB.out.trans (bA.mono HB.out.size))
        have HSv : (fun Y : World => Y.cell? ⟨w.heap.size, 0, none⟩ = some (.int .i64 c.mru) ∧ Y.cell? ⟨w.heap.size, 1, none⟩ = some (.int .i64 c.auth) ∧ Y.cell? ⟨w.heap.size, 2, none⟩ = some (.int .i64 c.magic) ∧ Y.cell? ⟨w.heap.size, 3, none⟩ = some (.int .i64 c.echo) ∧ Y.cell? ⟨w.heap.size, 4, none⟩ = some (.int .i64 c.cf) ∧ Y.cell? ⟨w.heap.size, 5, none⟩ = some (.int .i64 c.tm) ∧ Y.cell? ⟨w.heap.size, 6, none⟩ = some (.int .i64 c.fl) ∧ Y.cell? ⟨w.heap.size, 7, none⟩ = some (.int .i64 c.wt)) W3 := HS.out _ HB.out
        refine hK _ _ (fun _ => HSv) ?_
        try simp only [Act.put, List.setIfInBounds_toArray, List.set_cons_zero, List.set_cons_succ]
        clear bA hz hW3 hib
        refine wpAnyH_1 2 rfl (by kernel_rfl) ?_
        intro K hK
        rw [if_pos (by rfl)]
        try go_simp
        go_at_call 35
        refine (units_any 1492 _).mono ?_
        rintro e W4 ⟨rfl, bA⟩
        have HR := Lib.hid (HR.out.below bA)
        have HB := Lib.hid (HB.out.trans (bA.mono HB.out.size))
        have HSv : (fun Y : World => Y.cell? ⟨w.heap.size, 0, none⟩ = some (.int .i64 c.mru) ∧ Y.cell? ⟨w.heap.size, 1, none⟩ = some (.int .i64 c.auth) ∧ Y.cell? ⟨w.heap.size, 2, none⟩ = some (.int .i64 c.magic) ∧ Y.cell? ⟨w.heap.size, 3, none⟩ = some (.int .i64 c.echo) ∧ Y.cell? ⟨w.heap.size, 4, none⟩ = some (.int .i64 c.cf) ∧ Y.cell? ⟨w.heap.size, 5, none⟩ = some (.int .i64 c.tm) ∧ Y.cell? ⟨w.heap.size, 6, none⟩ = some (.int .i64 c.fl) ∧ Y.cell? ⟨w.heap.size, 7, none⟩ = some (.int .i64 c.wt)) W4 := HS.out _ HB.out
        have HI := Lib.hid ((bA.block _ (Array.getElem?_eq_some_iff.1 HI.out).1).trans HI.out)
        refine hK _ _ (fun _ => HSv) ?_
        try simp only [Act.put, List.setIfInBounds_toArray, List.set_cons_zero, List.set_cons_succ]
        clear bA
        refine wpAnyH_1 3 rfl (by kernel_rfl) ?_
        intro K hK
        rw [if_pos (by rfl)]
        try go_simp
        go_at_call 36
        refine (magics_any _).mono ?_
        rintro e W5 ⟨rfl, bA⟩
        have HR := Lib.hid (HR.out.below bA)
        have HB := Lib.hid (HB.out.trans (bA.mono HB.out.size))
        have HSv : (fun Y : World => Y.cell? ⟨w.heap.size, 0, none⟩ = some (.int .i64 c.mru) ∧ Y.cell? ⟨w.heap.size, 1, none⟩ = some (.int .i64 c.auth) ∧ Y.cell? ⟨w.heap.size, 2, none⟩ = some (.int .i64 c.magic) ∧ Y.cell? ⟨w.heap.size, 3, none⟩ = some (.int .i64 c.echo) ∧ Y.cell? ⟨w.heap.size, 4, none⟩ = some (.int .i64 c.cf) ∧ Y.cell? ⟨w.heap.size, 5, none⟩ = some (.int .i64 c.tm) ∧ Y.cell? ⟨w.heap.size, 6, none⟩ = some (.int .i64 c.fl) ∧ Y.cell? ⟨w.heap.size, 7, none⟩ = some (.int .i64 c.wt)) W5 := HS.out _ HB.out
        have HI := Lib.hid ((bA.block _ (Array.getElem?_eq_some_iff.1 HI.out).1).trans HI.out)
        refine hK _ _ (fun _ => HSv) ?_
        try simp only [Act.put, List.setIfInBounds_toArray, List.set_cons_zero, List.set_cons_succ]
        clear bA
        refine wpAnyH_1 4 rfl (by kernel_rfl) ?_
        intro K hK
        rw [if_pos (by rfl)]
        try go_simp
        have bA : Below W5.heap.size W5 (W5.alloc (.cells #[.int .i64 1, .int .i64 2, .int .i64 64, .int .i64 1492, .string (be2 1492), .int .i64 5, .int .i64 4, .int .i64 1, .int .i64 4294967295, .string (be4 1)] 73 (0, 0))) := (Below.refl _ _).alloc (Nat.le_refl _) _
        have hz := at1 W5 (.cells #[.int .i64 1, .int .i64 2, .int .i64 64, .int .i64 1492, .string (be2 1492), .int .i64 5, .int .i64 4, .int .i64 1, .int .i64 4294967295, .string (be4 1)] 73 (0, 0))
        generalize hW6 : W5.alloc (.cells #[.int .i64 1, .int .i64 2, .int .i64 64, .int .i64 1492, .string (be2 1492), .int .i64 5, .int .i64 4, .int .i64 1, .int .i64 4294967295, .string (be4 1)] 73 (0, 0)) = W6 at bA hz ⊢
        obtain ⟨rb, hrb⟩ : ∃ rb, rb = W5.heap.size := ⟨_, rfl⟩
        rw [← hrb] at hz ⊢
        have HRu := Lib.hid hz
        have HR := Lib.hid (HR.out.below bA)
        have HB := Lib.hid (HB.out.trans (bA.mono HB.out.size))
        have HSv : (fun Y : World => Y.cell? ⟨w.heap.size, 0, none⟩ = some (.int .i64 c.mru) ∧ Y.cell? ⟨w.heap.size, 1, none⟩ = some (.int .i64 c.auth) ∧ Y.cell? ⟨w.heap.size, 2, none⟩ = some (.int .i64 c.magic) ∧ Y.cell? ⟨w.heap.size, 3, none⟩ = some (.int .i64 c.echo) ∧ Y.cell? ⟨w.heap.size, 4, none⟩ = some (.int .i64 c.cf) ∧ Y.cell? ⟨w.heap.size, 5, none⟩ = some (.int .i64 c.tm) ∧ Y.cell? ⟨w.heap.size, 6, none⟩ = some (.int .i64 c.fl) ∧ Y.cell? ⟨w.heap.size, 7, none⟩ = some (.int .i64 c.wt)) W6 := HS.out _ HB.out
        have HI := Lib.hid ((bA.block _ (Array.getElem?_eq_some_iff.1 HI.out).1).trans HI.out)
        refine hK _ _ (fun _ => HSv) ?_
        try simp only [Act.put, List.setIfInBounds_toArray, List.set_cons_zero, List.set_cons_succ]
        clear bA hz hW6 hrb
        refine wpAnyH_at 14 (v := ?vv75) rfl (by kernel_rfl) (by kernel_rfl) (by kernel_rfl) (fun _ _ _ h => h) ?hy75 HSv ?hh75
        case hy75 =>
          refine Or.inl ⟨by rfl, ?_⟩
          intro W hW
          obtain ⟨h0, h1, h2, h3, h4, h5, h6, h7⟩ := hW
          go_simp
          try with_reducible rfl
        simp only [Act.put, List.setIfInBounds_toArray, List.set_cons_zero, List.set_cons_succ]
        refine wpAnyH_1 17 rfl (by kernel_rfl) ?_
        intro K hK
        rw [if_pos (by rfl)]
        try go_simp
        go_at_call 34
        refine (HNN.out lb W1 W6 sA cA rb ib HB.out HR.out HRu.out HI.out).mono ?_
        rintro e wE ⟨B, rfl, nE, bE⟩
        have zl := (bE.block lb (Array.getElem?_eq_some_iff.1 HZ.out.2.1).1).trans HZ.out.2.1
        have f0 := fzOf zl 0
        have c0 : wE.cell? ⟨lb, 0, none⟩ = some (.pointer none) := cellOf zl 0 _ rfl
        have HN := Lib.hid (And.intro bE nE)
        have HSv : (fun Y : World => Y.cell? ⟨w.heap.size, 0, none⟩ = some (.int .i64 c.mru) ∧ Y.cell? ⟨w.heap.size, 1, none⟩ = some (.int .i64 c.auth) ∧ Y.cell? ⟨w.heap.size, 2, none⟩ = some (.int .i64 c.magic) ∧ Y.cell? ⟨w.heap.size, 3, none⟩ = some (.int .i64 c.echo) ∧ Y.cell? ⟨w.heap.size, 4, none⟩ = some (.int .i64 c.cf) ∧ Y.cell? ⟨w.heap.size, 5, none⟩ = some (.int .i64 c.tm) ∧ Y.cell? ⟨w.heap.size, 6, none⟩ = some (.int .i64 c.fl) ∧ Y.cell? ⟨w.heap.size, 7, none⟩ = some (.int .i64 c.wt)) wE := HS.out _ bE
        clear bE nE zl
        refine hK _ _ (fun _ => HSv) ?_
        try simp only [Act.put, List.setIfInBounds_toArray, List.set_cons_zero, List.set_cons_succ]
        refine wpAnyH_at 18 (v := ?vv76) rfl (by kernel_rfl) (by kernel_rfl) (by kernel_rfl) (fun _ _ _ h => h) ?hy76 HSv ?hh76
        case hy76 =>
          refine Or.inl ⟨by rfl, ?_⟩
          intro W hW
          obtain ⟨h0, h1, h2, h3, h4, h5, h6, h7⟩ := hW
          go_simp
          try with_reducible rfl
        simp only [Act.put, List.setIfInBounds_toArray, List.set_cons_zero, List.set_cons_succ]
        refine wpAnyH_at 19 (v := ?vv77) rfl (by kernel_rfl) (by kernel_rfl) (by kernel_rfl) (fun _ _ _ h => h) ?hy77 HSv ?hh77
        case hy77 =>
          refine Or.inl ⟨by rfl, ?_⟩
          intro W hW
          obtain ⟨h0, h1, h2, h3, h4, h5, h6, h7⟩ := hW
          go_simp
          try with_reducible rfl
        simp only [Act.put, List.setIfInBounds_toArray, List.set_cons_zero, List.set_cons_succ]
        refine wpAnyH_at 21 (v := ?vv78) rfl (by kernel_rfl) (by kernel_rfl) (by kernel_rfl) (fun _ _ _ h => h) ?hy78 HSv ?hh78
        case hy78 =>
          refine Or.inl ⟨by rfl, ?_⟩
          intro W hW
          obtain ⟨h0, h1, h2, h3, h4, h5, h6, h7⟩ := hW
          go_simp
          try with_reducible rfl
        simp only [Act.put, List.setIfInBounds_toArray, List.set_cons_zero, List.set_cons_succ]
        refine wpAnyH_at 20 (v := ?vv79) rfl (by kernel_rfl) (by kernel_rfl) (by kernel_rfl) (fun _ _ _ h => h) ?hy79 HSv ?hh79
        case hy79 =>
          refine Or.inl ⟨by rfl, ?_⟩
          intro W hW
          obtain ⟨h0, h1, h2, h3, h4, h5, h6, h7⟩ := hW
          go_simp
          try with_reducible rfl
        simp only [Act.put, List.setIfInBounds_toArray, List.set_cons_zero, List.set_cons_succ]
        refine wpAnyH_at 22 (v := ?vv80) rfl (by kernel_rfl) (by kernel_rfl) (by kernel_rfl) (fun _ _ _ h => h) ?hy80 HSv ?hh80
        case hy80 =>
          refine Or.inl ⟨by rfl, ?_⟩
          intro W hW
          obtain ⟨h0, h1, h2, h3, h4, h5, h6, h7⟩ := hW
          go_simp
          try with_reducible rfl
        simp only [Act.put, List.setIfInBounds_toArray, List.set_cons_zero, List.set_cons_succ]
        refine wpAnyH_end 23 (fun j hj => rgH_end _ _ j (by omega)) (by rfl) (by kernel_rfl) ?_
        simp only [List.drop_succ_cons, List.drop_zero]
        clear HSv
        go_wp2_with fail
        go_ret2
        exact HG.out wE B HN.out.1 HN.out.2
    · intro K hK
      rw [if_pos (by rfl)]
      try go_simp
      have bA : Below W.heap.size W (W.alloc (.cells #[.int .i64 3] 3 (0, 0))) := (Below.refl _ _).alloc (Nat.le_refl _) _
      have hz := at1 W (.cells #[.int .i64 3] 3 (0, 0))
      generalize hW2 : W.alloc (.cells #[.int .i64 3] 3 (0, 0)) = W2 at bA hz ⊢
      obtain ⟨ib, hib⟩ : ∃ ib, ib = W.heap.size := ⟨_, rfl⟩
      rw [← hib] at hz ⊢
      have HI := Lib.hid hz
      have HB := Lib.hid (HB.out.trans (bA.mono HB.out.size))
      have HSv : (fun Y : World => Y.cell? ⟨w.heap.size, 0, none⟩ = some (.int .i64 c.mru) ∧ Y.cell? ⟨w.heap.size, 1, none⟩ = some (.int .i64 c.auth) ∧ Y.cell? ⟨w.heap.size, 2, none⟩ = some (.int .i64 c.magic) ∧ Y.cell? ⟨w.heap.size, 3, none⟩ = some (.int .i64 c.echo) ∧ Y.cell? ⟨w.heap.size, 4, none⟩ = some (.int .i64 c.cf) ∧ Y.cell? ⟨w.heap.size, 5, none⟩ = some (.int .i64 c.tm) ∧ Y.cell? ⟨w.heap.size, 6, none⟩ = some (.int .i64 c.fl) ∧ Y.cell? ⟨w.heap.size, 7, none⟩ = some (.int .i64 c.wt)) W2 := HS.out _ HB.out
      refine hK _ _ (fun _ => HSv) ?_
      try simp only [Act.put, List.setIfInBounds_toArray, List.set_cons_zero, List.set_cons_succ]
      clear bA hz hW2 hib
      refine wpAnyH_1 1 rfl (by kernel_rfl) ?_
      intro K hK
      rw [if_pos (by rfl)]
      try go_simp
      go_at_call 18
      refine (HLO.out _).mono ?_
      rintro e W3 ⟨vA, rfl, rA, bA⟩
      obtain ⟨sA, cA, rfl⟩ := rA.form
      have HR := Lib.hid (rA.base HB.out.size)
      have HB := Lib.hid (HB.out.trans (bA.mono HB.out.size))
      have HSv : (fun Y : World => Y.cell? ⟨w.heap.size, 0, none⟩ = some (.int .i64 c.mru) ∧ Y.cell? ⟨w.heap.size, 1, none⟩ = some (.int .i64 c.auth) ∧ Y.cell? ⟨w.heap.size, 2, none⟩ = some (.int .i64 c.magic) ∧ Y.cell? ⟨w.heap.size, 3, none⟩ = some (.int .i64 c.echo) ∧ Y.cell? ⟨w.heap.size, 4, none⟩ = some (.int .i64 c.cf) ∧ Y.cell? ⟨w.heap.size, 5, none⟩ = some (.int .i64 c.tm) ∧ Y.cell? ⟨w.heap.size, 6, none⟩ = some (.int .i64 c.fl) ∧ Y.cell? ⟨w.heap.size, 7, none⟩ = some (.int .i64 c.wt)) W3 := HS.out _ HB.out
      have HI := Lib.hid ((bA.block _ (Array.getElem?_eq_some_iff.1 HI.out).1).trans HI.out)
      refine hK _ _ (fun _ => HSv) ?_
      try simp only [Act.put, List.setIfInBounds_toArray, List.set_cons_zero, List.set_cons_succ]
      clear rA bA
      refine wpAnyH_1 2 rfl (by kernel_rfl) ?_
      intro K hK
      rw [if_pos (by rfl)]
      try go_simp
      go_at_call 35
      refine (units_any 1492 _).mono ?_
      rintro e W4 ⟨rfl, bA⟩
      have HR := Lib.hid (HR.out.below bA)
      have HB := Lib.hid (HB.out.trans (bA.mono HB.out.size))
      have HSv : (fun Y : World => Y.cell? ⟨w.heap.size, 0, none⟩ = some (.int .i64 c.mru) ∧ Y.cell? ⟨w.heap.size, 1, none⟩ = some (.int .i64 c.auth) ∧ Y.cell? ⟨w.heap.size, 2, none⟩ = some (.int .i64 c.magic) ∧ Y.cell? ⟨w.heap.size, 3, none⟩ = some (.int .i64 c.echo) ∧ Y.cell? ⟨w.heap.size, 4, none⟩ = some (.int .i64 c.cf) ∧ Y.cell? ⟨w.heap.size, 5, none⟩ = some (.int .i64 c.tm) ∧ Y.cell? ⟨w.heap.size, 6, none⟩ = some (.int .i64 c.fl) ∧ Y.cell? ⟨w.heap.size, 7, none⟩ = some (.int .i64 c.wt)) W4 := HS.out _ HB.out
      have HI := Lib.hid ((bA.block _ (Array.getElem?_eq_some_iff.1 HI.out).1).trans HI.out)
      refine hK _ _ (fun _ => HSv) ?_
      try simp only [Act.put, List.setIfInBounds_toArray, List.set_cons_zero, List.set_cons_succ]
      clear bA
      refine wpAnyH_1 3 rfl (by kernel_rfl) ?_
      intro K hK
      rw [if_pos (by rfl)]
      try go_simp
      go_at_call 36
      refine (magics_any _).mono ?_
      rintro e W5 ⟨rfl, bA⟩
      have HR := Lib.hid (HR.out.below bA)
      have HB := Lib.hid (HB.out.trans (bA.mono HB.out.size))
      have HSv : (fun Y : World => Y.cell? ⟨w.heap.size, 0, none⟩ = some (.int .i64 c.mru) ∧ Y.cell? ⟨w.heap.size, 1, none⟩ = some (.int .i64 c.auth) ∧ Y.cell? ⟨w.heap.size, 2, none⟩ = some (.int .i64 c.magic) ∧ Y.cell? ⟨w.heap.size, 3, none⟩ = some (.int .i64 c.echo) ∧ Y.cell? ⟨w.heap.size, 4, none⟩ = some (.int .i64 c.cf) ∧ Y.cell? ⟨w.heap.size, 5, none⟩ = some (.int .i64 c.tm) ∧ Y.cell? ⟨w.heap.size, 6, none⟩ = some (.int .i64 c.fl) ∧ Y.cell? ⟨w.heap.size, 7, none⟩ = some (.int .i64 c.wt)) W5 := HS.out _ HB.out
      have HI := Lib.hid ((bA.block _ (Array.getElem?_eq_some_iff.1 HI.out).1).trans HI.out)
      refine hK _ _ (fun _ => HSv) ?_
      try simp only [Act.put, List.setIfInBounds_toArray, List.set_cons_zero, List.set_cons_succ]
      clear bA
      refine wpAnyH_1 4 rfl (by kernel_rfl) ?_
      intro K hK
      rw [if_pos (by rfl)]
      try go_simp
      have bA : Below W5.heap.size W5 (W5.alloc (.cells #[.int .i64 1, .int .i64 2, .int .i64 64, .int .i64 1492, .string (be2 1492), .int .i64 5, .int .i64 4, .int .i64 1, .int .i64 4294967295, .string (be4 1)] 73 (0, 0))) := (Below.refl _ _).alloc (Nat.le_refl _) _
      have hz := at1 W5 (.cells #[.int .i64 1, .int .i64 2, .int .i64 64, .int .i64 1492, .string (be2 1492), .int .i64 5, .int .i64 4, .int .i64 1, .int .i64 4294967295, .string (be4 1)] 73 (0, 0))
      generalize hW6 : W5.alloc (.cells #[.int .i64 1, .int .i64 2, .int .i64 64, .int .i64 1492, .string (be2 1492), .int .i64 5, .int .i64 4, .int .i64 1, .int .i64 4294967295, .string (be4 1)] 73 (0, 0)) = W6 at bA hz ⊢
      obtain ⟨rb, hrb⟩ : ∃ rb, rb = W5.heap.size := ⟨_, rfl⟩
      rw [← hrb] at hz ⊢
      have HRu := Lib.hid hz
      have HR := Lib.hid (HR.out.below bA)
      have HB := Lib.hid (HB.out.trans (bA.mono HB.out.size))
      have HSv : (fun Y : World => Y.cell? ⟨w.heap.size, 0, none⟩ = some (.int .i64 c.mru) ∧ Y.cell? ⟨w.heap.size, 1, none⟩ = some (.int .i64 c.auth) ∧ Y.cell? ⟨w.heap.size, 2, none⟩ = some (.int .i64 c.magic) ∧ Y.cell? ⟨w.heap.size, 3, none⟩ = some (.int .i64 c.echo) ∧ Y.cell? ⟨w.heap.size, 4, none⟩ = some (.int .i64 c.cf) ∧ Y.cell? ⟨w.heap.size, 5, none⟩ = some (.int .i64 c.tm) ∧ Y.cell? ⟨w.heap.size, 6, none⟩ = some (.int .i64 c.fl) ∧ Y.cell? ⟨w.heap.size, 7, none⟩ = some (.int .i64 c.wt)) W6 := HS.out _ HB.out
      have HI := Lib.hid ((bA.block _ (Array.getElem?_eq_some_iff.1 HI.out).1).trans HI.out)
      refine hK _ _ (fun _ => HSv) ?_
      try simp only [Act.put, List.setIfInBounds_toArray, List.set_cons_zero, List.set_cons_succ]
      clear bA hz hW6 hrb
      refine wpAnyH_at 14 (v := ?vv81) rfl (by kernel_rfl) (by kernel_rfl) (by kernel_rfl) (fun _ _ _ h => h) ?hy81 HSv ?hh81
      case hy81 =>
        refine Or.inl ⟨by rfl, ?_⟩
        intro W hW
        obtain ⟨h0, h1, h2, h3, h4, h5, h6, h7⟩ := hW
        go_simp
        try with_reducible rfl
      simp only [Act.put, List.setIfInBounds_toArray, List.set_cons_zero, List.set_cons_succ]
      refine wpAnyH_1 17 rfl (by kernel_rfl) ?_
      intro K hK
      rw [if_pos (by rfl)]
      try go_simp
      go_at_call 34
      refine (HNN.out lb W1 W6 sA cA rb ib HB.out HR.out HRu.out HI.out).mono ?_
      rintro e wE ⟨B, rfl, nE, bE⟩
      have zl := (bE.block lb (Array.getElem?_eq_some_iff.1 HZ.out.2.1).1).trans HZ.out.2.1
      have f0 := fzOf zl 0
      have c0 : wE.cell? ⟨lb, 0, none⟩ = some (.pointer none) := cellOf zl 0 _ rfl
      have HN := Lib.hid (And.intro bE nE)
      have HSv : (fun Y : World => Y.cell? ⟨w.heap.size, 0, none⟩ = some (.int .i64 c.mru) ∧ Y.cell? ⟨w.heap.size, 1, none⟩ = some (.int .i64 c.auth) ∧ Y.cell? ⟨w.heap.size, 2, none⟩ = some (.int .i64 c.magic) ∧ Y.cell? ⟨w.heap.size, 3, none⟩ = some (.int .i64 c.echo) ∧ Y.cell? ⟨w.heap.size, 4, none⟩ = some (.int .i64 c.cf) ∧ Y.cell? ⟨w.heap.size, 5, none⟩ = some (.int .i64 c.tm) ∧ Y.cell? ⟨w.heap.size, 6, none⟩ = some (.int .i64 c.fl) ∧ Y.cell? ⟨w.heap.size, 7, none⟩ = some (.int .i64 c.wt)) wE := HS.out _ bE
      clear bE nE zl
      refine hK _ _ (fun _ => HSv) ?_
      try simp only [Act.put, List.setIfInBounds_toArray, List.set_cons_zero, List.set_cons_succ]
      refine wpAnyH_at 18 (v := ?vv82) rfl (by kernel_rfl) (by kernel_rfl) (by kernel_rfl) (fun _ _ _ h => h) ?hy82 HSv ?hh82
      case hy82 =>
        refine Or.inl ⟨by rfl, ?_⟩
        intro W hW
        obtain ⟨h0, h1, h2, h3, h4, h5, h6, h7⟩ := hW
        go_simp
        try with_reducible rfl
      simp only [Act.put, List.setIfInBounds_toArray, List.set_cons_zero, List.set_cons_succ]
      refine wpAnyH_at 19 (v := ?vv83) rfl (by kernel_rfl) (by kernel_rfl) (by kernel_rfl) (fun _ _ _ h => h) ?hy83 HSv ?hh83
      case hy83 =>
        refine Or.inl ⟨by rfl, ?_⟩
        intro W hW
        obtain ⟨h0, h1, h2, h3, h4, h5, h6, h7⟩ := hW
        go_simp
        try with_reducible rfl
      simp only [Act.put, List.setIfInBounds_toArray, List.set_cons_zero, List.set_cons_succ]
      refine wpAnyH_at 21 (v := ?vv84) rfl (by kernel_rfl) (by kernel_rfl) (by kernel_rfl) (fun _ _ _ h => h) ?hy84 HSv ?hh84
      case hy84 =>
        refine Or.inl ⟨by rfl, ?_⟩
        intro W hW
        obtain ⟨h0, h1, h2, h3, h4, h5, h6, h7⟩ := hW
        go_simp
        try with_reducible rfl
      simp only [Act.put, List.setIfInBounds_toArray, List.set_cons_zero, List.set_cons_succ]
      refine wpAnyH_at 20 (v := ?vv85) rfl (by kernel_rfl) (by kernel_rfl) (by kernel_rfl) (fun _ _ _ h => h) ?hy85 HSv ?hh85
      case hy85 =>
        refine Or.inl ⟨by rfl, ?_⟩
        intro W hW
        obtain ⟨h0, h1, h2, h3, h4, h5, h6, h7⟩ := hW
        go_simp
        try with_reducible rfl
      simp only [Act.put, List.setIfInBounds_toArray, List.set_cons_zero, List.set_cons_succ]
      refine wpAnyH_at 22 (v := ?vv86) rfl (by kernel_rfl) (by kernel_rfl) (by kernel_rfl) (fun _ _ _ h => h) ?hy86 HSv ?hh86
      case hy86 =>
        refine Or.inl ⟨by rfl, ?_⟩
        intro W hW
        obtain ⟨h0, h1, h2, h3, h4, h5, h6, h7⟩ := hW
        go_simp
        try with_reducible rfl
      simp only [Act.put, List.setIfInBounds_toArray, List.set_cons_zero, List.set_cons_succ]
      refine wpAnyH_end 23 (fun j hj => rgH_end _ _ j (by omega)) (by rfl) (by kernel_rfl) ?_
      simp only [List.drop_succ_cons, List.drop_zero]
      clear HSv
      go_wp2_with fail
      go_ret2
      exact HG.out wE B HN.out.1 HN.out.2
end Go.Proofs.YthhdackaopaojaaGreat
