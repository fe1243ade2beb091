import Derived.Test.YtidlldfppoelnaaV20
namespace Go.Proofs.Ytidlldfppoelnaa
open Go.RowKit Go.Tg Go.Maps

theorem slice_one (sa : Option Addr) (n c : Nat) : (Value.slice sa n c).oneCell' = true := rfl

/-- 'out = append(out, l...)' of packets at a plain statement. -/
theorem wpl_append_pks {B B' : Nat} {w : World} {ops : Array Oper} {rest : List Oper} {o : Oper} {a : Act} {Q : Exit → Act → World → Prop} (hgd : o.guard = none) (s x : Operand)
    (ho : o.op = .call { callee := .builtin .append, args := #[s, x], argTypes := #[33, 33] }) (v : Value) (l : List (Pk × Value)) (hs : a.eval s = v) (hown : PRow w B v l)
    (xv : Value) (l' : List (Pk × Value)) (hx : a.eval x = xv) (hr : PRow w B' xv l') (hone : ∀ p ∈ l', p.2.oneCell' = true) (hlen : l.length + l'.length ≤ 1000000) (hW : B ≤ w.heap.size)
    (h : ∀ v' w', PRow w' B v' (l ++ l') → Keep (fun k => v.ownBlock = some k) w w' → (v'.ownBlock = v.ownBlock ∨ v'.ownBlock = some w.heap.size) → wpList Try.prog ops Q rest (a.put o.dst v') w') : wpList Try.prog ops Q (o :: rest) a w := by
  obtain ⟨i, z, hi, hz, hsz, hby, hzs⟩ := pk_info
  have hrec : Rec 4 w (fun b => B' ≤ b) xv (pkL l') := Rec.of_owns hr (pkL_len l').symm (pkL_k l') (by unfold maxLen; omega)
  have hnil : ∀ n c, xv = .slice none n c → c = 0 := by
    intro n c e
    obtain ⟨_, ⟨h, hn⟩ | ⟨g, cp, cur, hv, _⟩⟩ := hr
    · rw [h] at e; cases e; rfl
    · rw [hv] at e; cases e
  obtain ⟨sa, c, rfl, hc, hm⟩ := hrec.form
  rw [pkL_len] at *
  cases sa with
  | none =>
    have h0 := hnil _ _ rfl
    subst h0
    have e : l' = [] := List.eq_nil_of_length_eq_zero (by omega)
    subst e
    refine wpList_append_own_none hgd s x 33 ho B 36 i 4 Try.underlying33 hi v l.length (pkL l).flatten hs hown hx ?_
    exact h v w (by rw [List.append_nil]; exact hown) (Keep.refl _ _) (Or.inl rfl)
  | some ad =>
    have hfl := hrec.flat (by decide)
    have hl2 : (pkL l').flatten.length = l'.length * 4 := by rw [flatten_len _ (pkL_k l'), pkL_len]
    have hb : ∀ u ∈ (pkL l').flatten, u.oneCell' = true := by
      intro u hu
      simp only [List.mem_flatten, pkL, List.mem_map] at hu
      obtain ⟨_, ⟨p, hp, rfl⟩, hu⟩ := hu
      simp only [pkCells, List.mem_cons, List.not_mem_nil, or_false] at hu
      rcases hu with rfl | rfl | rfl | rfl
      · rfl
      · rfl
      · exact hone p hp
      · rfl
    refine wpList_append_own_at (P := Try.prog) (w := w) hgd s x 33 ho B 36 i z 4 56 Try.underlying33 hi hz hsz hby hzs (by decide) v l.length (pkL l).flatten hs hown ad l'.length c (pkL l').flatten hx hl2 hfl hb (by unfold maxLen; omega) (by omega) hW ?_
    intro v' w' h1 h2 _ h3
    exact h v' w' (by unfold PRow; rw [pkL_app, List.length_append]; exact h1) (keep_of_grown h2) h3

theorem sayL_snoc (rej : Pk → ByteArray) (C : NegC) (c : Came) : ∀ (l : List Int) (st : NSt) (a : Int), sayL rej C c st (l ++ [a]) = ((sayS rej C (sayL rej C c st l).1 a c).1, (sayL rej C c st l).2 ++ (sayS rej C (sayL rej C c st l).1 a c).2) := by
  intro l
  induction l with
  | nil => intro st a; simp [sayL]
  | cons x l ih => intro st a; simp only [List.cons_append, sayL, ih, List.append_assoc]
theorem sayS_len (rej : Pk → ByteArray) (C : NegC) (c : Came) (st : NSt) (a : Int) : (sayS rej C st a c).2.length ≤ 1 := by
  unfold sayS
  repeat' split
  all_goals simp
theorem sayL_len (rej : Pk → ByteArray) (C : NegC) (c : Came) : ∀ (l : List Int) (st : NSt), (sayL rej C c st l).2.length ≤ l.length := by
  intro l
  induction l with
  | nil => intro st; simp [sayL]
  | cons x l ih =>
    intro st
    have h1 := sayS_len rej C c st x
    have h2 := ih (sayS rej C st x c).1
    simp only [sayL, List.length_append, List.length_cons]
    omega

def SaySpec (rej : Pk → ByteArray) (B : NegB) (C : NegC) (ok : Nat → Prop) (c : Came) (po pa : Value) (a : Int) : Prop := ∀ w S st X, NegAt w S B C st X → CameAt w B ok c po pa →
  Calls Try.prog 71 #[.pointer (some ⟨B.nb, 0, none⟩), .int .i64 a, cameV c po pa] w fun e w' => SayPost w w' S ok B C (sayS rej C st a c) e

theorem say_most (rej : Pk → ByteArray) (B : NegB) (C : NegC) (ok : Nat → Prop) (c : Came) (po pa : Value) (a : Int) (h0 : 0 ≤ a) (h1 : a ≤ 12) (h8 : a ≠ 8) (h11 : a ≠ 11) : SaySpec rej B C ok c po pa a := by
  intro w S st X h hc
  have : a = 0 ∨ a = 1 ∨ a = 6 ∨ a = 7 ∨ a = 9 ∨ a = 10 ∨ (a = 2 ∨ a = 3 ∨ a = 4 ∨ a = 5 ∨ a = 12) := by omega
  rcases this with rfl | rfl | rfl | rfl | rfl | rfl | ha
  · exact say0 rej c po pa h
  · exact say1 rej c po pa h
  · exact say6 rej c po pa h
  · exact say7 rej c po pa h hc
  · exact say9 rej c po pa h
  · exact say10 rej c po pa h
  · exact sayX rej c po pa a ha h

section
variable (rej : Pk → ByteArray) {w : World} {S ok : Nat → Prop} {B : NegB} {C : NegC} {st : NSt} {X : NegX} (c : Came) (po pa : Value)

def ToldAt (w wr : World) (S ok : Nat → Prop) (B : NegB) (C : NegC) (v : Value) (r : NSt × List Pk) : Prop :=
  ∃ L X', L.map Prod.fst = r.2 ∧ PRow wr (w.heap.size + 1) v L ∧ POpts wr (fun b => ((ok b ∧ b < w.heap.size) ∨ w.heap.size ≤ b) ∧ v.ownBlock ≠ some b) L ∧ NegAt wr (fun b => Grow S w b ∧ v.ownBlock ≠ some b) B C r.1 X' ∧ Keep (fun b => b = B.nb) w wr

set_option maxHeartbeats 8000000 in
set_option maxRecDepth 100000 in
theorem told_at (xs : List Int) (lv : Value) (base : Nat) (hx : IntsAt 3 base w lv xs) (hbase : B.nb < base) (hlen : xs.length ≤ 20) (h : NegAt w S B C st X) (hc : CameAt w B ok c po pa)
    (hs : ∀ a ∈ xs, ∀ ok, SaySpec rej B C ok c po pa a) :
    Calls Try.prog 50 #[.pointer (some ⟨B.nb, 0, none⟩), lv, cameV c po pa] w fun e w' => SayPost w w' S ok B C (toldS rej C st xs c) e := by
  obtain ⟨a1, k1, rfl, hc1, hc2⟩ := hc.1.form
  obtain ⟨a2, k2, rfl, hc3, hc4⟩ := hc.2.1.form
  obtain ⟨la, lc, rfl, hlc, hlm, hat⟩ : ∃ la lc, lv = .slice la xs.length lc ∧ xs.length ≤ lc ∧ lc ≤ 20 ∧ ∀ k (hk : k < xs.length), ∃ b, la = some ⟨b, 0, none⟩ ∧ b ≠ B.nb ∧ b < w.heap.size ∧ w.cell? ⟨b, k, none⟩ = some (.int .i64 xs[k]) := by
    rcases hx with ⟨rfl, rfl⟩ | ⟨b, h1, rfl, h2⟩
    · exact ⟨none, 0, rfl, Nat.le_refl _, by omega, fun k hk => by cases hk⟩
    · exact ⟨_, _, rfl, Nat.le_refl _, hlen, fun k hk => ⟨b, rfl, by omega, (Array.getElem?_eq_some_iff.1 h2).1, cellOf h2 k _ (by simp [hk])⟩⟩
  obtain ⟨len, hln⟩ : ∃ len, len = xs.length := ⟨_, rfl⟩
  have HLN := Lib.hid hln
  have hb1 : Below w.heap.size w (w.alloc (.cells #[.bool c.is, .int .i64 c.p.code, .int .i64 c.p.id, (.slice a1 c.p.o.length k1), .string c.p.d, .int .i64 c.code, (.slice a2 c.ans.length k2)] 76 (0, 0))) := (Below.refl _ _).alloc (Nat.le_refl _) _
  have hz := at1 w (.cells #[.bool c.is, .int .i64 c.p.code, .int .i64 c.p.id, (.slice a1 c.p.o.length k1), .string c.p.d, .int .i64 c.code, (.slice a2 c.ans.length k2)] 76 (0, 0))
  have H := Lib.hid (And.intro hat (And.intro h (And.intro hc (And.intro hs (And.intro hb1 hz)))))
  have hnl := h.nlt
  unfold cameV
  rw [← hln] at hlc hlen ⊢
  clear hln hx hat h hc hs hb1 hz
  go_enter Try.func50, Try.ntmps50
  go_wp2_with fail
  go_loopg [7, 12] len (fun x r i wr => ∃ k : Nat, k ≤ len ∧ x = len - k ∧ i = .int .i64 k ∧ Hid (ToldAt w wr S ok B C r (sayL rej C c st (xs.take k)) ∧ wr.heap[w.heap.size]? = some (.cells #[.bool c.is, .int .i64 c.p.code, .int .i64 c.p.id, (.slice a1 c.p.o.length k1), .string c.p.d, .int .i64 c.code, (.slice a2 c.ans.length k2)] 76 (0, 0))))
  case atStart => exact ⟨0, by omega, by omega, rfl, ⟨[], X, rfl, PRow.nil _ _, fun _ h => (by cases h), (H.out.2.1.below H.out.2.2.2.2.1).mono (fun _ h => ⟨.inl h, fun h => (by cases h)⟩), Keep.of_below _ H.out.2.2.2.2.1⟩, H.out.2.2.2.2.2⟩
  case round =>
    obtain ⟨k, hk, rfl, rfl, hK⟩ := hrel
    obtain ⟨⟨L, X', hL, hrow, hpo, hneg, hkeep⟩, hz⟩ := hK.out
    have e0 : wr.cell? ⟨w.heap.size, 0, none⟩ = some _ := cellOf hz 0 _ rfl
    have e1 : wr.cell? ⟨w.heap.size, 1, none⟩ = some _ := cellOf hz 1 _ rfl
    have e2 : wr.cell? ⟨w.heap.size, 2, none⟩ = some _ := cellOf hz 2 _ rfl
    have e3 : wr.cell? ⟨w.heap.size, 3, none⟩ = some _ := cellOf hz 3 _ rfl
    have e4 : wr.cell? ⟨w.heap.size, 4, none⟩ = some _ := cellOf hz 4 _ rfl
    have e5 : wr.cell? ⟨w.heap.size, 5, none⟩ = some _ := cellOf hz 5 _ rfl
    have e6 : wr.cell? ⟨w.heap.size, 6, none⟩ = some _ := cellOf hz 6 _ rfl
    have hsw := hkeep.size
    have hsz := (Array.getElem?_eq_some_iff.1 hz).1
    have hll : L.length ≤ k := by
      have h1 := sayL_len rej C c (xs.take k) st
      have h2 := congrArg List.length hL
      rw [List.length_map] at h2
      rw [List.length_take] at h1
      omega
    have HR := Lib.hid (And.intro hL (And.intro hrow (And.intro hpo (And.intro hneg (And.intro hkeep hz)))))
    clear hK hL hrow hpo hneg hkeep hz
    have hln' := HLN.out
    by_cases hkl : k < len
    · have hkl' : k < xs.length := by omega
      clear hln'
      obtain ⟨b, rfl, hbn, hbw, c0⟩ := H.out.1 k hkl'
      have d0 : wr.cell? ⟨b, k, none⟩ = some (.int .i64 xs[k]) := by
        rw [← c0]; exact World.cell?_of_block (w := w) (HR.out.2.2.2.2.1.block b hbw hbn)
      have hca : CameAt wr B (fun b => ok b ∧ b < w.heap.size) c (.slice a1 c.p.o.length k1) (.slice a2 c.ans.length k2) := by
        obtain ⟨h1, h2, h3, h4⟩ := H.out.2.2.1
        have hn : ∀ b, b < w.heap.size → ok b → ¬ b = B.nb := fun b _ hb he => h3 b hb (.inl he)
        exact ⟨Rec.keep (Rec.old h1) HR.out.2.2.2.2.1 (fun b hb h => hn b hb h.1), Rec.keep (Rec.old h2) HR.out.2.2.2.2.1 (fun b hb h => hn b hb h.1), fun b hb => h3 b hb.1, h4⟩
      have hcall := H.out.2.2.2.1 xs[k] (List.getElem_mem hkl') (fun b => ok b ∧ b < w.heap.size) wr _ _ X' HR.out.2.2.2.1 hca
      unfold cameV at hcall
      have HT := Lib.hid (show sayL rej C c st (xs.take (k + 1)) = _ from by rw [List.take_succ_eq_append_getElem hkl', sayL_snoc])
      generalize sayL rej C c st (xs.take k) = rk at *
      generalize xs[k] = ak at *
      clear c0 hca
      go_wp2_with (first
        | (go_at_call 71; refine hcall.mono ?_; rintro e w5 ⟨v5, rfl, ⟨L5, hl5, hr5, ho5⟩, ⟨X5, hn5⟩, hk5⟩
           have hrow5 : PRow w5 (w.heap.size + 1) u7 L := HR.out.2.1.keep hk5 (fun q hq he => by have := (HR.out.2.1.lt q hq).2; omega)
           have hone5 : ∀ p ∈ L5, p.2.oneCell' = true := fun p hp => by obtain ⟨sa, sc, e, _, _⟩ := Opts.form (ho5 p hp); rw [e]; rfl
           have hll5 : L.length + L5.length ≤ 1000000 := by
             have h1 := congrArg List.length hl5
             rw [List.length_map] at h1
             have h2 := sayS_len rej C c rk.1 ak
             omega
           have hsz5 := hk5.size
           have hW5 : w.heap.size + 1 ≤ w5.heap.size := by omega
           have H5 := Lib.hid (And.intro hl5 (And.intro hr5 (And.intro ho5 (And.intro hn5 (And.intro hk5 hrow5)))))
           clear hl5 hr5 ho5 hn5 hk5 hrow5)
        | (at_builtin; refine wpl_append_pks rfl _ _ rfl _ L rfl H5.out.2.2.2.2.2 _ L5 rfl H5.out.2.1 hone5 hll5 hW5 ?_
           intro v6 w6 h6 k6 o6
           have H6 := Lib.hid (And.intro h6 (And.intro k6 o6))
           clear h6 k6 o6))
      go_roundg (len - (k + 1))
      case measure => omega
      case rel =>
        refine ⟨k + 1, by omega, rfl, by go_num, ?_, ?_⟩
        · rw [HT.out]
          have hq7 : ∀ q, u7.ownBlock = some q → w.heap.size + 1 ≤ q ∧ q < wr.heap.size := fun q hq => ⟨(HR.out.2.1.lt q hq).2, (HR.out.2.1.lt q hq).1⟩
          have ho6 : ∀ b, b < w5.heap.size → u7.ownBlock ≠ some b → v6.ownBlock ≠ some b := fun b hb hn he => by
            rcases H6.out.2.2 with h | h
            · rw [h] at he; exact hn he
            · rw [h] at he; cases he; omega
          refine ⟨L ++ L5, X5, ?_, H6.out.1, ?_, ?_, ?_⟩
          · rw [List.map_append, HR.out.1, H5.out.1]
          · intro p hp
            rcases List.mem_append.1 hp with hp | hp
            · have h1 : Opts wr _ p.2 p.1.o := Rec.old (HR.out.2.2.1 p hp)
              have h2 : Opts w5 _ p.2 p.1.o := Rec.keep h1 H5.out.2.2.2.2.1 (fun b _ hb he => by
                rcases hb.1.1 with h | h
                · exact H.out.2.2.1.2.2.1 b h.1 (.inl he)
                · omega)
              have h3 : Opts w6 _ p.2 p.1.o := Rec.keep h2 H6.out.2.1 (fun b _ hb he => hb.1.2 he)
              exact Rec.mono h3 (fun b hb => ⟨hb.1.1, ho6 b (by omega) hb.1.2⟩)
            · have h1 : Opts w5 _ p.2 p.1.o := Rec.old (H5.out.2.2.1 p hp)
              have hn : ∀ b, Grow (fun b => ok b ∧ b < w.heap.size) wr b → u7.ownBlock ≠ some b := fun b hb he => by
                have := hq7 b he
                rcases hb with h | h <;> omega
              have h3 : Opts w6 _ p.2 p.1.o := Rec.keep h1 H6.out.2.1 (fun b _ hb he => hn b hb.1 he)
              exact Rec.mono h3 (fun b hb => ⟨hb.1.imp id (fun h => by omega), ho6 b hb.2 (hn b hb.1)⟩)
          · have h1 := H5.out.2.2.2.1.old
            have hn : ∀ b, Grow (fun b => Grow S w b ∧ u7.ownBlock ≠ some b) wr b → u7.ownBlock ≠ some b := fun b hb he => by
              have := hq7 b he
              rcases hb with h | h
              · exact h.2 he
              · omega
            exact (h1.keep H6.out.2.1 (fun b _ hb he => hn b hb.1 he)).mono (fun b hb => ⟨hb.1.elim (fun h => h.1) (fun h => .inr (by omega)), ho6 b hb.2 (hn b hb.1)⟩)
          · have h1 := HR.out.2.2.2.2.1.trans H5.out.2.2.2.2.1
            exact h1.transM H6.out.2.1 (fun _ _ h => h) (fun b hb he => by have := hq7 b he; omega)
        · have hsz6 : w.heap.size < w5.heap.size := by omega
          exact (H6.out.2.1.block _ hsz6 (fun he => by
            have h1 := HR.out.2.1.lt _ he
            omega)).trans ((H5.out.2.2.2.2.1.block _ hsz (fun he => by omega)).trans HR.out.2.2.2.2.2)
    · clear hln'
      obtain rfl : len = k := by omega
      have htk : xs.take len = xs := by rw [HLN.out, List.take_length]
      rw [htk] at HR
      obtain ⟨ra, rc, hr⟩ := HR.out.2.1.form
      subst hr
      have hneg := HR.out.2.2.2.1
      have g0 : wr.cell? ⟨B.nb, 0, none⟩ = some (.pointer (some ⟨B.ab, 0, none⟩)) := hneg.cell 0
      have f14 := hneg.fz 14
      have g14 : wr.cell? ⟨B.nb, 14, none⟩ = some (.int .i64 _) := hneg.cell 14
      have HW := Lib.hid (waits_some B.ab _ _ _ _ wr hneg.aut hneg.ok.cf.1)
      have HN := Lib.hid (NegAt.setC (st' := { (sayL rej C c st xs).1 with ticks := 0 }) hneg 14 (.int .i64 0) rfl ⟨rfl, rfl, rfl, rfl, rfl⟩ hneg.id)
      have HT : Hid (toldS rej C st xs c = ((if waitsB (sayL rej C c st xs).1.s then (sayL rej C c st xs).1 else { (sayL rej C c st xs).1 with ticks := 0 }), (sayL rej C c st xs).2)) := Lib.hid rfl
      clear hneg
      generalize sayL rej C c st xs = rk at *
      generalize waitsB rk.1.s = wb at *
      cases wb with
      | true =>
        go_wp2_with (go_at_call 49; refine HW.out.mono ?_; rintro e w7 ⟨rfl, rfl⟩)
        go_ret
        rw [HT.out]
        exact ⟨_, rfl, ⟨L, HR.out.1, HR.out.2.1.base (by omega), HR.out.2.2.1.mono (fun b hb => hb.1.imp (fun h => h.1) id)⟩, ⟨X', HR.out.2.2.2.1.mono (fun b hb => hb.1)⟩, HR.out.2.2.2.2.1⟩
      | false =>
        go_wp2_with (go_at_call 49; refine HW.out.mono ?_; rintro e w7 ⟨rfl, rfl⟩)
        go_ret
        rw [HT.out]
        refine ⟨_, rfl, ⟨L, HR.out.1, (HR.out.2.1.keep (keepC B wr 14 (.int .i64 0)) (fun q hq he => by have := (HR.out.2.1.lt q hq).2; omega)).base (by omega), ?_⟩, ⟨X', HN.out.mono (fun b hb => hb.1)⟩, HR.out.2.2.2.2.1.trans (keepC B wr 14 (.int .i64 0))⟩
        exact POpts.mono (HR.out.2.2.1.keep (keepC B wr 14 (.int .i64 0)) (fun b _ hb he => by
          rcases hb.1 with h | h
          · exact H.out.2.2.1.2.2.1 b h.1 (.inl he)
          · omega)) (fun b hb => hb.1.imp (fun h => h.1) id)
end
end Go.Proofs.Ytidlldfppoelnaa
