import Derived.Test.YtignponfoheaeaaGreatV20
import Derived.Laws.EntriesVeiled
namespace Go.Proofs.YtignponfoheaeaaGreat
open Go.RowKit Go.Tg Go.Maps

theorem slice_one (sa : Option Addr) (n c : Nat) : (Value.slice sa n c).oneCell' = true := rfl

/-- 'out = append(out, l...)' of packets at a plain statement. -/
theorem wpl_append_pks {B B' : Nat} {w : World} {ops : Array Oper} {rest : List Oper} {o : Oper} {a : Act} {Q : Exit → Act → World → Prop} (hgd : o.guard = none) (s x : Operand)
    (ho : o.op = .call { callee := .builtin .append, args := #[s, x], argTypes := #[96, 96] }) (v : Value) (l : List (Pk × Value)) (hs : a.eval s = v) (hown : PRow w B v l)
    (xv : Value) (l' : List (Pk × Value)) (hx : a.eval x = xv) (hr : PRow w B' xv l') (hone : ∀ p ∈ l', p.2.oneCell' = true) (hlen : l.length + l'.length ≤ 1000000) (hW : B ≤ w.heap.size)
    (h : ∀ v' w', PRow w' B v' (l ++ l') → Keep (fun k => v.ownBlock = some k) w w' → (v'.ownBlock = v.ownBlock ∨ v'.ownBlock = some w.heap.size) → wpList Tryz.prog ops Q rest (a.put o.dst v') w') : wpList Tryz.prog ops Q (o :: rest) a w := by
  obtain ⟨i, z, hi, hz, hsz, hby, hzs⟩ := pk_info
  have hrec : Rec 4 w (fun b => B' ≤ b) xv (pkL l') := Rec.of_owns hr (pkL_len l').symm (pkL_k l') (by unfold maxLen; omega)
  have hnil : ∀ n c, xv = .slice none n c → c = 0 := by
    intro n c e
    obtain ⟨_, ⟨h, hn⟩ | ⟨g, cp, cur, hv, _⟩⟩ := hr
    · rw [h] at e; cases e; rfl
    · rw [hv] at e; cases e
  obtain ⟨sa, c, rfl, hc, hm⟩ := hrec.form
  rw [pkL_len] at *
  cases sa with
  | none =>
    have h0 := hnil _ _ rfl
    subst h0
    have e : l' = [] := List.eq_nil_of_length_eq_zero (by omega)
    subst e
    refine wpList_append_own_none hgd s x 96 ho B 93 i 4 Tryz.underlying96 hi v l.length (pkL l).flatten hs hown hx ?_
    exact h v w (by rw [List.append_nil]; exact hown) (Keep.refl _ _) (Or.inl rfl)
  | some ad =>
    have hfl := hrec.flat (by decide)
    have hl2 : (pkL l').flatten.length = l'.length * 4 := by rw [flatten_len _ (pkL_k l'), pkL_len]
    have hb : ∀ u ∈ (pkL l').flatten, u.oneCell' = true := by
      intro u hu
      simp only [List.mem_flatten, pkL, List.mem_map] at hu
      obtain ⟨_, ⟨p, hp, rfl⟩, hu⟩ := hu
      simp only [pkCells, List.mem_cons, List.not_mem_nil, or_false] at hu
      rcases hu with rfl | rfl | rfl | rfl
      · rfl
      · rfl
      · exact hone p hp
      · rfl
    refine wpList_append_own_at (P := Tryz.prog) (w := w) hgd s x 96 ho B 93 i z 4 56 Tryz.underlying96 hi hz hsz hby hzs (by decide) v l.length (pkL l).flatten hs hown ad l'.length c (pkL l').flatten hx hl2 hfl hb (by unfold maxLen; omega) (by omega) hW ?_
    intro v' w' h1 h2 _ h3
    exact h v' w' (by unfold PRow; rw [pkL_app, List.length_append]; exact h1) (keep_of_grown h2) h3

theorem sayL_snoc (rej : Pk → ByteArray) (C : NegC) (c : Came) : ∀ (l : List Int) (st : NSt) (a : Int), sayL rej C c st (l ++ [a]) = ((sayS rej C (sayL rej C c st l).1 a c).1, (sayL rej C c st l).2 ++ (sayS rej C (sayL rej C c st l).1 a c).2) := by
  intro l
  induction l with
  | nil => intro st a; simp [sayL]
  | cons x l ih => intro st a; simp only [List.cons_append, sayL, ih, List.append_assoc]
theorem sayS_len (rej : Pk → ByteArray) (C : NegC) (c : Came) (st : NSt) (a : Int) : (sayS rej C st a c).2.length ≤ 1 := by
  unfold sayS
  repeat' split
  all_goals simp
theorem sayL_len (rej : Pk → ByteArray) (C : NegC) (c : Came) : ∀ (l : List Int) (st : NSt), (sayL rej C c st l).2.length ≤ l.length := by
  intro l
  induction l with
  | nil => intro st; simp [sayL]
  | cons x l ih =>
    intro st
    have h1 := sayS_len rej C c st x
    have h2 := ih (sayS rej C st x c).1
    simp only [sayL, List.length_append, List.length_cons]
    omega

def SaySpec (rej : Pk → ByteArray) (B : NegB) (C : NegC) (ok : Nat → Prop) (c : Came) (po pa : Value) (a : Int) : Prop := ∀ w S st X, NegAt w S B C st X → CameAt w B ok c po pa →
  Calls Tryz.prog 227 #[.pointer (some ⟨B.nb, 0, none⟩), .int .i64 a, cameV c po pa] w fun e w' => SayPost w w' S ok B C (sayS rej C st a c) e

theorem say_most (rej : Pk → ByteArray) (B : NegB) (C : NegC) (ok : Nat → Prop) (c : Came) (po pa : Value) (a : Int) (h0 : 0 ≤ a) (h1 : a ≤ 12) (h8 : a ≠ 8) (h11 : a ≠ 11) : SaySpec rej B C ok c po pa a := by
  intro w S st X h hc
  have : a = 0 ∨ a = 1 ∨ a = 6 ∨ a = 7 ∨ a = 9 ∨ a = 10 ∨ (a = 2 ∨ a = 3 ∨ a = 4 ∨ a = 5 ∨ a = 12) := by omega
  rcases this with rfl | rfl | rfl | rfl | rfl | rfl | ha
  · exact say0 rej c po pa h
  · exact say1 rej c po pa h
  · exact say6 rej c po pa h
  · exact say7 rej c po pa h hc
  · exact say9 rej c po pa h
  · exact say10 rej c po pa h
  · exact sayX rej c po pa a ha h

section
variable (rej : Pk → ByteArray) {w : World} {S ok : Nat → Prop} {B : NegB} {C : NegC} {st : NSt} {X : NegX} (c : Came) (po pa : Value)

def ToldAt (w wr : World) (S ok : Nat → Prop) (B : NegB) (C : NegC) (v : Value) (r : NSt × List Pk) : Prop :=
  ∃ L X', L.map Prod.fst = r.2 ∧ PRow wr (w.heap.size + 1) v L ∧ POpts wr (fun b => ((ok b ∧ b < w.heap.size) ∨ w.heap.size ≤ b) ∧ v.ownBlock ≠ some b) L ∧ NegAt wr (fun b => Grow S w b ∧ v.ownBlock ≠ some b) B C r.1 X' ∧ Keep (fun b => b = B.nb) w wr

set_option maxHeartbeats 8000000 in
set_option maxRecDepth 100000 in
theorem told_at (xs : List Int) (lv : Value) (base : Nat) (hx : IntsAt 3 base w lv xs) (hbase : B.nb < base) (hlen : xs.length ≤ 20) (h : NegAt w S B C st X) (hc : CameAt w B ok c po pa)
    (hs : ∀ a ∈ xs, ∀ ok, SaySpec rej B C ok c po pa a) :
    Calls Tryz.prog 161 #[.pointer (some ⟨B.nb, 0, none⟩), lv, cameV c po pa] w fun e w' => SayPost w w' S ok B C (toldS rej C st xs c) e := by
  obtain ⟨a1, k1, rfl, hc1, hc2⟩ := hc.1.form
  obtain ⟨a2, k2, rfl, hc3, hc4⟩ := hc.2.1.form
  obtain ⟨la, lc, rfl, hlc, hlm, hat⟩ : ∃ la lc, lv = .slice la xs.length lc ∧ xs.length ≤ lc ∧ lc ≤ 20 ∧ ∀ k (hk : k < xs.length), ∃ b, la = some ⟨b, 0, none⟩ ∧ b ≠ B.nb ∧ b < w.heap.size ∧ w.cell? ⟨b, k, none⟩ = some (.int .i64 xs[k]) := by
    rcases hx with ⟨rfl, rfl⟩ | ⟨b, h1, rfl, h2⟩
    · exact ⟨none, 0, rfl, Nat.le_refl _, by omega, fun k hk => by cases hk⟩
    · exact ⟨_, _, rfl, Nat.le_refl _, hlen, fun k hk => ⟨b, rfl, by omega, (Array.getElem?_eq_some_iff.1 h2).1, cellOf h2 k _ (by simp [hk])⟩⟩
  obtain ⟨len, hln⟩ : ∃ len, len = xs.length := ⟨_, rfl⟩
  have HLN := Lib.hid hln
  have hb1 : Below w.heap.size w (w.alloc (.cells #[.bool c.is, .int .i64 c.p.code, .int .i64 c.p.id, (.slice a1 c.p.o.length k1), .string c.p.d, .int .i64 c.code, (.slice a2 c.ans.length k2)] 183 (0, 0))) := (Below.refl _ _).alloc (Nat.le_refl _) _
  have hz := at1 w (.cells #[.bool c.is, .int .i64 c.p.code, .int .i64 c.p.id, (.slice a1 c.p.o.length k1), .string c.p.d, .int .i64 c.code, (.slice a2 c.ans.length k2)] 183 (0, 0))
  have H := Lib.hid (And.intro hat (And.intro h (And.intro hc (And.intro hs (And.intro hb1 hz)))))
  have hnl := h.nlt
  unfold cameV
  rw [← hln] at hlc hlen ⊢
  clear hln hx hat h hc hs hb1 hz
  go_enter Tryz.func161, Tryz.ntmps161
  go_wp2_with fail
  go_loopg [7, 12] len (fun x r i wr => ∃ k : Nat, k ≤ len ∧ x = len - k ∧ i = .int .i64 k ∧ Hid (ToldAt w wr S ok B C r (sayL rej C c st (xs.take k)) ∧ wr.heap[w.heap.size]? = some (.cells #[.bool c.is, .int .i64 c.p.code, .int .i64 c.p.id, (.slice a1 c.p.o.length k1), .string c.p.d, .int .i64 c.code, (.slice a2 c.ans.length k2)] 183 (0, 0))))
  case atStart => exact ⟨0, by omega, by omega, rfl, ⟨[], X, rfl, PRow.nil _ _, fun _ h => (by cases h), (H.out.2.1.below H.out.2.2.2.2.1).mono (fun _ h => ⟨.inl h, fun h => (by cases h)⟩), Keep.of_below _ H.out.2.2.2.2.1⟩, H.out.2.2.2.2.2⟩
  case round =>
    obtain ⟨k, hk, rfl, rfl, hK⟩ := hrel
    obtain ⟨⟨L, X', hL, hrow, hpo, hneg, hkeep⟩, hz⟩ := hK.out
    have e0 : wr.cell? ⟨w.heap.size, 0, none⟩ = some _ := cellOf hz 0 _ rfl
    have e1 : wr.cell? ⟨w.heap.size, 1, none⟩ = some _ := cellOf hz 1 _ rfl
    have e2 : wr.cell? ⟨w.heap.size, 2, none⟩ = some _ := cellOf hz 2 _ rfl
    have e3 : wr.cell? ⟨w.heap.size, 3, none⟩ = some _ := cellOf hz 3 _ rfl
    have e4 : wr.cell? ⟨w.heap.size, 4, none⟩ = some _ := cellOf hz 4 _ rfl
    have e5 : wr.cell? ⟨w.heap.size, 5, none⟩ = some _ := cellOf hz 5 _ rfl
    have e6 : wr.cell? ⟨w.heap.size, 6, none⟩ = some _ := cellOf hz 6 _ rfl
    have hsw := hkeep.size
    have hsz := (Array.getElem?_eq_some_iff.1 hz).1
    have hll : L.length ≤ k := by
      have h1 := sayL_len rej C c (xs.take k) st
      have h2 := congrArg List.length hL
      rw [List.length_map] at h2
      rw [List.length_take] at h1
      omega
    have HR := Lib.hid (And.intro hL (And.intro hrow (And.intro hpo (And.intro hneg (And.intro hkeep hz)))))
    clear hK hL hrow hpo hneg hkeep hz
    have hln' := HLN.out
    by_cases hkl : k < len
    · have hkl' : k < xs.length := by omega
      clear hln'
      obtain ⟨b, rfl, hbn, hbw, c0⟩ := H.out.1 k hkl'
      have d0 : wr.cell? ⟨b, k, none⟩ = some (.int .i64 xs[k]) := by
        rw [← c0]; exact World.cell?_of_block (w := w) (HR.out.2.2.2.2.1.block b hbw hbn)
      have hca : CameAt wr B (fun b => ok b ∧ b < w.heap.size) c (.slice a1 c.p.o.length k1) (.slice a2 c.ans.length k2) := by
        obtain ⟨h1, h2, h3, h4⟩ := H.out.2.2.1
        have hn : ∀ b, b < w.heap.size → ok b → ¬ b = B.nb := fun b _ hb he => h3 b hb (.inl he)
        exact ⟨Rec.keep (Rec.old h1) HR.out.2.2.2.2.1 (fun b hb h => hn b hb h.1), Rec.keep (Rec.old h2) HR.out.2.2.2.2.1 (fun b hb h => hn b hb h.1), fun b hb => h3 b hb.1, h4⟩
      have hcall := H.out.2.2.2.1 xs[k] (List.getElem_mem hkl') (fun b => ok b ∧ b < w.heap.size) wr _ _ X' HR.out.2.2.2.1 hca
      unfold cameV at hcall
      have HT := Lib.hid (show sayL rej C c st (xs.take (k + 1)) = _ from by rw [List.take_succ_eq_append_getElem hkl', sayL_snoc])
      generalize sayL rej C c st (xs.take k) = rk at *
      generalize xs[k] = ak at *
      clear c0 hca
      go_wp2_with (first
        | (go_at_call 227; refine hcall.mono ?_; rintro e w5 ⟨v5, rfl, ⟨L5, hl5, hr5, ho5⟩, ⟨X5, hn5⟩, hk5⟩
           have hrow5 : PRow w5 (w.heap.size + 1) u7 L := HR.out.2.1.keep hk5 (fun q hq he => by have := (HR.out.2.1.lt q hq).2; omega)
           have hone5 : ∀ p ∈ L5, p.2.oneCell' = true := fun p hp => by obtain ⟨sa, sc, e, _, _⟩ := Opts.form (ho5 p hp); rw [e]; rfl
           have hll5 : L.length + L5.length ≤ 1000000 := by
             have h1 := congrArg List.length hl5
             rw [List.length_map] at h1
             have h2 := sayS_len rej C c rk.1 ak
             omega
           have hsz5 := hk5.size
           have hW5 : w.heap.size + 1 ≤ w5.heap.size := by omega
           have H5 := Lib.hid (And.intro hl5 (And.intro hr5 (And.intro ho5 (And.intro hn5 (And.intro hk5 hrow5)))))
           clear hl5 hr5 ho5 hn5 hk5 hrow5)
        | (at_builtin; refine wpl_append_pks rfl _ _ rfl _ L rfl H5.out.2.2.2.2.2 _ L5 rfl H5.out.2.1 hone5 hll5 hW5 ?_
           intro v6 w6 h6 k6 o6
           have H6 := Lib.hid (And.intro h6 (And.intro k6 o6))
           clear h6 k6 o6))
      go_roundg (len - (k + 1))
      case measure => omega
      case rel =>
        refine ⟨k + 1, by omega, rfl, by go_num, ?_, ?_⟩
        · rw [HT.out]
          have hq7 : ∀ q, u7.ownBlock = some q → w.heap.size + 1 ≤ q ∧ q < wr.heap.size := fun q hq => ⟨(HR.out.2.1.lt q hq).2, (HR.out.2.1.lt q hq).1⟩
          have ho6 : ∀ b, b < w5.heap.size → u7.ownBlock ≠ some b → v6.ownBlock ≠ some b := fun b hb hn he => by
            rcases H6.out.2.2 with h | h
            · rw [h] at he; exact hn he
            · rw [h] at he; cases he; omega
          refine ⟨L ++ L5, X5, ?_, H6.out.1, ?_, ?_, ?_⟩
          · rw [List.map_append, HR.out.1, H5.out.1]
          · intro p hp
            rcases List.mem_append.1 hp with hp | hp
            · have h1 : Opts wr _ p.2 p.1.o := Rec.old (HR.out.2.2.1 p hp)
              have h2 : Opts w5 _ p.2 p.1.o := Rec.keep h1 H5.out.2.2.2.2.1 (fun b _ hb he => by
                rcases hb.1.1 with h | h
                · exact H.out.2.2.1.2.2.1 b h.1 (.inl he)
                · omega)
              have h3 : Opts w6 _ p.2 p.1.o := Rec.keep h2 H6.out.2.1 (fun b _ hb he => hb.1.2 he)
              exact Rec.mono h3 (fun b hb => ⟨hb.1.1, ho6 b (by omega) hb.1.2⟩)
            · have h1 : Opts w5 _ p.2 p.1.o := Rec.old (H5.out.2.2.1 p hp)
              have hn : ∀ b, Grow (fun b => ok b ∧ b < w.heap.size) wr b → u7.ownBlock ≠ some b := fun b hb he => by
                have := hq7 b he
                rcases hb with h | h <;> omega
              have h3 : Opts w6 _ p.2 p.1.o := Rec.keep h1 H6.out.2.1 (fun b _ hb he => hn b hb.1 he)
              exact Rec.mono h3 (fun b hb => ⟨hb.1.imp id (fun h => by omega), ho6 b hb.2 (hn b hb.1)⟩)
          · have h1 := H5.out.2.2.2.1.old
            have hn : ∀ b, Grow (fun b => Grow S w b ∧ u7.ownBlock ≠ some b) wr b → u7.ownBlock ≠ some b := fun b hb he => by
              have := hq7 b he
              rcases hb with h | h
              · exact h.2 he
              · omega
            exact (h1.keep H6.out.2.1 (fun b _ hb he => hn b hb.1 he)).mono (fun b hb => ⟨hb.1.elim (fun h => h.1) (fun h => .inr (by omega)), ho6 b hb.2 (hn b hb.1)⟩)
          · have h1 := HR.out.2.2.2.2.1.trans H5.out.2.2.2.2.1
            exact h1.transM H6.out.2.1 (fun _ _ h => h) (fun b hb he => by have := hq7 b he; omega)
        · have hsz6 : w.heap.size < w5.heap.size := by omega
          exact (H6.out.2.1.block _ hsz6 (fun he => by
            have h1 := HR.out.2.1.lt _ he
            omega)).trans ((H5.out.2.2.2.2.1.block _ hsz (fun he => by omega)).trans HR.out.2.2.2.2.2)
    · clear hln'
      obtain rfl : len = k := by omega
      have htk : xs.take len = xs := by rw [HLN.out, List.take_length]
      rw [htk] at HR
      obtain ⟨ra, rc, hr⟩ := HR.out.2.1.form
      subst hr
      have hneg := HR.out.2.2.2.1
      have g0 : wr.cell? ⟨B.nb, 0, none⟩ = some (.pointer (some ⟨B.ab, 0, none⟩)) := hneg.cell 0
      have f14 := hneg.fz 14
      have g14 : wr.cell? ⟨B.nb, 14, none⟩ = some (.int .i64 _) := hneg.cell 14
      have HW := Lib.hid (waits_some B.ab _ _ _ _ wr hneg.aut hneg.ok.cf.1)
      have HN := Lib.hid (NegAt.setC (st' := { (sayL rej C c st xs).1 with ticks := 0 }) hneg 14 (.int .i64 0) rfl ⟨rfl, rfl, rfl, rfl, rfl⟩ hneg.id)
      have HT : Hid (toldS rej C st xs c = ((if waitsB (sayL rej C c st xs).1.s then (sayL rej C c st xs).1 else { (sayL rej C c st xs).1 with ticks := 0 }), (sayL rej C c st xs).2)) := Lib.hid rfl
      clear hneg
      generalize sayL rej C c st xs = rk at *
      generalize waitsB rk.1.s = wb at *
      cases wb with
      | true =>
        go_wp2_with (go_at_call 21; refine HW.out.mono ?_; rintro e w7 ⟨rfl, rfl⟩)
        go_ret
        rw [HT.out]
        exact ⟨_, rfl, ⟨L, HR.out.1, HR.out.2.1.base (by omega), HR.out.2.2.1.mono (fun b hb => hb.1.imp (fun h => h.1) id)⟩, ⟨X', HR.out.2.2.2.1.mono (fun b hb => hb.1)⟩, HR.out.2.2.2.2.1⟩
      | false =>
        go_wp2_with (go_at_call 21; refine HW.out.mono ?_; rintro e w7 ⟨rfl, rfl⟩)
        go_ret
        rw [HT.out]
        refine ⟨_, rfl, ⟨L, HR.out.1, (HR.out.2.1.keep (keepC B wr 14 (.int .i64 0)) (fun q hq he => by have := (HR.out.2.1.lt q hq).2; omega)).base (by omega), ?_⟩, ⟨X', HN.out.mono (fun b hb => hb.1)⟩, HR.out.2.2.2.2.1.trans (keepC B wr 14 (.int .i64 0))⟩
        exact POpts.mono (HR.out.2.2.1.keep (keepC B wr 14 (.int .i64 0)) (fun b _ hb he => by
          rcases hb.1 with h | h
          · exact H.out.2.2.1.2.2.1 b h.1 (.inl he)
          · omega)) (fun b hb => hb.1.imp (fun h => h.1) id)
end
end Go.Proofs.YtignponfoheaeaaGreat

namespace Go.Proofs.YtignponfoheaeaaGreat
open Go.RowKit Go.Tg Go.Maps

theorem lookup_all (P : Int × List Int → Prop) (l : List Row) (hl : ∀ r ∈ l, P r.2.2) (s e : Int) : ∀ y, lookupL l s e = some y → P y := by
  induction l with
  | nil => intro y h; cases h
  | cons r l ih =>
    intro y hy
    simp only [lookupL, List.foldr_cons, Tab.put] at hy
    split at hy
    · cases hy; exact hl r (by simp)
    · exact ih (fun r' h' => hl r' (by simp [h'])) y hy
theorem next_all (P : Int × List Int → Prop) (h1 : ∀ r ∈ answeredL, P r.2.2) (h2 : ∀ r ∈ calledL, P r.2.2) (s e : Int) : ∀ y, nextF s e = some y → P y := by
  intro y hf
  unfold nextF at hf
  cases ha : lookupL answeredL s e with
  | some y2 => rw [ha] at hf; simp at hf; subst hf; exact lookup_all P _ h1 s e _ ha
  | none => rw [ha] at hf; simp at hf; exact lookup_all P _ h2 s e _ hf
theorem nextS_bd (s e : Int) (hs : 0 ≤ s ∧ s ≤ 9) : 0 ≤ nextS s e ∧ nextS s e ≤ 9 := by
  unfold nextS
  cases hf : nextF s e with
  | none => exact hs
  | some y => exact next_all (fun y => 0 ≤ y.1 ∧ y.1 ≤ 9) (by decide) (by decide) s e y hf
theorem nextL_bd (s e : Int) : ∀ a ∈ nextL s e, 0 ≤ a ∧ a ≤ 12 := by
  unfold nextL
  cases hf : nextF s e with
  | none => intro a ha; cases ha
  | some y => exact next_all (fun y => ∀ a ∈ y.2, 0 ≤ a ∧ a ≤ 12) (by decide) (by decide) s e y hf
/-- Which events say neither 8 nor 11. -/
theorem nextL_no : ∀ e ∈ [0, 1, 2, 3, 4, 5, 6, 8, 9, 10, 11, 13, 14], ∀ s ∈ [0, 1, 2, 3, 4, 5, 6, 7, 8, 9], ∀ a ∈ nextL s e, a ≠ 8 ∧ a ≠ 11 := by decide

/-- What an action wants to be said. -/
def SayAll (rej : Pk → ByteArray) (B : NegB) (C : NegC) (c : Came) (po pa : Value) (xs : List Int) : Prop := ∀ a ∈ xs, ∀ ok, SaySpec rej B C ok c po pa a
theorem sayAll_next (rej : Pk → ByteArray) (B : NegB) (C : NegC) (c : Came) (po pa : Value) (s e : Int) (hs : 0 ≤ s ∧ s ≤ 9) (he : e ∈ [0, 1, 2, 3, 4, 5, 6, 8, 9, 10, 11, 13, 14]) : SayAll rej B C c po pa (nextL s e) := by
  intro a ha ok
  have h1 := nextL_bd s e a ha
  have h2 : s ∈ [0, 1, 2, 3, 4, 5, 6, 7, 8, 9] := by simp only [List.mem_cons, List.not_mem_nil, or_false]; omega
  have h3 := nextL_no e he s h2 a ha
  exact say_most rej B C ok c po pa a h1.1 h1.2 h3.1 h3.2

section
variable (rej : Pk → ByteArray) {w : World} {S ok : Nat → Prop} {B : NegB} {C : NegC} {st : NSt} {X : NegX} (c : Came) (po pa : Value)

def EvPost (w w' : World) (S ok : Nat → Prop) (B : NegB) (C : NegC) (r : NSt × List Pk) (e : Ending) : Prop :=
  ∃ v, e = .returned v ∧ PksAt w' (Grow ok w) w.heap.size v r.2 ∧ NegV w' (Grow S w) B C r.1 ∧ Keep B.t w w'

set_option maxHeartbeats 8000000 in
set_option maxRecDepth 100000 in
theorem ndo_at (ev : Int) (hev : (Lit.int .i64 ev).wf = true) (h : NegAt w S B C st X) (hc : CameAt w B ok c po pa) (hs : SayAll rej B C c po pa (nextL st.s ev)) :
    Calls Tryz.prog 159 #[.pointer (some ⟨B.nb, 0, none⟩), .int .i64 ev, cameV c po pa] w fun e w' => EvPost w w' S ok B C (evS rej C st ev c) e := by
  obtain ⟨a1, k1, rfl, hc1, hc2⟩ := hc.1.form
  obtain ⟨a2, k2, rfl, hc3, hc4⟩ := hc.2.1.form
  have hb1 : Below w.heap.size w (w.alloc (.cells #[.bool c.is, .int .i64 c.p.code, .int .i64 c.p.id, (.slice a1 c.p.o.length k1), .string c.p.d, .int .i64 c.code, (.slice a2 c.ans.length k2)] 183 (0, 0))) := (Below.refl _ _).alloc (Nat.le_refl _) _
  have hz := at1 w (.cells #[.bool c.is, .int .i64 c.p.code, .int .i64 c.p.id, (.slice a1 c.p.o.length k1), .string c.p.d, .int .i64 c.code, (.slice a2 c.ans.length k2)] 183 (0, 0))
  have hss : (Lit.int .i64 st.s).wf = true := by
    have := h.ss
    simp only [Lit.wf, IntKind.min, IntKind.max, IntKind.signed, IntKind.bits, Bool.and_eq_true, decide_eq_true_eq, if_true]
    omega
  have H := Lib.hid (And.intro (h.below hb1) (And.intro (hc.below hb1) (And.intro hs (And.intro hb1 hz))))
  have hne1 := h.ne1
  have hnl := h.nlt
  have hal := h.alt
  have HD := Lib.hid (do_any B.ab st.s st.c C.cf C.tm ev _ ((h.below hb1).below (Below.refl _ _).drew).aut h.ok.cf.1 h.ok.cf.2 h.ok.tm.1 h.ok.tm.2 h.ib hss hev)
  have hid := h.ss
  have HI := Lib.hid (doC_bd (nextL st.s ev) (show InB C.cf from ⟨by have := h.ok.cf; omega, h.ok.cf.2⟩) (show InB C.tm from ⟨by have := h.ok.tm; omega, h.ok.tm.2⟩) (nextL st.s ev) st.c h.ib)
  have g0 : (w.alloc (.cells #[.bool c.is, .int .i64 c.p.code, .int .i64 c.p.id, (.slice a1 c.p.o.length k1), .string c.p.d, .int .i64 c.code, (.slice a2 c.ans.length k2)] 183 (0, 0))).cell? ⟨B.nb, 0, none⟩ = some (.pointer (some ⟨B.ab, 0, none⟩)) := (h.below hb1).cell 0
  have HS : Hid (∀ W : World, W.heap[w.heap.size]? = some (.cells #[.bool c.is, .int .i64 c.p.code, .int .i64 c.p.id, (.slice a1 c.p.o.length k1), .string c.p.d, .int .i64 c.code, (.slice a2 c.ans.length k2)] 183 (0, 0)) → W.cell? ⟨B.nb, 0, none⟩ = some (.pointer (some ⟨B.ab, 0, none⟩)) → W.cell? ⟨B.nb, 0, none⟩ = some (.pointer (some ⟨B.ab, 0, none⟩)) ∧ W.cell? ⟨w.heap.size, 0, none⟩ = some (.bool c.is) ∧ W.cell? ⟨w.heap.size, 1, none⟩ = some (.int .i64 c.p.code) ∧ W.cell? ⟨w.heap.size, 2, none⟩ = some (.int .i64 c.p.id) ∧
      W.cell? ⟨w.heap.size, 3, none⟩ = some (.slice a1 c.p.o.length k1) ∧ W.cell? ⟨w.heap.size, 4, none⟩ = some (.string c.p.d) ∧ W.cell? ⟨w.heap.size, 5, none⟩ = some (.int .i64 c.code) ∧ W.cell? ⟨w.heap.size, 6, none⟩ = some (.slice a2 c.ans.length k2)) := Lib.hid fun W hz hg =>
    ⟨hg, cellOf hz 0 _ rfl, cellOf hz 1 _ rfl, cellOf hz 2 _ rfl, cellOf hz 3 _ rfl, cellOf hz 4 _ rfl, cellOf hz 5 _ rfl, cellOf hz 6 _ rfl⟩
  have HG := Lib.hid g0
  obtain ⟨-, e0, e1, e2, e3, e4, e5, e6⟩ := HS.out _ hz g0
  unfold cameV
  clear h hc hs hb1 hz
  go_enter Tryz.func159, Tryz.ntmps159
  go_wp2_with fail
  go_region_held3 (fun W => W.cell? ⟨B.nb, 0, none⟩ = some (.pointer (some ⟨B.ab, 0, none⟩)) ∧ W.cell? ⟨w.heap.size, 0, none⟩ = some (.bool c.is) ∧ W.cell? ⟨w.heap.size, 1, none⟩ = some (.int .i64 c.p.code) ∧ W.cell? ⟨w.heap.size, 2, none⟩ = some (.int .i64 c.p.id) ∧
      W.cell? ⟨w.heap.size, 3, none⟩ = some (.slice a1 c.p.o.length k1) ∧ W.cell? ⟨w.heap.size, 4, none⟩ = some (.string c.p.d) ∧ W.cell? ⟨w.heap.size, 5, none⟩ = some (.int .i64 c.code) ∧ W.cell? ⟨w.heap.size, 6, none⟩ = some (.slice a2 c.ans.length k2))
    (first
      | exact HS.out _ H3.out.2.1 H3.out.2.2
      | exact HS.out _ H2.out.2.2.1 H2.out.2.2.2.1
      | go_keep)
    (first
      | (go_at_call 17; refine HD.out.mono ?_; rintro e w2 ⟨v2, rfl, hi2, ha2, hk2⟩
         have hz2 := (hk2.block w.heap.size (show w.heap.size < (w.alloc (.cells #[.bool c.is, .int .i64 c.p.code, .int .i64 c.p.id, (.slice a1 c.p.o.length k1), .string c.p.d, .int .i64 c.code, (.slice a2 c.ans.length k2)] 183 (0, 0))).heap.size by rw [alloc1]; omega) (by omega)).trans H.out.2.2.2.2
         have hn2 := NegAt.auto (H.out.1.below (Below.refl _ _).drew) hk2 _ _ ha2 HI.out (nextS_bd _ _ hid)
         have hg2 : w2.cell? ⟨B.nb, 0, none⟩ = some (.pointer (some ⟨B.ab, 0, none⟩)) := hn2.cell 0
         have hc2 := (H.out.2.1.below (Below.refl _ _).drew).keep hk2 (fun b hb => Or.inr (Or.inl hb))
         have hto := told_at rej c (.slice a1 c.p.o.length k1) (.slice a2 c.ans.length k2) (nextL st.s ev) v2 _ hi2 (show B.nb < (w.alloc (.cells #[.bool c.is, .int .i64 c.p.code, .int .i64 c.p.id, (.slice a1 c.p.o.length k1), .string c.p.d, .int .i64 c.code, (.slice a2 c.ans.length k2)] 183 (0, 0))).heap.size by rw [alloc1]; omega) (Nat.le_trans (nextL_le _ _) (by omega)) hn2 hc2 H.out.2.2.1
         unfold cameV at hto
         have H2 := Lib.hid (And.intro hn2 (And.intro hk2 (And.intro hz2 (And.intro hg2 hto))))
         have hsz2 : w.heap.size < w2.heap.size := (Array.getElem?_eq_some_iff.1 hz2).1
         clear hi2 ha2 hk2 hz2 hn2 hg2 hc2 hto)
      | (go_at_call 161; refine H2.out.2.2.2.2.mono ?_; rintro e w3 ⟨v3, rfl, hp3, ⟨X3, hn3⟩, hk3⟩
         have hz3 := (hk3.block w.heap.size hsz2 (by omega)).trans H2.out.2.2.1
         have hg3 : w3.cell? ⟨B.nb, 0, none⟩ = some (.pointer (some ⟨B.ab, 0, none⟩)) := hn3.cell 0
         have H3 := Lib.hid (And.intro (And.intro hp3 (And.intro hn3 hk3)) (And.intro hz3 hg3))
         clear hp3 hn3 hk3 hz3 hg3))
  go_wp2_with fail
  go_ret
  have hsz : (w.alloc (.cells #[.bool c.is, .int .i64 c.p.code, .int .i64 c.p.id, (.slice a1 c.p.o.length k1), .string c.p.d, .int .i64 c.code, (.slice a2 c.ans.length k2)] 183 (0, 0))).heap.size = w.heap.size + 1 := alloc1 _ _
  have hs2 := H2.out.2.1.size
  have hs1 : (w.alloc (.cells #[.bool c.is, .int .i64 c.p.code, .int .i64 c.p.id, (.slice a1 c.p.o.length k1), .string c.p.d, .int .i64 c.code, (.slice a2 c.ans.length k2)] 183 (0, 0))).drew.heap.size = w.heap.size + 1 := alloc1 _ _
  obtain ⟨L, h1, h2, h3⟩ := H3.out.1.1
  refine ⟨_, rfl, ⟨L, h1, h2.base (by omega), h3.mono (fun b hb => hb.imp id (fun h => by omega))⟩, ⟨_, H3.out.1.2.1.mono (fun b hb => hb.imp id (fun h => by omega))⟩, ?_⟩
  exact ((Keep.of_below B.t H.out.2.2.2.1).drew.trans (H2.out.2.1.mono (fun b _ hb => Or.inr (Or.inl hb)))).trans (H3.out.1.2.2.mono (fun b _ hb => Or.inl hb))
end
end Go.Proofs.YtignponfoheaeaaGreat

namespace Go.Proofs.YtignponfoheaeaaGreat
open Go.RowKit Go.Tg Go.Maps

section
variable (rej : Pk → ByteArray) {w : World} {S ok : Nat → Prop} {B : NegB} {C : NegC} {st : NSt} {X : NegX} (c : Came) (po pa : Value)

theorem EvPost.none' {w w' : World} {S ok : Nat → Prop} {B : NegB} {C : NegC} {st : NSt} (h : NegV w' (Grow S w) B C st) (hk : Keep B.t w w') : EvPost w w' S ok B C (st, []) (.returned (.slice none 0 0)) := ⟨_, rfl, PksAt.nil _ _ _, h, hk⟩
theorem noCame_at (w : World) (B : NegB) : CameAt w B (fun _ => False) noCame (.slice none 0 0) (.slice none 0 0) := ⟨Rec.nil _ _ _, Rec.nil _ _ _, fun _ h => h.elim, Nat.zero_le _, Nat.zero_le _⟩
theorem EvPost.okm {w w' : World} {S ok ok' : Nat → Prop} {B : NegB} {C : NegC} {r : NSt × List Pk} {e : Ending} (h : EvPost w w' S ok B C r e) (ho : ∀ b, ok b → ok' b) : EvPost w w' S ok' B C r e := by
  obtain ⟨v, he, ⟨L, h1, h2, h3⟩, h4⟩ := h
  exact ⟨v, he, ⟨L, h1, h2, h3.mono (fun b hb => hb.imp (ho b) id)⟩, h4⟩

set_option maxHeartbeats 4000000 in
theorem Do_at (ev : Int) (hev : 0 ≤ ev ∧ ev ≤ 3) (h : NegAt w S B C st X) :
    Calls Tryz.prog 43 #[.pointer (some ⟨B.nb, 0, none⟩), .int .i64 ev] w fun e w' => EvPost w w' S (fun _ => False) B C (evS rej C st ev noCame) e := by
  have hev' : ev = 0 ∨ ev = 1 ∨ ev = 2 ∨ ev = 3 := by omega
  have hw : (Lit.int .i64 ev).wf = true := by rcases hev' with rfl | rfl | rfl | rfl <;> decide
  have hm : ev ∈ [(0 : Int), 1, 2, 3, 4, 5, 6, 8, 9, 10, 11, 13, 14] := by rcases hev' with rfl | rfl | rfl | rfl <;> decide
  have H := Lib.hid (And.intro h (ndo_at rej noCame _ _ ev hw h (noCame_at w B) (sayAll_next rej B C noCame _ _ st.s ev h.ss hm)))
  unfold cameV noCame noB at H
  have d1 : decide (ev < 0) = false := by simp; omega
  have d2 : decide (3 < ev) = false := by simp; omega
  clear h hev hev' hw hm
  go_enter Tryz.func43, Tryz.ntmps43
  go_wp2_with (first
    | (go_at_call 158; refine (nnone_at H.out.1).mono ?_; rintro e w1 ⟨rfl, rfl⟩)
    | (go_at_call 159; refine H.out.2.mono ?_; rintro e w1 ⟨v, rfl, h1⟩))
  go_ret
  exact ⟨_, rfl, h1⟩

set_option maxHeartbeats 4000000 in
theorem Event_at (p : Pk) (po : Value) (ev : Int) (hw : (Lit.int .i64 ev).wf = true) (h : NegAt w S B C st X) (ho : Opts w ok po p.o) (hok : ∀ b, ok b → ¬ B.t b) (hlen : p.o.length ≤ 1000000) (hs : ∀ pa, SayAll rej B C ⟨true, p, 0, []⟩ po pa (nextL st.s ev)) :
    Calls Tryz.prog 169 #[.pointer (some ⟨B.nb, 0, none⟩), .int .i64 ev, pkV p po] w fun e w' => EvPost w w' S ok B C (evS rej C st ev ⟨true, p, 0, []⟩) e := by
  obtain ⟨a1, k1, rfl, hc1, hc2⟩ := ho.form
  have hb1 : Below w.heap.size w (w.alloc (.cells #[.int .i64 p.code, .int .i64 p.id, (.slice a1 p.o.length k1), .string p.d] 93 (0, 0))) := (Below.refl _ _).alloc (Nat.le_refl _) _
  have H := Lib.hid (And.intro (h.below hb1) (And.intro hb1 (ndo_at (ok := ok) rej ⟨true, p, 0, []⟩ (.slice a1 p.o.length k1) (.slice none 0 0) ev hw (h.below hb1) ⟨ho.below hb1, Rec.nil _ _ _, hok, hlen, Nat.zero_le _⟩ (hs _))))
  unfold cameV at H
  unfold pkV
  clear h ho hok hb1 hs
  go_enter Tryz.func169, Tryz.ntmps169
  go_wp2_with (first
    | (go_at_call 158; refine (nnone_at H.out.1).mono ?_; rintro e w1 ⟨rfl, rfl⟩)
    | (go_at_call 159; refine H.out.2.2.mono ?_; rintro e w1 ⟨v, rfl, h1⟩))
  go_ret
  obtain ⟨⟨L, h2, h3, h4⟩, ⟨X', h5⟩, h6⟩ := h1
  have hsz : (w.alloc (.cells #[.int .i64 p.code, .int .i64 p.id, (.slice a1 p.o.length k1), .string p.d] 93 (0, 0))).heap.size = w.heap.size + 1 := alloc1 _ _
  exact ⟨_, rfl, ⟨L, h2, h3.base (by omega), h4.mono (fun b hb => hb.imp id (fun h => by omega))⟩, ⟨X', h5.mono (fun b hb => hb.imp id (fun h => by omega))⟩, (Keep.of_below _ H.out.2.1).trans h6⟩

set_option maxHeartbeats 4000000 in
theorem State_at (h : NegAt w S B C st X) :
    Calls Tryz.prog 56 #[.pointer (some ⟨B.nb, 0, none⟩)] w fun e w' => e = .returned (.int .i64 st.s) ∧ w = w' := by
  have g0 : w.cell? ⟨B.nb, 0, none⟩ = some (.pointer (some ⟨B.ab, 0, none⟩)) := h.cell 0
  have H := Lib.hid (And.intro h (state_some B.ab st.s st.c C.cf C.tm w h.aut h.ok.cf.1))
  clear h
  go_enter Tryz.func56, Tryz.ntmps56
  go_wp2_with (first
    | (go_at_call 158; refine (nnone_at H.out.1).mono ?_; rintro e w1 ⟨rfl, rfl⟩)
    | (go_at_call 19; refine H.out.2.mono ?_; rintro e w1 ⟨rfl, rfl⟩))
  go_ret
  exact ⟨rfl, rfl⟩

set_option maxHeartbeats 4000000 in
theorem Mine_at (h : NegAt w S B C st X) :
    Calls Tryz.prog 52 #[.pointer (some ⟨B.nb, 0, none⟩)] w fun e w' => ∃ v, e = .returned v ∧ ORow w' w.heap.size v (if st.s = 9 then st.mine else []) ∧ Below w.heap.size w w' := by
  have g0 : w.cell? ⟨B.nb, 15, none⟩ = some X.mine := h.cell 15
  have H := Lib.hid (And.intro (State_at h) (clone_any st.mine X.mine (B.r S) w h.mine h.lm))
  clear h
  by_cases hs : st.s = 9
  · go_enter Tryz.func52, Tryz.ntmps52
    go_wp2_with (first
      | (go_at_call 56; refine H.out.1.mono ?_; rintro e w1 ⟨rfl, rfl⟩)
      | (go_at_call 165; refine H.out.2.mono ?_; rintro e w1 ⟨v, rfl, hr, hb⟩; have HR := Lib.hid (And.intro hr hb); clear hr hb))
    go_ret
    exact ⟨_, rfl, HR.out⟩
  · go_enter Tryz.func52, Tryz.ntmps52
    go_wp2_with (first
      | (go_at_call 56; refine H.out.1.mono ?_; rintro e w1 ⟨rfl, rfl⟩))
    go_ret
    exact ⟨_, rfl, ORow.nil _ _, Below.refl _ _⟩

set_option maxHeartbeats 4000000 in
theorem Theirs_at (h : NegAt w S B C st X) :
    Calls Tryz.prog 53 #[.pointer (some ⟨B.nb, 0, none⟩)] w fun e w' => ∃ v, e = .returned v ∧ ORow w' w.heap.size v (if st.s = 9 then st.theirs else []) ∧ Below w.heap.size w w' := by
  have g0 : w.cell? ⟨B.nb, 16, none⟩ = some X.theirs := h.cell 16
  have H := Lib.hid (And.intro (State_at h) (clone_any st.theirs X.theirs (B.r S) w h.theirs h.lt))
  clear h
  by_cases hs : st.s = 9
  · go_enter Tryz.func53, Tryz.ntmps53
    go_wp2_with (first
      | (go_at_call 56; refine H.out.1.mono ?_; rintro e w1 ⟨rfl, rfl⟩)
      | (go_at_call 165; refine H.out.2.mono ?_; rintro e w1 ⟨v, rfl, hr, hb⟩; have HR := Lib.hid (And.intro hr hb); clear hr hb))
    go_ret
    exact ⟨_, rfl, HR.out⟩
  · go_enter Tryz.func53, Tryz.ntmps53
    go_wp2_with (first
      | (go_at_call 56; refine H.out.1.mono ?_; rintro e w1 ⟨rfl, rfl⟩))
    go_ret
    exact ⟨_, rfl, ORow.nil _ _, Below.refl _ _⟩
end
end Go.Proofs.YtignponfoheaeaaGreat

namespace Go.Proofs.YtignponfoheaeaaGreat
open Go.RowKit Go.Tg Go.Maps

theorem neqO (a b : Int) (s t : ByteArray) (w : World) : (binOp .neq 91 (.agg #[.int .i64 a, .string s]) (.agg #[.int .i64 b, .string t])).run Tryz.prog w = .ok (.bool (!(decide (a = b) && decide (s = t)))) w := by
  have u3 := Tryz.underlying3
  have a3 := Tryz.isAgg3
  have z3 := Tryz.sizeOf3
  have u9 := Tryz.underlying9
  have a9 := Tryz.isAgg9
  have z9 := Tryz.sizeOf9
  have hS : Tryz.prog.underlying 91 = some (.struct (Tryz.prog.fieldsOf 91)) := by kernel_rfl
  have hp : Tryz.prog.stoodInHeld 91 = false := by kernel_rfl
  rw [run_neq_struct, show (10000 : Nat) = 9999 + 1 from rfl, run_equalIn_agg w 9999 91 _ _ hS hp]
  simp only [Program.fieldsOf, Tryz.underlying91]
  go_simp
  by_cases h1 : a = b <;> by_cases h2 : s = t <;> simp [h1, h2]
  intro h
  rw [ByteArray.toList_eq, ByteArray.toList_eq] at h
  exact h2 (ByteArray.ext (Array.ext' h))

set_option maxHeartbeats 4000000 in
set_option maxRecDepth 100000 in
theorem equal_any (l l' : List Opt) (lv lv' : Value) (ok ok' : Nat → Prop) (w : World) (hl : Opts w ok lv l) (hl' : Opts w ok' lv' l') (hm : l.length ≤ 1000000) :
    Calls Tryz.prog 259 #[lv, lv'] w fun e w' => ∃ b, e = .returned (.bool b) ∧ (b = true ↔ l = l') ∧ Below w.heap.size w w' := by
  obtain ⟨sa, c, rfl, hc, hcm⟩ := hl.form
  obtain ⟨sb, d, rfl, hd, hdm⟩ := hl'.form
  by_cases hlen : l.length = l'.length
  · obtain ⟨len, hln⟩ : ∃ len, len = l.length := ⟨_, rfl⟩
    have HLN := Lib.hid (And.intro hln hlen)
    have H := Lib.hid (And.intro hl hl')
    rw [← hlen] at hd ⊢
    rw [← hln] at hc hm hd ⊢
    unfold maxLen at hcm hdm
    clear hln hlen hl hl'
    go_enter Tryz.func259, Tryz.ntmps259
    go_wp2_with fail
    go_loopg [13] len (fun x i wr => ∃ k : Nat, k ≤ len ∧ x = len - k ∧ i = .int .i64 k ∧ Hid (l.take k = l'.take k ∧ Below w.heap.size w wr))
    case atStart => exact ⟨0, by omega, by omega, rfl, rfl, Below.refl _ _⟩
    case round =>
      obtain ⟨k, hk, rfl, rfl, hK⟩ := hrel
      have HK := Lib.hid hK.out
      clear hK
      by_cases hkl : k < len
      · have h1 : k < l.length := by have := HLN.out; omega
        have h2 : k < l'.length := by have := HLN.out; omega
        obtain ⟨b, off, rfl, hb, -, -, -, -, c0, c1⟩ := H.out.1.at k h1
        obtain ⟨b', off', rfl, hb', -, -, -, -, c0', c1'⟩ := H.out.2.at k h2
        have d0 : wr.cell? ⟨b, off + k * 2, none⟩ = _ := (HK.out.2.cell (p := ⟨b, off + k * 2, none⟩) hb).trans c0
        have d1 : wr.cell? ⟨b, off + k * 2 + 1, none⟩ = _ := (HK.out.2.cell (p := ⟨b, off + k * 2 + 1, none⟩) hb).trans c1
        have d2 : wr.cell? ⟨b', off' + k * 2, none⟩ = _ := (HK.out.2.cell (p := ⟨b', off' + k * 2, none⟩) hb').trans c0'
        have d3 : wr.cell? ⟨b', off' + k * 2 + 1, none⟩ = _ := (HK.out.2.cell (p := ⟨b', off' + k * 2 + 1, none⟩) hb').trans c1'
        have HT := Lib.hid (show l.take (k + 1) = l.take k ++ [l[k]] ∧ l'.take (k + 1) = l'.take k ++ [l'[k]] from ⟨List.take_succ_eq_append_getElem h1, List.take_succ_eq_append_getElem h2⟩)
        have HNE := Lib.hid (show l[k] ≠ l'[k] → l ≠ l' from fun hn he => hn (by subst he; rfl))
        clear c0 c1 c0' c1'
        generalize l[k] = o at *
        generalize l'[k] = o' at *
        obtain ⟨t, v⟩ := o
        obtain ⟨t', v'⟩ := o'
        simp only at d0 d1 d2 d3
        by_cases he : t = t' ∧ v = v'
        · obtain ⟨rfl, rfl⟩ := he
          have hn : ∀ w, (binOp .neq 91 (.agg #[.int .i64 t, .string v]) (.agg #[.int .i64 t, .string v])).run Tryz.prog w = .ok (.bool false) w := fun w => by rw [neqO]; simp
          go_wp2_with fail
          go_quiet (fail)
          go_wp2_with fail
          go_roundg (len - (k + 1))
          case measure => omega
          case rel => exact ⟨k + 1, by omega, rfl, by go_num, by rw [HT.out.1, HT.out.2, HK.out.1], ⟨HK.out.2.os, HK.out.2.tape, HK.out.2.output, HK.out.2.size, HK.out.2.block⟩⟩
        · have hn : ∀ w, (binOp .neq 91 (.agg #[.int .i64 t, .string v]) (.agg #[.int .i64 t', .string v'])).run Tryz.prog w = .ok (.bool true) w := fun w => by
            rw [neqO]
            by_cases h1 : t = t'
            · have h2 : ¬ v = v' := fun h => he ⟨h1, h⟩
              simp [h1, h2]
            · simp [h1]
          have HE := Lib.hid (HNE.out (fun h => he (by cases h; exact ⟨rfl, rfl⟩)))
          clear he
          go_wp2_with fail
          go_quiet (fail)
          go_wp2_with fail
          go_ret
          exact ⟨false, rfl, by simp [HE.out], ⟨HK.out.2.os, HK.out.2.tape, HK.out.2.output, HK.out.2.size, HK.out.2.block⟩⟩
      · obtain rfl : len = k := by omega
        go_wp2_with fail
        go_ret
        have h1 := HK.out.1
        rw [HLN.out.1, List.take_length, HLN.out.2, List.take_length] at h1
        exact ⟨true, rfl, by simp [h1], HK.out.2⟩
  · have HE := Lib.hid (show l ≠ l' from fun h => hlen (by rw [h]))
    obtain ⟨n1, h1⟩ : ∃ n, n = l.length := ⟨_, rfl⟩
    obtain ⟨n2, h2⟩ : ∃ n, n = l'.length := ⟨_, rfl⟩
    rw [← h1] at hc hm ⊢
    rw [← h2] at hd ⊢
    rw [← h1, ← h2] at hlen
    have hz : ¬ ((n1 : Int) = (n2 : Int)) := by omega
    clear h1 h2 hlen hl hl'
    go_enter Tryz.func259, Tryz.ntmps259
    go_wp2_with fail
    go_ret
    exact ⟨false, rfl, by simp [HE.out], Below.refl _ _⟩

set_option maxHeartbeats 4000000 in
theorem same_any (l l' : List Opt) (lv lv' : Value) (ok ok' : Nat → Prop) (w : World) (hl : Opts w ok lv l) (hl' : Opts w ok' lv' l') (hm : l.length ≤ 1000000) :
    Calls Tryz.prog 235 #[lv, lv'] w fun e w' => ∃ b, e = .returned (.bool b) ∧ (b = true ↔ l = l') ∧ Below w.heap.size w w' := by
  have H := Lib.hid (equal_any l l' lv lv' ok ok' w hl hl' hm)
  clear hl hl' hm
  go_enter Tryz.func235, Tryz.ntmps235
  go_wp2_with fail
  refine H.out.mono ?_
  rintro e w1 ⟨b, rfl, h1, h2⟩
  have H2 := Lib.hid (And.intro h1 h2)
  clear h1 h2
  go_wp2_with fail
  go_ret
  exact ⟨b, rfl, H2.out⟩
end Go.Proofs.YtignponfoheaeaaGreat

namespace Go.Proofs.YtignponfoheaeaaGreat
open Go.RowKit Go.Tg Go.Maps

theorem Opts.bd {w : World} {ok : Nat → Prop} {v : Value} {l : List Opt} (h : Opts w ok v l) : l.length ≤ maxLen := by
  have := Rec.max h
  rwa [optL_len] at this

set_option maxHeartbeats 4000000 in
set_option maxRecDepth 100000 in
/-- The judge that NewBy makes of its own. -/
theorem ownJ_any (l : List Opt) (lv : Value) (ok : Nat → Prop) {w : World} {S : Nat → Prop} {B : NegB} {C : NegC} {st : NSt} {X : NegX} (h : NegAt w S B C st X) (jb : Nat) (hj : JAt w jb B.nb) (hl : Opts w ok lv l) (hmax : l.length ≤ 1000000)
    (hwf : ∀ o ∈ l, I64 o.t) (hv : ∀ o ∈ l, o.v.size ≤ 100000) :
    Calls Tryz.prog 226 #[lv, .pointer (some ⟨jb, 0, none⟩)] w fun e w' => ∃ v, e = .returned (.tuple #[.int .i64 (judgeS C.peer l).1, v]) ∧ ORow w' w.heap.size v (judgeS C.peer l).2 ∧ Below w.heap.size w w' := by
  have c0 : w.cell? ⟨jb, 0, none⟩ = some (.pointer (some ⟨B.nb, 0, none⟩)) := cellOf hj 0 _ rfl
  have c1 : w.cell? ⟨B.nb, 3, none⟩ = some X.peer := h.cell 3
  have H := Lib.hid (judge_any C.peer X.peer (B.r S) l lv ok w h.peer (by have := h.ok.peer; omega) hl hmax hwf hv)
  obtain ⟨sa, sc, rfl, -, -⟩ := hl.form
  obtain ⟨sp, spc, hsp, -, -⟩ := Rls.form' h.peer
  rw [hsp] at c1 H
  clear h hj hl hwf hv hsp
  go_enter Tryz.func226, Tryz.ntmps226
  go_wp2_with fail
  refine H.out.mono ?_
  rintro e w1 ⟨v, rfl, hr, hb⟩
  have HR := Lib.hid (And.intro hr hb)
  clear hr hb
  go_wp2_with fail
  go_ret2
  exact ⟨_, rfl, HR.out⟩

/-- What a negotiation asks of its judge: the answer 'J' to the options l. -/
def JudgeOk (g : Nat) (bs : Array Value) (w : World) (ok : Nat → Prop) (l : List Opt) (lv : Value) (J : Int × List Opt) : Prop :=
  (∀ args w, (callFunc g args).run Tryz.prog w = .ok (.enter g args) w) ∧
  ∀ W, Below w.heap.size w W → Opts W ok lv l → Calls Tryz.prog g (#[lv] ++ bs) W fun e w' => ∃ v, e = .returned (.tuple #[.int .i64 J.1, v]) ∧ ORow w' W.heap.size v J.2 ∧ Below W.heap.size W w'

section
variable (rej : Pk → ByteArray) {w : World} {S ok : Nat → Prop} {B : NegB} {C : NegC} {st : NSt} {X : NegX}

/-- A request is taken. -/
def reqS (rej : Pk → ByteArray) (C : NegC) (st : NSt) (p : Pk) (J : Int × List Opt) : NSt × List Pk :=
  if J.1 = 2 then evS rej C { st with naks := 0 } 6 ⟨true, p, J.1, J.2⟩ else evS rej C st 7 ⟨true, p, J.1, J.2⟩

set_option maxHeartbeats 8000000 in
set_option maxRecDepth 100000 in
theorem requested_at (p : Pk) (po : Value) (J : Int × List Opt) (g : Nat) (bs : Array Value) (hj : C.judge = .func (.func g) #[] bs) (hJ : JudgeOk g bs w ok p.o po J) (hJl : J.2.length ≤ 1000000) (h : NegAt w S B C st X) (ho : Opts w ok po p.o)
    (hok : ∀ b, ok b → ¬ B.t b) (hlen : p.o.length ≤ 1000000) (hs : J.1 ≠ 2 → ∀ pa, SayAll rej B C ⟨true, p, J.1, J.2⟩ po pa (nextL st.s 7)) :
    Calls Tryz.prog 167 #[.pointer (some ⟨B.nb, 0, none⟩), pkV p po] w fun e w' => EvPost w w' S ok B C (reqS rej C st p J) e := by
  obtain ⟨j1, j2⟩ := J
  simp only at hJl hs
  obtain ⟨a1, k1, rfl, hc1, hc2⟩ := ho.form
  have hb1 : Below w.heap.size w (w.alloc (.cells #[.int .i64 p.code, .int .i64 p.id, (.slice a1 p.o.length k1), .string p.d] 93 (0, 0))) := (Below.refl _ _).alloc (Nat.le_refl _) _
  have hz := at1 w (.cells #[.int .i64 p.code, .int .i64 p.id, (.slice a1 p.o.length k1), .string p.d] 93 (0, 0))
  have hlt : w.heap.size < (w.alloc (.cells #[.int .i64 p.code, .int .i64 p.id, (.slice a1 p.o.length k1), .string p.d] 93 (0, 0))).heap.size := by rw [alloc1]; omega
  have h1 := h.below hb1
  have j0 : (w.alloc (.cells #[.int .i64 p.code, .int .i64 p.id, (.slice a1 p.o.length k1), .string p.d] 93 (0, 0))).cell? ⟨B.nb, 9, none⟩ = some (.func (.func g) #[] bs) := by rw [← hj]; exact h1.cell 9
  have eg := hJ.1
  have HS : Hid (∀ W, Below (w.alloc (.cells #[.int .i64 p.code, .int .i64 p.id, (.slice a1 p.o.length k1), .string p.d] 93 (0, 0))).heap.size (w.alloc (.cells #[.int .i64 p.code, .int .i64 p.id, (.slice a1 p.o.length k1), .string p.d] 93 (0, 0))) W → W.cell? ⟨B.nb, 9, none⟩ = some (.func (.func g) #[] bs) ∧ W.cell? ⟨w.heap.size, 0, none⟩ = some (.int .i64 p.code) ∧ W.cell? ⟨w.heap.size, 1, none⟩ = some (.int .i64 p.id) ∧ W.cell? ⟨w.heap.size, 2, none⟩ = some (.slice a1 p.o.length k1) ∧ W.cell? ⟨w.heap.size, 3, none⟩ = some (.string p.d)) := Lib.hid fun W hW =>
    ⟨by rw [hW.cell h1.nlt]; exact j0, cellOf ((hW.block _ hlt).trans hz) 0 _ rfl, cellOf ((hW.block _ hlt).trans hz) 1 _ rfl, cellOf ((hW.block _ hlt).trans hz) 2 _ rfl, cellOf ((hW.block _ hlt).trans hz) 3 _ rfl⟩
  have H := Lib.hid (And.intro h (And.intro h1 (And.intro ho (And.intro hb1 (And.intro hok hs)))))
  have HJ := Lib.hid (hJ.2 (w.alloc (.cells #[.int .i64 p.code, .int .i64 p.id, (.slice a1 p.o.length k1), .string p.d] 93 (0, 0))).drew hb1.drew (ho.below hb1.drew))
  obtain ⟨g0, g1, g2, g3, g4⟩ := HS.out _ (Below.refl _ _)
  unfold pkV
  clear hj hJ h ho hok hs hb1 hz h1 j0
  go_enter Tryz.func167, Tryz.ntmps167
  go_wp2_with fail
  go_region_held3 (fun W => W.cell? ⟨B.nb, 9, none⟩ = some (.func (.func g) #[] bs) ∧ W.cell? ⟨w.heap.size, 0, none⟩ = some (.int .i64 p.code) ∧ W.cell? ⟨w.heap.size, 1, none⟩ = some (.int .i64 p.id) ∧ W.cell? ⟨w.heap.size, 2, none⟩ = some (.slice a1 p.o.length k1) ∧ W.cell? ⟨w.heap.size, 3, none⟩ = some (.string p.d))
    (first
      | exact HS.out _ H2.out.2
      | go_keep)
    (first
      | (go_simp; go_at_fn g; refine HJ.out.mono ?_; rintro e w2 ⟨v2, rfl, hr2, hb2⟩; obtain ⟨a2, k2, rfl⟩ := hr2.form; have H2 := Lib.hid (And.intro hr2 (show Below (w.alloc (.cells #[.int .i64 p.code, .int .i64 p.id, (.slice a1 p.o.length k1), .string p.d] 93 (0, 0))).heap.size (w.alloc (.cells #[.int .i64 p.code, .int .i64 p.id, (.slice a1 p.o.length k1), .string p.d] 93 (0, 0))) w2 from Below.trans (Below.refl _ _).drew hb2)); clear hr2 hb2)
      | (go_at_fn g; refine HJ.out.mono ?_; rintro e w2 ⟨v2, rfl, hr2, hb2⟩; obtain ⟨a2, k2, rfl⟩ := hr2.form; have H2 := Lib.hid (And.intro hr2 (show Below (w.alloc (.cells #[.int .i64 p.code, .int .i64 p.id, (.slice a1 p.o.length k1), .string p.d] 93 (0, 0))).heap.size (w.alloc (.cells #[.int .i64 p.code, .int .i64 p.id, (.slice a1 p.o.length k1), .string p.d] 93 (0, 0))) w2 from Below.trans (Below.refl _ _).drew hb2)); clear hr2 hb2))
  obtain ⟨y0, y1, y2, y3, y4⟩ := HS.out _ H2.out.2
  have hs1 : (w.alloc (.cells #[.int .i64 p.code, .int .i64 p.id, (.slice a1 p.o.length k1), .string p.d] 93 (0, 0))).heap.size = w.heap.size + 1 := alloc1 _ _
  have hs2 := H2.out.2.size
  have hb3 : Below w2.heap.size w2 (w2.alloc (.cells #[.bool true, .int .i64 p.code, .int .i64 p.id, (.slice a1 p.o.length k1), .string p.d, .int .i64 j1, (.slice a2 j2.length k2)] 183 (0, 0))) := (Below.refl _ _).alloc (Nat.le_refl _) _
  have hn3 := (H.out.2.1.below H2.out.2).below hb3
  have hz3 := at1 w2 (.cells #[.bool true, .int .i64 p.code, .int .i64 p.id, (.slice a1 p.o.length k1), .string p.d, .int .i64 j1, (.slice a2 j2.length k2)] 183 (0, 0))
  have hs3 : (w2.alloc (.cells #[.bool true, .int .i64 p.code, .int .i64 p.id, (.slice a1 p.o.length k1), .string p.d, .int .i64 j1, (.slice a2 j2.length k2)] 183 (0, 0))).heap.size = w2.heap.size + 1 := alloc1 _ _
  have hnl := H.out.1.nlt
  have hw3 : Below w.heap.size w (w2.alloc (.cells #[.bool true, .int .i64 p.code, .int .i64 p.id, (.slice a1 p.o.length k1), .string p.d, .int .i64 j1, (.slice a2 j2.length k2)] 183 (0, 0))) := H.out.2.2.2.1.trans ((H2.out.2.mono (by omega)).trans (hb3.mono (by omega)))
  have hc3 : CameAt (w2.alloc (.cells #[.bool true, .int .i64 p.code, .int .i64 p.id, (.slice a1 p.o.length k1), .string p.d, .int .i64 j1, (.slice a2 j2.length k2)] 183 (0, 0))) B (Grow ok w) ⟨true, p, j1, j2⟩ (.slice a1 p.o.length k1) (.slice a2 j2.length k2) :=
    ⟨Rec.mono (Opts.below H.out.2.2.1 hw3) (fun b hb => .inl hb), Rec.mono (Opts.below (H2.out.1.opts (by unfold maxLen; omega)) hb3) (fun b hb => .inr (by have h1 : (w.alloc (.cells #[.int .i64 p.code, .int .i64 p.id, (.slice a1 p.o.length k1), .string p.d] 93 (0, 0))).drew.heap.size ≤ b := hb; have h2 : (w.alloc (.cells #[.int .i64 p.code, .int .i64 p.id, (.slice a1 p.o.length k1), .string p.d] 93 (0, 0))).drew.heap.size = w.heap.size + 1 := hs1; omega)),
      fun b hb ht => hb.elim (fun h => H.out.2.2.2.2.1 b h ht) (fun h => by have := H.out.1.tlt ht; omega), hlen, hJl⟩
  have H3 := Lib.hid (And.intro hn3 (And.intro hw3 (And.intro hc3 hz3)))
  clear hb3 hn3 hz3 hw3 hc3
  by_cases hq : j1 = 2
  · have HQ := Lib.hid (show reqS rej C st p (j1, j2) = evS rej C { st with naks := 0 } 6 ⟨true, p, j1, j2⟩ from by unfold reqS; exact if_pos hq)
    have f13 := H3.out.1.fz 13
    have g13 : (w2.alloc (.cells #[.bool true, .int .i64 p.code, .int .i64 p.id, (.slice a1 p.o.length k1), .string p.d, .int .i64 j1, (.slice a2 j2.length k2)] 183 (0, 0))).cell? ⟨B.nb, 13, none⟩ = some (.int .i64 st.naks) := H3.out.1.cell 13
    have hn4 := NegAt.setC (st' := { st with naks := 0 }) H3.out.1 13 (.int .i64 0) rfl ⟨rfl, rfl, rfl, rfl, rfl⟩ H3.out.1.id
    have hk4 := keepC B (w2.alloc (.cells #[.bool true, .int .i64 p.code, .int .i64 p.id, (.slice a1 p.o.length k1), .string p.d, .int .i64 j1, (.slice a2 j2.length k2)] 183 (0, 0))) 13 (.int .i64 0)
    have hz4 := (hk4.block w2.heap.size (by omega) (by omega)).trans H3.out.2.2.2
    have z0 : ((w2.alloc (.cells #[.bool true, .int .i64 p.code, .int .i64 p.id, (.slice a1 p.o.length k1), .string p.d, .int .i64 j1, (.slice a2 j2.length k2)] 183 (0, 0))).setCell ⟨B.nb, 13, none⟩ (.int .i64 0)).cell? ⟨w2.heap.size, 0, none⟩ = some _ := cellOf hz4 0 _ rfl
    have z1 : ((w2.alloc (.cells #[.bool true, .int .i64 p.code, .int .i64 p.id, (.slice a1 p.o.length k1), .string p.d, .int .i64 j1, (.slice a2 j2.length k2)] 183 (0, 0))).setCell ⟨B.nb, 13, none⟩ (.int .i64 0)).cell? ⟨w2.heap.size, 1, none⟩ = some _ := cellOf hz4 1 _ rfl
    have z2 : ((w2.alloc (.cells #[.bool true, .int .i64 p.code, .int .i64 p.id, (.slice a1 p.o.length k1), .string p.d, .int .i64 j1, (.slice a2 j2.length k2)] 183 (0, 0))).setCell ⟨B.nb, 13, none⟩ (.int .i64 0)).cell? ⟨w2.heap.size, 2, none⟩ = some _ := cellOf hz4 2 _ rfl
    have z3 : ((w2.alloc (.cells #[.bool true, .int .i64 p.code, .int .i64 p.id, (.slice a1 p.o.length k1), .string p.d, .int .i64 j1, (.slice a2 j2.length k2)] 183 (0, 0))).setCell ⟨B.nb, 13, none⟩ (.int .i64 0)).cell? ⟨w2.heap.size, 3, none⟩ = some _ := cellOf hz4 3 _ rfl
    have z4 : ((w2.alloc (.cells #[.bool true, .int .i64 p.code, .int .i64 p.id, (.slice a1 p.o.length k1), .string p.d, .int .i64 j1, (.slice a2 j2.length k2)] 183 (0, 0))).setCell ⟨B.nb, 13, none⟩ (.int .i64 0)).cell? ⟨w2.heap.size, 4, none⟩ = some _ := cellOf hz4 4 _ rfl
    have z5 : ((w2.alloc (.cells #[.bool true, .int .i64 p.code, .int .i64 p.id, (.slice a1 p.o.length k1), .string p.d, .int .i64 j1, (.slice a2 j2.length k2)] 183 (0, 0))).setCell ⟨B.nb, 13, none⟩ (.int .i64 0)).cell? ⟨w2.heap.size, 5, none⟩ = some _ := cellOf hz4 5 _ rfl
    have z6 : ((w2.alloc (.cells #[.bool true, .int .i64 p.code, .int .i64 p.id, (.slice a1 p.o.length k1), .string p.d, .int .i64 j1, (.slice a2 j2.length k2)] 183 (0, 0))).setCell ⟨B.nb, 13, none⟩ (.int .i64 0)).cell? ⟨w2.heap.size, 6, none⟩ = some _ := cellOf hz4 6 _ rfl
    have HE := Lib.hid (And.intro (ndo_at rej ⟨true, p, j1, j2⟩ _ _ 6 (by decide) hn4 (H3.out.2.2.1.keep hk4 (fun b hb => .inl hb)) (sayAll_next rej B C _ _ _ _ 6 hn4.ss (by decide))) hk4)
    unfold cameV at HE
    clear hn4 hk4 hz4
    subst hq
    go_wp2_with fail
    refine HE.out.1.mono ?_
    rintro e w5 ⟨v5, rfl, ⟨L, l1, l2, l3⟩, ⟨X5, n5⟩, k5⟩
    have H5 := Lib.hid (And.intro l1 (And.intro l2 (And.intro l3 (And.intro n5 k5))))
    clear l1 l2 l3 n5 k5
    go_wp2_with fail
    go_ret
    have hs4 := HE.out.2.size
    rw [HQ.out]
    refine ⟨_, rfl, ⟨L, H5.out.1, H5.out.2.1.base (by omega), H5.out.2.2.1.mono (fun b hb => hb.elim id (fun h => .inr (by omega)))⟩, ⟨X5, H5.out.2.2.2.1.mono (fun b hb => hb.imp id (fun h => by omega))⟩, ?_⟩
    exact ((Keep.of_below B.t H3.out.2.1).trans (HE.out.2.mono (fun b _ hb => Or.inl hb))).trans H5.out.2.2.2.2
  · have HQ := Lib.hid (show reqS rej C st p (j1, j2) = evS rej C st 7 ⟨true, p, j1, j2⟩ from by unfold reqS; exact if_neg hq)
    have z0 : (w2.alloc (.cells #[.bool true, .int .i64 p.code, .int .i64 p.id, (.slice a1 p.o.length k1), .string p.d, .int .i64 j1, (.slice a2 j2.length k2)] 183 (0, 0))).cell? ⟨w2.heap.size, 0, none⟩ = some _ := cellOf H3.out.2.2.2 0 _ rfl
    have z1 : (w2.alloc (.cells #[.bool true, .int .i64 p.code, .int .i64 p.id, (.slice a1 p.o.length k1), .string p.d, .int .i64 j1, (.slice a2 j2.length k2)] 183 (0, 0))).cell? ⟨w2.heap.size, 1, none⟩ = some _ := cellOf H3.out.2.2.2 1 _ rfl
    have z2 : (w2.alloc (.cells #[.bool true, .int .i64 p.code, .int .i64 p.id, (.slice a1 p.o.length k1), .string p.d, .int .i64 j1, (.slice a2 j2.length k2)] 183 (0, 0))).cell? ⟨w2.heap.size, 2, none⟩ = some _ := cellOf H3.out.2.2.2 2 _ rfl
    have z3 : (w2.alloc (.cells #[.bool true, .int .i64 p.code, .int .i64 p.id, (.slice a1 p.o.length k1), .string p.d, .int .i64 j1, (.slice a2 j2.length k2)] 183 (0, 0))).cell? ⟨w2.heap.size, 3, none⟩ = some _ := cellOf H3.out.2.2.2 3 _ rfl
    have z4 : (w2.alloc (.cells #[.bool true, .int .i64 p.code, .int .i64 p.id, (.slice a1 p.o.length k1), .string p.d, .int .i64 j1, (.slice a2 j2.length k2)] 183 (0, 0))).cell? ⟨w2.heap.size, 4, none⟩ = some _ := cellOf H3.out.2.2.2 4 _ rfl
    have z5 : (w2.alloc (.cells #[.bool true, .int .i64 p.code, .int .i64 p.id, (.slice a1 p.o.length k1), .string p.d, .int .i64 j1, (.slice a2 j2.length k2)] 183 (0, 0))).cell? ⟨w2.heap.size, 5, none⟩ = some _ := cellOf H3.out.2.2.2 5 _ rfl
    have z6 : (w2.alloc (.cells #[.bool true, .int .i64 p.code, .int .i64 p.id, (.slice a1 p.o.length k1), .string p.d, .int .i64 j1, (.slice a2 j2.length k2)] 183 (0, 0))).cell? ⟨w2.heap.size, 6, none⟩ = some _ := cellOf H3.out.2.2.2 6 _ rfl
    have HE := Lib.hid (ndo_at rej ⟨true, p, j1, j2⟩ _ _ 7 (by decide) H3.out.1 H3.out.2.2.1 (H.out.2.2.2.2.2 hq _))
    unfold cameV at HE
    go_wp2_with fail
    refine HE.out.mono ?_
    rintro e w5 ⟨v5, rfl, ⟨L, l1, l2, l3⟩, ⟨X5, n5⟩, k5⟩
    have H5 := Lib.hid (And.intro l1 (And.intro l2 (And.intro l3 (And.intro n5 k5))))
    clear l1 l2 l3 n5 k5
    go_wp2_with fail
    go_ret
    rw [HQ.out]
    refine ⟨_, rfl, ⟨L, H5.out.1, H5.out.2.1.base (by omega), H5.out.2.2.1.mono (fun b hb => hb.elim id (fun h => .inr (by omega)))⟩, ⟨X5, H5.out.2.2.2.1.mono (fun b hb => hb.imp id (fun h => by omega))⟩, ?_⟩
    exact (Keep.of_below B.t H3.out.2.1).trans H5.out.2.2.2.2
end
end Go.Proofs.YtignponfoheaeaaGreat

namespace Go.Proofs.YtignponfoheaeaaGreat
open Go.RowKit Go.Tg Go.Maps

instance : DecidableEq Opt := fun a b =>
  if h : a.t = b.t ∧ a.v = b.v then .isTrue (by obtain ⟨t, v⟩ := a; obtain ⟨t', v'⟩ := b; obtain ⟨h1, h2⟩ := h; simp only at h1 h2; subst h1 h2; rfl) else .isFalse (fun e => h (by subst e; exact ⟨rfl, rfl⟩))

/-- An ack is taken. -/
def ackS (rej : Pk → ByteArray) (C : NegC) (st : NSt) (p : Pk) : NSt × List Pk :=
  if p.id = st.asked then if p.o = st.req then evS rej C { st with mine := st.req } 8 ⟨true, p, 0, []⟩ else (st, []) else (st, [])

section
variable (rej : Pk → ByteArray) {w : World} {S ok : Nat → Prop} {B : NegB} {C : NegC} {st : NSt} {X : NegX}

set_option maxHeartbeats 8000000 in
set_option maxRecDepth 100000 in
theorem acked_at (p : Pk) (po : Value) (hcode : p.code = 2) (h : NegAt w S B C st X) (ho : Opts w ok po p.o) (hok : ∀ b, ok b → ¬ B.t b) (hlen : p.o.length ≤ 1000000) :
    Calls Tryz.prog 168 #[.pointer (some ⟨B.nb, 0, none⟩), pkV p po] w fun e w' => EvPost w w' S ok B C (ackS rej C st p) e := by
  obtain ⟨pc, pi, pl, pd⟩ := p
  simp only at hcode ho hlen
  subst hcode
  obtain ⟨a1, k1, rfl, hc1, hc2⟩ := ho.form
  have hb1 : Below w.heap.size w (w.alloc (.cells #[.int .i64 2, .int .i64 pi, (.slice a1 pl.length k1), .string pd] 93 (0, 0))) := (Below.refl _ _).alloc (Nat.le_refl _) _
  have hz := at1 w (.cells #[.int .i64 2, .int .i64 pi, (.slice a1 pl.length k1), .string pd] 93 (0, 0))
  have h1 := h.below hb1
  have g0 : (w.alloc (.cells #[.int .i64 2, .int .i64 pi, (.slice a1 pl.length k1), .string pd] 93 (0, 0))).cell? ⟨B.nb, 12, none⟩ = some (.int .u8 st.asked) := h1.cell 12
  have g1 : (w.alloc (.cells #[.int .i64 2, .int .i64 pi, (.slice a1 pl.length k1), .string pd] 93 (0, 0))).cell? ⟨w.heap.size, 1, none⟩ = some (.int .i64 pi) := cellOf hz 1 _ rfl
  have ew : wrap64 st.asked = st.asked := by have := h.ak; unfold wrap64; omega
  have H := Lib.hid (And.intro h (And.intro h1 (And.intro ho (And.intro hb1 (And.intro hok hz)))))
  unfold pkV
  clear h ho hok hb1 hz h1
  by_cases hid : pi = st.asked
  · subst hid
    have hq : ∀ n, Below (w.alloc (.cells #[.int .i64 2, .int .i64 st.asked, (.slice a1 pl.length k1), .string pd] 93 (0, 0))).heap.size (w.alloc (.cells #[.int .i64 2, .int .i64 st.asked, (.slice a1 pl.length k1), .string pd] 93 (0, 0))) ((w.alloc (.cells #[.int .i64 2, .int .i64 st.asked, (.slice a1 pl.length k1), .string pd] 93 (0, 0))).drewN n) := fun n => ⟨rfl, rfl, rfl, Nat.le_refl _, fun _ _ => rfl⟩
    have hlt : w.heap.size < (w.alloc (.cells #[.int .i64 2, .int .i64 st.asked, (.slice a1 pl.length k1), .string pd] 93 (0, 0))).heap.size := by rw [alloc1]; omega
    have hsz1 : (w.alloc (.cells #[.int .i64 2, .int .i64 st.asked, (.slice a1 pl.length k1), .string pd] 93 (0, 0))).heap.size = w.heap.size + 1 := alloc1 _ _
    have hbl := H.out.1.nlt
    obtain ⟨qa, qc, hrq⟩ := H.out.1.req.form
    have HS : Hid (∀ W, Below (w.alloc (.cells #[.int .i64 2, .int .i64 st.asked, (.slice a1 pl.length k1), .string pd] 93 (0, 0))).heap.size (w.alloc (.cells #[.int .i64 2, .int .i64 st.asked, (.slice a1 pl.length k1), .string pd] 93 (0, 0))) W → W.cell? ⟨B.nb, 10, none⟩ = some (.slice qa st.req.length qc) ∧ W.cell? ⟨w.heap.size, 0, none⟩ = some (.int .i64 2) ∧ W.cell? ⟨w.heap.size, 1, none⟩ = some (.int .i64 st.asked) ∧ W.cell? ⟨w.heap.size, 2, none⟩ = some (.slice a1 pl.length k1) ∧ W.cell? ⟨w.heap.size, 3, none⟩ = some (.string pd)) := Lib.hid fun W hW =>
      ⟨by rw [hW.cell H.out.2.1.nlt, ← hrq]; exact H.out.2.1.cell 10, cellOf ((hW.block _ hlt).trans H.out.2.2.2.2.2) 0 _ rfl, cellOf ((hW.block _ hlt).trans H.out.2.2.2.2.2) 1 _ rfl, cellOf ((hW.block _ hlt).trans H.out.2.2.2.2.2) 2 _ rfl, cellOf ((hW.block _ hlt).trans H.out.2.2.2.2.2) 3 _ rfl⟩
    have HSA := Lib.hid (fun W (hW : Below (w.alloc (.cells #[.int .i64 2, .int .i64 st.asked, (.slice a1 pl.length k1), .string pd] 93 (0, 0))).heap.size (w.alloc (.cells #[.int .i64 2, .int .i64 st.asked, (.slice a1 pl.length k1), .string pd] 93 (0, 0))) W) => same_any pl st.req (.slice a1 pl.length k1) X.req ok (fun b => 0 ≤ b) W (H.out.2.2.1.below (H.out.2.2.2.1.trans (hW.mono (by omega)))) ((H.out.2.1.req.below hW).opts (by have := H.out.1.lr; unfold maxLen; omega)) hlen)
    rw [hrq] at HSA
    obtain ⟨y0, y1, y2, y3, y4⟩ := HS.out _ (Below.refl _ _)
    go_enter Tryz.func168, Tryz.ntmps168
    go_wp2_with fail
    go_quiet (fail)
    go_wp2_with fail
    have hqq := hq nq
    go_region_held3 (fun W => W.cell? ⟨B.nb, 10, none⟩ = some (.slice qa st.req.length qc) ∧ W.cell? ⟨w.heap.size, 0, none⟩ = some (.int .i64 2) ∧ W.cell? ⟨w.heap.size, 1, none⟩ = some (.int .i64 st.asked) ∧ W.cell? ⟨w.heap.size, 2, none⟩ = some (.slice a1 pl.length k1) ∧ W.cell? ⟨w.heap.size, 3, none⟩ = some (.string pd))
      (first
        | exact HS.out _ H2.out.2
        | exact HS.out _ hqq.drew
        | go_keep)
      (first
        | (go_at_call 235; refine (HSA.out _ hqq.drew).mono ?_; rintro e w2 ⟨b, rfl, hb1, hb2⟩; have H2 := Lib.hid (And.intro hb1 (show Below (w.alloc (.cells #[.int .i64 2, .int .i64 st.asked, (.slice a1 pl.length k1), .string pd] 93 (0, 0))).heap.size (w.alloc (.cells #[.int .i64 2, .int .i64 st.asked, (.slice a1 pl.length k1), .string pd] 93 (0, 0))) w2 from Below.trans hqq.drew hb2)); clear hb1 hb2))
    have hs2 := H2.out.2.size
    have hbw := H.out.2.2.2.1.trans (H2.out.2.mono (show w.heap.size ≤ (w.alloc (.cells #[.int .i64 2, .int .i64 st.asked, (.slice a1 pl.length k1), .string pd] 93 (0, 0))).heap.size by omega))
    obtain ⟨x0, x1, x2, x3, x4⟩ := HS.out _ H2.out.2
    cases b with
    | false =>
      go_wp2_with fail
      go_ret
      have hne : ¬ pl = st.req := fun he => by have := H2.out.1.2 he; cases this
      have es : ackS rej C st ⟨2, st.asked, pl, pd⟩ = (st, []) := by unfold ackS; rw [if_pos rfl]; exact if_neg hne
      rw [es]
      exact EvPost.none' ⟨X, (H.out.1.below hbw).mono (fun b h => .inl h)⟩ (Keep.of_below _ hbw)
    | true =>
      have heq : pl = st.req := H2.out.1.1 rfl
      have HES := Lib.hid (show ackS rej C st ⟨2, st.asked, pl, pd⟩ = evS rej C { st with mine := st.req } 8 ⟨true, ⟨2, st.asked, pl, pd⟩, 0, []⟩ from by unfold ackS; rw [if_pos rfl]; exact if_pos heq)
      have HCL := Lib.hid (clone_any st.req X.req (fun b => 0 ≤ b) w2 ((H.out.2.1.req.below H2.out.2).opts (by have := H.out.1.lr; unfold maxLen; omega)) (by have := H.out.1.lr; omega))
      rw [hrq] at HCL
      clear heq
      go_wp2_with fail
      refine HCL.out.mono ?_
      rintro e w3 ⟨v3, rfl, hr3, hb3⟩
      obtain ⟨q3, k3, rfl⟩ := hr3.form
      have hn3 := (H.out.2.1.below H2.out.2).below hb3
      have f15 := hn3.fz 15
      have g15 : w3.cell? ⟨B.nb, 15, none⟩ = some X.mine := hn3.cell 15
      have hk4 := (Keep.of_below (fun b => b = B.nb) (hbw.trans (hb3.mono (by omega)))).trans (keepC B w3 15 (.slice q3 st.req.length k3))
      have hz4 := ((keepC B w3 15 (.slice q3 st.req.length k3)).block w.heap.size (by have := hb3.size; omega) (by omega)).trans ((hb3.block _ (by omega)).trans ((H2.out.2.block _ hlt).trans H.out.2.2.2.2.2))
      have u0 : (w3.setCell ⟨B.nb, 15, none⟩ (.slice q3 st.req.length k3)).cell? ⟨w.heap.size, 0, none⟩ = some _ := cellOf hz4 0 _ rfl
      have u1 : (w3.setCell ⟨B.nb, 15, none⟩ (.slice q3 st.req.length k3)).cell? ⟨w.heap.size, 1, none⟩ = some _ := cellOf hz4 1 _ rfl
      have u2 : (w3.setCell ⟨B.nb, 15, none⟩ (.slice q3 st.req.length k3)).cell? ⟨w.heap.size, 2, none⟩ = some _ := cellOf hz4 2 _ rfl
      have u3 : (w3.setCell ⟨B.nb, 15, none⟩ (.slice q3 st.req.length k3)).cell? ⟨w.heap.size, 3, none⟩ = some _ := cellOf hz4 3 _ rfl
      have hr4 : ORow (w3.setCell ⟨B.nb, 15, none⟩ (.slice q3 st.req.length k3)) w2.heap.size (.slice q3 st.req.length k3) st.req := hr3.keep (keepC B w3 15 _) (fun k hk he => by have := (hr3.lt k hk).2; omega)
      have ht : Opts (w3.setCell ⟨B.nb, 15, none⟩ (.slice q3 st.req.length k3)) (B.r (Grow S w)) (.slice q3 st.req.length k3) st.req := Rec.mono (hr4.opts (by have := H.out.1.lr; unfold maxLen; omega)) (fun b hb => ⟨.inr (by omega), fun ht => by have := H.out.1.tlt ht; omega⟩)
      have hblk : (w3.setCell ⟨B.nb, 15, none⟩ (.slice q3 st.req.length k3)).heap[B.nb]? = some (.cells (negCells B C { st with mine := st.req } { X with mine := .slice q3 st.req.length k3 }) 190 (0, 0)) := set_block hn3.blk 15 _
      have hn4 : NegAt _ (Grow S w) B C { st with mine := st.req } { X with mine := .slice q3 st.req.length k3 } :=
        NegAt.turn H.out.1 hk4 hblk ⟨rfl, rfl, rfl, rfl⟩ ⟨rfl, rfl, rfl⟩ H.out.1.id ht (H.out.1.theirs' hk4) (by have := H.out.1.lr; show st.req.length ≤ 1000000; omega) H.out.1.lt
      have HE := Lib.hid (And.intro (Event_at (ok := ok) rej ⟨2, st.asked, pl, pd⟩ (.slice a1 pl.length k1) 8 (by decide) hn4 (Rec.keep H.out.2.2.1 hk4 (fun b _ hb he => H.out.2.2.2.2.1 b hb (.inl he))) H.out.2.2.2.2.1 hlen (fun pa => sayAll_next rej B C _ _ _ _ 8 hn4.ss (by decide))) hk4)
      unfold pkV at HE
      clear hn3 hk4 hz4 hr4 ht hblk hn4 hr3 hb3
      go_wp2_with fail
      refine HE.out.1.mono ?_
      rintro e w5 ⟨v5, rfl, ⟨L, l1, l2, l3⟩, ⟨X5, n5⟩, k5⟩
      have H5 := Lib.hid (And.intro l1 (And.intro l2 (And.intro l3 (And.intro n5 k5))))
      clear l1 l2 l3 n5 k5
      go_wp2_with fail
      go_ret
      have hs4 := HE.out.2.size
      rw [HES.out]
      refine ⟨_, rfl, ⟨L, H5.out.1, H5.out.2.1.base (by omega), H5.out.2.2.1.mono (fun b hb => hb.imp id (fun h => by omega))⟩, ⟨X5, H5.out.2.2.2.1.mono (fun b hb => hb.elim id (fun h => .inr (by omega)))⟩, ?_⟩
      exact (HE.out.2.mono (fun b _ hb => Or.inl hb)).trans H5.out.2.2.2.2
  · have HID := Lib.hid hid
    go_enter Tryz.func168, Tryz.ntmps168
    go_wp2_with fail
    go_quiet (fail)
    go_wp2_with fail
    go_ret
    have es : ackS rej C st ⟨2, pi, pl, pd⟩ = (st, []) := by unfold ackS; exact if_neg HID.out
    rw [es]
    have hbq : Below w.heap.size w ((w.alloc (.cells #[.int .i64 2, .int .i64 pi, (.slice a1 pl.length k1), .string pd] 93 (0, 0))).drewN nq) := ⟨H.out.2.2.2.1.os, H.out.2.2.2.1.tape, H.out.2.2.2.1.output, H.out.2.2.2.1.size, H.out.2.2.2.1.block⟩
    exact EvPost.none' ⟨X, (H.out.1.below hbq).mono (fun b h => .inl h)⟩ (Keep.of_below _ hbq)
end
end Go.Proofs.YtignponfoheaeaaGreat

namespace Go.Proofs.YtignponfoheaeaaGreat
open Go.RowKit Go.Tg Go.Maps

section
variable (rej : Pk → ByteArray) {w : World} {S ok : Nat → Prop} {B : NegB} {C : NegC} {st : NSt} {X : NegX}

/-- From the world behind the packet's box back to the call's own. -/
theorem EvPost.of_box {w w1 w' : World} {S ok : Nat → Prop} {B : NegB} {C : NegC} {r : NSt × List Pk} {e : Ending} (h : EvPost w1 w' S ok B C r e) (hb : Below w.heap.size w w1) : EvPost w w' S ok B C r e := by
  obtain ⟨v, he, ⟨L, h2, h3, h4⟩, ⟨X', h5⟩, h6⟩ := h
  have hsz := hb.size
  exact ⟨v, he, ⟨L, h2, h3.base hsz, h4.mono (fun b hb => hb.imp id (fun h => Nat.le_trans hsz h))⟩, ⟨X', h5.mono (fun b hb => hb.imp id (fun h => Nat.le_trans hsz h))⟩, (Keep.of_below _ hb).trans h6⟩

set_option maxHeartbeats 4000000 in
set_option maxRecDepth 100000 in
theorem take1 (p : Pk) (po : Value) (hcode : p.code = 1) (J : Int × List Opt) (g : Nat) (bs : Array Value) (hj : C.judge = .func (.func g) #[] bs) (hJ : ∀ W, Below w.heap.size w W → JudgeOk g bs W ok p.o po J) (hJl : J.2.length ≤ 1000000) (h : NegAt w S B C st X) (ho : Opts w ok po p.o) (hok : ∀ b, ok b → ¬ B.t b) (hlen : p.o.length ≤ 1000000) (hs : J.1 ≠ 2 → ∀ pa, SayAll rej B C ⟨true, p, J.1, J.2⟩ po pa (nextL st.s 7)) :
    Calls Tryz.prog 49 #[.pointer (some ⟨B.nb, 0, none⟩), pkV p po] w fun e w' => EvPost w w' S ok B C (reqS rej C st p J) e := by
  obtain ⟨a1, k1, rfl, hc1, hc2⟩ := ho.form
  have hb1 : Below w.heap.size w (w.alloc (.cells #[.int .i64 p.code, .int .i64 p.id, (.slice a1 p.o.length k1), .string p.d] 93 (0, 0))) := (Below.refl _ _).alloc (Nat.le_refl _) _
  have HX := Lib.hid (And.intro (h.below hb1) hb1)
  have HC := Lib.hid (requested_at rej p _ J g bs hj (hJ _ hb1) hJl (h.below hb1) (ho.below hb1) hok hlen hs)
  unfold pkV at HC ⊢
  clear h ho hok hb1
  obtain ⟨pc, pi, pl, pd⟩ := p
  simp only at hcode
  subst hcode
  go_enter Tryz.func49, Tryz.ntmps49
  go_wp2_with (first
    | (go_at_call 158; refine (nnone_at HX.out.1).mono ?_; rintro e w1 ⟨rfl, rfl⟩)
    | (go_at_call 167; refine HC.out.mono ?_; rintro e w5 ⟨v5, rfl, h5⟩))
  go_ret
  exact EvPost.of_box ⟨_, rfl, h5⟩ HX.out.2

set_option maxHeartbeats 4000000 in
set_option maxRecDepth 100000 in
theorem take2 (p : Pk) (po : Value) (hcode : p.code = 2) (h : NegAt w S B C st X) (ho : Opts w ok po p.o) (hok : ∀ b, ok b → ¬ B.t b) (hlen : p.o.length ≤ 1000000) :
    Calls Tryz.prog 49 #[.pointer (some ⟨B.nb, 0, none⟩), pkV p po] w fun e w' => EvPost w w' S ok B C (ackS rej C st p) e := by
  obtain ⟨a1, k1, rfl, hc1, hc2⟩ := ho.form
  have hb1 : Below w.heap.size w (w.alloc (.cells #[.int .i64 p.code, .int .i64 p.id, (.slice a1 p.o.length k1), .string p.d] 93 (0, 0))) := (Below.refl _ _).alloc (Nat.le_refl _) _
  have HX := Lib.hid (And.intro (h.below hb1) hb1)
  have HC := Lib.hid (acked_at rej p _ hcode (h.below hb1) (ho.below hb1) hok hlen)
  unfold pkV at HC ⊢
  clear h ho hok hb1
  obtain ⟨pc, pi, pl, pd⟩ := p
  simp only at hcode
  subst hcode
  go_enter Tryz.func49, Tryz.ntmps49
  go_wp2_with (first
    | (go_at_call 158; refine (nnone_at HX.out.1).mono ?_; rintro e w1 ⟨rfl, rfl⟩)
    | (go_at_call 168; refine HC.out.mono ?_; rintro e w5 ⟨v5, rfl, h5⟩))
  go_ret
  exact EvPost.of_box ⟨_, rfl, h5⟩ HX.out.2

set_option maxHeartbeats 4000000 in
set_option maxRecDepth 100000 in
theorem take5 (p : Pk) (po : Value) (hcode : p.code = 5) (h : NegAt w S B C st X) (ho : Opts w ok po p.o) (hok : ∀ b, ok b → ¬ B.t b) (hlen : p.o.length ≤ 1000000) :
    Calls Tryz.prog 49 #[.pointer (some ⟨B.nb, 0, none⟩), pkV p po] w fun e w' => EvPost w w' S ok B C (evS rej C st 10 ⟨true, p, 0, []⟩) e := by
  obtain ⟨a1, k1, rfl, hc1, hc2⟩ := ho.form
  have hb1 : Below w.heap.size w (w.alloc (.cells #[.int .i64 p.code, .int .i64 p.id, (.slice a1 p.o.length k1), .string p.d] 93 (0, 0))) := (Below.refl _ _).alloc (Nat.le_refl _) _
  have HX := Lib.hid (And.intro (h.below hb1) hb1)
  have HC := Lib.hid (Event_at rej p _ 10 (by decide) (h.below hb1) (ho.below hb1) hok hlen (fun pa => sayAll_next rej B C _ _ _ _ 10 h.ss (by decide)))
  unfold pkV at HC ⊢
  clear h ho hok hb1
  obtain ⟨pc, pi, pl, pd⟩ := p
  simp only at hcode
  subst hcode
  go_enter Tryz.func49, Tryz.ntmps49
  go_wp2_with (first
    | (go_at_call 158; refine (nnone_at HX.out.1).mono ?_; rintro e w1 ⟨rfl, rfl⟩)
    | (go_at_call 169; refine HC.out.mono ?_; rintro e w5 ⟨v5, rfl, h5⟩))
  go_ret
  exact EvPost.of_box ⟨_, rfl, h5⟩ HX.out.2

set_option maxHeartbeats 4000000 in
set_option maxRecDepth 100000 in
theorem take6 (p : Pk) (po : Value) (hcode : p.code = 6) (h : NegAt w S B C st X) (ho : Opts w ok po p.o) (hok : ∀ b, ok b → ¬ B.t b) (hlen : p.o.length ≤ 1000000) :
    Calls Tryz.prog 49 #[.pointer (some ⟨B.nb, 0, none⟩), pkV p po] w fun e w' => EvPost w w' S ok B C (evS rej C st 11 ⟨true, p, 0, []⟩) e := by
  obtain ⟨a1, k1, rfl, hc1, hc2⟩ := ho.form
  have hb1 : Below w.heap.size w (w.alloc (.cells #[.int .i64 p.code, .int .i64 p.id, (.slice a1 p.o.length k1), .string p.d] 93 (0, 0))) := (Below.refl _ _).alloc (Nat.le_refl _) _
  have HX := Lib.hid (And.intro (h.below hb1) hb1)
  have HC := Lib.hid (Event_at rej p _ 11 (by decide) (h.below hb1) (ho.below hb1) hok hlen (fun pa => sayAll_next rej B C _ _ _ _ 11 h.ss (by decide)))
  unfold pkV at HC ⊢
  clear h ho hok hb1
  obtain ⟨pc, pi, pl, pd⟩ := p
  simp only at hcode
  subst hcode
  go_enter Tryz.func49, Tryz.ntmps49
  go_wp2_with (first
    | (go_at_call 158; refine (nnone_at HX.out.1).mono ?_; rintro e w1 ⟨rfl, rfl⟩)
    | (go_at_call 169; refine HC.out.mono ?_; rintro e w5 ⟨v5, rfl, h5⟩))
  go_ret
  exact EvPost.of_box ⟨_, rfl, h5⟩ HX.out.2

set_option maxHeartbeats 4000000 in
set_option maxRecDepth 100000 in
theorem takeU (p : Pk) (po : Value) (hcode : p.code < 1 ∨ 7 < p.code) (h : NegAt w S B C st X) (ho : Opts w ok po p.o) (hok : ∀ b, ok b → ¬ B.t b) (hlen : p.o.length ≤ 1000000) (hs : ∀ pa, SayAll rej B C ⟨true, p, 0, []⟩ po pa (nextL st.s 12)) :
    Calls Tryz.prog 49 #[.pointer (some ⟨B.nb, 0, none⟩), pkV p po] w fun e w' => EvPost w w' S ok B C (evS rej C st 12 ⟨true, p, 0, []⟩) e := by
  obtain ⟨a1, k1, rfl, hc1, hc2⟩ := ho.form
  have hb1 : Below w.heap.size w (w.alloc (.cells #[.int .i64 p.code, .int .i64 p.id, (.slice a1 p.o.length k1), .string p.d] 93 (0, 0))) := (Below.refl _ _).alloc (Nat.le_refl _) _
  have HX := Lib.hid (And.intro (h.below hb1) hb1)
  have HC := Lib.hid (Event_at rej p _ 12 (by decide) (h.below hb1) (ho.below hb1) hok hlen hs)
  unfold pkV at HC ⊢
  clear h ho hok hb1
  have d1 : ¬ (p.code = 1) := by omega
  have d2 : ¬ (p.code = 2) := by omega
  have d3 : ¬ (p.code = 3) := by omega
  have d4 : ¬ (p.code = 4) := by omega
  have d5 : ¬ (p.code = 5) := by omega
  have d6 : ¬ (p.code = 6) := by omega
  have d7 : ¬ (p.code = 7) := by omega
  clear hcode
  go_enter Tryz.func49, Tryz.ntmps49
  go_wp2_with (first
    | (go_at_call 158; refine (nnone_at HX.out.1).mono ?_; rintro e w1 ⟨rfl, rfl⟩)
    | (go_at_call 169; refine HC.out.mono ?_; rintro e w5 ⟨v5, rfl, h5⟩))
  go_ret
  exact EvPost.of_box ⟨_, rfl, h5⟩ HX.out.2
end
end Go.Proofs.YtignponfoheaeaaGreat

namespace Go.Proofs.YtignponfoheaeaaGreat
open Go.RowKit Go.Tg Go.Maps

/-- A negotiation with a judge of its own. -/
def NegP (w : World) (S : Nat → Prop) (B : NegB) (C : NegC) (st : NSt) (jb : Nat) : Prop := NegV w S B C st ∧ JAt w jb B.nb ∧ ¬ B.t jb ∧ S jb ∧ C.judge = ownJ jb
def EvP (w w' : World) (S ok : Nat → Prop) (B : NegB) (C : NegC) (jb : Nat) (r : NSt × List Pk) (e : Ending) : Prop :=
  ∃ v, e = .returned v ∧ PksAt w' (Grow ok w) w.heap.size v r.2 ∧ NegP w' (Grow S w) B C r.1 jb ∧ Keep B.t w w'

section
variable (rej : Pk → ByteArray) {w w' : World} {S ok : Nat → Prop} {B : NegB} {C : NegC} {st : NSt} {jb : Nat}

theorem JAt.lt {w : World} {jb nb : Nat} (h : JAt w jb nb) : jb < w.heap.size := (Array.getElem?_eq_some_iff.1 h).1
theorem NegP.keep {T : Nat → Prop} (h : NegP w S B C st jb) (hk : Keep T w w') (hT : ∀ b, b < w.heap.size → S b → ¬ T b) : NegP w' S B C st jb :=
  ⟨h.1.keep hk hT, (hk.block _ h.2.1.lt (hT _ h.2.1.lt h.2.2.2.1)).trans h.2.1, h.2.2⟩
theorem NegP.below (h : NegP w S B C st jb) (hb : Below w.heap.size w w') : NegP w' S B C st jb := h.keep (Keep.of_below (fun _ => False) hb) (fun _ _ _ h => h)
theorem NegP.mono {S' : Nat → Prop} (h : NegP w S B C st jb) (hS : ∀ b, S b → S' b) : NegP w S' B C st jb := ⟨h.1.mono hS, h.2.1, h.2.2.1, hS _ h.2.2.2.1, h.2.2.2.2⟩
theorem NegP.tlt (h : NegP w S B C st jb) {b : Nat} (hb : B.t b) : b < w.heap.size := by obtain ⟨⟨X, h⟩, _⟩ := h; exact h.tlt hb
theorem NegP.ts (h : NegP w S B C st jb) {b : Nat} (hb : B.t b) : S b := by
  obtain ⟨⟨X, h⟩, _⟩ := h
  rcases hb with rfl | rfl | rfl
  · exact h.s1
  · exact h.s2
  · exact h.s3
theorem EvPost.p {r : NSt × List Pk} {e : Ending} (hp : NegP w S B C st jb) (h : EvPost w w' S ok B C r e) : EvP w w' S ok B C jb r e := by
  obtain ⟨v, he, h1, h2, h3⟩ := h
  exact ⟨v, he, h1, ⟨h2, (h3.block _ hp.2.1.lt hp.2.2.1).trans hp.2.1, hp.2.2.1, .inl hp.2.2.2.1, hp.2.2.2.2⟩, h3⟩

theorem ownJ_ok (h : NegP w S B C st jb) (l : List Opt) (lv : Value) (hmax : l.length ≤ 1000000) (hwf : ∀ o ∈ l, I64 o.t) (hv : ∀ o ∈ l, o.v.size ≤ 100000) :
    ∀ W, Below w.heap.size w W → JudgeOk 226 #[.pointer (some ⟨jb, 0, none⟩)] W ok l lv (judgeS C.peer l) := by
  intro W hW
  refine ⟨enters_of Tryz.func226 (by kernel_rfl) rfl, fun W' hW' ho => ?_⟩
  have h2 := (h.below hW).below hW'
  obtain ⟨⟨X, h3⟩, h4, -⟩ := h2
  exact ownJ_any l lv ok h3 jb h4 ho hmax hwf hv

theorem DoP (ev : Int) (hev : 0 ≤ ev ∧ ev ≤ 3) (h : NegP w S B C st jb) :
    Calls Tryz.prog 43 #[.pointer (some ⟨B.nb, 0, none⟩), .int .i64 ev] w fun e w' => EvP w w' S (fun _ => False) B C jb (evS rej C st ev noCame) e := by
  obtain ⟨X, hX⟩ := h.1
  exact (Do_at rej ev hev hX).mono (fun e w' he => he.p h)
theorem StateP (h : NegP w S B C st jb) : Calls Tryz.prog 56 #[.pointer (some ⟨B.nb, 0, none⟩)] w fun e w' => e = .returned (.int .i64 st.s) ∧ w = w' := by
  obtain ⟨X, hX⟩ := h.1
  exact State_at hX
theorem MineP (h : NegP w S B C st jb) : Calls Tryz.prog 52 #[.pointer (some ⟨B.nb, 0, none⟩)] w fun e w' => ∃ v, e = .returned v ∧ ORow w' w.heap.size v (if st.s = 9 then st.mine else []) ∧ Below w.heap.size w w' := by
  obtain ⟨X, hX⟩ := h.1
  exact Mine_at hX
theorem TheirsP (h : NegP w S B C st jb) : Calls Tryz.prog 53 #[.pointer (some ⟨B.nb, 0, none⟩)] w fun e w' => ∃ v, e = .returned v ∧ ORow w' w.heap.size v (if st.s = 9 then st.theirs else []) ∧ Below w.heap.size w w' := by
  obtain ⟨X, hX⟩ := h.1
  exact Theirs_at hX
theorem judgeS_len (rs : List Rl) (l : List Opt) : (judgeS rs l).2.length ≤ l.length := by
  unfold judgeS answerS
  split
  · exact rejP_len _ _ _
  · split
    · simp only; exact nakP_len _ _ l
    · exact Nat.le_refl _
theorem take1P (p : Pk) (po : Value) (hcode : p.code = 1) (h : NegP w S B C st jb) (ho : Opts w ok po p.o) (hok : ∀ b, ok b → ¬ B.t b) (hlen : p.o.length ≤ 1000000) (hwf : ∀ o ∈ p.o, I64 o.t) (hv : ∀ o ∈ p.o, o.v.size ≤ 100000)
    (hs : (judgeS C.peer p.o).1 ≠ 2 → ∀ pa, SayAll rej B C ⟨true, p, (judgeS C.peer p.o).1, (judgeS C.peer p.o).2⟩ po pa (nextL st.s 7)) :
    Calls Tryz.prog 49 #[.pointer (some ⟨B.nb, 0, none⟩), pkV p po] w fun e w' => EvP w w' S ok B C jb (reqS rej C st p (judgeS C.peer p.o)) e := by
  obtain ⟨X, hX⟩ := h.1
  exact (take1 rej p po hcode _ _ _ h.2.2.2.2 (ownJ_ok h p.o po hlen hwf hv) (Nat.le_trans (judgeS_len _ _) hlen) hX ho hok hlen hs).mono (fun e w' he => he.p h)
theorem take2P (p : Pk) (po : Value) (hcode : p.code = 2) (h : NegP w S B C st jb) (ho : Opts w ok po p.o) (hok : ∀ b, ok b → ¬ B.t b) (hlen : p.o.length ≤ 1000000) :
    Calls Tryz.prog 49 #[.pointer (some ⟨B.nb, 0, none⟩), pkV p po] w fun e w' => EvP w w' S ok B C jb (ackS rej C st p) e := by
  obtain ⟨X, hX⟩ := h.1
  exact (take2 rej p po hcode hX ho hok hlen).mono (fun e w' he => he.p h)
theorem take5P (p : Pk) (po : Value) (hcode : p.code = 5) (h : NegP w S B C st jb) (ho : Opts w ok po p.o) (hok : ∀ b, ok b → ¬ B.t b) (hlen : p.o.length ≤ 1000000) :
    Calls Tryz.prog 49 #[.pointer (some ⟨B.nb, 0, none⟩), pkV p po] w fun e w' => EvP w w' S ok B C jb (evS rej C st 10 ⟨true, p, 0, []⟩) e := by
  obtain ⟨X, hX⟩ := h.1
  exact (take5 rej p po hcode hX ho hok hlen).mono (fun e w' he => he.p h)
theorem take6P (p : Pk) (po : Value) (hcode : p.code = 6) (h : NegP w S B C st jb) (ho : Opts w ok po p.o) (hok : ∀ b, ok b → ¬ B.t b) (hlen : p.o.length ≤ 1000000) :
    Calls Tryz.prog 49 #[.pointer (some ⟨B.nb, 0, none⟩), pkV p po] w fun e w' => EvP w w' S ok B C jb (evS rej C st 11 ⟨true, p, 0, []⟩) e := by
  obtain ⟨X, hX⟩ := h.1
  exact (take6 rej p po hcode hX ho hok hlen).mono (fun e w' he => he.p h)
theorem takeUP (p : Pk) (po : Value) (hcode : p.code < 1 ∨ 7 < p.code) (h : NegP w S B C st jb) (ho : Opts w ok po p.o) (hok : ∀ b, ok b → ¬ B.t b) (hlen : p.o.length ≤ 1000000) (hs : ∀ pa, SayAll rej B C ⟨true, p, 0, []⟩ po pa (nextL st.s 12)) :
    Calls Tryz.prog 49 #[.pointer (some ⟨B.nb, 0, none⟩), pkV p po] w fun e w' => EvP w w' S ok B C jb (evS rej C st 12 ⟨true, p, 0, []⟩) e := by
  obtain ⟨X, hX⟩ := h.1
  exact (takeU rej p po hcode hX ho hok hlen hs).mono (fun e w' he => he.p h)
end

/-- The rule of the laws. -/
def rule1 : Rl := ⟨1, 2, 64, 1492, ⟨#[5, 212]⟩⟩
set_option maxHeartbeats 400000 in
theorem rule_any (w : World) : Calls Tryz.prog 144 #[] w fun e w' => e = .returned (.agg #[.int .i64 1, .int .i64 2, .int .i64 64, .int .i64 1492, .string ⟨#[5, 212]⟩]) ∧ Below w.heap.size w w' := by
  go_enter Tryz.func144, Tryz.ntmps144
  go_wp2_with fail
  have hz := at1 w (.cells #[.int .i64 1, .int .i64 2, .int .i64 64, .int .i64 1492, .string ⟨#[5, 212]⟩] 64 (0, 0))
  have z0 := cellOf hz 0 _ rfl
  have z1 := cellOf hz 1 _ rfl
  have z2 := cellOf hz 2 _ rfl
  have z3 := cellOf hz 3 _ rfl
  have z4 := cellOf hz 4 _ rfl
  exact bodyPost_ret (v := .agg #[.int .i64 1, .int .i64 2, .int .i64 64, .int .i64 1492, .string ⟨#[5, 212]⟩]) (by simp [results, Tryz.results144, go_sem, z0, z1, z2, z3, z4]) rfl ⟨rfl, (Below.refl _ _).alloc (Nat.le_refl _) _⟩

/-- Rows of one. -/
theorem ORow.one {w : World} {g base : Nat} (o : Opt) (h : w.heap[g]? = some (.cells #[.int .i64 o.t, .string o.v] 91 (0, 0))) (hb : base ≤ g) : ORow w base (.slice (some ⟨g, 0, none⟩) 1 1) [o] :=
  ⟨rfl, Or.inr ⟨g, 1, _, rfl, hb, h, Nat.le_refl _, by unfold maxLen; omega, rfl, rfl⟩⟩
theorem RRow.one {w : World} {g base : Nat} (r : Rl) (h : w.heap[g]? = some (.cells #[.int .i64 r.t, .int .i64 r.len, .int .i64 r.min, .int .i64 r.max, .string r.s] 64 (0, 0))) (hb : base ≤ g) : RRow w base (.slice (some ⟨g, 0, none⟩) 1 1) [r] :=
  ⟨rfl, Or.inr ⟨g, 1, _, rfl, hb, h, Nat.le_refl _, by unfold maxLen; omega, rfl, rfl⟩⟩
end Go.Proofs.YtignponfoheaeaaGreat
