import Derived.Test.YtignponfoheaeaaGreatTab3
import Derived.Deep.QuietTactic
import Derived.BigQuiet
namespace Go.Proofs.YtignponfoheaeaaGreat
open Go.RowKit Go.Tg Go.Maps

def nextF : Tab := fun s e => (lookupL answeredL s e).or (lookupL calledL s e)
def nextS (s e : Int) : Int := match nextF s e with
  | some r => r.1
  | none => s
def nextL (s e : Int) : List Int := match nextF s e with
  | some r => r.2
  | none => []

set_option maxHeartbeats 400000 in
set_option maxRecDepth 100000 in
theorem table_any (w : World) : Calls Tryz.prog 66 #[] w fun e w' => ∃ b, e = .returned (.map (some b)) ∧ w.heap.size ≤ b ∧
    TableAt Tryz.prog 127 3 w.heap.size w' b nextF ∧ Below w.heap.size w w' := by
  go_enter Tryz.func66, Tryz.ntmps66
  go_wp2_with fail
  refine (called_any _).mono ?_
  rintro e w1 ⟨b1, rfl, hb1, ht1, hbl1⟩
  go_wp2_with fail
  refine (answered_any _).mono ?_
  rintro e w2 ⟨b2, rfl, hb2, ht2, hbl2⟩
  have hlt : b1 < w1.heap.size := by
    obtain ⟨_, _, h⟩ := ht1.map_block
    exact (Array.getElem?_eq_some_iff.1 h).1
  have ht1' := ht1.below hbl2
  have ht2' := ht2.mono hbl1.size
  have hne : b1 ≠ b2 := by omega
  go_wp2_with fail
  refine (copy_any w.heap.size b1 b2 _ _ _ hne ht1' ht2').mono ?_
  rintro e w3 ⟨rfl, ht3, hk3⟩
  go_wp2
  go_ret
  exact ⟨b1, rfl, hb1, ht3, (hbl1.trans (hbl2.mono hbl1.size)).trans (hk3.below (by have := hbl1.size; have := hbl2.size; omega) (by intro k hk; omega))⟩

set_option maxHeartbeats 400000 in
set_option maxRecDepth 100000 in
theorem next_any (s e : Int) (hs : (Lit.int .i64 s).wf = true) (he : (Lit.int .i64 e).wf = true) (w : World) : Calls Tryz.prog 9 #[.int .i64 s, .int .i64 e] w fun en w' => ∃ v, en = .returned (.tuple #[.int .i64 (nextS s e), v]) ∧
    IntsAt 3 w.heap.size w' v (nextL s e) ∧ Below w.heap.size w w' := by
  have HS := Lib.hid hs
  have HE := Lib.hid he
  clear hs he
  go_enter Tryz.func9, Tryz.ntmps9
  go_wp2_with fail
  refine (table_any _).mono ?_
  rintro en w1 ⟨b, rfl, hb, ⟨m, hm, h1, h2⟩, hbl⟩
  have H1 := Lib.hid h1
  have H2 := Lib.hid h2
  clear h1 h2
  have hkv := kv48 s e HS.out HE.out
  have HKV := Lib.hid hkv
  clear hkv
  have hz : ∀ w, (zeroValue 122).run Tryz.prog w = .ok (.agg #[.int .i64 0, .slice none 0 0]) w := tabT.zE
  cases hmk : m (keyV s e) with
  | none =>
    have hf : nextF s e = none := by
      cases hf : nextF s e with
      | none => rfl
      | some y =>
        obtain ⟨v, hv⟩ := H2.out s e y.1 y.2 hf
        rw [hmk] at hv; cases hv
    have HF := Lib.hid hf
    have HMK := Lib.hid hmk
    clear hf hmk
    go_wp2_with (first | (at_lookup; refine wpl_lookup _ rfl _ _ 124 127 122 true rfl keyed48 Tryz.underlying124 b m rfl hm (.agg #[.int .i64 s, .int .i64 e]) (.agg #[.int .i64 0, .slice none 0 0]) rfl HKV.out (hz _) ?_; rw [show m (.agg #[.int .i64 s, .int .i64 e]) = none from HMK.out]))
    go_ret2
    have e1 : nextS s e = s := by unfold nextS; rw [HF.out]
    have e2 : nextL s e = [] := by unfold nextL; rw [HF.out]
    rw [e1, e2]
    exact ⟨_, rfl, Or.inl ⟨rfl, rfl⟩, hbl.alloc hbl.size _⟩
  | some v =>
    obtain ⟨s', e', n, sl, xs, h3, h4, h5, h6⟩ := H1.out _ v hmk
    obtain ⟨rfl, rfl⟩ := keyV_inj h3
    obtain ⟨sa, sn, sc, rfl⟩ : ∃ sa sn sc, sl = .slice sa sn sc := by
      rcases h6 with ⟨_, h6⟩ | ⟨b, _, h6, _⟩
      · exact ⟨_, _, _, h6⟩
      · exact ⟨_, _, _, h6⟩
    subst h5
    have HF := Lib.hid h4
    have HMK := Lib.hid hmk
    have H6 := Lib.hid h6
    clear h4 hmk h3 h6
    go_wp2_with (first | (at_lookup; refine wpl_lookup _ rfl _ _ 124 127 122 true rfl keyed48 Tryz.underlying124 b m rfl hm (.agg #[.int .i64 s, .int .i64 e]) (.agg #[.int .i64 0, .slice none 0 0]) rfl HKV.out (hz _) ?_; rw [show m (.agg #[.int .i64 s, .int .i64 e]) = some (.agg #[.int .i64 n, .slice sa sn sc]) from HMK.out]))
    go_quiet (fail)
    rename_i nq
    go_wp2
    go_ret2
    have e1 : nextS s e = n := by unfold nextS; rw [HF.out]
    have e2 : nextL s e = xs := by unfold nextL; rw [HF.out]
    rw [e1, e2]
    exact ⟨_, rfl, H6.out.below (belowN ((Below.refl _ _).alloc (Nat.le_refl _) _) nq), belowN (hbl.alloc hbl.size _) nq⟩
end Go.Proofs.YtignponfoheaeaaGreat
