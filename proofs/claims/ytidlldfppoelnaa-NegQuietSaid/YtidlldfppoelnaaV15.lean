import Derived.Test.YtidlldfppoelnaaV14
import Derived.Maps.AppendAt
import Derived.Laws.AppendOwnNone
namespace Go.Proofs.Ytidlldfppoelnaa
open Go.RowKit Go.Tg Go.Maps

/-- 'out = append(out, s...)' of rules at a plain statement. -/
theorem wpl_append_rules {B : Nat} {w : World} {ops : Array Oper} {rest : List Oper} {o : Oper} {a : Act} {Q : Exit → Act → World → Prop} {ok : Nat → Prop} (hgd : o.guard = none) (s x : Operand)
    (ho : o.op = .call { callee := .builtin .append, args := #[s, x], argTypes := #[28, 28] }) (v : Value) (l : List Rl) (hs : a.eval s = v) (hown : RRow w B v l)
    (xv : Value) (l' : List Rl) (hx : a.eval x = xv) (hr : Rls w ok xv l') (hnil : ∀ n c, xv = .slice none n c → c = 0) (hlen : l.length + l'.length ≤ 1000000) (hW : B ≤ w.heap.size)
    (h : ∀ v' w', RRow w' B v' (l ++ l') → Keep (fun k => v.ownBlock = some k) w w' → (v'.ownBlock = v.ownBlock ∨ v'.ownBlock = some w.heap.size) → wpList Try.prog ops Q rest (a.put o.dst v') w') : wpList Try.prog ops Q (o :: rest) a w := by
  obtain ⟨i, z, hi, hz, hsz, hby, hzs⟩ := rl_info
  obtain ⟨sa, c, rfl, hc, hm⟩ := hr.form
  cases sa with
  | none =>
    have h0 := hnil _ _ rfl
    subst h0
    have e : l' = [] := List.eq_nil_of_length_eq_zero (by omega)
    subst e
    refine wpList_append_own_none hgd s x 28 ho B 48 i 5 Try.underlying28 hi v l.length (rlL l).flatten hs hown hx ?_
    exact h v w (by rw [List.append_nil]; exact hown) (Keep.refl _ _) (Or.inl rfl)
  | some ad =>
    have hfl := hr.flat (by decide)
    have hl2 : (rlL l').flatten.length = l'.length * 5 := by rw [flatten_len _ (rlL_k l'), rlL_len]
    refine wpList_append_own_at (P := Try.prog) (w := w) hgd s x 28 ho B 48 i z 5 48 Try.underlying28 hi hz hsz hby hzs (by decide) v l.length (rlL l).flatten hs hown ad l'.length c (rlL l').flatten hx hl2 hfl (rl_bytes l') (by unfold maxLen; omega) (by omega) hW ?_
    intro v' w' h1 h2 _ h3
    exact h v' w' (by unfold RRow; rw [rlL_app, List.length_append]; exact h1) (keep_of_grown h2) h3

set_option maxHeartbeats 4000000 in
set_option maxRecDepth 100000 in
/-- slices.Concat of two lists of rules. -/
theorem concat_any (l1 l2 : List Rl) (v1 v2 : Value) (ok : Nat → Prop) (vb : Nat) (w : World) (h1 : Rls w ok v1 l1) (h2 : Rls w ok v2 l2) (n1 : ∀ n c, v1 = .slice none n c → c = 0) (n2 : ∀ n c, v2 = .slice none n c → c = 0)
    (hvb : w.heap[vb]? = some (.cells #[v1, v2] 28 (0, 0))) (hm1 : l1.length ≤ 1000) (hm2 : l2.length ≤ 1000) :
    Calls Try.prog 59 #[.slice (some ⟨vb, 0, none⟩) 2 2] w fun e w' => ∃ v, e = .returned v ∧ RRow w' w.heap.size v (l1 ++ l2) ∧ Below w.heap.size w w' := by
  have c0 : w.cell? ⟨vb, 0, none⟩ = some v1 := cellOf hvb 0 _ rfl
  have c1 : w.cell? ⟨vb, 1, none⟩ = some v2 := cellOf hvb 1 _ rfl
  obtain ⟨s1, d1, rfl, hc1, hx1⟩ := h1.form
  obtain ⟨s2, d2, rfl, hc2, hx2⟩ := h2.form
  have H := Lib.hid (And.intro h1 (And.intro h2 (And.intro n1 (And.intro n2 hvb))))
  have HG := Lib.hid (growR_nil (l1.length + l2.length) w (by omega))
  obtain ⟨a, ha⟩ : ∃ a, a = l1.length := ⟨_, rfl⟩
  obtain ⟨b, hb⟩ : ∃ b, b = l2.length := ⟨_, rfl⟩
  have HA := Lib.hid (And.intro ha hb)
  rw [← ha] at c0 hm1 hc1 HG
  rw [← hb] at c1 hm2 hc2 HG
  clear h1 h2 n1 n2 hvb ha hb
  go_enter Try.func59, Try.ntmps59
  go_wp2_with fail
  go_loopg [3, 11] 2 (fun x s i wr => wr = w ∧ ((x = 2 ∧ i = .int .i64 0 ∧ s = .int .i64 0) ∨ (x = 1 ∧ i = .int .i64 1 ∧ s = .int .i64 a) ∨ (x = 0 ∧ i = .int .i64 2 ∧ s = .int .i64 ((a + b : Nat) : Int))))
  case atStart => exact ⟨rfl, Or.inl ⟨rfl, rfl, rfl⟩⟩
  case round =>
    obtain ⟨rfl, ⟨rfl, rfl, rfl⟩ | ⟨rfl, rfl, rfl⟩ | ⟨rfl, rfl, rfl⟩⟩ := hrel
    · go_wp2_with fail
      go_roundg 1
      case measure => omega
      case rel => exact ⟨rfl, Or.inr (Or.inl ⟨rfl, rfl, rfl⟩)⟩
    · go_wp2_with fail
      go_roundg 0
      case measure => omega
      case rel => exact ⟨rfl, Or.inr (Or.inr ⟨rfl, rfl, by simp⟩)⟩
    · have HG2 := Lib.hid HG.out
      obtain ⟨w0, rfl⟩ : ∃ w0, w0 = wr := ⟨_, rfl⟩
      go_wp2_with fail
      rw [show ((a : Int) + (b : Int)) = ((a + b : Nat) : Int) from by simp]
      refine HG2.out.mono ?_
      rintro e w1 ⟨v0, rfl, hrow, hbl⟩
      obtain ⟨ga, gc, hv0⟩ := hrow.form
      subst hv0
      have H1 := Lib.hid (And.intro hrow hbl)
      clear hrow hbl
      go_wp2_with fail
      go_loopg [6, 27] 2 (fun x s i w5 => (x = 2 ∧ i = .int .i64 0 ∧ Hid (RRow w5 w0.heap.size s [] ∧ Below w0.heap.size w0 w5)) ∨ (x = 1 ∧ i = .int .i64 1 ∧ Hid (RRow w5 w0.heap.size s l1 ∧ Below w0.heap.size w0 w5)) ∨ (x = 0 ∧ i = .int .i64 2 ∧ Hid (RRow w5 w0.heap.size s (l1 ++ l2) ∧ Below w0.heap.size w0 w5)))
      case atStart => exact Or.inl ⟨rfl, rfl, H1.out⟩
      case round =>
        obtain ⟨hA1, hA2⟩ := HA.out
        obtain ⟨hr1, hr2, hn1, hn2, hvb⟩ := H.out
        have hvl : vb < w0.heap.size := (Array.getElem?_eq_some_iff.1 hvb).1
        rw [← hA1] at hr1 hn1
        rw [← hA2] at hr2 hn2
        have HH := Lib.hid (And.intro hr1 (And.intro hr2 (And.intro hn1 hn2)))
        have HL1 := Lib.hid hA1
        have HL2 := Lib.hid hA2
        clear hr1 hr2 hn1 hn2 hvb hA1 hA2
        obtain ⟨rfl, rfl, hK⟩ | ⟨rfl, rfl, hK⟩ | ⟨rfl, rfl, hK⟩ := hrel
        · have HK := Lib.hid hK.out
          have e0 := (HK.out.2.cell (p := ⟨vb, 0, none⟩) hvl).trans c0
          have hsz := HK.out.2.size
          have HR := Lib.hid (HH.out.1.below HK.out.2)
          have hlq : ([] : List Rl).length + l1.length ≤ 1000000 := by rw [← HL1.out]; simp; omega
          clear hK
          go_wp2_with (at_builtin; refine wpl_append_rules rfl _ _ rfl _ [] rfl HK.out.1 _ l1 rfl HR.out HH.out.2.2.1 hlq hsz ?_
                       intro v5 w5 h5 k5 o5
                       obtain ⟨qa, qc, hq⟩ := h5.form
                       have H5 := Lib.hid (And.intro h5 (HK.out.2.trans (k5.below hsz (fun k hk e => Nat.lt_irrefl _ (Nat.lt_of_lt_of_le hk (HK.out.1.lt _ e).2)))))
                       subst hq
                       clear h5 k5 o5)
          go_roundg 1
          case measure => omega
          case rel => exact Or.inr (Or.inl ⟨rfl, rfl, H5.out⟩)
        · have HK := Lib.hid hK.out
          have e0 := (HK.out.2.cell (p := ⟨vb, 1, none⟩) hvl).trans c1
          have hsz := HK.out.2.size
          have HR := Lib.hid (HH.out.2.1.below HK.out.2)
          have hlq : l1.length + l2.length ≤ 1000000 := by rw [← HL1.out, ← HL2.out]; omega
          clear hK
          go_wp2_with (at_builtin; refine wpl_append_rules rfl _ _ rfl _ l1 rfl HK.out.1 _ l2 rfl HR.out HH.out.2.2.2 hlq hsz ?_
                       intro v5 w5 h5 k5 o5
                       obtain ⟨qa, qc, hq⟩ := h5.form
                       have H5 := Lib.hid (And.intro h5 (HK.out.2.trans (k5.below hsz (fun k hk e => Nat.lt_irrefl _ (Nat.lt_of_lt_of_le hk (HK.out.1.lt _ e).2)))))
                       subst hq
                       clear h5 k5 o5)
          go_roundg 0
          case measure => omega
          case rel =>
            have h5 := H5.out
            rw [List.length_append] at h5
            exact Or.inr (Or.inr ⟨rfl, rfl, h5⟩)
        · have HK := Lib.hid hK.out
          clear hK
          obtain ⟨qa, qc, hq⟩ := HK.out.1.form
          subst hq
          go_wp2_with fail
          go_ret
          exact ⟨_, rfl, HK.out.1, HK.out.2⟩
end Go.Proofs.Ytidlldfppoelnaa
