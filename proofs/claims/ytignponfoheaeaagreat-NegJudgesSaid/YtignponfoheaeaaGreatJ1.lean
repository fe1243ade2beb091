import Derived.Test.YtignponfoheaeaaGreatBO9
import Derived.Test.YtignponfoheaeaaGreatV15
/- What a list of options, of rules is when it is lent. -/
namespace Go.Proofs.YtignponfoheaeaaGreat
open Go.RowKit Go.Tg Go.Maps

set_option maxHeartbeats 4000000 in
set_option maxRecDepth 100000 in
/-- Are two lists of options the same? -/
theorem sameP_any (xs ys : List Opt) (a b : Value) (ok ok2 : Nat → Prop) (w : World) (ha : Opts w ok a xs) (hb : Opts w ok2 b ys) (hl : xs.length ≤ 1000000) (hl' : ys.length ≤ 1000000) :
    Calls Tryz.prog 30 #[a, b] w fun e w' => (∃ y : Bool, e = .returned (.bool y) ∧ (y = true ↔ xs = ys)) ∧ Below w.heap.size w w' := by
  obtain ⟨sa, c, rfl, hc, hm⟩ := ha.form
  obtain ⟨sb, d, rfl, hd, hn⟩ := hb.form
  by_cases hxy : xs.length = ys.length
  case neg =>
    have H : Hid (∀ y : Bool, y = false → (y = true ↔ xs = ys)) := Lib.hid (fun y h => ⟨fun h1 => absurd (h1.symm.trans h) (by decide), fun h1 => absurd (by rw [h1]) hxy⟩)
    clear ha hb
    generalize xs.length = n1 at *
    generalize ys.length = n2 at *
    go_enter Tryz.func30, Tryz.ntmps30
    go_wp2_with fail
    go_ret
    exact ⟨⟨_, rfl, H.out _ rfl⟩, Below.refl _ _⟩
  case pos =>
  have H := Lib.hid (And.intro ha hb)
  clear ha hb
  rw [← hxy] at hd hl' ⊢
  obtain ⟨len, hln⟩ : ∃ len, len = xs.length := ⟨_, rfl⟩
  have HLN := Lib.hid (And.intro hln hxy)
  rw [← hln] at hc hd hl ⊢
  clear hln hxy hl'
  go_enter Tryz.func30, Tryz.ntmps30
  go_wp2_with fail
  go_loopg [5] len (fun x i wr => ∃ k : Nat, k ≤ len ∧ x = len - k ∧ i = .int .i64 k ∧ Hid (Below w.heap.size w wr ∧ ∀ j (h1 : j < xs.length) (h2 : j < ys.length), j < k → xs[j] = ys[j]))
  case atStart => exact ⟨0, by omega, by omega, rfl, Below.refl _ _, fun j _ _ h => absurd h (Nat.not_lt_zero _)⟩
  case round =>
    obtain ⟨k, hk, rfl, rfl, hK⟩ := hrel
    have HK := Lib.hid hK.out
    clear hK
    by_cases hkl : k < len
    · have h1 : k < xs.length := by have := HLN.out.1; omega
      have h2 : k < ys.length := by have := HLN.out.2; omega
      obtain ⟨g, off, rfl, hg, -, -, -, -, c0, c1⟩ := H.out.1.at k h1
      obtain ⟨g', off', rfl, hg', -, -, -, -, c2, c3⟩ := H.out.2.at k h2
      have d0 : wr.cell? ⟨g, off + k * 2, none⟩ = _ := (HK.out.1.cell (p := ⟨g, off + k * 2, none⟩) hg).trans c0
      have d1 : wr.cell? ⟨g, off + k * 2 + 1, none⟩ = _ := (HK.out.1.cell (p := ⟨g, off + k * 2 + 1, none⟩) hg).trans c1
      have d2 : wr.cell? ⟨g', off' + k * 2, none⟩ = _ := (HK.out.1.cell (p := ⟨g', off' + k * 2, none⟩) hg').trans c2
      have d3 : wr.cell? ⟨g', off' + k * 2 + 1, none⟩ = _ := (HK.out.1.cell (p := ⟨g', off' + k * 2 + 1, none⟩) hg').trans c3
      have HEQ : Hid (∀ y : Bool, (y = true ↔ (xs[k].t = ys[k].t ∧ xs[k].v = ys[k].v)) → (y = true → xs[k] = ys[k]) ∧ (y = false → ∀ y' : Bool, y' = false → (y' = true ↔ xs = ys))) := Lib.hid (by
        intro y hy
        refine ⟨fun h => ?_, fun h y' hy' => ⟨fun h3 => absurd (h3.symm.trans hy') (by decide), fun h3 => ?_⟩⟩
        · obtain ⟨e1, e2⟩ := hy.1 h
          generalize xs[k] = x at *
          generalize ys[k] = z at *
          obtain ⟨x1, x2⟩ := x; obtain ⟨z1, z2⟩ := z
          simp only at e1 e2
          rw [e1, e2]
        · subst h3
          exact absurd ((hy.2 ⟨rfl, rfl⟩).symm.trans h) (by decide))
      clear c0 c1 c2 c3
      generalize hx0 : xs[k].t = t at d0 HEQ
      generalize hx1 : xs[k].v = v at d1 HEQ
      generalize hx2 : ys[k].t = t' at d2 HEQ
      generalize hx3 : ys[k].v = v' at d3 HEQ
      obtain ⟨y, hy⟩ : ∃ y : Bool, y = (decide (t = t') && decide (v = v')) := ⟨_, rfl⟩
      have HE := Lib.hid (HEQ.out y (by rw [hy]; simp))
      have hn : ∀ w, (binOp .eql 91 (.agg #[.int .i64 t, .string v]) (.agg #[.int .i64 t', .string v'])).run Tryz.prog w = .ok (.bool y) w := fun w => by rw [eqOb, hy]
      clear hy hx0 hx1 hx2 hx3 HEQ
      cases y with
      | true =>
        go_wp2_with fail
        go_quiet (fail)
        go_wp2_with fail
        go_roundg (len - (k + 1))
        case measure => omega
        case rel =>
          refine ⟨k + 1, by omega, rfl, by go_num, ⟨HK.out.1.os, HK.out.1.tape, HK.out.1.output, HK.out.1.size, HK.out.1.block⟩, fun j h3 h4 h5 => ?_⟩
          rcases Nat.lt_or_ge j k with h | h
          · exact HK.out.2 j h3 h4 h
          · obtain rfl : j = k := by omega
            exact HE.out.1 (by first | exact trivial | rfl)
      | false =>
        go_wp2_with fail
        go_quiet (fail)
        go_wp2_with fail
        go_ret
        exact ⟨⟨_, rfl, HE.out.2 (by first | exact trivial | rfl) _ rfl⟩, ⟨HK.out.1.os, HK.out.1.tape, HK.out.1.output, HK.out.1.size, HK.out.1.block⟩⟩
    · go_wp2_with fail
      go_ret
      refine ⟨⟨_, rfl, fun _ => ?_, fun _ => rfl⟩, HK.out.1⟩
      have e1 := HLN.out.1
      have e2 := HLN.out.2
      exact List.ext_getElem e2 fun j h3 h4 => HK.out.2 j h3 h4 (by omega)

/-- 'append(out, l...)', l's cells told. -/
theorem wpl_append_fl {P : Program} {TS T : TypeId} {k by' : Nat} (R : RowT P TS T k by') {w : World} {ops : Array Oper} {rest : List Oper} {o : Oper} {a : Act} {Q : Exit → Act → World → Prop} (hgd : o.guard = none) (s x : Operand)
    (ho : o.op = .call { callee := .builtin .append, args := #[s, x], argTypes := #[TS, TS] }) (v : Value) (n : Nat) (us : List Value) (hs : a.eval s = v) (hown : BRow T k w v n us)
    (sa : Option Addr) (n' c : Nat) (us' : List Value) (hx : a.eval x = .slice sa n' c) (hnil : sa = none → n' = 0 ∧ c = 0) (hfl : ∀ ad, sa = some ad → ∀ j u, us'[j]? = some u → w.cell? (ad.add j) = some u) (hul : us'.length = n' * k) (h1 : ∀ u ∈ us', u.oneCell' = true) (hlen : n + n' ≤ 1000000)
    (h : ∀ v' w', BRow T k w' v' (n + n') (us ++ us') → Keep (fun k => v.ownBlock = some k) w w' → (v'.ownBlock = v.ownBlock ∨ v'.ownBlock = some w.heap.size) → wpList P ops Q rest (a.put o.dst v') w') : wpList P ops Q (o :: rest) a w := by
  obtain ⟨i, z, hi, hz, hsz, hby, hzs⟩ := R.hi
  cases sa with
  | none =>
    obtain ⟨rfl, rfl⟩ := hnil rfl
    have e : us' = [] := List.eq_nil_of_length_eq_zero (by rw [hul]; simp)
    subst e
    refine wpList_append_own_none hgd s x TS ho 0 T i k R.ht hi v n us hs hown hx ?_
    exact h v w (by rw [List.append_nil]; exact hown) (Keep.refl _ _) (Or.inl rfl)
  | some ad =>
    refine wpList_plain hgd fun K hK => ?_
    obtain ⟨v', w', hrun, h2, h3, h4, h5⟩ := run_append_both (P := P) w TS o.type T i z k by' R.ht hi hz hsz hby hzs R.hk v n us hown ad n' c us' hul (hfl ad rfl) h1 (by unfold maxLen; omega)
      (by have := R.hb
          have h2 : (n + n') * by' ≤ (n + n') * 1000 := Nat.mul_le_mul_left _ this
          omega)
    unfold Oper.wp execOp
    simp only [ho, resolve, invoke, builtin, Sem.run_bind, Sem.run_pure, Result.andThen_ok, List.map_toArray, List.map_cons, List.map_nil, hs, hx, hrun]
    exact hK _ _ (h v' w' h2 (keep_of_grown h3) h4)

theorem rule_row : RowT Tryz.prog 61 64 5 48 where
  ht := Tryz.underlying61
  hi := rl_info
  hk := by decide
  hb := by decide

def o77 : Opt := ⟨-77, ⟨#[]⟩⟩
def r77 : Rl := ⟨-77, 0, 0, 0, ⟨#[]⟩⟩

/-- What was lent: behind it, in its block, there is the mark. -/
structure LentO (w w' : World) (v : Value) (l : List Opt) : Prop where
  ex : ∃ g c, v = .slice (some ⟨g, 0, none⟩) l.length c ∧ l.length + 1 ≤ c ∧ c ≤ maxLen ∧ w.heap.size ≤ g ∧ BRow 91 2 w' (.slice (some ⟨g, 0, none⟩) (l.length + 1) c) (l.length + 1) (optL (l ++ [o77])).flatten
  b : Below w.heap.size w w'
structure LentR (w w' : World) (v : Value) (l : List Rl) : Prop where
  ex : ∃ g c, v = .slice (some ⟨g, 0, none⟩) l.length c ∧ l.length + 1 ≤ c ∧ c ≤ maxLen ∧ w.heap.size ≤ g ∧ BRow 64 5 w' (.slice (some ⟨g, 0, none⟩) (l.length + 1) c) (l.length + 1) (rlL (l ++ [r77])).flatten
  b : Below w.heap.size w w'
theorem LentO.below {w w' w2 : World} {v : Value} {l : List Opt} (h : LentO w w' v l) (hb : Below w'.heap.size w' w2) : LentO w w2 v l where
  ex := by
    obtain ⟨g, c, h1, h2, h3, h4, h5⟩ := h.ex
    exact ⟨g, c, h1, h2, h3, h4, h5.below hb⟩
  b := h.b.trans (hb.mono h.b.size)
theorem LentR.below {w w' w2 : World} {v : Value} {l : List Rl} (h : LentR w w' v l) (hb : Below w'.heap.size w' w2) : LentR w w2 v l where
  ex := by
    obtain ⟨g, c, h1, h2, h3, h4, h5⟩ := h.ex
    exact ⟨g, c, h1, h2, h3, h4, h5.below hb⟩
  b := h.b.trans (hb.mono h.b.size)
theorem LentO.all {w w' : World} {v : Value} {l : List Opt} (h : LentO w w' v l) (hl : l.length ≤ 1000) : ∃ g c, v = .slice (some ⟨g, 0, none⟩) l.length c ∧ l.length + 1 ≤ c ∧ c ≤ maxLen ∧ Opts w' (fun b => w.heap.size ≤ b) v l ∧ Opts w' (fun b => w.heap.size ≤ b) (.slice (some ⟨g, 0, none⟩) (l.length + 1) c) (l ++ [o77]) := by
  obtain ⟨g, c, rfl, h2, h3, h4, h5⟩ := h.ex
  have hr : Opts w' (fun b => 0 ≤ b) (.slice (some ⟨g, 0, none⟩) (l.length + 1) c) (l ++ [o77]) := Rec.of_owns (k := 2) h5 (by rw [optL_len]; simp) (optL_k _) (by unfold maxLen; omega)
  have hr2 : Opts w' (fun b => w.heap.size ≤ b) (.slice (some ⟨g, 0, none⟩) (l.length + 1) c) (l ++ [o77]) := by
    obtain ⟨h0, sa, c', hv, hc, hm, hr⟩ := hr
    refine ⟨h0, sa, c', hv, hc, hm, ?_⟩
    rcases hr with h | ⟨b, off, hs, hb, hk, hr⟩
    · exact .inl h
    · refine .inr ⟨b, off, hs, hb, ?_, hr⟩
      have := (Value.slice.inj hv).1
      rw [hs] at this
      cases this
      exact h4
  refine ⟨g, c, rfl, h2, h3, ?_, hr2⟩
  have := Opts.take hr2 l.length (by simp)
  rwa [List.take_left] at this
theorem LentR.all {w w' : World} {v : Value} {l : List Rl} (h : LentR w w' v l) (hl : l.length ≤ 1000) : ∃ g c, v = .slice (some ⟨g, 0, none⟩) l.length c ∧ l.length + 1 ≤ c ∧ c ≤ maxLen ∧ Rls w' (fun b => w.heap.size ≤ b) v l ∧ Rls w' (fun b => w.heap.size ≤ b) (.slice (some ⟨g, 0, none⟩) (l.length + 1) c) (l ++ [r77]) := by
  obtain ⟨g, c, rfl, h2, h3, h4, h5⟩ := h.ex
  have hr : Rls w' (fun b => 0 ≤ b) (.slice (some ⟨g, 0, none⟩) (l.length + 1) c) (l ++ [r77]) := Rec.of_owns (k := 5) h5 (by rw [rlL_len]; simp) (rlL_k _) (by unfold maxLen; omega)
  have hr2 : Rls w' (fun b => w.heap.size ≤ b) (.slice (some ⟨g, 0, none⟩) (l.length + 1) c) (l ++ [r77]) := by
    obtain ⟨h0, sa, c', hv, hc, hm, hr⟩ := hr
    refine ⟨h0, sa, c', hv, hc, hm, ?_⟩
    rcases hr with h | ⟨b, off, hs, hb, hk, hr⟩
    · exact .inl h
    · refine .inr ⟨b, off, hs, hb, ?_, hr⟩
      have := (Value.slice.inj hv).1
      rw [hs] at this
      cases this
      exact h4
  refine ⟨g, c, rfl, h2, h3, ?_, hr2⟩
  have := Rec.take hr2 l.length (by rw [rlL_len]; simp)
  have e : (rlL (l ++ [r77])).take l.length = rlL l := by
    unfold rlL
    rw [← List.map_take, List.take_left]
  rw [e] at this
  exact this

set_option maxHeartbeats 4000000 in
set_option maxRecDepth 100000 in
theorem lentO_any (l : List Opt) (lv : Value) (ok : Nat → Prop) (w : World) (hl : Opts w ok lv l) (hnil : ∀ n c, lv = .slice none n c → c = 0) (hlen : l.length ≤ 1000) :
    Calls Tryz.prog 28 #[lv] w fun e w' => ∃ v, e = .returned v ∧ LentO w w' v l := by
  obtain ⟨sa, c, rfl, hc, hm⟩ := hl.form
  have hn0 : sa = none → l.length = 0 ∧ c = 0 := fun h => by subst h; have := hnil _ _ rfl; omega
  have hfl : ∀ ad, sa = some ad → ∀ j u, (oV l)[j]? = some u → w.cell? (ad.add j) = some u := fun ad h => by subst h; exact Rec.flat (by decide) hl
  have H := Lib.hid (And.intro hn0 (And.intro hfl (And.intro (oV_len l) (oV_one l))))
  have HE := Lib.hid (show oV l ++ [.int .i64 (-77), .string ⟨#[]⟩] = (optL (l ++ [o77])).flatten by rw [show (optL (l ++ [o77])).flatten = oV (l ++ [o77]) from rfl, oV_app]; rfl)
  have HR : Hid (∀ w w' v, (∃ g c, v = .slice (some ⟨g, 0, none⟩) l.length c ∧ l.length + 1 ≤ c ∧ c ≤ maxLen ∧ w.heap.size ≤ g ∧ BRow 91 2 w' (.slice (some ⟨g, 0, none⟩) (l.length + 1) c) (l.length + 1) (oV l ++ [.int .i64 (-77), .string ⟨#[]⟩])) → Below w.heap.size w w' → LentO w w' v l) := Lib.hid (fun w w' v h hb => ⟨by rw [HE.out] at h; exact h, hb⟩)
  generalize oV l = us at *
  clear HE hn0 hfl hl hnil
  generalize hlen0 : LentO = L0 at *
  clear hlen0
  go_enter Tryz.func28, Tryz.ntmps28
  go_wp2_with (first
    | (at_builtin; refine wpl_append_rec opt_row rfl _ _ rfl _ l.length us rfl (H4.out.1.below (b1 _ _)) _ _ [.int .i64 (-77), .string ⟨#[]⟩] rfl (cell_of_at _ _ _ rfl) rfl (fun u hu => by simp only [List.mem_cons, List.not_mem_nil, or_false] at hu; rcases hu with rfl | rfl <;> rfl) (by omega) ?_
       intro g7 c7 w7 h7 k7 o7
       obtain ⟨_, q7, e7, hq7, hm7⟩ := h7.form
       cases e7
       have H7 := Lib.hid (And.intro h7 (And.intro k7 o7))
       clear h7 k7 o7)
    | (at_builtin; refine wpl_append_fl opt_row rfl _ _ rfl _ 0 [] rfl (BRow.nil _ _ _) sa l.length c us rfl H.out.1 H.out.2.1 H.out.2.2.1 H.out.2.2.2 (by omega) ?_
       intro v4 w4 h4 k4 o4
       rw [Nat.zero_add, List.nil_append] at h4
       obtain ⟨s4, q4, rfl, -, -⟩ := h4.form
       have H4 := Lib.hid (And.intro h4 (And.intro k4 o4))
       clear h4 k4 o4))
  go_ret
  have hown4 : ∀ g, (Value.slice s4 l.length q4).ownBlock = some g → w.heap.size ≤ g := by
    intro g hg
    rcases H4.out.2.2 with h | h
    · have h1 : (Value.slice s4 l.length q4).ownBlock = none := h
      rw [h1] at hg; cases hg
    · have h1 : (Value.slice s4 l.length q4).ownBlock = some w.heap.size := h
      rw [h1] at hg; cases hg; exact Nat.le_refl _
  have hs4 : w.heap.size ≤ w4.heap.size := H4.out.2.1.size
  have hb := (b1 w4 (.cells #[.int .i64 (-77), .string ⟨#[]⟩] 91 (0, 0))).size
  refine ⟨_, rfl, HR.out w w7 _ ⟨g7, c7, rfl, hq7, hm7, ?_, H7.out.1⟩ ?_⟩
  · rcases H7.out.2.2 with h | h
    · exact hown4 g7 h
    · have h1 : g7 = (w4.alloc (.cells #[.int .i64 (-77), .string ⟨#[]⟩] 91 (0, 0))).heap.size := h
      omega
  · refine ((H4.out.2.1.below (B := w.heap.size) (Nat.le_refl _) fun g hg he => ?_).trans ((b1 w4 (.cells #[.int .i64 (-77), .string ⟨#[]⟩] 91 (0, 0))).mono hs4)).trans (H7.out.2.1.below (B := w.heap.size) (by omega) fun g hg he => ?_)
    · have h1 : (Value.slice none 0 0).ownBlock = some g := he
      cases h1
    · have := hown4 g he; omega

def rV (l : List Rl) : List Value := (rlL l).flatten
theorem rV_len (l : List Rl) : (rV l).length = l.length * 5 := by
  unfold rV
  rw [flatten_len _ (rlL_k l), rlL_len]
theorem rV_app (a b : List Rl) : rV (a ++ b) = rV a ++ rV b := by simp [rV, rlL]
theorem rV_one (l : List Rl) : ∀ u ∈ rV l, u.oneCell' = true := rl_bytes l

set_option maxHeartbeats 4000000 in
set_option maxRecDepth 100000 in
theorem lentR_any (l : List Rl) (lv : Value) (ok : Nat → Prop) (w : World) (hl : Rls w ok lv l) (hnil : ∀ n c, lv = .slice none n c → c = 0) (hlen : l.length ≤ 1000) :
    Calls Tryz.prog 27 #[lv] w fun e w' => ∃ v, e = .returned v ∧ LentR w w' v l := by
  obtain ⟨sa, c, rfl, hc, hm⟩ := hl.form
  have hn0 : sa = none → l.length = 0 ∧ c = 0 := fun h => by subst h; have := hnil _ _ rfl; omega
  have hfl : ∀ ad, sa = some ad → ∀ j u, (rV l)[j]? = some u → w.cell? (ad.add j) = some u := fun ad h => by subst h; exact Rec.flat (by decide) hl
  have H := Lib.hid (And.intro hn0 (And.intro hfl (And.intro (rV_len l) (rV_one l))))
  have HE := Lib.hid (show rV l ++ [.int .i64 (-77), .int .i64 0, .int .i64 0, .int .i64 0, .string ⟨#[]⟩] = (rlL (l ++ [r77])).flatten by rw [show (rlL (l ++ [r77])).flatten = rV (l ++ [r77]) from rfl, rV_app]; rfl)
  have HR : Hid (∀ w w' v, (∃ g c, v = .slice (some ⟨g, 0, none⟩) l.length c ∧ l.length + 1 ≤ c ∧ c ≤ maxLen ∧ w.heap.size ≤ g ∧ BRow 64 5 w' (.slice (some ⟨g, 0, none⟩) (l.length + 1) c) (l.length + 1) (rV l ++ [.int .i64 (-77), .int .i64 0, .int .i64 0, .int .i64 0, .string ⟨#[]⟩])) → Below w.heap.size w w' → LentR w w' v l) := Lib.hid (fun w w' v h hb => ⟨by rw [HE.out] at h; exact h, hb⟩)
  generalize rV l = us at *
  clear HE hn0 hfl hl hnil
  generalize hlen0 : LentR = L0 at *
  clear hlen0
  go_enter Tryz.func27, Tryz.ntmps27
  go_wp2_with (first
    | (at_builtin; refine wpl_append_rec rule_row rfl _ _ rfl _ l.length us rfl (H4.out.1.below (b1 _ _)) _ _ [.int .i64 (-77), .int .i64 0, .int .i64 0, .int .i64 0, .string ⟨#[]⟩] rfl (cell_of_at _ _ _ rfl) rfl (fun u hu => by simp only [List.mem_cons, List.not_mem_nil, or_false] at hu; rcases hu with rfl | rfl | rfl | rfl | rfl <;> rfl) (by omega) ?_
       intro g7 c7 w7 h7 k7 o7
       obtain ⟨_, q7, e7, hq7, hm7⟩ := h7.form
       cases e7
       have H7 := Lib.hid (And.intro h7 (And.intro k7 o7))
       clear h7 k7 o7)
    | (at_builtin; refine wpl_append_fl rule_row rfl _ _ rfl _ 0 [] rfl (BRow.nil _ _ _) sa l.length c us rfl H.out.1 H.out.2.1 H.out.2.2.1 H.out.2.2.2 (by omega) ?_
       intro v4 w4 h4 k4 o4
       rw [Nat.zero_add, List.nil_append] at h4
       obtain ⟨s4, q4, rfl, -, -⟩ := h4.form
       have H4 := Lib.hid (And.intro h4 (And.intro k4 o4))
       clear h4 k4 o4))
  go_ret
  have hown4 : ∀ g, (Value.slice s4 l.length q4).ownBlock = some g → w.heap.size ≤ g := by
    intro g hg
    rcases H4.out.2.2 with h | h
    · have h1 : (Value.slice s4 l.length q4).ownBlock = none := h
      rw [h1] at hg; cases hg
    · have h1 : (Value.slice s4 l.length q4).ownBlock = some w.heap.size := h
      rw [h1] at hg; cases hg; exact Nat.le_refl _
  have hs4 : w.heap.size ≤ w4.heap.size := H4.out.2.1.size
  have hb := (b1 w4 (.cells #[.int .i64 (-77), .int .i64 0, .int .i64 0, .int .i64 0, .string ⟨#[]⟩] 64 (0, 0))).size
  refine ⟨_, rfl, HR.out w w7 _ ⟨g7, c7, rfl, hq7, hm7, ?_, H7.out.1⟩ ?_⟩
  · rcases H7.out.2.2 with h | h
    · exact hown4 g7 h
    · have h1 : g7 = (w4.alloc (.cells #[.int .i64 (-77), .int .i64 0, .int .i64 0, .int .i64 0, .string ⟨#[]⟩] 64 (0, 0))).heap.size := h
      omega
  · refine ((H4.out.2.1.below (B := w.heap.size) (Nat.le_refl _) fun g hg he => ?_).trans ((b1 w4 (.cells #[.int .i64 (-77), .int .i64 0, .int .i64 0, .int .i64 0, .string ⟨#[]⟩] 64 (0, 0))).mono hs4)).trans (H7.out.2.1.below (B := w.heap.size) (by omega) fun g hg he => ?_)
    · have h1 : (Value.slice none 0 0).ownBlock = some g := he
      cases h1
    · have := hown4 g he; omega

theorem cell_mark {w : World} {ok : Nat → Prop} {g n c : Nat} {l : List Opt} (h : Opts w ok (.slice (some ⟨g, 0, none⟩) n c) (l ++ [o77])) : g < w.heap.size ∧ w.cell? ⟨g, l.length * 2, none⟩ = some (.int .i64 (-77)) := by
  obtain ⟨b, off, e, hb, -, -, -, -, c0, -⟩ := h.at l.length (by simp)
  cases e
  refine ⟨hb, ?_⟩
  rw [Nat.zero_add] at c0
  rw [c0]
  simp [o77]
theorem cell_markR {w : World} {ok : Nat → Prop} {g n c : Nat} {l : List Rl} (h : Rls w ok (.slice (some ⟨g, 0, none⟩) n c) (l ++ [r77])) : g < w.heap.size ∧ w.cell? ⟨g, l.length * 5, none⟩ = some (.int .i64 (-77)) := by
  obtain ⟨b, off, e, hb, -, -, -, -, c0, -⟩ := h.at l.length (by simp)
  cases e
  refine ⟨hb, ?_⟩
  rw [Nat.zero_add] at c0
  rw [c0]
  simp [r77]

set_option maxHeartbeats 4000000 in
set_option maxRecDepth 100000 in
theorem staysO_any (l : List Opt) (v wv : Value) (ok : Nat → Prop) (w0 w : World) (hv : LentO w0 w v l) (hw : Opts w ok wv l) (hlen : l.length ≤ 1000) :
    Calls Tryz.prog 34 #[v, wv] w fun e w' => e = .returned (.bool true) ∧ Below w.heap.size w w' := by
  obtain ⟨g, c, rfl, hc1, hc2, ho, hm⟩ := hv.all hlen
  obtain ⟨hg, c0⟩ := cell_mark hm
  obtain ⟨sa, ca, rfl, hca, hcm⟩ := hw.form
  have HS := Lib.hid (sameP_any l l _ _ _ _ w ho hw (by omega) (by omega))
  have HC := Lib.hid (fun (W : World) (hW : Below w.heap.size w W) => (hW.cell (p := ⟨g, l.length * 2, none⟩) hg).trans c0)
  clear hv ho hm hw c0
  generalize l.length = n at *
  go_enter Tryz.func34, Tryz.ntmps34
  go_wp2_with fail
  refine HS.out.mono ?_
  rintro e w1 ⟨⟨y, rfl, hy⟩, hb⟩
  obtain rfl : y = true := hy.2 (by first | exact trivial | rfl)
  have c1 := HC.out w1 hb
  have HB := Lib.hid hb
  clear hy hb
  go_wp2_with fail
  go_ret
  exact ⟨rfl, HB.out⟩

theorem neqR (a b c d : Int) (s : ByteArray) (w : World) : (binOp .neq 64 (.agg #[.int .i64 a, .int .i64 b, .int .i64 c, .int .i64 d, .string s]) (.agg #[.int .i64 a, .int .i64 b, .int .i64 c, .int .i64 d, .string s])).run Tryz.prog w = .ok (.bool false) w := by
  have u3 := Tryz.underlying3
  have a3 := Tryz.isAgg3
  have z3 := Tryz.sizeOf3
  have u9 := Tryz.underlying9
  have a9 := Tryz.isAgg9
  have z9 := Tryz.sizeOf9
  have hS : Tryz.prog.underlying 64 = some (.struct (Tryz.prog.fieldsOf 64)) := by kernel_rfl
  have hp : Tryz.prog.stoodInHeld 64 = false := by kernel_rfl
  rw [run_neq_struct, show (10000 : Nat) = 9999 + 1 from rfl, run_equalIn_agg w 9999 64 _ _ hS hp]
  simp only [Program.fieldsOf, Tryz.underlying64]
  go_simp

set_option maxHeartbeats 4000000 in
set_option maxRecDepth 100000 in
theorem staysR_any (l : List Rl) (v wv : Value) (ok : Nat → Prop) (w0 w : World) (hv : LentR w0 w v l) (hw : Rls w ok wv l) (hlen : l.length ≤ 1000) :
    Calls Tryz.prog 33 #[v, wv] w fun e w' => e = .returned (.bool true) ∧ Below w.heap.size w w' := by
  obtain ⟨g, c, rfl, hc1, hc2, ho, hm⟩ := hv.all hlen
  obtain ⟨hg, c0⟩ := cell_markR hm
  obtain ⟨sa, ca, rfl, hca, hcm⟩ := hw.form
  obtain ⟨len, hln⟩ : ∃ len, len = l.length := ⟨_, rfl⟩
  have HLN := Lib.hid hln
  have H := Lib.hid (And.intro ho hw)
  have HC := Lib.hid (fun (W : World) (hW : Below w.heap.size w W) => (hW.cell (p := ⟨g, l.length * 5, none⟩) hg).trans c0)
  rw [← hln] at HC hc1 hca hlen ⊢
  clear hv ho hm hw c0 hln
  go_enter Tryz.func33, Tryz.ntmps33
  go_wp2_with fail
  go_loopg [5] len (fun x i wr => ∃ k : Nat, k ≤ len ∧ x = len - k ∧ i = .int .i64 k ∧ Hid (Below w.heap.size w wr))
  case atStart => exact ⟨0, by omega, by omega, rfl, Below.refl _ _⟩
  case round =>
    obtain ⟨k, hk, rfl, rfl, hK⟩ := hrel
    have HK := Lib.hid hK.out
    clear hK
    by_cases hkl : k < len
    · have h1 : k < l.length := by have := HLN.out; omega
      obtain ⟨b, off, e1, hb, -, -, -, -, c0, c1, c2, c3, c4⟩ := H.out.1.at k h1
      cases e1
      obtain ⟨b', off', rfl, hb', -, -, -, -, c0', c1', c2', c3', c4'⟩ := H.out.2.at k h1
      have d0 : wr.cell? ⟨g, 0 + k * 5, none⟩ = _ := (HK.out.cell (p := ⟨g, 0 + k * 5, none⟩) hb).trans c0
      have d1 : wr.cell? ⟨g, 0 + k * 5 + 1, none⟩ = _ := (HK.out.cell (p := ⟨g, 0 + k * 5 + 1, none⟩) hb).trans c1
      have d2 : wr.cell? ⟨g, 0 + k * 5 + 2, none⟩ = _ := (HK.out.cell (p := ⟨g, 0 + k * 5 + 2, none⟩) hb).trans c2
      have d3 : wr.cell? ⟨g, 0 + k * 5 + 3, none⟩ = _ := (HK.out.cell (p := ⟨g, 0 + k * 5 + 3, none⟩) hb).trans c3
      have d4 : wr.cell? ⟨g, 0 + k * 5 + 4, none⟩ = _ := (HK.out.cell (p := ⟨g, 0 + k * 5 + 4, none⟩) hb).trans c4
      have d0' : wr.cell? ⟨b', off' + k * 5, none⟩ = _ := (HK.out.cell (p := ⟨b', off' + k * 5, none⟩) hb').trans c0'
      have d1' : wr.cell? ⟨b', off' + k * 5 + 1, none⟩ = _ := (HK.out.cell (p := ⟨b', off' + k * 5 + 1, none⟩) hb').trans c1'
      have d2' : wr.cell? ⟨b', off' + k * 5 + 2, none⟩ = _ := (HK.out.cell (p := ⟨b', off' + k * 5 + 2, none⟩) hb').trans c2'
      have d3' : wr.cell? ⟨b', off' + k * 5 + 3, none⟩ = _ := (HK.out.cell (p := ⟨b', off' + k * 5 + 3, none⟩) hb').trans c3'
      have d4' : wr.cell? ⟨b', off' + k * 5 + 4, none⟩ = _ := (HK.out.cell (p := ⟨b', off' + k * 5 + 4, none⟩) hb').trans c4'
      rw [Nat.zero_add] at d0 d1 d2 d3 d4
      clear c0 c1 c2 c3 c4 c0' c1' c2' c3' c4'
      generalize l[k] = x at *
      obtain ⟨x1, x2, x3, x4, x5⟩ := x
      simp only at d0 d1 d2 d3 d4 d0' d1' d2' d3' d4'
      have hn := neqR x1 x2 x3 x4 x5
      go_wp2_with fail
      go_quiet (fail)
      go_wp2_with fail
      go_roundg (len - (k + 1))
      case measure => omega
      case rel => exact ⟨k + 1, by omega, rfl, by go_num, ⟨HK.out.os, HK.out.tape, HK.out.output, HK.out.size, HK.out.block⟩⟩
    · have c1 := HC.out wr HK.out
      go_wp2_with fail
      go_ret
      exact ⟨rfl, HK.out⟩
end Go.Proofs.YtignponfoheaeaaGreat
