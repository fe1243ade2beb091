import Derived.Test.YtignponfoheaeaaGreatTgSlice
import Derived.Deep.AppendLies
import Derived.Maps.AppendAt
import Derived.Laws.AppendOwnNone
/- Rows of a book: rows of the call's own, and how they read. -/
namespace Go.Tg
open Go Go.RowKit Go.Maps

/-- A row of its own: n records of k cells of the type T. -/
def BRow (T : TypeId) (k : Nat) (w : World) (v : Value) (n : Nat) (us : List Value) : Prop := w.ownsRow 0 T k v n us
/-- A slice that reads as n records, us their cells. -/
def RowR (w : World) (v : Value) (n : Nat) (us : List Value) : Prop :=
  ∃ sa c, v = .slice sa n c ∧ n ≤ c ∧ c ≤ maxLen ∧ (n = 0 ∧ us = [] ∨ ∃ g, sa = some ⟨g, 0, none⟩ ∧ g < w.heap.size ∧ ∀ j u, us[j]? = some u → w.cell? ⟨g, j, none⟩ = some u)

section
variable {T : TypeId} {k : Nat} {w w' : World} {v : Value} {n : Nat} {us : List Value}

theorem BRow.nil (T : TypeId) (k : Nat) (w : World) : BRow T k w (.slice none 0 0) 0 [] := World.ownsRow_nil _ _ _ _
theorem BRow.keep {S : Nat → Prop} (h : BRow T k w v n us) (hk : Keep S w w') (hs : ∀ g, v.ownBlock = some g → ¬ S g) : BRow T k w' v n us := by
  obtain ⟨h0, h | ⟨g, cap, cur, hv, h1, h2, h3⟩⟩ := h
  · exact ⟨h0, Or.inl h⟩
  · have hlt := (Array.getElem?_eq_some_iff.1 h2).1
    exact ⟨h0, Or.inr ⟨g, cap, cur, hv, h1, (hk.block g hlt (hs g (by rw [hv]; rfl))).trans h2, h3⟩⟩
theorem BRow.below (h : BRow T k w v n us) (hb : Below w.heap.size w w') : BRow T k w' v n us := h.keep (Keep.of_below (fun _ => False) hb) (fun _ _ h => h)
theorem BRow.blk (h : BRow T k w v n us) {g : Nat} (hg : v.ownBlock = some g) : g < w.heap.size ∧ ∃ cur, w.heap[g]? = some (.cells cur T (0, 0)) := by
  obtain ⟨_, ⟨h, _⟩ | ⟨g', cap, cur, hv, h1, h2, h3⟩⟩ := h
  · rw [h] at hg; cases hg
  · rw [hv] at hg; cases hg
    exact ⟨(Array.getElem?_eq_some_iff.1 h2).1, cur, h2⟩
theorem BRow.form (h : BRow T k w v n us) : ∃ sa c, v = .slice sa n c ∧ n ≤ c ∧ c ≤ maxLen := by
  obtain ⟨_, ⟨h, hn⟩ | ⟨g', cap, cur, hv, h1, h2, h3, h4, _⟩⟩ := h
  · exact ⟨none, 0, by rw [h, hn], by omega, Nat.zero_le _⟩
  · exact ⟨_, _, hv, h3, h4⟩
theorem BRow.len (h : BRow T k w v n us) : us.length = n * k := h.1
theorem BRow.rd (h : BRow T k w v n us) : RowR w v n us := by
  obtain ⟨h0, ⟨hv, hn⟩ | ⟨g, cap, cur, hv, h1, h2, h3, h4, h5, h6⟩⟩ := h
  · exact ⟨none, 0, by rw [hv, hn], by omega, Nat.zero_le _, Or.inl ⟨hn, List.eq_nil_of_length_eq_zero (by rw [h0, hn]; simp)⟩⟩
  · refine ⟨_, _, hv, h3, h4, Or.inr ⟨g, rfl, (Array.getElem?_eq_some_iff.1 h2).1, fun j u hu => ?_⟩⟩
    have hj : j < n * k := by rw [← h0]; exact (List.getElem?_eq_some_iff.1 hu).1
    have h7 : (cur.toList.take (n * k))[j]? = us[j]? := by rw [h6]
    rw [List.getElem?_take_of_lt hj, hu] at h7
    simp only [World.cell?, h2]
    simpa using h7
theorem RowR.keep {S : Nat → Prop} (h : RowR w v n us) (hk : Keep S w w') (hs : ∀ g, v.ownBlock = some g → ¬ S g) : RowR w' v n us := by
  obtain ⟨sa, c, hv, hc, hm, h | ⟨g, hg, hlt, hr⟩⟩ := h
  · exact ⟨sa, c, hv, hc, hm, Or.inl h⟩
  · refine ⟨sa, c, hv, hc, hm, Or.inr ⟨g, hg, Nat.lt_of_lt_of_le hlt hk.size, fun j u hu => ?_⟩⟩
    exact (hk.cell (p := ⟨g, j, none⟩) hlt (hs g (by rw [hv, hg]; rfl))).trans (hr j u hu)
theorem RowR.below (h : RowR w v n us) (hb : Below w.heap.size w w') : RowR w' v n us := h.keep (Keep.of_below (fun _ => False) hb) (fun _ _ h => h)
theorem RowR.form (h : RowR w v n us) : ∃ sa c, v = .slice sa n c ∧ n ≤ c ∧ c ≤ maxLen := by
  obtain ⟨sa, c, hv, hc, hm, _⟩ := h
  exact ⟨sa, c, hv, hc, hm⟩
theorem RowR.blk (h : RowR w v n us) (hn : us ≠ []) {g : Nat} (hg : v.ownBlock = some g) : g < w.heap.size := by
  obtain ⟨sa', c', rfl, hc, hm, ⟨_, rfl⟩ | ⟨g', hg', hlt, hr⟩⟩ := h
  · exact absurd rfl hn
  · rw [hg'] at hg; cases hg; exact hlt
/-- The cell j of a row. -/
theorem RowR.at {sa : Option Addr} {m c : Nat} (h : RowR w (.slice sa m c) n us) (j : Nat) (hj : j < us.length) : ∃ g, sa = some ⟨g, 0, none⟩ ∧ g < w.heap.size ∧ w.cell? ⟨g, j, none⟩ = some us[j] := by
  obtain ⟨sa', c', hv, hc, hm, ⟨_, rfl⟩ | ⟨g, hg, hlt, hr⟩⟩ := h
  · exact absurd hj (Nat.not_lt_zero _)
  · cases hv
    exact ⟨g, hg, hlt, hr j _ (List.getElem?_eq_getElem hj)⟩
theorem RowR.get {sa : Option Addr} {m c : Nat} (h : RowR w (.slice sa m c) n us) {j : Nat} {u : Value} (hj : us[j]? = some u) : ∃ g, sa = some ⟨g, 0, none⟩ ∧ g < w.heap.size ∧ w.cell? ⟨g, j, none⟩ = some u := by
  obtain ⟨hlt, he⟩ := List.getElem?_eq_some_iff.1 hj
  subst he
  exact h.at j hlt
/-- The beginning of a row reads, too. -/
theorem RowR.pre {sa : Option Addr} {m c : Nat} (h : RowR w (.slice sa m c) n us) {n' : Nat} {us' : List Value} (hu : ∀ (j : Nat) (u : Value), us'[j]? = some u → us[j]? = some u) (h0 : us = [] → n' = 0 ∧ us' = []) (c' : Nat) (hc' : n' ≤ c') (hm' : c' ≤ maxLen) :
    RowR w (.slice sa n' c') n' us' := by
  obtain ⟨sa', c1, hv, hc, hm, ⟨h1, rfl⟩ | ⟨g, hg, hlt, hr⟩⟩ := h
  · exact ⟨sa, c', rfl, hc', hm', Or.inl (h0 rfl)⟩
  · cases hv
    exact ⟨sa, c', rfl, hc', hm', Or.inr ⟨g, hg, hlt, fun j u hj => hr j u (hu j u hj)⟩⟩
theorem BRow.base {B : Nat} (h : w.ownsRow B T k v n us) : BRow T k w v n us := by
  obtain ⟨h0, h | ⟨g, cap, cur, hv, h1, h2, h3⟩⟩ := h
  · exact ⟨h0, Or.inl h⟩
  · exact ⟨h0, Or.inr ⟨g, cap, cur, hv, Nat.zero_le _, h2, h3⟩⟩
end

theorem BRow.hnil {T : TypeId} {k : Nat} {w : World} {v : Value} {n : Nat} {us : List Value} (h : BRow T k w v n us) : ∀ n c, v = .slice none n c → c = 0 := by
  intro n' c e
  obtain ⟨_, ⟨h, _⟩ | ⟨g', cap, cur, hv, _⟩⟩ := h
  · rw [h] at e; cases e; rfl
  · rw [hv] at e; cases e
theorem BRow.lt {T : TypeId} {k : Nat} {w : World} {v : Value} {n : Nat} {us : List Value} (h : BRow T k w v n us) : ∀ g, v.ownBlock = some g → g < w.heap.size := fun _ hg => (h.blk hg).1
theorem BRow.fz {T : TypeId} {k : Nat} {w : World} {g n c : Nat} {us : List Value} (h : BRow T k w (.slice (some ⟨g, 0, none⟩) n c) n us) (j : Nat) : w.frozen? ⟨g, j, none⟩ = false := by
  obtain ⟨_, cur, hcur⟩ := h.blk (g := g) rfl
  simp [World.frozen?, hcur]
/-- One cell of a row turns. -/
theorem BRow.set {T : TypeId} {k : Nat} {w : World} {g n c : Nat} {us : List Value} (h : BRow T k w (.slice (some ⟨g, 0, none⟩) n c) n us) (j : Nat) (u : Value) (hj : j < us.length) :
    BRow T k (w.setCell ⟨g, j, none⟩ u) (.slice (some ⟨g, 0, none⟩) n c) n (us.set j u) := by
  obtain ⟨h0, ⟨h, _⟩ | ⟨g', cap, cur, hv, h1, h2, h3, h4, h5, h6⟩⟩ := h
  · cases h
  · cases hv
    refine ⟨by rw [List.length_set]; exact h0, Or.inr ⟨g, c, cur.setIfInBounds j u, rfl, Nat.zero_le _, ?_, h3, h4, by rw [Array.size_setIfInBounds]; exact h5, ?_⟩⟩
    · simp [World.setCell, Array.getElem?_modify, h2]
    · rw [Array.toList_setIfInBounds, List.take_set, h6]
/-- A shorter row in the same block reads, too. -/
theorem RowR.same {T : TypeId} {k : Nat} {w : World} {v x : Value} {n m : Nat} {us xs : List Value} (h : BRow T k w v n us) {w0 : World} (hx : RowR w0 x m xs) (hb : x.ownBlock = v.ownBlock) (hp : ∀ (j : Nat) (u : Value), xs[j]? = some u → us[j]? = some u) : RowR w x m xs := by
  obtain ⟨sa, c, rfl, hc, hm, h1 | ⟨g, rfl, hlt, hr⟩⟩ := hx
  · exact ⟨sa, c, rfl, hc, hm, .inl h1⟩
  · have hb' : v.ownBlock = some g := hb.symm
    obtain ⟨h0, ⟨hv, hn⟩ | ⟨g', cap, cur, hv, h1, h2, h3, h4, h5, h6⟩⟩ := h
    · rw [hv] at hb'; cases hb'
    · rw [hv] at hb'; cases hb'
      refine ⟨_, c, rfl, hc, hm, .inr ⟨_, rfl, (Array.getElem?_eq_some_iff.1 h2).1, fun j u hj => ?_⟩⟩
      have h7 := hp j u hj
      rw [← h6] at h7
      have h8 : cur.toList[j]? = some u := by
        rw [List.getElem?_take] at h7
        split at h7
        · exact h7
        · cases h7
      simp only [World.cell?, h2]
      simpa using h8

/-- What is told of a type whose rows grow: a record has k cells. -/
structure RowT (P : Program) (TS T : TypeId) (k by' : Nat) : Prop where
  ht : P.underlying TS = some (.slice T)
  hi : ∃ i z, P.info? T = some i ∧ i.zero = some z ∧ i.size = k ∧ i.bytes = by' ∧ z.cells.size = k
  hk : 0 < k
  hb : by' ≤ 1000

/-- What was appended to reads as before, too. -/
theorem run_append_both {P : Program} (w : World) (t ty e : TypeId) (i : TypeInfo) (z : Value) (size bytes : Nat) (ht : P.underlying t = some (.slice e)) (hi : P.info? e = some i) (hz : i.zero = some z)
    (hsize : i.size = size) (hby : i.bytes = bytes) (hzs : z.cells.size = size) (hsz : 0 < size)
    (v : Value) (n : Nat) (xs : List Value) (hown : w.ownsRow 0 e size v n xs)
    (a : Addr) (m c : Nat) (news : List Value) (hl : news.length = m * size) (hnews : ∀ j u, news[j]? = some u → w.cell? (a.add j) = some u) (h1 : ∀ u ∈ news, u.oneCell' = true)
    (h63 : n + m ≤ maxLen) (hbytes : (n + m) * bytes ≤ 140737488355328) :
    ∃ v' w', (Builtin.append_ #[t, t] ty #[v, .slice (some a) m c]).run P w = .ok v' w' ∧ w'.ownsRow 0 e size v' (n + m) (xs ++ news) ∧ w.grownBy w' v.ownBlock ∧
      (v'.ownBlock = v.ownBlock ∨ v'.ownBlock = some w.heap.size) ∧ w'.ownsRow 0 e size v n xs := by
  obtain ⟨v', w', hr, h2, h3, _, h5⟩ := run_append_own_at (P := P) w 0 t ty e i z size bytes ht hi hz hsize hby hzs hsz v n xs hown a m c news hl hnews h1 h63 hbytes (Nat.zero_le _)
  refine ⟨v', w', hr, h2, h3, h5, ?_⟩
  subst hsize
  have h0 := hown
  rcases hown with ⟨hx, ⟨rfl, rfl⟩ | ⟨g, cap, cur, rfl, hbg, hg, hnc, hcm, hcs, htake⟩⟩
  · have : xs = [] := List.eq_nil_of_length_eq_zero (by simpa using hx)
    subst this
    exact World.ownsRow_nil _ _ _ _
  · by_cases hroom : n + m ≤ cap
    · have hfit : n * i.size + news.length ≤ cur.size := by rw [hl, hcs, ← Nat.add_mul]; exact Nat.mul_le_mul_right _ hroom
      have hr2 := run_append_room (P := P) w t ty e i ht hi g n cap cur hg a m c news hl hnews h1 hroom hfit
      rw [hr2] at hr
      cases hr
      refine ⟨hx, .inr ⟨g, cap, _, rfl, hbg, setRow_heap w g cur _ e _ hg, hnc, hcm, ?_, ?_⟩⟩
      · simp only [List.size_toArray, List.length_append, List.length_take, List.length_drop, Array.length_toList]
        omega
      · simp only [List.append_assoc]
        rw [htake, ← hx]
        exact List.take_left
    · have hsmall : n + m ≤ 9223372036854775807 := by simp only [maxLen] at h63; omega
      have holds : ∀ j u, xs[j]? = some u → w.cell? ((⟨g, 0, none⟩ : Addr).add j) = some u := h0.cells (g := g) rfl
      subst hby
      have hr2 := run_append_grow (P := P) w t ty e i z ht hi hz ⟨g, 0, none⟩ n cap xs hx holds a m c news hl hnews (by omega) (by omega) (growslice_fits (by omega) hbytes)
      rw [hr2] at hr
      cases hr
      exact ⟨hx, .inr ⟨g, cap, cur, rfl, hbg, (heap_alloc_old w.drew _ (show g < w.drew.heap.size from (Array.getElem?_eq_some_iff.1 hg).1)).trans hg, hnc, hcm, hcs, htake⟩⟩

/-- 'out = append(out, x)', x's record laid in a box. -/
theorem wpl_append_rec {P : Program} {TS T : TypeId} {k by' : Nat} (R : RowT P TS T k by') {w : World} {ops : Array Oper} {rest : List Oper} {o : Oper} {a : Act} {Q : Exit → Act → World → Prop} (hgd : o.guard = none) (s x : Operand)
    (ho : o.op = .call { callee := .builtin .append, args := #[s, x], argTypes := #[TS, TS] }) (v : Value) (n : Nat) (us : List Value) (hs : a.eval s = v) (hown : BRow T k w v n us)
    (bx c : Nat) (rec : List Value) (hx : a.eval x = .slice (some ⟨bx, 0, none⟩) 1 c) (hb : w.heap[bx]? = some (.cells rec.toArray T (0, 0))) (hr : rec.length = k) (h1 : ∀ u ∈ rec, u.oneCell' = true) (hlen : n ≤ 1000000)
    (h : ∀ g cap w', BRow T k w' (.slice (some ⟨g, 0, none⟩) (n + 1) cap) (n + 1) (us ++ rec) → Keep (fun k => v.ownBlock = some k) w w' → (v.ownBlock = some g ∨ g = w.heap.size) →
      wpList P ops Q rest (a.put o.dst (.slice (some ⟨g, 0, none⟩) (n + 1) cap)) w') : wpList P ops Q (o :: rest) a w := by
  obtain ⟨i, z, hi, hz, hsz, hby, hzs⟩ := R.hi
  refine wpList_append_lies (P := P) (w := w) hgd s x TS ho 0 T i z k by' R.ht hi hz hsz hby hzs R.hk v n us hs hown ⟨bx, 0, none⟩ 1 c rec hx (by rw [hr]; omega)
    (World.news_of_block hb) h1 (by omega) (by unfold maxLen; omega) ?_ (Nat.zero_le _) w.heap.size rfl ?_
  · have := R.hb
    have h2 : (n + 1) * by' ≤ (n + 1) * 1000 := Nat.mul_le_mul_left _ this
    omega
  intro g cap w' h1 h2 h3 _
  exact h g cap w' h1 (keep_of_grown h2) h3

/-- So at a step of a region that draws. -/
theorem step_append_rec {P : Program} {TS T : TypeId} {k by' : Nat} (R : RowT P TS T k by') {w : World} {ops : Array Oper} {o : Oper} {a : Act} {K : Act → World → Prop} {Q : Exit → Act → World → Prop} {E : Prop} (hgd : o.guard = none) (s x : Operand)
    (ho : o.op = .call { callee := .builtin .append, args := #[s, x], argTypes := #[TS, TS] }) (v : Value) (n : Nat) (us : List Value) (hs : a.eval s = v) (hown : BRow T k w v n us)
    (bx c : Nat) (rec : List Value) (hx : a.eval x = .slice (some ⟨bx, 0, none⟩) 1 c) (hb : w.heap[bx]? = some (.cells rec.toArray T (0, 0))) (hr : rec.length = k) (h1 : ∀ u ∈ rec, u.oneCell' = true) (hlen : n ≤ 1000000)
    (h : ∀ g cap w', BRow T k w' (.slice (some ⟨g, 0, none⟩) (n + 1) cap) (n + 1) (us ++ rec) → Keep (fun k => v.ownBlock = some k) w w' → (v.ownBlock = some g ∨ g = w.heap.size) →
      K (a.put o.dst (.slice (some ⟨g, 0, none⟩) (n + 1) cap)) w') : if Region.wanted o (yielded ops a.tmps) = true then Oper.wp P o a w K Q else E := by
  obtain ⟨i, z, hi, hz, hsz, hby, hzs⟩ := R.hi
  refine step_append_lies (P := P) (w := w) hgd s x TS ho 0 T i z k by' R.ht hi hz hsz hby hzs R.hk v n us hs hown ⟨bx, 0, none⟩ 1 c rec hx (by rw [hr]; omega)
    (World.news_of_block hb) h1 (by omega) (by unfold maxLen; omega) ?_ (Nat.zero_le _) w.heap.size rfl ?_
  · have := R.hb
    have h2 : (n + 1) * by' ≤ (n + 1) * 1000 := Nat.mul_le_mul_left _ this
    omega
  intro g cap w' h1 h2 h3 _
  exact h g cap w' h1 (keep_of_grown h2) h3

/-- 'append(out, l...)', l a row that reads; what was appended to reads as before. -/
theorem wpl_append_row {P : Program} {TS T : TypeId} {k by' : Nat} (R : RowT P TS T k by') {w : World} {ops : Array Oper} {rest : List Oper} {o : Oper} {a : Act} {Q : Exit → Act → World → Prop} (hgd : o.guard = none) (s x : Operand)
    (ho : o.op = .call { callee := .builtin .append, args := #[s, x], argTypes := #[TS, TS] }) (v : Value) (n : Nat) (us : List Value) (hs : a.eval s = v) (hown : BRow T k w v n us)
    (xv : Value) (n' : Nat) (us' : List Value) (hx : a.eval x = xv) (hr : RowR w xv n' us') (hnil : ∀ n c, xv = .slice none n c → c = 0) (hul : us'.length = n' * k) (h1 : ∀ u ∈ us', u.oneCell' = true) (hlen : n + n' ≤ 1000000)
    (h : ∀ v' w', BRow T k w' v' (n + n') (us ++ us') → BRow T k w' v n us → Keep (fun k => v.ownBlock = some k) w w' → (v'.ownBlock = v.ownBlock ∨ v'.ownBlock = some w.heap.size) → wpList P ops Q rest (a.put o.dst v') w') : wpList P ops Q (o :: rest) a w := by
  obtain ⟨i, z, hi, hz, hsz, hby, hzs⟩ := R.hi
  obtain ⟨sa, c, rfl, hc, hm⟩ := hr.form
  cases sa with
  | none =>
    have h0 := hnil _ _ rfl
    subst h0
    obtain rfl : n' = 0 := by omega
    have e : us' = [] := List.eq_nil_of_length_eq_zero (by rw [hul]; simp)
    subst e
    refine wpList_append_own_none hgd s x TS ho 0 T i k R.ht hi v n us hs hown hx ?_
    exact h v w (by rw [List.append_nil]; exact hown) hown (Keep.refl _ _) (Or.inl rfl)
  | some ad =>
    have hfl : ∀ j u, us'[j]? = some u → w.cell? (ad.add j) = some u := by
      intro j u hj
      obtain ⟨g, hg, _, hc⟩ := hr.at j (List.getElem?_eq_some_iff.1 hj).1
      cases hg
      have e : (⟨g, 0, none⟩ : Addr).add j = ⟨g, j, none⟩ := by rw [Addr.add_lit, Nat.zero_add]
      rw [e, hc]
      exact (List.getElem?_eq_getElem _).symm.trans hj
    refine wpList_plain hgd fun K hK => ?_
    obtain ⟨v', w', hrun, h2, h3, h4, h5⟩ := run_append_both (P := P) w TS o.type T i z k by' R.ht hi hz hsz hby hzs R.hk v n us hown ad n' c us' hul hfl h1 (by unfold maxLen; omega)
      (by have := R.hb
          have h2 : (n + n') * by' ≤ (n + n') * 1000 := Nat.mul_le_mul_left _ this
          omega)
    unfold Oper.wp execOp
    simp only [ho, resolve, invoke, builtin, Sem.run_bind, Sem.run_pure, Result.andThen_ok, List.map_toArray, List.map_cons, List.map_nil, hs, hx, hrun]
    exact hK _ _ (h v' w' h2 h5 (keep_of_grown h3) h4)
end Go.Tg
