import Derived.Test.YtignponfoheaeaaGreatRAC
import Derived.Deep.AppendLies
import Derived.Maps.AppendAt
import Derived.Laws.AppendOwnNone
set_option linter.unusedVariables false
set_option linter.unusedSimpArgs false
set_option maxHeartbeats 16000000
namespace Go.Tg
open Go Go.RowKit Go.Maps
def BRow (T : TypeId) (k : Nat) (w : World) (v : Value) (n : Nat) (us : List Value) : Prop := w.ownsRow 0 T k v n us
def RowR (w : World) (v : Value) (n : Nat) (us : List Value) : Prop :=
 ∃ sa c, v = .slice sa n c /\ n <= c /\ c <= maxLen /\ (n = 0 /\ us = [] \/ ∃ g, sa = some ⟨g, 0, none⟩ /\ g < w.heap.size /\ ∀ j u, us[j]? = some u -> w.cell? ⟨g, j, none⟩ = some u)
section
variable {T : TypeId} {k : Nat} {w w' : World} {v : Value} {n : Nat} {us : List Value}
theorem BRow.nil (T : TypeId) (k : Nat) (w : World) : BRow T k w (.slice none 0 0) 0 [] := World.ownsRow_nil _ _ _ _
theorem BRow.keep {S : Nat -> Prop} (h : BRow T k w v n us) (hk : Keep S w w') (hs : ∀ g, v.ownBlock = some g -> ¬ S g) : BRow T k w' v n us := by
 obtain ⟨h0, h | ⟨g, cap, cur, hv, h1, h2, h3⟩⟩ := h
 . exact ⟨h0, Or.inl h⟩
 . have hlt := (Array.getElem?_eq_some_iff.1 h2).1; exact ⟨h0, Or.inr ⟨g, cap, cur, hv, h1, (hk.block g hlt (hs g (by rw [hv]; rfl))).trans h2, h3⟩⟩
theorem BRow.below (h : BRow T k w v n us) (hb : Below w.heap.size w w') : BRow T k w' v n us := h.keep (Keep.of_below (fun _ => False) hb) (fun _ _ h => h)
theorem BRow.blk (h : BRow T k w v n us) {g : Nat} (hg : v.ownBlock = some g) : g < w.heap.size /\ ∃ cur, w.heap[g]? = some (.cells cur T (0, 0)) := by
 obtain ⟨_, ⟨h, _⟩ | ⟨g', cap, cur, hv, h1, h2, h3⟩⟩ := h
 . rw [h] at hg; cases hg
 . rw [hv] at hg; cases hg; exact ⟨(Array.getElem?_eq_some_iff.1 h2).1, cur, h2⟩
theorem BRow.form (h : BRow T k w v n us) : ∃ sa c, v = .slice sa n c /\ n <= c /\ c <= maxLen := by
 obtain ⟨_, ⟨h, hn⟩ | ⟨g', cap, cur, hv, h1, h2, h3, h4, _⟩⟩ := h
 . exact ⟨none, 0, by rw [h, hn], by omega, Nat.zero_le _⟩
 . exact ⟨_, _, hv, h3, h4⟩
theorem BRow.len (h : BRow T k w v n us) : us.length = n * k := h.1
theorem BRow.rd (h : BRow T k w v n us) : RowR w v n us := by
 obtain ⟨h0, ⟨hv, hn⟩ | ⟨g, cap, cur, hv, h1, h2, h3, h4, h5, h6⟩⟩ := h
 . exact ⟨none, 0, by rw [hv, hn], by omega, Nat.zero_le _, Or.inl ⟨hn, List.eq_nil_of_length_eq_zero (by rw [h0, hn]; simp)⟩⟩
 . refine ⟨_, _, hv, h3, h4, Or.inr ⟨g, rfl, (Array.getElem?_eq_some_iff.1 h2).1, fun j u hu => ?_⟩⟩; have hj : j < n * k := by rw [<- h0]; exact (List.getElem?_eq_some_iff.1 hu).1
   have h7 : (cur.toList.take (n * k))[j]? = us[j]? := by rw [h6]
   rw [List.getElem?_take_of_lt hj, hu] at h7; simp only [World.cell?, h2]
   simpa using h7
theorem RowR.keep {S : Nat -> Prop} (h : RowR w v n us) (hk : Keep S w w') (hs : ∀ g, v.ownBlock = some g -> ¬ S g) : RowR w' v n us := by
 obtain ⟨sa, c, hv, hc, hm, h | ⟨g, hg, hlt, hr⟩⟩ := h
 . exact ⟨sa, c, hv, hc, hm, Or.inl h⟩
 . refine ⟨sa, c, hv, hc, hm, Or.inr ⟨g, hg, Nat.lt_of_lt_of_le hlt hk.size, fun j u hu => ?_⟩⟩; exact (hk.cell (p := ⟨g, j, none⟩) hlt (hs g (by rw [hv, hg]; rfl))).trans (hr j u hu)
theorem RowR.below (h : RowR w v n us) (hb : Below w.heap.size w w') : RowR w' v n us := h.keep (Keep.of_below (fun _ => False) hb) (fun _ _ h => h)
theorem RowR.form (h : RowR w v n us) : ∃ sa c, v = .slice sa n c /\ n <= c /\ c <= maxLen := by
 obtain ⟨sa, c, hv, hc, hm, _⟩ := h; exact ⟨sa, c, hv, hc, hm⟩
theorem RowR.at {sa : Option Addr} {m c : Nat} (h : RowR w (.slice sa m c) n us) (j : Nat) (hj : j < us.length) : ∃ g, sa = some ⟨g, 0, none⟩ /\ g < w.heap.size /\ w.cell? ⟨g, j, none⟩ = some us[j] := by
 obtain ⟨sa', c', hv, hc, hm, ⟨_, rfl⟩ | ⟨g, hg, hlt, hr⟩⟩ := h
 . exact absurd hj (Nat.not_lt_zero _)
 . cases hv
   exact ⟨g, hg, hlt, hr j _ (List.getElem?_eq_getElem hj)⟩
theorem RowR.get {sa : Option Addr} {m c : Nat} (h : RowR w (.slice sa m c) n us) {j : Nat} {u : Value} (hj : us[j]? = some u) : ∃ g, sa = some ⟨g, 0, none⟩ /\ g < w.heap.size /\ w.cell? ⟨g, j, none⟩ = some u := by
 obtain ⟨hlt, he⟩ := List.getElem?_eq_some_iff.1 hj; subst he; exact h.at j hlt
theorem BRow.base {B : Nat} (h : w.ownsRow B T k v n us) : BRow T k w v n us := by
 obtain ⟨h0, h | ⟨g, cap, cur, hv, h1, h2, h3⟩⟩ := h
 . exact ⟨h0, Or.inl h⟩
 . exact ⟨h0, Or.inr ⟨g, cap, cur, hv, Nat.zero_le _, h2, h3⟩⟩
end
theorem BRow.hnil {T : TypeId} {k : Nat} {w : World} {v : Value} {n : Nat} {us : List Value} (h : BRow T k w v n us) : ∀ n c, v = .slice none n c -> c = 0 := by
 intro n' c e; obtain ⟨_, ⟨h, _⟩ | ⟨g', cap, cur, hv, _⟩⟩ := h
 . rw [h] at e; cases e; rfl
 . rw [hv] at e; cases e
theorem BRow.lt {T : TypeId} {k : Nat} {w : World} {v : Value} {n : Nat} {us : List Value} (h : BRow T k w v n us) : ∀ g, v.ownBlock = some g -> g < w.heap.size := fun _ hg => (h.blk hg).1
theorem BRow.fz {T : TypeId} {k : Nat} {w : World} {g n c : Nat} {us : List Value} (h : BRow T k w (.slice (some ⟨g, 0, none⟩) n c) n us) (j : Nat) : w.frozen? ⟨g, j, none⟩ = false := by
 obtain ⟨_, cur, hcur⟩ := h.blk (g := g) rfl; simp [World.frozen?, hcur]
theorem BRow.set {T : TypeId} {k : Nat} {w : World} {g n c : Nat} {us : List Value} (h : BRow T k w (.slice (some ⟨g, 0, none⟩) n c) n us) (j : Nat) (u : Value) (hj : j < us.length) :
 BRow T k (w.setCell ⟨g, j, none⟩ u) (.slice (some ⟨g, 0, none⟩) n c) n (us.set j u) := by
 obtain ⟨h0, ⟨h, _⟩ | ⟨g', cap, cur, hv, h1, h2, h3, h4, h5, h6⟩⟩ := h
 . cases h
 . cases hv
   refine ⟨by rw [List.length_set]; exact h0, Or.inr ⟨g, c, cur.setIfInBounds j u, rfl, Nat.zero_le _, ?_, h3, h4, by rw [Array.size_setIfInBounds]; exact h5, ?_⟩⟩
   . simp [World.setCell, Array.getElem?_modify, h2]
   . rw [Array.toList_setIfInBounds, List.take_set, h6]
theorem RowR.same {T : TypeId} {k : Nat} {w : World} {v x : Value} {n m : Nat} {us xs : List Value} (h : BRow T k w v n us) {w0 : World} (hx : RowR w0 x m xs) (hb : x.ownBlock = v.ownBlock) (hp : ∀ (j : Nat) (u : Value), xs[j]? = some u -> us[j]? = some u) : RowR w x m xs := by
 obtain ⟨sa, c, rfl, hc, hm, h1 | ⟨g, rfl, hlt, hr⟩⟩ := hx
 . exact ⟨sa, c, rfl, hc, hm, .inl h1⟩
 . have hb' : v.ownBlock = some g := hb.symm; obtain ⟨h0, ⟨hv, hn⟩ | ⟨g', cap, cur, hv, h1, h2, h3, h4, h5, h6⟩⟩ := h
   . rw [hv] at hb'; cases hb'
   . rw [hv] at hb'; cases hb'; refine ⟨_, c, rfl, hc, hm, .inr ⟨_, rfl, (Array.getElem?_eq_some_iff.1 h2).1, fun j u hj => ?_⟩⟩; have h7 := hp j u hj; rw [<- h6] at h7
     have h8 : cur.toList[j]? = some u := by
      rw [List.getElem?_take] at h7
      split at h7
      . exact h7
      . cases h7
     simp only [World.cell?, h2]
     simpa using h8
structure RowT (P : Program) (TS T : TypeId) (k by' : Nat) : Prop where
 ht : P.underlying TS = some (.slice T)
 hi : ∃ i z, P.info? T = some i /\ i.zero = some z /\ i.size = k /\ i.bytes = by' /\ z.cells.size = k
 hk : 0 < k
 hb : by' <= 1000
theorem run_append_both {P : Program} (w : World) (t ty e : TypeId) (i : TypeInfo) (z : Value) (size bytes : Nat) (ht : P.underlying t = some (.slice e)) (hi : P.info? e = some i) (hz : i.zero = some z)
 (hsize : i.size = size) (hby : i.bytes = bytes) (hzs : z.cells.size = size) (hsz : 0 < size)
 (v : Value) (n : Nat) (xs : List Value) (hown : w.ownsRow 0 e size v n xs)
 (a : Addr) (m c : Nat) (news : List Value) (hl : news.length = m * size) (hnews : ∀ j u, news[j]? = some u -> w.cell? (a.add j) = some u) (h1 : ∀ u ∈ news, u.oneCell' = true)
 (h63 : n + m <= maxLen) (hbytes : (n + m) * bytes <= 140737488355328) :
 ∃ v' w', (Builtin.append_ #[t, t] ty #[v, .slice (some a) m c]).run P w = .ok v' w' /\ w'.ownsRow 0 e size v' (n + m) (xs ++ news) /\ w.grownBy w' v.ownBlock /\
  (v'.ownBlock = v.ownBlock \/ v'.ownBlock = some w.heap.size) /\ w'.ownsRow 0 e size v n xs := by
 obtain ⟨v', w', hr, h2, h3, _, h5⟩ := run_append_own_at (P := P) w 0 t ty e i z size bytes ht hi hz hsize hby hzs hsz v n xs hown a m c news hl hnews h1 h63 hbytes (Nat.zero_le _); refine ⟨v', w', hr, h2, h3, h5, ?_⟩; subst hsize; have h0 := hown
 rcases hown with ⟨hx, ⟨rfl, rfl⟩ | ⟨g, cap, cur, rfl, hbg, hg, hnc, hcm, hcs, htake⟩⟩
 . have : xs = [] := List.eq_nil_of_length_eq_zero (by simpa using hx); subst this; exact World.ownsRow_nil _ _ _ _
 . by_cases hroom : n + m <= cap
   . have hfit : n * i.size + news.length <= cur.size := by rw [hl, hcs, <- Nat.add_mul]; exact Nat.mul_le_mul_right _ hroom
     have hr2 := run_append_room (P := P) w t ty e i ht hi g n cap cur hg a m c news hl hnews h1 hroom hfit; rw [hr2] at hr; cases hr
     refine ⟨hx, .inr ⟨g, cap, _, rfl, hbg, setRow_heap w g cur _ e _ hg, hnc, hcm, ?_, ?_⟩⟩
     . simp only [List.size_toArray, List.length_append, List.length_take, List.length_drop, Array.length_toList]; omega
     . simp only [List.append_assoc]; rw [htake, <- hx]; exact List.take_left
   . have hsmall : n + m <= 9223372036854775807 := by simp only [maxLen] at h63; omega
     have holds : ∀ j u, xs[j]? = some u -> w.cell? ((⟨g, 0, none⟩ : Addr).add j) = some u := h0.cells (g := g) rfl; subst hby; have hr2 := run_append_grow (P := P) w t ty e i z ht hi hz ⟨g, 0, none⟩ n cap xs hx holds a m c news hl hnews (by omega) (by omega) (growslice_fits (by omega) hbytes); rw [hr2] at hr; cases hr
     exact ⟨hx, .inr ⟨g, cap, cur, rfl, hbg, (heap_alloc_old w.drew _ (show g < w.drew.heap.size from (Array.getElem?_eq_some_iff.1 hg).1)).trans hg, hnc, hcm, hcs, htake⟩⟩
theorem wpl_append_rec {P : Program} {TS T : TypeId} {k by' : Nat} (R : RowT P TS T k by') {w : World} {ops : Array Oper} {rest : List Oper} {o : Oper} {a : Act} {Q : Exit -> Act -> World -> Prop} (hgd : o.guard = none) (s x : Operand)
 (ho : o.op = .call { callee := .builtin .append, args := #[s, x], argTypes := #[TS, TS] }) (v : Value) (n : Nat) (us : List Value) (hs : a.eval s = v) (hown : BRow T k w v n us)
 (bx c : Nat) (rec : List Value) (hx : a.eval x = .slice (some ⟨bx, 0, none⟩) 1 c) (hb : w.heap[bx]? = some (.cells rec.toArray T (0, 0))) (hr : rec.length = k) (h1 : ∀ u ∈ rec, u.oneCell' = true) (hlen : n <= 1000000)
 (h : ∀ g cap w', BRow T k w' (.slice (some ⟨g, 0, none⟩) (n + 1) cap) (n + 1) (us ++ rec) -> Keep (fun k => v.ownBlock = some k) w w' -> (v.ownBlock = some g \/ g = w.heap.size) ->
  wpList P ops Q rest (a.put o.dst (.slice (some ⟨g, 0, none⟩) (n + 1) cap)) w') : wpList P ops Q (o :: rest) a w := by
 obtain ⟨i, z, hi, hz, hsz, hby, hzs⟩ := R.hi
 refine wpList_append_lies (P := P) (w := w) hgd s x TS ho 0 T i z k by' R.ht hi hz hsz hby hzs R.hk v n us hs hown ⟨bx, 0, none⟩ 1 c rec hx (by rw [hr]; omega)
  (World.news_of_block hb) h1 (by omega) (by unfold maxLen; omega) ?_ (Nat.zero_le _) w.heap.size rfl ?_
 . have := R.hb; have h2 : (n + 1) * by' <= (n + 1) * 1000 := Nat.mul_le_mul_left _ this
   omega
 intro g cap w' h1 h2 h3 _; exact h g cap w' h1 (keep_of_grown h2) h3
theorem step_append_rec {P : Program} {TS T : TypeId} {k by' : Nat} (R : RowT P TS T k by') {w : World} {ops : Array Oper} {o : Oper} {a : Act} {K : Act -> World -> Prop} {Q : Exit -> Act -> World -> Prop} {E : Prop} (hgd : o.guard = none) (s x : Operand)
 (ho : o.op = .call { callee := .builtin .append, args := #[s, x], argTypes := #[TS, TS] }) (v : Value) (n : Nat) (us : List Value) (hs : a.eval s = v) (hown : BRow T k w v n us)
 (bx c : Nat) (rec : List Value) (hx : a.eval x = .slice (some ⟨bx, 0, none⟩) 1 c) (hb : w.heap[bx]? = some (.cells rec.toArray T (0, 0))) (hr : rec.length = k) (h1 : ∀ u ∈ rec, u.oneCell' = true) (hlen : n <= 1000000)
 (h : ∀ g cap w', BRow T k w' (.slice (some ⟨g, 0, none⟩) (n + 1) cap) (n + 1) (us ++ rec) -> Keep (fun k => v.ownBlock = some k) w w' -> (v.ownBlock = some g \/ g = w.heap.size) ->
  K (a.put o.dst (.slice (some ⟨g, 0, none⟩) (n + 1) cap)) w') : if Region.wanted o (yielded ops a.tmps) = true then Oper.wp P o a w K Q else E := by
 obtain ⟨i, z, hi, hz, hsz, hby, hzs⟩ := R.hi
 refine step_append_lies (P := P) (w := w) hgd s x TS ho 0 T i z k by' R.ht hi hz hsz hby hzs R.hk v n us hs hown ⟨bx, 0, none⟩ 1 c rec hx (by rw [hr]; omega)
  (World.news_of_block hb) h1 (by omega) (by unfold maxLen; omega) ?_ (Nat.zero_le _) w.heap.size rfl ?_
 . have := R.hb; have h2 : (n + 1) * by' <= (n + 1) * 1000 := Nat.mul_le_mul_left _ this
   omega
 intro g cap w' h1 h2 h3 _; exact h g cap w' h1 (keep_of_grown h2) h3
theorem wpl_append_row {P : Program} {TS T : TypeId} {k by' : Nat} (R : RowT P TS T k by') {w : World} {ops : Array Oper} {rest : List Oper} {o : Oper} {a : Act} {Q : Exit -> Act -> World -> Prop} (hgd : o.guard = none) (s x : Operand)
 (ho : o.op = .call { callee := .builtin .append, args := #[s, x], argTypes := #[TS, TS] }) (v : Value) (n : Nat) (us : List Value) (hs : a.eval s = v) (hown : BRow T k w v n us)
 (xv : Value) (n' : Nat) (us' : List Value) (hx : a.eval x = xv) (hr : RowR w xv n' us') (hnil : ∀ n c, xv = .slice none n c -> c = 0) (hul : us'.length = n' * k) (h1 : ∀ u ∈ us', u.oneCell' = true) (hlen : n + n' <= 1000000)
 (h : ∀ v' w', BRow T k w' v' (n + n') (us ++ us') -> BRow T k w' v n us -> Keep (fun k => v.ownBlock = some k) w w' -> (v'.ownBlock = v.ownBlock \/ v'.ownBlock = some w.heap.size) -> wpList P ops Q rest (a.put o.dst v') w') : wpList P ops Q (o :: rest) a w := by
 obtain ⟨i, z, hi, hz, hsz, hby, hzs⟩ := R.hi; obtain ⟨sa, c, rfl, hc, hm⟩ := hr.form
 cases sa with
 | none =>
  have h0 := hnil _ _ rfl; subst h0; obtain rfl : n' = 0 := by omega
  have e : us' = [] := List.eq_nil_of_length_eq_zero (by rw [hul]; simp); subst e; refine wpList_append_own_none hgd s x TS ho 0 T i k R.ht hi v n us hs hown hx ?_; exact h v w (by rw [List.append_nil]; exact hown) hown (Keep.refl _ _) (Or.inl rfl)
 | some ad =>
  have hfl : ∀ j u, us'[j]? = some u -> w.cell? (ad.add j) = some u := by
   intro j u hj; obtain ⟨g, hg, _, hc⟩ := hr.at j (List.getElem?_eq_some_iff.1 hj).1; cases hg
   have e : (⟨g, 0, none⟩ : Addr).add j = ⟨g, j, none⟩ := by rw [Addr.add_lit, Nat.zero_add]
   rw [e, hc]; exact (List.getElem?_eq_getElem _).symm.trans hj
  refine wpList_plain hgd fun K hK => ?_
  obtain ⟨v', w', hrun, h2, h3, h4, h5⟩ := run_append_both (P := P) w TS o.type T i z k by' R.ht hi hz hsz hby hzs R.hk v n us hown ad n' c us' hul hfl h1 (by unfold maxLen; omega)
   (by
    have := R.hb; have h2 : (n + n') * by' <= (n + n') * 1000 := Nat.mul_le_mul_left _ this
    omega)
  unfold Oper.wp execOp; simp only [ho, resolve, invoke, builtin, Sem.run_bind, Sem.run_pure, Result.andThen_ok, List.map_toArray, List.map_cons, List.map_nil, hs, hx, hrun]; exact hK _ _ (h v' w' h2 h5 (keep_of_grown h3) h4)
end Go.Tg
namespace Go.Tg
open Go Go.RowKit Go.Maps
def upN {α : Type} (f : Nat -> α) (i : Nat) (v : α) : Nat -> α := fun j => if j = i then v else f j
theorem upN_same {α : Type} (f : Nat -> α) (i : Nat) (v : α) : upN f i v i = v := if_pos rfl
theorem upN_ne {α : Type} (f : Nat -> α) {i j : Nat} (v : α) (h : j ≠ i) : upN f i v j = f j := if_neg h
def marksC (mk : Nat -> Nat -> List Value) (i f n : Nat) : List Value := (List.range n).flatMap fun j => mk i (f + j)
section
variable (mk : Nat -> Nat -> List Value) {k : Nat} (hk : ∀ i j, (mk i j).length = k)
theorem marksC_snoc (i f n : Nat) : marksC mk i f (n + 1) = marksC mk i f n ++ mk i (f + n) := by
 unfold marksC; rw [List.range_succ, List.flatMap_append]; simp
theorem marksC_app (i n m : Nat) : marksC mk i 0 n ++ marksC mk i n m = marksC mk i 0 (n + m) := by
 induction m with
 | zero => simp [marksC]
 | succ m ih => rw [marksC_snoc, <- List.append_assoc, ih, <- Nat.add_assoc, marksC_snoc, Nat.zero_add]
include hk in
theorem marksC_len (i f n : Nat) : (marksC mk i f n).length = n * k := by
 induction n with
 | zero => simp [marksC]
 | succ n ih => rw [marksC_snoc, List.length_append, ih, hk, Nat.succ_mul]
theorem marksC_pre (i n m j : Nat) (u : Value) (h : (marksC mk i 0 n)[j]? = some u) : (marksC mk i 0 (n + m))[j]? = some u := by
 rw [<- marksC_app, List.getElem?_append_left (List.getElem?_eq_some_iff.1 h).1]; exact h
include hk in
theorem marksC_get (i f n j q : Nat) (hj : j < n) (hq : q < k) : (marksC mk i f n)[j * k + q]? = (mk i (f + j))[q]? := by
 induction n with
 | zero => omega
 | succ n ih =>
  rw [marksC_snoc]
  by_cases h : j < n
  . have h2 : (j + 1) * k <= n * k := Nat.mul_le_mul_right _ h; rw [Nat.succ_mul] at h2; rw [List.getElem?_append_left (by rw [marksC_len mk hk]; omega)]; exact ih h
  . obtain rfl : j = n := by omega
    rw [List.getElem?_append_right (by rw [marksC_len mk hk]; omega), marksC_len mk hk]
    congr 1; omega
theorem marksC_one (h1 : ∀ i j, ∀ u ∈ mk i j, u.oneCell' = true) (i f n : Nat) : ∀ u ∈ marksC mk i f n, u.oneCell' = true := by
 intro u hu; obtain ⟨j, _, hj⟩ := List.mem_flatMap.1 hu; exact h1 i (f + j) u hj
end
structure XV (T TS : TypeId) (k : Nat) (w : World) (v : Value) (n : Nat) (X : Nat -> Value) (m : Nat -> Nat) (cs : Nat -> List Value) : Prop where
 r : BRow TS 1 w v n ((List.range n).map X)
 e : ∀ i, i < n -> BRow T k w (X i) (m i) (cs i)
 ne : ∀ i j, i < n -> j < n -> i ≠ j -> ∀ g, (X i).ownBlock = some g -> (X j).ownBlock = some g -> False
def XHas (v : Value) (n : Nat) (X : Nat -> Value) (g : Nat) : Prop := v.ownBlock = some g \/ ∃ i, i < n /\ (X i).ownBlock = some g
theorem row_ne {w : World} {T T' : TypeId} {k k' : Nat} {v v' : Value} {n n' : Nat} {us us' : List Value} (h : BRow T k w v n us) (h' : BRow T' k' w v' n' us') (hT : T ≠ T') : ∀ g, v.ownBlock = some g -> v'.ownBlock = some g -> False := by
 intro g h1 h2; obtain ⟨_, c1, e1⟩ := h.blk h1; obtain ⟨_, c2, e2⟩ := h'.blk h2; rw [e1] at e2; cases e2
 exact hT rfl
section
variable {T TS : TypeId} {k : Nat} {w w' : World} {v : Value} {n : Nat} {X : Nat -> Value} {m : Nat -> Nat} {cs : Nat -> List Value}
theorem XV.keep {Z : Nat -> Prop} (h : XV T TS k w v n X m cs) (hk : Keep Z w w') (hs : ∀ g, XHas v n X g -> ¬ Z g) : XV T TS k w' v n X m cs where
 r := h.r.keep hk fun g hg => hs g (.inl hg)
 e := fun i hi => (h.e i hi).keep hk fun g hg => hs g (.inr ⟨i, hi, hg⟩)
 ne := h.ne
theorem XV.below (h : XV T TS k w v n X m cs) (hb : Below w.heap.size w w') : XV T TS k w' v n X m cs := h.keep (Keep.of_below (fun _ => False) hb) (fun _ _ h => h)
theorem XV.lt (h : XV T TS k w v n X m cs) {g : Nat} (hg : XHas v n X g) : g < w.heap.size := by
 rcases hg with hg | ⟨i, hi, hg⟩
 . exact (h.r.blk hg).1
 . exact ((h.e i hi).blk hg).1
theorem XV.rowNe (h : XV T TS k w v n X m cs) (hT : TS ≠ T) : ∀ i, i < n -> ∀ g, v.ownBlock = some g -> (X i).ownBlock = some g -> False := fun i hi => row_ne h.r (h.e i hi) hT
theorem XV.nil (T TS : TypeId) (k : Nat) (w : World) (X : Nat -> Value) (m : Nat -> Nat) (cs : Nat -> List Value) : XV T TS k w (.slice none 0 0) 0 X m cs where
 r := BRow.nil _ _ _
 e := fun i hi => absurd hi (Nat.not_lt_zero _)
 ne := fun i _ hi => absurd hi (Nat.not_lt_zero _)
theorem XV.add (h : XV T TS k w v n X m cs) (hT : TS ≠ T) {v' x : Value} {mx : Nat} {cx : List Value} (hx : BRow T k w x mx cx) (hxn : ∀ i, i < n -> ∀ g, x.ownBlock = some g -> (X i).ownBlock = some g -> False)
 (hr : BRow TS 1 w' v' (n + 1) ((List.range n).map X ++ [x])) (hk : Keep (fun k => v.ownBlock = some k) w w') : XV T TS k w' v' (n + 1) (upN X n x) (upN m n mx) (upN cs n cx) where
 r := by
  have e : (List.range (n + 1)).map (upN X n x) = (List.range n).map X ++ [x] := by
   rw [List.range_succ, List.map_append]
   congr 1
   . exact List.map_congr_left fun j hj => upN_ne X x (Nat.ne_of_lt (List.mem_range.1 hj))
   . simp [upN_same]
  rw [e]; exact hr
 e := fun i hi => by
  by_cases hin : i = n
  . subst hin; rw [upN_same, upN_same, upN_same]; exact hx.keep hk fun g hg h1 => row_ne h.r hx hT g h1 hg
  . rw [upN_ne X x hin, upN_ne m mx hin, upN_ne cs cx hin]; have hlt : i < n := by omega
    exact (h.e i hlt).keep hk fun g hg h1 => h.rowNe hT i hlt g h1 hg
 ne := fun i j hi hj hij g => by
  by_cases hin : i = n
  . subst hin; rw [upN_same, upN_ne X x (fun e => hij e.symm)]; exact hxn j (by omega) g
  . by_cases hjn : j = n
    . subst hjn; rw [upN_same, upN_ne X x hin]; exact fun h1 h2 => hxn i (by omega) g h2 h1
    . rw [upN_ne X x hin, upN_ne X x hjn]; exact h.ne i j (by omega) (by omega) hij g
theorem XV.turn (h : XV T TS k w v n X m cs) (hT : TS ≠ T) {i : Nat} (hi : i < n) {cx : List Value} (hx : BRow T k w' (X i) (m i) cx) (hk : Keep (fun g => (X i).ownBlock = some g) w w') : XV T TS k w' v n X m (upN cs i cx) where
 r := h.r.keep hk fun g hg h1 => h.rowNe hT i hi g hg h1
 e := fun j hj => by
  by_cases hji : j = i
  . subst hji; rw [upN_same]; exact hx
  . rw [upN_ne cs cx hji]; exact (h.e j hj).keep hk fun g hg h1 => h.ne j i hj hi hji g hg h1
 ne := h.ne
theorem XV.cong (h : XV T TS k w v n X m cs) {cs' : Nat -> List Value} (he : ∀ i, i < n -> cs i = cs' i) : XV T TS k w v n X m cs' where
 r := h.r
 e := fun i hi => by rw [<- he i hi]; exact h.e i hi
 ne := h.ne
theorem XHas.up {x v' : Value} {g : Nat} (h : XHas v' (n + 1) (upN X n x) g) : v'.ownBlock = some g \/ x.ownBlock = some g \/ ∃ i, i < n /\ (X i).ownBlock = some g := by
 rcases h with h | ⟨i, hi, h⟩
 . exact .inl h
 . by_cases hin : i = n
   . subst hin; rw [upN_same] at h; exact .inr (.inl h)
   . rw [upN_ne X x hin] at h; exact .inr (.inr ⟨i, by omega, h⟩)
end
structure KD where
 v1 : Value
 v2 : Value
 n : Nat
 X : Nat -> Value
 Y : Nat -> Value
 m : Nat -> Nat
 cs : Nat -> List Value
 ds : Nat -> List Value
def nilS : Value := .slice none 0 0
def KD.nil : KD := ⟨nilS, nilS, 0, fun _ => nilS, fun _ => nilS, fun _ => 0, fun _ => [], fun _ => []⟩
def KD.Has (D : KD) (g : Nat) : Prop := XHas D.v1 D.n D.X g \/ XHas D.v2 D.n D.Y g
structure ShelfV (T TS : TypeId) (k : Nat) (w : World) (D : KD) : Prop where
 x : XV T TS k w D.v1 D.n D.X D.m D.cs
 y : XV T TS k w D.v2 D.n D.Y D.m D.ds
 nv : ∀ g, D.v1.ownBlock = some g -> D.v2.ownBlock = some g -> False
 nx : ∀ i j, i < D.n -> j < D.n -> ∀ g, (D.X i).ownBlock = some g -> (D.Y j).ownBlock = some g -> False
 le : ∀ i, i < D.n -> D.m i <= 100000
 hn : D.n <= 250
section
variable {T TS : TypeId} {k : Nat} {w w' : World} {D : KD}
theorem ShelfV.keep {Z : Nat -> Prop} (h : ShelfV T TS k w D) (hk : Keep Z w w') (hs : ∀ g, D.Has g -> ¬ Z g) : ShelfV T TS k w' D where
 x := h.x.keep hk fun g hg => hs g (.inl hg)
 y := h.y.keep hk fun g hg => hs g (.inr hg)
 nv := h.nv
 nx := h.nx
 le := h.le
 hn := h.hn
theorem ShelfV.below (h : ShelfV T TS k w D) (hb : Below w.heap.size w w') : ShelfV T TS k w' D := h.keep (Keep.of_below (fun _ => False) hb) (fun _ _ h => h)
theorem ShelfV.lt (h : ShelfV T TS k w D) {g : Nat} (hg : D.Has g) : g < w.heap.size := hg.elim h.x.lt h.y.lt
theorem ShelfV.nil (T TS : TypeId) (k : Nat) (w : World) : ShelfV T TS k w KD.nil where
 x := XV.nil _ _ _ _ _ _ _
 y := XV.nil _ _ _ _ _ _ _
 nv := fun g h => by cases h
 nx := fun i _ hi => absurd hi (Nat.not_lt_zero _)
 le := fun i hi => absurd hi (Nat.not_lt_zero _)
 hn := Nat.zero_le _
theorem ShelfV.type (h : ShelfV T TS k w D) {g : Nat} (hg : D.Has g) : ∃ cur, w.heap[g]? = some (.cells cur TS (0, 0)) \/ w.heap[g]? = some (.cells cur T (0, 0)) := by
 rcases hg with (hg | ⟨i, hi, hg⟩) | (hg | ⟨i, hi, hg⟩)
 . obtain ⟨_, c, e⟩ := h.x.r.blk hg; exact ⟨c, .inl e⟩
 . obtain ⟨_, c, e⟩ := (h.x.e i hi).blk hg; exact ⟨c, .inr e⟩
 . obtain ⟨_, c, e⟩ := h.y.r.blk hg; exact ⟨c, .inl e⟩
 . obtain ⟨_, c, e⟩ := (h.y.e i hi).blk hg; exact ⟨c, .inr e⟩
end
end Go.Tg
namespace Go.Tg
open Go Go.RowKit Go.Maps
structure GrowJ (T : TypeId) (k : Nat) (mk : Nat -> Nat -> List Value) (w0 wr : World) (x l : Value) (m i c : Nat) : Prop where
 lr : BRow T k wr l (m + c) (marksC mk i 0 (m + c))
 xr : RowR wr x m (marksC mk i 0 m)
 lb : l.ownBlock = x.ownBlock \/ ∃ q, l.ownBlock = some q /\ w0.heap.size <= q
 kp : Keep (fun g => x.ownBlock = some g) w0 wr
theorem GrowJ.start {T : TypeId} {k : Nat} {mk : Nat -> Nat -> List Value} {w : World} {x : Value} {m i : Nat} (h : BRow T k w x m (marksC mk i 0 m)) : GrowJ T k mk w w x x m i 0 where
 lr := h
 xr := h.rd
 lb := .inl rfl
 kp := Keep.refl _ _
theorem GrowJ.step {T : TypeId} {k : Nat} {mk : Nat -> Nat -> List Value} {w0 wr w1 w6 : World} {x l v6 : Value} {m i c d : Nat} (h : GrowJ T k mk w0 wr x l m i c) (hb : Below wr.heap.size wr w1) (hxl : ∀ g, x.ownBlock = some g -> g < w0.heap.size)
 (h6 : BRow T k w6 v6 (m + c + d) (marksC mk i 0 (m + c) ++ marksC mk i (m + c) d)) (hold : BRow T k w6 l (m + c) (marksC mk i 0 (m + c))) (k6 : Keep (fun g => l.ownBlock = some g) w1 w6) (o6 : v6.ownBlock = l.ownBlock \/ v6.ownBlock = some w1.heap.size) :
 GrowJ T k mk w0 w6 x v6 m i (c + d) where
 lr := by rw [marksC_app] at h6; rw [<- Nat.add_assoc]; exact h6
 xr := by
  rcases h.lb with hb' | ⟨q, hq, hqw⟩
  . exact RowR.same hold h.xr hb'.symm (fun j u hj => marksC_pre mk i m c j u hj)
  . refine (h.xr.below hb).keep k6 fun g hg he => ?_; rw [hq] at he; cases he; have := hxl q hg; omega
 lb := by
  rcases o6 with o6 | o6
  . rw [o6]; exact h.lb
  . exact .inr ⟨_, o6, Nat.le_trans h.kp.size hb.size⟩
 kp := (h.kp.trans (Keep.of_below _ hb)).transM k6 (fun _ _ h => h) (fun g hg he => by
  rcases h.lb with hb' | ⟨q, hq, hqw⟩
  . rw [<- hb']; exact he
  . rw [hq] at he; cases he; omega)
structure GrowI (T TS : TypeId) (k : Nat) (mk : Nat -> Nat -> List Value) (w wr : World) (out : Value) (n : Nat) (X : Nat -> Value) (m : Nat -> Nat) (G : Nat -> Value) (i : Nat) : Prop where
 o : BRow TS 1 wr out i ((List.range i).map G)
 g : ∀ j, j < i -> BRow T k wr (G j) (m j + 72) (marksC mk j 0 (m j + 72))
 x : ∀ j, j < n -> RowR wr (X j) (m j) (marksC mk j 0 (m j))
 y : ∀ j, i <= j -> j < n -> BRow T k wr (X j) (m j) (marksC mk j 0 (m j))
 gb : ∀ j, j < i -> ∀ q, (G j).ownBlock = some q -> (X j).ownBlock = some q \/ w.heap.size <= q
 ob : ∀ q, out.ownBlock = some q -> w.heap.size <= q
 kp : Keep (fun g => ∃ j, j < n /\ (X j).ownBlock = some g) w wr
section
variable {T TS : TypeId} {k : Nat} {mk : Nat -> Nat -> List Value} {w wr : World} {v out : Value} {n : Nat} {X G : Nat -> Value} {m : Nat -> Nat} {i : Nat}
theorem GrowI.start (h : XV T TS k w v n X m (fun i => marksC mk i 0 (m i))) : GrowI T TS k mk w w nilS n X m G 0 where
 o := BRow.nil _ _ _
 g := fun j hj => absurd hj (Nat.not_lt_zero _)
 x := fun j hj => (h.e j hj).rd
 y := fun j _ hj => h.e j hj
 gb := fun j hj => absurd hj (Nat.not_lt_zero _)
 ob := fun q hq => by cases hq
 kp := Keep.refl _ _
theorem GrowI.step (h0 : XV T TS k w v n X m (fun i => marksC mk i 0 (m i))) (hT : TS ≠ T) (h : GrowI T TS k mk w wr out n X m G i) (hi : i < n) {w6 w7 w8 : World} {l o8 : Value} (hj : GrowJ T k mk wr w6 (X i) l (m i) i 72) (hb : Below w6.heap.size w6 w7)
 (h8 : BRow TS 1 w8 o8 (i + 1) ((List.range i).map G ++ [l])) (k8 : Keep (fun g => out.ownBlock = some g) w7 w8) (e8 : o8.ownBlock = out.ownBlock \/ o8.ownBlock = some w7.heap.size) : GrowI T TS k mk w w8 o8 n X m (upN G i l) (i + 1) := by
 have hxl : ∀ j, j < n -> ∀ g, (X j).ownBlock = some g -> g < w.heap.size := fun j hj g hg => ((h0.e j hj).blk hg).1; have hwr := h.kp.size; have hw6 := hj.kp.size; have hw7 := hb.size; have ho7 : BRow TS 1 w7 out i ((List.range i).map G) := (h.o.keep hj.kp (fun q hq he => by have := h.ob q hq; have := hxl i hi q he; omega)).below hb
 have hg7 : ∀ j, j < i -> BRow T k w7 (G j) (m j + 72) (marksC mk j 0 (m j + 72)) := fun j hji => ((h.g j hji).keep hj.kp (fun q hq he => by
  rcases h.gb j hji q hq with h1 | h1
  . exact h0.ne j i (by omega) hi (by omega) q h1 he
  . have := hxl i hi q he; omega)).below hb
 have hl7 := hj.lr.below hb
 have hx6 : ∀ j, j < n -> RowR w6 (X j) (m j) (marksC mk j 0 (m j)) := fun j hjn => by
  by_cases hji : j = i
  . subst hji; exact hj.xr
  . exact (h.x j hjn).keep hj.kp fun q hq he => h0.ne j i hjn hi hji q hq he
 refine ⟨?_, ?_, ?_, ?_, ?_, ?_, ?_⟩
 . have e : (List.range (i + 1)).map (upN G i l) = (List.range i).map G ++ [l] := by
    rw [List.range_succ, List.map_append]
    congr 1
    . exact List.map_congr_left fun j hj => upN_ne G l (Nat.ne_of_lt (List.mem_range.1 hj))
    . simp [upN_same]
   rw [e]; exact h8
 . intro j hj1
   by_cases hji : j = i
   . subst hji; rw [upN_same]; exact hl7.keep k8 fun q hq he => row_ne ho7 hl7 hT q he hq
   . rw [upN_ne G l hji]; exact (hg7 j (by omega)).keep k8 fun q hq he => row_ne ho7 (hg7 j (by omega)) hT q he hq
 . intro j hjn; exact ((hx6 j hjn).below hb).keep k8 fun q hq he => by have := hxl j hjn q hq; have := h.ob q he; omega
 . intro j hj1 hjn; exact (((h.y j (by omega) hjn).keep hj.kp fun q hq he => h0.ne j i hjn hi (by omega) q hq he).below hb).keep k8 fun q hq he => by have := hxl j hjn q hq; have := h.ob q he; omega
 . intro j hj1 q hq
   by_cases hji : j = i
   . subst hji; rw [upN_same] at hq
     rcases hj.lb with h1 | ⟨q', h1, h2⟩
     . rw [h1] at hq; exact .inl hq
     . rw [h1] at hq; cases hq; exact .inr (by omega)
   . rw [upN_ne G l hji] at hq; exact h.gb j (by omega) q hq
 . intro q hq
   rcases e8 with e8 | e8
   . rw [e8] at hq; exact h.ob q hq
   . rw [e8] at hq; cases hq; omega
 . have k1 : Keep (fun g => ∃ j, j < n /\ (X j).ownBlock = some g) w w7 := (h.kp.transM hj.kp (fun _ _ h => h) (fun g _ he => ⟨i, hi, he⟩)).trans (Keep.of_below _ hb); exact k1.transM k8 (fun _ _ h => h) (fun g hg he => by have := h.ob g he; omega)
end
structure Add1 (T TS : TypeId) (k : Nat) (D : KD) (w3 : World) (v x : Value) (mx : Nat) (cx : List Value) : Prop where
 xv : XV T TS k w3 v (D.n + 1) (upN D.X D.n x) (upN D.m D.n mx) (upN D.cs D.n cx)
 yv : XV T TS k w3 D.v2 D.n D.Y D.m D.ds
 xr : BRow T k w3 x mx cx
 nv : ∀ g, v.ownBlock = some g -> D.v2.ownBlock = some g -> False
 nx : ∀ i j, i < D.n + 1 -> j < D.n -> ∀ g, (upN D.X D.n x i).ownBlock = some g -> (D.Y j).ownBlock = some g -> False
 le : ∀ i, i < D.n + 1 -> upN D.m D.n mx i <= 100000
 hn : D.n + 1 <= 250
section
variable {T TS : TypeId} {k : Nat} {w w3 w' : World} {D : KD} {v x : Value} {mx : Nat} {cx : List Value}
theorem add1 (h : ShelfV T TS k w D) (hT : TS ≠ T) (hx : BRow T k w x mx cx) (hxs : ∀ g, x.ownBlock = some g -> ¬ D.Has g) (hr : BRow TS 1 w3 v (D.n + 1) ((List.range D.n).map D.X ++ [x])) (hk : Keep (fun g => D.v1.ownBlock = some g) w w3)
 (ho : v.ownBlock = D.v1.ownBlock \/ v.ownBlock = some w.heap.size) (hmx : mx <= 100000) (hroom : D.n < 250) : Add1 T TS k D w3 v x mx cx where
 xv := h.x.add hT hx (fun i hi g h1 h2 => hxs g h1 (.inl (.inr ⟨i, hi, h2⟩))) hr hk
 yv := h.y.keep hk (fun g hg he => by
  rcases hg with hg | ⟨j, hj, hg⟩
  . exact h.nv g he hg
  . exact row_ne h.x.r (h.y.e j hj) hT g he hg)
 xr := hx.keep hk (fun g hg he => row_ne h.x.r hx hT g he hg)
 nv := fun g h1 h2 => by
  rcases ho with ho | ho
  . rw [ho] at h1; exact h.nv g h1 h2
  . rw [ho] at h1; cases h1; have := (h.y.r.blk h2).1; omega
 nx := fun i j hi hj g h1 h2 => by
  by_cases hin : i = D.n
  . subst hin; rw [upN_same] at h1; exact hxs g h1 (.inr (.inr ⟨j, hj, h2⟩))
  . rw [upN_ne _ _ hin] at h1; exact h.nx i j (by omega) hj g h1 h2
 le := fun i hi => by
  by_cases hin : i = D.n
  . subst hin; rw [upN_same]; exact hmx
  . rw [upN_ne _ _ hin]; exact h.le i (by omega)
 hn := hroom
theorem Add1.keep {Z : Nat -> Prop} (h : Add1 T TS k D w3 v x mx cx) (hk : Keep Z w3 w') (hs : ∀ g, XHas v (D.n + 1) (upN D.X D.n x) g \/ XHas D.v2 D.n D.Y g -> ¬ Z g) : Add1 T TS k D w' v x mx cx where
 xv := h.xv.keep hk fun g hg => hs g (.inl hg)
 yv := h.yv.keep hk fun g hg => hs g (.inr hg)
 xr := h.xr.keep hk fun g hg => hs g (.inl (.inr ⟨D.n, Nat.lt_succ_self _, by rw [upN_same]; exact hg⟩))
 nv := h.nv
 nx := h.nx
 le := h.le
 hn := h.hn
theorem Add1.below (h : Add1 T TS k D w3 v x mx cx) (hb : Below w3.heap.size w3 w') : Add1 T TS k D w' v x mx cx := h.keep (Keep.of_below (fun _ => False) hb) (fun _ _ h => h)
theorem Add1.add2 (h : Add1 T TS k D w v x mx cx) (hT : TS ≠ T) {w5 w6 w7 : World} {y v2 : Value} {cy : List Value} (hy : BRow T k w5 y mx cy) (hyb : Below w.heap.size w w5) (hyf : ∀ g, y.ownBlock = some g -> w.heap.size <= g) (hb : Below w5.heap.size w5 w6)
 (hr : BRow TS 1 w7 v2 (D.n + 1) ((List.range D.n).map D.Y ++ [y])) (hk : Keep (fun g => D.v2.ownBlock = some g) w6 w7) (ho : v2.ownBlock = D.v2.ownBlock \/ v2.ownBlock = some w6.heap.size) :
 ShelfV T TS k w7 ⟨v, v2, D.n + 1, upN D.X D.n x, upN D.Y D.n y, upN D.m D.n mx, upN D.cs D.n cx, upN D.ds D.n cy⟩ := by
 have h6 := (h.below hyb).below hb; have hy6 := hy.below hb; have hs : w.heap.size <= w6.heap.size := Nat.le_trans hyb.size hb.size; refine ⟨?_, ?_, ?_, ?_, h.le, h.hn⟩
 . refine h6.xv.keep hk fun g hg he => ?_
   rcases hg with hg | ⟨i, hi, hg⟩
   . exact h.nv g hg he
   . exact row_ne h6.yv.r (h6.xv.e i hi) hT g he hg
 . exact h6.yv.add hT hy6 (fun i hi g h1 h2 => by have := hyf g h1; have := ((h.yv.e i hi).blk h2).1; omega) hr hk
 . intro g h1 h2; simp only at h1 h2
   rcases ho with ho | ho
   . rw [ho] at h2; exact h.nv g h1 h2
   . rw [ho] at h2; cases h2; have := (h.xv.r.blk h1).1; omega
 . intro i j hi hj g h1 h2; simp only at hi hj h1 h2
   by_cases hjn : j = D.n
   . subst hjn; rw [upN_same] at h2; have := hyf g h2; have := ((h.xv.e i hi).blk h1).1; omega
   . rw [upN_ne _ _ hjn] at h2; exact h.nx i j hi (by omega) g h1 h2
end
end Go.Tg
