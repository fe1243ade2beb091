import Derived.Test.YtkfcjcbjefpliaaN11
import Derived.Deep.AppendLies
import Derived.Deep.RegionLaw
namespace Go.Proofs.Ytkfcjcbjefpliaa
open Go.RowKit Go.Tg Go.Maps Go.Sort

def sendS (st : NetS) (f t : Int) (d : ByteArray) : NetS :=
  if st.cut f t = true ∨ 600 ≤ st.l.length then { st with at' := setAt st.at' f t (((st.at' f t).getD (0, 0)).1 + 1, ((st.at' f t).getD (0, 0)).2 + 1) }
  else { st with l := st.l ++ [Gram.mk f t d (((st.at' f t).getD (0, 0)).1 + 1)], at' := setAt st.at' f t (((st.at' f t).getD (0, 0)).1 + 1, ((st.at' f t).getD (0, 0)).2) }
theorem lostAt_setAt (a : Int → Int → Option (Int × Int)) (f t x y : Int) : lostAt (setAt a f t (x, y)) f t = setAt a f t (x, y + 1) := by
  funext p q
  simp only [lostAt, setAt, and_self, if_true, Option.getD_some]
  split <;> rfl
theorem row_blk {w : World} {v : Value} {n k : Nat} {xs : List Value} (h : w.ownsRow 0 63 4 v n xs) (hk : v.ownBlock = some k) : ∃ cur, w.heap[k]? = some (.cells cur 63 (0, 0)) := by
  obtain ⟨_, ⟨rfl, hn⟩ | ⟨g, cp, cur, rfl, _, hg, _⟩⟩ := h
  · cases hk
  · cases hk; exact ⟨cur, hg⟩
def cnt0 (st : NetS) (f t : Int) : Int × Int := (st.at' f t).getD (0, 0)

theorem eql24 (a : Addr) (w : World) : (binOp .eql 24 (.pointer (some a)) (.pointer none)).run Try.prog w = .ok (.bool false) w := by kernel_rfl

theorem NetV.cutVal {w : World} {S : Nat → Prop} {b : Nat} {st : NetS} {loc : Int → Int → Nat} {lv av cv : Value} (h : NetV w S b st loc lv av cv) : ∃ mo, cv = .map mo := by
  rcases h.cut with ⟨h, _⟩ | ⟨m, mm, h, _⟩
  · exact ⟨_, h⟩
  · exact ⟨_, h⟩

theorem zero59 (w : World) : (zeroValue 59).run Try.prog w = .ok (.agg #[]) w := by kernel_rfl

/-- Whether the pair is cut, in whatever world holds the map. -/
theorem NetV.cutLook {w : World} {S : Nat → Prop} {b : Nat} {st : NetS} {loc : Int → Int → Nat} {lv av cv : Value} (h : NetV w S b st loc lv av cv) (f t : Int) (hf : I64 f) (ht : I64 t) (w' : World)
    (hw : ∀ k, S k → k < w.heap.size → w'.heap[k]? = w.heap[k]?) : (Instr.lookup 50 cv (.agg #[.int .i64 f, .int .i64 t]) true).run Try.prog w' = .ok (.tuple #[.agg #[], .bool (st.cut f t)]) w' := by
  rcases h.cut with ⟨rfl, hn⟩ | ⟨m, mm, rfl, hSm, hm, hc, hv⟩
  · rw [run_lookup_nil w' Try.underlying50 keyed39 (kv39 f t hf ht) (zero59 w') true, hn]
    rfl
  · have := (hm.same (hw m hSm hm.lt)).run_lookup keyed39 Try.underlying50 (kv39 f t hf ht) (zero59 w') true
    rw [this, hc]
    show Result.ok (.tuple #[(mm (.agg #[.int .i64 f, .int .i64 t])).getD _, .bool (mm (.agg #[.int .i64 f, .int .i64 t])).isSome]) w' = .ok (Value.tuple #[_, .bool (mm (.agg #[.int .i64 f, .int .i64 t])).isSome]) w'
    cases ho : mm (.agg #[.int .i64 f, .int .i64 t]) with
    | none => rfl
    | some v => rw [hv _ v ho]; rfl

theorem NetV.cap {w : World} {S : Nat → Prop} {b : Nat} {st : NetS} {loc : Int → Int → Nat} {lv av cv : Value} (h : NetV w S b st loc lv av cv) : NetV w (fun k => S k ∧ k < w.heap.size) b st loc lv av cv := by
  have lt : ∀ {k : Nat} {o : Obj}, w.heap[k]? = some o → k < w.heap.size := fun h => (Array.getElem?_eq_some_iff.1 h).1
  refine ⟨h.blk, ⟨h.hb, lt h.blk⟩, h.row, fun k hk => ⟨h.hrow k hk, ?_⟩, ?_, ?_, h.ne⟩
  · obtain ⟨_, ⟨hv, _⟩ | ⟨g, cp, cur, hv, _, hg, _⟩⟩ := h.row
    · rw [hv] at hk; cases hk
    · rw [hv] at hk; cases hk; exact lt hg
  · rcases h.cnt with h | ⟨m, mm, h1, h2, h3, h4, h5, h6⟩
    · exact Or.inl h
    · exact Or.inr ⟨m, mm, h1, ⟨h2, h3.lt⟩, h3, h4, fun a c s l hs => ⟨(h5 a c s l hs).1, ⟨(h5 a c s l hs).2.1, lt (h5 a c s l hs).2.2⟩, (h5 a c s l hs).2.2⟩, h6⟩
  · rcases h.cut with h | ⟨m, mm, h1, h2, h3, h4⟩
    · exact Or.inl h
    · exact Or.inr ⟨m, mm, h1, ⟨h2, h3.lt⟩, h3, h4⟩


theorem row_len {w : World} {sa : Option Addr} {sn sc n : Nat} {xs : List Value} (h : w.ownsRow 0 63 4 (.slice sa sn sc) n xs) : n = sn := by
  obtain ⟨_, ⟨h, hn⟩ | ⟨g, cp, cur, hv, _⟩⟩ := h
  · cases h; exact hn
  · cases hv; rfl
theorem row_ne {w : World} {v : Value} {n b : Nat} {xs : List Value} {cs : Array Value} (h : w.ownsRow 0 63 4 v n xs) (hb : w.heap[b]? = some (.cells cs 52 (0, 0))) : v.ownBlock ≠ some b := by
  intro e
  obtain ⟨_, ⟨rfl, hn⟩ | ⟨g, cp, cur, rfl, _, hg, _⟩⟩ := h
  · cases e
  · cases e; rw [hb] at hg; cases hg
theorem gram_info : ∃ i, Try.prog.info? 63 = some i ∧ i.zero = some (.agg #[.int .i64 0, .int .i64 0, .string ByteArray.empty, .int .i64 0]) ∧ i.size = 4 ∧ i.bytes = 40 := by
  have h : (Try.prog.info? 63).map (fun i => (i.zero, i.size, i.bytes)) = some (some (.agg #[.int .i64 0, .int .i64 0, .string ByteArray.empty, .int .i64 0]), 4, 40) := by kernel_rfl
  obtain ⟨i, hi, he⟩ := Option.map_eq_some_iff.1 h
  simp only [Prod.mk.injEq] at he
  exact ⟨i, hi, he.1, he.2.1, he.2.2⟩
theorem step_append_gram {ops : Array Oper} {o : Oper} {a : Act} {w : World} {K : Act → World → Prop} {Q : Exit → Act → World → Prop} {E : Prop} (hgd : o.guard = none) (s x : Operand)
    (ho : o.op = .call { callee := .builtin .append, args := #[s, x], argTypes := #[48, 48] }) (v : Value) (l : List Gram) (hs : a.eval s = v) (hown : w.ownsRow 0 63 4 v l.length (flat l))
    (bx : Nat) (c : Nat) (f t : Int) (d : ByteArray) (n : Int) (hx : a.eval x = .slice (some ⟨bx, 0, none⟩) 1 c) (hb : w.heap[bx]? = some (.cells #[.int .i64 f, .int .i64 t, .string d, .int .i64 n] 63 (0, 0))) (hlen : l.length ≤ 1000000)
    (h : ∀ g cap w', w'.ownsRow 0 63 4 (.slice (some ⟨g, 0, none⟩) (l.length + 1) cap) (l ++ [Gram.mk f t d n]).length (flat (l ++ [Gram.mk f t d n])) → w.grownBy w' v.ownBlock → (v.ownBlock = some g ∨ g = w.heap.size) → K (a.put o.dst (.slice (some ⟨g, 0, none⟩) (l.length + 1) cap)) w') :
    if Region.wanted o (yielded ops a.tmps) = true then Oper.wp Try.prog o a w K Q else E := by
  obtain ⟨i, hi, hz, hsz, hbe⟩ := gram_info
  have hzs : (Value.agg #[.int .i64 0, .int .i64 0, .string ByteArray.empty, .int .i64 0]).cells.size = 4 := rfl
  have hby : i.bytes ≤ 1000 := by rw [hbe]; decide
  generalize (Value.agg #[.int .i64 0, .int .i64 0, .string ByteArray.empty, .int .i64 0]) = z at hz hzs
  have hbb : (l.length + 1) * i.bytes ≤ 140737488355328 := by
    have : (l.length + 1) * i.bytes ≤ 1000001 * 1000 := Nat.mul_le_mul (by omega) hby
    omega
  refine step_append_lies (P := Try.prog) (w := w) hgd s x 48 ho 0 63 i z 4 i.bytes Try.underlying48 hi hz hsz rfl hzs (by decide) v l.length (flat l) hs hown ⟨bx, 0, none⟩ 1 c [.int .i64 f, .int .i64 t, .string d, .int .i64 n] hx rfl
    (World.news_of_block hb) ?_ (by decide) (by unfold maxLen; omega) hbb (Nat.zero_le _) w.heap.size rfl ?_
  · intro u hu
    simp at hu
    rcases hu with rfl | rfl | rfl | rfl <;> rfl
  · intro g cap w' h1 h2 h3 _
    refine h g cap w' ?_ h2 h3
    rw [flat_append, List.length_append]
    exact h1

set_option maxHeartbeats 2000000 in
set_option maxRecDepth 100000 in
theorem send_any {w : World} {S : Nat → Prop} {b : Nat} {st : NetS} {loc : Int → Int → Nat} {lv av cv : Value} (h : NetV w S b st loc lv av cv) (f t : Int) (d : ByteArray) (hf : I64 f) (ht : I64 t)
    (hd : d.size ≤ 1514) (s l : Int) (hsl : (st.at' f t).getD (0, 0) = (s, l)) (hs0 : 0 ≤ s) (hs1 : s < 4611686018427387904) (hl0 : 0 ≤ l) (hl1 : l < 4611686018427387904) (hy : Young st.l f t (s + 1)) :
    Calls Try.prog 11 #[.pointer (some ⟨b, 0, none⟩), .agg #[.int .i64 f, .int .i64 t, .string d]] w fun e w' => ∃ loc' lv' av', e = .returned (.int .i64 0) ∧ NetV w' (Grow S w) b (sendS st f t d) loc' lv' av' cv ∧ Keep S w w' := by
  replace h := h.cap
  obtain ⟨S0, hS0⟩ : ∃ S0 : Nat → Prop, S0 = fun k => S k ∧ k < w.heap.size := ⟨_, rfl⟩
  rw [← hS0] at h
  have HSL := Lib.hid hsl
  have HS0 : Hid (∀ k, S0 k → S k ∧ k < w.heap.size) := Lib.hid (fun k hk => by rw [hS0] at hk; exact hk)
  clear hS0
  have KM : Hid (∀ w', Keep (Grow S0 w) w w' → Keep S w w') := Lib.hid (fun w' h => h.mono (fun k hk hg => hg.elim (fun h => (HS0.out k h).1) (fun h => absurd h (by omega))))
  obtain ⟨mo, rfl⟩ := h.cutVal
  obtain ⟨sa, sn, sc, rfl⟩ := row_slice h.row
  have H0 := Lib.hid (h.keep (T := fun _ => False) ((Keep.refl _ _).alloc (.cells #[.int .i64 f, .int .i64 t, .string d] 29)) (by intro k _ _ hk; exact hk))
  have HK0 : Hid (Keep S0 w (w.alloc (.cells #[.int .i64 f, .int .i64 t, .string d] 29))) := Lib.hid ((Keep.refl _ _).alloc _)
  have hbd : decide ((1514 : Int) < (d.size : Int)) = false := by simp; omega
  have hx0 := get1 w (.cells #[.int .i64 f, .int .i64 t, .string d] 29)
  have HY := Lib.hid hy
  clear h hy
  have heq := eql24
  go_enter Try.func11, Try.ntmps11
  go_wp2_with fail
  refine (pair_any f t d _).mono ?_
  rintro e w1 ⟨rfl, hk1⟩
  have H1 := Lib.hid (H0.out.keep hk1 (by intro k _ _ hk; exact hk))
  have HK1 := Lib.hid (HK0.out.trans (hk1.mono (by intro k _ hk; exact hk.elim)))
  have hx1 : w1.heap[w.heap.size]? = some (.cells #[.int .i64 f, .int .i64 t, .string d] 29 (0, 0)) := (hk1.block _ (by show _ < (Array.push _ _).size; rw [Array.size_push]; omega) (by simp)).trans hx0
  clear hk1 H0 HK0 hx0
  have hz1 : w.heap.size < w1.heap.size := (Array.getElem?_eq_some_iff.1 hx1).1
  have hW1 : (w1.alloc (.cells #[.int .i64 f, .int .i64 t] 39 (0, 0))).heap.size = w1.heap.size + 1 := Array.size_push _
  have hx2 : (w1.alloc (.cells #[.int .i64 f, .int .i64 t] 39 (0, 0))).heap[w.heap.size]? = _ := (Below.heap_alloc _ _ _ hz1).trans hx1
  have hp2 := get1 w1 (.cells #[.int .i64 f, .int .i64 t] 39 (0, 0))
  have H1' := Lib.hid (H1.out.keep (T := fun _ => False) ((Keep.refl _ _).alloc (.cells #[.int .i64 f, .int .i64 t] 39 (0, 0))) (by intro k _ _ hk; exact hk))
  have HKA : Hid (Keep S0 w (w1.alloc (.cells #[.int .i64 f, .int .i64 t] 39 (0, 0)))) := Lib.hid (HK1.out.alloc _)
  clear hx1 H1 HK1
  go_wp2_with fail
  refine (of_any H1'.out f t hf ht).mono ?_
  rintro e w2 ⟨loc2, av2, rfl, h2, hk2⟩
  obtain ⟨W1, hWd⟩ : ∃ W1, W1 = w1.alloc (.cells #[.int .i64 f, .int .i64 t] 39 (0, 0)) := ⟨_, rfl⟩
  rw [← hWd] at hW1 hx2 hp2 HKA h2 hk2
  have n0 : ∀ k, k < W1.heap.size → w.heap.size ≤ k → ¬ Grow S0 W1 k := by
    intro k hk hk2 hg
    rcases hg with hg | hg
    · have := (HS0.out k hg).2; omega
    · omega
  have hx3 := (hk2.block _ (by omega) (fun hg => n0 w.heap.size (by omega) (by omega) (Or.inl hg))).trans hx2
  have hp3 := (hk2.block _ (by omega) (fun hg => n0 w1.heap.size (by omega) (by omega) (Or.inl hg))).trans hp2
  have hto : touch st.at' f t f t = some (s, l) := by rw [touch_at, hsl]
  have hc2 := (h2.cntAt hto)
  have H2 := Lib.hid h2
  have HK2 : Hid (Keep (Grow S0 w) w w2) := Lib.hid ((HKA.out.trans hk2).mono (fun k _ h => Or.inl h))
  have hs2 := hk2.size
  have HTO := Lib.hid hto
  have hq2 : w2.cell? ⟨w1.heap.size, 0, none⟩ = some (.int .i64 f) := cell_of hp3 0 _ rfl
  have hr2 : w2.cell? ⟨w1.heap.size, 1, none⟩ = some (.int .i64 t) := cell_of hp3 1 _ rfl
  have hc20 : w2.cell? ⟨loc2 f t, 0, none⟩ = some (.int .i64 s) := cell_of hc2.1 0 _ rfl
  have hf20 : w2.frozen? ⟨loc2 f t, 0, none⟩ = false := by simp [World.frozen?, hc2.1]
  have hne1 : loc2 f t ≠ w1.heap.size := by
    intro e; rw [e] at hc2; rw [hc2.1] at hp3; cases hp3
  have hne0 : loc2 f t ≠ w.heap.size := by
    intro e; rw [e] at hc2; rw [hc2.1] at hx3; cases hx3
  have hll : decide (s < 9223372036854775807) = true := by simp; omega
  have HC2 := Lib.hid hc2
  have HX3 := Lib.hid hx3
  have HP3 := Lib.hid hp3
  have HN0 := Lib.hid n0
  clear hWd h2 hk2 hx2 hp2 n0 hto hc2 H1' HKA hx3 hp3
  generalize hlc : loc2 f t = lc at *
  go_wp2_with fail
  have h3 := H2.out.setCnt HTO.out (w' := w2.setCell ⟨lc, 0, none⟩ (.int .i64 (s + 1))) (s' := s + 1) (l' := l) (by rw [hlc]; exact (Keep.refl _ _).setB _ _) (by rw [hlc]; exact blk_setCell HC2.out.1)
  rw [setAt_touch] at h3
  refine (grow_none h3 f t hf ht (s + 1) l (by simp [setAt]) (by omega) (by omega) HY.out).mono ?_
  rintro e w4 ⟨rfl, h4, hk4⟩
  have hx4 : w4.heap[w.heap.size]? = _ := (hk4.block _ (by rw [sz_setCell]; omega) (HN0.out w.heap.size (by omega) (by omega))).trans ((Below.heap_setCell _ _ _ _ (by show w.heap.size ≠ lc; omega)).trans HX3.out)
  have hp4 : w4.heap[w1.heap.size]? = _ := (hk4.block _ (by rw [sz_setCell]; omega) (HN0.out w1.heap.size (by omega) (by omega))).trans ((Below.heap_setCell _ _ _ _ (by show w1.heap.size ≠ lc; omega)).trans HP3.out)
  have HK4 : Hid (Keep (Grow S0 w) w w4) := Lib.hid ((HK2.out.setCell _ (by
    rcases HC2.out.2 with hg | hg
    · exact Or.inr (Or.inl hg)
    · exact Or.inl (by show w.heap.size ≤ lc; omega)) _).trans ((hk4.mono (fun k _ h => h.imp id (fun h => by omega)))))
  have c2 : w4.cell? ⟨b, 2, none⟩ = some (.map mo) := cell_of h4.blk 2 _ rfl
  have c0 : w4.cell? ⟨b, 0, none⟩ = some (.slice sa sn sc) := cell_of h4.blk 0 _ rfl
  have cp : w4.cell? ⟨w1.heap.size, 0, none⟩ = some (.int .i64 f) := cell_of hp4 0 _ rfl
  have cq : w4.cell? ⟨w1.heap.size, 1, none⟩ = some (.int .i64 t) := cell_of hp4 1 _ rfl
  have hl1 : (Instr.lookup 50 (.map mo) (.agg #[.int .i64 f, .int .i64 t]) true).run Try.prog w4.drew = .ok (.tuple #[.agg #[], .bool (st.cut f t)]) w4.drew := h4.cutLook f t hf ht _ (fun k _ _ => rfl)
  have hl2 : (Instr.lookup 50 (.map mo) (.agg #[.int .i64 f, .int .i64 t]) true).run Try.prog (w4.alloc (.cells #[] 59 (0, 0))).drew = .ok (.tuple #[.agg #[], .bool (st.cut f t)]) (w4.alloc (.cells #[] 59 (0, 0))).drew := h4.cutLook f t hf ht _ (fun k _ hk => Below.heap_alloc _ _ _ hk)
  have H4 := Lib.hid h4
  have HX4 := Lib.hid hx4
  have HP4 := Lib.hid hp4
  have hs4 : W1.heap.size ≤ w4.heap.size := by have := hk4.size; rw [sz_setCell] at this; omega
  have hb4 : b < w4.heap.size := (Array.getElem?_eq_some_iff.1 h4.blk).1
  clear h3 h4 hk4 hx4 hp4 hq2 hr2 hc20 hf20 HX3 HP3 H2 HTO
  generalize hcut : st.cut f t = ct at *
  have HCUT := Lib.hid hcut
  clear hcut
  go_wp2_with fail
  go_region_held3 (fun w' => w'.cell? ⟨b, 2, none⟩ = some (.map mo) ∧ w'.cell? ⟨w1.heap.size, 0, none⟩ = some (.int .i64 f) ∧ w'.cell? ⟨w1.heap.size, 1, none⟩ = some (.int .i64 t))
    (first | go_keep)
    (fail)
  all_goals (
    rename_i hH
    clear hH hl1 hl2 c2 cp cq
    obtain ⟨W5, hW5⟩ : ∃ W5, W5 = (w4.alloc (.cells #[] 59 (0, 0))).drew := ⟨_, rfl⟩
    have hk5 : Keep (fun _ => False) w4 W5 := by rw [hW5]; exact ((Keep.refl _ _).alloc _).drew
    rw [← hW5]
    have H5 := Lib.hid (H4.out.keep hk5 (by intro k _ _ hk; exact hk))
    have hx5 := (hk5.block w.heap.size (by omega) (by simp)).trans HX4.out
    have HK5 : Hid (Keep (Grow S0 w) w W5) := Lib.hid (HK4.out.trans (hk5.mono (fun k _ h => h.elim)))
    have d0 : W5.cell? ⟨w.heap.size, 0, none⟩ = some (.int .i64 f) := cell_of hx5 0 _ rfl
    have d1 : W5.cell? ⟨w.heap.size, 1, none⟩ = some (.int .i64 t) := cell_of hx5 1 _ rfl
    have d2 : W5.cell? ⟨w.heap.size, 2, none⟩ = some (.string d) := cell_of hx5 2 _ rfl
    have c5 : W5.cell? ⟨b, 0, none⟩ = some (.slice sa sn sc) := cell_of H5.out.blk 0 _ rfl
    have hs5 : w4.heap.size ≤ W5.heap.size := hk5.size
    have HX5 := Lib.hid hx5
    clear hW5 hk5 hx5 H4 HX4 HP4 c0
    cases ct
    · by_cases hfull : 600 ≤ sn
      · have hfb : decide ((600 : Int) ≤ (sn : Int)) = true := by simp; omega
        go_wp2_with fail
        refine (lose_any H5.out f t d hf ht (by simp [setAt]; omega) (by simp [setAt]; omega)).mono ?_
        rintro e w6 ⟨loc6, av6, rfl, h6, hk6⟩
        have H6 := Lib.hid h6
        have HK6 := Lib.hid (HK5.out.trans (hk6.mono (fun k _ h => h.imp id (fun h => by omega))))
        clear h6 hk6
        go_wp2_with fail
        go_ret
        refine ⟨loc6, .slice sa sn sc, av6, rfl, ?_, KM.out _ HK6.out⟩
        have e : sendS st f t d = { st with at' := setAt st.at' f t (s + 1, l + 1) } := by
          unfold sendS
          rw [HSL.out, if_pos (Or.inr (by have := row_len H5.out.row; simp only at this; omega))]
        rw [e, ← lostAt_setAt]
        exact H6.out.mono (fun k hk => hk.elim (fun hk => hk.elim (fun hk => Or.inl (HS0.out k hk).1) (fun hk => Or.inr (by omega))) (fun hk => Or.inr (by omega)))
      · have hfb : decide ((600 : Int) ≤ (sn : Int)) = false := by simp; omega
        obtain ⟨W6, hW6⟩ : ∃ W6, W6 = (W5.alloc (.cells #[.int .i64 f, .int .i64 t, .string d, .int .i64 (s + 1)] 63 (0, 0))).drew := ⟨_, rfl⟩
        have hk6 : Keep (fun _ => False) W5 W6 := by rw [hW6]; exact ((Keep.refl _ _).alloc _).drew
        have H6 := Lib.hid (H5.out.keep hk6 (by intro k _ _ hk; exact hk))
        have hb6 := H6.out.blk
        have hbl5 : b < W5.heap.size := (Array.getElem?_eq_some_iff.1 H5.out.blk).1
        have c50 : W5.cell? ⟨lc, 0, none⟩ = some (.int .i64 (s + 1)) := by
          have := (H5.out.cntAt (p := f) (q := t) (s := s + 1) (l := l) (by simp [setAt])).1
          rw [hlc] at this
          exact cell_of this 0 _ rfl
        have hlcl : lc < W5.heap.size := by
          have := (H5.out.cntAt (p := f) (q := t) (s := s + 1) (l := l) (by simp [setAt])).1
          rw [hlc] at this
          exact (Array.getElem?_eq_some_iff.1 this).1
        have hfr : W5.frozen? ⟨b, 0, none⟩ = false := by have := H5.out.blk; simp [World.frozen?, this]
        have HR6 := Lib.hid H6.out.row
        have HB6 : Hid (W6.heap[W5.heap.size]? = some (.cells #[.int .i64 f, .int .i64 t, .string d, .int .i64 (s + 1)] 63 (0, 0))) := Lib.hid (by rw [hW6]; exact get1 _ _)
        have HL6 : Hid (st.l.length ≤ 1000000) := Lib.hid (by have := row_len H6.out.row; simp at this; omega)
        go_wp2_with fail
        have CF7 : Hid (∀ w7, W6.grownBy w7 (Value.slice sa sn sc).ownBlock → w7.cell? ⟨b, 0, none⟩ = some (.slice sa sn sc) ∧ w7.frozen? ⟨b, 0, none⟩ = false) := Lib.hid (by
          intro w7 hg
          have hlb6 : b < W6.heap.size := (Array.getElem?_eq_some_iff.1 hb6).1
          have hne : some b ≠ (Value.slice sa sn sc).ownBlock := fun e => row_ne H6.out.row hb6 e.symm
          rw [hg.cell_far ⟨b, 0, none⟩ hlb6 hne, hg.frozen_far ⟨b, 0, none⟩ hlb6 hne]
          exact ⟨cell_of hb6 0 _ rfl, by simp [World.frozen?, hb6]⟩)
        clear hk6 hb6
        have HK6 : Hid (Keep (Grow S0 w) w W6) := Lib.hid (by rw [hW6]; exact (HK5.out.alloc _).drew)
        subst hW6
        go_region_law (first
          | (refine step_append_gram rfl (.tmp 62) (.tmp 69) rfl (.slice sa sn sc) st.l rfl HR6.out W5.heap.size 1 f t d (s + 1) rfl HB6.out HL6.out ?_; intro g cap w7 hown7 hg7 hat7; obtain ⟨c7a, c7b⟩ := CF7.out w7 hg7))
        all_goals (
          have HW7 := Lib.hid (And.intro hown7 (And.intro hg7 hat7))
          clear hown7 hg7 hat7
          have hlen6 := row_len H6.out.row
          simp only at hlen6
          go_wp2_with fail
          go_ret
          obtain ⟨hown7, hg7, hat7⟩ := HW7.out
          have hb6 := H6.out.blk
          have hlb6 := (Array.getElem?_eq_some_iff.1 hb6).1
          have hne : some b ≠ (Value.slice sa sn sc).ownBlock := fun e => row_ne H6.out.row hb6 e.symm
          have hb7 := (hg7.block b hlb6 hne).trans hb6
          have hk8 := (((keep_of_grown hg7).mono (S' := fun k => k = b ∨ (Value.slice sa sn sc).ownBlock = some k) (fun k _ h => Or.inr h)).setCell ⟨b, 0, none⟩ (Or.inr (Or.inl rfl)) (.slice (some ⟨g, 0, none⟩) (st.l.length + 1) cap))
          refine ⟨loc2, .slice (some ⟨g, 0, none⟩) (st.l.length + 1) cap, av2, rfl, ?_, KM.out _ (HK6.out.trans (hk8.mono ?_))⟩
          · have e : sendS st f t d = { st with l := st.l ++ [Gram.mk f t d (s + 1)], at' := setAt st.at' f t (s + 1, l) } := by
              unfold sendS
              rw [HSL.out, if_neg (by rw [HCUT.out]; simp; omega)]
            rw [e]
            refine (H6.out.setL hk8 ?_ (blk_setCell hb7) (row_keep hown7 ((Keep.refl _ _).setB (b := b) _ _) (by rintro k ⟨cur, hc⟩ rfl; rw [hb7] at hc; cases hc)) ?_).mono (fun k hk => hk.elim (fun hk => Or.inl (HS0.out k hk).1) (fun hk => Or.inr (by omega)))
            · rintro k (rfl | hk) _
              · exact Or.inl rfl
              · exact Or.inr (row_blk H6.out.row hk)
            · intro k hk
              cases hk
              rcases hat7 with hat7 | hat7
              · exact H6.out.hrow g hat7
              · right; rw [hat7]; show W1.heap.size ≤ (Array.push _ _).size; rw [Array.size_push]; omega
          · rintro k _ (rfl | hk)
            · exact H6.out.hb.imp id (fun h => by omega)
            · exact (H6.out.hrow k hk).imp id (fun h => by omega))
    · go_wp2_with fail
      refine (lose_any H5.out f t d hf ht (by simp [setAt]; omega) (by simp [setAt]; omega)).mono ?_
      rintro e w6 ⟨loc6, av6, rfl, h6, hk6⟩
      have H6 := Lib.hid h6
      have HK6 := Lib.hid (HK5.out.trans (hk6.mono (fun k _ h => h.imp id (fun h => by omega))))
      clear h6 hk6
      go_wp2_with fail
      go_ret
      refine ⟨loc6, .slice sa sn sc, av6, rfl, ?_, KM.out _ HK6.out⟩
      have e : sendS st f t d = { st with at' := setAt st.at' f t (s + 1, l + 1) } := by
        unfold sendS
        rw [HSL.out, if_pos (Or.inl HCUT.out)]
      rw [e, ← lostAt_setAt]
      exact H6.out.mono (fun k hk => hk.elim (fun hk => hk.elim (fun hk => Or.inl (HS0.out k hk).1) (fun hk => Or.inr (by omega))) (fun hk => Or.inr (by omega))))
end Go.Proofs.Ytkfcjcbjefpliaa
