import Derived.Test.YthhdackaopaojaaGreatV6
import Derived.Laws.IdiomCopy
import Derived.Laws.MakeOwn
import Derived.Lib.Strings
import Derived.Lib.BufferWrite
import Derived.Lib.UnsafeStr
import Derived.Deep.RegionLaw
/- Rows of options that are turned in place; strings.Clone. -/
namespace Go.Proofs.YthhdackaopaojaaGreat
open Go.RowKit Go.Tg Go.Maps

theorem u8_info : ∃ i, Tryz.prog.info? 5 = some i ∧ i.zero = some (.int .u8 0) ∧ i.size = 1 ∧ i.bytes = 1 := by
  have h : (Tryz.prog.info? 5).map (fun i => (i.zero, i.size, i.bytes)) = some (some (.int .u8 0), 1, 1) := by kernel_rfl
  obtain ⟨i, hi, he⟩ := Option.map_eq_some_iff.1 h
  simp only [Prod.mk.injEq] at he
  exact ⟨i, hi, he.1, he.2.1, he.2.2⟩

set_option maxHeartbeats 4000000 in
set_option maxRecDepth 100000 in
theorem slite_clone (s : ByteArray) (w : World) (hlim : s.size ≤ 140737488355328) :
    Calls Tryz.prog 85 #[.string s] w fun e w' => e = .returned (.string s) ∧ Below w.heap.size w w' := by
  by_cases h0 : s.size = 0
  · have hs : s = ⟨#[]⟩ := by
      apply ByteArray.ext
      exact Array.eq_empty_of_size_eq_zero h0
    subst hs
    go_enter Tryz.func85, Tryz.ntmps85
    go_wp2
    go_ret
    exact ⟨rfl, Below.refl _ _⟩
  · obtain ⟨i0, hi, hz0, hz1, hz2⟩ := u8_info
    have hinfo : (Tryz.prog.info? 5).map (·.size) = some 1 := by rw [hi]; simp [hz1]
    have hco : Tryz.prog.cellsOf 5 = 1 := by simp [Program.cellsOf, hi, hz1]
    obtain ⟨M, hM⟩ : ∃ M, M = madeCells (Value.int .u8 0).cells (((s.size : Nat) : Int).toNat * i0.size) := ⟨_, rfl⟩
    have hMs : M.size = s.size := by rw [hM, size_madeCells, hz1]; simp
    have hmk : ∀ W : World, (Instr.makeSlice 55 (.int .i64 (s.size : Int)) (.int .i64 (s.size : Int))).run Tryz.prog W = .ok (.slice (some ⟨W.heap.size, 0, none⟩) s.size s.size) (W.alloc (.cells M 5)) := fun W => by
      have h := run_make (P := Tryz.prog) W 55 5 i0 (.int .u8 0) Tryz.underlying55 hi hz0 .i64 .i64 (s.size : Int) (s.size : Int) (by omega) (by omega) (by rw [hz2]; omega) (by omega)
      rw [← hM] at h
      simpa using h
    clear hM
    have hcp := Lib.run_copy_row_string (P := Tryz.prog) (w.alloc (.cells M 5)) 55 9 3 5 w.heap.size 0 s.size s.size s M 5 Tryz.underlying55 hinfo (heap_alloc_new w _) (Nat.le_refl _) (by omega)
    obtain ⟨Y, hY⟩ : ∃ Y, Y = (M.toList.take 0 ++ Lib.byteCells s.data.toList ++ M.toList.drop (0 + s.size)).toArray := ⟨_, rfl⟩
    rw [← hY] at hcp
    have hYl : Y.toList = Lib.byteCells s.data.toList := by
      rw [hY, List.toList_toArray, List.take_zero, List.nil_append, List.drop_of_length_le (by rw [Array.length_toList]; omega), List.append_nil]
    have hYs : Y.size = s.size := by rw [← Array.length_toList, hYl, Lib.byteCells_length, ← Lib.size_eq]
    have hgY : ((w.alloc (.cells M 5)).setRow w.heap.size Y).heap[w.heap.size]? = some (.cells Y 5 (0, 0)) := setRow_heap _ _ M _ 5 (0, 0) (heap_alloc_new w _)
    have hne : s.data.toList ≠ [] := fun e => h0 (by rw [Lib.size_eq, e]; rfl)
    have hUS := Lib.run_unsafeString_row (P := Tryz.prog) ((w.alloc (.cells M 5)).setRow w.heap.size Y) 129 3 9 5 Tryz.underlying129 hco w.heap.size Y.size (by unfold World.shape?; rw [hgY]) s.data.toList hne (by rw [← Lib.size_eq]; omega) (by rw [← Lib.size_eq]; omega)
      (fun j x hx => Lib.cells_of_row hgY Y.size j _ (by rw [List.take_of_length_le (by rw [Array.length_toList]; exact Nat.le_refl _), hYl]; simp [Lib.byteCells, hx]))
    rw [← Lib.size_eq] at hUS
    clear hY
    go_enter Tryz.func85, Tryz.ntmps85
    go_wp2
    go_ret
    have hb1 : Below w.heap.size w (w.alloc (.cells M 5)) := (Below.refl _ w).alloc (Nat.le_refl _) _
    have hb2 : Below w.heap.size (w.alloc (.cells M 5)) ((w.alloc (.cells M 5)).setRow w.heap.size Y) := ⟨rfl, rfl, rfl, by simp, fun k hk => setRow_other _ _ _ _ (by omega)⟩
    exact ⟨rfl, Lib.below_freeze (hb1.trans hb2) (p := ⟨w.heap.size, 0, none⟩) (Nat.le_refl _) _⟩

theorem sclone_any (s : ByteArray) (w : World) (hlim : s.size ≤ 140737488355328) :
    Calls Tryz.prog 58 #[.string s] w fun e w' => e = .returned (.string s) ∧ Below w.heap.size w w' := by
  have H := Lib.hid (slite_clone s w hlim)
  clear hlim
  go_enter Tryz.func58, Tryz.ntmps58
  go_wp2_with (go_at_call 85; refine H.out.mono ?_; rintro e w1 ⟨rfl, hb⟩)
  go_ret
  exact ⟨rfl, hb⟩
end Go.Proofs.YthhdackaopaojaaGreat

namespace Go.Proofs.YthhdackaopaojaaGreat
open Go.RowKit Go.Tg Go.Maps

theorem blkSet {w : World} {g i : Nat} {cs : Array Value} {t : TypeId} {v : Value} (h : w.heap[g]? = some (.cells cs t (0, 0))) : (w.setCell ⟨g, i, none⟩ v).heap[g]? = some (.cells (cs.setIfInBounds i v) t (0, 0)) := set_block h i v

theorem setCells_blk {g : Nat} {T : TypeId} : ∀ (vs : List Value) (o : Nat) (w : World) (cur : Array Value), w.heap[g]? = some (.cells cur T (0, 0)) →
    ∃ cur', (w.setCells g o vs).heap[g]? = some (.cells cur' T (0, 0)) ∧ cur'.size = cur.size ∧ ∀ j, j < cur.size → cur'[j]? = if o ≤ j ∧ j < o + vs.length then vs[j - o]? else cur[j]? := by
  intro vs
  induction vs with
  | nil => intro o w cur h; exact ⟨cur, h, rfl, fun j _ => by rw [if_neg (by simp)]⟩
  | cons v vs ih =>
    intro o w cur h
    obtain ⟨cur', h1, h2, h3⟩ := ih (o + 1) (w.setCell ⟨g, o, none⟩ v) _ (blkSet h)
    refine ⟨cur', h1, by simpa using h2, fun j hj => ?_⟩
    rw [h3 j (by simpa using hj)]
    by_cases e : j = o
    · subst e
      rw [if_neg (by omega), if_pos (by simp)]
      simp [hj]
    · by_cases h4 : o + 1 ≤ j ∧ j < o + 1 + vs.length
      · rw [if_pos h4, if_pos (by simp; omega)]
        obtain ⟨d, hd⟩ : ∃ d, j - o = d + 1 := ⟨j - o - 1, by omega⟩
        rw [hd, show j - (o + 1) = d from by omega]
        rfl
      · rw [if_neg h4, if_neg (by simp; omega)]
        simp [Ne.symm e]
theorem setCells_keep {g : Nat} : ∀ (vs : List Value) (o : Nat) (w : World), Keep (· = g) w (w.setCells g o vs) := by
  intro vs
  induction vs with
  | nil => intro o w; exact Keep.refl _ _
  | cons v vs ih => intro o w; exact ((Keep.refl _ _).setB _ _).trans (ih _ _)

def zeroO (m : Nat) : List Value := (Builtin.zeroCells (Value.agg #[.int .i64 0, .string (ByteArray.mk #[])]).cells m).toList
theorem zeroO_len (m : Nat) : (zeroO m).length = m * 2 := by unfold zeroO; rw [Array.length_toList, size_zeroCells]; rfl
theorem zeroO_one (m : Nat) : ∀ v ∈ zeroO m, v.oneCell' = true := by
  intro v hv
  unfold zeroO Builtin.zeroCells at hv
  simp only [Array.toList_map, List.mem_map] at hv
  obtain ⟨i, _, rfl⟩ := hv
  have h2 : i % 2 = 0 ∨ i % 2 = 1 := by omega
  have hs : (Value.agg #[.int .i64 0, .string (ByteArray.mk #[])]).cells.size = 2 := rfl
  rw [hs]
  rcases h2 with h | h <;> rw [h] <;> rfl

theorem run_clear_opts (w : World) (ty : TypeId) (b o c m : Nat) (hm : 0 < m) (hc : ∀ j, j < m * 2 → (w.cell? ⟨b, o + j, none⟩).isSome = true) (hf : ∀ j, j < m * 2 → w.frozen? ⟨b, o + j, none⟩ = false) :
    (Builtin.clear_ #[36] ty #[.slice (some ⟨b, o, none⟩) m c]).run Tryz.prog w = .ok (.tuple #[]) (w.setCells b o (zeroO m)) := by
  have hv : ∀ w, (zeroValue 67).run Tryz.prog w = .ok (.agg #[.int .i64 0, .string (ByteArray.mk #[])]) w := fun w => by kernel_rfl
  have hl := zeroO_len m
  have hst := run_storeCells_cells (P := Tryz.prog) b o (zeroO m) 0 w (by rw [hl]; simpa using hc) (by rw [hl]; simpa using hf) (zeroO_one m)
  simp only [Nat.add_zero] at hst
  obtain ⟨k, rfl⟩ : ∃ k, m = k + 1 := ⟨m - 1, by omega⟩
  unfold zeroO at hst ⊢
  simp [Builtin.clear_, run_underlying Tryz.underlying36, hv, hst]

theorem optL_at (l : List Opt) (i : Nat) (hi : i < l.length) : (optL l).flatten[i * 2]? = some (.int .i64 l[i].t) ∧ (optL l).flatten[i * 2 + 1]? = some (.string l[i].v) := by
  have e : (optL l)[i]'(by rw [optL_len]; exact hi) = l[i].cells := by simp [optL]
  have h0 := flatten_at (optL l) (optL_k l) i (by rw [optL_len]; exact hi) 0 (by decide)
  have h1 := flatten_at (optL l) (optL_k l) i (by rw [optL_len]; exact hi) 1 (by decide)
  rw [e] at h0 h1
  exact ⟨h0, h1⟩
theorem optL_flen (l : List Opt) : (optL l).flatten.length = l.length * 2 := by rw [flatten_len _ (optL_k l), optL_len]

/-- Some options of a row have been left out in place. -/
structure DelI (w wr : World) (g cap : Nat) (l kept : List Opt) (k : Nat) : Prop where
  blk : ∃ cur, wr.heap[g]? = some (.cells cur 67 (0, 0)) ∧ cur.size = cap * 2 ∧ (∀ m, m < kept.length * 2 → cur[m]? = (optL kept).flatten[m]?) ∧ (∀ m, k * 2 ≤ m → m < l.length * 2 → cur[m]? = (optL l).flatten[m]?)
  keep : Keep (· = g) w wr

theorem DelI.cells {w wr : World} {g cap : Nat} {l kept : List Opt} {k : Nat} (h : DelI w wr g cap l kept k) (hk : k < l.length) : wr.cell? ⟨g, k * 2, none⟩ = some (.int .i64 l[k].t) ∧ wr.cell? ⟨g, k * 2 + 1, none⟩ = some (.string l[k].v) := by
  obtain ⟨cur, h1, h2, h3, h4⟩ := h.blk
  obtain ⟨e0, e1⟩ := optL_at l k hk
  exact ⟨cellOf h1 _ _ ((h4 _ (Nat.le_refl _) (by omega)).trans e0), cellOf h1 _ _ ((h4 _ (by omega) (by omega)).trans e1)⟩
theorem DelI.below {w wr w' : World} {g cap : Nat} {l kept : List Opt} {k : Nat} (h : DelI w wr g cap l kept k) (hb : Below wr.heap.size wr w') : DelI w w' g cap l kept k := by
  obtain ⟨cur, h1, h2⟩ := h.blk
  exact ⟨⟨cur, (hb.block g (Array.getElem?_eq_some_iff.1 h1).1).trans h1, h2⟩, h.keep.trans (Keep.of_below _ hb)⟩
theorem DelI.skip {w wr : World} {g cap : Nat} {l kept : List Opt} {k : Nat} (h : DelI w wr g cap l kept k) : DelI w wr g cap l kept (k + 1) := by
  obtain ⟨cur, h1, h2, h3, h4⟩ := h.blk
  exact ⟨⟨cur, h1, h2, h3, fun m hm => h4 m (by omega)⟩, h.keep⟩
theorem DelI.lt {w wr : World} {g cap : Nat} {l kept : List Opt} {k : Nat} (h : DelI w wr g cap l kept k) : g < wr.heap.size := by
  obtain ⟨cur, h1, _⟩ := h.blk
  exact (Array.getElem?_eq_some_iff.1 h1).1
theorem DelI.store {w wr : World} {g cap : Nat} {l kept : List Opt} {k : Nat} (h : DelI w wr g cap l kept k) (hk : k < l.length) (hc : l.length ≤ cap) (hn : kept.length ≤ k) (o : Opt) :
    DelI w ((wr.setCell ⟨g, kept.length * 2, none⟩ (.int .i64 o.t)).setCell ⟨g, kept.length * 2 + 1, none⟩ (.string o.v)) g cap l (kept ++ [o]) (k + 1) := by
  obtain ⟨cur, h1, h2, h3, h4⟩ := h.blk
  refine ⟨⟨_, blkSet (blkSet h1), by simpa using h2, ?_, ?_⟩, (h.keep.setB _ _).setB _ _⟩
  · intro m hm
    rw [List.length_append, List.length_singleton] at hm
    rw [optL_app]
    by_cases hlt : m < kept.length * 2
    · rw [Array.getElem?_setIfInBounds_ne (by omega), Array.getElem?_setIfInBounds_ne (by omega), h3 m hlt, List.getElem?_append_left (by rw [optL_flen]; exact hlt)]
    · rw [List.getElem?_append_right (by rw [optL_flen]; omega), optL_flen]
      by_cases he : m = kept.length * 2
      · subst he
        rw [Array.getElem?_setIfInBounds_ne (by omega), Array.getElem?_setIfInBounds_self_of_lt (by omega)]
        simp [optL, Opt.cells]
      · obtain rfl : m = kept.length * 2 + 1 := by omega
        rw [Array.getElem?_setIfInBounds_self_of_lt (by rw [Array.size_setIfInBounds]; omega)]
        simp [optL, Opt.cells]
  · intro m hm hm2
    rw [Array.getElem?_setIfInBounds_ne (by omega), Array.getElem?_setIfInBounds_ne (by omega)]
    exact h4 m (by omega) hm2
/-- What stays, where one's own row holds the list. -/
theorem DelI.start {w : World} {g cap : Nat} {cur : Array Value} {l : List Opt} (h : w.heap[g]? = some (.cells cur 67 (0, 0))) (hs : cur.size = cap * 2) (ht : cur.toList.take (l.length * 2) = (optL l).flatten) (k : Nat) (hk : k ≤ l.length) : DelI w w g cap l (l.take k) k := by
  have hm : ∀ m, m < l.length * 2 → cur[m]? = (optL l).flatten[m]? := fun m hm => by rw [← ht, List.getElem?_take_of_lt hm]; simp
  refine ⟨⟨cur, h, hs, ?_, fun m _ hm' => hm m hm'⟩, Keep.refl _ _⟩
  intro m hlt
  rw [List.length_take] at hlt
  rw [hm m (by omega)]
  have e : l = l.take k ++ l.drop k := (List.take_append_drop k l).symm
  conv => lhs; rw [e, optL_app]
  rw [List.getElem?_append_left (by rw [optL_flen, List.length_take]; omega)]
theorem DelI.row {w wr : World} {g cap : Nat} {l kept : List Opt} {k : Nat} (h : DelI w wr g cap l kept k) (hc : kept.length ≤ cap) (hm : cap ≤ maxLen) : ORow wr 0 (.slice (some ⟨g, 0, none⟩) kept.length cap) kept := by
  obtain ⟨cur, h1, h2, h3, h4⟩ := h.blk
  refine ⟨optL_flen kept, Or.inr ⟨g, cap, cur, rfl, Nat.zero_le _, h1, hc, hm, h2, ?_⟩⟩
  apply List.ext_getElem?
  intro m
  by_cases hlt : m < kept.length * 2
  · rw [List.getElem?_take_of_lt hlt, ← h3 m hlt]; simp
  · rw [List.getElem?_eq_none (by rw [List.length_take]; omega), List.getElem?_eq_none (by rw [optL_flen]; omega)]
theorem DelI.clear {w wr : World} {g cap : Nat} {l kept : List Opt} {k : Nat} (h : DelI w wr g cap l kept k) (zs : List Value) : DelI w (wr.setCells g (kept.length * 2) zs) g cap l kept l.length := by
  obtain ⟨cur, h1, h2, h3, h4⟩ := h.blk
  obtain ⟨cur', e1, e2, e3⟩ := setCells_blk (g := g) zs (kept.length * 2) wr cur h1
  refine ⟨⟨cur', e1, e2.trans h2, fun m hm => ?_, fun m h5 h6 => by omega⟩, h.keep.trans (setCells_keep _ _ _)⟩
  by_cases hlt : m < cur.size
  · rw [e3 m hlt, if_neg (by omega)]; exact h3 m hm
  · rw [← h3 m hm, Array.getElem?_eq_none (by omega), Array.getElem?_eq_none (by omega)]
theorem DelI.cleared {w wr : World} {g cap : Nat} {l kept : List Opt} {k : Nat} (h : DelI w wr g cap l kept k) (hc : l.length ≤ cap) (m : Nat) (hm : kept.length + m ≤ l.length) : ∀ j, j < m * 2 → (wr.cell? ⟨g, kept.length * 2 + j, none⟩).isSome = true ∧ wr.frozen? ⟨g, kept.length * 2 + j, none⟩ = false := by
  obtain ⟨cur, h1, h2, h3, h4⟩ := h.blk
  intro j hj
  constructor
  · simp only [World.cell?, h1]; simp; omega
  · simp [World.frozen?, h1]

theorem idxP_cases {α : Type} (p : α → Bool) (l : List α) : (idxP p l = -1 ∧ l.filter (fun x => !p x) = l) ∨ ∃ k, ∃ hk : k < l.length, idxP p l = (k : Int) ∧ p l[k] = true ∧ (l.take k).filter (fun x => !p x) = l.take k := by
  unfold idxP
  cases h : l.findIdx? p with
  | none =>
    left
    refine ⟨rfl, List.filter_eq_self.2 fun x hx => ?_⟩
    rw [List.findIdx?_eq_none_iff] at h
    simp [h x hx]
  | some k =>
    right
    obtain ⟨h1, h2, h3⟩ := List.findIdx?_eq_some_iff_getElem.1 h
    refine ⟨k, h1, rfl, h2, List.filter_eq_self.2 fun x hx => ?_⟩
    obtain ⟨j, hj, rfl⟩ := List.mem_iff_getElem.1 hx
    rw [List.length_take] at hj
    have := h3 j (by omega)
    rw [List.getElem_take]
    simpa using this

set_option maxHeartbeats 8000000 in
set_option maxRecDepth 100000 in
/-- slices.DeleteFunc of one's own row of options. -/
theorem delfunc_any (l : List Opt) (lv : Value) (gf : Nat) (lb : Array Value) (p : Opt → Bool) (w : World) (hl : ORow w 0 lv l) (hmax : l.length ≤ 1000000) (eg : ∀ args w, (callFunc gf args).run Tryz.prog w = .ok (.enter gf args) w)
    (hp : ∀ (W : World) (o : Opt), o ∈ l → Keep (fun b => lv.ownBlock = some b) w W → Calls Tryz.prog gf (#[.agg #[.int .i64 o.t, .string o.v]] ++ lb) W fun e w' => e = .returned (.bool (p o)) ∧ Below W.heap.size W w') :
    Calls Tryz.prog 111 #[lv, .func (.func gf) #[] lb] w fun e w' => ∃ v, e = .returned v ∧ ORow w' 0 v (l.filter fun o => !p o) ∧ v.ownBlock = lv.ownBlock ∧ Keep (fun b => lv.ownBlock = some b) w w' := by
  have HI := Lib.hid (idxO_any l lv (fun b => 0 ≤ b) gf lb p w (hl.opts (by unfold maxLen; omega)) hmax eg (fun W o ho hW => (hp W o ho (Keep.of_below _ hW)).mono (fun e w' ⟨h1, h2⟩ => ⟨h1, hW.trans (h2.mono hW.size)⟩)))
  rcases idxP_cases p l with ⟨hi, hf⟩ | ⟨k0, hk0, hi, hpk, hf⟩
  · rw [hi] at HI
    rw [hf]
    have H := Lib.hid hl
    obtain ⟨sa, sc, rfl⟩ := hl.form
    clear hl hi hf hp
    go_enter Tryz.func111, Tryz.ntmps111
    go_wp2_with (go_at_call 54; refine HI.out.mono ?_; rintro e w1 ⟨rfl, hb⟩)
    go_ret
    exact ⟨_, rfl, H.out.below hb, rfl, Keep.of_below _ hb⟩
  · rw [hi] at HI
    obtain ⟨g, cap, cur, rfl, hg, hcap, hmx, hsz, htk⟩ : ∃ g cap cur, lv = .slice (some ⟨g, 0, none⟩) l.length cap ∧ w.heap[g]? = some (.cells cur 67 (0, 0)) ∧ l.length ≤ cap ∧ cap ≤ maxLen ∧ cur.size = cap * 2 ∧ cur.toList.take (l.length * 2) = (optL l).flatten := by
      obtain ⟨_, ⟨_, h⟩ | ⟨g, cap, cur, h1, _, h3, h4, h5, h6, h7⟩⟩ := hl
      · rw [h] at hk0; exact absurd hk0 (Nat.not_lt_zero _)
      · exact ⟨g, cap, cur, h1, h3, h4, h5, h6, h7⟩
    obtain ⟨F, hF⟩ : ∃ F : Nat → List Opt, F = fun k => (l.take k).filter fun o => !p o := ⟨_, rfl⟩
    have hF0 : F k0 = l.take k0 := by rw [hF]; exact hf
    have hF1 : F (k0 + 1) = l.take k0 := by
      rw [hF]
      show (l.take (k0 + 1)).filter _ = _
      rw [List.take_succ_eq_append_getElem hk0, List.filter_append, hf, List.filter_cons_of_neg (by simp [hpk]), List.filter_nil, List.append_nil]
    have hFs : ∀ k (hk : k < l.length), F (k + 1) = F k ++ (if p l[k] then [] else [l[k]]) := by
      intro k hk
      rw [hF]
      show (l.take (k + 1)).filter _ = (l.take k).filter _ ++ _
      rw [List.take_succ_eq_append_getElem hk, List.filter_append]
      congr 1
      cases h : p l[k] <;> simp [h]
    have hFl : ∀ k, (F k).length ≤ k := by
      intro k
      rw [hF]
      exact Nat.le_trans (List.length_filter_le _ _) (by rw [List.length_take]; omega)
    have hFn : F l.length = l.filter fun o => !p o := by rw [hF]; show (l.take l.length).filter _ = _; rw [List.take_length]
    have hFb : ∀ k, k0 + 1 ≤ k → k ≤ l.length → (F k).length + 1 ≤ k := by
      intro k h1
      induction k with
      | zero => omega
      | succ k ih =>
        intro h2
        by_cases he : k = k0
        · subst he; rw [hF1, List.length_take]; omega
        · have := ih (by omega) (by omega)
          rw [hFs k (by omega), List.length_append]
          split <;> simp <;> omega
    have hst : DelI w w g cap l (F (k0 + 1)) (k0 + 1) := by rw [hF1]; exact (DelI.start hg hsz htk k0 (by omega)).skip
    have hFL : (F (k0 + 1)).length = k0 := by rw [hF1, List.length_take]; omega
    have H := Lib.hid (And.intro hst (And.intro hFs (And.intro hFl (And.intro hFn (And.intro hFb (And.intro hp hFL))))))
    obtain ⟨len, hln⟩ : ∃ len, len = l.length := ⟨_, rfl⟩
    have HLN := Lib.hid hln
    have hk0' : k0 < len := by omega
    rw [← hFn]
    rw [← hln] at hcap hmax HI ⊢
    unfold maxLen at hmx
    clear hl hi hf hp hst hFs hFl hFn hFb hF hF0 hF1 hg hsz htk hpk hk0 hFL hln
    have HKP : Hid (∀ W, Keep (· = g) w W → Keep (fun b => (Value.slice (some (⟨g, 0, none⟩ : Addr)) len cap).ownBlock = some b) w W) := Lib.hid (fun W h => h.mono (fun b _ hb => by rw [hb]; rfl))
    have f1 : ((k0 : Int) == -1) = false := by simp
    go_enter Tryz.func111, Tryz.ntmps111
    go_wp2_with (go_at_call 54; refine HI.out.mono ?_; rintro e w1 ⟨rfl, hb⟩)
    have H1 := Lib.hid (And.intro (H.out.1.below hb) hb)
    clear hb
    go_loopg [5, 6] (len - (k0 + 1)) (fun x i j wr => ∃ k : Nat, k ≤ len ∧ k0 + 1 ≤ k ∧ x = len - k ∧ i = .int .i64 (F k).length ∧ j = .int .i64 k ∧ Hid (DelI w wr g cap l (F k) k))
    case atStart => exact ⟨k0 + 1, by omega, by omega, by omega, by rw [H.out.2.2.2.2.2.2], by go_num, H1.out.1⟩
    case round =>
      obtain ⟨k, hk, hkk, rfl, rfl, rfl, hK⟩ := hrel
      have HK := Lib.hid hK.out
      clear hK
      by_cases hkl : k < len
      · have hkl' : k < l.length := by have := HLN.out; omega
        obtain ⟨d0, d1⟩ := HK.out.cells hkl'
        have hgl := HK.out.lt
        have hi1 := H.out.2.2.2.2.1 k hkk (by omega)
        have hcall := H.out.2.2.2.2.2.1 (wr.alloc (.cells #[.int .i64 l[k].t, .string l[k].v] 67 (0, 0))) l[k] (List.getElem_mem _) (by
          have := HKP.out _ (HK.out.keep.alloc (.cells #[.int .i64 l[k].t, .string l[k].v] 67 (0, 0)))
          rw [← HLN.out]; exact this)
        have HS := Lib.hid (H.out.2.1 k hkl')
        have HST := Lib.hid (fun W (hW : DelI w W g cap l (F k) k) => hW.store hkl' (by rw [← HLN.out]; exact hcap) (by omega) l[k])
        generalize p l[k] = y at hcall HS
        generalize l[k] = o at *
        obtain ⟨t, v⟩ := o
        simp only at d0 d1 hcall HS HST
        have hL : (F k).length ≤ len := by omega
        have hb0 := Below.heap_alloc wr (.cells #[.int .i64 t, .string v] 67 (0, 0)) wr.heap.size
        have HX := Lib.hid (at1 wr (.cells #[.int .i64 t, .string v] 67 (0, 0)))
        have HKA := Lib.hid (HK.out.below ((Below.refl _ _).alloc (Nat.le_refl _) (.cells #[.int .i64 t, .string v] 67 (0, 0))))
        obtain ⟨i, hi⟩ : ∃ i, i = (F k).length := ⟨_, rfl⟩
        rw [← hi] at hi1 hL ⊢
        have HI2 := Lib.hid hi
        clear hb0 hi
        cases y with
        | true =>
          go_wp2_with (go_at_fn gf; refine hcall.mono ?_; rintro e w5 ⟨rfl, hb5⟩)
          go_roundg (len - (k + 1))
          case measure => omega
          case rel =>
            refine ⟨k + 1, by omega, by omega, rfl, ?_, by go_num, ?_⟩
            · rw [show F (k + 1) = F k from by simpa using HS.out, ← HI2.out]
            · rw [show F (k + 1) = F k from by simpa using HS.out]; exact (HKA.out.below hb5).skip
        | false =>
          go_wp2_with (go_at_fn gf; refine hcall.mono ?_; rintro e w5 ⟨rfl, hb5⟩
                       have hx5 := (hb5.block wr.heap.size (by rw [alloc1]; omega)).trans HX.out
                       have c50 : w5.cell? ⟨wr.heap.size, 0, none⟩ = some (.int .i64 t) := cellOf hx5 0 _ rfl
                       have c51 : w5.cell? ⟨wr.heap.size, 1, none⟩ = some (.string v) := cellOf hx5 1 _ rfl
                       have hD := HKA.out.below hb5
                       have HD := Lib.hid hD
                       obtain ⟨cu, g1, g2, -, -⟩ := hD.blk
                       have i0 : (w5.cell? ⟨g, i * 2, none⟩).isSome = true := by simp only [World.cell?, g1]; simp; omega
                       have i1 : (w5.cell? ⟨g, i * 2 + 1, none⟩).isSome = true := by simp only [World.cell?, g1]; simp; omega
                       obtain ⟨x0, y0⟩ := Option.isSome_iff_exists.1 i0
                       obtain ⟨x1, y1⟩ := Option.isSome_iff_exists.1 i1
                       have z0 : w5.frozen? ⟨g, i * 2, none⟩ = false := by simp [World.frozen?, g1]
                       have z1 : w5.frozen? ⟨g, i * 2 + 1, none⟩ = false := by simp [World.frozen?, g1]
                       clear hx5 hD g1 g2 i0 i1)
          go_roundg (len - (k + 1))
          case measure => omega
          case rel =>
            have hs2 : F (k + 1) = F k ++ [⟨t, v⟩] := by simpa using HS.out
            refine ⟨k + 1, by omega, by omega, rfl, ?_, by go_num, ?_⟩
            · rw [hs2, List.length_append, ← HI2.out]; go_num
            · rw [hs2]
              have h9 := HD.out.store hkl' (by rw [← HLN.out]; exact hcap) (by rw [← HI2.out]; omega) ⟨t, v⟩
              rw [← HI2.out] at h9
              exact h9
      · obtain rfl : len = k := by omega
        have hl1 := H.out.2.2.2.2.1 len hkk (by rw [HLN.out]; omega)
        obtain ⟨i, hi⟩ : ∃ i, i = (F len).length := ⟨_, rfl⟩
        have HI2 := Lib.hid hi
        rw [← hi] at hl1 ⊢
        have hi2 : i < len := by omega
        have hzz := fun ty c => run_clear_opts wr ty g (i * 2) c (len - i) (by omega)
          (fun j hj => ((HK.out.cleared (by rw [← HLN.out]; exact hcap) (len - i) (by rw [← HI2.out, ← HLN.out]; omega)) j hj |> fun h => by rw [HI2.out]; exact h.1))
          (fun j hj => ((HK.out.cleared (by rw [← HLN.out]; exact hcap) (len - i) (by rw [← HI2.out, ← HLN.out]; omega)) j hj |> fun h => by rw [HI2.out]; exact h.2))
        have hic : ¬ cap = i := by omega
        have hil : i ≤ cap := by omega
        have hil2 : i ≤ len := by omega
        clear hi
        go_wp2_with fail
        go_ret
        have hD := HK.out.clear (zeroO (len - i))
        rw [← HI2.out] at hD
        have hR := hD.row (by rw [← HI2.out]; exact hil) (by unfold maxLen; omega)
        rw [← HI2.out] at hR
        exact ⟨_, rfl, hR, rfl, HKP.out _ hD.keep⟩
end Go.Proofs.YthhdackaopaojaaGreat
