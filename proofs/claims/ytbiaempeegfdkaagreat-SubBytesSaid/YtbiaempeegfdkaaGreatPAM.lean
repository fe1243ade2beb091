import Derived.Test.YtbiaempeegfdkaaGreatPAK
import Derived.Laws.IdiomCopy
import Derived.Laws.MakeOwn
import Derived.Lib.Strings
import Derived.Lib.BufferWrite
import Derived.Lib.UnsafeStr
import Derived.Deep.RegionLaw
set_option linter.unusedVariables false
set_option linter.unusedSimpArgs false
set_option maxHeartbeats 16000000
namespace Go.Proofs.YtbiaempeegfdkaaGreat
open Go.RowKit Go.Tg Go.Maps
theorem u8_info : ∃ i, Tryz.prog.info? 5 = some i /\ i.zero = some (.int .u8 0) /\ i.size = 1 /\ i.bytes = 1 := by
 have h : (Tryz.prog.info? 5).map (fun i => (i.zero, i.size, i.bytes)) = some (some (.int .u8 0), 1, 1) := by kernel_rfl
 obtain ⟨i, hi, he⟩ := Option.map_eq_some_iff.1 h; simp only [Prod.mk.injEq] at he; exact ⟨i, hi, he.1, he.2.1, he.2.2⟩
set_option maxRecDepth 100000 in
theorem slite_clone (s : ByteArray) (w : World) (hlim : s.size <= 140737488355328) :
 Calls Tryz.prog 85 #[.string s] w fun e w' => e = .returned (.string s) /\ Below w.heap.size w w' := by
 by_cases h0 : s.size = 0
 . have hs : s = ⟨#[]⟩ := by
    apply ByteArray.ext
    exact Array.eq_empty_of_size_eq_zero h0
   subst hs; go_enter Tryz.func85, Tryz.ntmps85
   go_wp2
   go_ret; exact ⟨rfl, Below.refl _ _⟩
 . obtain ⟨i0, hi, hz0, hz1, hz2⟩ := u8_info; have hinfo : (Tryz.prog.info? 5).map (·.size) = some 1 := by rw [hi]; simp [hz1]
   have hco : Tryz.prog.cellsOf 5 = 1 := by simp [Program.cellsOf, hi, hz1]
   obtain ⟨M, hM⟩ : ∃ M, M = madeCells (Value.int .u8 0).cells (((s.size : Nat) : Int).toNat * i0.size) := ⟨_, rfl⟩; have hMs : M.size = s.size := by rw [hM, size_madeCells, hz1]; simp
   have hmk : ∀ W : World, (Instr.makeSlice 66 (.int .i64 (s.size : Int)) (.int .i64 (s.size : Int))).run Tryz.prog W = .ok (.slice (some ⟨W.heap.size, 0, none⟩) s.size s.size) (W.alloc (.cells M 5)) := fun W => by
    have h := run_make (P := Tryz.prog) W 66 5 i0 (.int .u8 0) Tryz.underlying66 hi hz0 .i64 .i64 (s.size : Int) (s.size : Int) (by omega) (by omega) (by rw [hz2]; omega) (by omega); rw [<- hM] at h
    simpa using h
   clear hM; have hcp := Lib.run_copy_row_string (P := Tryz.prog) (w.alloc (.cells M 5)) 66 9 3 5 w.heap.size 0 s.size s.size s M 5 Tryz.underlying66 hinfo (heap_alloc_new w _) (Nat.le_refl _) (by omega); obtain ⟨Y, hY⟩ : ∃ Y, Y = (M.toList.take 0 ++ Lib.byteCells s.data.toList ++ M.toList.drop (0 + s.size)).toArray := ⟨_, rfl⟩; rw [<- hY] at hcp
   have hYl : Y.toList = Lib.byteCells s.data.toList := by
    rw [hY, List.toList_toArray, List.take_zero, List.nil_append, List.drop_of_length_le (by rw [Array.length_toList]; omega), List.append_nil]
   have hYs : Y.size = s.size := by rw [<- Array.length_toList, hYl, Lib.byteCells_length, <- Lib.size_eq]
   have hgY : ((w.alloc (.cells M 5)).setRow w.heap.size Y).heap[w.heap.size]? = some (.cells Y 5 (0, 0)) := setRow_heap _ _ M _ 5 (0, 0) (heap_alloc_new w _); have hne : s.data.toList ≠ [] := fun e => h0 (by rw [Lib.size_eq, e]; rfl)
   have hUS := Lib.run_unsafeString_row (P := Tryz.prog) ((w.alloc (.cells M 5)).setRow w.heap.size Y) 160 3 9 5 Tryz.underlying160 hco w.heap.size Y.size (by unfold World.shape?; rw [hgY]) s.data.toList hne (by rw [<- Lib.size_eq]; omega) (by rw [<- Lib.size_eq]; omega)
    (fun j x hx => Lib.cells_of_row hgY Y.size j _ (by rw [List.take_of_length_le (by rw [Array.length_toList]; exact Nat.le_refl _), hYl]; simp [Lib.byteCells, hx]))
   rw [<- Lib.size_eq] at hUS; clear hY; go_enter Tryz.func85, Tryz.ntmps85
   go_wp2
   go_ret; have hb1 : Below w.heap.size w (w.alloc (.cells M 5)) := (Below.refl _ w).alloc (Nat.le_refl _) _; have hb2 : Below w.heap.size (w.alloc (.cells M 5)) ((w.alloc (.cells M 5)).setRow w.heap.size Y) := ⟨rfl, rfl, rfl, by simp, fun k hk => setRow_other _ _ _ _ (by omega)⟩; exact ⟨rfl, Lib.below_freeze (hb1.trans hb2) (p := ⟨w.heap.size, 0, none⟩) (Nat.le_refl _) _⟩
theorem sclone_any (s : ByteArray) (w : World) (hlim : s.size <= 140737488355328) :
 Calls Tryz.prog 44 #[.string s] w fun e w' => e = .returned (.string s) /\ Below w.heap.size w w' := by
 have H := H_ (slite_clone s w hlim); clear hlim; go_enter Tryz.func44, Tryz.ntmps44
 go_wp2_with (go_at_call 85; refine H.out.mono ?_; rintro e w1 ⟨rfl, hb⟩)
 go_ret; exact ⟨rfl, hb⟩
theorem blkSet {w : World} {g i : Nat} {cs : Array Value} {t : TypeId} {v : Value} (h : w.heap[g]? = some (.cells cs t (0, 0))) : (w.setCell ⟨g, i, none⟩ v).heap[g]? = some (.cells (cs.setIfInBounds i v) t (0, 0)) := set_block h i v
theorem setCells_blk {g : Nat} {T : TypeId} : ∀ (vs : List Value) (o : Nat) (w : World) (cur : Array Value), w.heap[g]? = some (.cells cur T (0, 0)) ->
 ∃ cur', (w.setCells g o vs).heap[g]? = some (.cells cur' T (0, 0)) /\ cur'.size = cur.size /\ ∀ j, j < cur.size -> cur'[j]? = if o <= j /\ j < o + vs.length then vs[j - o]? else cur[j]? := by
 intro vs
 induction vs with
 | nil => intro o w cur h; exact ⟨cur, h, rfl, fun j _ => by rw [if_neg (by simp)]⟩
 | cons v vs ih =>
  intro o w cur h; obtain ⟨cur', h1, h2, h3⟩ := ih (o + 1) (w.setCell ⟨g, o, none⟩ v) _ (blkSet h); refine ⟨cur', h1, by simpa using h2, fun j hj => ?_⟩; rw [h3 j (by simpa using hj)]
  by_cases e : j = o
  . subst e; rw [if_neg (by omega), if_pos (by simp)]; simp [hj]
  . by_cases h4 : o + 1 <= j /\ j < o + 1 + vs.length
    . rw [if_pos h4, if_pos (by simp; omega)]; obtain ⟨d, hd⟩ : ∃ d, j - o = d + 1 := ⟨j - o - 1, by omega⟩; rw [hd, show j - (o + 1) = d from by omega]; rfl
    . rw [if_neg h4, if_neg (by simp; omega)]; simp [Ne.symm e]
theorem setCells_keep {g : Nat} : ∀ (vs : List Value) (o : Nat) (w : World), Keep (· = g) w (w.setCells g o vs) := by
 intro vs
 induction vs with
 | nil => intro o w; exact Keep.refl _ _
 | cons v vs ih => intro o w; exact ((Keep.refl _ _).setB _ _).trans (ih _ _)
def zeroO (m : Nat) : List Value := (Builtin.zeroCells (Value.agg #[.int .i64 0, .string (ByteArray.mk #[])]).cells m).toList
theorem zeroO_len (m : Nat) : (zeroO m).length = m * 2 := by unfold zeroO; rw [Array.length_toList, size_zeroCells]; rfl
theorem zeroO_one (m : Nat) : ∀ v ∈ zeroO m, v.oneCell' = true := by
 intro v hv; unfold zeroO Builtin.zeroCells at hv; simp only [Array.toList_map, List.mem_map] at hv; obtain ⟨i, _, rfl⟩ := hv; have h2 : i % 2 = 0 \/ i % 2 = 1 := by omega
 have hs : (Value.agg #[.int .i64 0, .string (ByteArray.mk #[])]).cells.size = 2 := rfl; rw [hs]
 rcases h2 with h | h <;> rw [h] <;> rfl
theorem run_clear_opts (w : World) (ty : TypeId) (b o c m : Nat) (hm : 0 < m) (hc : ∀ j, j < m * 2 -> (w.cell? ⟨b, o + j, none⟩).isSome = true) (hf : ∀ j, j < m * 2 -> w.frozen? ⟨b, o + j, none⟩ = false) :
 (Builtin.clear_ #[42] ty #[.slice (some ⟨b, o, none⟩) m c]).run Tryz.prog w = .ok (.tuple #[]) (w.setCells b o (zeroO m)) := by
 have hv : ∀ w, (zeroValue 132).run Tryz.prog w = .ok (.agg #[.int .i64 0, .string (ByteArray.mk #[])]) w := fun w => by kernel_rfl
 have hl := zeroO_len m; have hst := run_storeCells_cells (P := Tryz.prog) b o (zeroO m) 0 w (by rw [hl]; simpa using hc) (by rw [hl]; simpa using hf) (zeroO_one m); simp only [Nat.add_zero] at hst; obtain ⟨k, rfl⟩ : ∃ k, m = k + 1 := ⟨m - 1, by omega⟩; unfold zeroO at hst ⊢; simp [Builtin.clear_, run_underlying Tryz.underlying42, hv, hst]
theorem optL_at (l : List Opt) (i : Nat) (hi : i < l.length) : (optL l).flatten[i * 2]? = some (.int .i64 l[i].t) /\ (optL l).flatten[i * 2 + 1]? = some (.string l[i].v) := by
 have e : (optL l)[i]'(by rw [optL_len]; exact hi) = l[i].cells := by simp [optL]
 have h0 := flatten_at (optL l) (optL_k l) i (by rw [optL_len]; exact hi) 0 (by decide); have h1 := flatten_at (optL l) (optL_k l) i (by rw [optL_len]; exact hi) 1 (by decide); rw [e] at h0 h1; exact ⟨h0, h1⟩
theorem optL_flen (l : List Opt) : (optL l).flatten.length = l.length * 2 := by rw [flatten_len _ (optL_k l), optL_len]
structure DelI (w wr : World) (g cap : Nat) (l kept : List Opt) (k : Nat) : Prop where
 blk : ∃ cur, wr.heap[g]? = some (.cells cur 132 (0, 0)) /\ cur.size = cap * 2 /\ (∀ m, m < kept.length * 2 -> cur[m]? = (optL kept).flatten[m]?) /\ (∀ m, k * 2 <= m -> m < l.length * 2 -> cur[m]? = (optL l).flatten[m]?)
 keep : Keep (· = g) w wr
theorem DelI.cells {w wr : World} {g cap : Nat} {l kept : List Opt} {k : Nat} (h : DelI w wr g cap l kept k) (hk : k < l.length) : wr.cell? ⟨g, k * 2, none⟩ = some (.int .i64 l[k].t) /\ wr.cell? ⟨g, k * 2 + 1, none⟩ = some (.string l[k].v) := by
 obtain ⟨cur, h1, h2, h3, h4⟩ := h.blk; obtain ⟨e0, e1⟩ := optL_at l k hk; exact ⟨cellOf h1 _ _ ((h4 _ (Nat.le_refl _) (by omega)).trans e0), cellOf h1 _ _ ((h4 _ (by omega) (by omega)).trans e1)⟩
theorem DelI.below {w wr w' : World} {g cap : Nat} {l kept : List Opt} {k : Nat} (h : DelI w wr g cap l kept k) (hb : Below wr.heap.size wr w') : DelI w w' g cap l kept k := by
 obtain ⟨cur, h1, h2⟩ := h.blk; exact ⟨⟨cur, (hb.block g (Array.getElem?_eq_some_iff.1 h1).1).trans h1, h2⟩, h.keep.trans (Keep.of_below _ hb)⟩
theorem DelI.skip {w wr : World} {g cap : Nat} {l kept : List Opt} {k : Nat} (h : DelI w wr g cap l kept k) : DelI w wr g cap l kept (k + 1) := by
 obtain ⟨cur, h1, h2, h3, h4⟩ := h.blk; exact ⟨⟨cur, h1, h2, h3, fun m hm => h4 m (by omega)⟩, h.keep⟩
theorem DelI.lt {w wr : World} {g cap : Nat} {l kept : List Opt} {k : Nat} (h : DelI w wr g cap l kept k) : g < wr.heap.size := by
 obtain ⟨cur, h1, _⟩ := h.blk; exact (Array.getElem?_eq_some_iff.1 h1).1
theorem DelI.store {w wr : World} {g cap : Nat} {l kept : List Opt} {k : Nat} (h : DelI w wr g cap l kept k) (hk : k < l.length) (hc : l.length <= cap) (hn : kept.length <= k) (o : Opt) :
 DelI w ((wr.setCell ⟨g, kept.length * 2, none⟩ (.int .i64 o.t)).setCell ⟨g, kept.length * 2 + 1, none⟩ (.string o.v)) g cap l (kept ++ [o]) (k + 1) := by
 obtain ⟨cur, h1, h2, h3, h4⟩ := h.blk; refine ⟨⟨_, blkSet (blkSet h1), by simpa using h2, ?_, ?_⟩, (h.keep.setB _ _).setB _ _⟩
 . intro m hm; rw [List.length_append, List.length_singleton] at hm; rw [optL_app]
   by_cases hlt : m < kept.length * 2
   . rw [Array.getElem?_setIfInBounds_ne (by omega), Array.getElem?_setIfInBounds_ne (by omega), h3 m hlt, List.getElem?_append_left (by rw [optL_flen]; exact hlt)]
   . rw [List.getElem?_append_right (by rw [optL_flen]; omega), optL_flen]
     by_cases he : m = kept.length * 2
     . subst he; rw [Array.getElem?_setIfInBounds_ne (by omega), Array.getElem?_setIfInBounds_self_of_lt (by omega)]; simp [optL, Opt.cells]
     . obtain rfl : m = kept.length * 2 + 1 := by omega
       rw [Array.getElem?_setIfInBounds_self_of_lt (by rw [Array.size_setIfInBounds]; omega)]; simp [optL, Opt.cells]
 . intro m hm hm2; rw [Array.getElem?_setIfInBounds_ne (by omega), Array.getElem?_setIfInBounds_ne (by omega)]; exact h4 m (by omega) hm2
theorem DelI.start {w : World} {g cap : Nat} {cur : Array Value} {l : List Opt} (h : w.heap[g]? = some (.cells cur 132 (0, 0))) (hs : cur.size = cap * 2) (ht : cur.toList.take (l.length * 2) = (optL l).flatten) (k : Nat) (hk : k <= l.length) : DelI w w g cap l (l.take k) k := by
 have hm : ∀ m, m < l.length * 2 -> cur[m]? = (optL l).flatten[m]? := fun m hm => by rw [<- ht, List.getElem?_take_of_lt hm]; simp
 refine ⟨⟨cur, h, hs, ?_, fun m _ hm' => hm m hm'⟩, Keep.refl _ _⟩; intro m hlt; rw [List.length_take] at hlt; rw [hm m (by omega)]; have e : l = l.take k ++ l.drop k := (List.take_append_drop k l).symm
 conv => lhs; rw [e, optL_app]
 rw [List.getElem?_append_left (by rw [optL_flen, List.length_take]; omega)]
theorem DelI.row {w wr : World} {g cap : Nat} {l kept : List Opt} {k : Nat} (h : DelI w wr g cap l kept k) (hc : kept.length <= cap) (hm : cap <= maxLen) : ORow wr 0 (.slice (some ⟨g, 0, none⟩) kept.length cap) kept := by
 obtain ⟨cur, h1, h2, h3, h4⟩ := h.blk; refine ⟨optL_flen kept, Or.inr ⟨g, cap, cur, rfl, Nat.zero_le _, h1, hc, hm, h2, ?_⟩⟩
 apply List.ext_getElem?
 intro m
 by_cases hlt : m < kept.length * 2
 . rw [List.getElem?_take_of_lt hlt, <- h3 m hlt]; simp
 . rw [List.getElem?_eq_none (by rw [List.length_take]; omega), List.getElem?_eq_none (by rw [optL_flen]; omega)]
theorem DelI.clear {w wr : World} {g cap : Nat} {l kept : List Opt} {k : Nat} (h : DelI w wr g cap l kept k) (zs : List Value) : DelI w (wr.setCells g (kept.length * 2) zs) g cap l kept l.length := by
 obtain ⟨cur, h1, h2, h3, h4⟩ := h.blk; obtain ⟨cur', e1, e2, e3⟩ := setCells_blk (g := g) zs (kept.length * 2) wr cur h1; refine ⟨⟨cur', e1, e2.trans h2, fun m hm => ?_, fun m h5 h6 => by omega⟩, h.keep.trans (setCells_keep _ _ _)⟩
 by_cases hlt : m < cur.size
 . rw [e3 m hlt, if_neg (by omega)]; exact h3 m hm
 . rw [<- h3 m hm, Array.getElem?_eq_none (by omega), Array.getElem?_eq_none (by omega)]
theorem DelI.cleared {w wr : World} {g cap : Nat} {l kept : List Opt} {k : Nat} (h : DelI w wr g cap l kept k) (hc : l.length <= cap) (m : Nat) (hm : kept.length + m <= l.length) : ∀ j, j < m * 2 -> (wr.cell? ⟨g, kept.length * 2 + j, none⟩).isSome = true /\ wr.frozen? ⟨g, kept.length * 2 + j, none⟩ = false := by
 obtain ⟨cur, h1, h2, h3, h4⟩ := h.blk; intro j hj
 constructor
 . simp only [World.cell?, h1]; simp; omega
 . simp [World.frozen?, h1]
theorem idxP_cases {α : Type} (p : α -> Bool) (l : List α) : (idxP p l = -1 /\ l.filter (fun x => !p x) = l) \/ ∃ k, ∃ hk : k < l.length, idxP p l = (k : Int) /\ p l[k] = true /\ (l.take k).filter (fun x => !p x) = l.take k := by
 unfold idxP
 cases h : l.findIdx? p with
 | none =>
  left
  refine ⟨rfl, List.filter_eq_self.2 fun x hx => ?_⟩; rw [List.findIdx?_eq_none_iff] at h; simp [h x hx]
 | some k =>
  right
  obtain ⟨h1, h2, h3⟩ := List.findIdx?_eq_some_iff_getElem.1 h; refine ⟨k, h1, rfl, h2, List.filter_eq_self.2 fun x hx => ?_⟩; obtain ⟨j, hj, rfl⟩ := List.mem_iff_getElem.1 hx; rw [List.length_take] at hj; have := h3 j (by omega); rw [List.getElem_take]
  simpa using this
set_option maxRecDepth 100000 in
theorem delfunc_any (l : List Opt) (lv : Value) (gf : Nat) (lb : Array Value) (p : Opt -> Bool) (w : World) (hl : ORow w 0 lv l) (hmax : l.length <= 1000000) (eg : ∀ args w, (callFunc gf args).run Tryz.prog w = .ok (.enter gf args) w)
 (hp : ∀ (W : World) (o : Opt), o ∈ l -> Keep (fun b => lv.ownBlock = some b) w W -> Calls Tryz.prog gf (#[.agg #[.int .i64 o.t, .string o.v]] ++ lb) W fun e w' => e = .returned (.bool (p o)) /\ Below W.heap.size W w') :
 Calls Tryz.prog 169 #[lv, .func (.func gf) #[] lb] w fun e w' => ∃ v, e = .returned v /\ ORow w' 0 v (l.filter fun o => !p o) /\ v.ownBlock = lv.ownBlock /\ Keep (fun b => lv.ownBlock = some b) w w' := by
 have HI := H_ (idxO_any l lv (fun b => 0 <= b) gf lb p w (hl.opts (by unfold maxLen; omega)) hmax eg (fun W o ho hW => (hp W o ho (Keep.of_below _ hW)).mono (fun e w' ⟨h1, h2⟩ => ⟨h1, hW.trans (h2.mono hW.size)⟩)))
 rcases idxP_cases p l with ⟨hi, hf⟩ | ⟨k0, hk0, hi, hpk, hf⟩
 . rw [hi] at HI; rw [hf]; have H := H_ hl; obtain ⟨sa, sc, rfl⟩ := hl.form; clear hl hi hf hp; go_enter Tryz.func169, Tryz.ntmps169
   go_wp2_with (go_at_call 96; refine HI.out.mono ?_; rintro e w1 ⟨rfl, hb⟩)
   go_ret; exact ⟨_, rfl, H.out.below hb, rfl, Keep.of_below _ hb⟩
 . rw [hi] at HI
   obtain ⟨g, cap, cur, rfl, hg, hcap, hmx, hsz, htk⟩ : ∃ g cap cur, lv = .slice (some ⟨g, 0, none⟩) l.length cap /\ w.heap[g]? = some (.cells cur 132 (0, 0)) /\ l.length <= cap /\ cap <= maxLen /\ cur.size = cap * 2 /\ cur.toList.take (l.length * 2) = (optL l).flatten := by
    obtain ⟨_, ⟨_, h⟩ | ⟨g, cap, cur, h1, _, h3, h4, h5, h6, h7⟩⟩ := hl
    . rw [h] at hk0; exact absurd hk0 (Nat.not_lt_zero _)
    . exact ⟨g, cap, cur, h1, h3, h4, h5, h6, h7⟩
   obtain ⟨F, hF⟩ : ∃ F : Nat -> List Opt, F = fun k => (l.take k).filter fun o => !p o := ⟨_, rfl⟩; have hF0 : F k0 = l.take k0 := by rw [hF]; exact hf
   have hF1 : F (k0 + 1) = l.take k0 := by
    rw [hF]
    show (l.take (k0 + 1)).filter _ = _
    rw [List.take_succ_eq_append_getElem hk0, List.filter_append, hf, List.filter_cons_of_neg (by simp [hpk]), List.filter_nil, List.append_nil]
   have hFs : ∀ k (hk : k < l.length), F (k + 1) = F k ++ (if p l[k] then [] else [l[k]]) := by
    intro k hk; rw [hF]
    show (l.take (k + 1)).filter _ = (l.take k).filter _ ++ _
    rw [List.take_succ_eq_append_getElem hk, List.filter_append]
    congr 1
    cases h : p l[k] <;> simp [h]
   have hFl : ∀ k, (F k).length <= k := by
    intro k; rw [hF]; exact Nat.le_trans (List.length_filter_le _ _) (by rw [List.length_take]; omega)
   have hFn : F l.length = l.filter fun o => !p o := by rw [hF]; show (l.take l.length).filter _ = _; rw [List.take_length]
   have hFb : ∀ k, k0 + 1 <= k -> k <= l.length -> (F k).length + 1 <= k := by
    intro k h1
    induction k with
    | zero => omega
    | succ k ih =>
     intro h2
     by_cases he : k = k0
     . subst he; rw [hF1, List.length_take]; omega
     . have := ih (by omega) (by omega); rw [hFs k (by omega), List.length_append]
       split <;> simp <;> omega
   have hst : DelI w w g cap l (F (k0 + 1)) (k0 + 1) := by rw [hF1]; exact (DelI.start hg hsz htk k0 (by omega)).skip
   have hFL : (F (k0 + 1)).length = k0 := by rw [hF1, List.length_take]; omega
   have H := H_ (A_ hst (A_ hFs (A_ hFl (A_ hFn (A_ hFb (A_ hp hFL)))))); obtain ⟨len, hln⟩ : ∃ len, len = l.length := ⟨_, rfl⟩; have HLN := H_ hln; have hk0' : k0 < len := by omega
   rw [<- hFn]; rw [<- hln] at hcap hmax HI ⊢; unfold maxLen at hmx; clear hl hi hf hp hst hFs hFl hFn hFb hF hF0 hF1 hg hsz htk hpk hk0 hFL hln; have HKP : Hid (∀ W, Keep (· = g) w W -> Keep (fun b => (Value.slice (some (⟨g, 0, none⟩ : Addr)) len cap).ownBlock = some b) w W) := H_ (fun W h => h.mono (fun b _ hb => by rw [hb]; rfl)); have f1 : ((k0 : Int) == -1) = false := by simp
   go_enter Tryz.func169, Tryz.ntmps169
   go_wp2_with (go_at_call 96; refine HI.out.mono ?_; rintro e w1 ⟨rfl, hb⟩)
   have H1 := H_ (A_ (H.out.1.below hb) hb); clear hb
   go_loopg [5, 6] (len - (k0 + 1)) (fun x i j wr => ∃ k : Nat, k <= len /\ k0 + 1 <= k /\ x = len - k /\ i = .int .i64 (F k).length /\ j = .int .i64 k /\ Hid (DelI w wr g cap l (F k) k))
   case atStart => exact ⟨k0 + 1, by omega, by omega, by omega, by rw [H.out.2.2.2.2.2.2], by go_num, H1.out.1⟩
   case round =>
    obtain ⟨k, hk, hkk, rfl, rfl, rfl, hK⟩ := hrel; have HK := H_ hK.out; clear hK
    by_cases hkl : k < len
    . have hkl' : k < l.length := by have := HLN.out; omega
      obtain ⟨d0, d1⟩ := HK.out.cells hkl'; have hgl := HK.out.lt; have hi1 := H.out.2.2.2.2.1 k hkk (by omega)
      have hcall := H.out.2.2.2.2.2.1 (wr.alloc (.cells #[.int .i64 l[k].t, .string l[k].v] 132 (0, 0))) l[k] (List.getElem_mem _) (by
       have := HKP.out _ (HK.out.keep.alloc (.cells #[.int .i64 l[k].t, .string l[k].v] 132 (0, 0)))
       rw [<- HLN.out]; exact this)
      have HS := H_ (H.out.2.1 k hkl'); have HST := H_ (fun W (hW : DelI w W g cap l (F k) k) => hW.store hkl' (by rw [<- HLN.out]; exact hcap) (by omega) l[k]); generalize p l[k] = y at hcall HS; generalize l[k] = o at *; obtain ⟨t, v⟩ := o; simp only at d0 d1 hcall HS HST
      have hL : (F k).length <= len := by omega
      have hb0 := Below.heap_alloc wr (.cells #[.int .i64 t, .string v] 132 (0, 0)) wr.heap.size; have HX := H_ (at1 wr (.cells #[.int .i64 t, .string v] 132 (0, 0))); have HKA := H_ (HK.out.below ((Below.refl _ _).alloc (Nat.le_refl _) (.cells #[.int .i64 t, .string v] 132 (0, 0)))); obtain ⟨i, hi⟩ : ∃ i, i = (F k).length := ⟨_, rfl⟩; rw [<- hi] at hi1 hL ⊢; have HI2 := H_ hi; clear hb0 hi
      cases y with
      | true =>
       go_wp2_with (go_at_fn gf; refine hcall.mono ?_; rintro e w5 ⟨rfl, hb5⟩)
       go_roundg (len - (k + 1))
       case measure => omega
       case rel =>
        refine ⟨k + 1, by omega, by omega, rfl, ?_, by go_num, ?_⟩
        . rw [show F (k + 1) = F k from by simpa using HS.out, <- HI2.out]
        . rw [show F (k + 1) = F k from by simpa using HS.out]; exact (HKA.out.below hb5).skip
      | false =>
       go_wp2_with (
        go_at_fn gf; refine hcall.mono ?_; rintro e w5 ⟨rfl, hb5⟩
        have hx5 := (hb5.block wr.heap.size (by rw [alloc1]; omega)).trans HX.out; have c50 : w5.cell? ⟨wr.heap.size, 0, none⟩ = some (.int .i64 t) := cellOf hx5 0 _ rfl; have c51 : w5.cell? ⟨wr.heap.size, 1, none⟩ = some (.string v) := cellOf hx5 1 _ rfl; have hD := HKA.out.below hb5; have HD := H_ hD; obtain ⟨cu, g1, g2, -, -⟩ := hD.blk; have i0 : (w5.cell? ⟨g, i * 2, none⟩).isSome = true := by simp only [World.cell?, g1]; simp; omega
        have i1 : (w5.cell? ⟨g, i * 2 + 1, none⟩).isSome = true := by simp only [World.cell?, g1]; simp; omega
        obtain ⟨x0, y0⟩ := Option.isSome_iff_exists.1 i0; obtain ⟨x1, y1⟩ := Option.isSome_iff_exists.1 i1; have z0 : w5.frozen? ⟨g, i * 2, none⟩ = false := by simp [World.frozen?, g1]
        have z1 : w5.frozen? ⟨g, i * 2 + 1, none⟩ = false := by simp [World.frozen?, g1]
        clear hx5 hD g1 g2 i0 i1)
       go_roundg (len - (k + 1))
       case measure => omega
       case rel =>
        have hs2 : F (k + 1) = F k ++ [⟨t, v⟩] := by simpa using HS.out
        refine ⟨k + 1, by omega, by omega, rfl, ?_, by go_num, ?_⟩
        . rw [hs2, List.length_append, <- HI2.out]; go_num
        . rw [hs2]; have h9 := HD.out.store hkl' (by rw [<- HLN.out]; exact hcap) (by rw [<- HI2.out]; omega) ⟨t, v⟩; rw [<- HI2.out] at h9; exact h9
    . obtain rfl : len = k := by omega
      have hl1 := H.out.2.2.2.2.1 len hkk (by rw [HLN.out]; omega); obtain ⟨i, hi⟩ : ∃ i, i = (F len).length := ⟨_, rfl⟩; have HI2 := H_ hi; rw [<- hi] at hl1 ⊢; have hi2 : i < len := by omega
      have hzz := fun ty c => run_clear_opts wr ty g (i * 2) c (len - i) (by omega)
       (fun j hj => ((HK.out.cleared (by rw [<- HLN.out]; exact hcap) (len - i) (by rw [<- HI2.out, <- HLN.out]; omega)) j hj |> fun h => by rw [HI2.out]; exact h.1))
       (fun j hj => ((HK.out.cleared (by rw [<- HLN.out]; exact hcap) (len - i) (by rw [<- HI2.out, <- HLN.out]; omega)) j hj |> fun h => by rw [HI2.out]; exact h.2))
      have hic : ¬ cap = i := by omega
      have hil : i <= cap := by omega
      have hil2 : i <= len := by omega
      clear hi; go_wp2_with fail; go_ret; have hD := HK.out.clear (zeroO (len - i)); rw [<- HI2.out] at hD; have hR := hD.row (by rw [<- HI2.out]; exact hil) (by unfold maxLen; omega); rw [<- HI2.out] at hR; exact ⟨_, rfl, hR, rfl, HKP.out _ hD.keep⟩
theorem opt_inf : ∃ i, Tryz.prog.info? 132 = some i /\ i.size = 2 := by
 have h : (Tryz.prog.info? 132).map (fun i => i.size) = some 2 := by kernel_rfl
 obtain ⟨i, hi, he⟩ := Option.map_eq_some_iff.1 h; exact ⟨i, hi, he⟩
def flatO (l : List Opt) : List Value := (optL l).flatten
theorem flatO_len (l : List Opt) : (flatO l).length = l.length * 2 := optL_flen l
theorem flatO_app (a b : List Opt) : flatO (a ++ b) = flatO a ++ flatO b := optL_app a b
theorem flatO_drop (l : List Opt) (k : Nat) : (flatO l).drop (k * 2) = flatO (l.drop k) := by
 rcases Nat.le_total k l.length with h | h
 . conv => lhs; rw [<- List.take_append_drop k l, flatO_app]
   rw [List.drop_append, List.drop_of_length_le (by rw [flatO_len, List.length_take]; omega), flatO_len, List.length_take, Nat.min_eq_left h, Nat.sub_self, List.drop_zero, List.nil_append]
 . rw [List.drop_of_length_le (by rw [flatO_len]; omega), List.drop_of_length_le h]; rfl
theorem flatO_take (l : List Opt) (k : Nat) : (flatO l).take (k * 2) = flatO (l.take k) := by
 rcases Nat.le_total k l.length with h | h
 . conv => lhs; rw [<- List.take_append_drop k l, flatO_app]
   rw [List.take_append, List.take_of_length_le (by rw [flatO_len, List.length_take]; omega), flatO_len, List.length_take, Nat.min_eq_left h, Nat.sub_self, List.take_zero, List.append_nil]
 . rw [List.take_of_length_le (by rw [flatO_len]; omega), List.take_of_length_le h]
theorem flatO_erase (l : List Opt) (k : Nat) : flatO (l.eraseIdx k) = (flatO l).take (k * 2) ++ (flatO l).drop ((k + 1) * 2) := by
 rw [flatO_take, flatO_drop, <- flatO_app, List.eraseIdx_eq_take_drop_succ]
theorem one_flatO (l : List Opt) : ∀ v ∈ flatO l, v.oneCell' = true := opt_bytes l
theorem del_cellsO (l : List Opt) (k n cap : Nat) (cur cur5 cur6 : Array Value) (zs : List Value) (hn : n = l.length) (hk : k < n) (hcap : n <= cap) (hsz : cur.size = cap * 2) (htk : cur.toList.take (l.length * 2) = flatO l) (hs5 : cur5.size = cur.size)
 (hg5 : ∀ j, j < cur.size -> cur5[j]? = if 0 + k * 2 <= j /\ j < 0 + k * 2 + ((flatO l).drop ((k + 1) * 2)).length then ((flatO l).drop ((k + 1) * 2))[j - (0 + k * 2)]? else cur[j]?)
 (hg6 : ∀ j, j < cur5.size -> cur6[j]? = if (n - 1) * 2 <= j /\ j < (n - 1) * 2 + zs.length then zs[j - (n - 1) * 2]? else cur5[j]?) (_hs6 : cur6.size = cur5.size) : cur6.toList.take ((n - 1) * 2) = flatO (l.eraseIdx k) := by
 have hfl := flatO_len l; have hdl : ((flatO l).drop ((k + 1) * 2)).length = (n - (k + 1)) * 2 := by rw [List.length_drop, hfl]; omega
 rw [flatO_erase]
 apply List.ext_getElem?
 intro j
 by_cases hj : j < (n - 1) * 2
 . rw [List.getElem?_take_of_lt hj]; have h6 := hg6 j (by omega); rw [if_neg (by omega)] at h6; have h5 := hg5 j (by omega); have e6 : cur6.toList[j]? = cur6[j]? := by simp
   rw [e6, h6, h5, hdl]
   by_cases hjk : k * 2 <= j
   . rw [if_pos (by omega), List.getElem?_append_right (by rw [List.length_take]; omega)]
     congr 1
     rw [List.length_take]; omega
   . rw [if_neg (by omega), List.getElem?_append_left (by rw [List.length_take]; omega), List.getElem?_take_of_lt (by omega), <- htk, List.getElem?_take_of_lt (by omega)]; simp
 . rw [List.getElem?_eq_none (by rw [List.length_take]; omega), List.getElem?_eq_none]; rw [List.length_append, List.length_take, hdl]; omega
theorem cells_atO {w : World} {g n : Nat} {cur : Array Value} {xs : List Value} (hb : w.heap[g]? = some (.cells cur 132 (0, 0))) (ht : cur.toList.take n = xs) (j : Nat) (hj : j < n) : w.cell? ⟨g, j, none⟩ = xs[j]? := by
 have h7 : (cur.toList.take n)[j]? = xs[j]? := by rw [ht]
 rw [List.getElem?_take_of_lt hj] at h7; simp only [World.cell?, hb]
 simpa using h7
set_option maxRecDepth 100000 in
theorem delO_any (g cap : Nat) (cur : Array Value) (l : List Opt) (k : Nat) (w : World) (hk : k < l.length) (hb : w.heap[g]? = some (.cells cur 132 (0, 0))) (hcap : l.length <= cap) (hmax : cap <= maxLen) (hsz : cur.size = cap * 2)
 (htake : cur.toList.take (l.length * 2) = flatO l) (hlen : l.length <= 1000000) :
 Calls Tryz.prog 173 #[.slice (some ⟨g, 0, none⟩) l.length cap, .int .i64 k, .int .i64 (k + 1)] w fun e w' => e = .returned (.slice (some ⟨g, 0, none⟩) (l.length - 1) cap) /\
  ORow w' 0 (.slice (some ⟨g, 0, none⟩) (l.length - 1) cap) (l.eraseIdx k) /\ Keep (· = g) w w' := by
 have HB := H_ (A_ hb (A_ hsz htake)); obtain ⟨n, hn⟩ : ∃ n, n = l.length := ⟨_, rfl⟩; have HN := H_ hn; rw [<- hn] at hk hcap hlen ⊢; unfold maxLen at hmax; have e1 : ((k : Int) == (k : Int) + 1) = false := by simp; omega
 clear hb hsz htake hn; go_enter Tryz.func173, Tryz.ntmps173; go_wp2_with fail; have hkc : k <= cap := by omega
 have hk1 : k + 1 <= n := by omega
 have hb1 : (0 : Int) <= (k : Int) + 1 := by omega
 have hb2 : (k : Int) + 1 <= (n : Int) := by omega
 obtain ⟨inf, hinf, his⟩ := opt_inf; obtain ⟨hb, hsz, htk⟩ := HB.out; have hfl := flatO_len l; have hNw : ((flatO l).drop ((k + 1) * 2)).length = (n - (k + 1)) * 2 := by rw [List.length_drop, hfl]; have := HN.out; omega
 have hone : ∀ u ∈ (flatO l).drop ((k + 1) * 2), u.oneCell' = true := fun u hu => one_flatO l u (List.mem_of_mem_drop hu)
 have hsp : ∀ (W : World), W.heap[g]? = w.heap[g]? -> ∀ j, j < ((flatO l).drop ((k + 1) * 2)).length -> (W.cell? ⟨g, 0 + k * 2 + j, none⟩).isSome = true /\ W.frozen? ⟨g, 0 + k * 2 + j, none⟩ = false := by
  intro W hW j hj; have hlt : 0 + k * 2 + j < cur.size := by omega
  have hW' := hW.trans hb
  constructor
  . simp only [World.cell?, hW']; simp; omega
  . simp [World.frozen?, hW']
 have HSP := H_ hsp; have HNW := H_ hNw; have HONE := H_ hone; have HI := H_ (A_ hinf his); have HFL := H_ hfl; clear hsp hNw hone hinf his hb hsz htk hfl
 by_cases hcc : cap = k + 1
 . have HCC := H_ hcc; clear hcc
   have hnw : Hid (∀ (W : World), W.heap[g]? = w.heap[g]? -> ∀ j u, ((flatO l).drop ((k + 1) * 2))[j]? = some u -> W.cell? ((⟨g, 0, none⟩ : Addr).add j) = some u) := H_ (by
    intro W hW j u hu; have hj := (List.getElem?_eq_some_iff.1 hu).1; rw [HNW.out] at hj; have := HCC.out
    omega)
   go_region_law (first
    | (refine step_append_room rfl (.tmp 22) (.tmp 25) 42 rfl 132 inf 2 Tryz.underlying42 HI.out.1 HI.out.2 g 0 k cap rfl ⟨g, 0, none⟩ (n - (k + 1)) (cap - (k + 1)) ((flatO l).drop ((k + 1) * 2)) (by show Value.slice (if cap = k + 1 then some ⟨g, 0, none⟩ else some ⟨g, (k + 1) * 2, none⟩) _ _ = _; rw [if_pos HCC.out]) HNW.out (hnw.out _ (by rfl)) HONE.out (by omega) (HSP.out _ (by rfl)) ?_))
   have hk5 : Keep (· = g) w (w.drew.setCells g (0 + k * 2) ((flatO l).drop ((k + 1) * 2))) := ((Keep.refl _ _).drew).trans (setCells_keep _ _ _); obtain ⟨cur5, hb5, hs5, hg5⟩ := setCells_blk (g := g) ((flatO l).drop ((k + 1) * 2)) (0 + k * 2) w.drew cur HB.out.1; rw [Nat.zero_add] at hk5 hb5; obtain ⟨W5, hW5⟩ : ∃ W5, W5 = w.drew.setCells g (k * 2) ((flatO l).drop ((k + 1) * 2)) := ⟨_, rfl⟩; rw [<- hW5] at hk5 hb5 ⊢; have hkn : k + (n - (k + 1)) = n - 1 := by omega
   rw [hkn]; have H5 := H_ (A_ hb5 (A_ hs5 (A_ hg5 hk5)))
   have hc6 : Hid (∀ j, j < 1 * 2 -> (W5.cell? ⟨g, (n - 1) * 2 + j, none⟩).isSome = true /\ W5.frozen? ⟨g, (n - 1) * 2 + j, none⟩ = false) := H_ (by
    intro j hj; have hlt : (n - 1) * 2 + j < cur5.size := by rw [hs5, HB.out.2.1]; omega
    constructor
    . simp only [World.cell?, hb5]; simp; omega
    . simp [World.frozen?, hb5])
   clear hW5 hk5 hb5 hs5 hg5; have f1 : n - 1 <= n := by omega
   have f2 : ¬ cap = n - 1 := by omega
   go_wp2_with fail; have hz := fun c => run_clear_opts W5 0 g ((n - 1) * 2) c 1 (by decide) (fun j hj => (hc6.out j hj).1) (fun j hj => (hc6.out j hj).2)
   first
    | rw [hz]
    | rw [show n - (n - 1) = 1 from by omega, hz]
   obtain ⟨cur6, hb6, hs6, hg6⟩ := setCells_blk (g := g) (zeroO 1) ((n - 1) * 2) W5 cur5 H5.out.1; have H6 := H_ (A_ hb6 (A_ hs6 (A_ hg6 (H5.out.2.2.2.trans (setCells_keep (g := g) (zeroO 1) ((n - 1) * 2) W5))))); generalize W5.setCells g ((n - 1) * 2) (zeroO 1) = W6 at *; clear hb6 hs6 hg6 hz; go_wp2_with fail; go_ret; have hle : (l.eraseIdx k).length = n - 1 := by rw [List.length_eraseIdx, if_pos (by rw [<- HN.out]; exact hk), HN.out]
   obtain rfl := HCC.out; refine ⟨rfl, ?_, H6.out.2.2.2⟩; unfold ORow; rw [hle]; refine ⟨by rw [optL_flen, hle], Or.inr ⟨g, _, cur6, rfl, Nat.zero_le _, H6.out.1, by omega, by unfold maxLen; omega, by rw [H6.out.2.1, H5.out.2.1, HB.out.2.1], ?_⟩⟩; exact del_cellsO l k n _ cur cur5 cur6 _ HN.out hk hcap HB.out.2.1 HB.out.2.2 H5.out.2.1 H5.out.2.2.1 H6.out.2.2.1 H6.out.2.1
 . have hnw : Hid (∀ (W : World), W.heap[g]? = w.heap[g]? -> ∀ j u, ((flatO l).drop ((k + 1) * 2))[j]? = some u -> W.cell? ((⟨g, (k + 1) * 2, none⟩ : Addr).add j) = some u) := H_ (by
    intro W hW j u hu; have hj := (List.getElem?_eq_some_iff.1 hu).1; rw [HNW.out] at hj
    have e : (⟨g, (k + 1) * 2, none⟩ : Addr).add j = ⟨g, (k + 1) * 2 + j, none⟩ := by
     unfold Addr.add; split <;> simp_all
    rw [e, cells_atO (hW.trans HB.out.1) HB.out.2.2 _ (by rw [<- HN.out]; omega)]; rw [List.getElem?_drop] at hu
    exact hu)
   go_region_law (first
    | (refine step_append_room rfl (.tmp 22) (.tmp 25) 42 rfl 132 inf 2 Tryz.underlying42 HI.out.1 HI.out.2 g 0 k cap rfl ⟨g, (k + 1) * 2, none⟩ (n - (k + 1)) (cap - (k + 1)) ((flatO l).drop ((k + 1) * 2)) rfl HNW.out (hnw.out _ (by rfl)) HONE.out (by omega) (HSP.out _ (by rfl)) ?_))
   have hk5 : Keep (· = g) w (w.drew.setCells g (0 + k * 2) ((flatO l).drop ((k + 1) * 2))) := ((Keep.refl _ _).drew).trans (setCells_keep _ _ _); obtain ⟨cur5, hb5, hs5, hg5⟩ := setCells_blk (g := g) ((flatO l).drop ((k + 1) * 2)) (0 + k * 2) w.drew cur HB.out.1; rw [Nat.zero_add] at hk5 hb5; obtain ⟨W5, hW5⟩ : ∃ W5, W5 = w.drew.setCells g (k * 2) ((flatO l).drop ((k + 1) * 2)) := ⟨_, rfl⟩; rw [<- hW5] at hk5 hb5 ⊢; have hkn : k + (n - (k + 1)) = n - 1 := by omega
   rw [hkn]; have H5 := H_ (A_ hb5 (A_ hs5 (A_ hg5 hk5)))
   have hc6 : Hid (∀ j, j < 1 * 2 -> (W5.cell? ⟨g, (n - 1) * 2 + j, none⟩).isSome = true /\ W5.frozen? ⟨g, (n - 1) * 2 + j, none⟩ = false) := H_ (by
    intro j hj; have hlt : (n - 1) * 2 + j < cur5.size := by rw [hs5, HB.out.2.1]; omega
    constructor
    . simp only [World.cell?, hb5]; simp; omega
    . simp [World.frozen?, hb5])
   clear hW5 hk5 hb5 hs5 hg5; have f1 : n - 1 <= n := by omega
   have f2 : ¬ cap = n - 1 := by omega
   go_wp2_with fail; have hz := fun c => run_clear_opts W5 0 g ((n - 1) * 2) c 1 (by decide) (fun j hj => (hc6.out j hj).1) (fun j hj => (hc6.out j hj).2)
   first
    | rw [hz]
    | rw [show n - (n - 1) = 1 from by omega, hz]
   obtain ⟨cur6, hb6, hs6, hg6⟩ := setCells_blk (g := g) (zeroO 1) ((n - 1) * 2) W5 cur5 H5.out.1; have H6 := H_ (A_ hb6 (A_ hs6 (A_ hg6 (H5.out.2.2.2.trans (setCells_keep (g := g) (zeroO 1) ((n - 1) * 2) W5))))); generalize W5.setCells g ((n - 1) * 2) (zeroO 1) = W6 at *; clear hb6 hs6 hg6 hz; go_wp2_with fail; go_ret; have hle : (l.eraseIdx k).length = n - 1 := by rw [List.length_eraseIdx, if_pos (by rw [<- HN.out]; exact hk), HN.out]
   refine ⟨rfl, ?_, H6.out.2.2.2⟩; unfold ORow; rw [hle]; refine ⟨by rw [optL_flen, hle], Or.inr ⟨g, cap, cur6, rfl, Nat.zero_le _, H6.out.1, by omega, by unfold maxLen; omega, by rw [H6.out.2.1, H5.out.2.1, HB.out.2.1], ?_⟩⟩; exact del_cellsO l k n cap cur cur5 cur6 _ HN.out hk hcap HB.out.2.1 HB.out.2.2 H5.out.2.1 H5.out.2.2.1 H6.out.2.2.1 H6.out.2.1
end Go.Proofs.YtbiaempeegfdkaaGreat
