import Derived.Test.YtoblffnlopmebaaGreatQAM
import Derived.Laws.EntriesVeiled
import Derived.Laws.IdiomStrings
import Derived.Lib.AppendZerosOnto
import Derived.Shelf.Spec.SlicesGrow
import Derived.Maps.AppendAt
import Derived.Laws.AppendOwnNone
set_option linter.unusedVariables false
set_option linter.unusedSimpArgs false
set_option maxHeartbeats 16000000
namespace Go.Proofs.YtoblffnlopmebaaGreat
open Go.RowKit Go.Tg Go.Maps
def RRow (w : World) (B : Nat) (v : Value) (l : List Rl) : Prop := w.ownsRow B 158 5 v l.length (rlL l).flatten
theorem RRow.nil (w : World) (B : Nat) : RRow w B (.slice none 0 0) [] := World.ownsRow_nil _ _ _ _
theorem RRow.keep {w w' : World} {B : Nat} {v : Value} {l : List Rl} {T : Nat -> Prop} (h : RRow w B v l) (hk : Keep T w w') (hT : ∀ k, v.ownBlock = some k -> ¬ T k) : RRow w' B v l := by
 obtain ⟨h0, h | ⟨g, cap, cur, hv, h1, h2, h3⟩⟩ := h
 . exact ⟨h0, Or.inl h⟩
 . have hlt := (Array.getElem?_eq_some_iff.1 h2).1; exact ⟨h0, Or.inr ⟨g, cap, cur, hv, h1, (hk.block g hlt (hT g (by rw [hv]; rfl))).trans h2, h3⟩⟩
theorem RRow.below {w w' : World} {B : Nat} {v : Value} {l : List Rl} (h : RRow w B v l) (hb : Below w.heap.size w w') : RRow w' B v l := h.keep (Keep.of_below (fun _ => False) hb) (fun _ _ h => h)
theorem RRow.lt {w : World} {B : Nat} {v : Value} {l : List Rl} (h : RRow w B v l) : ∀ k, v.ownBlock = some k -> k < w.heap.size /\ B <= k := by
 intro k hk; have := World.ownsRow.lt h k hk; exact ⟨this.2, this.1⟩
theorem RRow.base {w : World} {B B' : Nat} {v : Value} {l : List Rl} (h : RRow w B v l) (hB : B' <= B) : RRow w B' v l := by
 obtain ⟨h0, h | ⟨g, cap, cur, hv, h1, h3⟩⟩ := h
 . exact ⟨h0, Or.inl h⟩
 . exact ⟨h0, Or.inr ⟨g, cap, cur, hv, Nat.le_trans hB h1, h3⟩⟩
theorem RRow.form {w : World} {B : Nat} {v : Value} {l : List Rl} (h : RRow w B v l) : ∃ sa sc, v = .slice sa l.length sc := by
 obtain ⟨_, ⟨h, hn⟩ | ⟨g, cp, cur, hv, _⟩⟩ := h
 . exact ⟨none, 0, by rw [h, hn]⟩
 . exact ⟨_, _, hv⟩
theorem RRow.rls {w : World} {B : Nat} {v : Value} {l : List Rl} (h : RRow w B v l) (hm : l.length <= maxLen) : Rls w (fun b => B <= b) v l :=
 Rec.of_owns h (rlL_len l).symm (rlL_k l) hm
theorem rlL_app (a b : List Rl) : (rlL (a ++ b)).flatten = (rlL a).flatten ++ (rlL b).flatten := by simp [rlL]
theorem rl_info : ∃ i z, Tryz.prog.info? 158 = some i /\ i.zero = some z /\ i.size = 5 /\ i.bytes = 48 /\ z.cells.size = 5 := by
 have h : (Tryz.prog.info? 158).map (fun i => (i.zero, i.size, i.bytes)) = some (some (.agg #[.int .i64 0, .int .i64 0, .int .i64 0, .int .i64 0, .string ⟨#[]⟩]), 5, 48) := by kernel_rfl
 obtain ⟨i, hi, he⟩ := Option.map_eq_some_iff.1 h; simp only [Prod.mk.injEq] at he; exact ⟨i, _, hi, he.1, he.2.1, he.2.2, rfl⟩
theorem rl_one (o : Rl) : ∀ u ∈ o.cells, u.oneCell' = true := by
 intro u hu; simp [Rl.cells] at hu
 rcases hu with rfl | rfl | rfl | rfl | rfl <;> rfl
theorem rl_bytes : ∀ (l : List Rl), ∀ u ∈ (rlL l).flatten, u.oneCell' = true := by
 intro l u hu; simp only [List.mem_flatten, rlL, List.mem_map] at hu; obtain ⟨_, ⟨o, _, rfl⟩, hu⟩ := hu; exact rl_one o u hu
set_option maxRecDepth 100000 in
theorem cloneR_any (l : List Rl) (lv : Value) (ok : Nat -> Prop) (w : World) (hl : Rls w ok lv l) (hmax : l.length <= 1000000) :
 Calls Tryz.prog 119 #[lv] w fun e w' => ∃ v, e = .returned v /\ RRow w' w.heap.size v l /\ Below w.heap.size w w' := by
 obtain ⟨sa, c, rfl, hc, hm⟩ := hl.form; have q22 : ∀ (w : World) (a : Option Addr) (n c n' c' : Nat), (binOp .eql 161 (.slice a n c) (.slice none n' c')).run Tryz.prog w = .ok (.bool a.isNone) w := fun w a n c n' c' => Lib.run_eql_slice_nil w _ _ a n c n' c' Tryz.underlying161
 cases sa with
 | none =>
  go_enter Tryz.func119, Tryz.ntmps119
  go_wp2
  go_ret
  have e : l = [] := by
   obtain ⟨_, _, _, hv, _, _, h | ⟨_, _, hs, _⟩⟩ := hl
   . exact List.map_eq_nil_iff.1 h
   . have := (Value.slice.inj hv).1; rw [hs] at this; cases this
  subst e; exact ⟨_, rfl, RRow.nil _ _, Below.refl _ _⟩
 | some ad =>
  obtain ⟨i0, z, hi, hz0, hz1, hz2, hzs⟩ := rl_info; have hfl := hl.flat (by decide); have hlen : (rlL l).flatten.length = l.length * 5 := by rw [flatten_len _ (rlL_k l), rlL_len]
  have A : Aside (∀ j u, (rlL l).flatten[j]? = some u -> w.cell? (ad.add j) = some u) := hfl; clear hfl; go_enter Tryz.func119, Tryz.ntmps119
  go_wp2_with (at_builtin; refine wpList_append_own _ rfl _ _ 161 rfl w.heap.size 158 i0 z 5 48 Tryz.underlying161 hi hz0 hz1 hz2 hzs (by decide) _ _ _ rfl (World.ownsRow_made w #[] 0 (Nat.le_refl _) (Nat.zero_le _) (by simp)) ad l.length c (rlL l).flatten rfl ?qc1 ?qc2 ?qc3 ?qc4 ?qc5 ?qc6 ?_)
  case qc1 => exact hlen
  case qc2 =>
   intro j u hj; exact Lib.cell?_alloc_some _ (A.out j u hj)
  case qc3 => exact rl_bytes l
  case qc4 => rw [Nat.zero_add]; unfold maxLen; omega
  case qc5 => rw [Nat.zero_add]; omega
  case qc6 => simp
  intro v' w1 hown hgrow hnil
  go_wp2
  go_ret; refine ⟨v', rfl, by simpa [RRow] using hown, ?_⟩; exact ((Below.refl _ w).alloc (Nat.le_refl _) _).grown hgrow (by simp) (by intro k hk; simp [Value.ownBlock] at hk; omega)
def intL (l : List Int) : List (List Value) := l.map fun x => [.int .i64 x]
theorem intL_k (l : List Int) : ∀ x ∈ intL l, x.length = 1 := by
 intro x hx; simp only [intL, List.mem_map] at hx; obtain ⟨o, _, rfl⟩ := hx; rfl
theorem intL_len (l : List Int) : (intL l).length = l.length := by simp [intL]
def Nums (w : World) (ok : Nat -> Prop) (v : Value) (l : List Int) : Prop := Rec 1 w ok v (intL l)
theorem Nums.form {w : World} {ok : Nat -> Prop} {v : Value} {l : List Int} (h : Nums w ok v l) : ∃ sa c, v = .slice sa l.length c /\ l.length <= c /\ c <= maxLen := by
 have := Rec.form h
 rwa [intL_len] at this
theorem Nums.below {w w' : World} {ok : Nat -> Prop} {v : Value} {l : List Int} (h : Nums w ok v l) (hb : Below w.heap.size w w') : Nums w' ok v l := Rec.keep h (Keep.of_below (fun _ => False) hb) (fun _ _ _ h => h)
def NRow (w : World) (B : Nat) (v : Value) (l : List Int) : Prop := w.ownsRow B 3 1 v l.length (intL l).flatten
theorem NRow.nil (w : World) (B : Nat) : NRow w B (.slice none 0 0) [] := World.ownsRow_nil _ _ _ _
theorem NRow.keep {w w' : World} {B : Nat} {v : Value} {l : List Int} {T : Nat -> Prop} (h : NRow w B v l) (hk : Keep T w w') (hT : ∀ k, v.ownBlock = some k -> ¬ T k) : NRow w' B v l := by
 obtain ⟨h0, h | ⟨g, cap, cur, hv, h1, h2, h3⟩⟩ := h
 . exact ⟨h0, Or.inl h⟩
 . have hlt := (Array.getElem?_eq_some_iff.1 h2).1; exact ⟨h0, Or.inr ⟨g, cap, cur, hv, h1, (hk.block g hlt (hT g (by rw [hv]; rfl))).trans h2, h3⟩⟩
theorem NRow.lt {w : World} {B : Nat} {v : Value} {l : List Int} (h : NRow w B v l) : ∀ k, v.ownBlock = some k -> k < w.heap.size /\ B <= k := by
 intro k hk; have := World.ownsRow.lt h k hk; exact ⟨this.2, this.1⟩
theorem NRow.base {w : World} {B B' : Nat} {v : Value} {l : List Int} (h : NRow w B v l) (hB : B' <= B) : NRow w B' v l := by
 obtain ⟨h0, h | ⟨g, cap, cur, hv, h1, h3⟩⟩ := h
 . exact ⟨h0, Or.inl h⟩
 . exact ⟨h0, Or.inr ⟨g, cap, cur, hv, Nat.le_trans hB h1, h3⟩⟩
theorem NRow.form {w : World} {B : Nat} {v : Value} {l : List Int} (h : NRow w B v l) : ∃ sa sc, v = .slice sa l.length sc := by
 obtain ⟨_, ⟨h, hn⟩ | ⟨g, cp, cur, hv, _⟩⟩ := h
 . exact ⟨none, 0, by rw [h, hn]⟩
 . exact ⟨_, _, hv⟩
theorem NRow.nums {w : World} {B : Nat} {v : Value} {l : List Int} (h : NRow w B v l) (hm : l.length <= maxLen) : Nums w (fun b => B <= b) v l :=
 Rec.of_owns h (intL_len l).symm (intL_k l) hm
theorem int_info : ∃ i z, Tryz.prog.info? 3 = some i /\ i.zero = some z /\ i.size = 1 /\ i.bytes = 8 /\ z.cells.size = 1 := by
 have h : (Tryz.prog.info? 3).map (fun i => (i.zero, i.size, i.bytes)) = some (some (.int .i64 0), 1, 8) := by kernel_rfl
 obtain ⟨i, hi, he⟩ := Option.map_eq_some_iff.1 h; simp only [Prod.mk.injEq] at he; exact ⟨i, _, hi, he.1, he.2.1, he.2.2, rfl⟩
theorem int_bytes : ∀ (l : List Int), ∀ u ∈ (intL l).flatten, u.oneCell' = true := by
 intro l u hu; simp only [List.mem_flatten, intL, List.mem_map] at hu; obtain ⟨_, ⟨o, _, rfl⟩, hu⟩ := hu; obtain rfl := List.mem_singleton.1 hu; rfl
set_option maxRecDepth 100000 in
theorem cloneN_any (l : List Int) (lv : Value) (ok : Nat -> Prop) (w : World) (hl : Nums w ok lv l) (hmax : l.length <= 1000000) :
 Calls Tryz.prog 32 #[lv] w fun e w' => ∃ v, e = .returned v /\ NRow w' w.heap.size v l /\ Below w.heap.size w w' := by
 obtain ⟨sa, c, rfl, hc, hm⟩ := hl.form; have q22 : ∀ (w : World) (a : Option Addr) (n c n' c' : Nat), (binOp .eql 38 (.slice a n c) (.slice none n' c')).run Tryz.prog w = .ok (.bool a.isNone) w := fun w a n c n' c' => Lib.run_eql_slice_nil w _ _ a n c n' c' Tryz.underlying38
 cases sa with
 | none =>
  go_enter Tryz.func32, Tryz.ntmps32
  go_wp2
  go_ret
  have e : l = [] := by
   obtain ⟨_, _, _, hv, _, _, h | ⟨_, _, hs, _⟩⟩ := hl
   . exact List.map_eq_nil_iff.1 h
   . have := (Value.slice.inj hv).1; rw [hs] at this; cases this
  subst e; exact ⟨_, rfl, NRow.nil _ _, Below.refl _ _⟩
 | some ad =>
  obtain ⟨i0, z, hi, hz0, hz1, hz2, hzs⟩ := int_info; have hfl := hl.flat (by decide); have hlen : (intL l).flatten.length = l.length * 1 := by rw [flatten_len _ (intL_k l), intL_len]
  have A : Aside (∀ j u, (intL l).flatten[j]? = some u -> w.cell? (ad.add j) = some u) := hfl; clear hfl; go_enter Tryz.func32, Tryz.ntmps32
  go_wp2_with (at_builtin; refine wpList_append_own _ rfl _ _ 38 rfl w.heap.size 3 i0 z 1 8 Tryz.underlying38 hi hz0 hz1 hz2 hzs (by decide) _ _ _ rfl (World.ownsRow_made w #[] 0 (Nat.le_refl _) (Nat.zero_le _) (by simp)) ad l.length c (intL l).flatten rfl ?qc1 ?qc2 ?qc3 ?qc4 ?qc5 ?qc6 ?_)
  case qc1 => exact hlen
  case qc2 =>
   intro j u hj; exact Lib.cell?_alloc_some _ (A.out j u hj)
  case qc3 => exact int_bytes l
  case qc4 => rw [Nat.zero_add]; unfold maxLen; omega
  case qc5 => rw [Nat.zero_add]; omega
  case qc6 => simp
  intro v' w1 hown hgrow hnil
  go_wp2
  go_ret; refine ⟨v', rfl, by simpa [NRow] using hown, ?_⟩; exact ((Below.refl _ w).alloc (Nat.le_refl _) _).grown hgrow (by simp) (by intro k hk; simp [Value.ownBlock] at hk; omega)
theorem any_idx {α : Type} (p : α -> Bool) (l : List α) : decide (0 <= idxP p l) = l.any p := by
 rcases findIdx_cases p l with ⟨h1, h2⟩ | ⟨i, hi, h1, h2⟩
 . rw [h1]; rw [List.find?_eq_none] at h2
   symm
   rw [show decide ((0 : Int) <= -1) = false from rfl, List.any_eq_false]; intro x hx
   simpa using h2 x hx
 . rw [h1]; have : p l[i] = true := List.find?_some h2
   symm
   rw [show decide ((0 : Int) <= (i : Int)) = true by simp, List.any_eq_true]; exact ⟨_, List.getElem_mem hi, this⟩
theorem containsO_any (l : List Opt) (lv : Value) (ok : Nat -> Prop) (g : Nat) (lb : Array Value) (p : Opt -> Bool) (w : World) (hl : Opts w ok lv l) (hmax : l.length <= 1000000) (eg : ∀ args w, (callFunc g args).run Tryz.prog w = .ok (.enter g args) w)
 (hp : ∀ (W : World) (o : Opt), o ∈ l -> Below w.heap.size w W -> Calls Tryz.prog g (#[.agg #[.int .i64 o.t, .string o.v]] ++ lb) W fun e w' => e = .returned (.bool (p o)) /\ Below w.heap.size w w') :
 Calls Tryz.prog 171 #[lv, .func (.func g) #[] lb] w fun e w' => e = .returned (.bool (l.any p)) /\ Below w.heap.size w w' := by
 have HI := H_ (idxO_any l lv ok g lb p w hl hmax eg hp); obtain ⟨sa, c, rfl, hc, hm⟩ := hl.form; have HA := H_ (any_idx p l); generalize idxP p l = i at HI HA; clear hl hp; go_enter Tryz.func171, Tryz.ntmps171; go_wp2_with fail; refine HI.out.mono ?_; rintro e w' ⟨rfl, hb⟩; go_wp2_with fail; go_ret; exact ⟨by rw [<- HA.out]; rfl, hb⟩
theorem containsR_any (l : List Rl) (lv : Value) (ok : Nat -> Prop) (g : Nat) (lb : Array Value) (p : Rl -> Bool) (w : World) (hl : Rls w ok lv l) (hmax : l.length <= 1000000) (eg : ∀ args w, (callFunc g args).run Tryz.prog w = .ok (.enter g args) w)
 (hp : ∀ (W : World) (o : Rl), o ∈ l -> Below w.heap.size w W -> Calls Tryz.prog g (#[.agg #[.int .i64 o.t, .int .i64 o.len, .int .i64 o.min, .int .i64 o.max, .string o.s]] ++ lb) W fun e w' => e = .returned (.bool (p o)) /\ Below w.heap.size w w') :
 Calls Tryz.prog 115 #[lv, .func (.func g) #[] lb] w fun e w' => e = .returned (.bool (l.any p)) /\ Below w.heap.size w w' := by
 have HI := H_ (idxR_any l lv ok g lb p w hl hmax eg hp); obtain ⟨sa, c, rfl, hc, hm⟩ := hl.form; have HA := H_ (any_idx p l); generalize idxP p l = i at HI HA; clear hl hp; go_enter Tryz.func115, Tryz.ntmps115; go_wp2_with fail; refine HI.out.mono ?_; rintro e w' ⟨rfl, hb⟩; go_wp2_with fail; go_ret; exact ⟨by rw [<- HA.out]; rfl, hb⟩
def badO (o : Opt) : Bool := !(decide (1 <= o.t) && decide (o.t <= 255)) || decide (253 < o.v.size)
theorem bad_any (o : Opt) (w : World) (hv : o.v.size <= 100000) :
 Calls Tryz.prog 172 #[.agg #[.int .i64 o.t, .string o.v]] w fun e w' => e = .returned (.bool (badO o)) /\ Below w.heap.size w w' := by
 obtain ⟨t, v⟩ := o; simp only at hv
 have hb0 : Below w.heap.size w (w.alloc (.cells #[.int .i64 t, .string v] 213 (0, 0))) := (Below.refl _ _).alloc (Nat.le_refl _) _; have HI := H_ (fun W => in_any t 1 255 W); have HB := H_ hb0; have HQ := H_ (show badO ⟨t, v⟩ = (!(decide (1 <= t) && decide (t <= 255)) || decide (253 < v.size)) from rfl); have hdv : decide ((253 : Int) < (v.size : Int)) = decide (253 < v.size) := by simp only [decide_eq_decide]; omega
 generalize (decide (1 <= t) && decide (t <= 255)) = y at HI HQ; clear hb0; go_enter Tryz.func172, Tryz.ntmps172; go_wp2_with fail; refine (HI.out _).mono ?_; rintro e w' ⟨rfl, rfl⟩
 cases y with
 | true =>
  go_wp2_with fail; go_ret; exact ⟨by rw [HQ.out]; simp, HB.out⟩
 | false =>
  go_wp2_with fail; go_ret; exact ⟨by rw [HQ.out]; rfl, HB.out⟩
def wrongR (r : Rl) : Bool := decide (253 < r.s.size) || !fitsR r r.s
theorem wrong_any (r : Rl) (w : World) (hv : r.s.size <= 100000) :
 Calls Tryz.prog 117 #[.agg #[.int .i64 r.t, .int .i64 r.len, .int .i64 r.min, .int .i64 r.max, .string r.s]] w fun e w' => e = .returned (.bool (wrongR r)) /\ Below w.heap.size w w' := by
 have HF := H_ (fun W => fits_any r r.s W hv); have HQ := H_ (show wrongR r = (decide (253 < r.s.size) || !fitsR r r.s) from rfl); generalize fitsR r r.s = y at HF HQ; obtain ⟨t, ln, mn, mx, s⟩ := r; simp only at hv HF HQ
 have hb0 : Below w.heap.size w (w.alloc (.cells #[.int .i64 t, .int .i64 ln, .int .i64 mn, .int .i64 mx, .string s] 158 (0, 0))) := (Below.refl _ _).alloc (Nat.le_refl _) _; have HB := H_ hb0; have hdv : decide ((253 : Int) < (s.size : Int)) = decide (253 < s.size) := by simp only [decide_eq_decide]; omega
 generalize decide (253 < s.size) = z at hdv HQ; clear hb0; go_enter Tryz.func117, Tryz.ntmps117
 cases z with
 | true =>
  go_wp2_with fail; go_ret; exact ⟨by rw [HQ.out]; rfl, HB.out⟩
 | false =>
  go_wp2_with fail; refine (HF.out _).mono ?_; rintro e w' ⟨rfl, hb⟩; have HB2 := H_ (HB.out.trans (hb.mono (by rw [alloc1]; omega))); go_wp2_with fail; go_ret; exact ⟨by rw [HQ.out]; simp, HB2.out⟩
def optB (o : Opt) : ByteArray := ByteArray.mk #[UInt8.ofNat o.t.toNat, UInt8.ofNat (o.v.size + 2)] ++ o.v
def putB (l : List Opt) : ByteArray := l.foldl (fun b o => b ++ optB o) ⟨#[]⟩
theorem putB_snoc (l : List Opt) (o : Opt) : putB (l ++ [o]) = putB l ++ optB o := by simp [putB]
theorem putB_size_aux : ∀ (l : List Opt) (b : ByteArray), (∀ o ∈ l, o.v.size <= 253) -> (l.foldl (fun b o => b ++ optB o) b).size <= b.size + 255 * l.length := by
 intro l
 induction l with
 | nil => intro b _; simp
 | cons o l ih =>
  intro b h; have h1 := ih (b ++ optB o) (fun x hx => h x (List.mem_cons_of_mem _ hx)); have h2 := h o (List.mem_cons_self ..); rw [List.foldl_cons, List.length_cons]; rw [ByteArray.size_append, show (optB o).size = 2 + o.v.size from by unfold optB; rw [ByteArray.size_append]; rfl] at h1; omega
theorem putB_size (l : List Opt) (h : ∀ o ∈ l, o.v.size <= 253) : (putB l).size <= 255 * l.length := by
 have := putB_size_aux l ⟨#[]⟩ h; have e : (ByteArray.mk #[]).size = 0 := rfl; rw [e, Nat.zero_add] at this; exact this
def putE (l : List Opt) : Int := if 30 < l.length then 2 else if l.any badO then 1 else 0
def putS (l : List Opt) : ByteArray := if putE l = 0 then putB l else ⟨#[]⟩
set_option maxRecDepth 100000 in
theorem put_any (l : List Opt) (lv : Value) (ok : Nat -> Prop) (w : World) (hl : Opts w ok lv l) (hmax : l.length <= 1000000) (hv : ∀ o ∈ l, o.v.size <= 100000) :
 Calls Tryz.prog 113 #[lv] w fun e w' => e = .returned (.tuple #[.string (putS l), .int .i64 (putE l)]) /\ Below w.heap.size w w' := by
 have HC := H_ (containsO_any l lv ok 172 #[] badO w hl hmax (enters_of Tryz.func172 (by kernel_rfl) rfl) (fun W o ho hW => by
  refine (bad_any o W (hv o ho)).mono ?_; rintro e w' ⟨rfl, hb⟩
  exact ⟨rfl, hW.trans (hb.mono hW.size)⟩))
 obtain ⟨sa, c, rfl, hc, hm⟩ := hl.form; have HL := H_ hl; obtain ⟨len, hln⟩ : ∃ len, len = l.length := ⟨_, rfl⟩; have HLN := H_ hln; rw [<- hln] at hc hmax HC ⊢; unfold maxLen at hm
 by_cases h30 : 30 < len
 . have HS := H_ (show putE l = 2 from by unfold putE; rw [if_pos (by omega)]); have HT := H_ (show putS l = ⟨#[]⟩ from by unfold putS; rw [HS.out]; rfl); have hd : decide ((30 : Int) < (len : Int)) = true := by simp; omega
   clear hl hv hln; go_enter Tryz.func113, Tryz.ntmps113; go_wp2_with fail; go_ret2; exact ⟨by rw [HS.out, HT.out]; rfl, Below.refl _ _⟩
 . have hd : decide ((30 : Int) < (len : Int)) = false := by simp; omega
   cases hbad : l.any badO with
   | true =>
    have HS := H_ (show putE l = 1 from by unfold putE; rw [if_neg (by omega), if_pos hbad]); have HT := H_ (show putS l = ⟨#[]⟩ from by unfold putS; rw [HS.out]; rfl); rw [hbad] at HC; clear hl hv hln hbad; go_enter Tryz.func113, Tryz.ntmps113; go_wp2_with fail; refine HC.out.mono ?_; rintro e w' ⟨rfl, hb⟩; go_wp2_with fail; go_ret2; exact ⟨by rw [HS.out, HT.out]; rfl, hb⟩
   | false =>
    have HS := H_ (show putE l = 0 from by unfold putE; rw [if_neg (by omega), if_neg (by rw [hbad]; decide)]); have HT := H_ (show putS l = putB l from by unfold putS; rw [HS.out]; rfl); rw [hbad] at HC
    have HG : Hid (∀ o ∈ l, 1 <= o.t /\ o.t <= 255 /\ o.v.size <= 253) := H_ (by
     intro o ho; rw [List.any_eq_false] at hbad; have := hbad o ho; simp [badO] at this
     omega)
    clear hl hv hln hbad; go_enter Tryz.func113, Tryz.ntmps113; go_wp2_with fail; refine HC.out.mono ?_; rintro e w' ⟨rfl, hb⟩; have HB := H_ hb; clear hb; go_wp2_with fail
    go_loopg [4, 16] len (fun x s i wr => ∃ k : Nat, k <= len /\ x = len - k /\ i = .int .i64 k /\ s = .string (putB (l.take k)) /\ Hid (Below w.heap.size w wr))
    case atStart => exact ⟨0, by omega, by omega, rfl, rfl, HB.out⟩
    case round =>
     obtain ⟨k, hk, rfl, rfl, rfl, hK⟩ := hrel; have HK := H_ hK.out; clear hK
     by_cases hkl : k < len
     . have hkl' : k < l.length := by have := HLN.out; omega
       obtain ⟨b, off, rfl, hb, -, -, -, -, c0, c1⟩ := HL.out.at k hkl'; have d0 : wr.cell? ⟨b, off + k * 2, none⟩ = _ := (HK.out.cell (p := ⟨b, off + k * 2, none⟩) hb).trans c0; have d1 : wr.cell? ⟨b, off + k * 2 + 1, none⟩ = _ := (HK.out.cell (p := ⟨b, off + k * 2 + 1, none⟩) hb).trans c1; have hg := HG.out l[k] (List.getElem_mem hkl')
       have hps : (putB (l.take k)).size <= 255 * 30 := by
        have := putB_size (l.take k) (fun o ho => (HG.out o (List.mem_of_mem_take ho)).2.2); rw [List.length_take] at this; omega
       have HP := H_ (show putB (l.take (k + 1)) = putB (l.take k) ++ optB l[k] from by rw [List.take_succ_eq_append_getElem hkl', putB_snoc]); clear c0 c1; generalize putB (l.take k) = out at *; generalize l[k] = o at *; obtain ⟨t, v⟩ := o; simp only at d0 d1 hg
       obtain ⟨t, rfl⟩ := Int.eq_ofNat_of_zero_le (show (0 : Int) <= t by omega); simp only [Int.toNat_natCast, optB] at HP
       have hcv : (convert 193 9 (.slice (some ⟨wr.heap.size + 1, 0, none⟩) 2 2)).run Tryz.prog ((wr.alloc (.cells #[.int .i64 (t : Int), .string v] 213 (0, 0))).alloc (.cells #[.int .u8 (t : Int), .int .u8 ((v.size : Int) + 2)] 5 (0, 0))) =
        .ok (.string (ByteArray.mk #[UInt8.ofNat t, UInt8.ofNat (v.size + 2)])) ((wr.alloc (.cells #[.int .i64 (t : Int), .string v] 213 (0, 0))).alloc (.cells #[.int .u8 (t : Int), .int .u8 ((v.size : Int) + 2)] 5 (0, 0))) := by
        have hx := at21 wr (.cells #[.int .i64 (t : Int), .string v] 213 (0, 0)) (.cells #[.int .u8 (t : Int), .int .u8 ((v.size : Int) + 2)] 5 (0, 0)); refine run_convert_bytes_back (P := Tryz.prog) _ 193 9 5 ⟨wr.heap.size + 1, 0, none⟩ 2 [UInt8.ofNat t, UInt8.ofNat (v.size + 2)] Tryz.underlying193 Tryz.underlying5 Tryz.underlying9 (fun j hj => ?_); rw [Addr.add_lit, Nat.zero_add]; have e1 : (UInt8.ofNat t).toNat = t := by rw [UInt8.toNat_ofNat']; omega
        have e2 : (UInt8.ofNat (v.size + 2)).toNat = v.size + 2 := by rw [UInt8.toNat_ofNat']; omega
        match j, hj with
        | 0, _ => simp only [List.getElem_cons_zero]; rw [e1]; exact cellOf hx 0 _ rfl
        | 1, _ => simp only [List.getElem_cons_zero, List.getElem_cons_succ]; rw [e2]; exact cellOf hx 1 _ rfl
       have hs2 : (ByteArray.mk #[UInt8.ofNat t, UInt8.ofNat (v.size + 2)]).size = 2 := rfl; generalize ByteArray.mk #[UInt8.ofNat t, UInt8.ofNat (v.size + 2)] = hd2 at hcv hs2 HP; have hs3 : (hd2 ++ v).size = 2 + v.size := by rw [ByteArray.size_append, hs2]
       have HB2 := H_ ((HK.out.alloc HK.out.size (.cells #[.int .i64 (t : Int), .string v] 213 (0, 0))).alloc (by rw [alloc1]; have := HK.out.size; omega) (.cells #[.int .u8 (t : Int), .int .u8 ((v.size : Int) + 2)] 5 (0, 0))); go_wp2_with fail
       go_roundg (len - (k + 1))
       case measure => omega
       case rel => exact ⟨k + 1, by omega, rfl, by go_num, by rw [HP.out], HB2.out⟩
     . obtain rfl : len = k := by omega
       have HQ := H_ (show l.take len = l from List.take_of_length_le (by have := HLN.out; omega)); rw [HQ.out]; go_wp2_with fail; go_ret2; exact ⟨by rw [HS.out, HT.out]; rfl, HK.out⟩
end Go.Proofs.YtoblffnlopmebaaGreat
namespace Go.Proofs.YtoblffnlopmebaaGreat
open Go.RowKit Go.Tg Go.Maps Go.Sort
def twiceP : List Opt -> List Opt -> Bool
 | _, [] => false
 | pre, o :: l => pre.any (fun x => x.t == o.t) || twiceP (pre ++ [o]) l
theorem twiceP_app : ∀ (a pre b : List Opt), twiceP pre (a ++ b) = (twiceP pre a || twiceP (pre ++ a) b) := by
 intro a
 induction a with
 | nil => intro pre b; simp [twiceP]
 | cons x a ih => intro pre b; simp only [List.cons_append, twiceP, ih, List.append_assoc, List.nil_append, Bool.or_assoc]
theorem Opts.take {w : World} {ok : Nat -> Prop} {sa : Option Addr} {n c : Nat} {l : List Opt} (h : Opts w ok (.slice sa n c) l) (i : Nat) (hi : i <= l.length) : Opts w ok (.slice sa i c) (l.take i) := by
 have := Rec.take h i (by rw [optL_len]; exact hi); unfold Opts optL at *
 rwa [List.map_take]
theorem findO_some (l : List Opt) (t : Int) : (findO l t).isSome = l.any (fun x => x.t == t) := by
 unfold findO
 induction l with
 | nil => rfl
 | cons x l ih =>
  rw [List.find?_cons, List.any_cons, <- ih]; cases h : x.t == t <;> simp
set_option maxRecDepth 100000 in
theorem twice_any (l : List Opt) (lv : Value) (ok : Nat -> Prop) (w : World) (hl : Opts w ok lv l) (hmax : l.length <= 1000000) :
 Calls Tryz.prog 114 #[lv] w fun e w' => e = .returned (.bool (twiceP [] l)) /\ Below w.heap.size w w' := by
 obtain ⟨sa, c, rfl, hc, hm⟩ := hl.form; have HL := H_ hl; obtain ⟨len, hln⟩ : ∃ len, len = l.length := ⟨_, rfl⟩; have HLN := H_ hln; rw [<- hln] at hc hmax ⊢; unfold maxLen at hm; clear hl hln; go_enter Tryz.func114, Tryz.ntmps114; go_wp2_with fail
 go_loopg [9] len (fun x i wr => ∃ k : Nat, k <= len /\ x = len - k /\ i = .int .i64 k /\ Hid (twiceP [] (l.take k) = false /\ Below w.heap.size w wr))
 case atStart => exact ⟨0, by omega, by omega, rfl, rfl, Below.refl _ _⟩
 case round =>
  obtain ⟨k, hk, rfl, rfl, hK⟩ := hrel; have HK := H_ hK.out; clear hK
  by_cases hkl : k < len
  . have hkl' : k < l.length := by have := HLN.out; omega
    obtain ⟨b, off, rfl, hb, -, -, -, -, c0, c1⟩ := HL.out.at k hkl'; have d0 : wr.cell? ⟨b, off + k * 2, none⟩ = _ := (HK.out.2.cell (p := ⟨b, off + k * 2, none⟩) hb).trans c0; have d1 : wr.cell? ⟨b, off + k * 2 + 1, none⟩ = _ := (HK.out.2.cell (p := ⟨b, off + k * 2 + 1, none⟩) hb).trans c1
    have hT : twiceP [] (l.take (k + 1)) = (l.take k).any (fun x => x.t == l[k].t) := by
     rw [List.take_succ_eq_append_getElem hkl', twiceP_app, HK.out.1]; simp [twiceP]
    have hA : twiceP [] l = (twiceP [] (l.take (k + 1)) || twiceP (l.take (k + 1)) (l.drop (k + 1))) := by
     have := twiceP_app (l.take (k + 1)) [] (l.drop (k + 1))
     rwa [List.take_append_drop, List.nil_append] at this
    have hoT := (HL.out.below HK.out.2).take k (by omega); have HFD := H_ (fun W (hW : Below wr.heap.size wr W) => findO_any (l.take k) _ ok l[k].t W (hoT.below hW) (by rw [List.length_take]; omega)); clear c0 c1 hoT; rw [hT] at hA; have HA := H_ hA; have HT := H_ hT; clear hA hT; have HFS := H_ (findO_some (l.take k) l[k].t); generalize (l.take k).any (fun x => x.t == l[k].t) = y at HA HT HFS; rw [HFS.out] at HFD; generalize ((findO (l.take k) l[k].t).getD default).v = fv at HFD; clear HFS; generalize l[k] = o at *; obtain ⟨t, v⟩ := o; simp only at d0 d1 HFD
    have hb0 : Below wr.heap.size wr (wr.alloc (.cells #[.int .i64 t, .string v] 213 (0, 0))) := (Below.refl _ _).alloc (Nat.le_refl _) _; have hx := at1 wr (.cells #[.int .i64 t, .string v] 213 (0, 0)); have x0 := cell_regrown (cellOf hx 0 _ rfl); have x1 := cell_regrown (cellOf hx 1 _ rfl); have HR := H_ (fun d os => HFD.out _ (hb0.trans ((below_regrown (wr.alloc (.cells #[.int .i64 t, .string v] 213 (0, 0))) d os).mono (by rw [alloc1]; omega)))); have HB0 := H_ hb0
    have hsl : ∀ w, (Instr.slice 76 (.slice (some ⟨b, off, none⟩) len c) none (some (.int .i64 (k : Int))) none).run Tryz.prog w = .ok (.slice (some ⟨b, off, none⟩) k c) w := by
     intro w; have h2 : (sizeOf (Tryz.prog.elem 76)).run Tryz.prog w = .ok 2 w := by kernel_rfl
     rw [run_slice_h (P := Tryz.prog) (w := w) 76 _ _ _ (by kernel_rfl) .i64 (k : Int) (by omega) (by omega), h2]; simp only [Result.andThen, sliced, Int.toNat_natCast, Nat.sub_zero, Nat.zero_mul, Option.map_some, Addr.add_lit, Nat.add_zero, ite_self]
    clear hb0 hx; go_wp2_with fail; refine wp_region_quiet_below (by kernel_rfl) (by kernel_rfl) ?_
    repeat (quiet_step (first | (go_at_call 148; exact Calls.regrown_of (HR.out _ _))))
    refine wpQuiet_nil ?_; rintro _ ⟨⟨nq, osq⟩, rfl⟩; have HB := H_ (HK.out.2.trans ((HB0.out.trans ((below_regrown _ nq osq).mono (by rw [alloc1]; omega))).mono HK.out.2.size))
    cases y with
    | true =>
     go_wp2_with fail; go_ret; exact ⟨by rw [HA.out]; rfl, HB.out⟩
    | false =>
     go_wp2_with fail
     go_roundg (len - (k + 1))
     case measure => omega
     case rel => exact ⟨k + 1, by omega, rfl, by go_num, HT.out, HB.out⟩
  . obtain rfl : len = k := by omega
    have HQ := H_ (show l.take len = l from List.take_of_length_le (by have := HLN.out; omega)); rw [HQ.out] at HK; go_wp2_with fail; go_ret; exact ⟨by rw [HK.out.1]; rfl, HK.out.2⟩
set_option maxRecDepth 100000 in
theorem growR_nil (n : Nat) (w : World) (hn : n <= 1000000) :
 Calls Tryz.prog 175 #[.slice none 0 0, .int .i64 n] w fun e w' => ∃ v, e = .returned v /\ RRow w' w.heap.size v [] /\ Below w.heap.size w w' := by
 cases n with
 | zero =>
  go_enter Tryz.func175, Tryz.ntmps175
  go_wp2
  go_ret; exact ⟨_, rfl, RRow.nil _ _, Below.refl _ _⟩
 | succ n =>
  obtain ⟨i0, z, hi, hz0, hz1, hz2, hzs⟩ := rl_info; have h4 : ((n + 1 : Nat) : Int) > 0 := by omega
  have z25 : ∀ w, (Go.sizeOf 158).run Tryz.prog w = .ok 5 w := fun w => by kernel_rfl
  have hrz : ∀ ty, (Builtin.append_ #[161, 3] ty #[.slice none 0 0, .int .i64 ((n + 1 : Nat) : Int)]).run Tryz.prog w =
   .ok (.slice (some ⟨w.heap.size, 0, none⟩) (n + 1) (grownCap w (n + 1) 0 158)) (w.drew.alloc (.cells (#[] ++ Builtin.zeroCells z.cells (n + 1) ++ Builtin.zeroCells z.cells (grownCap w (n + 1) 0 158 - (n + 1))) 158)) := fun ty => by
   have h := Lib.run_append_grow_zeros w 161 3 ty 158 i0 z .i64 .i64 Tryz.underlying161 Tryz.underlying3 hi hz0 none 0 0 [] (run_firstCells_none w.drew i0.size 0 0 0) (n + 1) (by omega) (by omega) (by omega) (by omega)
    (by rw [hz2]; omega) (by rw [Nat.zero_add]; exact growslice_fits (by omega) (by rw [hz2]; omega))
   rw [Nat.zero_add] at h; exact h
  have hGn : n + 1 <= grownCap w (n + 1) 0 158 := grownCap_ge w _ _ _; have hG63 := grownCap_le_maxLen w (n + 1) 0 158 (by unfold maxLen; omega); generalize grownCap w (n + 1) 0 158 = G at hrz hGn hG63; generalize z.cells = zc at hrz hzs; have HG := H_ hG63; unfold maxLen at hG63; clear hi; go_enter Tryz.func175, Tryz.ntmps175
  go_wp2_with (at_builtin; refine Lib.wpList_append_run _ rfl _ _ _ _ rfl _ _ rfl rfl _ _ (hrz _) ?_)
  all_goals (
   go_ret; refine ⟨_, rfl, ⟨rfl, Or.inr ⟨w.heap.size, G, _, rfl, Nat.le_refl _, at1 w.drew _, Nat.zero_le _, HG.out, ?_, by simp [rlL]⟩⟩, (Below.refl _ w).drew.alloc (Nat.le_refl _) _⟩; simp only [Array.size_append, size_zeroCells, hzs]
   omega)
theorem wpl_append_rules {B : Nat} {w : World} {ops : Array Oper} {rest : List Oper} {o : Oper} {a : Act} {Q : Exit -> Act -> World -> Prop} {ok : Nat -> Prop} (hgd : o.guard = none) (s x : Operand)
 (ho : o.op = .call { callee := .builtin .append, args := #[s, x], argTypes := #[161, 161] }) (v : Value) (l : List Rl) (hs : a.eval s = v) (hown : RRow w B v l)
 (xv : Value) (l' : List Rl) (hx : a.eval x = xv) (hr : Rls w ok xv l') (hnil : ∀ n c, xv = .slice none n c -> c = 0) (hlen : l.length + l'.length <= 1000000) (hW : B <= w.heap.size)
 (h : ∀ v' w', RRow w' B v' (l ++ l') -> Keep (fun k => v.ownBlock = some k) w w' -> (v'.ownBlock = v.ownBlock \/ v'.ownBlock = some w.heap.size) -> wpList Tryz.prog ops Q rest (a.put o.dst v') w') : wpList Tryz.prog ops Q (o :: rest) a w := by
 obtain ⟨i, z, hi, hz, hsz, hby, hzs⟩ := rl_info; obtain ⟨sa, c, rfl, hc, hm⟩ := hr.form
 cases sa with
 | none =>
  have h0 := hnil _ _ rfl; subst h0; have e : l' = [] := List.eq_nil_of_length_eq_zero (by omega); subst e; refine wpList_append_own_none hgd s x 161 ho B 158 i 5 Tryz.underlying161 hi v l.length (rlL l).flatten hs hown hx ?_; exact h v w (by rw [List.append_nil]; exact hown) (Keep.refl _ _) (Or.inl rfl)
 | some ad =>
  have hfl := hr.flat (by decide); have hl2 : (rlL l').flatten.length = l'.length * 5 := by rw [flatten_len _ (rlL_k l'), rlL_len]
  refine wpList_append_own_at (P := Tryz.prog) (w := w) hgd s x 161 ho B 158 i z 5 48 Tryz.underlying161 hi hz hsz hby hzs (by decide) v l.length (rlL l).flatten hs hown ad l'.length c (rlL l').flatten hx hl2 hfl (rl_bytes l') (by unfold maxLen; omega) (by omega) hW ?_; intro v' w' h1 h2 _ h3; exact h v' w' (by unfold RRow; rw [rlL_app, List.length_append]; exact h1) (keep_of_grown h2) h3
set_option maxRecDepth 100000 in
theorem concat_any (l1 l2 : List Rl) (v1 v2 : Value) (ok : Nat -> Prop) (vb : Nat) (w : World) (h1 : Rls w ok v1 l1) (h2 : Rls w ok v2 l2) (n1 : ∀ n c, v1 = .slice none n c -> c = 0) (n2 : ∀ n c, v2 = .slice none n c -> c = 0)
 (hvb : w.heap[vb]? = some (.cells #[v1, v2] 161 (0, 0))) (hm1 : l1.length <= 1000) (hm2 : l2.length <= 1000) :
 Calls Tryz.prog 116 #[.slice (some ⟨vb, 0, none⟩) 2 2] w fun e w' => ∃ v, e = .returned v /\ RRow w' w.heap.size v (l1 ++ l2) /\ Below w.heap.size w w' := by
 have c0 : w.cell? ⟨vb, 0, none⟩ = some v1 := cellOf hvb 0 _ rfl; have c1 : w.cell? ⟨vb, 1, none⟩ = some v2 := cellOf hvb 1 _ rfl; obtain ⟨s1, d1, rfl, hc1, hx1⟩ := h1.form; obtain ⟨s2, d2, rfl, hc2, hx2⟩ := h2.form; have H := H_ (A_ h1 (A_ h2 (A_ n1 (A_ n2 hvb)))); have HG := H_ (growR_nil (l1.length + l2.length) w (by omega)); obtain ⟨a, ha⟩ : ∃ a, a = l1.length := ⟨_, rfl⟩; obtain ⟨b, hb⟩ : ∃ b, b = l2.length := ⟨_, rfl⟩; have HA := H_ (A_ ha hb); rw [<- ha] at c0 hm1 hc1 HG; rw [<- hb] at c1 hm2 hc2 HG; clear h1 h2 n1 n2 hvb ha hb; go_enter Tryz.func116, Tryz.ntmps116; go_wp2_with fail
 go_loopg [3, 11] 2 (fun x s i wr => wr = w /\ ((x = 2 /\ i = .int .i64 0 /\ s = .int .i64 0) \/ (x = 1 /\ i = .int .i64 1 /\ s = .int .i64 a) \/ (x = 0 /\ i = .int .i64 2 /\ s = .int .i64 ((a + b : Nat) : Int))))
 case atStart => exact ⟨rfl, Or.inl ⟨rfl, rfl, rfl⟩⟩
 case round =>
  obtain ⟨rfl, ⟨rfl, rfl, rfl⟩ | ⟨rfl, rfl, rfl⟩ | ⟨rfl, rfl, rfl⟩⟩ := hrel
  . go_wp2_with fail
    go_roundg 1
    case measure => omega
    case rel => exact ⟨rfl, Or.inr (Or.inl ⟨rfl, rfl, rfl⟩)⟩
  . go_wp2_with fail
    go_roundg 0
    case measure => omega
    case rel => exact ⟨rfl, Or.inr (Or.inr ⟨rfl, rfl, by simp⟩)⟩
  . have HG2 := H_ HG.out; obtain ⟨w0, rfl⟩ : ∃ w0, w0 = wr := ⟨_, rfl⟩; go_wp2_with fail; rw [show ((a : Int) + (b : Int)) = ((a + b : Nat) : Int) from by simp]; refine HG2.out.mono ?_; rintro e w1 ⟨v0, rfl, hrow, hbl⟩; obtain ⟨ga, gc, hv0⟩ := hrow.form; subst hv0; have H1 := H_ (A_ hrow hbl); clear hrow hbl; go_wp2_with fail
    go_loopg [6, 27] 2 (fun x s i w5 => (x = 2 /\ i = .int .i64 0 /\ Hid (RRow w5 w0.heap.size s [] /\ Below w0.heap.size w0 w5)) \/ (x = 1 /\ i = .int .i64 1 /\ Hid (RRow w5 w0.heap.size s l1 /\ Below w0.heap.size w0 w5)) \/ (x = 0 /\ i = .int .i64 2 /\ Hid (RRow w5 w0.heap.size s (l1 ++ l2) /\ Below w0.heap.size w0 w5)))
    case atStart => exact Or.inl ⟨rfl, rfl, H1.out⟩
    case round =>
     obtain ⟨hA1, hA2⟩ := HA.out; obtain ⟨hr1, hr2, hn1, hn2, hvb⟩ := H.out; have hvl : vb < w0.heap.size := (Array.getElem?_eq_some_iff.1 hvb).1; rw [<- hA1] at hr1 hn1; rw [<- hA2] at hr2 hn2; have HH := H_ (A_ hr1 (A_ hr2 (A_ hn1 hn2))); have HL1 := H_ hA1; have HL2 := H_ hA2; clear hr1 hr2 hn1 hn2 hvb hA1 hA2; obtain ⟨rfl, rfl, hK⟩ | ⟨rfl, rfl, hK⟩ | ⟨rfl, rfl, hK⟩ := hrel
     . have HK := H_ hK.out; have e0 := (HK.out.2.cell (p := ⟨vb, 0, none⟩) hvl).trans c0; have hsz := HK.out.2.size; have HR := H_ (HH.out.1.below HK.out.2); have hlq : ([] : List Rl).length + l1.length <= 1000000 := by rw [<- HL1.out]; simp; omega
       clear hK
       go_wp2_with (
        at_builtin; refine wpl_append_rules rfl _ _ rfl _ [] rfl HK.out.1 _ l1 rfl HR.out HH.out.2.2.1 hlq hsz ?_
        intro v5 w5 h5 k5 o5; obtain ⟨qa, qc, hq⟩ := h5.form; have H5 := H_ (A_ h5 (HK.out.2.trans (k5.below hsz (fun k hk e => Nat.lt_irrefl _ (Nat.lt_of_lt_of_le hk (HK.out.1.lt _ e).2))))); subst hq
        clear h5 k5 o5)
       go_roundg 1
       case measure => omega
       case rel => exact Or.inr (Or.inl ⟨rfl, rfl, H5.out⟩)
     . have HK := H_ hK.out; have e0 := (HK.out.2.cell (p := ⟨vb, 1, none⟩) hvl).trans c1; have hsz := HK.out.2.size; have HR := H_ (HH.out.2.1.below HK.out.2); have hlq : l1.length + l2.length <= 1000000 := by rw [<- HL1.out, <- HL2.out]; omega
       clear hK
       go_wp2_with (
        at_builtin; refine wpl_append_rules rfl _ _ rfl _ l1 rfl HK.out.1 _ l2 rfl HR.out HH.out.2.2.2 hlq hsz ?_
        intro v5 w5 h5 k5 o5; obtain ⟨qa, qc, hq⟩ := h5.form; have H5 := H_ (A_ h5 (HK.out.2.trans (k5.below hsz (fun k hk e => Nat.lt_irrefl _ (Nat.lt_of_lt_of_le hk (HK.out.1.lt _ e).2))))); subst hq
        clear h5 k5 o5)
       go_roundg 0
       case measure => omega
       case rel =>
        have h5 := H5.out; rw [List.length_append] at h5; exact Or.inr (Or.inr ⟨rfl, rfl, h5⟩)
     . have HK := H_ hK.out; clear hK; obtain ⟨qa, qc, hq⟩ := HK.out.1.form; subst hq; go_wp2_with fail; go_ret; exact ⟨_, rfl, HK.out.1, HK.out.2⟩
end Go.Proofs.YtoblffnlopmebaaGreat
