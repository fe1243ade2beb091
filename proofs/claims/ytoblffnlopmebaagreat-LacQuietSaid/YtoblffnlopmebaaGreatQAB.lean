import Derived.WalkKit
import Derived.WalkSpells
import Derived.WalkLawsBesides
import Derived.Lib.Hide
import Derived.Maps.Own
import Derived.Maps.OwnOps
import Derived.Maps.OwnSet
import Derived.Maps.RangeWalk
import Derived.Maps.RangeRun
import Derived.DeepKeys4
set_option linter.unusedVariables false
set_option linter.unusedSimpArgs false
set_option maxHeartbeats 16000000
namespace Go
theorem aA (a : Act) (d : Tmp) (v : Value) : a.put (some d) v = { a with tmps := a.tmps.setIfInBounds d v } := rfl
theorem aZ (l : List Value) (q) (d : Tmp) (v : Value) : Act.put { tmps := l.toArray, defers := q } (some d) v = { tmps := (l.set d v).toArray, defers := q } := by rw [aA]; simp only [List.setIfInBounds_toArray]
theorem aE (a : Act) (v : Value) : a.put none v = a := rfl
theorem aB {α : Type} (l : List α) (i : Nat) (a : α) : l.toArray.setIfInBounds i a = (l.set i a).toArray := List.setIfInBounds_toArray l i a
theorem aC {α : Type} (x a : α) (xs : List α) : (x :: xs).set 0 a = a :: xs := List.set_cons_zero
theorem aD {α : Type} (x a : α) (xs : List α) (n : Nat) : (x :: xs).set (n + 1) a = x :: xs.set n a := List.set_cons_succ
theorem aF {α : Type} (x : α) (xs : List α) (n : Nat) : (x :: xs).drop (n + 1) = xs.drop n := List.drop_succ_cons
theorem aG {α : Type} (xs : List α) : xs.drop 0 = xs := List.drop_zero
theorem H_ {p : Prop} (h : p) : RowKit.Hid p := Lib.hid h
theorem A_ {a b : Prop} (h : a) (k : b) : a /\ b := And.intro h k
end Go
namespace Go.Tg
open Go Go.RowKit Go.Maps Go.MapKept
open Go.ChangeMaps (setBlock)
def KV (P : Program) (K : TypeId) (v : Value) : Prop := ∃ l, keyOf P K v = some l
def MapAt (P : Program) (K : TypeId) (w : World) (b : Nat) (m : Value -> Option Value) : Prop :=
 ∃ es clock, w.heap[b]? = some (.map es clock) /\ Stamped es clock /\ (∀ e ∈ es.toList, KV P K e.key) /\
  (∀ k v, m k = some v ↔ ∃ e ∈ es.toList, e.key = k /\ e.val = v)
open Classical in
noncomputable def upd (m : Value -> Option Value) (k v : Value) : Value -> Option Value := fun k' => if k' = k then some v else m k'
theorem upd_same (m : Value -> Option Value) (k v : Value) : upd m k v k = some v := by simp [upd]
theorem upd_other (m : Value -> Option Value) {k k' : Value} (v : Value) (h : k' ≠ k) : upd m k v k' = m k' := by simp [upd, h]
variable {P : Program} {K E T : TypeId} {w : World} {b : Nat} {m : Value -> Option Value}
theorem MapAt.empty (w : World) : MapAt P K (w.alloc (.map #[] 0)) w.heap.size (fun _ => none) :=
 ⟨#[], 0, by show (w.heap.push _)[_]? = _; simp, stamped_empty 0, by simp, by simp⟩
theorem MapAt.find (Kd : Keyed P K) (h : MapAt P K w b m) {k : Value} (hk : KV P K k) :
 ∃ es clock, w.heap[b]? = some (.map es clock) /\ ∃ r : Option (Nat × Value), (Instr.findKey K k es.toList).run P w = .ok r w /\ r.map (·.2) = m k /\
  (∀ e ∈ es.toList, KV P K e.key) /\ Stamped es clock /\ (∀ i v, r = some (i, v) -> ∃ e, es[i]? = some e /\ e.key = k) /\ (r = none -> ∀ e ∈ es.toList, e.key ≠ k) := by
 obtain ⟨es, clock, hb, hs, hkeys, hm⟩ := h; obtain ⟨l, hl⟩ := hk; refine ⟨es, clock, hb, ?_⟩
 rcases Kd.find w hl es.toList hkeys with ⟨h1, h2⟩ | ⟨j, e, h1, h2, h3⟩
 . refine ⟨none, h1, ?_, hkeys, hs, by simp, fun _ => h2⟩
   cases hmk : m k with
   | none => rfl
   | some v =>
    obtain ⟨e, he, hek, _⟩ := (hm k v).1 hmk; exact absurd hek (h2 e he)
 . refine ⟨some (j, e.val), h1, ?_, hkeys, hs, ?_, by simp⟩
   . rw [(hm k e.val).2 ⟨e, List.mem_of_getElem? h2, h3, rfl⟩]; rfl
   . intro i v hiv; cases hiv
     exact ⟨e, by simpa using h2, h3⟩
theorem MapAt.run_lookup (Kd : Keyed P K) (ht : P.underlying T = some (.map K E)) (h : MapAt P K w b m) {k z : Value} (hk : KV P K k)
 (hz : (zeroValue E).run P w = .ok z w) (ok : Bool) :
 (Instr.lookup T (.map (some b)) k ok).run P w = .ok (if ok then .tuple #[(m k).getD z, .bool (m k).isSome] else (m k).getD z) w := by
 obtain ⟨es, clock, hb, r, hr, hrm, hkeys, hs, h1, h2⟩ := h.find Kd hk; obtain ⟨l, hl⟩ := hk; have hrm' := hrm.symm
 cases r with
 | none =>
  simp only [Option.map_none] at hrm'; simp [Instr.lookup, run_underlying ht, MapKept.run_getObj_map hb, Kd.check w es.isEmpty hl, hr, Result.andThen, hz, hrm']
 | some x =>
  obtain ⟨i, v⟩ := x; simp only [Option.map_some] at hrm'; simp [Instr.lookup, run_underlying ht, MapKept.run_getObj_map hb, Kd.check w es.isEmpty hl, hr, Result.andThen, hrm']
theorem MapAt.run_update (Kd : Keyed P K) (ht : P.underlying T = some (.map K E)) (h : MapAt P K w b m) {k : Value} (hk : KV P K k) (v : Value) :
 ∃ es' clock', (Instr.mapUpdate T (.map (some b)) k v).run P w = .ok () (setBlock w b (.map es' clock')) /\ MapAt P K (setBlock w b (.map es' clock')) b (upd m k v) := by
 have hsz : b < w.heap.size := by
  obtain ⟨es, clock, hb, _⟩ := h; exact (Array.getElem?_eq_some_iff.1 hb).1
 have hself : ∀ o, (setBlock w b o).heap[b]? = some o := fun o => by simp [setBlock, hsz]
 have hm := h; obtain ⟨es, clock, hb, r, hr, hrm, hkeys, hs, h1, h2⟩ := h.find Kd hk; obtain ⟨es0, clock0, hb0, hs0, hkeys0, hm⟩ := hm; rw [hb] at hb0; cases hb0
 obtain ⟨l, hl⟩ := hk
 cases r with
 | none =>
  have hne := h2 rfl; refine ⟨es.push ⟨k, v, clock⟩, clock + 1, ?_, _, _, hself _, stamped_push hs hne, ?_, ?_⟩
  . simp [Instr.mapUpdate, run_underlying ht, MapKept.run_getObj_map hb, Kd.check w false hl, hr, MapKept.run_setObj_map _ hb, Result.andThen, setBlock]
  . intro e he; simp only [Array.toList_push, List.mem_append, List.mem_singleton] at he
    rcases he with he | rfl
    . exact hkeys e he
    . exact ⟨l, hl⟩
  . intro k' v'; simp only [Array.toList_push, List.mem_append, List.mem_singleton]
    by_cases hkk : k' = k
    . subst hkk; rw [upd_same]
      constructor
      . intro h; cases h; exact ⟨_, Or.inr rfl, rfl, rfl⟩
      . rintro ⟨e, he | rfl, h3, h4⟩
        . exact absurd h3 (hne e he)
        . exact congrArg some h4
    . rw [upd_other _ _ hkk, hm]
      constructor
      . rintro ⟨e, he, h3, h4⟩; exact ⟨e, Or.inl he, h3, h4⟩
      . rintro ⟨e, he | rfl, h3, h4⟩
        . exact ⟨e, he, h3, h4⟩
        . exact absurd h3.symm hkk
 | some x =>
  obtain ⟨i, v0⟩ := x; obtain ⟨e0, he0, hek⟩ := h1 i v0 rfl; have hi : i < es.size := (Array.getElem?_eq_some_iff.1 he0).1; have he0' : es[i] = e0 := by simpa [hi] using he0
  have hlist : (es.modify i (fun e' => { e' with key := k, val := v })).toList = es.toList.set i { e0 with key := k, val := v } := by
   rw [Array.toList_modify, ChangeMaps.modify_eq_set _ _ _ e0 (by simpa using he0)]
  have hdist := ((stamped_iff es clock).1 hs).2.2
  have hother : ∀ (j : Nat) (e : MapEntry), es.toList[j]? = some e -> j ≠ i -> e.key ≠ k := by
   intro j e hj hne heq; have hj' : j < es.toList.length := (List.getElem?_eq_some_iff.1 hj).1; have hi' : i < es.toList.length := by simpa using hi
   have hje : es.toList[j] = e := by rw [List.getElem?_eq_getElem hj'] at hj; exact Option.some.inj hj
   have hie : es.toList[i] = e0 := by simpa using he0'
   rw [List.pairwise_iff_getElem] at hdist
   rcases Nat.lt_or_gt_of_ne hne with hlt | hlt
   . have := hdist j i hj' hi' hlt; rw [hje, hie, hek, heq] at this; exact this rfl
   . have := hdist i j hi' hj' hlt; rw [hje, hie, hek, heq] at this; exact this rfl
  refine ⟨es.modify i (fun e' => { e' with key := k, val := v }), clock, ?_, _, _, hself _, stamped_modify hs _ _ (fun _ _ => rfl) (fun e' _ he' => ?_), ?_, ?_⟩
  . simp [Instr.mapUpdate, run_underlying ht, MapKept.run_getObj_map hb, Kd.check w false hl, hr, he0, hek, Kd.stays w hl, MapKept.run_setObj_map _ hb, Result.andThen, setBlock]
  . rw [he0] at he'; cases he'; exact hek.symm
  . intro e he; rw [hlist] at he
    rcases List.mem_or_eq_of_mem_set he with he | rfl
    . exact hkeys e he
    . exact ⟨l, hl⟩
  . intro k' v'; rw [hlist]
    by_cases hkk : k' = k
    . subst hkk; rw [upd_same]
      constructor
      . intro h; cases h; exact ⟨_, List.mem_set (by simpa using hi) _, rfl, rfl⟩
      . rintro ⟨e, he, h3, h4⟩; obtain ⟨j, hj, hje⟩ := List.getElem_of_mem he; rw [List.getElem_set] at hje
        split at hje
        . subst hje; exact congrArg some h4
        . rename_i hne
          have hj' : j < es.toList.length := by simpa using hj
          exact absurd h3 (hother j e (by rw [List.getElem?_eq_getElem hj', hje]) (fun e1 => hne e1.symm))
    . rw [upd_other _ _ hkk, hm]
      constructor
      . rintro ⟨e, he, h3, h4⟩; obtain ⟨j, hj, hje⟩ := List.getElem_of_mem he
        have hji : i ≠ j := by
         intro e1; subst e1; have : e = e0 := by simpa [he0'] using hje.symm
         subst this; exact hkk (h3.symm.trans hek)
        exact ⟨e, List.mem_iff_getElem.2 ⟨j, by simpa using hj, by rw [List.getElem_set, if_neg hji]; exact hje⟩, h3, h4⟩
      . rintro ⟨e, he, h3, h4⟩
        rcases List.mem_or_eq_of_mem_set he with he | rfl
        . exact ⟨e, he, h3, h4⟩
        . exact absurd h3.symm hkk
end Go.Tg
namespace Go.Tg
open Go Go.RowKit Go.Maps Go.MapKept
open Go.ChangeMaps (setBlock)
structure Keep (S : Nat -> Prop) (w w' : World) : Prop where
 os : w'.os = w.os
 tape : w'.tape = w.tape
 output : w'.output = w.output
 size : w.heap.size <= w'.heap.size
 block : ∀ k, k < w.heap.size -> ¬ S k -> w'.heap[k]? = w.heap[k]?
theorem Keep.refl (S : Nat -> Prop) (w : World) : Keep S w w := ⟨rfl, rfl, rfl, Nat.le_refl _, fun _ _ _ => rfl⟩
theorem Keep.trans {S : Nat -> Prop} {a b c : World} (h : Keep S a b) (k : Keep S b c) : Keep S a c :=
 ⟨k.os.trans h.os, k.tape.trans h.tape, k.output.trans h.output, Nat.le_trans h.size k.size,
  fun i hi hs => (k.block i (Nat.lt_of_lt_of_le hi h.size) hs).trans (h.block i hi hs)⟩
theorem Keep.below {B : Nat} {S : Nat -> Prop} {w w' : World} (h : Keep S w w') (hB : B <= w.heap.size) (hs : ∀ k, k < B -> ¬ S k) : Below B w w' :=
 ⟨h.os, h.tape, h.output, h.size, fun k hk => h.block k (by omega) (hs k hk)⟩
theorem Keep.of_below {w w' : World} (S : Nat -> Prop) (h : Below w.heap.size w w') : Keep S w w' :=
 ⟨h.os, h.tape, h.output, h.size, fun k hk _ => h.block k hk⟩
theorem Keep.alloc {S : Nat -> Prop} {a w : World} (h : Keep S a w) (o : Obj) : Keep S a (w.alloc o) :=
 h.trans ⟨rfl, rfl, rfl, by simp, fun k hk _ => Below.heap_alloc _ _ _ hk⟩
theorem Keep.drew {S : Nat -> Prop} {a w : World} (h : Keep S a w) : Keep S a w.drew := ⟨h.os, h.tape, h.output, h.size, h.block⟩
theorem Keep.setCell {S : Nat -> Prop} {a w : World} (h : Keep S a w) (p : Addr) (hp : a.heap.size <= p.block \/ S p.block) (u : Value) : Keep S a (w.setCell p u) :=
 ⟨h.os, h.tape, h.output, by simpa [World.setCell] using h.size, fun k hk hs => by
  rw [Below.heap_setCell _ _ _ _ (by rintro rfl; rcases hp with hp | hp; omega; exact hs hp)]; exact h.block k hk hs⟩
theorem setBlock_other (w : World) (b k : Nat) (o : Obj) (h : k ≠ b) : (setBlock w b o).heap[k]? = w.heap[k]? := by
 simp only [setBlock]; rw [Array.getElem?_setIfInBounds_ne (by omega)]
theorem setBlock_self (w : World) (b : Nat) (o : Obj) (h : b < w.heap.size) : (setBlock w b o).heap[b]? = some o := by
 simp [setBlock, h]
theorem setBlock_size (w : World) (b : Nat) (o : Obj) : (setBlock w b o).heap.size = w.heap.size := by simp [setBlock]
theorem Keep.setBlock {S : Nat -> Prop} {a w : World} (h : Keep S a w) (b : Nat) (hb : a.heap.size <= b \/ S b) (o : Obj) : Keep S a (setBlock w b o) :=
 ⟨h.os, h.tape, h.output, by simpa [ChangeMaps.setBlock] using h.size, fun k hk hs => by
  rw [setBlock_other _ _ _ _ (by rintro rfl; rcases hb with hb | hb; omega; exact hs hb)]; exact h.block k hk hs⟩
section
variable {P : Program} {K E T : TypeId} {w : World} {b : Nat} {m : Value -> Option Value}
theorem MapAt.lt (h : MapAt P K w b m) : b < w.heap.size := by
 obtain ⟨es, clock, hb, _⟩ := h; exact (Array.getElem?_eq_some_iff.1 hb).1
theorem MapAt.same (h : MapAt P K w b m) {w' : World} (he : w'.heap[b]? = w.heap[b]?) : MapAt P K w' b m := by
 obtain ⟨es, clock, hb, r⟩ := h; exact ⟨es, clock, he.trans hb, r⟩
theorem MapAt.congr (h : MapAt P K w b m) {m' : Value -> Option Value} (hm : ∀ k, m' k = m k) : MapAt P K w b m' := by
 have : m' = m := funext hm; exact this ▸ h
def IterAt (P : Program) (K : TypeId) (w : World) (r b : Nat) (m : Value -> Option Value) (left : Value -> Prop) (n : Nat) : Prop :=
 ∃ es clock seen, w.heap[b]? = some (.map es clock) /\ Stamped es clock /\ (∀ e ∈ es.toList, KV P K e.key) /\
  (∀ k v, m k = some v ↔ ∃ e ∈ es.toList, e.key = k /\ e.val = v) /\ w.heap[r]? = some (.mapIter (some b) clock seen clock) /\
  (∀ k, left k ↔ ∃ e ∈ (leftOf es seen).toList, e.key = k) /\ (leftOf es seen).size = n
theorem IterAt.ltr {r : Nat} {left : Value -> Prop} {n : Nat} (h : IterAt P K w r b m left n) : r < w.heap.size := by
 obtain ⟨es, clock, seen, h1, h2, h3, h4, h5, h6⟩ := h; exact (Array.getElem?_eq_some_iff.1 h5).1
theorem MapAt.run_range (ht : P.underlying T = some (.map K E)) (h : MapAt P K w b m) :
 ∃ o, (Instr.range T (.map (some b))).run P w = .ok (.pointer (some ⟨w.heap.size, 0, none⟩)) (w.alloc o) /\
 ∃ n, IterAt P K (w.alloc o) w.heap.size b m (fun k => (m k).isSome) n := by
 have hlt := h.lt; obtain ⟨es, clock, hb, hs, hkeys, hm⟩ := h; refine ⟨.mapIter (some b) clock #[] clock, by simp [Instr.range, run_underlying ht, MapKept.run_getObj_map hb, Result.andThen, newObj, Sem.run], _, es, clock, #[], ?_, hs, hkeys, hm, ?_, ?_, rfl⟩
 . rw [Below.heap_alloc _ _ _ hlt]; exact hb
 . show (w.heap.push _)[_]? = _; simp
 . intro k
   show (m k).isSome = true ↔ _
   rw [Option.isSome_iff_exists]
   constructor
   . rintro ⟨v, hv⟩; obtain ⟨e, he, h1, _⟩ := (hm k v).1 hv; exact ⟨e, by simp [leftOf]; simpa using he, h1⟩
   . rintro ⟨e, he, h1⟩; exact ⟨e.val, (hm k _).2 ⟨e, by simp [leftOf] at he; simpa using he, h1, rfl⟩⟩
theorem IterAt.run_next {r : Nat} {left : Value -> Prop} {n : Nat} (h : IterAt P K w r b m left n) (ty : TypeId) :
 ((∀ k, ¬ left k) /\ n = 0 /\ (Instr.next (.pointer (some ⟨r, 0, none⟩)) false ty).run P w = .ok (.tuple #[.bool false]) w) \/
 ∃ k v w', left k /\ m k = some v /\ (Instr.next (.pointer (some ⟨r, 0, none⟩)) false ty).run P w = .ok (.tuple #[.bool true, k, v]) w' /\
  Keep (· = r) w w' /\ w'.heap.size = w.heap.size /\ (∃ n', n' < n /\ IterAt P K w' r b m (fun k' => left k' /\ k' ≠ k) n') /\
  (Instr.entry (.pointer (some ⟨r, 0, none⟩))).run P w' = .ok (.tuple #[k, v]) w' := by
 have hr := h.ltr; obtain ⟨es, clock, seen, hb, hs, hkeys, hm, hit, hl, hn⟩ := h; have hst := (stamped_iff es clock).1 hs; have hbr : b ≠ r := by rintro rfl; rw [hb] at hit; cases hit
 rcases run_next_at (P := P) w ty r b clock clock seen es clock hit hb hst.1 (Nat.le_refl _) with ⟨h0, hrun⟩ | ⟨e, he, w1, hw1, hrun⟩
 . left
   refine ⟨fun k hk => ?_, by omega, hrun⟩; obtain ⟨e, he, _⟩ := (hl k).1 hk; have : leftOf es seen = #[] := Array.eq_empty_of_size_eq_zero h0; rw [this] at he; simp at he
 . right
   have hees : e ∈ es.toList := by simp [leftOf] at he; simpa using he.1
   have hw1h : w1.heap = w.heap := by rcases hw1 with rfl | rfl <;> rfl
   have hk1 : Keep (· = r) w w1 := by rcases hw1 with rfl | rfl; exact Keep.refl _ _; exact (Keep.refl _ _).drew
   refine ⟨e.key, e.val, _, (hl _).2 ⟨e, he, rfl⟩, (hm _ _).2 ⟨e, hees, rfl, rfl⟩, hrun, hk1.setBlock r (Or.inr rfl) _, by rw [setBlock_size, hw1h], ?_, ?_⟩
   . have hb' : (ChangeMaps.setBlock w1 r (.mapIter (some b) clock (seen.push e.born) clock)).heap[b]? = some (.map es clock) := by
      rw [setBlock_other _ _ _ _ hbr, hw1h, hb]
     have hr' : (ChangeMaps.setBlock w1 r (.mapIter (some b) clock (seen.push e.born) clock)).heap[r]? = some (.mapIter (some b) clock (seen.push e.born) clock) :=
      setBlock_self _ _ _ (by rw [hw1h]; exact hr)
     refine ⟨_, ?_, es, clock, seen.push e.born, hb', hs, hkeys, hm, hr', ?_, rfl⟩
     . rw [<- hn]
       have hsub : leftOf es (seen.push e.born) = (leftOf es seen).filter (fun x => !(x.born == e.born)) := by
        unfold leftOf; rw [Array.filter_filter]
        congr 1
        funext x
        simp only [Array.contains_push, Bool.not_or, Bool.and_comm]
       rw [hsub]
       have hlt : ((leftOf es seen).filter (fun x => !(x.born == e.born))).size < (leftOf es seen).size := by
        generalize leftOf es seen = L at he
        show (L.filter (fun x => !(x.born == e.born))).toList.length < L.toList.length
        rw [Array.toList_filter, List.length_filter_lt_length_iff_exists]; exact ⟨e, he, by simp⟩
       exact hlt
     . intro k
       show left k /\ k ≠ e.key ↔ _
       rw [hl]
       constructor
       . rintro ⟨⟨x, hx, hxk⟩, hne⟩; refine ⟨x, ?_, hxk⟩; simp only [leftOf, Array.toList_filter, List.mem_filter, Array.contains_push, Bool.not_or, Bool.and_eq_true, Bool.not_eq_true'] at hx ⊢; refine ⟨hx.1, hx.2, ?_⟩; rw [beq_eq_false_iff_ne]; intro hborn; exact hne (by rw [<- hxk]; exact congrArg MapEntry.key (born_inj hst.2.1 hx.1 hees hborn))
       . rintro ⟨x, hx, hxk⟩; simp only [leftOf, Array.toList_filter, List.mem_filter, Array.contains_push, Bool.not_or, Bool.and_eq_true, Bool.not_eq_true'] at hx ⊢; refine ⟨⟨x, ⟨hx.1, hx.2.1⟩, hxk⟩, ?_⟩; rintro rfl; have := hx.2.2; rw [beq_eq_false_iff_ne] at this; exact this (congrArg MapEntry.born (key_inj hst.2.2 hx.1 hees hxk))
   . refine run_entry_at _ r b clock seen es clock e (setBlock_self _ _ _ (by rw [hw1h]; exact hr)) (by rw [setBlock_other _ _ _ _ hbr, hw1h, hb]) hees hst.2.1
where
 born_inj : ∀ {l : List MapEntry}, (l.map (·.born)).Nodup -> ∀ {x y : MapEntry}, x ∈ l -> y ∈ l -> x.born = y.born -> x = y := by
  intro l
  induction l with
  | nil => intro _ x y hx; cases hx
  | cons z r ih =>
   intro hd x y hx hy hxy; simp only [List.map_cons, List.nodup_cons, List.mem_map, not_exists, not_and] at hd
   rcases List.mem_cons.1 hx with rfl | hx' <;> rcases List.mem_cons.1 hy with rfl | hy'
   . rfl
   . exact absurd hxy.symm (hd.1 y hy')
   . exact absurd hxy (hd.1 x hx')
   . exact ih hd.2 hx' hy' hxy
 key_inj : ∀ {l : List MapEntry}, l.Pairwise (fun x y => x.key ≠ y.key) -> ∀ {x y : MapEntry}, x ∈ l -> y ∈ l -> x.key = y.key -> x = y := by
  intro l
  induction l with
  | nil => intro _ x y hx; cases hx
  | cons z r ih =>
   intro hd x y hx hy hxy; obtain ⟨h1, h2⟩ := List.pairwise_cons.1 hd
   rcases List.mem_cons.1 hx with rfl | hx' <;> rcases List.mem_cons.1 hy with rfl | hy'
   . rfl
   . exact absurd hxy (h1 y hy')
   . exact absurd hxy.symm (h1 x hx')
   . exact ih h2 hx' hy' hxy
end
end Go.Tg
namespace Go.Tg
open Go Go.RowKit Go.Maps Go.MapKept
open Go.ChangeMaps (setBlock)
def IntsAt (TI : TypeId) (B : Nat) (w : World) (v : Value) (xs : List Int) : Prop :=
 (xs = [] /\ v = .slice none 0 0) \/ ∃ b, B <= b /\ v = .slice (some ⟨b, 0, none⟩) xs.length xs.length /\ w.heap[b]? = some (.cells (xs.map (Value.int .i64)).toArray TI (0, 0))
def keyV (s e : Int) : Value := .agg #[.int .i64 s, .int .i64 e]
def entV (n : Int) (sl : Value) : Value := .agg #[.int .i64 n, sl]
abbrev Row := Int × Int × Int × List Int
abbrev Tab := Int -> Int -> Option (Int × List Int)
def Tab.put (f : Tab) (r : Row) : Tab := fun s e => if s = r.1 /\ e = r.2.1 then some (r.2.2.1, r.2.2.2) else f s e
def TableAt (P : Program) (TK TI : TypeId) (B : Nat) (w : World) (b : Nat) (f : Tab) : Prop :=
 ∃ mm, MapAt P TK w b mm /\ (∀ k v, mm k = some v -> ∃ s e n sl xs, k = keyV s e /\ f s e = some (n, xs) /\ v = entV n sl /\ IntsAt TI B w sl xs) /\
  (∀ s e n xs, f s e = some (n, xs) -> ∃ v, mm (keyV s e) = some v)
structure TabTypes (P : Program) (TM TK TE TS TI : TypeId) : Prop where
 keyed : Keyed P TK
 ht : P.underlying TM = some (.map TK TE)
 kv : ∀ a b : Int, (Lit.int .i64 a).wf = true -> (Lit.int .i64 b).wf = true -> KV P TK (keyV a b)
 bK : ∀ w (a b : Int), (Instr.build TK #[(0, .int .i64 a), (1, .int .i64 b)]).run P w = .ok (keyV a b) w
 bE : ∀ w (n : Int) sa sl sc, (Instr.build TE #[(0, .int .i64 n), (1, .slice sa sl sc)]).run P w = .ok (entV n (.slice sa sl sc)) w
 bS1 : ∀ w (a : Int), (Instr.buildSlice TS 1 #[(0, .int .i64 a)]).run P w = .ok (.slice (some ⟨w.heap.size, 0, none⟩) 1 1) (w.alloc (.cells #[.int .i64 a] TI))
 bS2 : ∀ w (a b : Int), (Instr.buildSlice TS 2 #[(0, .int .i64 a), (1, .int .i64 b)]).run P w = .ok (.slice (some ⟨w.heap.size, 0, none⟩) 2 2) (w.alloc (.cells #[.int .i64 a, .int .i64 b] TI))
 bS3 : ∀ w (a b c : Int), (Instr.buildSlice TS 3 #[(0, .int .i64 a), (1, .int .i64 b), (2, .int .i64 c)]).run P w = .ok (.slice (some ⟨w.heap.size, 0, none⟩) 3 3) (w.alloc (.cells #[.int .i64 a, .int .i64 b, .int .i64 c] TI))
 zE : ∀ w, (zeroValue TE).run P w = .ok (entV 0 (.slice none 0 0)) w
def ci (n : Int) : Operand := .const (.int .i64 n)
def parts (xs : List Int) : Array (Nat × Operand) := (xs.zipIdx.map fun p => (p.2, ci p.1)).toArray
def genE (TM TK TE TS m t : Nat) : Row -> List (Option Tmp × Op × Option (Nat × Bool))
 | (s, e, n, []) => [(some t, .build TK #[(0, ci s), (1, ci e)], none), (some (t + 1), .build TE #[(0, ci n), (1, .const (.slice none 0 0))], none), (none, .insert TM (.tmp m) (.tmp t) (.tmp (t + 1)), none)]
 | (s, e, n, x :: xs) => [(some t, .build TK #[(0, ci s), (1, ci e)], none), (some (t + 1), .buildSlice TS (x :: xs).length (parts (x :: xs)), none), (some (t + 2), .build TE #[(0, ci n), (1, .tmp (t + 1))], none), (none, .insert TM (.tmp m) (.tmp t) (.tmp (t + 2)), none)]
def wid : Row -> Nat
 | (_, _, _, []) => 2
 | _ => 3
def gen (TM TK TE TS m : Nat) : Nat -> List Row -> List (Option Tmp × Op × Option (Nat × Bool))
 | _, [] => []
 | t, r :: l => genE TM TK TE TS m t r ++ gen TM TK TE TS m (t + wid r) l
def endT : Nat -> List Row -> Nat
 | t, [] => t
 | t, r :: l => endT (t + wid r) l
def proj (o : Oper) : Option Tmp × Op × Option (Nat × Bool) := (o.dst, o.op, o.guard)
section
variable {P : Program} {ops : Array Oper} {Q : Exit -> Act -> World -> Prop} {rest : List Oper} {o : Oper} {a : Act} {w w' : World}
theorem step_val {v : Value} (hg : o.guard = none) (hr : (execOp a.eval o).run P w = .ok (.value v) w') (h : wpList P ops Q rest (a.put o.dst v) w') : wpList P ops Q (o :: rest) a w := by
 refine wpList_plain hg fun K hK => ?_; unfold Oper.wp; rw [hr]; exact hK _ _ h
theorem step_skip (hg : o.guard = none) (hr : (execOp a.eval o).run P w = .ok .skip w') (h : wpList P ops Q rest (a.put o.dst undef) w') : wpList P ops Q (o :: rest) a w := by
 refine wpList_plain hg fun K hK => ?_; unfold Oper.wp; rw [hr]; exact hK _ _ h
variable {TM TK TE TS TI : TypeId} {B b : Nat} {f : Tab}
end
end Go.Tg
namespace Go.Tg
open Go Go.RowKit Go.Maps
end Go.Tg
namespace Go.Tg
open Go Go.RowKit Go.Maps Go.MapKept
open Go.ChangeMaps (setBlock)
section
variable {P : Program} (w : World) {ops : Array Oper} {rest : List Oper} {o : Oper} {a : Act} {Q : Exit -> Act -> World -> Prop}
theorem wpl_range (hg : o.guard = none) (x : Operand) (T K E : TypeId) (hop : o.op = .range T x) (ht : P.underlying T = some (.map K E)) (b : Nat) (m : Value -> Option Value)
 (hx : a.eval x = .map (some b)) (h : MapAt P K w b m)
 (hK : ∀ w' n, IterAt P K w' w.heap.size b m (fun k => (m k).isSome) n -> Keep (fun _ => False) w w' -> w'.heap.size = w.heap.size + 1 -> wpList P ops Q rest (a.put o.dst (.pointer (some ⟨w.heap.size, 0, none⟩))) w') :
 wpList P ops Q (o :: rest) a w := by
 obtain ⟨ob, hrun, n, hit⟩ := h.run_range ht; refine step_val (v := .pointer (some ⟨w.heap.size, 0, none⟩)) (w' := w.alloc ob) hg (by simp [execOp, hop, hx, hrun, Result.andThen]) (hK _ n hit ((Keep.refl _ _).alloc _) (by simp))
theorem wpl_next (hg : o.guard = none) (x : Operand) (hop : o.op = .next x false) (K : TypeId) (r b : Nat) (m : Value -> Option Value) (left : Value -> Prop) (n : Nat)
 (hx : a.eval x = .pointer (some ⟨r, 0, none⟩)) (h : IterAt P K w r b m left n)
 (hD : (∀ k, ¬ left k) -> wpList P ops Q rest (a.put o.dst (.tuple #[.bool false])) w)
 (hM : ∀ k v w' n', left k -> m k = some v -> Keep (· = r) w w' -> w'.heap.size = w.heap.size -> n' < n -> IterAt P K w' r b m (fun k' => left k' /\ k' ≠ k) n' ->
  (Instr.entry (.pointer (some ⟨r, 0, none⟩))).run P w' = .ok (.tuple #[k, v]) w' -> wpList P ops Q rest (a.put o.dst (.tuple #[.bool true, k, v])) w') :
 wpList P ops Q (o :: rest) a w := by
 rcases h.run_next o.type with ⟨h1, _, hrun⟩ | ⟨k, v, w', h1, h2, hrun, h3, h4, ⟨n', h5, h6⟩, h7⟩
 . exact step_val (v := .tuple #[.bool false]) (w' := w) hg (by simp [execOp, hop, hx, hrun, Result.andThen]) (hD h1)
 . exact step_val (v := .tuple #[.bool true, k, v]) (w' := w') hg (by simp [execOp, hop, hx, hrun, Result.andThen]) (hM k v w' n' h1 h2 h3 h4 h5 h6 h7)
end
theorem Keep.cell {S : Nat -> Prop} {w w' : World} (h : Keep S w w') {p : Addr} (hp : p.block < w.heap.size) (hs : ¬ S p.block) : w'.cell? p = w.cell? p := World.cell?_of_block (w := w) (h.block p.block hp hs)
end Go.Tg
namespace Go.Tg
open Go Go.RowKit
theorem belowN {B : Nat} {a w : World} (h : Below B a w) (n : Nat) : Below B a (w.drewN n) := ⟨h.os, h.tape, h.output, h.size, h.block⟩
end Go.Tg
namespace Go.Tg
open Go Go.RowKit
end Go.Tg
namespace Go.Tg
open Go Go.RowKit Go.Maps
open Go.ChangeMaps (setBlock)
end Go.Tg
namespace Go.Tg
open Go Go.RowKit Go.Maps
open Go.ChangeMaps (setBlock)
end Go.Tg
namespace Go.Tg
open Go Go.RowKit Go.Maps Go.MapKept
open Go.ChangeMaps (setBlock)
section
variable {P : Program} {ops : Array Oper} {Q : Exit -> Act -> World -> Prop}
def unl (n : Nat) (listed : Array Bool) : Nat := ((List.range n).filter fun i => !listed.getD i true).length
theorem unl_set {n : Nat} {listed : Array Bool} {i : Nat} (hi : i < n) (hl : listed.getD i true = false) : unl n (listed.setIfInBounds i true) < unl n listed := by
 have hsz : i < listed.size := by
  rcases Nat.lt_or_ge i listed.size with h | h
  . exact h
  . simp [Array.getElem?_eq_none h] at hl
 unfold unl
 have : (List.range n).filter (fun j => !(listed.setIfInBounds i true).getD j true) = ((List.range n).filter fun j => !listed.getD j true).filter (fun j => !(j == i)) := by
  rw [List.filter_filter]
  congr 1
  funext j
  by_cases hji : j = i
  . subst hji; simp [hsz]
  . rw [getD_set_ne true (Ne.symm hji)]; simp [hji]
 rw [this, List.length_filter_lt_length_iff_exists]; exact ⟨i, List.mem_filter.2 ⟨List.mem_range.2 hi, by simpa using hl⟩, by simp⟩
def mono (ops : Array Oper) : Bool := (List.range ops.size).all fun i => match ops[i]? with
 | some o => o.after.all fun e => decide (e.on < i)
 | none => true
theorem all_listed (hm : mono ops = true) {listed : Array Bool} (hs : listed.size = ops.size) (hr : Region.ready .any ops listed = []) : ∀ i, i < ops.size -> listed.getD i false = true := by
 intro i
 induction i using Nat.strongRecOn with
 | _ i ih =>
  intro hi
  cases hl : listed.getD i true with
  | true =>
   have : i < listed.size := by omega
   simp [this] at hl ⊢; exact hl
  | false =>
   exfalso
   have hmem : i ∈ Region.ready .any ops listed := by
    rw [mem_ready]; refine ⟨hl, ops[i], by simp [hi], fun e he _ => ?_⟩; have := List.all_eq_true.1 hm i (List.mem_range.2 hi); simp only [Array.getElem?_eq_getElem hi] at this; have h2 := Array.all_eq_true_iff_forall_mem.1 this e he; simp only [decide_eq_true_eq] at h2; exact ih e.on h2 (by omega)
   rw [hr] at hmem; cases hmem
def needs (ops : Array Oper) (i : Nat) (js : List Nat) : Bool :=
 match ops[i]? with
 | some o => js.all fun j => o.after.any fun e => e.on == j && Region.binds .any e
 | none => false
end
end Go.Tg
namespace Go.Tg
open Go Go.RowKit Go.Maps Go.MapKept
open Go.ChangeMaps (setBlock)
section
variable {P : Program} {ops : Array Oper} {Q : Exit -> Act -> World -> Prop} {TM TK TE TS TI : TypeId} {B : Nat}
def projAt (ops : Array Oper) (i : Nat) (x : Option Tmp × Op × Option (Nat × Bool)) : Prop := ∃ o, ops[i]? = some o /\ proj o = x
def AtOps (TM TK TE TS m : Nat) (ops : Array Oper) : Nat -> Nat -> List Row -> Prop
 | _, _, [] => True
 | p, t, r :: l => (∀ j x, (genE TM TK TE TS m t r)[j]? = some x -> projAt ops (p + j) x) /\ AtOps TM TK TE TS m ops (p + wid r + 1) (t + wid r) l
def edges (ops : Array Oper) : Nat -> List Row -> Bool
 | _, [] => true
 | p, (_, _, _, []) :: l => needs ops (p + 2) [0, p, p + 1] && edges ops (p + 3) l
 | p, (_, _, _, _ :: _) :: l => needs ops (p + 2) [p + 1] && needs ops (p + 3) [0, p, p + 2] && edges ops (p + 4) l
def endP : Nat -> List Row -> Nat
 | p, [] => p
 | p, r :: l => endP (p + wid r + 1) l
def rowInv (TI : TypeId) (B : Nat) (ls : Nat -> Bool) (a : Act) (w : World) (p t : Nat) : Row -> Prop
 | (s, e, n, []) => (ls p = true -> a.eval (.tmp t) = keyV s e) /\ (ls (p + 1) = true -> a.eval (.tmp (t + 1)) = entV n (.slice none 0 0))
 | (s, e, n, x :: xs) => (ls p = true -> a.eval (.tmp t) = keyV s e) /\ (ls (p + 1) = true -> IntsAt TI B w (a.eval (.tmp (t + 1))) (x :: xs)) /\
  (ls (p + 2) = true -> ∃ sv, a.eval (.tmp (t + 2)) = entV n sv /\ IntsAt TI B w sv (x :: xs))
def lsOf (listed : Array Bool) (j : Nat) : Bool := listed.getD j false
def RInv (TI : TypeId) (B : Nat) (ls : Nat -> Bool) (a : Act) (w : World) : Nat -> Nat -> List Row -> Prop
 | _, _, [] => True
 | p, t, r :: l => rowInv TI B ls a w p t r /\ RInv TI B ls a w (p + wid r + 1) (t + wid r) l
def fT (ls : Nat -> Bool) : Nat -> List Row -> Tab
 | _, [] => fun _ _ => none
 | p, r :: l => bif ls (p + wid r) then (fT ls (p + wid r + 1) l).put r else fT ls (p + wid r + 1) l
def MInv (P : Program) (TK TI : TypeId) (B : Nat) (ls : Nat -> Bool) (a : Act) (w : World) (f : Tab) : Prop :=
 ls 0 = true -> ∃ b, B <= b /\ a.eval (.tmp 1) = .map (some b) /\ TableAt P TK TI B w b f
def keyOfRow (r : Row) : Int × Int := (r.1, r.2.1)
structure Left (TI : TypeId) (B : Nat) (a : Act) (w : World) (t t' : Nat) (a' : Act) (w' : World) : Prop where
 defers : a'.defers = a.defers
 size : a'.tmps.size = a.tmps.size
 tmps : ∀ d, d < t \/ t' <= d -> a'.eval (.tmp d) = a.eval (.tmp d)
 ints : ∀ v xs, IntsAt TI B w v xs -> IntsAt TI B w' v xs
 below : Below B w w'
def lookupL (l : List Row) : Tab := l.foldr (fun r f => Tab.put f r) (fun _ _ => none)
end
end Go.Tg
