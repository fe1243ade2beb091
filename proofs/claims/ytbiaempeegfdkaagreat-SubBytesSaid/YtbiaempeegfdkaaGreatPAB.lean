import Derived.WalkKit
import Derived.WalkSpells
import Derived.WalkLawsBesides
import Derived.Lib.Hide
import Derived.Maps.Own
import Derived.Maps.OwnOps
import Derived.Maps.OwnSet
import Derived.Maps.RangeWalk
import Derived.Maps.RangeRun
import Derived.DeepKeys4
set_option linter.unusedVariables false
set_option linter.unusedSimpArgs false
set_option maxHeartbeats 16000000
namespace Go
theorem aA (a : Act) (d : Tmp) (v : Value) : a.put (some d) v = { a with tmps := a.tmps.setIfInBounds d v } := rfl
theorem aZ (l : List Value) (q) (d : Tmp) (v : Value) : Act.put { tmps := l.toArray, defers := q } (some d) v = { tmps := (l.set d v).toArray, defers := q } := by rw [aA]; simp only [List.setIfInBounds_toArray]
theorem aE (a : Act) (v : Value) : a.put none v = a := rfl
theorem aB {α : Type} (l : List α) (i : Nat) (a : α) : l.toArray.setIfInBounds i a = (l.set i a).toArray := List.setIfInBounds_toArray l i a
theorem aC {α : Type} (x a : α) (xs : List α) : (x :: xs).set 0 a = a :: xs := List.set_cons_zero
theorem aD {α : Type} (x a : α) (xs : List α) (n : Nat) : (x :: xs).set (n + 1) a = x :: xs.set n a := List.set_cons_succ
theorem aF {α : Type} (x : α) (xs : List α) (n : Nat) : (x :: xs).drop (n + 1) = xs.drop n := List.drop_succ_cons
theorem aG {α : Type} (xs : List α) : xs.drop 0 = xs := List.drop_zero
theorem H_ {p : Prop} (h : p) : RowKit.Hid p := Lib.hid h
theorem A_ {a b : Prop} (h : a) (k : b) : a /\ b := And.intro h k
end Go
namespace Go.Tg
open Go Go.RowKit Go.Maps Go.MapKept
open Go.ChangeMaps (setBlock)
def KV (P : Program) (K : TypeId) (v : Value) : Prop := ∃ l, keyOf P K v = some l
def MapAt (P : Program) (K : TypeId) (w : World) (b : Nat) (m : Value -> Option Value) : Prop :=
 ∃ es clock, w.heap[b]? = some (.map es clock) /\ Stamped es clock /\ (∀ e ∈ es.toList, KV P K e.key) /\
  (∀ k v, m k = some v ↔ ∃ e ∈ es.toList, e.key = k /\ e.val = v)
open Classical in
noncomputable def upd (m : Value -> Option Value) (k v : Value) : Value -> Option Value := fun k' => if k' = k then some v else m k'
theorem upd_same (m : Value -> Option Value) (k v : Value) : upd m k v k = some v := by simp [upd]
theorem upd_other (m : Value -> Option Value) {k k' : Value} (v : Value) (h : k' ≠ k) : upd m k v k' = m k' := by simp [upd, h]
variable {P : Program} {K E T : TypeId} {w : World} {b : Nat} {m : Value -> Option Value}
theorem MapAt.empty (w : World) : MapAt P K (w.alloc (.map #[] 0)) w.heap.size (fun _ => none) :=
 ⟨#[], 0, by show (w.heap.push _)[_]? = _; simp, stamped_empty 0, by simp, by simp⟩
theorem MapAt.find (Kd : Keyed P K) (h : MapAt P K w b m) {k : Value} (hk : KV P K k) :
 ∃ es clock, w.heap[b]? = some (.map es clock) /\ ∃ r : Option (Nat × Value), (Instr.findKey K k es.toList).run P w = .ok r w /\ r.map (·.2) = m k /\
  (∀ e ∈ es.toList, KV P K e.key) /\ Stamped es clock /\ (∀ i v, r = some (i, v) -> ∃ e, es[i]? = some e /\ e.key = k) /\ (r = none -> ∀ e ∈ es.toList, e.key ≠ k) := by
 obtain ⟨es, clock, hb, hs, hkeys, hm⟩ := h; obtain ⟨l, hl⟩ := hk; refine ⟨es, clock, hb, ?_⟩
 rcases Kd.find w hl es.toList hkeys with ⟨h1, h2⟩ | ⟨j, e, h1, h2, h3⟩
 . refine ⟨none, h1, ?_, hkeys, hs, by simp, fun _ => h2⟩
   cases hmk : m k with
   | none => rfl
   | some v =>
    obtain ⟨e, he, hek, _⟩ := (hm k v).1 hmk; exact absurd hek (h2 e he)
 . refine ⟨some (j, e.val), h1, ?_, hkeys, hs, ?_, by simp⟩
   . rw [(hm k e.val).2 ⟨e, List.mem_of_getElem? h2, h3, rfl⟩]; rfl
   . intro i v hiv; cases hiv
     exact ⟨e, by simpa using h2, h3⟩
theorem MapAt.run_lookup (Kd : Keyed P K) (ht : P.underlying T = some (.map K E)) (h : MapAt P K w b m) {k z : Value} (hk : KV P K k)
 (hz : (zeroValue E).run P w = .ok z w) (ok : Bool) :
 (Instr.lookup T (.map (some b)) k ok).run P w = .ok (if ok then .tuple #[(m k).getD z, .bool (m k).isSome] else (m k).getD z) w := by
 obtain ⟨es, clock, hb, r, hr, hrm, hkeys, hs, h1, h2⟩ := h.find Kd hk; obtain ⟨l, hl⟩ := hk; have hrm' := hrm.symm
 cases r with
 | none =>
  simp only [Option.map_none] at hrm'; simp [Instr.lookup, run_underlying ht, MapKept.run_getObj_map hb, Kd.check w es.isEmpty hl, hr, Result.andThen, hz, hrm']
 | some x =>
  obtain ⟨i, v⟩ := x; simp only [Option.map_some] at hrm'; simp [Instr.lookup, run_underlying ht, MapKept.run_getObj_map hb, Kd.check w es.isEmpty hl, hr, Result.andThen, hrm']
theorem MapAt.run_update (Kd : Keyed P K) (ht : P.underlying T = some (.map K E)) (h : MapAt P K w b m) {k : Value} (hk : KV P K k) (v : Value) :
 ∃ es' clock', (Instr.mapUpdate T (.map (some b)) k v).run P w = .ok () (setBlock w b (.map es' clock')) /\ MapAt P K (setBlock w b (.map es' clock')) b (upd m k v) := by
 have hsz : b < w.heap.size := by
  obtain ⟨es, clock, hb, _⟩ := h; exact (Array.getElem?_eq_some_iff.1 hb).1
 have hself : ∀ o, (setBlock w b o).heap[b]? = some o := fun o => by simp [setBlock, hsz]
 have hm := h; obtain ⟨es, clock, hb, r, hr, hrm, hkeys, hs, h1, h2⟩ := h.find Kd hk; obtain ⟨es0, clock0, hb0, hs0, hkeys0, hm⟩ := hm; rw [hb] at hb0; cases hb0
 obtain ⟨l, hl⟩ := hk
 cases r with
 | none =>
  have hne := h2 rfl; refine ⟨es.push ⟨k, v, clock⟩, clock + 1, ?_, _, _, hself _, stamped_push hs hne, ?_, ?_⟩
  . simp [Instr.mapUpdate, run_underlying ht, MapKept.run_getObj_map hb, Kd.check w false hl, hr, MapKept.run_setObj_map _ hb, Result.andThen, setBlock]
  . intro e he; simp only [Array.toList_push, List.mem_append, List.mem_singleton] at he
    rcases he with he | rfl
    . exact hkeys e he
    . exact ⟨l, hl⟩
  . intro k' v'; simp only [Array.toList_push, List.mem_append, List.mem_singleton]
    by_cases hkk : k' = k
    . subst hkk; rw [upd_same]
      constructor
      . intro h; cases h; exact ⟨_, Or.inr rfl, rfl, rfl⟩
      . rintro ⟨e, he | rfl, h3, h4⟩
        . exact absurd h3 (hne e he)
        . exact congrArg some h4
    . rw [upd_other _ _ hkk, hm]
      constructor
      . rintro ⟨e, he, h3, h4⟩; exact ⟨e, Or.inl he, h3, h4⟩
      . rintro ⟨e, he | rfl, h3, h4⟩
        . exact ⟨e, he, h3, h4⟩
        . exact absurd h3.symm hkk
 | some x =>
  obtain ⟨i, v0⟩ := x; obtain ⟨e0, he0, hek⟩ := h1 i v0 rfl; have hi : i < es.size := (Array.getElem?_eq_some_iff.1 he0).1; have he0' : es[i] = e0 := by simpa [hi] using he0
  have hlist : (es.modify i (fun e' => { e' with key := k, val := v })).toList = es.toList.set i { e0 with key := k, val := v } := by
   rw [Array.toList_modify, ChangeMaps.modify_eq_set _ _ _ e0 (by simpa using he0)]
  have hdist := ((stamped_iff es clock).1 hs).2.2
  have hother : ∀ (j : Nat) (e : MapEntry), es.toList[j]? = some e -> j ≠ i -> e.key ≠ k := by
   intro j e hj hne heq; have hj' : j < es.toList.length := (List.getElem?_eq_some_iff.1 hj).1; have hi' : i < es.toList.length := by simpa using hi
   have hje : es.toList[j] = e := by rw [List.getElem?_eq_getElem hj'] at hj; exact Option.some.inj hj
   have hie : es.toList[i] = e0 := by simpa using he0'
   rw [List.pairwise_iff_getElem] at hdist
   rcases Nat.lt_or_gt_of_ne hne with hlt | hlt
   . have := hdist j i hj' hi' hlt; rw [hje, hie, hek, heq] at this; exact this rfl
   . have := hdist i j hi' hj' hlt; rw [hje, hie, hek, heq] at this; exact this rfl
  refine ⟨es.modify i (fun e' => { e' with key := k, val := v }), clock, ?_, _, _, hself _, stamped_modify hs _ _ (fun _ _ => rfl) (fun e' _ he' => ?_), ?_, ?_⟩
  . simp [Instr.mapUpdate, run_underlying ht, MapKept.run_getObj_map hb, Kd.check w false hl, hr, he0, hek, Kd.stays w hl, MapKept.run_setObj_map _ hb, Result.andThen, setBlock]
  . rw [he0] at he'; cases he'; exact hek.symm
  . intro e he; rw [hlist] at he
    rcases List.mem_or_eq_of_mem_set he with he | rfl
    . exact hkeys e he
    . exact ⟨l, hl⟩
  . intro k' v'; rw [hlist]
    by_cases hkk : k' = k
    . subst hkk; rw [upd_same]
      constructor
      . intro h; cases h; exact ⟨_, List.mem_set (by simpa using hi) _, rfl, rfl⟩
      . rintro ⟨e, he, h3, h4⟩; obtain ⟨j, hj, hje⟩ := List.getElem_of_mem he; rw [List.getElem_set] at hje
        split at hje
        . subst hje; exact congrArg some h4
        . rename_i hne
          have hj' : j < es.toList.length := by simpa using hj
          exact absurd h3 (hother j e (by rw [List.getElem?_eq_getElem hj', hje]) (fun e1 => hne e1.symm))
    . rw [upd_other _ _ hkk, hm]
      constructor
      . rintro ⟨e, he, h3, h4⟩; obtain ⟨j, hj, hje⟩ := List.getElem_of_mem he
        have hji : i ≠ j := by
         intro e1; subst e1; have : e = e0 := by simpa [he0'] using hje.symm
         subst this; exact hkk (h3.symm.trans hek)
        exact ⟨e, List.mem_iff_getElem.2 ⟨j, by simpa using hj, by rw [List.getElem_set, if_neg hji]; exact hje⟩, h3, h4⟩
      . rintro ⟨e, he, h3, h4⟩
        rcases List.mem_or_eq_of_mem_set he with he | rfl
        . exact ⟨e, he, h3, h4⟩
        . exact absurd h3.symm hkk
end Go.Tg
namespace Go.Tg
open Go Go.RowKit Go.Maps Go.MapKept
open Go.ChangeMaps (setBlock)
structure Keep (S : Nat -> Prop) (w w' : World) : Prop where
 os : w'.os = w.os
 tape : w'.tape = w.tape
 output : w'.output = w.output
 size : w.heap.size <= w'.heap.size
 block : ∀ k, k < w.heap.size -> ¬ S k -> w'.heap[k]? = w.heap[k]?
theorem Keep.refl (S : Nat -> Prop) (w : World) : Keep S w w := ⟨rfl, rfl, rfl, Nat.le_refl _, fun _ _ _ => rfl⟩
theorem Keep.trans {S : Nat -> Prop} {a b c : World} (h : Keep S a b) (k : Keep S b c) : Keep S a c :=
 ⟨k.os.trans h.os, k.tape.trans h.tape, k.output.trans h.output, Nat.le_trans h.size k.size,
  fun i hi hs => (k.block i (Nat.lt_of_lt_of_le hi h.size) hs).trans (h.block i hi hs)⟩
theorem Keep.mono {S S' : Nat -> Prop} {a b : World} (h : Keep S a b) (hs : ∀ k, k < a.heap.size -> S k -> S' k) : Keep S' a b :=
 ⟨h.os, h.tape, h.output, h.size, fun i hi hn => h.block i hi (fun hsi => hn (hs i hi hsi))⟩
theorem Keep.transM {S S1 S2 : Nat -> Prop} {a b c : World} (h : Keep S1 a b) (k : Keep S2 b c) (h1 : ∀ i, i < a.heap.size -> S1 i -> S i)
 (h2 : ∀ i, i < a.heap.size -> S2 i -> S i) : Keep S a c :=
 ⟨k.os.trans h.os, k.tape.trans h.tape, k.output.trans h.output, Nat.le_trans h.size k.size,
  fun i hi hs => (k.block i (Nat.lt_of_lt_of_le hi h.size) (fun h' => hs (h2 i hi h'))).trans (h.block i hi (fun h' => hs (h1 i hi h')))⟩
theorem Keep.below {B : Nat} {S : Nat -> Prop} {w w' : World} (h : Keep S w w') (hB : B <= w.heap.size) (hs : ∀ k, k < B -> ¬ S k) : Below B w w' :=
 ⟨h.os, h.tape, h.output, h.size, fun k hk => h.block k (by omega) (hs k hk)⟩
theorem Keep.of_below {w w' : World} (S : Nat -> Prop) (h : Below w.heap.size w w') : Keep S w w' :=
 ⟨h.os, h.tape, h.output, h.size, fun k hk _ => h.block k hk⟩
theorem Keep.alloc {S : Nat -> Prop} {a w : World} (h : Keep S a w) (o : Obj) : Keep S a (w.alloc o) :=
 h.trans ⟨rfl, rfl, rfl, by simp, fun k hk _ => Below.heap_alloc _ _ _ hk⟩
theorem Keep.drew {S : Nat -> Prop} {a w : World} (h : Keep S a w) : Keep S a w.drew := ⟨h.os, h.tape, h.output, h.size, h.block⟩
theorem Keep.setCell {S : Nat -> Prop} {a w : World} (h : Keep S a w) (p : Addr) (hp : a.heap.size <= p.block \/ S p.block) (u : Value) : Keep S a (w.setCell p u) :=
 ⟨h.os, h.tape, h.output, by simpa [World.setCell] using h.size, fun k hk hs => by
  rw [Below.heap_setCell _ _ _ _ (by rintro rfl; rcases hp with hp | hp; omega; exact hs hp)]; exact h.block k hk hs⟩
theorem setBlock_other (w : World) (b k : Nat) (o : Obj) (h : k ≠ b) : (setBlock w b o).heap[k]? = w.heap[k]? := by
 simp only [setBlock]; rw [Array.getElem?_setIfInBounds_ne (by omega)]
theorem setBlock_self (w : World) (b : Nat) (o : Obj) (h : b < w.heap.size) : (setBlock w b o).heap[b]? = some o := by
 simp [setBlock, h]
theorem setBlock_size (w : World) (b : Nat) (o : Obj) : (setBlock w b o).heap.size = w.heap.size := by simp [setBlock]
theorem Keep.setBlock {S : Nat -> Prop} {a w : World} (h : Keep S a w) (b : Nat) (hb : a.heap.size <= b \/ S b) (o : Obj) : Keep S a (setBlock w b o) :=
 ⟨h.os, h.tape, h.output, by simpa [ChangeMaps.setBlock] using h.size, fun k hk hs => by
  rw [setBlock_other _ _ _ _ (by rintro rfl; rcases hb with hb | hb; omega; exact hs hb)]; exact h.block k hk hs⟩
section
variable {P : Program} {K E T : TypeId} {w : World} {b : Nat} {m : Value -> Option Value}
theorem MapAt.lt (h : MapAt P K w b m) : b < w.heap.size := by
 obtain ⟨es, clock, hb, _⟩ := h; exact (Array.getElem?_eq_some_iff.1 hb).1
theorem MapAt.same (h : MapAt P K w b m) {w' : World} (he : w'.heap[b]? = w.heap[b]?) : MapAt P K w' b m := by
 obtain ⟨es, clock, hb, r⟩ := h; exact ⟨es, clock, he.trans hb, r⟩
theorem MapAt.keep {S : Nat -> Prop} (h : MapAt P K w b m) {w' : World} (hk : Keep S w w') (hs : ¬ S b) : MapAt P K w' b m :=
 h.same (hk.block b h.lt hs)
theorem MapAt.kv (h : MapAt P K w b m) {k v : Value} (hk : m k = some v) : KV P K k := by
 obtain ⟨es, clock, hb, hs, hkeys, hm⟩ := h; obtain ⟨e, he, rfl, rfl⟩ := (hm k v).1 hk; exact hkeys e he
theorem MapAt.congr (h : MapAt P K w b m) {m' : Value -> Option Value} (hm : ∀ k, m' k = m k) : MapAt P K w b m' := by
 have : m' = m := funext hm; exact this ▸ h
def IterAt (P : Program) (K : TypeId) (w : World) (r b : Nat) (m : Value -> Option Value) (left : Value -> Prop) (n : Nat) : Prop :=
 ∃ es clock seen, w.heap[b]? = some (.map es clock) /\ Stamped es clock /\ (∀ e ∈ es.toList, KV P K e.key) /\
  (∀ k v, m k = some v ↔ ∃ e ∈ es.toList, e.key = k /\ e.val = v) /\ w.heap[r]? = some (.mapIter (some b) clock seen clock) /\
  (∀ k, left k ↔ ∃ e ∈ (leftOf es seen).toList, e.key = k) /\ (leftOf es seen).size = n
theorem IterAt.same {r : Nat} {left : Value -> Prop} {n : Nat} (h : IterAt P K w r b m left n) {w' : World} (hb : w'.heap[b]? = w.heap[b]?) (hr : w'.heap[r]? = w.heap[r]?) :
 IterAt P K w' r b m left n := by
 obtain ⟨es, clock, seen, h1, h2, h3, h4, h5, h6⟩ := h; exact ⟨es, clock, seen, hb.trans h1, h2, h3, h4, hr.trans h5, h6⟩
theorem IterAt.ltr {r : Nat} {left : Value -> Prop} {n : Nat} (h : IterAt P K w r b m left n) : r < w.heap.size := by
 obtain ⟨es, clock, seen, h1, h2, h3, h4, h5, h6⟩ := h; exact (Array.getElem?_eq_some_iff.1 h5).1
theorem MapAt.run_range (ht : P.underlying T = some (.map K E)) (h : MapAt P K w b m) :
 ∃ o, (Instr.range T (.map (some b))).run P w = .ok (.pointer (some ⟨w.heap.size, 0, none⟩)) (w.alloc o) /\
 ∃ n, IterAt P K (w.alloc o) w.heap.size b m (fun k => (m k).isSome) n := by
 have hlt := h.lt; obtain ⟨es, clock, hb, hs, hkeys, hm⟩ := h; refine ⟨.mapIter (some b) clock #[] clock, by simp [Instr.range, run_underlying ht, MapKept.run_getObj_map hb, Result.andThen, newObj, Sem.run], _, es, clock, #[], ?_, hs, hkeys, hm, ?_, ?_, rfl⟩
 . rw [Below.heap_alloc _ _ _ hlt]; exact hb
 . show (w.heap.push _)[_]? = _; simp
 . intro k
   show (m k).isSome = true ↔ _
   rw [Option.isSome_iff_exists]
   constructor
   . rintro ⟨v, hv⟩; obtain ⟨e, he, h1, _⟩ := (hm k v).1 hv; exact ⟨e, by simp [leftOf]; simpa using he, h1⟩
   . rintro ⟨e, he, h1⟩; exact ⟨e.val, (hm k _).2 ⟨e, by simp [leftOf] at he; simpa using he, h1, rfl⟩⟩
theorem IterAt.run_next {r : Nat} {left : Value -> Prop} {n : Nat} (h : IterAt P K w r b m left n) (ty : TypeId) :
 ((∀ k, ¬ left k) /\ n = 0 /\ (Instr.next (.pointer (some ⟨r, 0, none⟩)) false ty).run P w = .ok (.tuple #[.bool false]) w) \/
 ∃ k v w', left k /\ m k = some v /\ (Instr.next (.pointer (some ⟨r, 0, none⟩)) false ty).run P w = .ok (.tuple #[.bool true, k, v]) w' /\
  Keep (· = r) w w' /\ w'.heap.size = w.heap.size /\ (∃ n', n' < n /\ IterAt P K w' r b m (fun k' => left k' /\ k' ≠ k) n') /\
  (Instr.entry (.pointer (some ⟨r, 0, none⟩))).run P w' = .ok (.tuple #[k, v]) w' := by
 have hr := h.ltr; obtain ⟨es, clock, seen, hb, hs, hkeys, hm, hit, hl, hn⟩ := h; have hst := (stamped_iff es clock).1 hs; have hbr : b ≠ r := by rintro rfl; rw [hb] at hit; cases hit
 rcases run_next_at (P := P) w ty r b clock clock seen es clock hit hb hst.1 (Nat.le_refl _) with ⟨h0, hrun⟩ | ⟨e, he, w1, hw1, hrun⟩
 . left
   refine ⟨fun k hk => ?_, by omega, hrun⟩; obtain ⟨e, he, _⟩ := (hl k).1 hk; have : leftOf es seen = #[] := Array.eq_empty_of_size_eq_zero h0; rw [this] at he; simp at he
 . right
   have hees : e ∈ es.toList := by simp [leftOf] at he; simpa using he.1
   have hw1h : w1.heap = w.heap := by rcases hw1 with rfl | rfl <;> rfl
   have hk1 : Keep (· = r) w w1 := by rcases hw1 with rfl | rfl; exact Keep.refl _ _; exact (Keep.refl _ _).drew
   refine ⟨e.key, e.val, _, (hl _).2 ⟨e, he, rfl⟩, (hm _ _).2 ⟨e, hees, rfl, rfl⟩, hrun, hk1.setBlock r (Or.inr rfl) _, by rw [setBlock_size, hw1h], ?_, ?_⟩
   . have hb' : (ChangeMaps.setBlock w1 r (.mapIter (some b) clock (seen.push e.born) clock)).heap[b]? = some (.map es clock) := by
      rw [setBlock_other _ _ _ _ hbr, hw1h, hb]
     have hr' : (ChangeMaps.setBlock w1 r (.mapIter (some b) clock (seen.push e.born) clock)).heap[r]? = some (.mapIter (some b) clock (seen.push e.born) clock) :=
      setBlock_self _ _ _ (by rw [hw1h]; exact hr)
     refine ⟨_, ?_, es, clock, seen.push e.born, hb', hs, hkeys, hm, hr', ?_, rfl⟩
     . rw [<- hn]
       have hsub : leftOf es (seen.push e.born) = (leftOf es seen).filter (fun x => !(x.born == e.born)) := by
        unfold leftOf; rw [Array.filter_filter]
        congr 1
        funext x
        simp only [Array.contains_push, Bool.not_or, Bool.and_comm]
       rw [hsub]
       have hlt : ((leftOf es seen).filter (fun x => !(x.born == e.born))).size < (leftOf es seen).size := by
        generalize leftOf es seen = L at he
        show (L.filter (fun x => !(x.born == e.born))).toList.length < L.toList.length
        rw [Array.toList_filter, List.length_filter_lt_length_iff_exists]; exact ⟨e, he, by simp⟩
       exact hlt
     . intro k
       show left k /\ k ≠ e.key ↔ _
       rw [hl]
       constructor
       . rintro ⟨⟨x, hx, hxk⟩, hne⟩; refine ⟨x, ?_, hxk⟩; simp only [leftOf, Array.toList_filter, List.mem_filter, Array.contains_push, Bool.not_or, Bool.and_eq_true, Bool.not_eq_true'] at hx ⊢; refine ⟨hx.1, hx.2, ?_⟩; rw [beq_eq_false_iff_ne]; intro hborn; exact hne (by rw [<- hxk]; exact congrArg MapEntry.key (born_inj hst.2.1 hx.1 hees hborn))
       . rintro ⟨x, hx, hxk⟩; simp only [leftOf, Array.toList_filter, List.mem_filter, Array.contains_push, Bool.not_or, Bool.and_eq_true, Bool.not_eq_true'] at hx ⊢; refine ⟨⟨x, ⟨hx.1, hx.2.1⟩, hxk⟩, ?_⟩; rintro rfl; have := hx.2.2; rw [beq_eq_false_iff_ne] at this; exact this (congrArg MapEntry.born (key_inj hst.2.2 hx.1 hees hxk))
   . refine run_entry_at _ r b clock seen es clock e (setBlock_self _ _ _ (by rw [hw1h]; exact hr)) (by rw [setBlock_other _ _ _ _ hbr, hw1h, hb]) hees hst.2.1
where
 born_inj : ∀ {l : List MapEntry}, (l.map (·.born)).Nodup -> ∀ {x y : MapEntry}, x ∈ l -> y ∈ l -> x.born = y.born -> x = y := by
  intro l
  induction l with
  | nil => intro _ x y hx; cases hx
  | cons z r ih =>
   intro hd x y hx hy hxy; simp only [List.map_cons, List.nodup_cons, List.mem_map, not_exists, not_and] at hd
   rcases List.mem_cons.1 hx with rfl | hx' <;> rcases List.mem_cons.1 hy with rfl | hy'
   . rfl
   . exact absurd hxy.symm (hd.1 y hy')
   . exact absurd hxy (hd.1 x hx')
   . exact ih hd.2 hx' hy' hxy
 key_inj : ∀ {l : List MapEntry}, l.Pairwise (fun x y => x.key ≠ y.key) -> ∀ {x y : MapEntry}, x ∈ l -> y ∈ l -> x.key = y.key -> x = y := by
  intro l
  induction l with
  | nil => intro _ x y hx; cases hx
  | cons z r ih =>
   intro hd x y hx hy hxy; obtain ⟨h1, h2⟩ := List.pairwise_cons.1 hd
   rcases List.mem_cons.1 hx with rfl | hx' <;> rcases List.mem_cons.1 hy with rfl | hy'
   . rfl
   . exact absurd hxy (h1 y hy')
   . exact absurd hxy.symm (h1 x hx')
   . exact ih h2 hx' hy' hxy
end
end Go.Tg
namespace Go.Tg
open Go Go.RowKit Go.Maps Go.MapKept
open Go.ChangeMaps (setBlock)
def IntsAt (TI : TypeId) (B : Nat) (w : World) (v : Value) (xs : List Int) : Prop :=
 (xs = [] /\ v = .slice none 0 0) \/ ∃ b, B <= b /\ v = .slice (some ⟨b, 0, none⟩) xs.length xs.length /\ w.heap[b]? = some (.cells (xs.map (Value.int .i64)).toArray TI (0, 0))
theorem IntsAt.mono {TI : TypeId} {B B' : Nat} {w : World} {v : Value} {xs : List Int} (h : IntsAt TI B w v xs) (hB : B' <= B) : IntsAt TI B' w v xs := by
 rcases h with h | ⟨b, h1, h2, h3⟩
 . exact Or.inl h
 . exact Or.inr ⟨b, by omega, h2, h3⟩
theorem IntsAt.keep {TI : TypeId} {B : Nat} {w w' : World} {v : Value} {xs : List Int} {S : Nat -> Prop} (h : IntsAt TI B w v xs) (hk : Keep S w w')
 (hs : ∀ b o, B <= b -> S b -> w.heap[b]? = some o -> ∀ c t z, o ≠ .cells c t z) : IntsAt TI B w' v xs := by
 rcases h with h | ⟨b, h1, h2, h3⟩
 . exact Or.inl h
 . refine Or.inr ⟨b, h1, h2, ?_⟩; rw [hk.block b (Array.getElem?_eq_some_iff.1 h3).1 (fun hS => hs b _ h1 hS h3 _ _ _ rfl)]; exact h3
def keyV (s e : Int) : Value := .agg #[.int .i64 s, .int .i64 e]
def entV (n : Int) (sl : Value) : Value := .agg #[.int .i64 n, sl]
theorem keyV_inj {s e s' e' : Int} (h : keyV s e = keyV s' e') : s = s' /\ e = e' := by
 simp [keyV] at h; exact h
abbrev Row := Int × Int × Int × List Int
abbrev Tab := Int -> Int -> Option (Int × List Int)
def Tab.put (f : Tab) (r : Row) : Tab := fun s e => if s = r.1 /\ e = r.2.1 then some (r.2.2.1, r.2.2.2) else f s e
def TableAt (P : Program) (TK TI : TypeId) (B : Nat) (w : World) (b : Nat) (f : Tab) : Prop :=
 ∃ mm, MapAt P TK w b mm /\ (∀ k v, mm k = some v -> ∃ s e n sl xs, k = keyV s e /\ f s e = some (n, xs) /\ v = entV n sl /\ IntsAt TI B w sl xs) /\
  (∀ s e n xs, f s e = some (n, xs) -> ∃ v, mm (keyV s e) = some v)
structure TabTypes (P : Program) (TM TK TE TS TI : TypeId) : Prop where
 keyed : Keyed P TK
 ht : P.underlying TM = some (.map TK TE)
 kv : ∀ a b : Int, (Lit.int .i64 a).wf = true -> (Lit.int .i64 b).wf = true -> KV P TK (keyV a b)
 bK : ∀ w (a b : Int), (Instr.build TK #[(0, .int .i64 a), (1, .int .i64 b)]).run P w = .ok (keyV a b) w
 bE : ∀ w (n : Int) sa sl sc, (Instr.build TE #[(0, .int .i64 n), (1, .slice sa sl sc)]).run P w = .ok (entV n (.slice sa sl sc)) w
 bS1 : ∀ w (a : Int), (Instr.buildSlice TS 1 #[(0, .int .i64 a)]).run P w = .ok (.slice (some ⟨w.heap.size, 0, none⟩) 1 1) (w.alloc (.cells #[.int .i64 a] TI))
 bS2 : ∀ w (a b : Int), (Instr.buildSlice TS 2 #[(0, .int .i64 a), (1, .int .i64 b)]).run P w = .ok (.slice (some ⟨w.heap.size, 0, none⟩) 2 2) (w.alloc (.cells #[.int .i64 a, .int .i64 b] TI))
 bS3 : ∀ w (a b c : Int), (Instr.buildSlice TS 3 #[(0, .int .i64 a), (1, .int .i64 b), (2, .int .i64 c)]).run P w = .ok (.slice (some ⟨w.heap.size, 0, none⟩) 3 3) (w.alloc (.cells #[.int .i64 a, .int .i64 b, .int .i64 c] TI))
 zE : ∀ w, (zeroValue TE).run P w = .ok (entV 0 (.slice none 0 0)) w
def ci (n : Int) : Operand := .const (.int .i64 n)
def parts (xs : List Int) : Array (Nat × Operand) := (xs.zipIdx.map fun p => (p.2, ci p.1)).toArray
def genE (TM TK TE TS m t : Nat) : Row -> List (Option Tmp × Op × Option (Nat × Bool))
 | (s, e, n, []) => [(some t, .build TK #[(0, ci s), (1, ci e)], none), (some (t + 1), .build TE #[(0, ci n), (1, .const (.slice none 0 0))], none), (none, .insert TM (.tmp m) (.tmp t) (.tmp (t + 1)), none)]
 | (s, e, n, x :: xs) => [(some t, .build TK #[(0, ci s), (1, ci e)], none), (some (t + 1), .buildSlice TS (x :: xs).length (parts (x :: xs)), none), (some (t + 2), .build TE #[(0, ci n), (1, .tmp (t + 1))], none), (none, .insert TM (.tmp m) (.tmp t) (.tmp (t + 2)), none)]
def wid : Row -> Nat
 | (_, _, _, []) => 2
 | _ => 3
def gen (TM TK TE TS m : Nat) : Nat -> List Row -> List (Option Tmp × Op × Option (Nat × Bool))
 | _, [] => []
 | t, r :: l => genE TM TK TE TS m t r ++ gen TM TK TE TS m (t + wid r) l
def endT : Nat -> List Row -> Nat
 | t, [] => t
 | t, r :: l => endT (t + wid r) l
def proj (o : Oper) : Option Tmp × Op × Option (Nat × Bool) := (o.dst, o.op, o.guard)
section
variable {P : Program} {ops : Array Oper} {Q : Exit -> Act -> World -> Prop} {rest : List Oper} {o : Oper} {a : Act} {w w' : World}
theorem step_val {v : Value} (hg : o.guard = none) (hr : (execOp a.eval o).run P w = .ok (.value v) w') (h : wpList P ops Q rest (a.put o.dst v) w') : wpList P ops Q (o :: rest) a w := by
 refine wpList_plain hg fun K hK => ?_; unfold Oper.wp; rw [hr]; exact hK _ _ h
theorem step_skip (hg : o.guard = none) (hr : (execOp a.eval o).run P w = .ok .skip w') (h : wpList P ops Q rest (a.put o.dst undef) w') : wpList P ops Q (o :: rest) a w := by
 refine wpList_plain hg fun K hK => ?_; unfold Oper.wp; rw [hr]; exact hK _ _ h
theorem put_eval_same {t : Nat} {v : Value} (h : t < a.tmps.size) : (a.put (some t) v).eval (.tmp t) = v := by
 simp [Act.put, Act.eval, h]
theorem put_eval_ne {t t' : Nat} {v : Value} (h : t' ≠ t) : (a.put (some t) v).eval (.tmp t') = a.eval (.tmp t') := by
 simp [Act.put, Act.eval, Array.getElem?_setIfInBounds_ne (Ne.symm h)]
theorem put_size {t : Option Tmp} {v : Value} : (a.put t v).tmps.size = a.tmps.size := by
 cases t <;> simp [Act.put]
variable {TM TK TE TS TI : TypeId} {B b : Nat} {f : Tab}
theorem TableAt.map_block (h : TableAt P TK TI B w b f) : ∃ es clock, w.heap[b]? = some (.map es clock) := by
 obtain ⟨mm, ⟨es, clock, hb, _⟩, _⟩ := h; exact ⟨es, clock, hb⟩
theorem IntsAt.keep_map {v : Value} {xs : List Int} (h : IntsAt TI B w v xs) {es clock} (hb : w.heap[b]? = some (.map es clock)) (hk : Keep (· = b) w w') : IntsAt TI B w' v xs :=
 h.keep hk (fun b' o _ hS ho c t z e => by subst hS; rw [hb] at ho; cases ho; cases e)
theorem TableAt.alloc (h : TableAt P TK TI B w b f) (o : Obj) : TableAt P TK TI B (w.alloc o) b f := by
 obtain ⟨es, clock, hb⟩ := h.map_block; obtain ⟨mm, h1, h2, h3⟩ := h; have hk : Keep (· = b) w (w.alloc o) := (Keep.refl _ _).alloc o; have hk0 : Keep (fun _ => False) w (w.alloc o) := (Keep.refl _ _).alloc o; refine ⟨mm, h1.keep hk0 (by simp), fun k v hkv => ?_, h3⟩; obtain ⟨s, e, n, sl, xs, e1, e2, e3, e4⟩ := h2 k v hkv; exact ⟨s, e, n, sl, xs, e1, e2, e3, e4.keep_map hb hk⟩
theorem TableAt.update (C : TabTypes P TM TK TE TS TI) (h : TableAt P TK TI B w b f) {s e n : Int} {sl : Value} {xs : List Int} (ws : (Lit.int .i64 s).wf = true) (we : (Lit.int .i64 e).wf = true) (hi : IntsAt TI B w sl xs) :
 ∃ w', (Instr.mapUpdate TM (.map (some b)) (keyV s e) (entV n sl)).run P w = .ok () w' /\ TableAt P TK TI B w' b (f.put (s, e, n, xs)) /\ Keep (· = b) w w' /\ w'.heap.size = w.heap.size := by
 obtain ⟨es, clock, hb⟩ := h.map_block; obtain ⟨mm, h1, h2, h3⟩ := h; obtain ⟨es', clock', hrun, hm⟩ := h1.run_update C.keyed C.ht (C.kv s e ws we) (entV n sl); have hk : Keep (· = b) w (setBlock w b (.map es' clock')) := (Keep.refl (· = b) w).setBlock b (Or.inr rfl) _; refine ⟨_, hrun, ⟨_, hm, ?_, ?_⟩, hk, setBlock_size _ _ _⟩
 . intro k v hkv
   by_cases hkk : k = keyV s e
   . subst hkk; rw [upd_same] at hkv; cases hkv
     exact ⟨s, e, n, sl, xs, rfl, by simp [Tab.put], rfl, hi.keep_map hb hk⟩
   . rw [upd_other _ _ hkk] at hkv; obtain ⟨s', e', n', sl', xs', e1, e2, e3, e4⟩ := h2 k v hkv; refine ⟨s', e', n', sl', xs', e1, ?_, e3, e4.keep_map hb hk⟩; simp only [Tab.put]; rw [if_neg]
     . exact e2
     . rintro ⟨rfl, rfl⟩; exact hkk e1
 . intro s' e' n' xs' hf
   by_cases hkk : keyV s' e' = keyV s e
   . exact ⟨_, by rw [hkk, upd_same]⟩
   . rw [upd_other _ _ hkk]; simp only [Tab.put] at hf; rw [if_neg] at hf
     . exact h3 _ _ _ _ hf
     . rintro ⟨rfl, rfl⟩; exact hkk rfl
end
end Go.Tg
namespace Go.Tg
open Go Go.RowKit Go.Maps
theorem IntsAt.below {TI : TypeId} {B : Nat} {w w' : World} {v : Value} {xs : List Int} (h : IntsAt TI B w v xs) (hk : Below w.heap.size w w') : IntsAt TI B w' v xs :=
 h.keep (Keep.of_below (fun _ => False) hk) (by simp)
theorem TableAt.below {P : Program} {TK TI : TypeId} {B b : Nat} {w w' : World} {f : Tab} (h : TableAt P TK TI B w b f) (hk : Below w.heap.size w w') : TableAt P TK TI B w' b f := by
 obtain ⟨mm, h1, h2, h3⟩ := h; refine ⟨mm, h1.keep (Keep.of_below (fun _ => False) hk) (by simp), fun k v hkv => ?_, h3⟩; obtain ⟨s, e, n, sl, xs, e1, e2, e3, e4⟩ := h2 k v hkv; exact ⟨s, e, n, sl, xs, e1, e2, e3, e4.below hk⟩
theorem TableAt.mono {P : Program} {TK TI : TypeId} {B B' b : Nat} {w : World} {f : Tab} (h : TableAt P TK TI B w b f) (hB : B' <= B) : TableAt P TK TI B' w b f := by
 obtain ⟨mm, h1, h2, h3⟩ := h; refine ⟨mm, h1, fun k v hkv => ?_, h3⟩; obtain ⟨s, e, n, sl, xs, e1, e2, e3, e4⟩ := h2 k v hkv; exact ⟨s, e, n, sl, xs, e1, e2, e3, e4.mono hB⟩
end Go.Tg
namespace Go.Tg
open Go Go.RowKit Go.Maps Go.MapKept
open Go.ChangeMaps (setBlock)
section
variable {P : Program} (w : World) {ops : Array Oper} {rest : List Oper} {o : Oper} {a : Act} {Q : Exit -> Act -> World -> Prop}
theorem wpl_range (hg : o.guard = none) (x : Operand) (T K E : TypeId) (hop : o.op = .range T x) (ht : P.underlying T = some (.map K E)) (b : Nat) (m : Value -> Option Value)
 (hx : a.eval x = .map (some b)) (h : MapAt P K w b m)
 (hK : ∀ w' n, IterAt P K w' w.heap.size b m (fun k => (m k).isSome) n -> Keep (fun _ => False) w w' -> w'.heap.size = w.heap.size + 1 -> wpList P ops Q rest (a.put o.dst (.pointer (some ⟨w.heap.size, 0, none⟩))) w') :
 wpList P ops Q (o :: rest) a w := by
 obtain ⟨ob, hrun, n, hit⟩ := h.run_range ht; refine step_val (v := .pointer (some ⟨w.heap.size, 0, none⟩)) (w' := w.alloc ob) hg (by simp [execOp, hop, hx, hrun, Result.andThen]) (hK _ n hit ((Keep.refl _ _).alloc _) (by simp))
theorem wpl_next (hg : o.guard = none) (x : Operand) (hop : o.op = .next x false) (K : TypeId) (r b : Nat) (m : Value -> Option Value) (left : Value -> Prop) (n : Nat)
 (hx : a.eval x = .pointer (some ⟨r, 0, none⟩)) (h : IterAt P K w r b m left n)
 (hD : (∀ k, ¬ left k) -> wpList P ops Q rest (a.put o.dst (.tuple #[.bool false])) w)
 (hM : ∀ k v w' n', left k -> m k = some v -> Keep (· = r) w w' -> w'.heap.size = w.heap.size -> n' < n -> IterAt P K w' r b m (fun k' => left k' /\ k' ≠ k) n' ->
  (Instr.entry (.pointer (some ⟨r, 0, none⟩))).run P w' = .ok (.tuple #[k, v]) w' -> wpList P ops Q rest (a.put o.dst (.tuple #[.bool true, k, v])) w') :
 wpList P ops Q (o :: rest) a w := by
 rcases h.run_next o.type with ⟨h1, _, hrun⟩ | ⟨k, v, w', h1, h2, hrun, h3, h4, ⟨n', h5, h6⟩, h7⟩
 . exact step_val (v := .tuple #[.bool false]) (w' := w) hg (by simp [execOp, hop, hx, hrun, Result.andThen]) (hD h1)
 . exact step_val (v := .tuple #[.bool true, k, v]) (w' := w') hg (by simp [execOp, hop, hx, hrun, Result.andThen]) (hM k v w' n' h1 h2 h3 h4 h5 h6 h7)
theorem wpl_update (hg : o.guard = none) (x k v : Operand) (T K E : TypeId) (hop : o.op = .mapUpdate T x k v) (Kd : Keyed P K) (ht : P.underlying T = some (.map K E)) (b : Nat) (m : Value -> Option Value)
 (hx : a.eval x = .map (some b)) (h : MapAt P K w b m) (kv vv : Value) (hk : a.eval k = kv) (hv : a.eval v = vv) (hkv : KV P K kv)
 (hK : ∀ w', MapAt P K w' b (upd m kv vv) -> Keep (· = b) w w' -> w'.heap.size = w.heap.size -> wpList P ops Q rest (a.put o.dst undef) w') :
 wpList P ops Q (o :: rest) a w := by
 subst hk hv; obtain ⟨es', clock', hrun, hm⟩ := h.run_update Kd ht hkv (a.eval v); refine step_skip hg (by simp [execOp, hop, hx, hrun, Result.andThen]) (hK _ hm ((Keep.refl (· = b) w).setBlock b (Or.inr rfl) _) (setBlock_size _ _ _))
theorem wpl_lookup (hg : o.guard = none) (x k : Operand) (T K E : TypeId) (ok : Bool) (hop : o.op = .lookup T x k ok) (Kd : Keyed P K) (ht : P.underlying T = some (.map K E)) (b : Nat) (m : Value -> Option Value)
 (hx : a.eval x = .map (some b)) (h : MapAt P K w b m) (kv z : Value) (hk : a.eval k = kv) (hkv : KV P K kv) (hz : (zeroValue E).run P w = .ok z w)
 (hK : wpList P ops Q rest (a.put o.dst (if ok then .tuple #[(m kv).getD z, .bool (m kv).isSome] else (m kv).getD z)) w) :
 wpList P ops Q (o :: rest) a w := by
 subst hk; exact step_val hg (by simp [execOp, hop, hx, h.run_lookup Kd ht hkv hz ok, Result.andThen]) hK
end
theorem Keep.cell {S : Nat -> Prop} {w w' : World} (h : Keep S w w') {p : Addr} (hp : p.block < w.heap.size) (hs : ¬ S p.block) : w'.cell? p = w.cell? p := World.cell?_of_block (w := w) (h.block p.block hp hs)
end Go.Tg
namespace Go.Tg
open Go Go.RowKit
theorem belowN {B : Nat} {a w : World} (h : Below B a w) (n : Nat) : Below B a (w.drewN n) := ⟨h.os, h.tape, h.output, h.size, h.block⟩
end Go.Tg
namespace Go.Tg
open Go Go.RowKit
theorem Keep.setB {b : Nat} {a w : World} (h : Keep (· = b) a w) (o : Nat) (u : Value) : Keep (· = b) a (w.setCell ⟨b, o, none⟩ u) := h.setCell ⟨b, o, none⟩ (Or.inr rfl) u
theorem IntsAt.block {TI : TypeId} {B bb n m : Nat} {w : World} {xs : List Int} (h : IntsAt TI B w (.slice (some ⟨bb, 0, none⟩) n m) xs) : w.heap[bb]? = some (.cells (xs.map (Value.int .i64)).toArray TI (0, 0)) /\ B <= bb := by
 rcases h with ⟨_, h⟩ | ⟨b, h1, h2, h3⟩
 . cases h
 . cases h2; exact ⟨h3, h1⟩
theorem IntsAt.setB {TI : TypeId} {B b : Nat} {w : World} {v : Value} {xs : List Int} (h : IntsAt TI B w v xs) (hb : b < B) (o : Nat) (u : Value) : IntsAt TI B (w.setCell ⟨b, o, none⟩ u) v xs :=
 h.keep ((Keep.refl (· = b) w).setB o u) (fun b' o hb' hS => by subst hS; omega)
end Go.Tg
namespace Go.Tg
open Go Go.RowKit Go.Maps
open Go.ChangeMaps (setBlock)
end Go.Tg
namespace Go.Tg
open Go Go.RowKit Go.Maps
open Go.ChangeMaps (setBlock)
end Go.Tg
namespace Go.Tg
open Go Go.RowKit Go.Maps Go.MapKept
open Go.ChangeMaps (setBlock)
section
variable {P : Program} {ops : Array Oper} {Q : Exit -> Act -> World -> Prop}
def unl (n : Nat) (listed : Array Bool) : Nat := ((List.range n).filter fun i => !listed.getD i true).length
theorem unl_set {n : Nat} {listed : Array Bool} {i : Nat} (hi : i < n) (hl : listed.getD i true = false) : unl n (listed.setIfInBounds i true) < unl n listed := by
 have hsz : i < listed.size := by
  rcases Nat.lt_or_ge i listed.size with h | h
  . exact h
  . simp [Array.getElem?_eq_none h] at hl
 unfold unl
 have : (List.range n).filter (fun j => !(listed.setIfInBounds i true).getD j true) = ((List.range n).filter fun j => !listed.getD j true).filter (fun j => !(j == i)) := by
  rw [List.filter_filter]
  congr 1
  funext j
  by_cases hji : j = i
  . subst hji; simp [hsz]
  . rw [getD_set_ne true (Ne.symm hji)]; simp [hji]
 rw [this, List.length_filter_lt_length_iff_exists]; exact ⟨i, List.mem_filter.2 ⟨List.mem_range.2 hi, by simpa using hl⟩, by simp⟩
def mono (ops : Array Oper) : Bool := (List.range ops.size).all fun i => match ops[i]? with
 | some o => o.after.all fun e => decide (e.on < i)
 | none => true
theorem all_listed (hm : mono ops = true) {listed : Array Bool} (hs : listed.size = ops.size) (hr : Region.ready .any ops listed = []) : ∀ i, i < ops.size -> listed.getD i false = true := by
 intro i
 induction i using Nat.strongRecOn with
 | _ i ih =>
  intro hi
  cases hl : listed.getD i true with
  | true =>
   have : i < listed.size := by omega
   simp [this] at hl ⊢; exact hl
  | false =>
   exfalso
   have hmem : i ∈ Region.ready .any ops listed := by
    rw [mem_ready]; refine ⟨hl, ops[i], by simp [hi], fun e he _ => ?_⟩; have := List.all_eq_true.1 hm i (List.mem_range.2 hi); simp only [Array.getElem?_eq_getElem hi] at this; have h2 := Array.all_eq_true_iff_forall_mem.1 this e he; simp only [decide_eq_true_eq] at h2; exact ih e.on h2 (by omega)
   rw [hr] at hmem; cases hmem
theorem wpAny_inv (hm : mono ops = true) (I : Array Bool -> Act -> World -> Prop)
 (step : ∀ listed i a w, listed.size = ops.size -> I listed a w -> i ∈ Region.ready .any ops listed -> i < ops.size -> wpOp P ops Q i (I (listed.setIfInBounds i true)) a w)
 (fin : ∀ listed a w, I listed a w -> (∀ i, i < ops.size -> listed.getD i false = true) -> Q .normal a w) :
 ∀ (fuel : Nat) (listed : Array Bool) (a : Act) (w : World), listed.size = ops.size -> unl ops.size listed <= fuel -> I listed a w -> wpAny P .any ops Q fuel listed a w := by
 intro fuel
 induction fuel with
 | zero =>
  intro listed a w hs hu hI
  have hr : Region.ready .any ops listed = [] := by
   rw [List.eq_nil_iff_forall_not_mem]; intro i hi; obtain ⟨h0, o, ho, _⟩ := mem_ready.1 hi; have hlt := (Array.getElem?_eq_some_iff.1 ho).1; have := unl_set hlt h0; omega
  exact ⟨hr, fin listed a w hI (all_listed hm hs hr)⟩
 | succ fuel ih =>
  intro listed a w hs hu hI; refine ⟨fun hr => fin listed a w hI (all_listed hm hs hr), fun i hi => ?_⟩; obtain ⟨h0, o, ho, _⟩ := mem_ready.1 hi; have hlt := (Array.getElem?_eq_some_iff.1 ho).1; refine wpOp_mono (fun a' w' h => ih _ a' w' (by simpa using hs) ?_ h) (step listed i a w hs hI hi hlt); have := unl_set hlt h0; omega
theorem wp_region_inv {id : Nat} {a : Act} {w : World} (hf : P.follows .mixedOrders = true) (hm : mono ops = true) (I : Array Bool -> Act -> World -> Prop)
 (h0 : I (Array.replicate ops.size false) a w.drew)
 (step : ∀ listed i a w, listed.size = ops.size -> I listed a w -> i ∈ Region.ready .any ops listed -> i < ops.size -> wpOp P ops Q i (I (listed.setIfInBounds i true)) a w)
 (fin : ∀ listed a w, I listed a w -> (∀ i, i < ops.size -> listed.getD i false = true) -> Q .normal a w) : (Code.region id ops true).wp P Q a w := by
 refine wp_region_any hf (wpAny_inv hm I step fin _ _ _ _ (by simp) ?_ h0); unfold unl; exact Nat.le_trans (List.length_filter_le _ _) (by simp)
def needs (ops : Array Oper) (i : Nat) (js : List Nat) : Bool :=
 match ops[i]? with
 | some o => js.all fun j => o.after.any fun e => e.on == j && Region.binds .any e
 | none => false
theorem needs_ready {listed : Array Bool} {i : Nat} {js : List Nat} (h : needs ops i js = true) (hr : i ∈ Region.ready .any ops listed) : ∀ j ∈ js, listed.getD j false = true := by
 obtain ⟨_, o, ho, hall⟩ := mem_ready.1 hr; intro j hj; simp only [needs, ho] at h; have := List.all_eq_true.1 h j hj; obtain ⟨e, he, hb⟩ := Array.any_eq_true'.1 this; simp only [Bool.and_eq_true, beq_iff_eq] at hb; exact hb.1 ▸ hall e he hb.2
theorem op_val {i : Nat} {o : Oper} {K : Act -> World -> Prop} {a : Act} {w w' : World} {v : Value} (ho : ops[i]? = some o) (hg : o.guard = none)
 (hr : (execOp a.eval o).run P w = .ok (.value v) w') (h : K (a.put o.dst v) w') : wpOp P ops Q i K a w := by
 unfold wpOp; simp only [ho, Region.wanted, hg, if_true]
 left
 unfold Oper.wp; rw [hr]; exact h
theorem op_skip {i : Nat} {o : Oper} {K : Act -> World -> Prop} {a : Act} {w w' : World} (ho : ops[i]? = some o) (hg : o.guard = none)
 (hr : (execOp a.eval o).run P w = .ok .skip w') (h : K (a.put o.dst undef) w') : wpOp P ops Q i K a w := by
 unfold wpOp; simp only [ho, Region.wanted, hg, if_true]
 left
 unfold Oper.wp; rw [hr]; exact h
end
end Go.Tg
namespace Go.Tg
open Go Go.RowKit Go.Maps Go.MapKept
open Go.ChangeMaps (setBlock)
section
variable {P : Program} {ops : Array Oper} {Q : Exit -> Act -> World -> Prop} {TM TK TE TS TI : TypeId} {B : Nat}
def projAt (ops : Array Oper) (i : Nat) (x : Option Tmp × Op × Option (Nat × Bool)) : Prop := ∃ o, ops[i]? = some o /\ proj o = x
def AtOps (TM TK TE TS m : Nat) (ops : Array Oper) : Nat -> Nat -> List Row -> Prop
 | _, _, [] => True
 | p, t, r :: l => (∀ j x, (genE TM TK TE TS m t r)[j]? = some x -> projAt ops (p + j) x) /\ AtOps TM TK TE TS m ops (p + wid r + 1) (t + wid r) l
def edges (ops : Array Oper) : Nat -> List Row -> Bool
 | _, [] => true
 | p, (_, _, _, []) :: l => needs ops (p + 2) [0, p, p + 1] && edges ops (p + 3) l
 | p, (_, _, _, _ :: _) :: l => needs ops (p + 2) [p + 1] && needs ops (p + 3) [0, p, p + 2] && edges ops (p + 4) l
def endP : Nat -> List Row -> Nat
 | p, [] => p
 | p, r :: l => endP (p + wid r + 1) l
theorem genE_length (m t : Nat) (r : Row) : (genE TM TK TE TS m t r).length = wid r + 1 := by
 obtain ⟨s, e, n, xs⟩ := r; cases xs <;> rfl
theorem le_endP : ∀ (l : List Row) (p : Nat), p <= endP p l
 | [], p => Nat.le_refl _
 | r :: l, p => Nat.le_trans (by omega) (le_endP l (p + wid r + 1))
theorem le_endT : ∀ (l : List Row) (t : Nat), t <= endT t l
 | [], t => Nat.le_refl _
 | r :: l, t => Nat.le_trans (by omega) (le_endT l (t + wid r))
theorem atOps_of_map (m : Nat) : ∀ (l : List Row) (p t : Nat) (pre rest : List (Option Tmp × Op × Option (Nat × Bool))), pre.length = p ->
 ops.toList.map proj = pre ++ gen TM TK TE TS m t l ++ rest -> AtOps TM TK TE TS m ops p t l := by
 intro l
 induction l with
 | nil => intros; trivial
 | cons r l ih =>
  intro p t pre rest hp h; refine ⟨fun j x hj => ?_, ih _ _ (pre ++ genE TM TK TE TS m t r) rest (by rw [List.length_append, genE_length, hp]; omega) (by rw [h]; simp [gen])⟩; have hjl : j < (genE TM TK TE TS m t r).length := (List.getElem?_eq_some_iff.1 hj).1
  have h1 : (ops.toList.map proj)[p + j]? = some x := by
   rw [h, gen, List.append_assoc, List.getElem?_append_right (by omega), hp, Nat.add_sub_cancel_left, List.append_assoc, List.getElem?_append_left hjl, hj]
  rw [List.getElem?_map] at h1
  cases ho : ops.toList[p + j]? with
  | none => rw [ho] at h1; cases h1
  | some o => rw [ho] at h1; exact ⟨o, by simpa using ho, by simpa using h1⟩
def rowInv (TI : TypeId) (B : Nat) (ls : Nat -> Bool) (a : Act) (w : World) (p t : Nat) : Row -> Prop
 | (s, e, n, []) => (ls p = true -> a.eval (.tmp t) = keyV s e) /\ (ls (p + 1) = true -> a.eval (.tmp (t + 1)) = entV n (.slice none 0 0))
 | (s, e, n, x :: xs) => (ls p = true -> a.eval (.tmp t) = keyV s e) /\ (ls (p + 1) = true -> IntsAt TI B w (a.eval (.tmp (t + 1))) (x :: xs)) /\
  (ls (p + 2) = true -> ∃ sv, a.eval (.tmp (t + 2)) = entV n sv /\ IntsAt TI B w sv (x :: xs))
def lsOf (listed : Array Bool) (j : Nat) : Bool := listed.getD j false
theorem needs_ls {listed : Array Bool} {i : Nat} {js : List Nat} (h : needs ops i js = true) (hr : i ∈ Region.ready .any ops listed) : ∀ j ∈ js, lsOf listed j = true := needs_ready h hr
def RInv (TI : TypeId) (B : Nat) (ls : Nat -> Bool) (a : Act) (w : World) : Nat -> Nat -> List Row -> Prop
 | _, _, [] => True
 | p, t, r :: l => rowInv TI B ls a w p t r /\ RInv TI B ls a w (p + wid r + 1) (t + wid r) l
def fT (ls : Nat -> Bool) : Nat -> List Row -> Tab
 | _, [] => fun _ _ => none
 | p, r :: l => bif ls (p + wid r) then (fT ls (p + wid r + 1) l).put r else fT ls (p + wid r + 1) l
def MInv (P : Program) (TK TI : TypeId) (B : Nat) (ls : Nat -> Bool) (a : Act) (w : World) (f : Tab) : Prop :=
 ls 0 = true -> ∃ b, B <= b /\ a.eval (.tmp 1) = .map (some b) /\ TableAt P TK TI B w b f
theorem rowInv_frame {ls ls' : Nat -> Bool} {a a' : Act} {w w' : World} {p t : Nat} {r : Row} (h : rowInv TI B ls a w p t r) (hl : ∀ j, p <= j -> j < p + wid r + 1 -> ls' j = ls j)
 (he : ∀ d, t <= d -> d < t + wid r -> a'.eval (.tmp d) = a.eval (.tmp d)) (hi : ∀ v xs, IntsAt TI B w v xs -> IntsAt TI B w' v xs) : rowInv TI B ls' a' w' p t r := by
 obtain ⟨s, e, n, xs⟩ := r
 match xs with
 | [] =>
  simp only [wid] at hl he; obtain ⟨h1, h2⟩ := h; refine ⟨fun h => ?_, fun h => ?_⟩
  . rw [he t (by omega) (by omega)]; exact h1 (by rw [<- hl p (by omega) (by omega)]; exact h)
  . rw [he (t + 1) (by omega) (by omega)]; exact h2 (by rw [<- hl (p + 1) (by omega) (by omega)]; exact h)
 | x :: xs =>
  simp only [wid] at hl he; obtain ⟨h1, h2, h3⟩ := h; refine ⟨fun h => ?_, fun h => ?_, fun h => ?_⟩
  . rw [he t (by omega) (by omega)]; exact h1 (by rw [<- hl p (by omega) (by omega)]; exact h)
  . rw [he (t + 1) (by omega) (by omega)]; exact hi _ _ (h2 (by rw [<- hl (p + 1) (by omega) (by omega)]; exact h))
  . rw [he (t + 2) (by omega) (by omega)]; obtain ⟨sv, h4, h5⟩ := h3 (by rw [<- hl (p + 2) (by omega) (by omega)]; exact h); exact ⟨sv, h4, hi _ _ h5⟩
theorem RInv_frame {ls ls' : Nat -> Bool} {a a' : Act} {w w' : World} : ∀ {l : List Row} {p t : Nat}, RInv TI B ls a w p t l -> (∀ j, p <= j -> j < endP p l -> ls' j = ls j) ->
 (∀ d, t <= d -> d < endT t l -> a'.eval (.tmp d) = a.eval (.tmp d)) -> (∀ v xs, IntsAt TI B w v xs -> IntsAt TI B w' v xs) -> RInv TI B ls' a' w' p t l := by
 intro l
 induction l with
 | nil => intros; trivial
 | cons r l ih =>
  intro p t h hl he hi; simp only [endP, endT] at hl he; have h1 := le_endP l (p + wid r + 1); have h2 := le_endT l (t + wid r)
  exact ⟨rowInv_frame h.1 (fun j a b => hl j a (by omega)) (fun d a b => he d a (by omega)) hi,
   ih h.2 (fun j a b => hl j (by omega) b) (fun d a b => he d (by omega) b) hi⟩
theorem fT_frame {ls ls' : Nat -> Bool} : ∀ {l : List Row} {p : Nat}, (∀ j, p <= j -> j < endP p l -> ls' j = ls j) -> fT ls' p l = fT ls p l := by
 intro l
 induction l with
 | nil => intros; rfl
 | cons r l ih =>
  intro p hl; simp only [endP] at hl; have h1 := le_endP l (p + wid r + 1); simp only [fT]; rw [hl (p + wid r) (by omega) (by omega), ih (fun j a b => hl j (by omega) b)]
def keyOfRow (r : Row) : Int × Int := (r.1, r.2.1)
theorem put_comm (f : Tab) {r r' : Row} (h : keyOfRow r' ≠ keyOfRow r) : (f.put r').put r = (f.put r).put r' := by
 funext s e
 simp only [Tab.put]
 by_cases h1 : s = r.1 /\ e = r.2.1 <;> by_cases h2 : s = r'.1 /\ e = r'.2.1
 . exact absurd (by simp [keyOfRow, <- h1.1, <- h1.2, <- h2.1, <- h2.2]) h
 . rw [if_pos h1, if_neg h2, if_pos h1]
 . rw [if_neg h1, if_pos h2, if_pos h2]
 . rw [if_neg h1, if_neg h2, if_neg h2, if_neg h1]
structure Left (TI : TypeId) (B : Nat) (a : Act) (w : World) (t t' : Nat) (a' : Act) (w' : World) : Prop where
 defers : a'.defers = a.defers
 size : a'.tmps.size = a.tmps.size
 tmps : ∀ d, d < t \/ t' <= d -> a'.eval (.tmp d) = a.eval (.tmp d)
 ints : ∀ v xs, IntsAt TI B w v xs -> IntsAt TI B w' v xs
 below : Below B w w'
theorem Left.of_put {a : Act} {w : World} {t t' d : Nat} (v : Value) (h1 : t <= d) (h2 : d < t') : Left TI B a w t t' (a.put (some d) v) w :=
 ⟨rfl, put_size, fun d' hd => put_eval_ne (by omega), fun _ _ h => h, Below.refl _ _⟩
theorem row_step (C : TabTypes P TM TK TE TS TI) {listed : Array Bool} {i : Nat} {K : Act -> World -> Prop} {a : Act} {w : World} {f : Tab}
 (hr : i ∈ Region.ready .any ops listed) (hsz : listed.size = ops.size) (hio : i < ops.size) (h0i : 0 < i) (hB : B <= w.heap.size)
 (hM : MInv P TK TI B (lsOf listed) a w f) :
 ∀ (l : List Row) (p t : Nat), AtOps TM TK TE TS 1 ops p t l -> edges ops p l = true -> p <= i -> i < endP p l -> 1 < t -> endT t l <= a.tmps.size ->
 (∀ r ∈ l, (Lit.int .i64 r.1).wf = true /\ (Lit.int .i64 r.2.1).wf = true /\ r.2.2.2.length <= 3) -> (l.map keyOfRow).Nodup ->
 RInv TI B (lsOf listed) a w p t l ->
 (∀ a' w' f', Left TI B a w t (endT t l) a' w' -> RInv TI B (lsOf (listed.setIfInBounds i true)) a' w' p t l ->
  MInv P TK TI B (lsOf (listed.setIfInBounds i true)) a' w' f' ->
  (f' = f /\ fT (lsOf (listed.setIfInBounds i true)) p l = fT (lsOf listed) p l \/
   ∃ r ∈ l, f' = f.put r /\ fT (lsOf (listed.setIfInBounds i true)) p l = (fT (lsOf listed) p l).put r) -> K a' w') ->
 wpOp P ops Q i K a w := by
 have hset : ∀ j, j ≠ i -> lsOf (listed.setIfInBounds i true) j = lsOf listed j := fun j hj => getD_set_ne false (Ne.symm hj); have hset0 : lsOf (listed.setIfInBounds i true) 0 = lsOf listed 0 := hset 0 (by omega)
 have hil : lsOf listed i = false := by
  obtain ⟨h, _⟩ := mem_ready.1 hr; have : i < listed.size := by omega
  simp [lsOf, this] at h ⊢; exact h
 intro l
 induction l with
 | nil => intro p t _ _ h1 h2; simp [endP] at h2; omega
 | cons r l ih =>
  intro p t hAt hE hpi hip ht htz hw hnd hR hK; simp only [endP] at hip; simp only [endT] at htz hK
  by_cases hin : i < p + wid r + 1
  . -- the step is of this row
    clear ih; have hle := le_endT l (t + wid r)
    have hrest : ∀ a' w', Left TI B a w t (t + wid r) a' w' -> RInv TI B (lsOf (listed.setIfInBounds i true)) a' w' (p + wid r + 1) (t + wid r) l := fun a' w' hL =>
     RInv_frame hR.2 (fun j h1 h2 => hset j (by omega)) (fun d h1 h2 => hL.tmps d (by omega)) hL.ints
    have hwide : ∀ a' w', Left TI B a w t (t + wid r) a' w' -> Left TI B a w t (endT (t + wid r) l) a' w' := fun a' w' hL =>
     ⟨hL.defers, hL.size, fun d hd => hL.tmps d (by omega), hL.ints, hL.below⟩
    have hfl : ∀ ls ls' : Nat -> Bool, (∀ j, j ≠ i -> ls' j = ls j) -> fT ls' (p + wid r + 1) l = fT ls (p + wid r + 1) l := fun ls ls' h => fT_frame (fun j h1 h2 => h j (by omega))
    have hfsame : i ≠ p + wid r -> fT (lsOf (listed.setIfInBounds i true)) p (r :: l) = fT (lsOf listed) p (r :: l) := fun hne => by
     simp only [fT]; rw [hset _ (Ne.symm hne), hfl (lsOf listed) _ (fun j hj => hset j hj)]
    have hMsame : ∀ a' w', Left TI B a w t (t + wid r) a' w' -> (∀ b, TableAt P TK TI B w b f -> TableAt P TK TI B w' b f) ->
     MInv P TK TI B (lsOf (listed.setIfInBounds i true)) a' w' f := fun a' w' hL hT h => by
     obtain ⟨b, h1, h2, h3⟩ := hM (by rw [<- hset0]; exact h); exact ⟨b, h1, by rw [hL.tmps 1 (by omega)]; exact h2, hT b h3⟩
    obtain ⟨wr1, wr2, wr3⟩ := hw r (by simp); obtain ⟨hA1, _⟩ := hAt; obtain ⟨hr1, _⟩ := hR; obtain ⟨s, e, n, xs⟩ := r
    match xs, wr3 with
    | [], _ =>
     simp only [wid, edges, Bool.and_eq_true] at *; obtain ⟨hN, _⟩ := hE; obtain ⟨g1, g2⟩ := hr1; have hi3 : i = p \/ i = p + 1 \/ i = p + 2 := by omega
     rcases hi3 with rfl | rfl | rfl
     . obtain ⟨⟨d, op, ty, ps, af, gd⟩, ho, hpj⟩ := hA1 0 _ rfl; simp only [proj, Prod.mk.injEq] at hpj; obtain ⟨rfl, rfl, rfl⟩ := hpj; have hL : Left TI B a w t (t + 2) (a.put (some t) (keyV s e)) w := Left.of_put _ (by omega) (by omega); refine op_val (v := keyV s e) (w' := w) ho rfl (by simp [execOp, Act.eval, ci, C.bK, Result.andThen]) (hK _ _ f (hwide _ _ hL) ⟨⟨fun _ => put_eval_same (by omega), fun h => ?_⟩, hrest _ _ hL⟩ (hMsame _ _ hL (fun _ h => h)) (Or.inl ⟨rfl, hfsame (by omega)⟩)); rw [put_eval_ne (by omega)]; exact g2 (by rw [<- hset _ (by omega)]; exact h)
     . obtain ⟨⟨d, op, ty, ps, af, gd⟩, ho, hpj⟩ := hA1 1 _ rfl; simp only [proj, Prod.mk.injEq] at hpj; obtain ⟨rfl, rfl, rfl⟩ := hpj; have hL : Left TI B a w t (t + 2) (a.put (some (t + 1)) (entV n (.slice none 0 0))) w := Left.of_put _ (by omega) (by omega); refine op_val (v := entV n (.slice none 0 0)) (w' := w) ho rfl (by simp [execOp, Act.eval, ci, C.bE, Result.andThen]) (hK _ _ f (hwide _ _ hL) ⟨⟨fun h => ?_, fun _ => put_eval_same (by omega)⟩, hrest _ _ hL⟩ (hMsame _ _ hL (fun _ h => h)) (Or.inl ⟨rfl, hfsame (by omega)⟩)); rw [put_eval_ne (by omega)]; exact g1 (by rw [<- hset _ (by omega)]; exact h)
     . obtain ⟨⟨d, op, ty, ps, af, gd⟩, ho, hpj⟩ := hA1 2 _ rfl; simp only [proj, Prod.mk.injEq] at hpj; obtain ⟨rfl, rfl, rfl⟩ := hpj; have hls := needs_ls hN hr; have l0 := hls 0 (by simp); have l1 := hls p (by simp); have l2 := hls (p + 1) (by simp); obtain ⟨b, hb1, hb2, hb3⟩ := hM l0; have k1 := g1 l1; have k2 := g2 l2; obtain ⟨w1, hrun, ht1, hk1, _⟩ := hb3.update C (n := n) wr1 wr2 (Or.inl ⟨rfl, rfl⟩ : IntsAt TI B w (.slice none 0 0) []); obtain ⟨es, clock, hmb⟩ := hb3.map_block; have hL : Left TI B a w t (t + 2) (a.put none undef) w1 := ⟨rfl, rfl, fun _ _ => rfl, fun v xs h => h.keep_map hmb hk1, hk1.below hB (fun k hk => by omega)⟩; refine op_skip (w' := w1) ho rfl (by simp only [execOp, hb2, k1, k2]; rw [Sem.run_bind, hrun]; simp [Result.andThen]) (hK _ _ (f.put (s, e, n, [])) (hwide _ _ hL) ⟨⟨fun _ => k1, fun _ => k2⟩, hrest _ _ hL⟩ (fun _ => ⟨b, hb1, hb2, ht1⟩) (Or.inr ⟨_, by simp, rfl, ?_⟩)); simp only [fT, wid]; have : lsOf (listed.setIfInBounds (p + 2) true) (p + 2) = true := by simp [lsOf, show p + 2 < listed.size by omega]
       rw [this, hil, hfl (lsOf listed) _ (fun j hj => hset j hj)]; rfl
    | x :: xs, hlen =>
     simp only [wid, edges, Bool.and_eq_true] at *; obtain ⟨⟨hN1, hN2⟩, _⟩ := hE; obtain ⟨g1, g2, g3⟩ := hr1; have hi4 : i = p \/ i = p + 1 \/ i = p + 2 \/ i = p + 3 := by omega
     rcases hi4 with rfl | rfl | rfl | rfl
     . obtain ⟨⟨d, op, ty, ps, af, gd⟩, ho, hpj⟩ := hA1 0 _ rfl; simp only [proj, Prod.mk.injEq] at hpj; obtain ⟨rfl, rfl, rfl⟩ := hpj; have hL : Left TI B a w t (t + 3) (a.put (some t) (keyV s e)) w := Left.of_put _ (by omega) (by omega); refine op_val (v := keyV s e) (w' := w) ho rfl (by simp [execOp, Act.eval, ci, C.bK, Result.andThen]) (hK _ _ f (hwide _ _ hL) ⟨⟨fun _ => put_eval_same (by omega), fun h => ?_, fun h => ?_⟩, hrest _ _ hL⟩ (hMsame _ _ hL (fun _ h => h)) (Or.inl ⟨rfl, hfsame (by omega)⟩))
       . rw [put_eval_ne (by omega)]; exact g2 (by rw [<- hset _ (by omega)]; exact h)
       . rw [put_eval_ne (by omega)]; exact g3 (by rw [<- hset _ (by omega)]; exact h)
     . obtain ⟨⟨d, op, ty, ps, af, gd⟩, ho, hpj⟩ := hA1 1 _ rfl; simp only [proj, Prod.mk.injEq] at hpj; obtain ⟨rfl, rfl, rfl⟩ := hpj
       have hsl : (Instr.buildSlice TS (x :: xs).length ((parts (x :: xs)).map fun p => (p.1, a.eval p.2))).run P w =
        .ok (.slice (some ⟨w.heap.size, 0, none⟩) (x :: xs).length (x :: xs).length) (w.alloc (.cells ((x :: xs).map (Value.int .i64)).toArray TI)) := by
        match xs, hlen with
        | [], _ => simp [parts, Act.eval, ci, C.bS1]
        | [y], _ => simp [parts, Act.eval, ci, C.bS2]
        | [y, z], _ => simp [parts, Act.eval, ci, C.bS3]
       have hi : IntsAt TI B (w.alloc (.cells ((x :: xs).map (Value.int .i64)).toArray TI)) (.slice (some ⟨w.heap.size, 0, none⟩) (x :: xs).length (x :: xs).length) (x :: xs) :=
        Or.inr ⟨w.heap.size, hB, rfl, by show (w.heap.push _)[_]? = _; simp⟩
       have hkeep : Keep (fun _ => False) w (w.alloc (.cells ((x :: xs).map (Value.int .i64)).toArray TI)) := (Keep.refl _ _).alloc _
       have hL : Left TI B a w t (t + 3) (a.put (some (t + 1)) (.slice (some ⟨w.heap.size, 0, none⟩) (x :: xs).length (x :: xs).length)) (w.alloc (.cells ((x :: xs).map (Value.int .i64)).toArray TI)) :=
        ⟨rfl, put_size, fun d' hd => put_eval_ne (by omega), fun v xs h => h.keep hkeep (by simp), (Below.refl _ _).alloc hB _⟩
       refine op_val (v := .slice (some ⟨w.heap.size, 0, none⟩) (x :: xs).length (x :: xs).length) (w' := w.alloc (.cells ((x :: xs).map (Value.int .i64)).toArray TI)) ho rfl ?_
        (hK _ _ f (hwide _ _ hL) ⟨⟨fun h => ?_, fun h => ?_, fun h => ?_⟩, hrest _ _ hL⟩ (hMsame _ _ hL (fun _ h => h.alloc _)) (Or.inl ⟨rfl, hfsame (by omega)⟩))
       . simp only [execOp]; rw [Sem.run_bind]
         have : ((fun x => match x with | (i, x) => (i, a.eval x)) : Nat × Operand -> Nat × Value) = fun p => (p.1, a.eval p.2) := by
          funext p; rfl
         rw [this, hsl]; simp [Result.andThen]
       . rw [put_eval_ne (by omega)]; exact g1 (by rw [<- hset _ (by omega)]; exact h)
       . rw [put_eval_same (by omega)]; exact hi
       . rw [put_eval_ne (by omega)]; obtain ⟨sv, h4, h5⟩ := g3 (by rw [<- hset _ (by omega)]; exact h); exact ⟨sv, h4, h5.keep hkeep (by simp)⟩
     . obtain ⟨⟨d, op, ty, ps, af, gd⟩, ho, hpj⟩ := hA1 2 _ rfl; simp only [proj, Prod.mk.injEq] at hpj; obtain ⟨rfl, rfl, rfl⟩ := hpj; have hls := needs_ls hN1 hr; have l1 := g2 (hls (p + 1) (by simp)); generalize hsv : a.eval (.tmp (t + 1)) = sv at l1; have hL : Left TI B a w t (t + 3) (a.put (some (t + 2)) (entV n sv)) w := Left.of_put _ (by omega) (by omega); refine op_val (v := entV n sv) (w' := w) ho rfl ?_ (hK _ _ f (hwide _ _ hL) ⟨⟨fun h => ?_, fun h => ?_, fun h => ?_⟩, hrest _ _ hL⟩ (hMsame _ _ hL (fun _ h => h)) (Or.inl ⟨rfl, hfsame (by omega)⟩))
       . have h0 : a.eval (ci n) = .int .i64 n := rfl; simp only [execOp, List.map_toArray, List.map_cons, List.map_nil, hsv, h0]
         rcases l1 with ⟨h, _⟩ | ⟨b, _, rfl, _⟩
         . cases h
         . simp [C.bE, Result.andThen]
       . rw [put_eval_ne (by omega)]; exact g1 (by rw [<- hset _ (by omega)]; exact h)
       . rw [put_eval_ne (by omega), hsv]; exact l1
       . rw [put_eval_same (by omega)]; exact ⟨sv, rfl, l1⟩
     . obtain ⟨⟨d, op, ty, ps, af, gd⟩, ho, hpj⟩ := hA1 3 _ rfl; simp only [proj, Prod.mk.injEq] at hpj; obtain ⟨rfl, rfl, rfl⟩ := hpj; have hls := needs_ls hN2 hr; have l0 := hls 0 (by simp); have k1 := g1 (hls p (by simp)); obtain ⟨sv, k2, k3⟩ := g3 (hls (p + 2) (by simp)); obtain ⟨b, hb1, hb2, hb3⟩ := hM l0; obtain ⟨w1, hrun, ht1, hk1, _⟩ := hb3.update C (n := n) wr1 wr2 k3; obtain ⟨es, clock, hmb⟩ := hb3.map_block; have hL : Left TI B a w t (t + 3) (a.put none undef) w1 := ⟨rfl, rfl, fun _ _ => rfl, fun v xs h => h.keep_map hmb hk1, hk1.below hB (fun k hk => by omega)⟩; refine op_skip (w' := w1) ho rfl (by simp only [execOp, hb2, k1, k2]; rw [Sem.run_bind, hrun]; simp [Result.andThen]) (hK _ _ (f.put (s, e, n, x :: xs)) (hwide _ _ hL) ⟨⟨fun _ => k1, fun h => ?_, fun _ => ⟨sv, k2, k3.keep_map hmb hk1⟩⟩, hrest _ _ hL⟩ (fun _ => ⟨b, hb1, hb2, ht1⟩) (Or.inr ⟨_, by simp, rfl, ?_⟩))
       . exact (g2 (by rw [<- hset _ (by omega)]; exact h)).keep_map hmb hk1
       . simp only [fT, wid]; have : lsOf (listed.setIfInBounds (p + 3) true) (p + 3) = true := by simp [lsOf, show p + 3 < listed.size by omega]
         rw [this, hil, hfl (lsOf listed) _ (fun j hj => hset j hj)]; rfl
  . -- the step is of a later row
    have hE' : edges ops (p + wid r + 1) l = true := by
     obtain ⟨s, e, n, xs⟩ := r; cases xs <;> simp only [edges, Bool.and_eq_true] at hE <;> exact hE.2
    simp only [List.map_cons, List.nodup_cons] at hnd; refine ih (p + wid r + 1) (t + wid r) hAt.2 hE' (by omega) hip (by omega) htz (fun r' h' => hw r' (by simp [h'])) hnd.2 hR.2 (fun a' w' f' hL h1 h2 h3 => ?_)
    refine hK a' w' f' ⟨hL.defers, hL.size, fun d hd => hL.tmps d (by omega), hL.ints, hL.below⟩
     ⟨rowInv_frame hR.1 (fun j ha hb => hset j (by omega)) (fun d ha hb => hL.tmps d (by omega)) hL.ints, h1⟩ h2 ?_
    rcases h3 with ⟨h3, h4⟩ | ⟨r', hr', h3, h4⟩
    . refine Or.inl ⟨h3, ?_⟩; simp only [fT]; rw [hset _ (by omega), h4]
    . refine Or.inr ⟨r', by simp [hr'], h3, ?_⟩; simp only [fT]; rw [hset _ (by omega), h4]; have hne : keyOfRow r' ≠ keyOfRow r := fun e1 => hnd.1 (e1 ▸ List.mem_map_of_mem hr'); cases lsOf listed (p + wid r)
      . rfl
      . exact put_comm _ hne
def lookupL (l : List Row) : Tab := l.foldr (fun r f => Tab.put f r) (fun _ _ => none)
theorem fT_all {ls : Nat -> Bool} : ∀ (l : List Row) (p : Nat), (∀ j, j < endP p l -> ls j = true) -> fT ls p l = lookupL l := by
 intro l
 induction l with
 | nil => intros; rfl
 | cons r l ih =>
  intro p h; simp only [endP] at h; have h1 := le_endP l (p + wid r + 1); simp only [fT, lookupL, List.foldr_cons]; rw [h (p + wid r) (by omega), ih (p + wid r + 1) (fun j hj => h j hj)]; rfl
theorem RInv_none {a : Act} {w : World} : ∀ (l : List Row) (p t : Nat) (n : Nat), RInv TI B (lsOf (Array.replicate n false)) a w p t l := by
 have h0 : ∀ n j, lsOf (Array.replicate n false) j = false := fun n j => by
  simp only [lsOf, Array.getD_eq_getD_getElem?, Array.getElem?_replicate]
  split <;> rfl
 intro l
 induction l with
 | nil => intros; trivial
 | cons r l ih =>
  intro p t n; refine ⟨?_, ih _ _ n⟩; obtain ⟨s, e, m, xs⟩ := r; cases xs <;> simp [rowInv, h0]
theorem fT_none : ∀ (l : List Row) (p n : Nat), fT (lsOf (Array.replicate n false)) p l = fun _ _ => none := by
 have h0 : ∀ n j, lsOf (Array.replicate n false) j = false := fun n j => by
  simp only [lsOf, Array.getD_eq_getD_getElem?, Array.getElem?_replicate]
  split <;> rfl
 intro l
 induction l with
 | nil => intros; rfl
 | cons r l ih =>
  intro p n; simp only [fT, h0, ih]; rfl
theorem wp_lit (C : TabTypes P TM TK TE TS TI) {id : Nat} {a : Act} {w : World} (hf : P.follows .mixedOrders = true) (hm : mono ops = true) (l : List Row)
 (hproj : ops.toList.map proj = (some 1, .makeMap TM none, none) :: (gen TM TK TE TS 1 2 l ++ [(some (endT 2 l), .move (.tmp 1), none), (some 0, .assign (.tmp (endT 2 l)), none)]))
 (hedges : edges ops 1 l = true) (hl1 : needs ops (endP 1 l) [0] = true) (hl2 : needs ops (endP 1 l + 1) [endP 1 l] = true) (hops : ops.size = endP 1 l + 2)
 (hw : ∀ r ∈ l, (Lit.int .i64 r.1).wf = true /\ (Lit.int .i64 r.2.1).wf = true /\ r.2.2.2.length <= 3) (hnd : (l.map keyOfRow).Nodup)
 (hsz : endT 2 l < a.tmps.size)
 (h : ∀ a' w' b, a'.defers = a.defers -> a'.tmps.size = a.tmps.size -> a'.eval (.tmp 0) = .map (some b) -> w.heap.size <= b -> TableAt P TK TI w.heap.size w' b (lookupL l) -> Below w.heap.size w w' -> Q .normal a' w') :
 (Code.region id ops true).wp P Q a w := by
 have hAt : AtOps TM TK TE TS 1 ops 1 2 l := atOps_of_map 1 l 1 2 [(some 1, .makeMap TM none, none)] _ rfl (by rw [hproj, List.append_assoc]; rfl)
 have hget : ∀ i x, (ops.toList.map proj)[i]? = some x -> projAt ops i x := fun i x h1 => by
  rw [List.getElem?_map] at h1
  cases ho : ops.toList[i]? with
  | none => rw [ho] at h1; cases h1
  | some o => rw [ho] at h1; exact ⟨o, by simpa using ho, by simpa using h1⟩
 have hglen : ∀ (l : List Row) (p t : Nat), p + (gen TM TK TE TS 1 t l).length = endP p l := by
  intro l
  induction l with
  | nil => intro p t; rfl
  | cons r l ih =>
   intro p t; simp only [gen, endP, List.length_append, genE_length]; rw [<- ih (p + wid r + 1) (t + wid r)]; omega
 have h1p := le_endP l 1; have h2t := le_endT l 2; have hat0 : projAt ops 0 (some 1, .makeMap TM none, none) := hget 0 _ (by rw [hproj]; rfl)
 have hatE : projAt ops (endP 1 l) (some (endT 2 l), .move (.tmp 1), none) := hget _ _ (by
  rw [hproj, <- hglen l 1 2, Nat.add_comm, List.getElem?_cons_succ, List.getElem?_append_right (Nat.le_refl _), Nat.sub_self]; rfl)
 have hatF : projAt ops (endP 1 l + 1) (some 0, .assign (.tmp (endT 2 l)), none) := hget _ _ (by
  rw [hproj, <- hglen l 1 2, Nat.add_comm 1, List.getElem?_cons_succ, List.getElem?_append_right (by omega)]; have : (gen TM TK TE TS 1 2 l).length + 1 - (gen TM TK TE TS 1 2 l).length = 1 := by omega
  rw [this]; rfl)
 have hrep : ∀ j, lsOf (Array.replicate ops.size false) j = false := fun j => by
  simp only [lsOf, Array.getD_eq_getD_getElem?, Array.getElem?_replicate]
  split <;> rfl
 refine wp_region_inv (I := fun listed a' w' => a'.defers = a.defers /\ a'.tmps.size = a.tmps.size /\ Below w.heap.size w w' /\
  RInv TI w.heap.size (lsOf listed) a' w' 1 2 l /\ MInv P TK TI w.heap.size (lsOf listed) a' w' (fT (lsOf listed) 1 l) /\
  (lsOf listed 0 = false -> fT (lsOf listed) 1 l = fun _ _ => none) /\
  (lsOf listed (endP 1 l) = true -> lsOf listed 0 = true /\ a'.eval (.tmp (endT 2 l)) = a'.eval (.tmp 1)) /\
  (lsOf listed (endP 1 l + 1) = true -> lsOf listed 0 = true /\ a'.eval (.tmp 0) = a'.eval (.tmp 1))) hf hm ?_ ?_ ?_
 . refine ⟨rfl, rfl, (Below.refl _ _).drew, RInv_none l 1 2 _, ?_, fun _ => fT_none l 1 _, ?_, ?_⟩
   . intro h; simp only [hrep] at h; cases h
   . intro h; simp only [hrep] at h; cases h
   . intro h; simp only [hrep] at h; cases h
 . intro listed i a' w' hs hI hr hi; obtain ⟨i1, i2, i3, i4, i5, i6, i7, i8⟩ := hI; have hset : ∀ j, j ≠ i -> lsOf (listed.setIfInBounds i true) j = lsOf listed j := fun j hj => getD_set_ne false (Ne.symm hj); have hself : lsOf (listed.setIfInBounds i true) i = true := by simp [lsOf, show i < listed.size by omega]
   have hil : lsOf listed i = false := by
    obtain ⟨h, _⟩ := mem_ready.1 hr; have : i < listed.size := by omega
    simp [lsOf, this] at h ⊢; exact h
   have hwB : w.heap.size <= w'.heap.size := i3.size
   by_cases hi0 : i = 0
   . subst hi0; obtain ⟨⟨d, op, ty, ps, af, gd⟩, ho, hpj⟩ := hat0; simp only [proj, Prod.mk.injEq] at hpj; obtain ⟨rfl, rfl, rfl⟩ := hpj; have hkeep : Keep (fun _ => False) w' (w'.alloc (.map #[] 0)) := (Keep.refl _ _).alloc _
     have hfe : fT (lsOf (listed.setIfInBounds 0 true)) 1 l = fun _ _ => none := by
      rw [fT_frame (ls := lsOf listed) (fun j h1 h2 => hset j (by omega))]; exact i6 hil
     refine op_val (v := .map (some w'.heap.size)) (w' := w'.alloc (.map #[] 0)) ho rfl (by simp [execOp, run_makeMap, Result.andThen])
      ⟨i1, by rw [put_size]; exact i2, i3.alloc hwB _, ?_, ?_, ?_, ?_, ?_⟩
     . exact RInv_frame i4 (fun j h1 h2 => hset j (by omega)) (fun d h1 h2 => put_eval_ne (by omega)) (fun v xs h => h.keep hkeep (by simp))
     . intro _; refine ⟨w'.heap.size, hwB, put_eval_same (by omega), ?_⟩; rw [hfe]; exact ⟨_, MapAt.empty _, by simp, by simp⟩
     . intro h; rw [hself] at h; cases h
     . intro h; rw [hset _ (by omega)] at h; exact absurd (i7 h).1 (by rw [hil]; simp)
     . intro h; rw [hset _ (by omega)] at h; exact absurd (i8 h).1 (by rw [hil]; simp)
   . have hset0 := hset 0 (Ne.symm hi0)
     by_cases hin : i < endP 1 l
     . refine row_step C hr hs hi (by omega) hwB i5 l 1 2 hAt hedges (by omega) hin (by omega) (by omega) hw hnd i4 (fun a2 w2 f' hL h1 h2 h3 => ?_)
       have hff : f' = fT (lsOf (listed.setIfInBounds i true)) 1 l := by
        rcases h3 with ⟨h3, h4⟩ | ⟨r, _, h3, h4⟩
        . rw [h3, h4]
        . rw [h3, h4]
       refine ⟨hL.defers.trans i1, hL.size.trans i2, i3.trans hL.below, h1, hff ▸ h2, ?_, ?_, ?_⟩
       . intro h; rw [hset0] at h
         rcases h3 with ⟨h3, h4⟩ | ⟨r, hrl, h3, h4⟩
         . rw [h4]; exact i6 h
         . exfalso
           have key : (fT (lsOf (listed.setIfInBounds i true)) 1 l) r.1 r.2.1 = some (r.2.2.1, r.2.2.2) := by rw [h4]; simp [Tab.put]
           have hno : ∀ (l : List Row) (p : Nat), edges ops p l = true -> p <= i -> i < endP p l -> fT (lsOf (listed.setIfInBounds i true)) p l = fT (lsOf listed) p l := by
            intro l
            induction l with
            | nil => intros; rfl
            | cons r l ih =>
             intro p hE hp1 hp2; simp only [endP] at hp2
             have hend : i ≠ p + wid r := by
              rintro rfl; obtain ⟨s, e, n, xs⟩ := r
              cases xs with
              | nil =>
               simp only [edges, Bool.and_eq_true] at hE; have := needs_ls hE.1 hr 0 (by simp); rw [h] at this; cases this
              | cons x xs =>
               simp only [edges, Bool.and_eq_true] at hE; have := needs_ls hE.1.2 hr 0 (by simp); rw [h] at this; cases this
             have hE' : edges ops (p + wid r + 1) l = true := by
              obtain ⟨s, e, n, xs⟩ := r; cases xs <;> simp only [edges, Bool.and_eq_true] at hE <;> exact hE.2
             simp only [fT]; rw [hset _ (Ne.symm hend)]
             by_cases hc : p + wid r + 1 <= i
             . rw [ih _ hE' hc hp2]
             . rw [fT_frame (ls := lsOf listed) (fun j h1 h2 => hset j (by omega))]
           rw [hno l 1 hedges (by omega) hin, i6 h] at key; cases key
       . intro h; rw [hset _ (by omega)] at h; rw [hset0, hL.tmps _ (by omega), hL.tmps 1 (by omega)]; exact i7 h
       . intro h; rw [hset _ (by omega)] at h; rw [hset0, hL.tmps _ (by omega), hL.tmps 1 (by omega)]; exact i8 h
     . have hfe : fT (lsOf (listed.setIfInBounds i true)) 1 l = fT (lsOf listed) 1 l := fT_frame (fun j h1 h2 => hset j (by omega))
       by_cases hie : i = endP 1 l
       . subst hie; obtain ⟨⟨d, op, ty, ps, af, gd⟩, ho, hpj⟩ := hatE; simp only [proj, Prod.mk.injEq] at hpj; obtain ⟨rfl, rfl, rfl⟩ := hpj; have l0 := needs_ls hl1 hr 0 (by simp); refine op_val (v := a'.eval (.tmp 1)) (w' := w') ho rfl (by simp [execOp]) ⟨i1, by rw [put_size]; exact i2, i3, ?_, ?_, ?_, ?_, ?_⟩
         . exact RInv_frame i4 (fun j h1 h2 => hset j (by omega)) (fun d h1 h2 => put_eval_ne (by omega)) (fun v xs h => h)
         . intro h; rw [hfe]; obtain ⟨b, h1, h2, h3⟩ := i5 l0; exact ⟨b, h1, by rw [put_eval_ne (by omega)]; exact h2, h3⟩
         . intro h; rw [hfe]; exact i6 (by rw [<- hset0]; exact h)
         . intro _; rw [hset0, put_eval_same (by omega), put_eval_ne (by omega)]; exact ⟨l0, rfl⟩
         . intro h; rw [hset _ (by omega)] at h; rw [hset0, put_eval_ne (by omega), put_eval_ne (by omega)]; exact i8 h
       . have hif : i = endP 1 l + 1 := by omega
         subst hif; obtain ⟨⟨d, op, ty, ps, af, gd⟩, ho, hpj⟩ := hatF; simp only [proj, Prod.mk.injEq] at hpj; obtain ⟨rfl, rfl, rfl⟩ := hpj; have lE := needs_ls hl2 hr (endP 1 l) (by simp); obtain ⟨l0, hev⟩ := i7 lE; refine op_val (v := a'.eval (.tmp 1)) (w' := w') ho rfl (by simp [execOp, hev]) ⟨i1, by rw [put_size]; exact i2, i3, ?_, ?_, ?_, ?_, ?_⟩
         . exact RInv_frame i4 (fun j h1 h2 => hset j (by omega)) (fun d h1 h2 => put_eval_ne (by omega)) (fun v xs h => h)
         . intro h; rw [hfe]; obtain ⟨b, h1, h2, h3⟩ := i5 l0; exact ⟨b, h1, by rw [put_eval_ne (by omega)]; exact h2, h3⟩
         . intro h; rw [hfe]; exact i6 (by rw [<- hset0]; exact h)
         . intro h; rw [hset _ (by omega)] at h; rw [hset0, put_eval_ne (by omega), put_eval_ne (by omega)]; exact i7 h
         . intro _; rw [hset0, put_eval_same (by omega), put_eval_ne (by omega)]; exact ⟨l0, rfl⟩
 . intro listed a' w' hI hall; obtain ⟨i1, i2, i3, i4, i5, i6, i7, i8⟩ := hI; obtain ⟨b, h1, h2, h3⟩ := i5 (hall 0 (by omega)); obtain ⟨_, h4⟩ := i8 (hall _ (by omega)); rw [fT_all (ls := lsOf listed) l 1 (fun j hj => hall j (by omega))] at h3; exact h a' w' b i1 i2 (h4.trans h2) h1 h3 i3
end
end Go.Tg
