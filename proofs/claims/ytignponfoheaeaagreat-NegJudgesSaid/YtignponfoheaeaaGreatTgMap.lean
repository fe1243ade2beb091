import Derived.WalkKit
import Derived.WalkSpells
import Derived.WalkLawsBesides
import Derived.Lib.Hide
import Derived.Maps.Own
import Derived.Maps.OwnOps
import Derived.Maps.OwnSet
import Derived.Maps.RangeWalk
import Derived.Maps.RangeRun
import Derived.DeepKeys4
namespace Go.Tg
open Go Go.RowKit Go.Maps Go.MapKept
open Go.ChangeMaps (setBlock)

def KV (P : Program) (K : TypeId) (v : Value) : Prop := ∃ l, keyOf P K v = some l

def MapAt (P : Program) (K : TypeId) (w : World) (b : Nat) (m : Value → Option Value) : Prop :=
  ∃ es clock, w.heap[b]? = some (.map es clock) ∧ Stamped es clock ∧ (∀ e ∈ es.toList, KV P K e.key) ∧
    (∀ k v, m k = some v ↔ ∃ e ∈ es.toList, e.key = k ∧ e.val = v)

open Classical in
noncomputable def upd (m : Value → Option Value) (k v : Value) : Value → Option Value := fun k' => if k' = k then some v else m k'

theorem upd_same (m : Value → Option Value) (k v : Value) : upd m k v k = some v := by simp [upd]
theorem upd_other (m : Value → Option Value) {k k' : Value} (v : Value) (h : k' ≠ k) : upd m k v k' = m k' := by simp [upd, h]

variable {P : Program} {K E T : TypeId} {w : World} {b : Nat} {m : Value → Option Value}

theorem MapAt.empty (w : World) : MapAt P K (w.alloc (.map #[] 0)) w.heap.size (fun _ => none) :=
  ⟨#[], 0, by show (w.heap.push _)[_]? = _; simp, stamped_empty 0, by simp, by simp⟩

theorem MapAt.find (Kd : Keyed P K) (h : MapAt P K w b m) {k : Value} (hk : KV P K k) :
    ∃ es clock, w.heap[b]? = some (.map es clock) ∧ ∃ r : Option (Nat × Value), (Instr.findKey K k es.toList).run P w = .ok r w ∧ r.map (·.2) = m k ∧
      (∀ e ∈ es.toList, KV P K e.key) ∧ Stamped es clock ∧ (∀ i v, r = some (i, v) → ∃ e, es[i]? = some e ∧ e.key = k) ∧ (r = none → ∀ e ∈ es.toList, e.key ≠ k) := by
  obtain ⟨es, clock, hb, hs, hkeys, hm⟩ := h
  obtain ⟨l, hl⟩ := hk
  refine ⟨es, clock, hb, ?_⟩
  rcases Kd.find w hl es.toList hkeys with ⟨h1, h2⟩ | ⟨j, e, h1, h2, h3⟩
  · refine ⟨none, h1, ?_, hkeys, hs, by simp, fun _ => h2⟩
    cases hmk : m k with
    | none => rfl
    | some v =>
      obtain ⟨e, he, hek, _⟩ := (hm k v).1 hmk
      exact absurd hek (h2 e he)
  · refine ⟨some (j, e.val), h1, ?_, hkeys, hs, ?_, by simp⟩
    · rw [(hm k e.val).2 ⟨e, List.mem_of_getElem? h2, h3, rfl⟩]; rfl
    · intro i v hiv
      cases hiv
      exact ⟨e, by simpa using h2, h3⟩

theorem MapAt.run_lookup (Kd : Keyed P K) (ht : P.underlying T = some (.map K E)) (h : MapAt P K w b m) {k z : Value} (hk : KV P K k)
    (hz : (zeroValue E).run P w = .ok z w) (ok : Bool) :
    (Instr.lookup T (.map (some b)) k ok).run P w = .ok (if ok then .tuple #[(m k).getD z, .bool (m k).isSome] else (m k).getD z) w := by
  obtain ⟨es, clock, hb, r, hr, hrm, hkeys, hs, h1, h2⟩ := h.find Kd hk
  obtain ⟨l, hl⟩ := hk
  have hrm' := hrm.symm
  cases r with
  | none =>
    simp only [Option.map_none] at hrm'
    simp [Instr.lookup, run_underlying ht, MapKept.run_getObj_map hb, Kd.check w es.isEmpty hl, hr, Result.andThen, hz, hrm']
  | some x =>
    obtain ⟨i, v⟩ := x
    simp only [Option.map_some] at hrm'
    simp [Instr.lookup, run_underlying ht, MapKept.run_getObj_map hb, Kd.check w es.isEmpty hl, hr, Result.andThen, hrm']

theorem MapAt.run_update (Kd : Keyed P K) (ht : P.underlying T = some (.map K E)) (h : MapAt P K w b m) {k : Value} (hk : KV P K k) (v : Value) :
    ∃ es' clock', (Instr.mapUpdate T (.map (some b)) k v).run P w = .ok () (setBlock w b (.map es' clock')) ∧ MapAt P K (setBlock w b (.map es' clock')) b (upd m k v) := by
  have hsz : b < w.heap.size := by
    obtain ⟨es, clock, hb, _⟩ := h
    exact (Array.getElem?_eq_some_iff.1 hb).1
  have hself : ∀ o, (setBlock w b o).heap[b]? = some o := fun o => by simp [setBlock, hsz]
  have hm := h
  obtain ⟨es, clock, hb, r, hr, hrm, hkeys, hs, h1, h2⟩ := h.find Kd hk
  obtain ⟨es0, clock0, hb0, hs0, hkeys0, hm⟩ := hm
  rw [hb] at hb0
  cases hb0
  obtain ⟨l, hl⟩ := hk
  cases r with
  | none =>
    have hne := h2 rfl
    refine ⟨es.push ⟨k, v, clock⟩, clock + 1, ?_, _, _, hself _, stamped_push hs hne, ?_, ?_⟩
    · simp [Instr.mapUpdate, run_underlying ht, MapKept.run_getObj_map hb, Kd.check w false hl, hr, MapKept.run_setObj_map _ hb, Result.andThen, setBlock]
    · intro e he
      simp only [Array.toList_push, List.mem_append, List.mem_singleton] at he
      rcases he with he | rfl
      · exact hkeys e he
      · exact ⟨l, hl⟩
    · intro k' v'
      simp only [Array.toList_push, List.mem_append, List.mem_singleton]
      by_cases hkk : k' = k
      · subst hkk
        rw [upd_same]
        constructor
        · intro h; cases h; exact ⟨_, Or.inr rfl, rfl, rfl⟩
        · rintro ⟨e, he | rfl, h3, h4⟩
          · exact absurd h3 (hne e he)
          · exact congrArg some h4
      · rw [upd_other _ _ hkk, hm]
        constructor
        · rintro ⟨e, he, h3, h4⟩; exact ⟨e, Or.inl he, h3, h4⟩
        · rintro ⟨e, he | rfl, h3, h4⟩
          · exact ⟨e, he, h3, h4⟩
          · exact absurd h3.symm hkk
  | some x =>
    obtain ⟨i, v0⟩ := x
    obtain ⟨e0, he0, hek⟩ := h1 i v0 rfl
    have hi : i < es.size := (Array.getElem?_eq_some_iff.1 he0).1
    have he0' : es[i] = e0 := by simpa [hi] using he0
    have hlist : (es.modify i (fun e' => { e' with key := k, val := v })).toList = es.toList.set i { e0 with key := k, val := v } := by
      rw [Array.toList_modify, ChangeMaps.modify_eq_set _ _ _ e0 (by simpa using he0)]
    have hdist := ((stamped_iff es clock).1 hs).2.2
    have hother : ∀ (j : Nat) (e : MapEntry), es.toList[j]? = some e → j ≠ i → e.key ≠ k := by
      intro j e hj hne heq
      have hj' : j < es.toList.length := (List.getElem?_eq_some_iff.1 hj).1
      have hi' : i < es.toList.length := by simpa using hi
      have hje : es.toList[j] = e := by rw [List.getElem?_eq_getElem hj'] at hj; exact Option.some.inj hj
      have hie : es.toList[i] = e0 := by simpa using he0'
      rw [List.pairwise_iff_getElem] at hdist
      rcases Nat.lt_or_gt_of_ne hne with hlt | hlt
      · have := hdist j i hj' hi' hlt
        rw [hje, hie, hek, heq] at this
        exact this rfl
      · have := hdist i j hi' hj' hlt
        rw [hje, hie, hek, heq] at this
        exact this rfl
    refine ⟨es.modify i (fun e' => { e' with key := k, val := v }), clock, ?_, _, _, hself _, stamped_modify hs _ _ (fun _ _ => rfl) (fun e' _ he' => ?_), ?_, ?_⟩
    · simp [Instr.mapUpdate, run_underlying ht, MapKept.run_getObj_map hb, Kd.check w false hl, hr, he0, hek, Kd.stays w hl, MapKept.run_setObj_map _ hb, Result.andThen, setBlock]
    · rw [he0] at he'; cases he'; exact hek.symm
    · intro e he
      rw [hlist] at he
      rcases List.mem_or_eq_of_mem_set he with he | rfl
      · exact hkeys e he
      · exact ⟨l, hl⟩
    · intro k' v'
      rw [hlist]
      by_cases hkk : k' = k
      · subst hkk
        rw [upd_same]
        constructor
        · intro h; cases h; exact ⟨_, List.mem_set (by simpa using hi) _, rfl, rfl⟩
        · rintro ⟨e, he, h3, h4⟩
          obtain ⟨j, hj, hje⟩ := List.getElem_of_mem he
          rw [List.getElem_set] at hje
          split at hje
          · subst hje; exact congrArg some h4
          · rename_i hne
            have hj' : j < es.toList.length := by simpa using hj
            exact absurd h3 (hother j e (by rw [List.getElem?_eq_getElem hj', hje]) (fun e1 => hne e1.symm))
      · rw [upd_other _ _ hkk, hm]
        constructor
        · rintro ⟨e, he, h3, h4⟩
          obtain ⟨j, hj, hje⟩ := List.getElem_of_mem he
          have hji : i ≠ j := by
            intro e1; subst e1
            have : e = e0 := by simpa [he0'] using hje.symm
            subst this
            exact hkk (h3.symm.trans hek)
          exact ⟨e, List.mem_iff_getElem.2 ⟨j, by simpa using hj, by rw [List.getElem_set, if_neg hji]; exact hje⟩, h3, h4⟩
        · rintro ⟨e, he, h3, h4⟩
          rcases List.mem_or_eq_of_mem_set he with he | rfl
          · exact ⟨e, he, h3, h4⟩
          · exact absurd h3.symm hkk

end Go.Tg
