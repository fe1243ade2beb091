import Derived.Test.YtignponfoheaeaaGreatTgMap
namespace Go.Tg
open Go Go.RowKit Go.Maps Go.MapKept
open Go.ChangeMaps (setBlock)

/-- Between w and w' nothing has turned but the blocks of S and what is new. -/
structure Keep (S : Nat → Prop) (w w' : World) : Prop where
  os : w'.os = w.os
  tape : w'.tape = w.tape
  output : w'.output = w.output
  size : w.heap.size ≤ w'.heap.size
  block : ∀ k, k < w.heap.size → ¬ S k → w'.heap[k]? = w.heap[k]?

theorem Keep.refl (S : Nat → Prop) (w : World) : Keep S w w := ⟨rfl, rfl, rfl, Nat.le_refl _, fun _ _ _ => rfl⟩
theorem Keep.trans {S : Nat → Prop} {a b c : World} (h : Keep S a b) (k : Keep S b c) : Keep S a c :=
  ⟨k.os.trans h.os, k.tape.trans h.tape, k.output.trans h.output, Nat.le_trans h.size k.size,
    fun i hi hs => (k.block i (Nat.lt_of_lt_of_le hi h.size) hs).trans (h.block i hi hs)⟩
theorem Keep.mono {S S' : Nat → Prop} {a b : World} (h : Keep S a b) (hs : ∀ k, k < a.heap.size → S k → S' k) : Keep S' a b :=
  ⟨h.os, h.tape, h.output, h.size, fun i hi hn => h.block i hi (fun hsi => hn (hs i hi hsi))⟩
theorem Keep.transM {S S1 S2 : Nat → Prop} {a b c : World} (h : Keep S1 a b) (k : Keep S2 b c) (h1 : ∀ i, i < a.heap.size → S1 i → S i)
    (h2 : ∀ i, i < a.heap.size → S2 i → S i) : Keep S a c :=
  ⟨k.os.trans h.os, k.tape.trans h.tape, k.output.trans h.output, Nat.le_trans h.size k.size,
    fun i hi hs => (k.block i (Nat.lt_of_lt_of_le hi h.size) (fun h' => hs (h2 i hi h'))).trans (h.block i hi (fun h' => hs (h1 i hi h')))⟩
theorem Keep.below {B : Nat} {S : Nat → Prop} {w w' : World} (h : Keep S w w') (hB : B ≤ w.heap.size) (hs : ∀ k, k < B → ¬ S k) : Below B w w' :=
  ⟨h.os, h.tape, h.output, h.size, fun k hk => h.block k (by omega) (hs k hk)⟩
theorem Keep.of_below {w w' : World} (S : Nat → Prop) (h : Below w.heap.size w w') : Keep S w w' :=
  ⟨h.os, h.tape, h.output, h.size, fun k hk _ => h.block k hk⟩
theorem Keep.alloc {S : Nat → Prop} {a w : World} (h : Keep S a w) (o : Obj) : Keep S a (w.alloc o) :=
  h.trans ⟨rfl, rfl, rfl, by simp, fun k hk _ => Below.heap_alloc _ _ _ hk⟩
theorem Keep.drew {S : Nat → Prop} {a w : World} (h : Keep S a w) : Keep S a w.drew := ⟨h.os, h.tape, h.output, h.size, h.block⟩
theorem Keep.setCell {S : Nat → Prop} {a w : World} (h : Keep S a w) (p : Addr) (hp : a.heap.size ≤ p.block ∨ S p.block) (u : Value) : Keep S a (w.setCell p u) :=
  ⟨h.os, h.tape, h.output, by simpa [World.setCell] using h.size, fun k hk hs => by
    rw [Below.heap_setCell _ _ _ _ (by rintro rfl; rcases hp with hp | hp; omega; exact hs hp)]; exact h.block k hk hs⟩
theorem setBlock_other (w : World) (b k : Nat) (o : Obj) (h : k ≠ b) : (setBlock w b o).heap[k]? = w.heap[k]? := by
  simp only [setBlock]
  rw [Array.getElem?_setIfInBounds_ne (by omega)]
theorem setBlock_self (w : World) (b : Nat) (o : Obj) (h : b < w.heap.size) : (setBlock w b o).heap[b]? = some o := by
  simp [setBlock, h]
theorem setBlock_size (w : World) (b : Nat) (o : Obj) : (setBlock w b o).heap.size = w.heap.size := by simp [setBlock]
theorem Keep.setBlock {S : Nat → Prop} {a w : World} (h : Keep S a w) (b : Nat) (hb : a.heap.size ≤ b ∨ S b) (o : Obj) : Keep S a (setBlock w b o) :=
  ⟨h.os, h.tape, h.output, by simpa [ChangeMaps.setBlock] using h.size, fun k hk hs => by
    rw [setBlock_other _ _ _ _ (by rintro rfl; rcases hb with hb | hb; omega; exact hs hb)]; exact h.block k hk hs⟩

section
variable {P : Program} {K E T : TypeId} {w : World} {b : Nat} {m : Value → Option Value}

theorem MapAt.lt (h : MapAt P K w b m) : b < w.heap.size := by
  obtain ⟨es, clock, hb, _⟩ := h
  exact (Array.getElem?_eq_some_iff.1 hb).1
theorem MapAt.same (h : MapAt P K w b m) {w' : World} (he : w'.heap[b]? = w.heap[b]?) : MapAt P K w' b m := by
  obtain ⟨es, clock, hb, r⟩ := h
  exact ⟨es, clock, he.trans hb, r⟩
theorem MapAt.keep {S : Nat → Prop} (h : MapAt P K w b m) {w' : World} (hk : Keep S w w') (hs : ¬ S b) : MapAt P K w' b m :=
  h.same (hk.block b h.lt hs)
theorem MapAt.kv (h : MapAt P K w b m) {k v : Value} (hk : m k = some v) : KV P K k := by
  obtain ⟨es, clock, hb, hs, hkeys, hm⟩ := h
  obtain ⟨e, he, rfl, rfl⟩ := (hm k v).1 hk
  exact hkeys e he
theorem MapAt.congr (h : MapAt P K w b m) {m' : Value → Option Value} (hm : ∀ k, m' k = m k) : MapAt P K w b m' := by
  have : m' = m := funext hm
  exact this ▸ h

/-- An iterator in block r over the map in block b: which keys are still to come, and how many. -/
def IterAt (P : Program) (K : TypeId) (w : World) (r b : Nat) (m : Value → Option Value) (left : Value → Prop) (n : Nat) : Prop :=
  ∃ es clock seen, w.heap[b]? = some (.map es clock) ∧ Stamped es clock ∧ (∀ e ∈ es.toList, KV P K e.key) ∧
    (∀ k v, m k = some v ↔ ∃ e ∈ es.toList, e.key = k ∧ e.val = v) ∧ w.heap[r]? = some (.mapIter (some b) clock seen clock) ∧
    (∀ k, left k ↔ ∃ e ∈ (leftOf es seen).toList, e.key = k) ∧ (leftOf es seen).size = n

theorem IterAt.map {r : Nat} {left : Value → Prop} {n : Nat} (h : IterAt P K w r b m left n) : MapAt P K w b m := by
  obtain ⟨es, clock, seen, hb, hs, hk, hm, _⟩ := h
  exact ⟨es, clock, hb, hs, hk, hm⟩
theorem IterAt.same {r : Nat} {left : Value → Prop} {n : Nat} (h : IterAt P K w r b m left n) {w' : World} (hb : w'.heap[b]? = w.heap[b]?) (hr : w'.heap[r]? = w.heap[r]?) :
    IterAt P K w' r b m left n := by
  obtain ⟨es, clock, seen, h1, h2, h3, h4, h5, h6⟩ := h
  exact ⟨es, clock, seen, hb.trans h1, h2, h3, h4, hr.trans h5, h6⟩
theorem IterAt.ltr {r : Nat} {left : Value → Prop} {n : Nat} (h : IterAt P K w r b m left n) : r < w.heap.size := by
  obtain ⟨es, clock, seen, h1, h2, h3, h4, h5, h6⟩ := h
  exact (Array.getElem?_eq_some_iff.1 h5).1

theorem MapAt.run_range (ht : P.underlying T = some (.map K E)) (h : MapAt P K w b m) :
    ∃ o, (Instr.range T (.map (some b))).run P w = .ok (.pointer (some ⟨w.heap.size, 0, none⟩)) (w.alloc o) ∧
    ∃ n, IterAt P K (w.alloc o) w.heap.size b m (fun k => (m k).isSome) n := by
  have hlt := h.lt
  obtain ⟨es, clock, hb, hs, hkeys, hm⟩ := h
  refine ⟨.mapIter (some b) clock #[] clock, by simp [Instr.range, run_underlying ht, MapKept.run_getObj_map hb, Result.andThen, newObj, Sem.run], _, es, clock, #[], ?_, hs, hkeys, hm, ?_, ?_, rfl⟩
  · rw [Below.heap_alloc _ _ _ hlt]; exact hb
  · show (w.heap.push _)[_]? = _; simp
  · intro k
    show (m k).isSome = true ↔ _
    rw [Option.isSome_iff_exists]
    constructor
    · rintro ⟨v, hv⟩
      obtain ⟨e, he, h1, _⟩ := (hm k v).1 hv
      exact ⟨e, by simp [leftOf]; simpa using he, h1⟩
    · rintro ⟨e, he, h1⟩
      exact ⟨e.val, (hm k _).2 ⟨e, by simp [leftOf] at he; simpa using he, h1, rfl⟩⟩

theorem IterAt.run_next {r : Nat} {left : Value → Prop} {n : Nat} (h : IterAt P K w r b m left n) (ty : TypeId) :
    ((∀ k, ¬ left k) ∧ n = 0 ∧ (Instr.next (.pointer (some ⟨r, 0, none⟩)) false ty).run P w = .ok (.tuple #[.bool false]) w) ∨
    ∃ k v w', left k ∧ m k = some v ∧ (Instr.next (.pointer (some ⟨r, 0, none⟩)) false ty).run P w = .ok (.tuple #[.bool true, k, v]) w' ∧
      Keep (· = r) w w' ∧ w'.heap.size = w.heap.size ∧ (∃ n', n' < n ∧ IterAt P K w' r b m (fun k' => left k' ∧ k' ≠ k) n') ∧
      (Instr.entry (.pointer (some ⟨r, 0, none⟩))).run P w' = .ok (.tuple #[k, v]) w' := by
  have hr := h.ltr
  obtain ⟨es, clock, seen, hb, hs, hkeys, hm, hit, hl, hn⟩ := h
  have hst := (stamped_iff es clock).1 hs
  have hbr : b ≠ r := by rintro rfl; rw [hb] at hit; cases hit
  rcases run_next_at (P := P) w ty r b clock clock seen es clock hit hb hst.1 (Nat.le_refl _) with ⟨h0, hrun⟩ | ⟨e, he, w1, hw1, hrun⟩
  · left
    refine ⟨fun k hk => ?_, by omega, hrun⟩
    obtain ⟨e, he, _⟩ := (hl k).1 hk
    have : leftOf es seen = #[] := Array.eq_empty_of_size_eq_zero h0
    rw [this] at he
    simp at he
  · right
    have hees : e ∈ es.toList := by simp [leftOf] at he; simpa using he.1
    have hw1h : w1.heap = w.heap := by rcases hw1 with rfl | rfl <;> rfl
    have hk1 : Keep (· = r) w w1 := by rcases hw1 with rfl | rfl; exact Keep.refl _ _; exact (Keep.refl _ _).drew
    refine ⟨e.key, e.val, _, (hl _).2 ⟨e, he, rfl⟩, (hm _ _).2 ⟨e, hees, rfl, rfl⟩, hrun, hk1.setBlock r (Or.inr rfl) _, by rw [setBlock_size, hw1h], ?_, ?_⟩
    · have hb' : (ChangeMaps.setBlock w1 r (.mapIter (some b) clock (seen.push e.born) clock)).heap[b]? = some (.map es clock) := by
        rw [setBlock_other _ _ _ _ hbr, hw1h, hb]
      have hr' : (ChangeMaps.setBlock w1 r (.mapIter (some b) clock (seen.push e.born) clock)).heap[r]? = some (.mapIter (some b) clock (seen.push e.born) clock) :=
        setBlock_self _ _ _ (by rw [hw1h]; exact hr)
      refine ⟨_, ?_, es, clock, seen.push e.born, hb', hs, hkeys, hm, hr', ?_, rfl⟩
      · rw [← hn]
        have hsub : leftOf es (seen.push e.born) = (leftOf es seen).filter (fun x => !(x.born == e.born)) := by
          unfold leftOf
          rw [Array.filter_filter]
          congr 1
          funext x
          simp only [Array.contains_push, Bool.not_or, Bool.and_comm]
        rw [hsub]
        have hlt : ((leftOf es seen).filter (fun x => !(x.born == e.born))).size < (leftOf es seen).size := by
          generalize leftOf es seen = L at he
          show (L.filter (fun x => !(x.born == e.born))).toList.length < L.toList.length
          rw [Array.toList_filter, List.length_filter_lt_length_iff_exists]
          exact ⟨e, he, by simp⟩
        exact hlt
      · intro k
        show left k ∧ k ≠ e.key ↔ _
        rw [hl]
        constructor
        · rintro ⟨⟨x, hx, hxk⟩, hne⟩
          refine ⟨x, ?_, hxk⟩
          simp only [leftOf, Array.toList_filter, List.mem_filter, Array.contains_push, Bool.not_or, Bool.and_eq_true, Bool.not_eq_true'] at hx ⊢
          refine ⟨hx.1, hx.2, ?_⟩
          rw [beq_eq_false_iff_ne]
          intro hborn
          exact hne (by rw [← hxk]; exact congrArg MapEntry.key (born_inj hst.2.1 hx.1 hees hborn))
        · rintro ⟨x, hx, hxk⟩
          simp only [leftOf, Array.toList_filter, List.mem_filter, Array.contains_push, Bool.not_or, Bool.and_eq_true, Bool.not_eq_true'] at hx ⊢
          refine ⟨⟨x, ⟨hx.1, hx.2.1⟩, hxk⟩, ?_⟩
          rintro rfl
          have := hx.2.2
          rw [beq_eq_false_iff_ne] at this
          exact this (congrArg MapEntry.born (key_inj hst.2.2 hx.1 hees hxk))
    · refine run_entry_at _ r b clock seen es clock e (setBlock_self _ _ _ (by rw [hw1h]; exact hr)) (by rw [setBlock_other _ _ _ _ hbr, hw1h, hb]) hees hst.2.1
where
  born_inj : ∀ {l : List MapEntry}, (l.map (·.born)).Nodup → ∀ {x y : MapEntry}, x ∈ l → y ∈ l → x.born = y.born → x = y := by
    intro l
    induction l with
    | nil => intro _ x y hx; cases hx
    | cons z r ih =>
      intro hd x y hx hy hxy
      simp only [List.map_cons, List.nodup_cons, List.mem_map, not_exists, not_and] at hd
      rcases List.mem_cons.1 hx with rfl | hx' <;> rcases List.mem_cons.1 hy with rfl | hy'
      · rfl
      · exact absurd hxy.symm (hd.1 y hy')
      · exact absurd hxy (hd.1 x hx')
      · exact ih hd.2 hx' hy' hxy
  key_inj : ∀ {l : List MapEntry}, l.Pairwise (fun x y => x.key ≠ y.key) → ∀ {x y : MapEntry}, x ∈ l → y ∈ l → x.key = y.key → x = y := by
    intro l
    induction l with
    | nil => intro _ x y hx; cases hx
    | cons z r ih =>
      intro hd x y hx hy hxy
      obtain ⟨h1, h2⟩ := List.pairwise_cons.1 hd
      rcases List.mem_cons.1 hx with rfl | hx' <;> rcases List.mem_cons.1 hy with rfl | hy'
      · rfl
      · exact absurd hxy (h1 y hy')
      · exact absurd hxy.symm (h1 x hx')
      · exact ih h2 hx' hy' hxy
end
end Go.Tg
