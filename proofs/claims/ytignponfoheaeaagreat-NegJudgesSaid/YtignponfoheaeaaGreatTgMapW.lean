import Derived.Test.YtignponfoheaeaaGreatTgTable
namespace Go.Tg
open Go Go.RowKit Go.Maps Go.MapKept
open Go.ChangeMaps (setBlock)
section
variable {P : Program} (w : World) {ops : Array Oper} {rest : List Oper} {o : Oper} {a : Act} {Q : Exit → Act → World → Prop}

theorem wpl_range (hg : o.guard = none) (x : Operand) (T K E : TypeId) (hop : o.op = .range T x) (ht : P.underlying T = some (.map K E)) (b : Nat) (m : Value → Option Value)
    (hx : a.eval x = .map (some b)) (h : MapAt P K w b m)
    (hK : ∀ w' n, IterAt P K w' w.heap.size b m (fun k => (m k).isSome) n → Keep (fun _ => False) w w' → w'.heap.size = w.heap.size + 1 → wpList P ops Q rest (a.put o.dst (.pointer (some ⟨w.heap.size, 0, none⟩))) w') :
    wpList P ops Q (o :: rest) a w := by
  obtain ⟨ob, hrun, n, hit⟩ := h.run_range ht
  refine step_val (v := .pointer (some ⟨w.heap.size, 0, none⟩)) (w' := w.alloc ob) hg (by simp [execOp, hop, hx, hrun, Result.andThen]) (hK _ n hit ((Keep.refl _ _).alloc _) (by simp))

theorem wpl_next (hg : o.guard = none) (x : Operand) (hop : o.op = .next x false) (K : TypeId) (r b : Nat) (m : Value → Option Value) (left : Value → Prop) (n : Nat)
    (hx : a.eval x = .pointer (some ⟨r, 0, none⟩)) (h : IterAt P K w r b m left n)
    (hD : (∀ k, ¬ left k) → wpList P ops Q rest (a.put o.dst (.tuple #[.bool false])) w)
    (hM : ∀ k v w' n', left k → m k = some v → Keep (· = r) w w' → w'.heap.size = w.heap.size → n' < n → IterAt P K w' r b m (fun k' => left k' ∧ k' ≠ k) n' →
      (Instr.entry (.pointer (some ⟨r, 0, none⟩))).run P w' = .ok (.tuple #[k, v]) w' → wpList P ops Q rest (a.put o.dst (.tuple #[.bool true, k, v])) w') :
    wpList P ops Q (o :: rest) a w := by
  rcases h.run_next o.type with ⟨h1, _, hrun⟩ | ⟨k, v, w', h1, h2, hrun, h3, h4, ⟨n', h5, h6⟩, h7⟩
  · exact step_val (v := .tuple #[.bool false]) (w' := w) hg (by simp [execOp, hop, hx, hrun, Result.andThen]) (hD h1)
  · exact step_val (v := .tuple #[.bool true, k, v]) (w' := w') hg (by simp [execOp, hop, hx, hrun, Result.andThen]) (hM k v w' n' h1 h2 h3 h4 h5 h6 h7)

theorem wpl_update (hg : o.guard = none) (x k v : Operand) (T K E : TypeId) (hop : o.op = .mapUpdate T x k v) (Kd : Keyed P K) (ht : P.underlying T = some (.map K E)) (b : Nat) (m : Value → Option Value)
    (hx : a.eval x = .map (some b)) (h : MapAt P K w b m) (kv vv : Value) (hk : a.eval k = kv) (hv : a.eval v = vv) (hkv : KV P K kv)
    (hK : ∀ w', MapAt P K w' b (upd m kv vv) → Keep (· = b) w w' → w'.heap.size = w.heap.size → wpList P ops Q rest (a.put o.dst undef) w') :
    wpList P ops Q (o :: rest) a w := by
  subst hk hv
  obtain ⟨es', clock', hrun, hm⟩ := h.run_update Kd ht hkv (a.eval v)
  refine step_skip hg (by simp [execOp, hop, hx, hrun, Result.andThen]) (hK _ hm ((Keep.refl (· = b) w).setBlock b (Or.inr rfl) _) (setBlock_size _ _ _))

theorem wpl_lookup (hg : o.guard = none) (x k : Operand) (T K E : TypeId) (ok : Bool) (hop : o.op = .lookup T x k ok) (Kd : Keyed P K) (ht : P.underlying T = some (.map K E)) (b : Nat) (m : Value → Option Value)
    (hx : a.eval x = .map (some b)) (h : MapAt P K w b m) (kv z : Value) (hk : a.eval k = kv) (hkv : KV P K kv) (hz : (zeroValue E).run P w = .ok z w)
    (hK : wpList P ops Q rest (a.put o.dst (if ok then .tuple #[(m kv).getD z, .bool (m kv).isSome] else (m kv).getD z)) w) :
    wpList P ops Q (o :: rest) a w := by
  subst hk
  exact step_val hg (by simp [execOp, hop, hx, h.run_lookup Kd ht hkv hz ok, Result.andThen]) hK
end

theorem Keep.grownBy {w w' : World} {b : Nat} (h : Keep (· = b) w w') : w.grownBy w' (some b) := ⟨h.os, h.tape, h.output, h.size, fun k hk hne => h.block k hk (by simpa [eq_comm] using hne)⟩
theorem Keep.cell {S : Nat → Prop} {w w' : World} (h : Keep S w w') {p : Addr} (hp : p.block < w.heap.size) (hs : ¬ S p.block) : w'.cell? p = w.cell? p := World.cell?_of_block (w := w) (h.block p.block hp hs)
theorem Keep.frozen {S : Nat → Prop} {w w' : World} (h : Keep S w w') {p : Addr} (hp : p.block < w.heap.size) (hs : ¬ S p.block) : w'.frozen? p = w.frozen? p := World.frozen?_of_block (w := w) (h.block p.block hp hs)
end Go.Tg
namespace Go.Tg
open Go Go.RowKit
theorem belowN {B : Nat} {a w : World} (h : Below B a w) (n : Nat) : Below B a (w.drewN n) := ⟨h.os, h.tape, h.output, h.size, h.block⟩
theorem Keep.drewN {S : Nat → Prop} {a w : World} (h : Keep S a w) (n : Nat) : Keep S a (w.drewN n) := ⟨h.os, h.tape, h.output, h.size, h.block⟩
end Go.Tg
namespace Go.Tg
open Go Go.RowKit
theorem Keep.setB {b : Nat} {a w : World} (h : Keep (· = b) a w) (o : Nat) (u : Value) : Keep (· = b) a (w.setCell ⟨b, o, none⟩ u) := h.setCell ⟨b, o, none⟩ (Or.inr rfl) u
theorem IntsAt.block {TI : TypeId} {B bb n m : Nat} {w : World} {xs : List Int} (h : IntsAt TI B w (.slice (some ⟨bb, 0, none⟩) n m) xs) : w.heap[bb]? = some (.cells (xs.map (Value.int .i64)).toArray TI (0, 0)) ∧ B ≤ bb := by
  rcases h with ⟨_, h⟩ | ⟨b, h1, h2, h3⟩
  · cases h
  · cases h2; exact ⟨h3, h1⟩
theorem IntsAt.setB {TI : TypeId} {B b : Nat} {w : World} {v : Value} {xs : List Int} (h : IntsAt TI B w v xs) (hb : b < B) (o : Nat) (u : Value) : IntsAt TI B (w.setCell ⟨b, o, none⟩ u) v xs :=
  h.keep ((Keep.refl (· = b) w).setB o u) (fun b' o hb' hS => by subst hS; omega)
end Go.Tg
namespace Go.Tg
open Go Go.RowKit Go.Maps
open Go.ChangeMaps (setBlock)
/-- 'm[k] = v' as one step of a region that draws its order. -/
theorem step_update {P : Program} {ops : Array Oper} {o : Oper} {a : Act} {w : World} {K' : Act → World → Prop} {Q : Exit → Act → World → Prop} {E0 : Prop} (hg : o.guard = none) (x k v : Operand) (T K E : TypeId) (hop : o.op = .mapUpdate T x k v)
    (Kd : Keyed P K) (ht : P.underlying T = some (.map K E)) (b : Nat) (m : Value → Option Value) (hx : a.eval x = .map (some b)) (kv vv : Value) (hk : a.eval k = kv) (hv : a.eval v = vv) (hkv : KV P K kv) (h : MapAt P K w b m)
    (hK : ∀ w', MapAt P K w' b (upd m kv vv) → Keep (· = b) w w' → w'.heap.size = w.heap.size → K' (a.put o.dst undef) w') :
    if Region.wanted o (yielded ops a.tmps) = true then Oper.wp P o a w K' Q else E0 := by
  have hw : Region.wanted o (yielded ops a.tmps) = true := by simp [Region.wanted, hg]
  rw [if_pos hw]
  subst hk hv
  obtain ⟨es', clock', hrun, hm⟩ := h.run_update Kd ht hkv (a.eval v)
  have hr : (execOp a.eval o).run P w = .ok .skip (setBlock w b (.map es' clock')) := by simp [execOp, hop, hx, hrun, Result.andThen]
  unfold Oper.wp
  rw [hr]
  exact hK _ hm ((Keep.refl (· = b) w).setBlock b (Or.inr rfl) _) (setBlock_size _ _ _)
end Go.Tg
namespace Go.Tg
open Go Go.RowKit Go.Maps
open Go.ChangeMaps (setBlock)
/-- The store as an equation at each of many worlds. -/
theorem MapAt.update_fun {P : Program} {K E T : TypeId} {α : Type} (W : α → World) {b : Nat} {m : Value → Option Value} (Kd : Keyed P K) (ht : P.underlying T = some (.map K E)) (h : ∀ x, MapAt P K (W x) b m) {k : Value} (hk : KV P K k) (v : Value) :
    ∃ f : α → Obj, ∀ x, (Instr.mapUpdate T (.map (some b)) k v).run P (W x) = .ok () (setBlock (W x) b (f x)) ∧ MapAt P K (setBlock (W x) b (f x)) b (upd m k v) := by
  have h1 : ∀ x, ∃ o, (Instr.mapUpdate T (.map (some b)) k v).run P (W x) = .ok () (setBlock (W x) b o) ∧ MapAt P K (setBlock (W x) b o) b (upd m k v) := fun x => by
    obtain ⟨es, clock, h2, h3⟩ := (h x).run_update Kd ht hk v
    exact ⟨_, h2, h3⟩
  exact Classical.axiomOfChoice h1
theorem cell?_setBlock_other (w : World) (b : Nat) (o : Obj) (a : Addr) (h : a.block ≠ b) : (setBlock w b o).cell? a = w.cell? a :=
  World.cell?_of_block (w := w) (setBlock_other _ _ _ _ h)
theorem drewN_heap (w : World) (n : Nat) : (w.drewN n).heap = w.heap := rfl
end Go.Tg
