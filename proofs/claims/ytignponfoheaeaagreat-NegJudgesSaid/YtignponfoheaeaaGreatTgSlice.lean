import Derived.Test.YtignponfoheaeaaGreatTgMapW
import Derived.Laws.AppendOwnNone
namespace Go.Tg
open Go Go.RowKit

/-- A slice of ints whose row is the call's own, from block B on. -/
def OwnI (TI : TypeId) (B : Nat) (w : World) (v : Value) (xs : List Int) : Prop := w.ownsRow B TI 1 v xs.length (xs.map (Value.int .i64))

/-- A slice of ints that reads as xs, in a block that N does not name. -/
def Rd (w : World) (N : Nat → Prop) (sa : Option Addr) (xs : List Int) : Prop :=
  ∀ (i : Nat) (h : i < xs.length), ∃ b, sa = some ⟨b, 0, none⟩ ∧ ¬ N b ∧ b < w.heap.size ∧ w.cell? ⟨b, i, none⟩ = some (.int .i64 xs[i])

theorem Rd.keep {w w' : World} {N S : Nat → Prop} {sa : Option Addr} {xs : List Int} (h : Rd w N sa xs) (hk : Keep S w w') (hs : ∀ b, b < w.heap.size → S b → N b) : Rd w' N sa xs := by
  intro i hi
  obtain ⟨b, h1, h2, h3, h4⟩ := h i hi
  exact ⟨b, h1, h2, Nat.lt_of_lt_of_le h3 hk.size, (hk.cell (p := ⟨b, i, none⟩) h3 (fun h => h2 (hs b h3 h))).trans h4⟩
theorem Rd.mono {w : World} {N N' : Nat → Prop} {sa : Option Addr} {xs : List Int} (h : Rd w N sa xs) (hs : ∀ b, b < w.heap.size → N' b → N b) : Rd w N' sa xs := by
  intro i hi
  obtain ⟨b, h1, h2, h3, h4⟩ := h i hi
  exact ⟨b, h1, fun h => h2 (hs b h3 h), h3, h4⟩
theorem Rd.nil (w : World) (N : Nat → Prop) (sa : Option Addr) : Rd w N sa [] := fun _ h => absurd h (Nat.not_lt_zero _)

theorem IntsAt.rd {TI : TypeId} {B : Nat} {w : World} {v : Value} {xs : List Int} (h : IntsAt TI B w v xs) (N : Nat → Prop) (hN : ∀ b, B ≤ b → ¬ N b) : ∃ sa cap, v = .slice sa xs.length cap ∧ (sa = none → cap = 0) ∧ Rd w N sa xs := by
  rcases h with ⟨rfl, rfl⟩ | ⟨b, h1, rfl, h3⟩
  · exact ⟨_, _, rfl, fun _ => rfl, Rd.nil _ _ _⟩
  · refine ⟨_, _, rfl, fun h => (by cases h), fun i hi => ⟨b, rfl, hN b h1, (Array.getElem?_eq_some_iff.1 h3).1, ?_⟩⟩
    simp [World.cell?, h3, hi]

theorem OwnI.nil (TI : TypeId) (B : Nat) (w : World) : OwnI TI B w (.slice none 0 0) [] := ⟨rfl, Or.inl ⟨rfl, rfl⟩⟩

theorem OwnI.rd {TI : TypeId} {B : Nat} {w : World} {v : Value} {xs : List Int} (h : OwnI TI B w v xs) (N : Nat → Prop) (hN : ∀ b, B ≤ b → ¬ N b) : ∃ sa cap, v = .slice sa xs.length cap ∧ (sa = none → cap = 0) ∧ Rd w N sa xs := by
  obtain ⟨_, ⟨rfl, h⟩ | ⟨g, cap, cur, rfl, h1, h2, h3, h4, h5, h6⟩⟩ := h
  · have : xs = [] := List.eq_nil_of_length_eq_zero h
    subst this
    exact ⟨_, _, rfl, fun _ => rfl, Rd.nil _ _ _⟩
  · refine ⟨_, _, rfl, fun h => (by cases h), fun i hi => ⟨g, rfl, hN g h1, (Array.getElem?_eq_some_iff.1 h2).1, ?_⟩⟩
    have : cur.toList[i]? = some (.int .i64 xs[i]) := by
      have h7 : (cur.toList.take (xs.length * 1))[i]? = (xs.map (Value.int .i64))[i]? := by rw [h6]
      rw [List.getElem?_take_of_lt (by omega)] at h7
      rw [h7]; simp [hi]
    simp only [World.cell?, h2]
    simpa using this

theorem OwnI.keep {TI : TypeId} {B : Nat} {w w' : World} {v : Value} {xs : List Int} {S : Nat → Prop} (h : OwnI TI B w v xs) (hk : Keep S w w') (hs : ∀ b, b < w.heap.size → B ≤ b → ¬ S b) : OwnI TI B w' v xs := by
  obtain ⟨h0, h | ⟨g, cap, cur, hv, h1, h2, h3⟩⟩ := h
  · exact ⟨h0, Or.inl h⟩
  · have hlt := (Array.getElem?_eq_some_iff.1 h2).1
    exact ⟨h0, Or.inr ⟨g, cap, cur, hv, h1, (hk.block g hlt (hs g hlt h1)).trans h2, h3⟩⟩

theorem keep_of_grown {w w' : World} {row : Option Nat} (h : w.grownBy w' row) : Keep (fun k => row = some k) w w' :=
  ⟨h.os, h.tape, h.output, h.size, fun k hk hn => h.block k hk (fun e => hn e.symm)⟩

/-- 'append(p, q...)' of ints: p the call's own, q whatever reads. -/
theorem wpl_append_ints {P : Program} {w : World} {ops : Array Oper} {rest : List Oper} {o : Oper} {a : Act} {Q : Exit → Act → World → Prop} (hgd : o.guard = none) (s x : Operand) (T TI : TypeId)
    (ho : o.op = .call { callee := .builtin .append, args := #[s, x], argTypes := #[T, T] }) (i : TypeInfo) (ht : P.underlying T = some (.slice TI)) (hi : P.info? TI = some i) (hz : i.zero = some (.int .i64 0))
    (hsize : i.size = 1) (hby : i.bytes = 8) (B : Nat) (v : Value) (xs : List Int) (hs : a.eval s = v) (hown : OwnI TI B w v xs)
    (sa : Option Addr) (cap : Nat) (ys : List Int) (N : Nat → Prop) (hx : a.eval x = .slice sa ys.length cap) (hcap : sa = none → cap = 0) (hrd : Rd w N sa ys) (hlen : xs.length + ys.length ≤ 1000000) (hB : B ≤ w.heap.size)
    (h : ∀ v' w', OwnI TI B w' v' (xs ++ ys) → Keep (fun k => B ≤ k) w w' → wpList P ops Q rest (a.put o.dst v') w') : wpList P ops Q (o :: rest) a w := by
  cases sa with
  | none =>
    obtain rfl := hcap rfl
    have hy : ys = [] := by
      cases ys with
      | nil => rfl
      | cons y ys => obtain ⟨b, h1, _⟩ := hrd 0 (by simp); cases h1
    subst hy
    refine wpList_append_own_none hgd s x T ho B TI i 1 ht hi v xs.length _ hs hown hx ?_
    refine h v w ?_ (Keep.refl _ _)
    rw [List.append_nil]; exact hown
  | some ad =>
    refine wpList_append_own w hgd s x T ho B TI i (.int .i64 0) 1 8 ht hi hz hsize hby rfl (by decide) v xs.length _ hs hown ad ys.length cap (ys.map (Value.int .i64)) hx (by simp) ?_ ?_ (by unfold maxLen; omega) (by omega) hB ?_
    · intro j u hju
      have hj : j < ys.length := by
        have := (List.getElem?_eq_some_iff.1 hju).1
        simpa using this
      obtain ⟨b, h1, _, _, h4⟩ := hrd j hj
      cases h1
      have e : (⟨b, 0, none⟩ : Addr).add j = ⟨b, j, none⟩ := by
        unfold Addr.add
        split
        · rename_i h; subst h; rfl
        · simp
      rw [e, h4]
      simp [hj] at hju
      rw [hju]
    · intro u hu
      obtain ⟨y, _, rfl⟩ := List.mem_map.1 hu
      rfl
    · intro v' w' h1 h2 _
      refine h v' w' ?_ ((keep_of_grown h2).mono ?_)
      · unfold OwnI
        rw [List.length_append, List.map_append]
        exact h1
      · intro k hk hb
        obtain ⟨_, ⟨rfl, _⟩ | ⟨g, cap, cur, rfl, h5, _⟩⟩ := hown
        · cases hb
        · cases hb; exact h5
end Go.Tg
