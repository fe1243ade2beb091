import Derived.Test.YtignponfoheaeaaGreatTab4
/- The reference's table of chapter 9, in plain Lean, and that it is the program's own. -/
namespace Go.Proofs.YtignponfoheaeaaGreat
open Go.RowKit Go.Tg Go.Maps

def bs (l : List UInt8) : ByteArray := ⟨l.toArray⟩
def rowB : List ByteArray := [bs [50, 124, 105, 114, 99, 32, 115, 99, 114, 47, 54, 124, 45, 124, 45, 124, 45, 124, 45, 124, 45, 124, 45, 124, 45, 124, 45],
  bs [45, 124, 45, 124, 48, 124, 116, 108, 115, 47, 49, 124, 48, 124, 49, 124, 49, 124, 49, 124, 49, 124, 116, 108, 100, 47, 49],
  bs [116, 108, 115, 47, 49, 124, 49, 124, 105, 114, 99, 32, 115, 99, 114, 47, 54, 124, 51, 124, 53, 124, 53, 124, 54, 124, 55, 124, 56, 124, 57],
  bs [48, 124, 116, 108, 102, 47, 48, 124, 50, 124, 50, 124, 52, 124, 52, 124, 105, 114, 99, 32, 115, 116, 114, 47, 52, 124, 105, 114, 99, 32, 115, 116, 114, 47, 52, 124, 105, 114, 99, 32, 115, 116, 114, 47, 52, 124, 116, 108, 100, 32, 105, 114, 99, 32, 115, 116, 114, 47, 52],
  bs [45, 124, 45, 124, 45, 124, 45, 124, 115, 116, 114, 47, 52, 124, 115, 116, 114, 47, 53, 124, 115, 99, 114, 47, 54, 124, 115, 99, 114, 47, 54, 124, 115, 99, 114, 47, 56, 124, 45],
  bs [45, 124, 45, 124, 45, 124, 45, 124, 116, 108, 102, 47, 50, 124, 116, 108, 102, 47, 51, 124, 116, 108, 102, 47, 51, 124, 116, 108, 102, 47, 51, 124, 116, 108, 102, 47, 51, 124, 45],
  bs [45, 124, 45, 124, 115, 116, 97, 47, 50, 124, 105, 114, 99, 32, 115, 99, 114, 32, 115, 99, 97, 47, 56, 124, 52, 124, 53, 124, 115, 99, 97, 47, 56, 124, 115, 99, 97, 32, 116, 108, 117, 47, 57, 124, 115, 99, 97, 47, 56, 124, 116, 108, 100, 32, 115, 99, 114, 32, 115, 99, 97, 47, 56],
  bs [45, 124, 45, 124, 115, 116, 97, 47, 50, 124, 105, 114, 99, 32, 115, 99, 114, 32, 115, 99, 110, 47, 54, 124, 52, 124, 53, 124, 115, 99, 110, 47, 54, 124, 115, 99, 110, 47, 55, 124, 115, 99, 110, 47, 54, 124, 116, 108, 100, 32, 115, 99, 114, 32, 115, 99, 110, 47, 54],
  bs [45, 124, 45, 124, 115, 116, 97, 47, 50, 124, 115, 116, 97, 47, 51, 124, 52, 124, 53, 124, 105, 114, 99, 47, 55, 124, 115, 99, 114, 47, 54, 124, 105, 114, 99, 32, 116, 108, 117, 47, 57, 124, 116, 108, 100, 32, 115, 99, 114, 47, 54],
  bs [45, 124, 45, 124, 115, 116, 97, 47, 50, 124, 115, 116, 97, 47, 51, 124, 52, 124, 53, 124, 105, 114, 99, 32, 115, 99, 114, 47, 54, 124, 115, 99, 114, 47, 54, 124, 105, 114, 99, 32, 115, 99, 114, 47, 56, 124, 116, 108, 100, 32, 115, 99, 114, 47, 54],
  bs [45, 124, 45, 124, 115, 116, 97, 47, 50, 124, 115, 116, 97, 47, 51, 124, 115, 116, 97, 47, 52, 124, 115, 116, 97, 47, 53, 124, 115, 116, 97, 47, 54, 124, 115, 116, 97, 47, 54, 124, 115, 116, 97, 47, 54, 124, 116, 108, 100, 32, 122, 114, 99, 32, 115, 116, 97, 47, 53],
  bs [45, 124, 45, 124, 50, 124, 51, 124, 116, 108, 102, 47, 50, 124, 116, 108, 102, 47, 51, 124, 54, 124, 54, 124, 56, 124, 116, 108, 100, 32, 115, 99, 114, 47, 54],
  bs [45, 124, 45, 124, 115, 99, 106, 47, 50, 124, 115, 99, 106, 47, 51, 124, 115, 99, 106, 47, 52, 124, 115, 99, 106, 47, 53, 124, 115, 99, 106, 47, 54, 124, 115, 99, 106, 47, 55, 124, 115, 99, 106, 47, 56, 124, 115, 99, 106, 47, 57],
  bs [45, 124, 45, 124, 50, 124, 51, 124, 52, 124, 53, 124, 54, 124, 54, 124, 56, 124, 57],
  bs [45, 124, 45, 124, 116, 108, 102, 47, 50, 124, 116, 108, 102, 47, 51, 124, 116, 108, 102, 47, 50, 124, 116, 108, 102, 47, 51, 124, 116, 108, 102, 47, 51, 124, 116, 108, 102, 47, 51, 124, 116, 108, 102, 47, 51, 124, 116, 108, 100, 32, 105, 114, 99, 32, 115, 116, 114, 47, 53],
  bs [45, 124, 45, 124, 50, 124, 51, 124, 52, 124, 53, 124, 54, 124, 55, 124, 56, 124, 115, 101, 114, 47, 57]]
/-- The reading of a row: fuel, the place, the column, where the column began. -/
def scanE (b : ByteArray) (st : Int) : Nat → Nat → Int → Nat → Option (ByteArray × Int)
  | 0, _, _, _ => none
  | f + 1, i, at', fr =>
    if i ≤ b.size then
      if i < b.size ∧ b.data.toList.getD i 0 ≠ 124 then scanE b st f (i + 1) at' fr
      else if at' = st then
        (if b.extract fr i = bs [45] then some (bs [], st)
         else if 1 < (b.extract fr i).size then some ((b.extract fr i).extract 0 ((b.extract fr i).size - 2), ((b.extract fr i).data.toList.getD ((b.extract fr i).size - 1) 0).toNat - 48)
         else if (b.extract fr i).size = 1 then some (bs [], ((b.extract fr i).data.toList.getD 0 0).toNat - 48)
         else none)
      else scanE b st f (i + 1) (at' + 1) (i + 1)
    else some (bs [], st)
def rowE (ev : Int) : ByteArray := rowB.getD ev.toNat (bs [])
def entryE (st ev : Int) : Option (ByteArray × Int) := scanE (rowE ev) st ((rowE ev).size + 2) 0 0 0
/-- The number of a word. -/
def actE (w : ByteArray) : Int :=
  if w = bs [116, 108, 117] then 0 else
  if w = bs [116, 108, 100] then 1 else
  if w = bs [116, 108, 115] then 2 else
  if w = bs [116, 108, 102] then 3 else
  if w = bs [105, 114, 99] then 4 else
  if w = bs [122, 114, 99] then 5 else
  if w = bs [115, 99, 114] then 6 else
  if w = bs [115, 99, 97] then 7 else
  if w = bs [115, 99, 110] then 8 else
  if w = bs [115, 116, 114] then 9 else
  if w = bs [115, 116, 97] then 10 else
  if w = bs [115, 99, 106] then 11 else 12
def actsE (w : ByteArray) : Nat → Nat → List Int
  | 0, _ => []
  | f + 1, i => if i + 3 ≤ w.size then actE (w.extract i (i + 3)) :: actsE w f (i + 4) else []
/-- All in all. -/
def refE (st ev : Int) : Option (Int × List Int) := (entryE st ev).map fun p => (p.2, actsE p.1 (p.1.size + 1) 0)

def tabOk : Bool := (List.range 10).all fun s => (List.range 16).all fun e => decide (refE (s : Int) (e : Int) = some (nextS (s : Int) (e : Int), nextL (s : Int) (e : Int)))
theorem tab_ok : tabOk = true := by decide +kernel
theorem ref_next (s e : Int) (h0 : 0 ≤ s) (h1 : s ≤ 9) (h2 : 0 ≤ e) (h3 : e ≤ 15) : refE s e = some (nextS s e, nextL s e) := by
  have h := tab_ok
  unfold tabOk at h
  have ha := List.all_eq_true.1 h s.toNat (List.mem_range.2 (by omega))
  have hb := of_decide_eq_true (List.all_eq_true.1 ha e.toNat (List.mem_range.2 (by omega)))
  rw [Int.toNat_of_nonneg h0, Int.toNat_of_nonneg h2] at hb
  exact hb

theorem lookup_out : ∀ (l : List Go.Tg.Row) (s e : Int), (∀ r ∈ l, 0 ≤ r.1 ∧ r.1 ≤ 9 ∧ 0 ≤ r.2.1 ∧ r.2.1 ≤ 15) → ¬ (0 ≤ s ∧ s ≤ 9 ∧ 0 ≤ e ∧ e ≤ 15) → lookupL l s e = none := by
  intro l
  induction l with
  | nil => intro s e _ _; rfl
  | cons r l ih =>
    intro s e hl hn
    simp only [lookupL, List.foldr_cons, Tab.put]
    split
    · rename_i h
      obtain ⟨h1, h2⟩ := h
      have := hl r (List.mem_cons_self ..)
      subst h1 h2
      exact absurd this hn
    · exact ih s e (fun r hr => hl r (List.mem_cons_of_mem _ hr)) hn
theorem next_out (s e : Int) (h : ¬ (0 ≤ s ∧ s ≤ 9 ∧ 0 ≤ e ∧ e ≤ 15)) : nextS s e = s ∧ nextL s e = [] := by
  have hf : nextF s e = none := by
    unfold nextF
    rw [lookup_out answeredL s e (by decide) h, lookup_out calledL s e (by decide) h]
    rfl
  unfold nextS nextL
  rw [hf]
  exact ⟨rfl, rfl⟩
end Go.Proofs.YtignponfoheaeaaGreat
