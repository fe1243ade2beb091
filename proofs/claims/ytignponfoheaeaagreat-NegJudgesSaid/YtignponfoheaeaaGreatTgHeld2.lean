import Derived.Test.YtignponfoheaeaaGreatTgHeld
/- wpAnyN_take, with the operation found in the list. (No program here.) -/
namespace Go.Tg
open Go

theorem wpAnyN_at {P : Program} {L : List Oper} {Q : Exit → Act → World → Prop} {md : Region.Mode} {S : World → Prop} {n : Nat} (i : Nat) {oi : Oper} {rest : List Oper} {v : Value} {fuel : Nat} {listed : Array Bool} {a : Act} {w : World} (hi : L.drop i = oi :: rest)
    (hs : (Region.noSelect L.toArray && waitB md L.toArray n i) = true)
    (hf : Region.free md L.toArray listed i = true) (hr : (Region.ready md L.toArray listed).contains i = true)
    (hQ : ∀ c a w, Q (.panic c) (a.put oi.dst v) w → Q (.panic c) a w) (hy : YieldsIf P L.toArray S oi v a) (hS : S w)
    (h : wpAnyN P md L.toArray Q S n fuel (listed.setIfInBounds i true) (a.put oi.dst v) w) : wpAnyN P md L.toArray Q S n (fuel + 1) listed a w :=
  wpAnyN_take (by
    have : (L.drop i)[0]? = some oi := by rw [hi]; rfl
    rw [List.getElem?_drop] at this
    simpa using this) hs hf hr hQ hy hS h

section
variable {P : Program} {L : List Oper} {Q : Exit → Act → World → Prop} {md : Region.Mode} {S : World → Prop} {n : Nat} {fuel : Nat} {listed : Array Bool} {a : Act} {w : World}
theorem at_drop {i : Nat} {o : Oper} {rest : List Oper} (h : L.drop i = o :: rest) : L.toArray[i]? = some o := by
  have : (L.drop i)[0]? = some o := by rw [h]; rfl
  rw [List.getElem?_drop] at this
  simpa using this
/-- What one operation leaves to be shown. -/
def wpStep (P : Program) (md : Region.Mode) (L : List Oper) (Q : Exit → Act → World → Prop) (S : World → Prop) (n fuel : Nat) (listed : Array Bool) (i : Nat) (o : Oper) (a : Act) (w : World) : Prop :=
  ∀ K' : Act → World → Prop, Shut (∀ a w, (i < n → S w) → wpAnyN P md L.toArray Q S n fuel (listed.setIfInBounds i true) a w → K' a w) → if Region.wanted o (yielded L.toArray a.tmps) = true then Oper.wp P o a w K' Q else K' (a.put o.dst undef) w
theorem wpAnyN_1 (i : Nat) {o : Oper} {rest : List Oper} (ho : L.drop i = o :: rest) (hr : Region.ready md L.toArray listed = [i])
    (h : wpStep P md L Q S n fuel listed i o a w) : wpAnyN P md L.toArray Q S n (fuel + 1) listed a w := wpAnyN_one (at_drop ho) hr h
theorem wpAnyN_2 (i j : Nat) {o o' : Oper} {rest rest' : List Oper} (ho : L.drop i = o :: rest) (ho' : L.drop j = o' :: rest') (hr : Region.ready md L.toArray listed = [i, j])
    (h : wpStep P md L Q S n fuel listed i o a w) (h' : wpStep P md L Q S n fuel listed j o' a w) : wpAnyN P md L.toArray Q S n (fuel + 1) listed a w := wpAnyN_two (at_drop ho) (at_drop ho') hr h h'
theorem wpAnyN_3 (i j k : Nat) {o o' o'' : Oper} {rest rest' rest'' : List Oper} (ho : L.drop i = o :: rest) (ho' : L.drop j = o' :: rest') (ho'' : L.drop k = o'' :: rest'') (hr : Region.ready md L.toArray listed = [i, j, k])
    (h : wpStep P md L Q S n fuel listed i o a w) (h' : wpStep P md L Q S n fuel listed j o' a w) (h'' : wpStep P md L Q S n fuel listed k o'' a w) : wpAnyN P md L.toArray Q S n (fuel + 1) listed a w := by
  refine ⟨fun h0 => (by rw [h0] at hr; cases hr), fun l hl => ?_⟩
  rw [hr] at hl
  have hli : l = i ∨ l = j ∨ l = k := by simpa using hl
  rcases hli with rfl | rfl | rfl
  · exact wpOp_step (at_drop ho) (fun K' hK => h K' (fun a w hS hW => hK a w ⟨hS, hW⟩))
  · exact wpOp_step (at_drop ho') (fun K' hK => h' K' (fun a w hS hW => hK a w ⟨hS, hW⟩))
  · exact wpOp_step (at_drop ho'') (fun K' hK => h'' K' (fun a w hS hW => hK a w ⟨hS, hW⟩))
end
end Go.Tg
