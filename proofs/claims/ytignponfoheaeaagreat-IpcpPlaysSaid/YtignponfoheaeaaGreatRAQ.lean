import Derived.Test.YtignponfoheaeaaGreatRAO
import Derived.Deep.Slices
import Derived.ChangeSame
import Derived.DataReads
set_option linter.unusedVariables false
set_option linter.unusedSimpArgs false
set_option maxHeartbeats 16000000
namespace Go.Proofs.YtignponfoheaeaaGreat
open Go.RowKit Go.Tg Go.Maps
theorem list2 {α : Type} {l : List α} (h : l.length = 2) : ∃ a b, l = [a, b] := by
 match l, h with
 | [a, b], _ => exact ⟨a, b, rfl⟩
theorem list4 {α : Type} {l : List α} (h : l.length = 4) : ∃ a b c d, l = [a, b, c, d] := by
 match l, h with
 | [a, b, c, d], _ => exact ⟨a, b, c, d, rfl⟩
theorem list5 {α : Type} {l : List α} (h : l.length = 5) : ∃ a b c d e, l = [a, b, c, d, e] := by
 match l, h with
 | [a, b, c, d, e], _ => exact ⟨a, b, c, d, e, rfl⟩
theorem build_list {α : Type} (P : Nat -> α -> Prop) : ∀ (n : Nat), (∀ i, i < n -> ∃ x, P i x) -> ∃ l : List α, l.length = n /\ ∀ i (h : i < l.length), P i l[i] := by
 intro n
 induction n with
 | zero => intro _; exact ⟨[], rfl, fun i h => absurd h (Nat.not_lt_zero _)⟩
 | succ n ih =>
  intro h; obtain ⟨l, hl, hp⟩ := ih (fun i hi => h i (by omega)); obtain ⟨x, hx⟩ := h n (by omega); refine ⟨l ++ [x], by simp [hl], fun i hi => ?_⟩
  by_cases hin : i < l.length
  . rw [List.getElem_append_left hin]; exact hp i hin
  . have : i = n := by simp at hi; omega
    subst this; rw [List.getElem_append_right (by omega)]; simp [hl]
    exact hx
theorem opts_of {H : Type} {enc : TypeId × Value -> H} {w : World} {base : Nat} {spare : Nat -> Bool} {held : Bool} {fuel : Nat} {a : Option Addr} {len cap : Nat} {x : DataW H × List MemPlace}
 (h : DataW.trod enc Tryz.prog w base spare held fuel 62 [.slice a len cap] = some x) : ∃ l : List Opt, l.length = len /\ Opts w (fun _ => True) (.slice a len cap) l /\ (∀ o ∈ l, I64 o.t /\ o.v.size <= maxLen) /\ (a = none -> cap = 0) := by
 have cE : Tryz.prog.cellsOf 91 = 2 := by kernel_rfl
 have c3 : Tryz.prog.cellsOf 3 = 1 := by kernel_rfl
 have c9 : Tryz.prog.cellsOf 9 = 1 := by kernel_rfl
 rcases Go.Deep.open_slice Tryz.underlying62 h with ⟨hcs, _⟩ | ⟨p, l, c, m, n, D, Pl, hcs, hb, hl, hm, hmm, hx, hi⟩
 . simp at hcs
   obtain ⟨rfl, rfl, rfl⟩ := hcs; exact ⟨[], rfl, Rec.nil _ _ _, ⟨(by intro o ho; exact absurd ho List.not_mem_nil), fun _ => rfl⟩⟩
 . simp at hcs
   obtain ⟨rfl, rfl, rfl⟩ := hcs; have hlm : len <= m := by rw [hmm]; split <;> omega
   rw [cE] at hi
   have key : ∀ i, i < len -> ∃ o : Opt, (∀ j u, o.cells[j]? = some u -> w.cell? (p.add (i * 2 + j)) = some u) /\ I64 o.t /\ o.v.size <= maxLen := by
    intro i hil; obtain ⟨cs', hc, ht⟩ := hi i (by omega); obtain ⟨xs, n', _, _, hlen, hxl, hf⟩ := DataW.trod_struct Tryz.underlying91 ht; obtain ⟨_, hcl, hat⟩ := World.cells?_some hc; obtain ⟨v0, v1, rfl⟩ := list2 hcl; have e0 := hat 0 (by omega); have e1 := hat 1 (by omega); rw [Go.Deep.add_add] at e0 e1; have f0 : DataW.trod enc Tryz.prog w base spare held n' 3 (([v0, v1].drop 0).take (Tryz.prog.cellsOf 3)) = xs[0]? := hf 0 _ rfl; have f1 : DataW.trod enc Tryz.prog w base spare held n' 9 (([v0, v1].drop 1).take (Tryz.prog.cellsOf 9)) = xs[1]? := hf 1 _ rfl; rw [c3] at f0; rw [c9] at f1; have hs : xs.length = 2 := hxl; obtain ⟨y0, y1, rfl⟩ := list2 hs; obtain ⟨k0, hk0, -, hw0⟩ := DataW.trod_int Tryz.underlying3 (x := y0) f0; obtain ⟨k1, hk1, -, hw1⟩ := DataW.trod_string Tryz.underlying9 (x := y1) f1; simp only [List.drop_zero, List.drop_succ_cons, List.take_succ_cons, List.take_zero, List.cons.injEq, and_true] at hk0 hk1; subst hk0 hk1; refine ⟨⟨k0, k1⟩, fun j u hu => ?_, hw0, hw1⟩
    match j, hu with
    | 0, hu => cases hu; exact e0
    | 1, hu => cases hu; exact e1
    | j + 2, hu => simp [Opt.cells] at hu
   obtain ⟨l, hll, hp⟩ := build_list _ len key; refine ⟨l, hll, ⟨optL_k l, some p, cap, by rw [optL_len, hll], by rw [optL_len, hll]; exact hl, hm, ?_⟩, fun o ho => ?_, fun h => by cases h⟩
   . by_cases hz : len = 0
     . left
       have : l = [] := List.eq_nil_of_length_eq_zero (by omega); subst this; rfl
     . right
       obtain ⟨bb, off, spot⟩ := p; have h0 := (hp 0 (by omega)).1 0 _ rfl
       have hn : spot = none := by
        cases spot with
        | none => rfl
        | some s =>
         exfalso
         simp only [Nat.zero_mul, Addr.add, World.cell?, if_true, Option.isSome_some] at h0
         split at h0 <;> cases h0
       subst hn; simp only [Addr.add_lit] at h0; refine ⟨bb, off, rfl, ?_, trivial, ?_⟩
       . unfold World.cell? at h0
         by_cases hlt : bb < w.heap.size
         . exact hlt
         . have : w.heap[bb]? = none := by simp; omega
           simp [this] at h0
       . intro i hi j u hu; have hi' : i < l.length := by rwa [optL_len] at hi
         have e : (optL l)[i] = l[i].cells := by simp [optL]
         rw [e] at hu; have := (hp i hi').1 j u hu; rw [Addr.add_lit, <- Nat.add_assoc] at this; exact this
   . obtain ⟨i, hi, rfl⟩ := List.getElem_of_mem ho; exact (hp i hi).2
end Go.Proofs.YtignponfoheaeaaGreat
