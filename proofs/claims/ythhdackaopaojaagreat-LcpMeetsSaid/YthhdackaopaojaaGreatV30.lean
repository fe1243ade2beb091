import Derived.Test.YthhdackaopaojaaGreatV28
namespace Go.Proofs.YthhdackaopaojaaGreat
open Go.RowKit Go.Tg Go.Maps

/-- The head of a row of packets. -/
theorem PRow.at0 {w : World} {base : Nat} {v : Value} {p : Pk × Value} {L : List (Pk × Value)} (h : PRow w base v (p :: L)) : ∃ g cap, v = .slice (some ⟨g, 0, none⟩) (L.length + 1) cap ∧ base ≤ g ∧ g < w.heap.size ∧ L.length + 1 ≤ cap ∧ cap ≤ maxLen ∧
    w.cell? ⟨g, 0, none⟩ = some (.int .i64 p.1.code) ∧ w.cell? ⟨g, 1, none⟩ = some (.int .i64 p.1.id) ∧ w.cell? ⟨g, 2, none⟩ = some p.2 ∧ w.cell? ⟨g, 3, none⟩ = some (.string p.1.d) := by
  obtain ⟨h0, ⟨h, hn⟩ | ⟨g, cap, cur, hv, h1, h2, h3, h4, h5, h6⟩⟩ := h
  · simp at hn
  · have hc : ∀ j, j < 4 → cur[j]? = (pkL (p :: L)).flatten[j]? := by
      intro j hj
      rw [← h6, List.getElem?_take, if_pos (by simp only [List.length_cons]; omega), Array.getElem?_toList]
    refine ⟨g, cap, hv, h1, (Array.getElem?_eq_some_iff.1 h2).1, h3, h4, ?_, ?_, ?_, ?_⟩
    · exact cellOf h2 0 _ (by rw [hc 0 (by omega)]; rfl)
    · exact cellOf h2 1 _ (by rw [hc 1 (by omega)]; rfl)
    · exact cellOf h2 2 _ (by rw [hc 2 (by omega)]; rfl)
    · exact cellOf h2 3 _ (by rw [hc 3 (by omega)]; rfl)
theorem PksAt.at0 {w : World} {ok : Nat → Prop} {base : Nat} {v : Value} {p : Pk} {l : List Pk} (h : PksAt w ok base v (p :: l)) : ∃ g cap po, v = .slice (some ⟨g, 0, none⟩) (l.length + 1) cap ∧ base ≤ g ∧ g < w.heap.size ∧ l.length + 1 ≤ cap ∧ cap ≤ maxLen ∧
    w.cell? ⟨g, 0, none⟩ = some (.int .i64 p.code) ∧ w.cell? ⟨g, 1, none⟩ = some (.int .i64 p.id) ∧ w.cell? ⟨g, 2, none⟩ = some po ∧ w.cell? ⟨g, 3, none⟩ = some (.string p.d) ∧ Opts w ok po p.o := by
  obtain ⟨L, hl, hr, ho⟩ := h
  cases L with
  | nil => cases hl
  | cons q L =>
    obtain ⟨q1, q2⟩ := q
    simp only [List.map_cons, List.cons.injEq] at hl
    obtain ⟨rfl, rfl⟩ := hl
    obtain ⟨g, cap, h1, h2, h3, h4, h5, h6, h7, h8, h9⟩ := hr.at0
    exact ⟨g, cap, q2, by rw [h1, List.length_map], h2, h3, by rw [List.length_map]; exact h4, h5, h6, h7, h8, h9, ho _ (List.mem_cons_self ..)⟩
def asks : List Opt := [⟨1, ⟨#[5, 0]⟩⟩]
def noR : Pk → ByteArray := fun _ => noB
/-- What the first call's negotiation was made with. -/
def CA (jb : Nat) : NegC := ⟨[], [rule1], [], 3, 2, 0, 3, ownJ jb⟩
def sA (s c id asked : Int) (mine : List Opt) (ups : Int) : NSt := ⟨s, c, id, asked, 0, 0, asks, mine, [], ups, 0⟩
end Go.Proofs.YthhdackaopaojaaGreat

namespace Go.Proofs.YthhdackaopaojaaGreat
open Go.RowKit Go.Tg Go.Maps

end Go.Proofs.YthhdackaopaojaaGreat
