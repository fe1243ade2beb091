import Derived.Test.YtkfcjcbjefpliaaN6
namespace Go.Proofs.Ytkfcjcbjefpliaa
open Go.RowKit Go.Tg Go.Maps Go.Sort

/-- Every datagram of the pair p, q is young. -/
def Young (l : List Gram) (p q sent : Int) : Prop := ∀ g ∈ l, 0 ≤ g.n ∧ g.n ≤ 9223372036854775807 ∧ (g.f = p → g.t = q → sent - g.n < 20000)

theorem flat_len (l : List Gram) : (flat l).length = l.length * 4 := by
  induction l with
  | nil => rfl
  | cons g l ih =>
    show (g.cells ++ flat l).length = _
    rw [List.length_append, ih]
    simp [Gram.cells]; omega
theorem flat_append (a b : List Gram) : flat (a ++ b) = flat a ++ flat b := by simp [flat]
theorem flat_at (l : List Gram) (k j : Nat) (hk : k < l.length) (hj : j < 4) : (flat l)[k * 4 + j]? = (l[k].cells)[j]? := by
  induction l generalizing k with
  | nil => simp at hk
  | cons g l ih =>
    show (g.cells ++ flat l)[k * 4 + j]? = _
    cases k with
    | zero =>
      rw [Nat.zero_mul, Nat.zero_add, List.getElem?_append_left (by rw [show g.cells.length = 4 from rfl]; omega)]
      rfl
    | succ k =>
      have hl : g.cells.length = 4 := rfl
      rw [List.getElem?_append_right (by rw [hl]; omega), hl, show (k + 1) * 4 + j - 4 = k * 4 + j from by omega, ih k (by simpa using hk)]
      rfl

theorem row_cells {w : World} {sa : Addr} {n cap : Nat} {l : List Gram} (h : w.ownsRow 0 63 4 (.slice (some sa) n cap) l.length (flat l)) : ∃ g, sa = ⟨g, 0, none⟩ ∧ g < w.heap.size ∧ n = l.length ∧ n ≤ cap ∧ cap ≤ maxLen ∧
    (∀ k (hk : k < l.length), w.cell? ⟨g, k * 4, none⟩ = some (.int .i64 l[k].f) ∧ w.cell? ⟨g, k * 4 + 1, none⟩ = some (.int .i64 l[k].t) ∧ w.cell? ⟨g, k * 4 + 2, none⟩ = some (.string l[k].d) ∧ w.cell? ⟨g, k * 4 + 3, none⟩ = some (.int .i64 l[k].n)) := by
  obtain ⟨h0, ⟨h, _⟩ | ⟨g, cp, cur, hv, h1, h2, h3, h4, h5, h6⟩⟩ := h
  · cases h
  · cases hv
    refine ⟨g, rfl, (Array.getElem?_eq_some_iff.1 h2).1, rfl, h3, h4, fun k hk => ?_⟩
    have hat : ∀ j, j < 4 → w.cell? ⟨g, k * 4 + j, none⟩ = (l[k].cells)[j]? := by
      intro j hj
      have h7 : (cur.toList.take (l.length * 4))[k * 4 + j]? = (flat l)[k * 4 + j]? := by rw [h6]
      rw [List.getElem?_take_of_lt (by omega), flat_at l k j hk hj] at h7
      simp only [World.cell?, h2]
      simpa using h7
    exact ⟨hat 0 (by omega), hat 1 (by omega), hat 2 (by omega), hat 3 (by omega)⟩

set_option maxHeartbeats 1000000 in
set_option maxRecDepth 100000 in
theorem idx_none (l : List Gram) (lv : Value) (p q sent : Int) (bp bs bw : Nat) (w : World) (hrow : w.ownsRow 0 63 4 lv l.length (flat l)) (h1 : w.cell? ⟨bp, 0, none⟩ = some (.int .i64 p)) (h2 : w.cell? ⟨bp, 1, none⟩ = some (.int .i64 q)) (h3 : w.cell? ⟨bs, 0, none⟩ = some (.int .i64 sent))
    (hs0 : 0 ≤ sent) (hs1 : sent ≤ 9223372036854775807) (hy : Young l p q sent) :
    Calls Try.prog 32 #[lv, .func (.func 29) #[] #[.pointer (some ⟨bp, 0, none⟩), .pointer (some ⟨bs, 0, none⟩), .pointer (some ⟨bw, 0, none⟩)]] w fun e w' => e = .returned (.int .i64 (-1)) ∧ Keep (fun _ => False) w w' := by
  have bk : ∀ {a : Addr} {v : Value}, w.cell? a = some v → a.block < w.heap.size := fun {a v} h => by
    unfold World.cell? at h
    by_cases hb : a.block < w.heap.size
    · exact hb
    · have : w.heap[a.block]? = none := by simp; omega
      rw [this] at h; cases h
  obtain ⟨_, ⟨rfl, hn⟩ | ⟨g0, cap0, cur0, hv, -⟩⟩ := id hrow
  · go_enter Try.func32, Try.ntmps32
    go_wp2_with fail
    go_loopg [8] 0 (fun n i wr => i = .int .i64 0 ∧ wr = w)
    case atStart => exact ⟨rfl, rfl⟩
    case round =>
      obtain ⟨rfl, rfl⟩ := hrel
      go_wp2_with fail
      go_ret
      exact ⟨rfl, Keep.refl _ _⟩
  · subst hv
    obtain ⟨g, hg, hlt, hn, hcap, hmax, hcells⟩ := row_cells hrow
    cases hg
    have HC := Lib.hid hcells
    have HB1 := Lib.hid (And.intro (bk h1) (And.intro (bk h2) (bk h3)))
    have H123 := Lib.hid (And.intro h1 (And.intro h2 h3))
    have HY := Lib.hid hy
    clear hcells hrow hy h1 h2 h3 bk hn
    obtain ⟨len, hln⟩ : ∃ len, len = l.length := ⟨_, rfl⟩
    rw [← hln] at hcap ⊢
    unfold maxLen at hmax
    go_enter Try.func32, Try.ntmps32
    go_wp2_with fail
    go_loopg [8] len (fun n i wr => ∃ k : Nat, k ≤ len ∧ n = len - k ∧ i = .int .i64 k ∧ Hid (Keep (fun _ => False) w wr))
    case atStart => exact ⟨0, by omega, by omega, rfl, Keep.refl _ _⟩
    case round =>
      obtain ⟨k, hk, rfl, rfl, hK⟩ := hrel
      by_cases hkl : k < len
      · obtain ⟨c0, c1, c2, c3⟩ := HC.out k (by omega)
        have hd : decide ((k : Int) < (len : Int)) = true := by simpa using hkl
        have d0 : wr.cell? ⟨g0, k * 4, none⟩ = _ := (hK.out.cell (p := ⟨g0, k * 4, none⟩) hlt (by simp)).trans c0
        have d1 : wr.cell? ⟨g0, k * 4 + 1, none⟩ = _ := (hK.out.cell (p := ⟨g0, k * 4 + 1, none⟩) hlt (by simp)).trans c1
        have d2 : wr.cell? ⟨g0, k * 4 + 2, none⟩ = _ := (hK.out.cell (p := ⟨g0, k * 4 + 2, none⟩) hlt (by simp)).trans c2
        have d3 : wr.cell? ⟨g0, k * 4 + 3, none⟩ = _ := (hK.out.cell (p := ⟨g0, k * 4 + 3, none⟩) hlt (by simp)).trans c3
        have hyk := HY.out l[k] (List.getElem_mem _)
        have HYK := Lib.hid hyk
        clear c0 c1 c2 c3 hyk
        generalize l[k] = gr at *
        obtain ⟨f, t, d, m⟩ := gr
        simp only at d0 d1 d2 d3
        go_wp2_with fail
        refine (young_any f t d m p q sent bp bs bw _ ((hK.out.cell (p := ⟨bp, 0, none⟩) HB1.out.1 (by simp)).trans H123.out.1) ((hK.out.cell (p := ⟨bp, 1, none⟩) HB1.out.1 (by simp)).trans H123.out.2.1) ((hK.out.cell (p := ⟨bs, 0, none⟩) HB1.out.2.2 (by simp)).trans H123.out.2.2) hs0 hs1 HYK.out.1 HYK.out.2.1 HYK.out.2.2).mono ?_
        rintro e w2 ⟨rfl, hk2⟩
        have HK2 := Lib.hid (hK.out.trans hk2)
        clear hk2
        go_wp2_with fail
        go_roundg (len - (k + 1))
        case measure => omega
        case rel => exact ⟨k + 1, by omega, rfl, by go_num, HK2.out⟩
      · have hd : decide ((k : Int) < (len : Int)) = false := by simpa using hkl
        go_wp2_with fail
        go_ret
        exact ⟨rfl, hK.out⟩
end Go.Proofs.Ytkfcjcbjefpliaa
