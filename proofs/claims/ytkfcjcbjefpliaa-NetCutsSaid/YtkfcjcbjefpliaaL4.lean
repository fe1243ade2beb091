import Derived.Test.YtkfcjcbjefpliaaN26
namespace Go.Proofs.Ytkfcjcbjefpliaa
open Go.RowKit Go.Tg Go.Maps Go.Sort

/-- Two boxes of the law's own. -/
def NB (bp bq : Nat) : Nat → Prop := fun k => (False ∨ k = bp) ∨ k = bq

/-- The law's state: how many are on their way, what was sent and lost of either pair, whether the first is cut. -/
structure CutsP (W : World) (b bp bq nl s1 l1 s2 : Nat) (ct : Bool) (w : World) : Prop where
  ex : ∃ st, NetI W (NB bp bq) b st w ∧ st.l.length = nl ∧ (st.at' 1 2).getD (0, 0) = ((s1 : Int), (l1 : Int)) ∧ (st.at' 2 1).getD (0, 0) = ((s2 : Int), 0) ∧ st.cut 1 2 = ct ∧ st.cut 2 1 = false ∧ ∀ g ∈ st.l, 0 ≤ g.n ∧ g.n ≤ 1000000
  hp : w.heap[bp]? = some (.cells #[.int .i64 1, .int .i64 2] 39 (0, 0))
  hq : w.heap[bq]? = some (.cells #[.int .i64 2, .int .i64 1] 39 (0, 0))

theorem CutsP.keep {W w : World} {b bp bq nl s1 l1 s2 : Nat} {ct : Bool} (h : CutsP W b bp bq nl s1 l1 s2 ct w) : Keep (fun _ => False) W w := by
  obtain ⟨st, hI, _⟩ := h.ex
  exact hI.keep
theorem CutsP.still {W w w' : World} {b bp bq nl s1 l1 s2 : Nat} {ct : Bool} (h : CutsP W b bp bq nl s1 l1 s2 ct w) (hk : Keep (fun _ => False) w w') : CutsP W b bp bq nl s1 l1 s2 ct w' := by
  obtain ⟨st, hI, hr⟩ := h.ex
  exact ⟨⟨st, (hI.still hk).1, hr⟩, (hk.block _ (Array.getElem?_eq_some_iff.1 h.hp).1 (fun h => h)).trans h.hp, (hk.block _ (Array.getElem?_eq_some_iff.1 h.hq).1 (fun h => h)).trans h.hq⟩
theorem CutsP.boxes {W w w' : World} {b bp bq nl s1 l1 s2 : Nat} {ct : Bool} (h : CutsP W b bp bq nl s1 l1 s2 ct w) (hk : Kp W (NB bp bq) w w') :
    w'.heap[bp]? = some (.cells #[.int .i64 1, .int .i64 2] 39 (0, 0)) ∧ w'.heap[bq]? = some (.cells #[.int .i64 2, .int .i64 1] 39 (0, 0)) :=
  ⟨(hk.at (Array.getElem?_eq_some_iff.1 h.hp).1 (Or.inl (Or.inr rfl))).trans h.hp, (hk.at (Array.getElem?_eq_some_iff.1 h.hq).1 (Or.inr rfl)).trans h.hq⟩

theorem young_of {l : List Gram} (h : ∀ g ∈ l, 0 ≤ g.n ∧ g.n ≤ 1000000) (p q s : Int) (hs : s ≤ 10000) : Young l p q s := fun g hg => ⟨(h g hg).1, by have := (h g hg).2; omega, fun _ _ => by have := (h g hg).1; omega⟩

theorem CutsP.send1 {W w : World} {b bp bq nl s1 l1 s2 : Nat} {ct : Bool} (h : CutsP W b bp bq nl s1 l1 s2 ct w) (hn : nl < 600) (h1 : s1 ≤ 1000) (h2 : l1 ≤ 1000) :
    Calls Try.prog 11 #[.pointer (some ⟨b, 0, none⟩), .agg #[.int .i64 1, .int .i64 2, .string ⟨#[]⟩]] w fun e w' => e = .returned (.int .i64 0) ∧ CutsP W b bp bq (if ct then nl else nl + 1) (s1 + 1) (if ct then l1 + 1 else l1) s2 ct w' := by
  obtain ⟨st, hI, hl, ha, hb, hc, hd, hg⟩ := h.ex
  refine (hI.send 1 2 ⟨#[]⟩ i64_one i64_two (by decide) s1 l1 ha (by omega) (by omega) (by omega) (by omega) (young_of hg _ _ _ (by omega))).mono ?_
  rintro e w' ⟨rfl, hI', hk⟩
  refine ⟨rfl, ⟨_, hI', ?_⟩, (h.boxes hk).1, (h.boxes hk).2⟩
  have hb' : ∀ v : Int × Int, (setAt st.at' 1 2 v 2 1).getD (0, 0) = ((s2 : Int), 0) := by intro v; simp only [setAt]; rw [if_neg (by omega)]; exact hb
  cases ct
  · rw [sendS_room ha hc (by omega)]
    refine ⟨by simp [hl], by rw [setAt_same]; simp, hb' ((s1 : Int) + 1, (l1 : Int)), hc, hd, ?_⟩
    intro g hg'
    rcases List.mem_append.1 hg' with h' | h'
    · exact hg g h'
    · simp at h'; subst h'; simp; omega
  · rw [sendS_cut ha hc]
    refine ⟨by simpa using hl, by rw [setAt_same]; simp, hb' ((s1 : Int) + 1, (l1 : Int) + 1), hc, hd, hg⟩

theorem CutsP.send2 {W w : World} {b bp bq nl s1 l1 s2 : Nat} {ct : Bool} (h : CutsP W b bp bq nl s1 l1 s2 ct w) (hn : nl < 600) (h1 : s2 ≤ 1000) :
    Calls Try.prog 11 #[.pointer (some ⟨b, 0, none⟩), .agg #[.int .i64 2, .int .i64 1, .string ⟨#[]⟩]] w fun e w' => e = .returned (.int .i64 0) ∧ CutsP W b bp bq (nl + 1) s1 l1 (s2 + 1) ct w' := by
  obtain ⟨st, hI, hl, ha, hb, hc, hd, hg⟩ := h.ex
  refine (hI.send 2 1 ⟨#[]⟩ i64_two i64_one (by decide) s2 0 hb (by omega) (by omega) (by omega) (by omega) (young_of hg _ _ _ (by omega))).mono ?_
  rintro e w' ⟨rfl, hI', hk⟩
  refine ⟨rfl, ⟨_, hI', ?_⟩, (h.boxes hk).1, (h.boxes hk).2⟩
  rw [sendS_room hb hd (by omega)]
  refine ⟨by simp [hl], ?_, by rw [setAt_same]; simp, hc, hd, ?_⟩
  · simp only [setAt]; rw [if_neg (by omega)]; exact ha
  · intro g hg'
    rcases List.mem_append.1 hg' with h' | h'
    · exact hg g h'
    · simp at h'; subst h'; simp; omega

theorem CutsP.cut {W w : World} {b bp bq nl s1 l1 s2 : Nat} {ct : Bool} (h : CutsP W b bp bq nl s1 l1 s2 ct w) (on : Bool) :
    Calls Try.prog 17 #[.pointer (some ⟨b, 0, none⟩), .agg #[.int .i64 1, .int .i64 2], .bool on] w fun e w' => e = .returned (.tuple #[]) ∧ CutsP W b bp bq nl s1 l1 s2 on w' := by
  obtain ⟨st, hI, hl, ha, hb, hc, hd, hg⟩ := h.ex
  refine (hI.cutIt 1 2 i64_one i64_two on).mono ?_
  rintro e w' ⟨rfl, hI', hk⟩
  refine ⟨rfl, ⟨_, hI', hl, ha, hb, by simp [setCut], ?_, hg⟩, (h.boxes hk).1, (h.boxes hk).2⟩
  simp only [setCut]
  rw [if_neg (by omega)]
  exact hd

theorem CutsP.len {W w : World} {b bp bq nl s1 l1 s2 : Nat} {ct : Bool} (h : CutsP W b bp bq nl s1 l1 s2 ct w) :
    Calls Try.prog 13 #[.pointer (some ⟨b, 0, none⟩)] w fun e w' => e = .returned (.int .i64 nl) ∧ w' = w := by
  obtain ⟨st, hI, hl, _⟩ := h.ex
  have := hI.len
  rw [hl] at this
  exact this
theorem CutsP.sent {W w : World} {b bp bq nl s1 l1 s2 : Nat} {ct : Bool} (h : CutsP W b bp bq nl s1 l1 s2 ct w) (x y s : Int) (hxy : x = 1 ∧ y = 2 ∧ s = s1 ∨ x = 2 ∧ y = 1 ∧ s = s2) :
    Calls Try.prog 15 #[.pointer (some ⟨b, 0, none⟩), .agg #[.int .i64 x, .int .i64 y]] w fun e w' => e = .returned (.int .i64 s) ∧ CutsP W b bp bq nl s1 l1 s2 ct w' := by
  obtain ⟨st, hI, hr⟩ := h.ex
  rcases hxy with ⟨rfl, rfl, rfl⟩ | ⟨rfl, rfl, rfl⟩
  · refine (hI.sent 1 2 i64_one i64_two).mono ?_
    rintro e w' ⟨rfl, hI', hk⟩
    exact ⟨by rw [hr.2.1], ⟨st, hI', hr⟩, (h.boxes hk).1, (h.boxes hk).2⟩
  · refine (hI.sent 2 1 i64_two i64_one).mono ?_
    rintro e w' ⟨rfl, hI', hk⟩
    exact ⟨by rw [hr.2.2.1], ⟨st, hI', hr⟩, (h.boxes hk).1, (h.boxes hk).2⟩
theorem CutsP.lost {W w : World} {b bp bq nl s1 l1 s2 : Nat} {ct : Bool} (h : CutsP W b bp bq nl s1 l1 s2 ct w) (x y l : Int) (hxy : x = 1 ∧ y = 2 ∧ l = l1 ∨ x = 2 ∧ y = 1 ∧ l = 0) :
    Calls Try.prog 16 #[.pointer (some ⟨b, 0, none⟩), .agg #[.int .i64 x, .int .i64 y]] w fun e w' => e = .returned (.int .i64 l) ∧ CutsP W b bp bq nl s1 l1 s2 ct w' := by
  obtain ⟨st, hI, hr⟩ := h.ex
  rcases hxy with ⟨rfl, rfl, rfl⟩ | ⟨rfl, rfl, rfl⟩
  · refine (hI.lost 1 2 i64_one i64_two).mono ?_
    rintro e w' ⟨rfl, hI', hk⟩
    exact ⟨by rw [hr.2.1], ⟨st, hI', hr⟩, (h.boxes hk).1, (h.boxes hk).2⟩
  · refine (hI.lost 2 1 i64_two i64_one).mono ?_
    rintro e w' ⟨rfl, hI', hk⟩
    exact ⟨by rw [hr.2.2.1], ⟨st, hI', hr⟩, (h.boxes hk).1, (h.boxes hk).2⟩
theorem CutsP.cells {W w : World} {b bp bq nl s1 l1 s2 : Nat} {ct : Bool} (h : CutsP W b bp bq nl s1 l1 s2 ct w) :
    w.cell? ⟨bp, 0, none⟩ = some (.int .i64 1) ∧ w.cell? ⟨bp, 1, none⟩ = some (.int .i64 2) ∧ w.cell? ⟨bq, 0, none⟩ = some (.int .i64 2) ∧ w.cell? ⟨bq, 1, none⟩ = some (.int .i64 1) :=
  ⟨cell_of h.hp 0 _ rfl, cell_of h.hp 1 _ rfl, cell_of h.hq 0 _ rfl, cell_of h.hq 1 _ rfl⟩

set_option maxHeartbeats 4000000 in
set_option maxRecDepth 100000 in
theorem cuts_bad (n m : Int) (w : World) (h : n < 0 ∨ 50 < n ∨ m < 0 ∨ 50 < m) :
    Calls Try.prog 7 #[.int .i64 n, .int .i64 m] w fun e w' => e = .returned (.bool true) ∧ Below w.heap.size w w' := by
  by_cases h1 : n < 0
  all_goals by_cases h2 : 50 < n
  all_goals by_cases h3 : m < 0
  all_goals by_cases h4 : 50 < m
  all_goals first
    | omega
    | (clear h
       go_enter Try.func7, Try.ntmps7
       go_wp2_with fail
       refine (alive_any w).mono ?_
       rintro e w1 ⟨rfl, hk⟩
       have HK := Lib.hid hk
       clear hk
       go_wp2_with fail
       go_ret
       exact ⟨rfl, HK.out.below (Nat.le_refl _) (fun _ _ h => h)⟩)

set_option maxHeartbeats 4000000 in
set_option maxRecDepth 100000 in
theorem cuts_ok (n m : Nat) (w : World) (hn : n ≤ 50) (hm : m ≤ 50) :
    Calls Try.prog 7 #[.int .i64 n, .int .i64 m] w fun e w' => e = .returned (.bool true) ∧ Below w.heap.size w w' := by
  have q1 : decide ((n : Int) < 0) = false := by simp
  have q2 : decide ((50 : Int) < (n : Int)) = false := by simp; omega
  have q3 : decide ((m : Int) < 0) = false := by simp
  have q4 : decide ((50 : Int) < (m : Int)) = false := by simp; omega
  have HN := Lib.hid (NetI.new (W := w) (Keep.refl _ w) (fun _ => False) (fun _ h => h.elim))
  have heq := eql24a
  go_enter Try.func7, Try.ntmps7
  go_wp2_with fail
  refine HN.out.mono ?_
  rintro e w1 ⟨rfl, hh1, -⟩
  generalize hbe : w.heap.size = b at hh1 ⊢
  have HBE := Lib.hid hbe
  have hz1 := size2 w1 (.cells #[.int .i64 1, .int .i64 2] 39) (.cells #[.int .i64 2, .int .i64 1] 39)
  have g0 := get20 w1 (.cells #[.int .i64 1, .int .i64 2] 39) (.cells #[.int .i64 2, .int .i64 1] 39)
  have g1 := get21 w1 (.cells #[.int .i64 1, .int .i64 2] 39) (.cells #[.int .i64 2, .int .i64 1] 39)
  have ha : (w1.alloc (.cells #[.int .i64 1, .int .i64 2] 39)).heap.size = w1.heap.size + 1 := Array.size_push _
  have hb1 := hh1.box (w' := w1.alloc (.cells #[.int .i64 1, .int .i64 2] 39)) w1.heap.size (Nat.le_refl _) (by omega) ((Keep.refl _ _).alloc _)
  have hb2 := hb1.box (w' := (w1.alloc (.cells #[.int .i64 1, .int .i64 2] 39)).alloc (.cells #[.int .i64 2, .int .i64 1] 39)) (w1.heap.size + 1) (by omega) (by omega) ((Keep.refl _ _).alloc _)
  have H1 : Hid (CutsP w b w1.heap.size (w1.heap.size + 1) 0 0 0 0 false ((w1.alloc (.cells #[.int .i64 1, .int .i64 2] 39)).alloc (.cells #[.int .i64 2, .int .i64 1] 39))) :=
    Lib.hid ⟨⟨st0, hb2, rfl, rfl, rfl, rfl, rfl, fun g hg => by cases hg⟩, g0, g1⟩
  clear hbe hh1 HN hz1 g0 g1 ha hb1 hb2
  go_wp2_with fail
  go_loopg [8] n (fun x i wr => ∃ k : Nat, k ≤ n ∧ x = n - k ∧ i = .int .i64 k ∧ Hid (CutsP w b w1.heap.size (w1.heap.size + 1) k k 0 0 false wr))
  case atStart => exact ⟨0, by omega, by omega, rfl, H1.out⟩
  case round =>
    obtain ⟨k, hk, rfl, rfl, hH⟩ := hrel
    have HH := Lib.hid hH.out
    clear hH H1
    by_cases hlt : k < n
    · go_wp2_with fail
      refine (HH.out.send1 (by omega) (by omega) (by omega)).mono ?_
      rintro e w2 ⟨rfl, h2⟩
      have H2 := Lib.hid h2
      clear h2
      go_wp2_with fail
      go_roundg (n - (k + 1))
      case measure => omega
      case rel => exact ⟨k + 1, by omega, rfl, by go_num, H2.out⟩
    · obtain rfl : k = n := by omega
      obtain ⟨c0, c1, c2, c3⟩ := HH.out.cells
      go_wp2_with fail
      refine (HH.out.cut true).mono ?_
      rintro e w3 ⟨rfl, h3⟩
      have H3 := Lib.hid h3
      clear h3 c0 c1 c2 c3 HH
      go_wp2_with fail
      go_loopg [9] m (fun x i wq => ∃ j : Nat, j ≤ m ∧ x = m - j ∧ i = .int .i64 j ∧ Hid (CutsP w b w1.heap.size (w1.heap.size + 1) (k + j) (k + j) j j true wq))
      case atStart => exact ⟨0, by omega, by omega, rfl, H3.out⟩
      case round =>
        rename_i wq _ _
        obtain ⟨j, hj, rfl, rfl, hH⟩ := hrel
        have HH := Lib.hid hH.out
        clear hH H3
        by_cases hlt : j < m
        · go_wp2_with fail
          refine (HH.out.send1 (by omega) (by omega) (by omega)).mono ?_
          rintro e w4 ⟨rfl, h4⟩
          have H4 := Lib.hid h4
          clear h4 HH
          go_wp2_with fail
          refine (H4.out.send2 (by simp; omega) (by omega)).mono ?_
          rintro e w5 ⟨rfl, h5⟩
          have H5 := Lib.hid h5
          clear h5 H4
          go_wp2_with fail
          go_roundg (m - (j + 1))
          case measure => omega
          case rel => exact ⟨j + 1, by omega, rfl, by go_num, H5.out⟩
        · obtain rfl : j = m := by omega
          obtain ⟨c0, c1, c2, c3⟩ := HH.out.cells
          go_wp2_with fail
          refine (HH.out.cut false).mono ?_
          rintro e w4 ⟨rfl, h4⟩
          have H4 := Lib.hid h4
          clear h4 c0 c1 c2 c3 HH
          go_wp2_with fail
          refine (H4.out.send1 (by omega) (by omega) (by omega)).mono ?_
          rintro e w5 ⟨rfl, h5⟩
          have H5 : Hid (CutsP w b w1.heap.size (w1.heap.size + 1) (k + j + 1) (k + j + 1) j j false w5) := Lib.hid h5
          clear h5 H4
          go_wp2_with fail
          refine (alive_any _).mono ?_
          rintro e w6 ⟨rfl, hk6⟩
          have H6 := Lib.hid (H5.out.still hk6)
          clear hk6 H5
          obtain ⟨c0, c1, c2, c3⟩ := H6.out.cells
          go_wp2_with fail
          refine H6.out.len.mono ?_
          rintro e w7 ⟨rfl, rfl⟩
          go_wp2_with fail
          refine (H6.out.sent 1 2 _ (Or.inl ⟨rfl, rfl, rfl⟩)).mono ?_
          rintro e w8 ⟨rfl, h8⟩
          have H8 := Lib.hid h8
          clear h8 c0 c1 c2 c3 H6
          obtain ⟨c0, c1, c2, c3⟩ := H8.out.cells
          go_wp2_with fail
          refine (H8.out.lost 1 2 _ (Or.inl ⟨rfl, rfl, rfl⟩)).mono ?_
          rintro e w9 ⟨rfl, h9⟩
          have H9 := Lib.hid h9
          clear h9 c0 c1 c2 c3 H8
          obtain ⟨c0, c1, c2, c3⟩ := H9.out.cells
          go_wp2_with fail
          refine (H9.out.sent 2 1 _ (Or.inr ⟨rfl, rfl, rfl⟩)).mono ?_
          rintro e w10 ⟨rfl, h10⟩
          have H10 := Lib.hid h10
          clear h10 c0 c1 c2 c3 H9
          obtain ⟨c0, c1, c2, c3⟩ := H10.out.cells
          go_wp2_with fail
          refine (H10.out.lost 2 1 _ (Or.inr ⟨rfl, rfl, rfl⟩)).mono ?_
          rintro e w11 ⟨rfl, h11⟩
          have H11 := Lib.hid h11.keep
          clear h11 c0 c1 c2 c3 H10
          go_wp2_with fail
          go_ret
          exact ⟨rfl, H11.out.below (Nat.le_refl _) (fun _ _ h => h)⟩

theorem cuts_walk (n m : Int) (w : World) : Calls Try.prog 7 #[.int .i64 n, .int .i64 m] w fun e w' => e = .returned (.bool true) ∧ Below w.heap.size w w' := by
  by_cases h : n < 0 ∨ 50 < n ∨ m < 0 ∨ 50 < m
  · exact cuts_bad n m w h
  · obtain ⟨n', rfl⟩ := Int.eq_ofNat_of_zero_le (show 0 ≤ n by omega)
    obtain ⟨m', rfl⟩ := Int.eq_ofNat_of_zero_le (show 0 ≤ m by omega)
    exact cuts_ok n' m' w (by omega) (by omega)
end Go.Proofs.Ytkfcjcbjefpliaa
