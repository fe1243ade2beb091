import Derived.Test.YtkfcjcbjefpliaaN30
import Derived.Test.YtkfcjcbjefpliaaL3
namespace Go.Proofs.Ytkfcjcbjefpliaa
open Go.RowKit Go.Tg Go.Maps Go.Sort

theorem NetI.sendOld {W w : World} {N : Nat → Prop} {b : Nat} {st : NetS} (h : NetI W N b st w) (f t : Int) (d : ByteArray) (hf : I64 f) (ht : I64 t)
    (hd : d.size ≤ 1514) (s l : Int) (hsl : (st.at' f t).getD (0, 0) = (s, l)) (hs0 : 0 ≤ s) (hs1 : s < 4611686018427387904) (hl0 : 0 ≤ l) (hl1 : l < 4611686018427387904) (d0 : ByteArray) (n0 : Int) (hll : st.l = [Gram.mk f t d0 n0]) (hn0 : 0 ≤ n0) (hn1 : n0 ≤ 9223372036854775807) (hy : 20000 ≤ s + 1 - n0) (hcu : st.cut f t = true) :
    Calls Try.prog 11 #[.pointer (some ⟨b, 0, none⟩), .agg #[.int .i64 f, .int .i64 t, .string d]] w fun e w' => e = .returned (.int .i64 0) ∧ NetI W N b { st with l := [], at' := setAt st.at' f t (s + 1, l + 1 + 1) } w' ∧ Kp W N w w' := by
  obtain ⟨S, loc, lv, av, cv, hv, hS⟩ := h.ex
  refine (send_old hv f t d hf ht hd s l hsl hs0 hs1 hl0 hl1 d0 n0 hll hn0 hn1 hy hcu).mono ?_
  rintro e w' ⟨loc', lv', av', rfl, h', hk⟩
  exact ⟨rfl, h.step hS h' hk⟩

def oldG : Gram := Gram.mk 1 2 ⟨#[111, 108, 100]⟩ 1

/-- Behind k sends of the same pair. -/
def Ag2 (W : World) (b k : Nat) (w : World) : Prop := ∃ st, NetI W (fun _ => False) b st w ∧ st.l = (if k < 20000 then [oldG] else []) ∧ st.cut 1 2 = true ∧ (st.at' 1 2).getD (0, 0) = (1 + (k : Int), if k < 20000 then (k : Int) else (k : Int) + 1)
/-- Behind k sends of another pair. -/
def Ag3 (W : World) (b k : Nat) (w : World) : Prop := ∃ st, NetI W (fun _ => False) b st w ∧ st.l = [oldG] ∧ st.cut 1 3 = true ∧ (st.at' 1 3).getD (0, 0) = ((k : Int), (k : Int))

theorem Ag2.send {W w : World} {b k : Nat} (h : Ag2 W b k w) (hk : k ≤ 30000) :
    Calls Try.prog 11 #[.pointer (some ⟨b, 0, none⟩), .agg #[.int .i64 1, .int .i64 2, .string ⟨#[]⟩]] w fun e w' => e = .returned (.int .i64 0) ∧ Ag2 W b (k + 1) w' := by
  obtain ⟨st, hI, hl, hc, hat⟩ := h
  by_cases h1 : k + 1 < 20000
  · rw [if_pos (by omega)] at hl hat
    refine (hI.send 1 2 ⟨#[]⟩ i64_one i64_two (by decide) _ _ hat (by omega) (by omega) (by omega) (by omega) ?_).mono ?_
    · rw [hl]
      intro g hg
      simp at hg
      subst hg
      exact ⟨by decide, by decide, fun _ _ => by show _ - (1 : Int) < 20000; omega⟩
    · rintro e w' ⟨rfl, hI', -⟩
      rw [sendS_cut hat hc] at hI'
      refine ⟨rfl, _, hI', by rw [if_pos h1]; exact hl, hc, ?_⟩
      rw [if_pos h1, setAt_same]
      simp only [Prod.mk.injEq]
      omega
  · by_cases h2 : k < 20000
    · rw [if_pos h2] at hl hat
      refine (hI.sendOld 1 2 ⟨#[]⟩ i64_one i64_two (by decide) _ _ hat (by omega) (by omega) (by omega) (by omega) ⟨#[111, 108, 100]⟩ 1 hl (by decide) (by decide) (by omega) hc).mono ?_
      rintro e w' ⟨rfl, hI', -⟩
      refine ⟨rfl, _, hI', by rw [if_neg h1], hc, ?_⟩
      rw [if_neg h1, setAt_same]
      simp only [Prod.mk.injEq]
      omega
    · rw [if_neg h2] at hl hat
      refine (hI.send 1 2 ⟨#[]⟩ i64_one i64_two (by decide) _ _ hat (by omega) (by omega) (by omega) (by omega) (by rw [hl]; intro g hg; cases hg)).mono ?_
      rintro e w' ⟨rfl, hI', -⟩
      rw [sendS_cut hat hc] at hI'
      refine ⟨rfl, _, hI', by rw [if_neg h1]; exact hl, hc, ?_⟩
      rw [if_neg h1, setAt_same]
      simp only [Prod.mk.injEq]
      omega
theorem Ag3.send {W w : World} {b k : Nat} (h : Ag3 W b k w) (hk : k ≤ 30000) :
    Calls Try.prog 11 #[.pointer (some ⟨b, 0, none⟩), .agg #[.int .i64 1, .int .i64 3, .string ⟨#[]⟩]] w fun e w' => e = .returned (.int .i64 0) ∧ Ag3 W b (k + 1) w' := by
  obtain ⟨st, hI, hl, hc, hat⟩ := h
  refine (hI.send 1 3 ⟨#[]⟩ i64_one i64_three (by decide) _ _ hat (by omega) (by omega) (by omega) (by omega) ?_).mono ?_
  · rw [hl]
    intro g hg
    simp at hg
    subst hg
    exact ⟨by decide, by decide, fun _ h => by exact absurd h (by decide)⟩
  · rintro e w' ⟨rfl, hI', -⟩
    rw [sendS_cut hat hc] at hI'
    refine ⟨rfl, _, hI', hl, hc, ?_⟩
    rw [setAt_same]
    simp

/-- One datagram is on its way. -/
def Ag1 (W : World) (b : Nat) (w : World) : Prop := ∃ st, NetI W (fun _ => False) b st w ∧ st.l = [oldG]
/-- None is, and so many were lost. -/
def Ag0 (W : World) (b : Nat) (m : Int) (w : World) : Prop := ∃ st, NetI W (fun _ => False) b st w ∧ st.l = [] ∧ ((st.at' 1 2).getD (0, 0)).2 = m
theorem Ag2.one {W w : World} {b k : Nat} (h : Ag2 W b k w) (hk : k < 20000) : Ag1 W b w := by
  obtain ⟨st, hI, hl, _⟩ := h
  exact ⟨st, hI, by rw [hl, if_pos hk]⟩
theorem Ag3.one {W w : World} {b k : Nat} (h : Ag3 W b k w) : Ag1 W b w := by
  obtain ⟨st, hI, hl, _⟩ := h
  exact ⟨st, hI, hl⟩
theorem Ag2.zero {W w : World} {b k : Nat} (h : Ag2 W b k w) (hk : ¬ k < 20000) : Ag0 W b ((k : Int) + 1) w := by
  obtain ⟨st, hI, hl, _, hat⟩ := h
  rw [if_neg hk] at hl hat
  exact ⟨st, hI, hl, by rw [hat]⟩
theorem Ag1.keep {W w : World} {b : Nat} (h : Ag1 W b w) : Keep (fun _ => False) W w := by obtain ⟨st, hI, _⟩ := h; exact hI.keep
theorem Ag0.keep {W w : World} {b : Nat} {m : Int} (h : Ag0 W b m w) : Keep (fun _ => False) W w := by obtain ⟨st, hI, _⟩ := h; exact hI.keep
theorem Ag1.still {W w w' : World} {b : Nat} (h : Ag1 W b w) (hk : Keep (fun _ => False) w w') : Ag1 W b w' := by obtain ⟨st, hI, hl⟩ := h; exact ⟨st, (hI.still hk).1, hl⟩
theorem Ag0.still {W w w' : World} {b : Nat} {m : Int} (h : Ag0 W b m w) (hk : Keep (fun _ => False) w w') : Ag0 W b m w' := by obtain ⟨st, hI, hl⟩ := h; exact ⟨st, (hI.still hk).1, hl⟩
theorem Ag1.peek {W w : World} {b : Nat} (h : Ag1 W b w) :
    Calls Try.prog 18 #[.pointer (some ⟨b, 0, none⟩), .int .i64 0] w fun e w' => e = .returned (.tuple #[.agg #[.int .i64 1, .int .i64 2, .string ⟨#[111, 108, 100]⟩], .int .i64 0]) ∧ Ag1 W b w' := by
  obtain ⟨st, hI, hl⟩ := h
  have h0 : 0 < st.l.length := by rw [hl]; exact Nat.zero_lt_one
  have hP := hI.peek_ok 0 h0 (by rw [hl]; show 1 ≤ 1000000; omega)
  have hg : st.l[0] = oldG := by simp only [hl, List.getElem_cons_zero]
  rw [hg] at hP
  refine hP.mono ?_
  rintro e w' ⟨rfl, hI', -⟩
  exact ⟨rfl, st, hI', hl⟩
theorem Ag0.peek {W w : World} {b : Nat} {m : Int} (h : Ag0 W b m w) :
    Calls Try.prog 18 #[.pointer (some ⟨b, 0, none⟩), .int .i64 0] w fun e w' => e = .returned (.tuple #[.agg #[.int .i64 0, .int .i64 0, .string (ByteArray.mk #[])], .int .i64 3]) ∧ Ag0 W b m w' := by
  obtain ⟨st, hI, hl, hm⟩ := h
  refine (hI.peek_bad 0 (by rw [hl]; exact Nat.zero_le _) (by rw [hl]; simp)).mono ?_
  rintro e w' ⟨rfl, hI', -⟩
  exact ⟨rfl, st, hI', hl, hm⟩
theorem Ag1.len {W w : World} {b : Nat} (h : Ag1 W b w) : Calls Try.prog 13 #[.pointer (some ⟨b, 0, none⟩)] w fun e w' => e = .returned (.int .i64 1) ∧ w' = w := by
  obtain ⟨st, hI, hl⟩ := h
  have := hI.len
  rw [hl] at this
  exact this
theorem Ag0.len {W w : World} {b : Nat} {m : Int} (h : Ag0 W b m w) : Calls Try.prog 13 #[.pointer (some ⟨b, 0, none⟩)] w fun e w' => e = .returned (.int .i64 0) ∧ w' = w := by
  obtain ⟨st, hI, hl, _⟩ := h
  have := hI.len
  rw [hl] at this
  exact this
theorem Ag0.lost {W w : World} {b : Nat} {m : Int} (h : Ag0 W b m w) : Calls Try.prog 16 #[.pointer (some ⟨b, 0, none⟩), .agg #[.int .i64 1, .int .i64 2]] w fun e w' => e = .returned (.int .i64 m) ∧ Ag0 W b m w' := by
  obtain ⟨st, hI, hl, hm⟩ := h
  refine (hI.lost 1 2 i64_one i64_two).mono ?_
  rintro e w' ⟨rfl, hI', -⟩
  exact ⟨by rw [hm], st, hI', hl, hm⟩

/-- The net ahead of the loop. -/
def Ages0 (W : World) (b : Nat) (w : World) : Prop := Ag2 W b 0 w ∧ Ag3 W b 0 w
theorem ages_start {W w : World} {b : Nat} (h : NetI W (fun _ => False) b st0 w) :
    Calls Try.prog 11 #[.pointer (some ⟨b, 0, none⟩), .agg #[.int .i64 1, .int .i64 2, .string ⟨#[111, 108, 100]⟩]] w fun e w' => e = .returned (.int .i64 0) ∧ NetI W (fun _ => False) b (spS ⟨#[111, 108, 100]⟩) w' := by
  refine (h.send 1 2 ⟨#[111, 108, 100]⟩ i64_one i64_two (by decide) 0 0 rfl (by omega) (by omega) (by omega) (by omega) (by intro g hg; cases hg)).mono ?_
  rintro e w2 ⟨rfl, hh2, -⟩
  rw [send_sp] at hh2
  exact ⟨rfl, hh2⟩

set_option maxHeartbeats 4000000 in
set_option maxRecDepth 100000 in
theorem ages_bad (n : Int) (other : Bool) (w : World) (h : n < 0 ∨ 20100 < n) :
    Calls Try.prog 5 #[.int .i64 n, .bool other] w fun e w' => e = .returned (.bool true) ∧ Below w.heap.size w w' := by
  by_cases h1 : n < 0
  all_goals by_cases h2 : 20100 < n
  all_goals first
    | omega
    | (clear h
       go_enter Try.func5, Try.ntmps5
       go_wp2_with fail
       refine (alive_any w).mono ?_
       rintro e w1 ⟨rfl, hk⟩
       have HK := Lib.hid hk
       clear hk
       go_wp2_with fail
       go_ret
       exact ⟨rfl, HK.out.below (Nat.le_refl _) (fun _ _ h => h)⟩)

set_option maxHeartbeats 4000000 in
set_option maxRecDepth 100000 in
theorem ages_two (n : Nat) (w : World) (hn : n ≤ 20100) :
    Calls Try.prog 5 #[.int .i64 n, .bool false] w fun e w' => e = .returned (.bool true) ∧ Below w.heap.size w w' := by
  have q1 : decide ((n : Int) < 0) = false := by simp
  have q2 : decide ((20100 : Int) < (n : Int)) = false := by simp; omega
  have HN := Lib.hid (NetI.new (W := w) (Keep.refl _ w) (fun _ => False) (fun _ h => h.elim))
  have heq := eql24a
  go_enter Try.func5, Try.ntmps5
  go_wp2_with fail
  refine HN.out.mono ?_
  rintro e w1 ⟨rfl, hh1, -⟩
  generalize hbe : w.heap.size = b at hh1 ⊢
  have HBE := Lib.hid hbe
  have H1 := Lib.hid hh1
  clear hbe hh1 HN
  go_wp2_with fail
  refine (ages_start H1.out).mono ?_
  rintro e w2 ⟨rfl, hh2⟩
  have H2 := Lib.hid hh2
  clear hh2 H1
  go_wp2_with fail
  refine (H2.out.cutIt 1 2 i64_one i64_two true).mono ?_
  rintro e w3 ⟨rfl, hh3, -⟩
  have H3 := Lib.hid hh3
  clear hh3 H2
  go_wp2_with fail
  refine (H3.out.cutIt 1 3 i64_one i64_three true).mono ?_
  rintro e w4 ⟨rfl, hh4, -⟩
  have H4 : Hid (Ag2 w b 0 w4) := Lib.hid ⟨_, hh4, rfl, by simp [setCut], rfl⟩
  clear hh4 H3
  go_wp2_with fail
  go_loopg [7] n (fun x i wr => ∃ k : Nat, k ≤ n ∧ x = n - k ∧ i = .int .i64 k ∧ Hid (Ag2 w b k wr))
  case atStart => exact ⟨0, by omega, by omega, rfl, H4.out⟩
  case round =>
    obtain ⟨k, hk, rfl, rfl, hH⟩ := hrel
    have HH := Lib.hid hH.out
    clear hH H4
    by_cases hlt : k < n
    · go_wp2_with fail
      refine (HH.out.send (by omega)).mono ?_
      rintro e w5 ⟨rfl, h5⟩
      have H5 := Lib.hid h5
      clear h5 HH
      go_wp2_with fail
      go_roundg (n - (k + 1))
      case measure => omega
      case rel => exact ⟨k + 1, by omega, rfl, by go_num, H5.out⟩
    · obtain rfl : n = k := by omega
      by_cases hge : n < 20000
      · have q3 : decide ((20000 : Int) ≤ (n : Int)) = false := by simp; omega
        have HO := Lib.hid (HH.out.one hge)
        clear HH
        go_wp2_with fail
        refine HO.out.peek.mono ?_
        rintro e w5 ⟨rfl, h5⟩
        have hx5 := get1 w5 (.cells #[.int .i64 1, .int .i64 2, .string ⟨#[111, 108, 100]⟩] 29)
        have hs5 : w5.heap.size < (w5.alloc (.cells #[.int .i64 1, .int .i64 2, .string ⟨#[111, 108, 100]⟩] 29)).heap.size := by show _ < (Array.push _ _).size; rw [Array.size_push]; omega
        have H5 := Lib.hid (And.intro (h5.still (w' := w5.alloc (.cells #[.int .i64 1, .int .i64 2, .string ⟨#[111, 108, 100]⟩] 29)) ((Keep.refl _ _).alloc _)) (And.intro hx5 hs5))
        clear h5 hx5 hs5 HO
        go_wp2_with fail
        refine (alive_any _).mono ?_
        rintro e w6 ⟨rfl, hk6⟩
        have hx6 := (hk6.block _ H5.out.2.2 (fun h => h)).trans H5.out.2.1
        have c6 : w6.cell? ⟨w5.heap.size, 2, none⟩ = some (.string ⟨#[111, 108, 100]⟩) := cell_of hx6 2 _ rfl
        have H6 := Lib.hid (H5.out.1.still hk6)
        clear hk6 hx6 H5
        go_wp2_with fail
        refine H6.out.len.mono ?_
        rintro e w7 ⟨rfl, rfl⟩
        go_wp2_with fail
        go_ret
        exact ⟨rfl, H6.out.keep.below (Nat.le_refl _) (fun _ _ h => h)⟩
      · have q3 : decide ((20000 : Int) ≤ (n : Int)) = true := by simp; omega
        have HO := Lib.hid (HH.out.zero hge)
        clear HH
        go_wp2_with fail
        refine HO.out.peek.mono ?_
        rintro e w5 ⟨rfl, h5⟩
        have H5 := Lib.hid (h5.still (w' := w5.alloc (.cells #[.int .i64 0, .int .i64 0, .string (ByteArray.mk #[])] 29)) ((Keep.refl _ _).alloc _))
        clear h5 HO
        go_wp2_with fail
        refine (alive_any _).mono ?_
        rintro e w6 ⟨rfl, hk6⟩
        have H6 := Lib.hid (H5.out.still hk6)
        clear hk6 H5
        go_wp2_with fail
        refine H6.out.len.mono ?_
        rintro e w7 ⟨rfl, rfl⟩
        go_wp2_with fail
        refine H6.out.lost.mono ?_
        rintro e w8 ⟨rfl, h8⟩
        have H8 := Lib.hid h8.keep
        clear h8 H6
        go_wp2_with fail
        go_ret
        exact ⟨rfl, H8.out.below (Nat.le_refl _) (fun _ _ h => h)⟩

set_option maxHeartbeats 4000000 in
set_option maxRecDepth 100000 in
theorem ages_three (n : Nat) (w : World) (hn : n ≤ 20100) :
    Calls Try.prog 5 #[.int .i64 n, .bool true] w fun e w' => e = .returned (.bool true) ∧ Below w.heap.size w w' := by
  have q1 : decide ((n : Int) < 0) = false := by simp
  have q2 : decide ((20100 : Int) < (n : Int)) = false := by simp; omega
  have HN := Lib.hid (NetI.new (W := w) (Keep.refl _ w) (fun _ => False) (fun _ h => h.elim))
  have heq := eql24a
  go_enter Try.func5, Try.ntmps5
  go_wp2_with fail
  refine HN.out.mono ?_
  rintro e w1 ⟨rfl, hh1, -⟩
  generalize hbe : w.heap.size = b at hh1 ⊢
  have HBE := Lib.hid hbe
  have H1 := Lib.hid hh1
  clear hbe hh1 HN
  go_wp2_with fail
  refine (ages_start H1.out).mono ?_
  rintro e w2 ⟨rfl, hh2⟩
  have H2 := Lib.hid hh2
  clear hh2 H1
  go_wp2_with fail
  refine (H2.out.cutIt 1 2 i64_one i64_two true).mono ?_
  rintro e w3 ⟨rfl, hh3, -⟩
  have H3 := Lib.hid hh3
  clear hh3 H2
  go_wp2_with fail
  refine (H3.out.cutIt 1 3 i64_one i64_three true).mono ?_
  rintro e w4 ⟨rfl, hh4, -⟩
  have H4 : Hid (Ag3 w b 0 w4) := Lib.hid ⟨_, hh4, rfl, by simp [setCut], rfl⟩
  clear hh4 H3
  go_wp2_with fail
  go_loopg [7] n (fun x i wr => ∃ k : Nat, k ≤ n ∧ x = n - k ∧ i = .int .i64 k ∧ Hid (Ag3 w b k wr))
  case atStart => exact ⟨0, by omega, by omega, rfl, H4.out⟩
  case round =>
    obtain ⟨k, hk, rfl, rfl, hH⟩ := hrel
    have HH := Lib.hid hH.out
    clear hH H4
    by_cases hlt : k < n
    · go_wp2_with fail
      refine (HH.out.send (by omega)).mono ?_
      rintro e w5 ⟨rfl, h5⟩
      have H5 := Lib.hid h5
      clear h5 HH
      go_wp2_with fail
      go_roundg (n - (k + 1))
      case measure => omega
      case rel => exact ⟨k + 1, by omega, rfl, by go_num, H5.out⟩
    · obtain rfl : n = k := by omega
      have HO := Lib.hid (HH.out.one)
      clear HH
      go_wp2_with fail
      refine HO.out.peek.mono ?_
      rintro e w5 ⟨rfl, h5⟩
      have hx5 := get1 w5 (.cells #[.int .i64 1, .int .i64 2, .string ⟨#[111, 108, 100]⟩] 29)
      have hs5 : w5.heap.size < (w5.alloc (.cells #[.int .i64 1, .int .i64 2, .string ⟨#[111, 108, 100]⟩] 29)).heap.size := by show _ < (Array.push _ _).size; rw [Array.size_push]; omega
      have H5 := Lib.hid (And.intro (h5.still (w' := w5.alloc (.cells #[.int .i64 1, .int .i64 2, .string ⟨#[111, 108, 100]⟩] 29)) ((Keep.refl _ _).alloc _)) (And.intro hx5 hs5))
      clear h5 hx5 hs5 HO
      go_wp2_with fail
      refine (alive_any _).mono ?_
      rintro e w6 ⟨rfl, hk6⟩
      have hx6 := (hk6.block _ H5.out.2.2 (fun h => h)).trans H5.out.2.1
      have c6 : w6.cell? ⟨w5.heap.size, 2, none⟩ = some (.string ⟨#[111, 108, 100]⟩) := cell_of hx6 2 _ rfl
      have H6 := Lib.hid (H5.out.1.still hk6)
      clear hk6 hx6 H5
      go_wp2_with fail
      refine H6.out.len.mono ?_
      rintro e w7 ⟨rfl, rfl⟩
      go_wp2_with fail
      go_ret
      exact ⟨rfl, H6.out.keep.below (Nat.le_refl _) (fun _ _ h => h)⟩


theorem ages_walk (n : Int) (other : Bool) (w : World) : Calls Try.prog 5 #[.int .i64 n, .bool other] w fun e w' => e = .returned (.bool true) ∧ Below w.heap.size w w' := by
  by_cases h : n < 0 ∨ 20100 < n
  · exact ages_bad n other w h
  · obtain ⟨n', rfl⟩ := Int.eq_ofNat_of_zero_le (show 0 ≤ n by omega)
    cases other
    · exact ages_two n' w (by omega)
    · exact ages_three n' w (by omega)
end Go.Proofs.Ytkfcjcbjefpliaa
