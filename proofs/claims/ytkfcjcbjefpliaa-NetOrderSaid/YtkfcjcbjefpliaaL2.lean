import Derived.Test.YtkfcjcbjefpliaaN23
import Derived.WalkArith
namespace Go.Proofs.Ytkfcjcbjefpliaa
open Go.RowKit Go.Tg Go.Maps Go.Sort

/-- What is known of a slice of strings that came in. -/
def SElems (w : World) (a : Option Addr) (n : Nat) (ss : List ByteArray) : Prop :=
  ∀ i, i < n → ∃ b off, a = some ⟨b, off, none⟩ ∧ b < w.heap.size ∧ w.cell? ⟨b, off + i, none⟩ = some (.string (ss.getD i ByteArray.empty)) ∧ (ss.getD i ByteArray.empty).size ≤ maxLen

theorem selems_of {w : World} {x : Addr} {len : Nat} {ss : List ByteArray} (hl : len ≤ ss.length) (hc : ∀ i, i < ss.length → w.cell? (x.add i) = some (.string (ss.getD i ByteArray.empty))) (hs : ∀ s ∈ ss, s.size ≤ maxLen) : SElems w (some x) len ss := by
  intro i hi
  have h6 := hc i (by omega)
  obtain ⟨b, off, spot⟩ := x
  have hn : spot = none := by
    cases spot with
    | none => rfl
    | some s =>
      exfalso
      have h0 := hc 0 (by omega)
      simp only [Addr.add, World.cell?, if_true, Option.isSome_some] at h0
      split at h0 <;> cases h0
  subst hn
  rw [Addr.add_lit] at h6
  refine ⟨b, off, rfl, ?_, h6, hs _ ?_⟩
  · unfold World.cell? at h6
    by_cases hb : b < w.heap.size
    · exact hb
    · have : w.heap[b]? = none := by simp; omega
      simp [this] at h6
  · rw [List.getD_eq_getElem?_getD, List.getElem?_eq_getElem (by omega)]
    exact List.getElem_mem _
theorem i64_nat (k : Nat) (h : k ≤ 1000000) : I64 (k : Int) := Go.WalkArith.wf_i64 (by omega)

/-- The datagrams that the first k Sends lay. -/
def gl (ss : List ByteArray) (k : Nat) : List Gram := (List.range k).map fun j : Nat => Gram.mk (j : Int) 2 (ss.getD j ByteArray.empty) 1
theorem gl_len (ss : List ByteArray) (k : Nat) : (gl ss k).length = k := by simp [gl]
theorem gl_succ (ss : List ByteArray) (k : Nat) : gl ss (k + 1) = gl ss k ++ [Gram.mk (k : Int) 2 (ss.getD k ByteArray.empty) 1] := by simp [gl, List.range_succ]
theorem gl_young (ss : List ByteArray) (k : Nat) (p q : Int) : Young (gl ss k) p q 1 := by
  intro g hg
  simp only [gl, List.mem_map] at hg
  obtain ⟨j, _, rfl⟩ := hg
  simp
theorem gl_get (ss : List ByteArray) (n k : Nat) (h : k < n) (h' : k < (gl ss n).length) : (gl ss n)[k] = Gram.mk (k : Int) 2 (ss.getD k ByteArray.empty) 1 := by simp [gl]

def Ord1 (W : World) (ss : List ByteArray) (b k : Nat) (w : World) : Prop := ∃ st, NetI W none b st w ∧ st.l = gl ss k ∧ (∀ i : Int, (k : Int) ≤ i → st.at' i 2 = none) ∧ ∀ f t, st.cut f t = false
def Ord2 (W : World) (ss : List ByteArray) (n b k : Nat) (w : World) : Prop := ∃ st, NetI W none b st w ∧ st.l = (gl ss n).drop k

theorem Ord1.send {W w : World} {ss : List ByteArray} {b k : Nat} (h : Ord1 W ss b k w) (hk : k < 100) (hd : (ss.getD k ByteArray.empty).size ≤ 1514) :
    Calls Try.prog 11 #[.pointer (some ⟨b, 0, none⟩), .agg #[.int .i64 k, .int .i64 2, .string (ss.getD k ByteArray.empty)]] w fun e w' => e = .returned (.int .i64 0) ∧ Ord1 W ss b (k + 1) w' ∧ Keep (fun _ => False) W w' := by
  obtain ⟨st, hI, hl, ha, hc⟩ := h
  have h0 : (st.at' (k : Int) 2).getD (0, 0) = (0, 0) := by rw [ha k (Int.le_refl _)]; rfl
  refine (hI.send k 2 _ (i64_nat k (by omega)) i64_two hd 0 0 h0 (by omega) (by omega) (by omega) (by omega) (by rw [hl]; exact gl_young _ _ _ _)).mono ?_
  rintro e w' ⟨rfl, hI', -⟩
  rw [sendS_room h0 (hc _ _) (by rw [hl, gl_len]; omega)] at hI'
  refine ⟨rfl, ⟨_, hI', by simp only; rw [hl, gl_succ]; rfl, ?_, hc⟩, hI'.keep⟩
  intro i hi
  simp only [setAt]
  rw [if_neg (by omega)]
  exact ha i (by omega)

theorem Ord2.deliver {W w : World} {ss : List ByteArray} {n b k : Nat} (h : Ord2 W ss n b k w) (hk : k < n) (hn : n ≤ 100) :
    Calls Try.prog 12 #[.pointer (some ⟨b, 0, none⟩), .int .i64 0] w fun e w' => e = .returned (.tuple #[.agg #[.int .i64 k, .int .i64 2, .string (ss.getD k ByteArray.empty)], .int .i64 0]) ∧ Ord2 W ss n b (k + 1) w' := by
  obtain ⟨st, hI, hl⟩ := h
  have hlen : st.l.length = n - k := by rw [hl, List.length_drop, gl_len]
  have h0 : 0 < st.l.length := by omega
  have hg : st.l[0] = Gram.mk (k : Int) 2 (ss.getD k ByteArray.empty) 1 := by
    simp only [hl, List.getElem_drop, Nat.add_zero]
    exact gl_get ss n k hk _
  have hD := hI.deliver_ok 0 h0 (by omega)
  rw [hg] at hD
  refine hD.mono ?_
  rintro e w' ⟨rfl, hI', -⟩
  refine ⟨rfl, _, hI', ?_⟩
  simp only [hl]
  rw [List.eraseIdx_zero, List.tail_drop]

theorem Ord2.over {W w : World} {ss : List ByteArray} {n b : Nat} (h : Ord2 W ss n b n w) :
    Calls Try.prog 12 #[.pointer (some ⟨b, 0, none⟩), .int .i64 0] w fun e w' => e = .returned (.tuple #[.agg #[.int .i64 0, .int .i64 0, .string (ByteArray.mk #[])], .int .i64 3]) ∧ Ord2 W ss n b n w' := by
  obtain ⟨st, hI, hl⟩ := h
  have hlen : st.l.length = 0 := by rw [hl, List.length_drop, gl_len]; omega
  refine (hI.deliver_bad 0 (by omega) (by omega)).mono ?_
  rintro e w' ⟨rfl, hI', -⟩
  exact ⟨rfl, _, hI', hl⟩

theorem Ord2.still {W w w' : World} {ss : List ByteArray} {n b k : Nat} (h : Ord2 W ss n b k w) (hk : Keep (fun _ => False) w w') : Ord2 W ss n b k w' := by
  obtain ⟨st, hI, hl⟩ := h
  exact ⟨st, (hI.still hk).1, hl⟩
theorem Ord2.keep {W w : World} {ss : List ByteArray} {n b k : Nat} (h : Ord2 W ss n b k w) : Keep (fun _ => False) W w := by
  obtain ⟨st, hI, hl⟩ := h
  exact hI.keep
theorem Ord1.keep {W w : World} {ss : List ByteArray} {b k : Nat} (h : Ord1 W ss b k w) : Keep (fun _ => False) W w := by
  obtain ⟨st, hI, hl⟩ := h
  exact hI.keep
theorem Ord2.len {W w : World} {ss : List ByteArray} {n b : Nat} (h : Ord2 W ss n b n w) : Calls Try.prog 13 #[.pointer (some ⟨b, 0, none⟩)] w fun e w' => e = .returned (.int .i64 0) ∧ w' = w := by
  obtain ⟨st, hI, hl⟩ := h
  have hlen : st.l.length = 0 := by rw [hl, List.length_drop, gl_len]; omega
  have := hI.len
  rw [hlen] at this
  exact this

set_option maxHeartbeats 4000000 in
set_option maxRecDepth 100000 in
theorem order_walk (a : Option Addr) (len cap : Nat) (ss : List ByteArray) (w : World) (hm : len ≤ maxLen) (h : SElems w a len ss) :
    Calls Try.prog 3 #[.slice a len cap] w fun e w' => e = .returned (.bool true) ∧ Below w.heap.size w w' := by
  have HEL := Lib.hid h
  unfold maxLen at hm
  have heq := eql24a
  clear h
  by_cases hbig : 100 < len
  · go_enter Try.func3, Try.ntmps3
    go_wp2_with fail
    refine (alive_any w).mono ?_
    rintro e w1 ⟨rfl, hk⟩
    have HK := Lib.hid hk
    clear hk
    go_wp2_with fail
    go_ret
    exact ⟨rfl, HK.out.below (Nat.le_refl _) (fun _ _ h => h)⟩
  have HN := Lib.hid (NetI.new (W := w) (Keep.refl _ w) none (by simp))
  go_enter Try.func3, Try.ntmps3
  go_wp2_with fail
  refine HN.out.mono ?_
  rintro e w1 ⟨rfl, h1, -⟩
  generalize hbe : w.heap.size = b at h1 ⊢
  have HBE := Lib.hid hbe
  have H1 : Hid (Ord1 w ss b 0 w1) := Lib.hid ⟨st0, h1, by simp [st0, gl], fun _ _ => rfl, fun _ _ => rfl⟩
  clear hbe h1 HN
  go_wp2_with fail
  go_loopg [4] len (fun n i wr => ∃ k : Nat, k ≤ len ∧ n = len - k ∧ i = .int .i64 k ∧ Hid (Ord1 w ss b k wr))
  case atStart => exact ⟨0, by omega, by omega, rfl, H1.out⟩
  case round =>
    obtain ⟨k, hk, rfl, rfl, hH⟩ := hrel
    have HH := Lib.hid hH.out
    clear hH H1
    by_cases hlt : k < len
    · obtain ⟨bb, off, rfl, hbb, hck, hsz⟩ := HEL.out k hlt
      have hck' : wr.cell? ⟨bb, off + k, none⟩ = some (.string (ss.getD k ByteArray.empty)) := (HH.out.keep.cell (p := ⟨bb, off + k, none⟩) hbb (fun h => h)).trans hck
      have HS := HH.out.send (by omega)
      clear hck
      generalize ss.getD k ByteArray.empty = d at *
      unfold maxLen at hsz
      by_cases hd : 1500 < d.size
      · clear HS
        go_wp2_with fail
        refine (alive_any _).mono ?_
        rintro e w2 ⟨rfl, hk2⟩
        have HK := Lib.hid (HH.out.keep.trans hk2)
        clear hk2
        go_wp2_with fail
        go_ret
        exact ⟨rfl, HK.out.below (Nat.le_refl _) (fun _ _ h => h)⟩
      · have HS' := Lib.hid (HS (by omega))
        clear HS
        go_wp2_with fail
        refine HS'.out.mono ?_
        rintro e w2 ⟨rfl, h2, -⟩
        have H2 := Lib.hid h2
        clear h2 hck' HS'
        go_wp2_with fail
        go_roundg (len - (k + 1))
        case measure => omega
        case rel => exact ⟨k + 1, by omega, rfl, by go_num, H2.out⟩
    · obtain rfl : k = len := by omega
      have H2 : Hid (Ord2 w ss k b 0 wr) := Lib.hid (by obtain ⟨st, hI, hl, -⟩ := HH.out; exact ⟨st, hI, by rw [hl]; rfl⟩)
      clear HH
      go_wp2_with fail
      go_loopg [5] k (fun n i wq => ∃ j : Nat, j ≤ k ∧ n = k - j ∧ i = .int .i64 j ∧ Hid (Ord2 w ss k b j wq))
      case atStart => exact ⟨0, by omega, by omega, rfl, H2.out⟩
      case round =>
        rename_i wq _ _
        obtain ⟨j, hj, rfl, rfl, hH⟩ := hrel
        have HH := Lib.hid hH.out
        clear hH H2
        by_cases hlt : j < k
        · obtain ⟨bb, off, rfl, hbb, hck, hsz⟩ := HEL.out j hlt
          have HD := Lib.hid (HH.out.deliver hlt (by omega))
          generalize ss.getD j ByteArray.empty = d at *
          unfold maxLen at hsz
          go_wp2_with fail
          refine HD.out.mono ?_
          rintro e w2 ⟨rfl, h2⟩
          have hk2 := h2.keep
          have hck' : w2.cell? ⟨bb, off + j, none⟩ = some (.string d) := (hk2.cell (p := ⟨bb, off + j, none⟩) hbb (fun h => h)).trans hck
          have hb2 : bb < w2.heap.size := Nat.lt_of_lt_of_le hbb hk2.size
          have H2 := Lib.hid (h2.still (w' := w2.alloc (.cells #[.int .i64 j, .int .i64 2, .string d] 29)) ((Keep.refl _ _).alloc _))
          clear h2 hk2 hck HD HH
          go_wp2_with fail
          go_quiet (fail)
          go_wp2_with fail
          go_roundg (k - (j + 1))
          case measure => omega
          case rel => exact ⟨j + 1, by omega, rfl, by go_num, H2.out.still ((Keep.refl _ _).drewN _)⟩
        · obtain rfl : j = k := by omega
          go_wp2_with fail
          refine HH.out.over.mono ?_
          rintro e w2 ⟨rfl, h2⟩
          have H2 := Lib.hid (h2.still (w' := w2.alloc (.cells #[.int .i64 0, .int .i64 0, .string (ByteArray.mk #[])] 29)) ((Keep.refl _ _).alloc _))
          clear h2 HH
          go_wp2_with fail
          refine (alive_any _).mono ?_
          rintro e w3 ⟨rfl, hk3⟩
          have H3 := Lib.hid (H2.out.still hk3)
          clear hk3 H2
          go_wp2_with fail
          refine H3.out.len.mono ?_
          rintro e w4 ⟨rfl, rfl⟩
          go_wp2_with fail
          go_ret
          exact ⟨rfl, H3.out.keep.below (Nat.le_refl _) (fun _ _ h => h)⟩
end Go.Proofs.Ytkfcjcbjefpliaa
