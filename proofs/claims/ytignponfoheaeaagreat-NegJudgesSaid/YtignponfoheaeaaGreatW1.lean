import Derived.Test.YtignponfoheaeaaGreatTab4
namespace Go.Proofs.YtignponfoheaeaaGreat
open Go.RowKit Go.Tg Go.Maps

def AutoAt (w : World) (b : Nat) (s c cf tm : Int) : Prop := w.heap[b]? = some (.cells #[.int .i64 s, .int .i64 c, .int .i64 cf, .int .i64 tm] 166 (0, 0))

theorem cell_of_block {w : World} {b : Nat} {cs : Array Value} {T : TypeId} {z : Nat × Nat} (h : w.heap[b]? = some (.cells cs T z)) (o : Nat) : w.cell? ⟨b, o, none⟩ = cs[o]? := by
  simp [World.cell?, h]
theorem frozen_of_block {w : World} {b : Nat} {cs : Array Value} {T : TypeId} (h : w.heap[b]? = some (.cells cs T (0, 0))) (o : Nat) : w.frozen? ⟨b, o, none⟩ = false := by
  simp [World.frozen?, h]
theorem set_block {w : World} {b : Nat} {cs : Array Value} {T : TypeId} {z : Nat × Nat} (h : w.heap[b]? = some (.cells cs T z)) (o : Nat) (v : Value) :
    (w.setCell ⟨b, o, none⟩ v).heap[b]? = some (.cells (cs.setIfInBounds o v) T z) := by
  simp [World.setCell, Array.getElem?_modify, h]

section
variable {w : World} {b : Nat} {s c cf tm : Int}
theorem AutoAt.c0 (h : AutoAt w b s c cf tm) : w.cell? ⟨b, 0, none⟩ = some (.int .i64 s) := cell_of_block h 0
theorem AutoAt.c1 (h : AutoAt w b s c cf tm) : w.cell? ⟨b, 1, none⟩ = some (.int .i64 c) := cell_of_block h 1
theorem AutoAt.c2 (h : AutoAt w b s c cf tm) : w.cell? ⟨b, 2, none⟩ = some (.int .i64 cf) := cell_of_block h 2
theorem AutoAt.c3 (h : AutoAt w b s c cf tm) : w.cell? ⟨b, 3, none⟩ = some (.int .i64 tm) := cell_of_block h 3
theorem AutoAt.fz (h : AutoAt w b s c cf tm) (o : Nat) : w.frozen? ⟨b, o, none⟩ = false := frozen_of_block h o
theorem AutoAt.lt (h : AutoAt w b s c cf tm) : b < w.heap.size := (Array.getElem?_eq_some_iff.1 h).1
theorem AutoAt.set0 (h : AutoAt w b s c cf tm) (s' : Int) : AutoAt (w.setCell ⟨b, 0, none⟩ (.int .i64 s')) b s' c cf tm := set_block h 0 _
theorem AutoAt.set1 (h : AutoAt w b s c cf tm) (c' : Int) : AutoAt (w.setCell ⟨b, 1, none⟩ (.int .i64 c')) b s c' cf tm := set_block h 1 _
theorem AutoAt.keep {S : Nat → Prop} {w' : World} (h : AutoAt w b s c cf tm) (hk : Keep S w w') (hs : ¬ S b) : AutoAt w' b s c cf tm := (hk.block b h.lt hs).trans h
theorem AutoAt.below {w' : World} (h : AutoAt w b s c cf tm) (hk : Below w.heap.size w w') : AutoAt w' b s c cf tm := (hk.block b h.lt).trans h
end

set_option maxHeartbeats 400000 in
theorem none_nil (w : World) :
    Calls Tryz.prog 141 #[.pointer none] w fun e w' => e = .returned (.bool true) ∧ w = w' := by
  go_enter Tryz.func141, Tryz.ntmps141
  go_wp2
  go_ret
  exact ⟨rfl, rfl⟩

set_option maxHeartbeats 400000 in
theorem none_some (b : Nat) (s c cf tm : Int) (w : World) (h : AutoAt w b s c cf tm) (h0 : 1 ≤ cf) :
    Calls Tryz.prog 141 #[.pointer (some ⟨b, 0, none⟩)] w fun e w' => e = .returned (.bool false) ∧ w = w' := by
  have hc := h.c2
  go_enter Tryz.func141, Tryz.ntmps141
  go_wp2
  go_ret
  exact ⟨by simp; omega, rfl⟩

set_option maxHeartbeats 400000 in
theorem state_some (b : Nat) (s c cf tm : Int) (w : World) (h : AutoAt w b s c cf tm) (h0 : 1 ≤ cf) :
    Calls Tryz.prog 19 #[.pointer (some ⟨b, 0, none⟩)] w fun e w' => e = .returned (.int .i64 s) ∧ w = w' := by
  have hc := h.c0
  go_enter Tryz.func19, Tryz.ntmps19
  go_wp2_with (go_at_call 141; refine (none_some _ _ _ _ _ _ h h0).mono ?_; rintro e w' ⟨rfl, rfl⟩)
  go_ret
  exact ⟨rfl, rfl⟩
set_option maxHeartbeats 400000 in
theorem state_nil (w : World) :
    Calls Tryz.prog 19 #[.pointer none] w fun e w' => e = .returned (.int .i64 0) ∧ w = w' := by
  go_enter Tryz.func19, Tryz.ntmps19
  go_wp2_with (go_at_call 141; refine (none_nil _).mono ?_; rintro e w' ⟨rfl, rfl⟩)
  go_ret
  exact ⟨rfl, rfl⟩
def waitsB (s : Int) : Bool := decide (4 ≤ s) && decide (s ≤ 8)

set_option maxHeartbeats 400000 in
theorem waits_some (b : Nat) (s c cf tm : Int) (w : World) (h : AutoAt w b s c cf tm) (h0 : 1 ≤ cf) :
    Calls Tryz.prog 21 #[.pointer (some ⟨b, 0, none⟩)] w fun e w' => e = .returned (.bool (waitsB s)) ∧ w = w' := by
  have hc := h.c0
  by_cases h1 : 4 ≤ s
  · by_cases h2 : s ≤ 8
    · go_enter Tryz.func21, Tryz.ntmps21
      go_wp2_with (go_at_call 141; refine (none_some _ _ _ _ _ _ h h0).mono ?_; rintro e w' ⟨rfl, rfl⟩)
      go_ret
      exact ⟨by simp [waitsB, h1, h2], rfl⟩
    · go_enter Tryz.func21, Tryz.ntmps21
      go_wp2_with (go_at_call 141; refine (none_some _ _ _ _ _ _ h h0).mono ?_; rintro e w' ⟨rfl, rfl⟩)
      go_ret
      exact ⟨by simp [waitsB]; omega, rfl⟩
  · go_enter Tryz.func21, Tryz.ntmps21
    go_wp2_with (go_at_call 141; refine (none_some _ _ _ _ _ _ h h0).mono ?_; rintro e w' ⟨rfl, rfl⟩)
    go_ret
    exact ⟨by simp [waitsB]; omega, rfl⟩
set_option maxHeartbeats 400000 in
theorem waits_nil (w : World) :
    Calls Tryz.prog 21 #[.pointer none] w fun e w' => e = .returned (.bool false) ∧ w = w' := by
  go_enter Tryz.func21, Tryz.ntmps21
  go_wp2_with (go_at_call 141; refine (none_nil _).mono ?_; rintro e w' ⟨rfl, rfl⟩)
  go_ret
  exact ⟨rfl, rfl⟩

def hasB (xs : List Int) (x : Int) : Bool := xs.contains x
def Has (xs : List Int) (x r : Int) : Prop := decide (0 ≤ r) = hasB xs x

/-- The elements of a slice as cells. -/
def Cells (w : World) (v : Value) (xs : List Int) : Prop :=
  (xs = [] ∧ v = .slice none 0 0) ∨ ∃ b, v = .slice (some ⟨b, 0, none⟩) xs.length xs.length ∧ ∀ (i : Nat) (h : i < xs.length), w.cell? ⟨b, i, none⟩ = some (.int .i64 xs[i])
theorem cells_of_ints {B : Nat} {w : World} {v : Value} {xs : List Int} (h : IntsAt 3 B w v xs) : Cells w v xs := by
  rcases h with h | ⟨b, h1, h2, h3⟩
  · exact Or.inl h
  · refine Or.inr ⟨b, h2, fun i hi => ?_⟩
    rw [cell_of_block h3]; simp [hi]

set_option maxHeartbeats 400000 in
set_option maxRecDepth 100000 in
theorem contains_any (xs : List Int) (v : Value) (x : Int) (w : World) (h : Cells w v xs) (hl : xs.length ≤ 1000) :
    Calls Tryz.prog 217 #[v, .int .i64 x] w fun e w' => ∃ r, e = .returned (.int .i64 r) ∧ Has xs x r ∧ w = w' := by
  rcases h with ⟨rfl, rfl⟩ | ⟨b, rfl, hc⟩
  · go_enter Tryz.func217, Tryz.ntmps217
    go_wp2
    refine wp_loop_rounds 1 ?_
    rw [rounds_succ]
    go_wp2
    go_ret
    exact ⟨-1, rfl, rfl, rfl⟩
  · have HC := Lib.hid hc
    clear hc
    go_enter Tryz.func217, Tryz.ntmps217
    go_wp2
    go_loop [8] (fun i => ∃ k : Nat, k ≤ xs.length ∧ i = .int .i64 k ∧ Hid (∀ (j : Nat) (h : j < xs.length), j < k → xs[j] ≠ x)) (fun i => xs.length - (intOf i).toNat)
    case atStart => exact ⟨0, by omega, rfl, fun j _ h => by omega⟩
    case round =>
      obtain ⟨k, hk, rfl, hno⟩ := hrel
      by_cases hlt : k < xs.length
      · have hck := HC.out k hlt
        by_cases hx : x = xs[k]
        · have hxb : (x == xs[k]) = true := by simpa using hx
          have HX := Lib.hid hx
          clear hx
          go_wp2
          go_ret
          refine ⟨k, rfl, ?_, rfl⟩
          have : hasB xs x = true := by unfold hasB; rw [List.contains_iff_mem, HX.out]; exact List.getElem_mem hlt
          unfold Has; rw [this]; simp
        · have hxb : (x == xs[k]) = false := by simpa using hx
          have HX := Lib.hid hx
          clear hx
          go_wp2
          go_round
          case rel =>
            refine ⟨k + 1, by omega, by go_num, fun j hj hjk => ?_⟩
            rcases Nat.lt_or_ge j k with h | h
            · exact hno.out j hj h
            · obtain rfl : j = k := by omega
              exact fun e => HX.out e.symm
          case measure => simp [intOf]; omega
      · go_wp2
        go_ret
        refine ⟨-1, rfl, ?_, rfl⟩
        have : hasB xs x = false := by
          unfold hasB
          cases hc : xs.contains x with
          | false => rfl
          | true =>
            rw [List.contains_iff_mem] at hc
            obtain ⟨j, hj, he⟩ := List.getElem_of_mem hc
            exact absurd he (hno.out j hj (by omega))
        unfold Has; rw [this]; rfl

set_option maxHeartbeats 400000 in
theorem has_any (xs : List Int) (v : Value) (x : Int) (w : World) (h : Cells w v xs) (hl : xs.length ≤ 1000) :
    Calls Tryz.prog 142 #[v, .int .i64 x] w fun e w' => e = .returned (.bool (hasB xs x)) ∧ w = w' := by
  go_enter Tryz.func142, Tryz.ntmps142
  go_wp2_with fail
  refine (contains_any xs v x _ h hl).mono ?_
  rintro e w' ⟨r, rfl, hr, rfl⟩
  go_wp2
  go_ret
  exact ⟨by rw [← show decide (0 ≤ r) = hasB xs x from hr]; rfl, rfl⟩
end Go.Proofs.YtignponfoheaeaaGreat
