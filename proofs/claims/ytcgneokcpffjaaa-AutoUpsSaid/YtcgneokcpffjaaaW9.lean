import Derived.Test.YtcgneokcpffjaaaW5
import Derived.Test.YtcgneokcpffjaaaTgSlice
set_option linter.unusedVariables false
set_option linter.unusedSimpArgs false
namespace Go.Proofs.Ytcgneokcpffjaaa
open Go.RowKit Go.Tg Go.Maps

/-! ### AutoUps -/
def isUp (x : Int) : Bool := x == 0
def isDown (x : Int) : Bool := x == 1
def isSend (x : Int) : Bool := x == 6 || x == 9
def isBegin (x : Int) : Bool := x == 4 || x == 5
def cnt (p : Int → Bool) (xs : List Int) : Nat := (xs.filter p).length
theorem cnt_snoc (p : Int → Bool) (xs : List Int) (k : Nat) (h : k < xs.length) : cnt p (xs.take (k + 1)) = cnt p (xs.take k) + if p xs[k] = true then 1 else 0 := by
  unfold cnt
  rw [List.take_succ_eq_append_getElem h, List.filter_append, List.length_append]
  by_cases hp : p xs[k] = true <;> simp [hp]
theorem cnt_le (p : Int → Bool) (xs : List Int) : cnt p xs ≤ xs.length := List.length_filter_le _ _

def dec1 (c : Int) : Int := if c - 1 < 0 then 0 else c - 1
def decN : Nat → Int → Int
  | 0, c => c
  | n + 1, c => decN n (dec1 c)
theorem doC_dec (cf tm : Int) (xs : List Int) : ∀ (ys : List Int) (c : Int), cnt isBegin ys = 0 → doC cf tm xs ys c = decN (cnt isSend ys) c := by
  intro ys
  induction ys with
  | nil => intro c _; rfl
  | cons y ys ih =>
    intro c h
    have hy : isBegin y = false := by
      cases hb : isBegin y with
      | false => rfl
      | true => simp [cnt, hb] at h
    have hys : cnt isBegin ys = 0 := by simpa [cnt, hy] using h
    have e4 : y ≠ 4 := by rintro rfl; simp [isBegin] at hy
    have e5 : y ≠ 5 := by rintro rfl; simp [isBegin] at hy
    show doC cf tm xs ys (doStep cf tm xs c y) = _
    rw [ih _ hys]
    by_cases hs : y = 6 ∨ y = 9
    · have h1 : cnt isSend (y :: ys) = cnt isSend ys + 1 := by
        have : isSend y = true := by simp [isSend, hs]
        simp [cnt, this]
      rw [h1]
      have h2 : doStep cf tm xs c y = dec1 c := by simp [doStep, e4, e5, hs, dec1]
      rw [h2]
      rfl
    · have h1 : cnt isSend (y :: ys) = cnt isSend ys := by
        have : isSend y = false := by simp [isSend]; omega
        simp [cnt, this]
      rw [h1]
      have h2 : doStep cf tm xs c y = c := by simp [doStep, e4, e5, hs]
      rw [h2]

def rowUps (s ns : Int) (xs : List Int) : Bool :=
  (cnt isUp xs == if ns = 9 ∧ s ≠ 9 then 1 else 0) && (cnt isDown xs == if s = 9 ∧ ns ≠ 9 then 1 else 0) && decide (cnt isSend xs ≤ 1)
theorem next_ups (s e : Int) : rowUps s (nextS s e) (nextL s e) = true := by
  rcases next_all (fun r => rowUps r.1 r.2.2.1 r.2.2.2) (by decide) s e with ⟨_, h1, h2⟩ | h1
  · rw [h1, h2]
    by_cases h : s = 9 <;> simp [rowUps, cnt, h]
  · exact h1
theorem rowUps_spec {s ns : Int} {xs : List Int} (h : rowUps s ns xs = true) : cnt isUp xs = (if ns = 9 ∧ s ≠ 9 then 1 else 0) ∧ cnt isDown xs = (if s = 9 ∧ ns ≠ 9 then 1 else 0) ∧ cnt isSend xs ≤ 1 := by
  simp only [rowUps, Bool.and_eq_true, beq_iff_eq, decide_eq_true_eq] at h
  exact ⟨h.1.1, h.1.2, h.2⟩

set_option maxHeartbeats 60000000 in
set_option maxRecDepth 100000 in
theorem ups_walk (a0 : Option Addr) (len cap : Nat) (zs : List Int) (w : World) (h : IsRow .i64 w a0 len cap zs) :
    Calls Try.prog 3 #[.slice a0 len cap] w fun en w' => en = .returned (.bool true) ∧ Below w.heap.size w w' := by
  obtain ⟨hm, hel⟩ := elems_of_row h
  unfold maxLen at hm
  have HEL := Lib.hid hel
  clear h hel
  by_cases hbig : 300 < len
  · go_enter Try.func3, Try.ntmps3
    go_wp2_with fail
    refine (new_ok 10 3 _ (by decide) (by decide)).mono ?_
    rintro en w1 ⟨rfl, ha, hk⟩
    have HA := Lib.hid (Alive.new ha hk)
    clear ha hk
    go_wp2_with fail
    refine (alive_from HA.out.2.2.2.2).mono ?_
    rintro en w2 ⟨rfl, hb⟩
    have HB := Lib.hid hb
    clear hb
    go_wp2_with fail
    go_ret
    exact ⟨rfl, HB.out⟩
  · go_enter Try.func3, Try.ntmps3
    go_wp2_with fail
    refine (new_ok 10 3 _ (by decide) (by decide)).mono ?_
    rintro en w1 ⟨rfl, ha, hk⟩
    have HA := Lib.hid (Alive.new ha hk)
    clear ha hk
    go_wp2_with fail
    go_loopg [5] len (fun n i wr => ∃ k : Nat, k ≤ len ∧ n = len - k ∧ i = .int .i64 k ∧ Hid (∃ s c, Alive w wr w.heap.size 10 3 s c))
    case atStart => exact ⟨0, by omega, by omega, rfl, 0, 0, HA.out⟩
    case round =>
      obtain ⟨k, hk, rfl, rfl, hH⟩ := hrel
      obtain ⟨s, c, hal⟩ := hH.out
      have HAL := Lib.hid hal
      clear hal hH HA
      by_cases hlt : k < len
      · have hltb : decide (k < len) = true := by simpa using hlt
        obtain ⟨bb, off, rfl, hbb, hck, hwf⟩ := HEL.out k hlt
        have hck' : wr.cell? ⟨bb, off + k, none⟩ = some (.int .i64 (zs.getD k 0)) := (HAL.out.2.2.2.2.cell (p := ⟨bb, off + k, none⟩) hbb).trans hck
        have HWF := Lib.hid hwf
        clear hck hwf
        generalize zs.getD k 0 = x at *
        go_wp2_with fail
        refine (state_some _ _ _ _ _ _ HAL.out.1 (by omega)).mono ?_
        rintro en w2 ⟨rfl, rfl⟩
        go_wp2_with fail
        refine (count_some _ _ _ _ _ _ HAL.out.1 (by omega)).mono ?_
        rintro en w2 ⟨rfl, rfl⟩
        go_wp2_with fail
        refine (HAL.out.doIt (by omega) (by omega) (by omega) (by omega) x HWF.out).mono ?_
        rintro en w2 ⟨v, rfl, hv, hal2⟩
        obtain ⟨hu, hd, hs1⟩ := rowUps_spec (next_ups s x)
        have hdc := doC_dec 10 3 (nextL s x) (nextL s x) c
        have hin := next_in s x HAL.out.2.2.1
        have hinw := HAL.out.2.2.1
        have hcb := InB_out HAL.out.2.2.2.1
        have hl3 := nextL_le s x
        generalize nextS s x = ns at *
        generalize nextL s x = xs at *
        generalize doC 10 3 xs xs c = c2 at *
        obtain ⟨sa, cp, rfl, -, hrd⟩ := hv.rd (fun _ => False) (by simp)
        have HU := Lib.hid hu
        have HD := Lib.hid hd
        have HDC := Lib.hid hdc
        have HAL2 := Lib.hid hal2
        have HRD := Lib.hid hrd
        clear hal2 hck' hu hd hdc hv hrd HAL HEL
        go_wp2_with fail
        go_loopg [9, 10, 11, 12, 13] xs.length (fun n v1 v2 v3 v4 vj wq => ∃ j : Nat, j ≤ xs.length ∧ n = xs.length - j ∧ vj = .int .i64 j ∧ v1 = .int .i64 (cnt isUp (xs.take j)) ∧ v2 = .int .i64 (cnt isDown (xs.take j)) ∧
          v3 = .int .i64 (cnt isSend (xs.take j)) ∧ v4 = .int .i64 (cnt isBegin (xs.take j)) ∧ Hid (wq = w2))
        case atStart => exact ⟨0, by omega, by omega, rfl, rfl, rfl, rfl, rfl, rfl⟩
        case round =>
          obtain ⟨j, hj, rfl, rfl, rfl, rfl, rfl, rfl, hq⟩ := hrel
          have hq' := hq.out
          subst hq'
          by_cases hjl : j < xs.length
          · obtain ⟨b, rfl, -, hblt, hcell⟩ := HRD.out j hjl
            have b1 := cnt_le isUp (xs.take j)
            have b2 := cnt_le isDown (xs.take j)
            have b3 := cnt_le isSend (xs.take j)
            have b4 := cnt_le isBegin (xs.take j)
            have b5 : (xs.take j).length ≤ j := List.length_take_le _ _
            have S1 := Lib.hid (cnt_snoc isUp xs j hjl)
            have S2 := Lib.hid (cnt_snoc isDown xs j hjl)
            have S3 := Lib.hid (cnt_snoc isSend xs j hjl)
            have S4 := Lib.hid (cnt_snoc isBegin xs j hjl)
            generalize xs[j] = act at *
            generalize cnt isUp (xs.take j) = n1 at *
            generalize cnt isDown (xs.take j) = n2 at *
            generalize cnt isSend (xs.take j) = n3 at *
            generalize cnt isBegin (xs.take j) = n4 at *
            clear hblt hq
            by_cases x0 : act = 0
            · subst x0
              as_aux_lemma =>
                go_wp2_with fail
                go_roundg (xs.length - (j + 1))
                case measure => omega
                case rel => exact ⟨j + 1, by omega, rfl, by go_num, by rw [S1.out]; simp [isUp], by rw [S2.out]; simp [isDown], by rw [S3.out]; simp [isSend], by rw [S4.out]; simp [isBegin], rfl⟩

            · have e0 : (act == 0) = false := by simpa using x0
              by_cases x1 : act = 1
              · subst x1
                as_aux_lemma =>
                  go_wp2_with fail
                  go_roundg (xs.length - (j + 1))
                  case measure => omega
                  case rel => exact ⟨j + 1, by omega, rfl, by go_num, by rw [S1.out]; simp [isUp], by rw [S2.out]; simp [isDown], by rw [S3.out]; simp [isSend], by rw [S4.out]; simp [isBegin], rfl⟩

              · have e1 : (act == 1) = false := by simpa using x1
                by_cases x6 : act = 6
                · subst x6
                  as_aux_lemma =>
                    go_wp2_with fail
                    go_roundg (xs.length - (j + 1))
                    case measure => omega
                    case rel => exact ⟨j + 1, by omega, rfl, by go_num, by rw [S1.out]; simp [isUp], by rw [S2.out]; simp [isDown], by rw [S3.out]; simp [isSend], by rw [S4.out]; simp [isBegin], rfl⟩

                · have e6 : (act == 6) = false := by simpa using x6
                  by_cases x9 : act = 9
                  · subst x9
                    as_aux_lemma =>
                      go_wp2_with fail
                      go_roundg (xs.length - (j + 1))
                      case measure => omega
                      case rel => exact ⟨j + 1, by omega, rfl, by go_num, by rw [S1.out]; simp [isUp], by rw [S2.out]; simp [isDown], by rw [S3.out]; simp [isSend], by rw [S4.out]; simp [isBegin], rfl⟩

                  · have e9 : (act == 9) = false := by simpa using x9
                    by_cases x4 : act = 4
                    · subst x4
                      as_aux_lemma =>
                        go_wp2_with fail
                        go_roundg (xs.length - (j + 1))
                        case measure => omega
                        case rel => exact ⟨j + 1, by omega, rfl, by go_num, by rw [S1.out]; simp [isUp], by rw [S2.out]; simp [isDown], by rw [S3.out]; simp [isSend], by rw [S4.out]; simp [isBegin], rfl⟩

                    · have e4 : (act == 4) = false := by simpa using x4
                      by_cases x5 : act = 5
                      · subst x5
                        as_aux_lemma =>
                          go_wp2_with fail
                          go_roundg (xs.length - (j + 1))
                          case measure => omega
                          case rel => exact ⟨j + 1, by omega, rfl, by go_num, by rw [S1.out]; simp [isUp], by rw [S2.out]; simp [isDown], by rw [S3.out]; simp [isSend], by rw [S4.out]; simp [isBegin], rfl⟩

                      · have e5 : (act == 5) = false := by simpa using x5
                        have X := Lib.hid (And.intro x0 (And.intro x1 (And.intro x6 (And.intro x9 (And.intro x4 x5)))))
                        clear x0 x1 x6 x9 x4 x5
                        as_aux_lemma =>
                          go_wp2_with fail
                          go_roundg (xs.length - (j + 1))
                          case measure => omega
                          case rel =>
                            obtain ⟨x0, x1, x6, x9, x4, x5⟩ := X.out
                            exact ⟨j + 1, by omega, rfl, by go_num, by rw [S1.out]; simp [isUp, x0, x1, x4, x5, x6, x9], by rw [S2.out]; simp [isDown, x0, x1, x4, x5, x6, x9], by rw [S3.out]; simp [isSend, x0, x1, x4, x5, x6, x9], by rw [S4.out]; simp [isBegin, x0, x1, x4, x5, x6, x9], rfl⟩

          · obtain rfl : j = xs.length := by omega
            have et : xs.take xs.length = xs := List.take_length
            rw [et]
            have hle4 := cnt_le isBegin xs
            have HB0 := Lib.hid (fun h0 : cnt isBegin xs = 0 => HDC.out h0)
            generalize cnt isUp xs = n1 at *
            generalize cnt isDown xs = n2 at *
            generalize cnt isSend xs = n3 at *
            generalize cnt isBegin xs = n4 at *
            have hc2 : n4 = 0 → (n3 = 0 → c2 = c) ∧ (n3 = 1 → c2 = if c - 1 < 0 then 0 else c - 1) := fun h0 => ⟨fun h => by rw [HB0.out h0, h]; rfl, fun h => by rw [HB0.out h0, h]; rfl⟩
            have HC2 := Lib.hid hc2
            have hn1 : n1 = if ns = 9 ∧ s ≠ 9 then 1 else 0 := HU.out
            have hn2 : n2 = if s = 9 ∧ ns ≠ 9 then 1 else 0 := HD.out
            have HN := Lib.hid (And.intro hn1 hn2)
            clear HB0 hc2 hn1 hn2 HU HD HDC HRD et
            have hn3 : n3 = 0 ∨ n3 = 1 := by omega
            by_cases w9 : s = 9
            · by_cases n9 : ns = 9
              · have m1 : n1 = 0 := by rw [HN.out.1]; simp [w9, n9]
                have m2 : n2 = 0 := by rw [HN.out.2]; simp [w9, n9]
                subst m1 m2 w9 n9
                clear HN
                by_cases hz4 : n4 = 0
                · subst hz4
                  rcases hn3 with hn3 | hn3
                  · have m3 : c2 = c := (HC2.out rfl).1 hn3
                    subst hn3
                    subst m3
                    clear HC2
                    as_aux_lemma =>
                      go_wp2_with (first | (go_at_call 11; refine (state_some _ _ _ _ _ _ HAL2.out.1 (by omega)).mono ?_; rintro en w' ⟨rfl, rfl⟩) | (go_at_call 12; refine (count_some _ _ _ _ _ _ HAL2.out.1 (by omega)).mono ?_; rintro en w' ⟨rfl, rfl⟩))
                      go_roundg (len - (k + 1))
                      case measure => omega
                      case rel => exact ⟨k + 1, by omega, rfl, by go_num, _, _, HAL2.out⟩

                  · have m3 : c2 = if c - 1 < 0 then 0 else c - 1 := (HC2.out rfl).2 hn3
                    subst hn3
                    by_cases hcz : c - 1 < 0
                    · rw [if_pos hcz] at m3
                      subst m3
                      clear HC2
                      as_aux_lemma =>
                        go_wp2_with (first | (go_at_call 11; refine (state_some _ _ _ _ _ _ HAL2.out.1 (by omega)).mono ?_; rintro en w' ⟨rfl, rfl⟩) | (go_at_call 12; refine (count_some _ _ _ _ _ _ HAL2.out.1 (by omega)).mono ?_; rintro en w' ⟨rfl, rfl⟩))
                        go_roundg (len - (k + 1))
                        case measure => omega
                        case rel => exact ⟨k + 1, by omega, rfl, by go_num, _, _, HAL2.out⟩

                    · rw [if_neg hcz] at m3
                      subst m3
                      clear HC2
                      as_aux_lemma =>
                        go_wp2_with (first | (go_at_call 11; refine (state_some _ _ _ _ _ _ HAL2.out.1 (by omega)).mono ?_; rintro en w' ⟨rfl, rfl⟩) | (go_at_call 12; refine (count_some _ _ _ _ _ _ HAL2.out.1 (by omega)).mono ?_; rintro en w' ⟨rfl, rfl⟩))
                        go_roundg (len - (k + 1))
                        case measure => omega
                        case rel => exact ⟨k + 1, by omega, rfl, by go_num, _, _, HAL2.out⟩

                · have f5 : ((n4 : Int) == 0) = false := by simp; omega
                  clear hz4 HC2
                  rcases hn3 with rfl | rfl
                  · as_aux_lemma =>
                      go_wp2_with (first | (go_at_call 11; refine (state_some _ _ _ _ _ _ HAL2.out.1 (by omega)).mono ?_; rintro en w' ⟨rfl, rfl⟩) | (go_at_call 12; refine (count_some _ _ _ _ _ _ HAL2.out.1 (by omega)).mono ?_; rintro en w' ⟨rfl, rfl⟩))
                      go_roundg (len - (k + 1))
                      case measure => omega
                      case rel => exact ⟨k + 1, by omega, rfl, by go_num, _, _, HAL2.out⟩

                  · as_aux_lemma =>
                      go_wp2_with (first | (go_at_call 11; refine (state_some _ _ _ _ _ _ HAL2.out.1 (by omega)).mono ?_; rintro en w' ⟨rfl, rfl⟩) | (go_at_call 12; refine (count_some _ _ _ _ _ _ HAL2.out.1 (by omega)).mono ?_; rintro en w' ⟨rfl, rfl⟩))
                      go_roundg (len - (k + 1))
                      case measure => omega
                      case rel => exact ⟨k + 1, by omega, rfl, by go_num, _, _, HAL2.out⟩


              · have m1 : n1 = 0 := by rw [HN.out.1]; simp [w9, n9]
                have m2 : n2 = 1 := by rw [HN.out.2]; simp [w9, n9]
                subst m1 m2 w9
                have f3 : (ns == 9) = false := by simpa using n9
                have f4 : (ns != 9) = true := by simpa using n9
                clear n9
                clear HN
                by_cases hz4 : n4 = 0
                · subst hz4
                  rcases hn3 with hn3 | hn3
                  · have m3 : c2 = c := (HC2.out rfl).1 hn3
                    subst hn3
                    subst m3
                    clear HC2
                    as_aux_lemma =>
                      go_wp2_with (first | (go_at_call 11; refine (state_some _ _ _ _ _ _ HAL2.out.1 (by omega)).mono ?_; rintro en w' ⟨rfl, rfl⟩) | (go_at_call 12; refine (count_some _ _ _ _ _ _ HAL2.out.1 (by omega)).mono ?_; rintro en w' ⟨rfl, rfl⟩))
                      go_roundg (len - (k + 1))
                      case measure => omega
                      case rel => exact ⟨k + 1, by omega, rfl, by go_num, _, _, HAL2.out⟩

                  · have m3 : c2 = if c - 1 < 0 then 0 else c - 1 := (HC2.out rfl).2 hn3
                    subst hn3
                    by_cases hcz : c - 1 < 0
                    · rw [if_pos hcz] at m3
                      subst m3
                      clear HC2
                      as_aux_lemma =>
                        go_wp2_with (first | (go_at_call 11; refine (state_some _ _ _ _ _ _ HAL2.out.1 (by omega)).mono ?_; rintro en w' ⟨rfl, rfl⟩) | (go_at_call 12; refine (count_some _ _ _ _ _ _ HAL2.out.1 (by omega)).mono ?_; rintro en w' ⟨rfl, rfl⟩))
                        go_roundg (len - (k + 1))
                        case measure => omega
                        case rel => exact ⟨k + 1, by omega, rfl, by go_num, _, _, HAL2.out⟩

                    · rw [if_neg hcz] at m3
                      subst m3
                      clear HC2
                      as_aux_lemma =>
                        go_wp2_with (first | (go_at_call 11; refine (state_some _ _ _ _ _ _ HAL2.out.1 (by omega)).mono ?_; rintro en w' ⟨rfl, rfl⟩) | (go_at_call 12; refine (count_some _ _ _ _ _ _ HAL2.out.1 (by omega)).mono ?_; rintro en w' ⟨rfl, rfl⟩))
                        go_roundg (len - (k + 1))
                        case measure => omega
                        case rel => exact ⟨k + 1, by omega, rfl, by go_num, _, _, HAL2.out⟩

                · have f5 : ((n4 : Int) == 0) = false := by simp; omega
                  clear hz4 HC2
                  rcases hn3 with rfl | rfl
                  · as_aux_lemma =>
                      go_wp2_with (first | (go_at_call 11; refine (state_some _ _ _ _ _ _ HAL2.out.1 (by omega)).mono ?_; rintro en w' ⟨rfl, rfl⟩) | (go_at_call 12; refine (count_some _ _ _ _ _ _ HAL2.out.1 (by omega)).mono ?_; rintro en w' ⟨rfl, rfl⟩))
                      go_roundg (len - (k + 1))
                      case measure => omega
                      case rel => exact ⟨k + 1, by omega, rfl, by go_num, _, _, HAL2.out⟩

                  · as_aux_lemma =>
                      go_wp2_with (first | (go_at_call 11; refine (state_some _ _ _ _ _ _ HAL2.out.1 (by omega)).mono ?_; rintro en w' ⟨rfl, rfl⟩) | (go_at_call 12; refine (count_some _ _ _ _ _ _ HAL2.out.1 (by omega)).mono ?_; rintro en w' ⟨rfl, rfl⟩))
                      go_roundg (len - (k + 1))
                      case measure => omega
                      case rel => exact ⟨k + 1, by omega, rfl, by go_num, _, _, HAL2.out⟩


            · have f1 : (s == 9) = false := by simpa using w9
              have f2 : (s != 9) = true := by simpa using w9
              by_cases n9 : ns = 9
              · have m1 : n1 = 1 := by rw [HN.out.1]; simp [w9, n9]
                have m2 : n2 = 0 := by rw [HN.out.2]; simp [w9, n9]
                subst m1 m2 n9
                clear w9
                clear HN
                by_cases hz4 : n4 = 0
                · subst hz4
                  rcases hn3 with hn3 | hn3
                  · have m3 : c2 = c := (HC2.out rfl).1 hn3
                    subst hn3
                    subst m3
                    clear HC2
                    as_aux_lemma =>
                      go_wp2_with (first | (go_at_call 11; refine (state_some _ _ _ _ _ _ HAL2.out.1 (by omega)).mono ?_; rintro en w' ⟨rfl, rfl⟩) | (go_at_call 12; refine (count_some _ _ _ _ _ _ HAL2.out.1 (by omega)).mono ?_; rintro en w' ⟨rfl, rfl⟩))
                      go_roundg (len - (k + 1))
                      case measure => omega
                      case rel => exact ⟨k + 1, by omega, rfl, by go_num, _, _, HAL2.out⟩

                  · have m3 : c2 = if c - 1 < 0 then 0 else c - 1 := (HC2.out rfl).2 hn3
                    subst hn3
                    by_cases hcz : c - 1 < 0
                    · rw [if_pos hcz] at m3
                      subst m3
                      clear HC2
                      as_aux_lemma =>
                        go_wp2_with (first | (go_at_call 11; refine (state_some _ _ _ _ _ _ HAL2.out.1 (by omega)).mono ?_; rintro en w' ⟨rfl, rfl⟩) | (go_at_call 12; refine (count_some _ _ _ _ _ _ HAL2.out.1 (by omega)).mono ?_; rintro en w' ⟨rfl, rfl⟩))
                        go_roundg (len - (k + 1))
                        case measure => omega
                        case rel => exact ⟨k + 1, by omega, rfl, by go_num, _, _, HAL2.out⟩

                    · rw [if_neg hcz] at m3
                      subst m3
                      clear HC2
                      as_aux_lemma =>
                        go_wp2_with (first | (go_at_call 11; refine (state_some _ _ _ _ _ _ HAL2.out.1 (by omega)).mono ?_; rintro en w' ⟨rfl, rfl⟩) | (go_at_call 12; refine (count_some _ _ _ _ _ _ HAL2.out.1 (by omega)).mono ?_; rintro en w' ⟨rfl, rfl⟩))
                        go_roundg (len - (k + 1))
                        case measure => omega
                        case rel => exact ⟨k + 1, by omega, rfl, by go_num, _, _, HAL2.out⟩

                · have f5 : ((n4 : Int) == 0) = false := by simp; omega
                  clear hz4 HC2
                  rcases hn3 with rfl | rfl
                  · as_aux_lemma =>
                      go_wp2_with (first | (go_at_call 11; refine (state_some _ _ _ _ _ _ HAL2.out.1 (by omega)).mono ?_; rintro en w' ⟨rfl, rfl⟩) | (go_at_call 12; refine (count_some _ _ _ _ _ _ HAL2.out.1 (by omega)).mono ?_; rintro en w' ⟨rfl, rfl⟩))
                      go_roundg (len - (k + 1))
                      case measure => omega
                      case rel => exact ⟨k + 1, by omega, rfl, by go_num, _, _, HAL2.out⟩

                  · as_aux_lemma =>
                      go_wp2_with (first | (go_at_call 11; refine (state_some _ _ _ _ _ _ HAL2.out.1 (by omega)).mono ?_; rintro en w' ⟨rfl, rfl⟩) | (go_at_call 12; refine (count_some _ _ _ _ _ _ HAL2.out.1 (by omega)).mono ?_; rintro en w' ⟨rfl, rfl⟩))
                      go_roundg (len - (k + 1))
                      case measure => omega
                      case rel => exact ⟨k + 1, by omega, rfl, by go_num, _, _, HAL2.out⟩


              · have m1 : n1 = 0 := by rw [HN.out.1]; simp [w9, n9]
                have m2 : n2 = 0 := by rw [HN.out.2]; simp [w9, n9]
                subst m1 m2
                have f3 : (ns == 9) = false := by simpa using n9
                have f4 : (ns != 9) = true := by simpa using n9
                clear n9 w9
                clear HN
                by_cases hz4 : n4 = 0
                · subst hz4
                  rcases hn3 with hn3 | hn3
                  · have m3 : c2 = c := (HC2.out rfl).1 hn3
                    subst hn3
                    subst m3
                    clear HC2
                    as_aux_lemma =>
                      go_wp2_with (first | (go_at_call 11; refine (state_some _ _ _ _ _ _ HAL2.out.1 (by omega)).mono ?_; rintro en w' ⟨rfl, rfl⟩) | (go_at_call 12; refine (count_some _ _ _ _ _ _ HAL2.out.1 (by omega)).mono ?_; rintro en w' ⟨rfl, rfl⟩))
                      go_roundg (len - (k + 1))
                      case measure => omega
                      case rel => exact ⟨k + 1, by omega, rfl, by go_num, _, _, HAL2.out⟩

                  · have m3 : c2 = if c - 1 < 0 then 0 else c - 1 := (HC2.out rfl).2 hn3
                    subst hn3
                    by_cases hcz : c - 1 < 0
                    · rw [if_pos hcz] at m3
                      subst m3
                      clear HC2
                      as_aux_lemma =>
                        go_wp2_with (first | (go_at_call 11; refine (state_some _ _ _ _ _ _ HAL2.out.1 (by omega)).mono ?_; rintro en w' ⟨rfl, rfl⟩) | (go_at_call 12; refine (count_some _ _ _ _ _ _ HAL2.out.1 (by omega)).mono ?_; rintro en w' ⟨rfl, rfl⟩))
                        go_roundg (len - (k + 1))
                        case measure => omega
                        case rel => exact ⟨k + 1, by omega, rfl, by go_num, _, _, HAL2.out⟩

                    · rw [if_neg hcz] at m3
                      subst m3
                      clear HC2
                      as_aux_lemma =>
                        go_wp2_with (first | (go_at_call 11; refine (state_some _ _ _ _ _ _ HAL2.out.1 (by omega)).mono ?_; rintro en w' ⟨rfl, rfl⟩) | (go_at_call 12; refine (count_some _ _ _ _ _ _ HAL2.out.1 (by omega)).mono ?_; rintro en w' ⟨rfl, rfl⟩))
                        go_roundg (len - (k + 1))
                        case measure => omega
                        case rel => exact ⟨k + 1, by omega, rfl, by go_num, _, _, HAL2.out⟩

                · have f5 : ((n4 : Int) == 0) = false := by simp; omega
                  clear hz4 HC2
                  rcases hn3 with rfl | rfl
                  · as_aux_lemma =>
                      go_wp2_with (first | (go_at_call 11; refine (state_some _ _ _ _ _ _ HAL2.out.1 (by omega)).mono ?_; rintro en w' ⟨rfl, rfl⟩) | (go_at_call 12; refine (count_some _ _ _ _ _ _ HAL2.out.1 (by omega)).mono ?_; rintro en w' ⟨rfl, rfl⟩))
                      go_roundg (len - (k + 1))
                      case measure => omega
                      case rel => exact ⟨k + 1, by omega, rfl, by go_num, _, _, HAL2.out⟩

                  · as_aux_lemma =>
                      go_wp2_with (first | (go_at_call 11; refine (state_some _ _ _ _ _ _ HAL2.out.1 (by omega)).mono ?_; rintro en w' ⟨rfl, rfl⟩) | (go_at_call 12; refine (count_some _ _ _ _ _ _ HAL2.out.1 (by omega)).mono ?_; rintro en w' ⟨rfl, rfl⟩))
                      go_roundg (len - (k + 1))
                      case measure => omega
                      case rel => exact ⟨k + 1, by omega, rfl, by go_num, _, _, HAL2.out⟩


      · clear HEL
        go_wp2_with fail
        refine HAL.out.alive.mono ?_
        rintro en w4 ⟨rfl, hal4⟩
        have HAL4 := Lib.hid hal4
        clear hal4 HAL
        go_wp2_with fail
        go_ret
        exact ⟨rfl, HAL4.out.2.2.2.2⟩
end Go.Proofs.Ytcgneokcpffjaaa
