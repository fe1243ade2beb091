import Derived.Test.YtkfcjcbjefpliaaN28
import Derived.IntWalk
namespace Go.Proofs.Ytkfcjcbjefpliaa
open Go.RowKit Go.Tg Go.Maps Go.Sort

/-- What is known of the slice of operations that came in. -/
def OpAt (w : World) (a : Option Addr) (n : Nat) (K A : Nat → Int) (D : Nat → ByteArray) : Prop := ∀ i, i < n → ∃ bb off, a = some ⟨bb, off, none⟩ ∧ bb < w.heap.size ∧
  w.cell? ⟨bb, off + i * 5, none⟩ = some (.int .i64 (K i)) ∧ w.cell? ⟨bb, off + i * 5 + 1, none⟩ = some (.int .i64 (A i)) ∧ w.cell? ⟨bb, off + i * 5 + 4, none⟩ = some (.string (D i)) ∧ (D i).size ≤ maxLen

/-- Is d among the first m? -/
def anyEq (ss : List ByteArray) (d : ByteArray) (m : Nat) : Bool := (ss.take m).any fun s => s.toList == d.toList
theorem anyEq_zero (ss : List ByteArray) (d : ByteArray) : anyEq ss d 0 = false := by simp [anyEq]
theorem anyEq_succ (ss : List ByteArray) (d : ByteArray) (m : Nat) (h : m < ss.length) : anyEq ss d (m + 1) = (anyEq ss d m || ((ss.getD m ByteArray.empty).toList == d.toList)) := by
  unfold anyEq
  rw [List.take_succ_eq_append_getElem h, List.any_append, List.getD_eq_getElem?_getD, List.getElem?_eq_getElem h]
  simp
theorem anyEq_all (ss : List ByteArray) (d : ByteArray) (h : d ∈ ss) : anyEq ss d ss.length = true := by
  unfold anyEq
  rw [List.take_length, List.any_eq_true]
  exact ⟨d, h, by simp⟩

/-- The state at the head of a round. -/
def KeepsP (W : World) (b k : Nat) (c s : Value) (w : World) : Prop :=
  ∃ (sa : Option Addr) (ln sc : Nat) (ss : List ByteArray) (cm cl : Int) (n : Nat), c = .int .i64 cm ∧ s = .slice sa ln sc ∧ ln ≤ k ∧ 0 ≤ cm ∧ 0 ≤ cl ∧ (ln : Int) = cl + cm + n ∧ SRow W (.slice sa ln sc) ln ss w ∧ KNet W (fun x => (Value.slice sa ln sc).ownBlock = some x) b ss ln cl n w

set_option maxHeartbeats 8000000 in
set_option maxRecDepth 100000 in
theorem keeps_walk (a : Option Addr) (len cap : Nat) (K A : Nat → Int) (D : Nat → ByteArray) (w : World) (hm : len ≤ maxLen) (h : OpAt w a len K A D) :
    Calls Try.prog 4 #[.slice a len cap] w fun e w' => e = .returned (.bool true) ∧ Below w.heap.size w w' := by
  have HEL := Lib.hid h
  unfold maxLen at hm
  have heq := eql24a
  clear h
  by_cases hbig : 200 < len
  · go_enter Try.func4, Try.ntmps4
    go_wp2_with fail
    refine (alive_any w).mono ?_
    rintro e w1 ⟨rfl, hk⟩
    have HK := Lib.hid hk
    clear hk
    go_wp2_with fail
    go_ret
    exact ⟨rfl, HK.out.below (Nat.le_refl _) (fun _ _ h => h)⟩
  have HN := Lib.hid (NetI.new (W := w) (Keep.refl _ w) (fun x => (Value.slice none 0 0).ownBlock = some x) (fun _ h => by cases h))
  go_enter Try.func4, Try.ntmps4
  go_wp2_with fail
  refine HN.out.mono ?_
  rintro e w1 ⟨rfl, h1, -⟩
  generalize hbe : w.heap.size = b at h1 ⊢
  have HBE := Lib.hid hbe
  have H1 : Hid (KeepsP w b 0 (.int .i64 0) (.slice none 0 0) w1) := Lib.hid ⟨none, 0, 0, [], 0, 0, 0, rfl, rfl, Nat.le_refl _, by omega, by omega, by omega, SRow.nil _ _, ⟨st0, h1, rfl, rfl, rfl, fun g hg => by cases hg⟩⟩
  clear hbe h1 HN
  go_wp2_with fail
  go_loopg [4, 5, 6] len (fun x c s i wr => ∃ k : Nat, k ≤ len ∧ x = len - k ∧ i = .int .i64 k ∧ Hid (KeepsP w b k c s wr))
  case atStart => exact ⟨0, by omega, by omega, rfl, H1.out⟩
  case round =>
    obtain ⟨k, hk, rfl, rfl, hH⟩ := hrel
    obtain ⟨sa, ln, sc, ss, cm, cl, n, rfl, rfl, hlk, hc0, hl0, hsum, hrow, hnet⟩ := hH.out
    have HR := Lib.hid hrow
    have HK := Lib.hid hnet
    have HS := Lib.hid hsum
    have hcm : cm ≤ 200 := by omega
    have hcl : cl ≤ 200 := by omega
    have hn : n ≤ 200 := by omega
    clear hH H1 hrow hnet hsum
    by_cases hlt : k < len
    · obtain ⟨bb, off, rfl, hbb, hck, hca, hcd, hsz⟩ := HEL.out k hlt
      have hkw := HK.out.keep
      have ck : wr.cell? ⟨bb, off + k * 5, none⟩ = some (.int .i64 (K k)) := (hkw.cell (p := ⟨bb, off + k * 5, none⟩) hbb (fun h => h)).trans hck
      have ca : wr.cell? ⟨bb, off + k * 5 + 1, none⟩ = some (.int .i64 (A k)) := (hkw.cell (p := ⟨bb, off + k * 5 + 1, none⟩) hbb (fun h => h)).trans hca
      have cd : wr.cell? ⟨bb, off + k * 5 + 4, none⟩ = some (.string (D k)) := (hkw.cell (p := ⟨bb, off + k * 5 + 4, none⟩) hbb (fun h => h)).trans hcd
      have HCD := Lib.hid (And.intro hbb hcd)
      generalize K k = kd at *
      generalize A k = ad at *
      generalize D k = d at *
      unfold maxLen at hsz
      clear hkw hck hca hcd
      by_cases hd : 1500 < d.size
      · go_wp2_with fail
        refine (alive_any _).mono ?_
        rintro e w2 ⟨rfl, hk2⟩
        have HK2 := Lib.hid (HK.out.keep.trans hk2)
        clear hk2
        go_wp2_with fail
        go_ret
        exact ⟨rfl, HK2.out.below (Nat.le_refl _) (fun _ _ h => h)⟩
      · by_cases h2 : kd = 2
        · subst h2
          by_cases hin : 0 ≤ ad ∧ ad < n
          · obtain ⟨an, rfl⟩ := Int.eq_ofNat_of_zero_le hin.1
            obtain ⟨n', rfl⟩ : ∃ n', n = n' + 1 := ⟨n - 1, by omega⟩
            have HD := Lib.hid (HK.out.deliver (by omega) an (by omega))
            clear hin
            go_wp2_with fail
            refine HD.out.mono ?_
            rintro e w2 ⟨d', rfl, hd', hk2, hkp2⟩
            have HB := Lib.hid ((hk2.still (w' := w2.alloc (.cells #[.int .i64 1, .int .i64 2, .string d'] 29)) ((Keep.refl _ _).alloc _)))
            have HRB : Hid (SRow w (.slice sa ln sc) ln ss (w2.alloc (.cells #[.int .i64 1, .int .i64 2, .string d'] 29))) := Lib.hid ((HR.out.keep hkp2 (fun k hk => fun h => h.2 hk)).keep (T := fun _ => False) ((Keep.refl _ _).alloc _) (fun _ _ h => h))
            have HX := Lib.hid (And.intro (get1 w2 (.cells #[.int .i64 1, .int .i64 2, .string d'] 29)) (show w2.heap.size < (w2.alloc (.cells #[.int .i64 1, .int .i64 2, .string d'] 29)).heap.size by show _ < (Array.push _ _).size; rw [Array.size_push]; omega))
            have HM := Lib.hid (show anyEq ss d' ln = true by rw [HRB.out.1]; exact anyEq_all ss d' hd')
            have HA0 := Lib.hid (anyEq_zero ss d')
            clear hk2 hkp2 hd' HK HR ck ca cd HD
            go_wp2_with fail
            go_loopg [9, 10] ln (fun x is j wq => ∃ m : Nat, m ≤ ln ∧ x = ln - m ∧ j = .int .i64 m ∧ is = .bool (anyEq ss d' m) ∧ Hid (Keep (fun _ => False) (w2.alloc (.cells #[.int .i64 1, .int .i64 2, .string d'] 29)) wq))
            case atStart => exact ⟨0, by omega, by omega, rfl, by rw [HA0.out], Keep.refl _ _⟩
            case round =>
              obtain ⟨wq, rfl⟩ : ∃ wq : World, wq = wr := ⟨_, rfl⟩
              obtain ⟨m, hmm, rfl, rfl, rfl, hH⟩ := hrel
              have HQ := Lib.hid hH.out
              clear hH
              by_cases hlm : m < ln
              · have hrq := HRB.out.keep HQ.out (fun _ _ h => h)
                obtain ⟨g, rfl, hg, hcg⟩ := hrq.cells m hlm
                have HSU := Lib.hid (anyEq_succ ss d' m (by rw [← HRB.out.1]; exact hlm))
                have hlsc : ln ≤ 200 := by omega
                generalize ss.getD m ByteArray.empty = sm at *
                have hx := (HQ.out.block _ HX.out.2 (fun h => h)).trans HX.out.1
                have hdx : wq.cell? ⟨w2.heap.size, 2, none⟩ = some (.string d') := cell_of hx 2 _ rfl
                have hi0 : (0 : Int) ≤ (m : Int) := by omega
                have hi1 : (m : Int) < (ln : Int) := by omega
                clear hrq hx
                generalize hb : anyEq ss d' m = bl at HSU ⊢
                cases bl
                · go_wp2_with fail
                  go_quiet (fail)
                  go_wp2_with fail
                  go_roundg (ln - (m + 1))
                  case measure => omega
                  case rel => exact ⟨m + 1, by omega, rfl, by go_num, by rw [HSU.out, Bool.false_or], HQ.out.drewN _⟩
                · go_wp2_with fail
                  go_quiet (fail)
                  go_wp2_with fail
                  go_roundg (ln - (m + 1))
                  case measure => omega
                  case rel => exact ⟨m + 1, by omega, rfl, by go_num, by rw [HSU.out, Bool.true_or], HQ.out.drewN _⟩
              · obtain rfl : ln = m := by omega
                rw [HM.out]
                have HB := Lib.hid (HB.out.still HQ.out)
                have HRB := Lib.hid (HRB.out.keep HQ.out (fun _ _ h => h))
                obtain ⟨wz, hwz⟩ : ∃ wz, wz = (wq).alloc (.cells #[.int .i64 1, .int .i64 2] 39) := ⟨_, rfl⟩
                have HZ := Lib.hid (HB.out.still (w' := wz) (by rw [hwz]; exact (Keep.refl _ _).alloc _))
                have HRZ : Hid (SRow w (.slice sa ln sc) (ln) (ss) wz) := Lib.hid (HRB.out.keep (T := fun _ => False) (by rw [hwz]; exact (Keep.refl _ _).alloc _) (fun _ _ h => h))
                have hzx : wz.heap[wq.heap.size]? = some (.cells #[.int .i64 1, .int .i64 2] 39 (0, 0)) := by rw [hwz]; exact get1 _ _
                have z0 : ∀ m os, (grow (wz.drewN m) os).cell? ⟨wq.heap.size, 0, none⟩ = some (.int .i64 1) := fun m os => grown_cell (cell_of hzx 0 _ rfl) m os
                have z1 : ∀ m os, (grow (wz.drewN m) os).cell? ⟨wq.heap.size, 1, none⟩ = some (.int .i64 2) := fun m os => grown_cell (cell_of hzx 1 _ rfl) m os
                have hsum' : ((ln : Nat) : Int) = (cl) + (cm + 1) + (n' : Nat) := by have := HS.out; omega
                have HWZ := Lib.hid hwz
                have y1 : IntKind.i64.wrap ((cl) + (cm + 1)) = (cl) + (cm + 1) := IntWalk.i64_in _ (by omega)
                have y2 : IntKind.i64.wrap ((cl) + (cm + 1) + (n' : Nat)) = (cl) + (cm + 1) + (n' : Nat) := IntWalk.i64_in _ (by omega)
                have y3 : (((ln : Nat) : Int) != (cl) + (cm + 1) + (n' : Nat)) = false := by rw [← hsum']; simp
                have HY := Lib.hid (And.intro y1 (And.intro y2 y3))
                have HS' := Lib.hid hsum'
                clear hwz hzx hsum' y1 y2 y3 
                go_wp2_with fail
                rw [← HWZ.out]
                obtain ⟨y1, y2, y3⟩ := HY.out
                refine wp_region_grown (by kernel_rfl) (by kernel_rfl) ?_
                repeat (quiet_step (first | (go_at_call 15; exact HZ.out.sentG _ _) | (go_at_call 16; exact HZ.out.lostG _ _) | (go_at_call 13; exact HZ.out.lenG _ _)))
                refine wpQuiet_nil ?_
                rintro _ ⟨⟨nq, osq⟩, rfl⟩
                clear y1 y2
                go_wp2_with fail
                go_roundg (len - (k + 1))
                case measure => omega
                case rel => exact ⟨k + 1, by omega, rfl, by go_num, sa, ln, sc, ss, cm + 1, cl, n', rfl, rfl, by omega, by omega, hl0, HS'.out, HRZ.out.keep (grown_keep (fun _ => False) _ _ _) (fun _ _ h => h), HZ.out.still (grown_keep _ _ _ _)⟩
          · have HD := Lib.hid (HK.out.deliver_bad (by omega) ad hin)
            clear hin
            go_wp2_with fail
            refine HD.out.mono ?_
            rintro e w2 ⟨rfl, hk2, hkp2⟩
            have HB := Lib.hid ((hk2.still (w' := w2.alloc (.cells #[.int .i64 0, .int .i64 0, .string (ByteArray.mk #[])] 29)) ((Keep.refl _ _).alloc _)))
            have HRB : Hid (SRow w (.slice sa ln sc) ln ss (w2.alloc (.cells #[.int .i64 0, .int .i64 0, .string (ByteArray.mk #[])] 29))) := Lib.hid ((HR.out.keep hkp2 (fun k hk => fun h => h.2 hk)).keep (T := fun _ => False) ((Keep.refl _ _).alloc _) (fun _ _ h => h))
            clear hk2 hkp2 HK HR ck ca cd HD
            obtain ⟨wz, hwz⟩ : ∃ wz, wz = (w2.alloc (.cells #[.int .i64 0, .int .i64 0, .string (ByteArray.mk #[])] 29)).alloc (.cells #[.int .i64 1, .int .i64 2] 39) := ⟨_, rfl⟩
            have HZ := Lib.hid (HB.out.still (w' := wz) (by rw [hwz]; exact (Keep.refl _ _).alloc _))
            have HRZ : Hid (SRow w (.slice sa ln sc) (ln) (ss) wz) := Lib.hid (HRB.out.keep (T := fun _ => False) (by rw [hwz]; exact (Keep.refl _ _).alloc _) (fun _ _ h => h))
            have hzx : wz.heap[w2.heap.size + 1]? = some (.cells #[.int .i64 1, .int .i64 2] 39 (0, 0)) := by rw [hwz]; exact (by have := get1 (w2.alloc (.cells #[.int .i64 0, .int .i64 0, .string (ByteArray.mk #[])] 29)) (.cells #[.int .i64 1, .int .i64 2] 39); rwa [show (w2.alloc (.cells #[.int .i64 0, .int .i64 0, .string (ByteArray.mk #[])] 29)).heap.size = w2.heap.size + 1 from Array.size_push _] at this)
            have z0 : ∀ m os, (grow (wz.drewN m) os).cell? ⟨w2.heap.size + 1, 0, none⟩ = some (.int .i64 1) := fun m os => grown_cell (cell_of hzx 0 _ rfl) m os
            have z1 : ∀ m os, (grow (wz.drewN m) os).cell? ⟨w2.heap.size + 1, 1, none⟩ = some (.int .i64 2) := fun m os => grown_cell (cell_of hzx 1 _ rfl) m os
            have hsum' : ((ln : Nat) : Int) = (cl) + (cm) + (n : Nat) := by have := HS.out; omega
            have HWZ := Lib.hid hwz
            have y1 : IntKind.i64.wrap ((cl) + (cm)) = (cl) + (cm) := IntWalk.i64_in _ (by omega)
            have y2 : IntKind.i64.wrap ((cl) + (cm) + (n : Nat)) = (cl) + (cm) + (n : Nat) := IntWalk.i64_in _ (by omega)
            have y3 : (((ln : Nat) : Int) != (cl) + (cm) + (n : Nat)) = false := by rw [← hsum']; simp
            have HY := Lib.hid (And.intro y1 (And.intro y2 y3))
            have HS' := Lib.hid hsum'
            clear hwz hzx hsum' y1 y2 y3 
            go_wp2_with fail
            rw [← HWZ.out]
            obtain ⟨y1, y2, y3⟩ := HY.out
            refine wp_region_grown (by kernel_rfl) (by kernel_rfl) ?_
            repeat (quiet_step (first | (go_at_call 15; exact HZ.out.sentG _ _) | (go_at_call 16; exact HZ.out.lostG _ _) | (go_at_call 13; exact HZ.out.lenG _ _)))
            refine wpQuiet_nil ?_
            rintro _ ⟨⟨nq, osq⟩, rfl⟩
            clear y1 y2
            go_wp2_with fail
            go_roundg (len - (k + 1))
            case measure => omega
            case rel => exact ⟨k + 1, by omega, rfl, by go_num, sa, ln, sc, ss, cm, cl, n, rfl, rfl, by omega, hc0, hl0, HS'.out, HRZ.out.keep (grown_keep (fun _ => False) _ _ _) (fun _ _ h => h), HZ.out.still (grown_keep _ _ _ _)⟩
        · have h2' : (kd == 2) = false := by simpa using h2
          by_cases h3 : kd = 3
          · subst h3
            by_cases hin : 0 ≤ ad ∧ ad < n
            · obtain ⟨an, rfl⟩ := Int.eq_ofNat_of_zero_le hin.1
              obtain ⟨n', rfl⟩ : ∃ n', n = n' + 1 := ⟨n - 1, by omega⟩
              have HD := Lib.hid (HK.out.drop (by omega) hl0 (by omega) an (by omega))
              clear hin
              go_wp2_with fail
              refine HD.out.mono ?_
              rintro e w2 ⟨rfl, hk2, hkp2⟩
              have HB := Lib.hid hk2
              have HRB := Lib.hid (HR.out.keep hkp2 (fun k hk => fun h => h.2 hk))
              clear hk2 hkp2 HK HR ck ca cd HD
              obtain ⟨wz, hwz⟩ : ∃ wz, wz = (w2).alloc (.cells #[.int .i64 1, .int .i64 2] 39) := ⟨_, rfl⟩
              have HZ := Lib.hid (HB.out.still (w' := wz) (by rw [hwz]; exact (Keep.refl _ _).alloc _))
              have HRZ : Hid (SRow w (.slice sa ln sc) (ln) (ss) wz) := Lib.hid (HRB.out.keep (T := fun _ => False) (by rw [hwz]; exact (Keep.refl _ _).alloc _) (fun _ _ h => h))
              have hzx : wz.heap[w2.heap.size]? = some (.cells #[.int .i64 1, .int .i64 2] 39 (0, 0)) := by rw [hwz]; exact get1 _ _
              have z0 : ∀ m os, (grow (wz.drewN m) os).cell? ⟨w2.heap.size, 0, none⟩ = some (.int .i64 1) := fun m os => grown_cell (cell_of hzx 0 _ rfl) m os
              have z1 : ∀ m os, (grow (wz.drewN m) os).cell? ⟨w2.heap.size, 1, none⟩ = some (.int .i64 2) := fun m os => grown_cell (cell_of hzx 1 _ rfl) m os
              have hsum' : ((ln : Nat) : Int) = (cl + 1) + (cm) + (n' : Nat) := by have := HS.out; omega
              have HWZ := Lib.hid hwz
              have y1 : IntKind.i64.wrap ((cl + 1) + (cm)) = (cl + 1) + (cm) := IntWalk.i64_in _ (by omega)
              have y2 : IntKind.i64.wrap ((cl + 1) + (cm) + (n' : Nat)) = (cl + 1) + (cm) + (n' : Nat) := IntWalk.i64_in _ (by omega)
              have y3 : (((ln : Nat) : Int) != (cl + 1) + (cm) + (n' : Nat)) = false := by rw [← hsum']; simp
              have HY := Lib.hid (And.intro y1 (And.intro y2 y3))
              have HS' := Lib.hid hsum'
              clear hwz hzx hsum' y1 y2 y3 
              go_wp2_with fail
              rw [← HWZ.out]
              obtain ⟨y1, y2, y3⟩ := HY.out
              refine wp_region_grown (by kernel_rfl) (by kernel_rfl) ?_
              repeat (quiet_step (first | (go_at_call 15; exact HZ.out.sentG _ _) | (go_at_call 16; exact HZ.out.lostG _ _) | (go_at_call 13; exact HZ.out.lenG _ _)))
              refine wpQuiet_nil ?_
              rintro _ ⟨⟨nq, osq⟩, rfl⟩
              clear y1 y2
              go_wp2_with fail
              go_roundg (len - (k + 1))
              case measure => omega
              case rel => exact ⟨k + 1, by omega, rfl, by go_num, sa, ln, sc, ss, cm, cl + 1, n', rfl, rfl, by omega, hc0, by omega, HS'.out, HRZ.out.keep (grown_keep (fun _ => False) _ _ _) (fun _ _ h => h), HZ.out.still (grown_keep _ _ _ _)⟩
            · have HD := Lib.hid (HK.out.drop_bad (by omega) ad hin)
              clear hin
              go_wp2_with fail
              refine HD.out.mono ?_
              rintro e w2 ⟨rfl, hk2, hkp2⟩
              have HB := Lib.hid hk2
              have HRB := Lib.hid (HR.out.keep hkp2 (fun k hk => fun h => h.2 hk))
              clear hk2 hkp2 HK HR ck ca cd HD
              obtain ⟨wz, hwz⟩ : ∃ wz, wz = (w2).alloc (.cells #[.int .i64 1, .int .i64 2] 39) := ⟨_, rfl⟩
              have HZ := Lib.hid (HB.out.still (w' := wz) (by rw [hwz]; exact (Keep.refl _ _).alloc _))
              have HRZ : Hid (SRow w (.slice sa ln sc) (ln) (ss) wz) := Lib.hid (HRB.out.keep (T := fun _ => False) (by rw [hwz]; exact (Keep.refl _ _).alloc _) (fun _ _ h => h))
              have hzx : wz.heap[w2.heap.size]? = some (.cells #[.int .i64 1, .int .i64 2] 39 (0, 0)) := by rw [hwz]; exact get1 _ _
              have z0 : ∀ m os, (grow (wz.drewN m) os).cell? ⟨w2.heap.size, 0, none⟩ = some (.int .i64 1) := fun m os => grown_cell (cell_of hzx 0 _ rfl) m os
              have z1 : ∀ m os, (grow (wz.drewN m) os).cell? ⟨w2.heap.size, 1, none⟩ = some (.int .i64 2) := fun m os => grown_cell (cell_of hzx 1 _ rfl) m os
              have hsum' : ((ln : Nat) : Int) = (cl) + (cm) + (n : Nat) := by have := HS.out; omega
              have HWZ := Lib.hid hwz
              have y1 : IntKind.i64.wrap ((cl) + (cm)) = (cl) + (cm) := IntWalk.i64_in _ (by omega)
              have y2 : IntKind.i64.wrap ((cl) + (cm) + (n : Nat)) = (cl) + (cm) + (n : Nat) := IntWalk.i64_in _ (by omega)
              have y3 : (((ln : Nat) : Int) != (cl) + (cm) + (n : Nat)) = false := by rw [← hsum']; simp
              have HY := Lib.hid (And.intro y1 (And.intro y2 y3))
              have HS' := Lib.hid hsum'
              clear hwz hzx hsum' y1 y2 y3 
              go_wp2_with fail
              rw [← HWZ.out]
              obtain ⟨y1, y2, y3⟩ := HY.out
              refine wp_region_grown (by kernel_rfl) (by kernel_rfl) ?_
              repeat (quiet_step (first | (go_at_call 15; exact HZ.out.sentG _ _) | (go_at_call 16; exact HZ.out.lostG _ _) | (go_at_call 13; exact HZ.out.lenG _ _)))
              refine wpQuiet_nil ?_
              rintro _ ⟨⟨nq, osq⟩, rfl⟩
              clear y1 y2
              go_wp2_with fail
              go_roundg (len - (k + 1))
              case measure => omega
              case rel => exact ⟨k + 1, by omega, rfl, by go_num, sa, ln, sc, ss, cm, cl, n, rfl, rfl, by omega, hc0, hl0, HS'.out, HRZ.out.keep (grown_keep (fun _ => False) _ _ _) (fun _ _ h => h), HZ.out.still (grown_keep _ _ _ _)⟩
          · have h3' : (kd == 3) = false := by simpa using h3
            have HD := Lib.hid (HK.out.send (by omega) (by omega) hl0 (by omega) d (by omega))
            go_wp2_with fail
            refine HD.out.mono ?_
            rintro e w2 ⟨rfl, hk2, hkp2⟩
            have HR2 := Lib.hid (HR.out.keep hkp2 (fun k hk => fun h => h.2 hk))
            have cd2 : w2.cell? ⟨bb, off + k * 5 + 4, none⟩ = some (.string d) := (hk2.keep.cell (p := ⟨bb, off + k * 5 + 4, none⟩) HCD.out.1 (fun h => h)).trans HCD.out.2
            have HK2 := Lib.hid hk2
            have hlsc : ln ≤ 200 := by omega
            have HRA : Hid (SRow w (.slice sa ln sc) ln ss (w2.alloc (.cells #[.string d] 9))) := Lib.hid (HR2.out.keep (T := fun _ => False) ((Keep.refl _ _).alloc _) (fun _ _ h => h))
            have hwa : w.heap.size ≤ (w2.alloc (.cells #[.string d] 9)).heap.size := by have := hk2.keep.size; show _ ≤ (Array.push _ _).size; rw [Array.size_push]; omega
            have hsa : (w2.alloc (.cells #[.string d] 9)).heap.size = w2.heap.size + 1 := Array.size_push _
            have HXA := Lib.hid (And.intro (get1 w2 (.cells #[.string d] 9)) (And.intro hwa hsa))
            clear hk2 hkp2 HK HR ck ca cd HD hwa hsa
            go_wp2_with (at_builtin; refine wpl_append_str (W := w) rfl (.tmp 46) (.tmp 52) rfl (.slice sa ln sc) ln ss rfl HRA.out w2.heap.size 1 d rfl HXA.out.1 (by omega) HXA.out.2.1 ?_; intro g cap' w3 hr3 hk3 hat3; have HW3 := Lib.hid (And.intro hr3 (And.intro hk3 hat3)); clear hr3 hk3 hat3)
            have HRB := Lib.hid HW3.out.1
            have HB : Hid (KNet w (fun x => (Value.slice (some ⟨g, 0, none⟩) (ln + 1) cap').ownBlock = some x) b (ss ++ [d]) (ln + 1) cl (n + 1) w3) := Lib.hid (by
              refine (HK2.out.still (w' := w2.alloc (.cells #[.string d] 9)) ((Keep.refl _ _).alloc _)).turn HW3.out.2.1 (fun k hk => ⟨hk, (HR2.out.lt k hk).2⟩) ?_
              intro k hk
              cases hk
              refine ⟨?_, (HRB.out.lt g rfl).1⟩
              rcases HW3.out.2.2 with e | e
              · exact Or.inl e
              · exact Or.inr (Nat.le_of_eq e.symm))
            clear HW3 HXA HK2 HR2 HRA cd2
            generalize hle : ln + 1 = le at HB HRB ⊢
            generalize hne : n + 1 = ne at HB
            have HLE := Lib.hid (And.intro hle hne)
            obtain ⟨wz, hwz⟩ : ∃ wz, wz = (w3).alloc (.cells #[.int .i64 1, .int .i64 2] 39) := ⟨_, rfl⟩
            have HZ := Lib.hid (HB.out.still (w' := wz) (by rw [hwz]; exact (Keep.refl _ _).alloc _))
            have HRZ : Hid (SRow w (.slice (some ⟨g, 0, none⟩) le cap') (le) (ss ++ [d]) wz) := Lib.hid (HRB.out.keep (T := fun _ => False) (by rw [hwz]; exact (Keep.refl _ _).alloc _) (fun _ _ h => h))
            have hzx : wz.heap[w3.heap.size]? = some (.cells #[.int .i64 1, .int .i64 2] 39 (0, 0)) := by rw [hwz]; exact get1 _ _
            have z0 : ∀ m os, (grow (wz.drewN m) os).cell? ⟨w3.heap.size, 0, none⟩ = some (.int .i64 1) := fun m os => grown_cell (cell_of hzx 0 _ rfl) m os
            have z1 : ∀ m os, (grow (wz.drewN m) os).cell? ⟨w3.heap.size, 1, none⟩ = some (.int .i64 2) := fun m os => grown_cell (cell_of hzx 1 _ rfl) m os
            have hsum' : ((le : Nat) : Int) = (cl) + (cm) + (ne : Nat) := by have := HS.out; omega
            have HWZ := Lib.hid hwz
            have y1 : IntKind.i64.wrap ((cl) + (cm)) = (cl) + (cm) := IntWalk.i64_in _ (by omega)
            have y2 : IntKind.i64.wrap ((cl) + (cm) + (ne : Nat)) = (cl) + (cm) + (ne : Nat) := IntWalk.i64_in _ (by omega)
            have y3 : (((le : Nat) : Int) != (cl) + (cm) + (ne : Nat)) = false := by rw [← hsum']; simp
            have HY := Lib.hid (And.intro y1 (And.intro y2 y3))
            have HS' := Lib.hid hsum'
            clear hwz hzx hsum' y1 y2 y3 hle hne
            go_wp2_with fail
            rw [← HWZ.out]
            obtain ⟨y1, y2, y3⟩ := HY.out
            refine wp_region_grown (by kernel_rfl) (by kernel_rfl) ?_
            repeat (quiet_step (first | (go_at_call 15; exact HZ.out.sentG _ _) | (go_at_call 16; exact HZ.out.lostG _ _) | (go_at_call 13; exact HZ.out.lenG _ _)))
            refine wpQuiet_nil ?_
            rintro _ ⟨⟨nq, osq⟩, rfl⟩
            clear y1 y2
            go_wp2_with fail
            go_roundg (len - (k + 1))
            case measure => omega
            case rel => exact ⟨k + 1, by omega, rfl, by go_num, some ⟨g, 0, none⟩, le, cap', ss ++ [d], cm, cl, ne, rfl, rfl, by have := HLE.out.1; omega, hc0, hl0, HS'.out, HRZ.out.keep (grown_keep (fun _ => False) _ _ _) (fun _ _ h => h), HZ.out.still (grown_keep _ _ _ _)⟩
    · obtain rfl : k = len := by omega
      go_wp2_with fail
      refine (alive_any _).mono ?_
      rintro e w2 ⟨rfl, hk2⟩
      have HK2 := Lib.hid (HK.out.keep.trans hk2)
      clear hk2
      go_wp2_with fail
      go_ret
      exact ⟨rfl, HK2.out.below (Nat.le_refl _) (fun _ _ h => h)⟩
end Go.Proofs.Ytkfcjcbjefpliaa
