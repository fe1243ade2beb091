import Derived.Test.YtidlldfppoelnaaV23
namespace Go.Proofs.Ytidlldfppoelnaa
open Go.RowKit Go.Tg Go.Maps

theorem neqO (a b : Int) (s t : ByteArray) (w : World) : (binOp .neq 46 (.agg #[.int .i64 a, .string s]) (.agg #[.int .i64 b, .string t])).run Try.prog w = .ok (.bool (!(decide (a = b) && decide (s = t)))) w := by
  have u3 := Try.underlying3
  have a3 := Try.isAgg3
  have z3 := Try.sizeOf3
  have u9 := Try.underlying9
  have a9 := Try.isAgg9
  have z9 := Try.sizeOf9
  have hS : Try.prog.underlying 46 = some (.struct (Try.prog.fieldsOf 46)) := by kernel_rfl
  have hp : Try.prog.stoodInHeld 46 = false := by kernel_rfl
  rw [run_neq_struct, show (10000 : Nat) = 9999 + 1 from rfl, run_equalIn_agg w 9999 46 _ _ hS hp]
  simp only [Program.fieldsOf, Try.underlying46]
  go_simp
  by_cases h1 : a = b <;> by_cases h2 : s = t <;> simp [h1, h2]
  intro h
  rw [ByteArray.toList_eq, ByteArray.toList_eq] at h
  exact h2 (ByteArray.ext (Array.ext' h))

set_option maxHeartbeats 4000000 in
set_option maxRecDepth 100000 in
theorem equal_any (l l' : List Opt) (lv lv' : Value) (ok ok' : Nat → Prop) (w : World) (hl : Opts w ok lv l) (hl' : Opts w ok' lv' l') (hm : l.length ≤ 1000000) :
    Calls Try.prog 45 #[lv, lv'] w fun e w' => ∃ b, e = .returned (.bool b) ∧ (b = true ↔ l = l') ∧ Below w.heap.size w w' := by
  obtain ⟨sa, c, rfl, hc, hcm⟩ := hl.form
  obtain ⟨sb, d, rfl, hd, hdm⟩ := hl'.form
  by_cases hlen : l.length = l'.length
  · obtain ⟨len, hln⟩ : ∃ len, len = l.length := ⟨_, rfl⟩
    have HLN := Lib.hid (And.intro hln hlen)
    have H := Lib.hid (And.intro hl hl')
    rw [← hlen] at hd ⊢
    rw [← hln] at hc hm hd ⊢
    unfold maxLen at hcm hdm
    clear hln hlen hl hl'
    go_enter Try.func45, Try.ntmps45
    go_wp2_with fail
    go_loopg [13] len (fun x i wr => ∃ k : Nat, k ≤ len ∧ x = len - k ∧ i = .int .i64 k ∧ Hid (l.take k = l'.take k ∧ Below w.heap.size w wr))
    case atStart => exact ⟨0, by omega, by omega, rfl, rfl, Below.refl _ _⟩
    case round =>
      obtain ⟨k, hk, rfl, rfl, hK⟩ := hrel
      have HK := Lib.hid hK.out
      clear hK
      by_cases hkl : k < len
      · have h1 : k < l.length := by have := HLN.out; omega
        have h2 : k < l'.length := by have := HLN.out; omega
        obtain ⟨b, off, rfl, hb, -, -, -, -, c0, c1⟩ := H.out.1.at k h1
        obtain ⟨b', off', rfl, hb', -, -, -, -, c0', c1'⟩ := H.out.2.at k h2
        have d0 : wr.cell? ⟨b, off + k * 2, none⟩ = _ := (HK.out.2.cell (p := ⟨b, off + k * 2, none⟩) hb).trans c0
        have d1 : wr.cell? ⟨b, off + k * 2 + 1, none⟩ = _ := (HK.out.2.cell (p := ⟨b, off + k * 2 + 1, none⟩) hb).trans c1
        have d2 : wr.cell? ⟨b', off' + k * 2, none⟩ = _ := (HK.out.2.cell (p := ⟨b', off' + k * 2, none⟩) hb').trans c0'
        have d3 : wr.cell? ⟨b', off' + k * 2 + 1, none⟩ = _ := (HK.out.2.cell (p := ⟨b', off' + k * 2 + 1, none⟩) hb').trans c1'
        have HT := Lib.hid (show l.take (k + 1) = l.take k ++ [l[k]] ∧ l'.take (k + 1) = l'.take k ++ [l'[k]] from ⟨List.take_succ_eq_append_getElem h1, List.take_succ_eq_append_getElem h2⟩)
        have HNE := Lib.hid (show l[k] ≠ l'[k] → l ≠ l' from fun hn he => hn (by subst he; rfl))
        clear c0 c1 c0' c1'
        generalize l[k] = o at *
        generalize l'[k] = o' at *
        obtain ⟨t, v⟩ := o
        obtain ⟨t', v'⟩ := o'
        simp only at d0 d1 d2 d3
        by_cases he : t = t' ∧ v = v'
        · obtain ⟨rfl, rfl⟩ := he
          have hn : ∀ w, (binOp .neq 46 (.agg #[.int .i64 t, .string v]) (.agg #[.int .i64 t, .string v])).run Try.prog w = .ok (.bool false) w := fun w => by rw [neqO]; simp
          go_wp2_with fail
          go_quiet (fail)
          go_wp2_with fail
          go_roundg (len - (k + 1))
          case measure => omega
          case rel => exact ⟨k + 1, by omega, rfl, by go_num, by rw [HT.out.1, HT.out.2, HK.out.1], ⟨HK.out.2.os, HK.out.2.tape, HK.out.2.output, HK.out.2.size, HK.out.2.block⟩⟩
        · have hn : ∀ w, (binOp .neq 46 (.agg #[.int .i64 t, .string v]) (.agg #[.int .i64 t', .string v'])).run Try.prog w = .ok (.bool true) w := fun w => by
            rw [neqO]
            by_cases h1 : t = t'
            · have h2 : ¬ v = v' := fun h => he ⟨h1, h⟩
              simp [h1, h2]
            · simp [h1]
          have HE := Lib.hid (HNE.out (fun h => he (by cases h; exact ⟨rfl, rfl⟩)))
          clear he
          go_wp2_with fail
          go_quiet (fail)
          go_wp2_with fail
          go_ret
          exact ⟨false, rfl, by simp [HE.out], ⟨HK.out.2.os, HK.out.2.tape, HK.out.2.output, HK.out.2.size, HK.out.2.block⟩⟩
      · obtain rfl : len = k := by omega
        go_wp2_with fail
        go_ret
        have h1 := HK.out.1
        rw [HLN.out.1, List.take_length, HLN.out.2, List.take_length] at h1
        exact ⟨true, rfl, by simp [h1], HK.out.2⟩
  · have HE := Lib.hid (show l ≠ l' from fun h => hlen (by rw [h]))
    obtain ⟨n1, h1⟩ : ∃ n, n = l.length := ⟨_, rfl⟩
    obtain ⟨n2, h2⟩ : ∃ n, n = l'.length := ⟨_, rfl⟩
    rw [← h1] at hc hm ⊢
    rw [← h2] at hd ⊢
    rw [← h1, ← h2] at hlen
    have hz : ¬ ((n1 : Int) = (n2 : Int)) := by omega
    clear h1 h2 hlen hl hl'
    go_enter Try.func45, Try.ntmps45
    go_wp2_with fail
    go_ret
    exact ⟨false, rfl, by simp [HE.out], Below.refl _ _⟩

set_option maxHeartbeats 4000000 in
theorem same_any (l l' : List Opt) (lv lv' : Value) (ok ok' : Nat → Prop) (w : World) (hl : Opts w ok lv l) (hl' : Opts w ok' lv' l') (hm : l.length ≤ 1000000) :
    Calls Try.prog 19 #[lv, lv'] w fun e w' => ∃ b, e = .returned (.bool b) ∧ (b = true ↔ l = l') ∧ Below w.heap.size w w' := by
  have H := Lib.hid (equal_any l l' lv lv' ok ok' w hl hl' hm)
  clear hl hl' hm
  go_enter Try.func19, Try.ntmps19
  go_wp2_with fail
  refine H.out.mono ?_
  rintro e w1 ⟨b, rfl, h1, h2⟩
  have H2 := Lib.hid (And.intro h1 h2)
  clear h1 h2
  go_wp2_with fail
  go_ret
  exact ⟨b, rfl, H2.out⟩
end Go.Proofs.Ytidlldfppoelnaa
