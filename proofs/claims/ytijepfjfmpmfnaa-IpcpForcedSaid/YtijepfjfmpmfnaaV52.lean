import Derived.Test.YtijepfjfmpmfnaaV51
/- The first call of chapter 17. -/
namespace Go.Proofs.Ytijepfjfmpmfnaa
open Go.RowKit Go.Tg Go.Maps

/-! ### The reference's Find, Address, Good -/
set_option maxHeartbeats 2000000 in
set_option maxRecDepth 100000 in
theorem rfind_any (l : List Opt) (lv : Value) (ok : Nat → Prop) (kd : Int) (w : World) (hl : Opts w ok lv l) (hmax : l.length ≤ 1000000) :
    Calls Try.prog 42 #[lv, .int .i64 kd] w fun e w' => e = .returned (.tuple #[.string ((findO l kd).getD default).v, .bool (findO l kd).isSome]) ∧ w = w' := by
  obtain ⟨sa, c, rfl, hc, hm⟩ := hl.form
  have HL := Lib.hid hl
  obtain ⟨len, hln⟩ : ∃ len, len = l.length := ⟨_, rfl⟩
  have HLN := Lib.hid hln
  rw [← hln] at hc hmax ⊢
  unfold maxLen at hm
  clear hl hln
  go_enter Try.func42, Try.ntmps42
  go_wp2_with fail
  go_loopg [6] len (fun x i wr => ∃ k : Nat, k ≤ len ∧ x = len - k ∧ i = .int .i64 k ∧ Hid (w = wr ∧ ∀ (j : Nat) (h : j < l.length), j < k → l[j].t ≠ kd))
  case atStart => exact ⟨0, by omega, by omega, rfl, rfl, fun j _ h => by omega⟩
  case round =>
    obtain ⟨k, hk, rfl, rfl, hK⟩ := hrel
    obtain ⟨rfl, hno⟩ := hK.out
    have HNO := Lib.hid hno
    clear hK hno
    by_cases hlt : k < len
    · have hlt' : k < l.length := by have := HLN.out; omega
      obtain ⟨b, off, rfl, -, -, -, -, -, c0, c1⟩ := HL.out.at k hlt'
      by_cases hx : l[k].t = kd
      · have hF : findO l kd = some l[k] := by
          unfold findO
          rw [List.find?_eq_some_iff_getElem]
          refine ⟨by simpa using hx, k, hlt', rfl, fun j hj => ?_⟩
          have := HNO.out j (by omega) hj
          simpa using this
        have HF := Lib.hid hF
        have hxb : (l[k].t == kd) = true := by simpa using hx
        generalize l[k] = o at *
        obtain ⟨t, v⟩ := o
        simp only at c0 c1 hxb
        clear hx hF
        go_wp2_with fail
        go_ret2
        exact ⟨by rw [HF.out]; rfl, rfl⟩
      · have HX := Lib.hid (show ∀ (j : Nat) (h : j < l.length), j < k + 1 → l[j].t ≠ kd from fun j hj hjk => by
          rcases Nat.lt_or_ge j k with h | h
          · exact HNO.out j hj h
          · have : j = k := by omega
            subst this
            exact hx)
        have hxb : (l[k].t == kd) = false := by simpa using hx
        generalize l[k].t = t at c0 hxb
        clear hx c1
        go_wp2_with fail
        go_roundg (len - (k + 1))
        case measure => omega
        case rel =>
          exact ⟨k + 1, by omega, rfl, by go_num, rfl, HX.out⟩
    · go_wp2_with fail
      go_ret2
      have hF : findO l kd = none := by
        unfold findO
        rw [List.find?_eq_none]
        intro x hx
        obtain ⟨j, hj, rfl⟩ := List.mem_iff_getElem.1 hx
        have := HNO.out j hj (by have := HLN.out; omega)
        simpa using this
      exact ⟨by rw [hF]; rfl, rfl⟩

set_option maxHeartbeats 2000000 in
set_option maxRecDepth 100000 in
theorem rgood_any (a b : Ad) (w : World) : Calls Try.prog 25 #[a.v, b.v] w fun e w' => e = .returned (.bool (goodS a b)) ∧ Below w.heap.size w w' := by
  have h1 := adEql a b
  have h2 := adNeq a Ad.z
  rw [← adz] at h2
  have HG := Lib.hid (show goodS a b = (adE a b && !adE a Ad.z) from rfl)
  unfold Ad.v at h1 h2
  unfold Ad.v
  generalize adE a b = x at *
  generalize adE a Ad.z = y at *
  generalize goodS a b = g at *
  cases x
  · go_enter Try.func25, Try.ntmps25
    go_wp2_with fail
    go_ret
    exact ⟨by rw [HG.out]; rfl, ((Below.refl _ _).alloc (Nat.le_refl _) _).alloc (by rw [alloc1]; omega) _⟩
  · go_enter Try.func25, Try.ntmps25
    go_wp2_with fail
    go_ret
    exact ⟨by rw [HG.out]; rfl, ((Below.refl _ _).alloc (Nat.le_refl _) _).alloc (by rw [alloc1]; omega) _⟩

set_option maxHeartbeats 4000000 in
set_option maxRecDepth 100000 in
theorem radr_any (l : List Opt) (lv : Value) (ok : Nat → Prop) (k : Int) (w : World) (hl : Opts w ok lv l) (hmax : l.length ≤ 1000000) (hv : ∀ o ∈ l, o.v.size ≤ 1000000000) :
    Calls Try.prog 23 #[lv, .int .i64 k] w fun e w' => e = .returned (.tuple #[(adrS l k).1.v, .bool (adrS l k).2]) ∧ Below w.heap.size w w' := by
  obtain ⟨sa, c, rfl, hc, hm⟩ := hl.form
  have hb0 := (Below.refl w.heap.size w).alloc (Nat.le_refl _) (.cells #[.int .u8 0, .int .u8 0, .int .u8 0, .int .u8 0] 49 (0, 0))
  have HF := Lib.hid (rfind_any l _ ok k _ (hl.below hb0) hmax)
  have hx := at1 w (.cells #[.int .u8 0, .int .u8 0, .int .u8 0, .int .u8 0] 49 (0, 0))
  have HX := Lib.hid hx
  have HB := Lib.hid hb0
  have z := fun o => fzOf hx o
  have y0 := cellOf hx 0 (.int .u8 0) rfl
  have y1 := cellOf hx 1 (.int .u8 0) rfl
  have y2 := cellOf hx 2 (.int .u8 0) rfl
  have y3 := cellOf hx 3 (.int .u8 0) rfl
  have hsv : ((findO l k).getD default).v.size ≤ 1000000000 := by
    cases h : findO l k with
    | none => show (ByteArray.mk #[]).size ≤ _; decide
    | some o => exact hv o (List.mem_of_find?_eq_some h)
  have hA : adrS l k = if (findO l k).isSome then (if ((findO l k).getD default).v.size = 4 then (adOf ((findO l k).getD default).v, true) else (Ad.z, false)) else (Ad.z, false) := by
    unfold adrS
    cases findO l k <;> simp
  have HA := Lib.hid hA
  generalize ((findO l k).getD default).v = s at HF HA hsv
  generalize (findO l k).isSome = y at HF HA
  generalize adrS l k = A at HA ⊢
  clear hl hb0 hA hx
  cases y with
  | false =>
    go_enter Try.func23, Try.ntmps23
    go_wp2_with (refine HF.out.mono ?_; rintro e w1 ⟨rfl, rfl⟩)
    refine bodyPost_ret (results_cell_tmp rfl _ _ w.heap.size 49 _ (0, 0) _ rfl (at1 w _) Try.underlying49 rfl addr_cells) rfl ?_
    exact ⟨by rw [HA.out]; rfl, (Below.refl _ _).alloc (Nat.le_refl _) _⟩
  | true =>
    by_cases h4 : s.size = 4
    · obtain ⟨x, rfl⟩ := ad_of4 s h4
      have hq : A = (x, true) := by rw [HA.out, if_pos rfl, if_pos h4]; rfl
      subst hq
      have hsz : x.s.size = 4 := rfl
      clear h4 hsv HA
      go_enter Try.func23, Try.ntmps23
      go_wp2_with (refine HF.out.mono ?_; rintro e w1 ⟨rfl, rfl⟩)
      unfold Ad.s
      refine wp_region_H (rgH 0 0) (fun _ => True) (by kernel_rfl) ?_
      refine wpAnyH_pure 0 (v := ?vv73) rfl (by kernel_rfl) (by kernel_rfl) (by kernel_rfl) (fun _ _ _ h => h) ?hy73 ?hh73
      case hy73 =>
        refine Or.inl ⟨by rfl, ?_⟩
        intro W _
        go_simp
        try with_reducible rfl
      simp only [Act.put, List.setIfInBounds_toArray, List.set_cons_zero, List.set_cons_succ]
      refine wpAnyH_pure 1 (v := ?vv74) rfl (by kernel_rfl) (by kernel_rfl) (by kernel_rfl) (fun _ _ _ h => h) ?hy74 ?hh74
      case hy74 =>
        refine Or.inl ⟨by rfl, ?_⟩
        intro W _
        go_simp
        try with_reducible rfl
      simp only [Act.put, List.setIfInBounds_toArray, List.set_cons_zero, List.set_cons_succ]
      refine wpAnyH_pure 2 (v := ?vv75) rfl (by kernel_rfl) (by kernel_rfl) (by kernel_rfl) (fun _ _ _ h => h) ?hy75 ?hh75
      case hy75 =>
        refine Or.inl ⟨by rfl, ?_⟩
        intro W _
        go_simp
        try with_reducible rfl
      simp only [Act.put, List.setIfInBounds_toArray, List.set_cons_zero, List.set_cons_succ]
      refine wpAnyH_pure 3 (v := ?vv76) rfl (by kernel_rfl) (by kernel_rfl) (by kernel_rfl) (fun _ _ _ h => h) ?hy76 ?hh76
      case hy76 =>
        refine Or.inl ⟨by rfl, ?_⟩
        intro W _
        go_simp
        try with_reducible rfl
      simp only [Act.put, List.setIfInBounds_toArray, List.set_cons_zero, List.set_cons_succ]
      refine wpAnyH_pure 4 (v := ?vv77) rfl (by kernel_rfl) (by kernel_rfl) (by kernel_rfl) (fun _ _ _ h => h) ?hy77 ?hh77
      case hy77 =>
        refine Or.inl ⟨by rfl, ?_⟩
        intro W _
        go_simp
        try with_reducible rfl
      simp only [Act.put, List.setIfInBounds_toArray, List.set_cons_zero, List.set_cons_succ]
      refine wpAnyH_pure 5 (v := ?vv78) rfl (by kernel_rfl) (by kernel_rfl) (by kernel_rfl) (fun _ _ _ h => h) ?hy78 ?hh78
      case hy78 =>
        refine Or.inl ⟨by rfl, ?_⟩
        intro W _
        go_simp
        try with_reducible rfl
      simp only [Act.put, List.setIfInBounds_toArray, List.set_cons_zero, List.set_cons_succ]
      refine wpAnyH_pure 6 (v := ?vv79) rfl (by kernel_rfl) (by kernel_rfl) (by kernel_rfl) (fun _ _ _ h => h) ?hy79 ?hh79
      case hy79 =>
        refine Or.inl ⟨by rfl, ?_⟩
        intro W _
        go_simp
        try with_reducible rfl
      simp only [Act.put, List.setIfInBounds_toArray, List.set_cons_zero, List.set_cons_succ]
      refine wpAnyH_pure 7 (v := ?vv80) rfl (by kernel_rfl) (by kernel_rfl) (by kernel_rfl) (fun _ _ _ h => h) ?hy80 ?hh80
      case hy80 =>
        refine Or.inl ⟨by rfl, ?_⟩
        intro W _
        go_simp
        try with_reducible rfl
      simp only [Act.put, List.setIfInBounds_toArray, List.set_cons_zero, List.set_cons_succ]
      refine wpAnyH_pure 8 (v := ?vv81) rfl (by kernel_rfl) (by kernel_rfl) (by kernel_rfl) (fun _ _ _ h => h) ?hy81 ?hh81
      case hy81 =>
        refine Or.inl ⟨by rfl, ?_⟩
        intro W _
        go_simp
        try with_reducible rfl
      simp only [Act.put, List.setIfInBounds_toArray, List.set_cons_zero, List.set_cons_succ]
      refine wpAnyH_end 9 (fun j hj => rgH_end _ _ j (by omega)) (by rfl) (by kernel_rfl) ?_
      simp only [List.drop_succ_cons, List.drop_zero]
      go_wp2_with fail
      refine bodyPost_ret (results_cell_tmp rfl _ _ w.heap.size 49 _ (0, 0) _ rfl (at1 w _) Try.underlying49 rfl addr_cells) rfl ?_
      exact ⟨rfl, ((Below.refl _ _).alloc (Nat.le_refl _) _).drew⟩
    · have hq : A = (Ad.z, false) := by rw [HA.out, if_pos rfl, if_neg h4]
      subst hq
      have dz : ((s.size : Int) != 4) = true := by simp; omega
      clear h4
      go_enter Try.func23, Try.ntmps23
      go_wp2_with (refine HF.out.mono ?_; rintro e w1 ⟨rfl, rfl⟩)
      refine bodyPost_ret (results_cell_tmp rfl _ _ w.heap.size 49 _ (0, 0) _ rfl (at1 w _) Try.underlying49 rfl addr_cells) rfl ?_
      exact ⟨rfl, (Below.refl _ _).alloc (Nat.le_refl _) _⟩
end Go.Proofs.Ytijepfjfmpmfnaa
