import Derived.Test.YthhdackaopaojaaGreatK34
import Derived.Test.YthhdackaopaojaaGreatO
/- A link that hears itself: the walk. -/
namespace Go.Proofs.YthhdackaopaojaaGreat
open Go.RowKit Go.Tg Go.Maps

/-- Packets that a link's calls do not turn. -/
def PkFree (L : LB) (w : World) (v : Value) (l : List Pk) : Prop := ∃ ok base, PksAt w ok base v l ∧ ∀ b, ok b ∨ base ≤ b → ¬ L.t b

set_option maxHeartbeats 16000000 in
set_option maxRecDepth 100000 in
theorem lcpLoops_any (m : Int) (dl : List Int) (dv : Value) (n : Int) (w : World) (hd : Nums w (fun _ => True) dv dl) (hi : ∀ x ∈ dl, I64 x) :
    Calls Tryz.prog 3 #[.int .i64 m, dv, .int .i64 n] w fun e w' => e = .returned (.bool true) ∧ Below w.heap.size w w' := by
  have q1 : ∀ w a, (binOp .eql 27 (.pointer (some a)) (.pointer none)).run Tryz.prog w = .ok (.bool false) w := fun w a => by kernel_rfl
  have HAL := Lib.hid lalive_any
  obtain ⟨sa, ca, rfl, hca, hcm⟩ := hd.form
  have HD := Lib.hid (And.intro hd hi)
  obtain ⟨len, hln⟩ : ∃ len, len = dl.length := ⟨_, rfl⟩
  have HLN := Lib.hid hln
  rw [← hln] at hca ⊢
  unfold maxLen at hcm
  clear hd hi hln
  by_cases h1 : m < 1
  · have d1 : decide (m < 1) = true := by simpa using h1
    clear h1
    go_enter Tryz.func3, Tryz.ntmps3
    go_wp2_with (first
      | (go_at_call 10; refine (config_any _).mono ?_; rintro e w1 ⟨rfl, b1⟩; have HB1 := Lib.hid b1; clear b1)
      | (go_at_call 11; refine (HAL.out _).mono ?_; rintro e w2 ⟨rfl, b2⟩; have HB2 := Lib.hid b2; clear b2))
    go_ret
    exact ⟨rfl, (HB1.out.alloc HB1.out.size (.cells #[.int .i64 1492, .int .i64 0, .int .i64 m, .int .i64 0, .int .i64 5, .int .i64 2, .int .i64 5, .int .i64 3] 24 (0, 0))).trans (HB2.out.mono (HB1.out.alloc HB1.out.size (.cells #[.int .i64 1492, .int .i64 0, .int .i64 m, .int .i64 0, .int .i64 5, .int .i64 2, .int .i64 5, .int .i64 3] 24 (0, 0))).size)⟩
  · have d1 : decide (m < 1) = false := by simpa using h1
    by_cases h2 : (4294967296 : Int) ≤ m
    · have d2 : decide ((4294967296 : Int) ≤ m) = true := by simpa using h2
      clear h1 h2
      go_enter Tryz.func3, Tryz.ntmps3
      go_wp2_with (first
        | (go_at_call 10; refine (config_any _).mono ?_; rintro e w1 ⟨rfl, b1⟩; have HB1 := Lib.hid b1; clear b1)
        | (go_at_call 11; refine (HAL.out _).mono ?_; rintro e w2 ⟨rfl, b2⟩; have HB2 := Lib.hid b2; clear b2))
      go_ret
      exact ⟨rfl, (HB1.out.alloc HB1.out.size (.cells #[.int .i64 1492, .int .i64 0, .int .i64 m, .int .i64 0, .int .i64 5, .int .i64 2, .int .i64 5, .int .i64 3] 24 (0, 0))).trans (HB2.out.mono (HB1.out.alloc HB1.out.size (.cells #[.int .i64 1492, .int .i64 0, .int .i64 m, .int .i64 0, .int .i64 5, .int .i64 2, .int .i64 5, .int .i64 3] 24 (0, 0))).size)⟩
    · have d2 : decide ((4294967296 : Int) ≤ m) = false := by simpa using h2
      by_cases h3 : n < 0
      · have d3 : decide (n < 0) = true := by simpa using h3
        clear h1 h2 h3
        go_enter Tryz.func3, Tryz.ntmps3
        go_wp2_with (first
          | (go_at_call 10; refine (config_any _).mono ?_; rintro e w1 ⟨rfl, b1⟩; have HB1 := Lib.hid b1; clear b1)
          | (go_at_call 11; refine (HAL.out _).mono ?_; rintro e w2 ⟨rfl, b2⟩; have HB2 := Lib.hid b2; clear b2))
        go_ret
        exact ⟨rfl, (HB1.out.alloc HB1.out.size (.cells #[.int .i64 1492, .int .i64 0, .int .i64 m, .int .i64 0, .int .i64 5, .int .i64 2, .int .i64 5, .int .i64 3] 24 (0, 0))).trans (HB2.out.mono (HB1.out.alloc HB1.out.size (.cells #[.int .i64 1492, .int .i64 0, .int .i64 m, .int .i64 0, .int .i64 5, .int .i64 2, .int .i64 5, .int .i64 3] 24 (0, 0))).size)⟩
      · have d3 : decide (n < 0) = false := by simpa using h3
        by_cases h4 : (40 : Int) < n
        · have d4 : decide ((40 : Int) < n) = true := by simpa using h4
          clear h1 h2 h3 h4
          go_enter Tryz.func3, Tryz.ntmps3
          go_wp2_with (first
            | (go_at_call 10; refine (config_any _).mono ?_; rintro e w1 ⟨rfl, b1⟩; have HB1 := Lib.hid b1; clear b1)
            | (go_at_call 11; refine (HAL.out _).mono ?_; rintro e w2 ⟨rfl, b2⟩; have HB2 := Lib.hid b2; clear b2))
          go_ret
          exact ⟨rfl, (HB1.out.alloc HB1.out.size (.cells #[.int .i64 1492, .int .i64 0, .int .i64 m, .int .i64 0, .int .i64 5, .int .i64 2, .int .i64 5, .int .i64 3] 24 (0, 0))).trans (HB2.out.mono (HB1.out.alloc HB1.out.size (.cells #[.int .i64 1492, .int .i64 0, .int .i64 m, .int .i64 0, .int .i64 5, .int .i64 2, .int .i64 5, .int .i64 3] 24 (0, 0))).size)⟩
        · have d4 : decide ((40 : Int) < n) = false := by simpa using h4
          by_cases h5 : 200 < len
          · have d5 : decide ((200 : Int) < (len : Int)) = true := by simp; omega
            clear h1 h2 h3 h4 h5
            go_enter Tryz.func3, Tryz.ntmps3
            go_wp2_with (first
              | (go_at_call 10; refine (config_any _).mono ?_; rintro e w1 ⟨rfl, b1⟩; have HB1 := Lib.hid b1; clear b1)
              | (go_at_call 11; refine (HAL.out _).mono ?_; rintro e w2 ⟨rfl, b2⟩; have HB2 := Lib.hid b2; clear b2))
            go_ret
            exact ⟨rfl, (HB1.out.alloc HB1.out.size (.cells #[.int .i64 1492, .int .i64 0, .int .i64 m, .int .i64 0, .int .i64 5, .int .i64 2, .int .i64 5, .int .i64 3] 24 (0, 0))).trans (HB2.out.mono (HB1.out.alloc HB1.out.size (.cells #[.int .i64 1492, .int .i64 0, .int .i64 m, .int .i64 0, .int .i64 5, .int .i64 2, .int .i64 5, .int .i64 3] 24 (0, 0))).size)⟩
          · have d5 : decide ((200 : Int) < (len : Int)) = false := by simp; omega
            obtain ⟨N, rfl⟩ : ∃ N : Nat, n = (N : Int) := ⟨n.toNat, by omega⟩
            have HM := Lib.hid (show 1 ≤ m ∧ m < 4294967296 from by omega)
            have hN40 : N ≤ 40 := by omega
            have HLL := Lib.hid (show dl.length ≤ 200 from by have := HLN.out; omega)
            clear h1 h2 h3 h4 h5
            go_enter Tryz.func3, Tryz.ntmps3
            go_wp2_with fail
            refine (config_any _).mono ?_
            rintro e w1 ⟨rfl, b1⟩
            have HB1 := Lib.hid b1
            clear b1
            go_wp2_with fail
            have hb2 : Below w.heap.size w (w1.alloc (.cells #[.int .i64 1492, .int .i64 0, .int .i64 m, .int .i64 0, .int .i64 5, .int .i64 2, .int .i64 5, .int .i64 3] 24 (0, 0))) := HB1.out.alloc HB1.out.size _
            have hz2 := at1 w1 (.cells #[.int .i64 1492, .int .i64 0, .int .i64 m, .int .i64 0, .int .i64 5, .int .i64 2, .int .i64 5, .int .i64 3] 24 (0, 0))
            have hs2 := alloc1 w1 (.cells #[.int .i64 1492, .int .i64 0, .int .i64 m, .int .i64 0, .int .i64 5, .int .i64 2, .int .i64 5, .int .i64 3] 24 (0, 0))
            generalize hW : w1.alloc (.cells #[.int .i64 1492, .int .i64 0, .int .i64 m, .int .i64 0, .int .i64 5, .int .i64 2, .int .i64 5, .int .i64 3] 24 (0, 0)) = W at hb2 hz2 hs2 ⊢
            have HB2 := Lib.hid (And.intro hb2 (And.intro hz2 hs2))
            clear hW hb2 hz2 hs2
            have HS : Hid (∀ Y, Below W.heap.size W Y → (fun Y : World => Y.cell? ⟨w1.heap.size, 0, none⟩ = some (.int .i64 1492) ∧ Y.cell? ⟨w1.heap.size, 1, none⟩ = some (.int .i64 0) ∧ Y.cell? ⟨w1.heap.size, 2, none⟩ = some (.int .i64 m) ∧ Y.cell? ⟨w1.heap.size, 3, none⟩ = some (.int .i64 0) ∧ Y.cell? ⟨w1.heap.size, 4, none⟩ = some (.int .i64 5) ∧ Y.cell? ⟨w1.heap.size, 5, none⟩ = some (.int .i64 2) ∧ Y.cell? ⟨w1.heap.size, 6, none⟩ = some (.int .i64 5) ∧ Y.cell? ⟨w1.heap.size, 7, none⟩ = some (.int .i64 3)) Y) := Lib.hid fun Y hY => by
              have h := (hY.block w1.heap.size (by have := HB2.out.2.2; omega)).trans HB2.out.2.1
              exact ⟨cellOf h 0 _ rfl, cellOf h 1 _ rfl, cellOf h 2 _ rfl, cellOf h 3 _ rfl, cellOf h 4 _ rfl, cellOf h 5 _ rfl, cellOf h 6 _ rfl, cellOf h 7 _ rfl⟩
            have HTN := Lib.hid (tapeNew_any dl _ _ W.drew (Nums.below HD.out.1 (HB2.out.1.drew)) HD.out.2 (by have := HLL.out; omega))
            rw [← HLN.out] at HTN
            have hcok : (cfgL m).Ok := ⟨by show (64 : Int) ≤ 1492 ∧ (1492 : Int) ≤ 1492; decide, .inl rfl, by show 0 ≤ m ∧ m ≤ 4294967295; have := HM.out; omega, by show (0 : Int) ≤ 0 ∧ (0 : Int) ≤ 100; decide, by show inB20 5 = true; decide, by show inB20 2 = true; decide, by show (0 : Int) ≤ 5 ∧ (5 : Int) ≤ 20; decide, by show (1 : Int) ≤ 3 ∧ (3 : Int) ≤ 100; decide⟩
            have hNW : ∀ tb okt w3, TapeAt w3 tb okt ⟨dl, 0⟩ → (∀ b, okt b → b < w3.heap.size) → Calls Tryz.prog 12 #[.agg #[.int .i64 1492, .int .i64 0, .int .i64 m, .int .i64 0, .int .i64 5, .int .i64 2, .int .i64 5, .int .i64 3], .pointer (some ⟨tb, 0, none⟩)] w3 fun e w' => NewL w3 w' e (cfgL m) tb okt ⟨dl, 0⟩ := fun tb okt w3 ht ho => lnew_tape (cfgL m) hcok tb okt ⟨dl, 0⟩ w3 ht ho
            have HNW := Lib.hid hNW
            clear hNW
            refine wp_region_H (rgH 0 9) (fun Y : World => Y.cell? ⟨w1.heap.size, 0, none⟩ = some (.int .i64 1492) ∧ Y.cell? ⟨w1.heap.size, 1, none⟩ = some (.int .i64 0) ∧ Y.cell? ⟨w1.heap.size, 2, none⟩ = some (.int .i64 m) ∧ Y.cell? ⟨w1.heap.size, 3, none⟩ = some (.int .i64 0) ∧ Y.cell? ⟨w1.heap.size, 4, none⟩ = some (.int .i64 5) ∧ Y.cell? ⟨w1.heap.size, 5, none⟩ = some (.int .i64 2) ∧ Y.cell? ⟨w1.heap.size, 6, none⟩ = some (.int .i64 5) ∧ Y.cell? ⟨w1.heap.size, 7, none⟩ = some (.int .i64 3)) (by kernel_rfl) ?_
            have HSv : (fun Y : World => Y.cell? ⟨w1.heap.size, 0, none⟩ = some (.int .i64 1492) ∧ Y.cell? ⟨w1.heap.size, 1, none⟩ = some (.int .i64 0) ∧ Y.cell? ⟨w1.heap.size, 2, none⟩ = some (.int .i64 m) ∧ Y.cell? ⟨w1.heap.size, 3, none⟩ = some (.int .i64 0) ∧ Y.cell? ⟨w1.heap.size, 4, none⟩ = some (.int .i64 5) ∧ Y.cell? ⟨w1.heap.size, 5, none⟩ = some (.int .i64 2) ∧ Y.cell? ⟨w1.heap.size, 6, none⟩ = some (.int .i64 5) ∧ Y.cell? ⟨w1.heap.size, 7, none⟩ = some (.int .i64 3)) W.drew := HS.out _ (Below.refl _ _).drew
            refine wpAnyH_at 0 (v := ?vv548) rfl (by kernel_rfl) (by kernel_rfl) (by kernel_rfl) (fun _ _ _ h => h) ?hy548 HSv ?hh548
            case hy548 =>
              refine Or.inl ⟨by rfl, ?_⟩
              intro W hW
              obtain ⟨h0, h1, h2, h3, h4, h5, h6, h7⟩ := hW
              go_simp
              try with_reducible rfl
            simp only [Act.put, List.setIfInBounds_toArray, List.set_cons_zero, List.set_cons_succ]
            refine wpAnyH_at 1 (v := ?vv549) rfl (by kernel_rfl) (by kernel_rfl) (by kernel_rfl) (fun _ _ _ h => h) ?hy549 HSv ?hh549
            case hy549 =>
              refine Or.inl ⟨by rfl, ?_⟩
              intro W hW
              obtain ⟨h0, h1, h2, h3, h4, h5, h6, h7⟩ := hW
              go_simp
              try with_reducible rfl
            simp only [Act.put, List.setIfInBounds_toArray, List.set_cons_zero, List.set_cons_succ]
            refine wpAnyH_1 2 rfl (by kernel_rfl) ?_
            intro K hK
            rw [if_pos (by rfl)]
            try go_simp
            go_at_call 13
            refine HTN.out.mono ?_
            rintro e w3 ⟨tb, rfl, t3, s3, b3⟩
            have HB3 := Lib.hid (show Below W.heap.size W w3 from Below.trans (Below.refl _ _).drew b3)
            have HT3 := Lib.hid (And.intro t3 s3)
            have HSv : (fun Y : World => Y.cell? ⟨w1.heap.size, 0, none⟩ = some (.int .i64 1492) ∧ Y.cell? ⟨w1.heap.size, 1, none⟩ = some (.int .i64 0) ∧ Y.cell? ⟨w1.heap.size, 2, none⟩ = some (.int .i64 m) ∧ Y.cell? ⟨w1.heap.size, 3, none⟩ = some (.int .i64 0) ∧ Y.cell? ⟨w1.heap.size, 4, none⟩ = some (.int .i64 5) ∧ Y.cell? ⟨w1.heap.size, 5, none⟩ = some (.int .i64 2) ∧ Y.cell? ⟨w1.heap.size, 6, none⟩ = some (.int .i64 5) ∧ Y.cell? ⟨w1.heap.size, 7, none⟩ = some (.int .i64 3)) w3 := HS.out _ HB3.out
            clear t3 s3 b3
            refine hK _ _ (fun _ => HSv) ?_
            try simp only [Act.put, List.setIfInBounds_toArray, List.set_cons_zero, List.set_cons_succ]
            refine wpAnyH_1 3 rfl (by kernel_rfl) ?_
            intro K hK
            rw [if_pos (by rfl)]
            try go_simp
            go_at_call 12
            refine (HNW.out tb _ w3 HT3.out.1 (fun b hb => by have := HT3.out.1.lt; omega)).mono ?_
            rintro e w4 hm4
            have hsz : w.heap.size ≤ W.heap.size := HB2.out.1.size
            obtain ⟨L, rfl, k4⟩ := LK.made (w0 := w) hm4 (HB2.out.1.trans (HB3.out.mono hsz)) (fun b hb => Nat.le_trans hsz hb.1) (Nat.le_trans hsz HT3.out.2)
            have hb4 : Below W.heap.size W w4 := by
              obtain ⟨L', S', X', g1, g2, g3, g4, g5, g6⟩ := hm4
              exact HB3.out.trans (g6.mono HB3.out.size)
            have HSv : (fun Y : World => Y.cell? ⟨w1.heap.size, 0, none⟩ = some (.int .i64 1492) ∧ Y.cell? ⟨w1.heap.size, 1, none⟩ = some (.int .i64 0) ∧ Y.cell? ⟨w1.heap.size, 2, none⟩ = some (.int .i64 m) ∧ Y.cell? ⟨w1.heap.size, 3, none⟩ = some (.int .i64 0) ∧ Y.cell? ⟨w1.heap.size, 4, none⟩ = some (.int .i64 5) ∧ Y.cell? ⟨w1.heap.size, 5, none⟩ = some (.int .i64 2) ∧ Y.cell? ⟨w1.heap.size, 6, none⟩ = some (.int .i64 5) ∧ Y.cell? ⟨w1.heap.size, 7, none⟩ = some (.int .i64 3)) w4 := HS.out _ hb4
            have HK4 := Lib.hid k4
            clear hm4 k4 hb4
            refine hK _ _ (fun _ => HSv) ?_
            try simp only [Act.put, List.setIfInBounds_toArray, List.set_cons_zero, List.set_cons_succ]
            refine wpAnyH_at 4 (v := ?vv550) rfl (by kernel_rfl) (by kernel_rfl) (by kernel_rfl) (fun _ _ _ h => h) ?hy550 HSv ?hh550
            case hy550 =>
              refine Or.inl ⟨by rfl, ?_⟩
              intro W hW
              obtain ⟨h0, h1, h2, h3, h4, h5, h6, h7⟩ := hW
              go_simp
              try with_reducible rfl
            simp only [Act.put, List.setIfInBounds_toArray, List.set_cons_zero, List.set_cons_succ]
            refine wpAnyH_at 5 (v := ?vv551) rfl (by kernel_rfl) (by kernel_rfl) (by kernel_rfl) (fun _ _ _ h => h) ?hy551 HSv ?hh551
            case hy551 =>
              refine Or.inl ⟨by rfl, ?_⟩
              intro W hW
              obtain ⟨h0, h1, h2, h3, h4, h5, h6, h7⟩ := hW
              go_simp
              try with_reducible rfl
            simp only [Act.put, List.setIfInBounds_toArray, List.set_cons_zero, List.set_cons_succ]
            refine wpAnyH_at 7 (v := ?vv552) rfl (by kernel_rfl) (by kernel_rfl) (by kernel_rfl) (fun _ _ _ h => h) ?hy552 HSv ?hh552
            case hy552 =>
              refine Or.inl ⟨by rfl, ?_⟩
              intro W hW
              obtain ⟨h0, h1, h2, h3, h4, h5, h6, h7⟩ := hW
              go_simp
              try with_reducible rfl
            simp only [Act.put, List.setIfInBounds_toArray, List.set_cons_zero, List.set_cons_succ]
            refine wpAnyH_at 6 (v := ?vv553) rfl (by kernel_rfl) (by kernel_rfl) (by kernel_rfl) (fun _ _ _ h => h) ?hy553 HSv ?hh553
            case hy553 =>
              refine Or.inl ⟨by rfl, ?_⟩
              intro W hW
              obtain ⟨h0, h1, h2, h3, h4, h5, h6, h7⟩ := hW
              go_simp
              try with_reducible rfl
            simp only [Act.put, List.setIfInBounds_toArray, List.set_cons_zero, List.set_cons_succ]
            refine wpAnyH_at 8 (v := ?vv554) rfl (by kernel_rfl) (by kernel_rfl) (by kernel_rfl) (fun _ _ _ h => h) ?hy554 HSv ?hh554
            case hy554 =>
              refine Or.inl ⟨by rfl, ?_⟩
              intro W hW
              obtain ⟨h0, h1, h2, h3, h4, h5, h6, h7⟩ := hW
              go_simp
              try with_reducible rfl
            simp only [Act.put, List.setIfInBounds_toArray, List.set_cons_zero, List.set_cons_succ]
            refine wpAnyH_end 9 (fun j hj => rgH_end _ _ j (by omega)) (by rfl) (by kernel_rfl) ?_
            simp only [List.drop_succ_cons, List.drop_zero]
            clear HSv HNW HTN HS hsz
            have HD1 := Lib.hid (HK4.out.Do 2 (by decide))
            go_wp2_with fail
            refine HD1.out.mono ?_
            rintro e w5 ⟨v5, rfl, -, k5, -⟩
            have HD2 := Lib.hid (k5.Do 0 (by decide))
            rw [show lC (cfgL m) L.lb = CL L.lb from rfl, eUp L.lb m (by have := HM.out; omega) ⟨dl, 0⟩] at HD2
            have HK5 := Lib.hid k5
            clear k5
            go_wp2_with fail
            refine HD2.out.mono ?_
            rintro e w6 ⟨v6, rfl, p6, k6, -⟩
            have hInv : Hid (∃ s l, Orb s l ∧ LK w w6 L (CL L.lb) 0 s ∧ PkFree L w6 v6 l) := Lib.hid ⟨_, _, ⟨m, _, HM.out, .inl ⟨0, .inl rfl, rfl, rfl⟩⟩, k6, _, _, p6, fun b hb ht => by
              have := (HK5.out.nt ht).2
              rcases hb with hb | hb
              · rcases hb with hb | hb
                · exact hb
                · omega
              · omega⟩
            clear p6 k6 HD1 HD2
            go_wp2_with fail
            go_loopg [10, 11] N (fun x out i wr => ∃ k : Nat, k ≤ N ∧ x = N - k ∧ i = .int .i64 k ∧ Hid (∃ s l, Orb s l ∧ LK w wr L (CL L.lb) 0 s ∧ PkFree L wr out l))
            case atStart => exact ⟨0, by omega, by omega, rfl, hInv.out⟩
            case round =>
              obtain ⟨k, hk, rfl, rfl, hK⟩ := hrel
              obtain ⟨s, l, ho, hkk, okp, base, hpk, hfr⟩ := hK.out
              have HK := Lib.hid (And.intro ho hkk)
              clear hK hInv
              by_cases hkl : k < N
              · obtain ⟨hs9, hl0, hl4, hll⟩ := ho.st
                rcases hll with rfl | ⟨p, rfl⟩
                · obtain ⟨oa, oc, rfl⟩ := hpk.form
                  have e9 : (s.st.s == 9) = false := by simpa using hs9
                  have e4 : decide ((4 : Int) < s.loops) = false := by simp; omega
                  have HST := Lib.hid (And.intro hkk.State hkk.Loops)
                  rw [List.length_nil] at *
                  clear ho hkk hpk hfr hs9 hl0 hl4
                  generalize s.st.s = ss at e9 HST
                  generalize s.loops = sl at e4 HST
                  go_wp2_with fail
                  refine wp_loop_rounds 1 ?_
                  rw [rounds_succ]
                  go_wp2_with (first
                    | (go_at_call 16; refine HST.out.1.mono ?_; rintro e _ ⟨rfl, rfl⟩)
                    | (go_at_call 17; refine HST.out.2.mono ?_; rintro e _ ⟨rfl, rfl⟩))
                  go_roundg (N - (k + 1))
                  case measure => omega
                  case rel => exact ⟨k + 1, by omega, rfl, by go_num, s, [], HK.out.1, HK.out.2, fun _ => False, wr.heap.size, PksAt.nil _ _ _, fun b hb ht => by
                    have := (HK.out.2.nt ht).2
                    rcases hb with hb | hb
                    · exact hb
                    · omega⟩
                · obtain ⟨g, cap, po, rfl, hg1, hg2, hc1, hc2, z0, z1, z2, z3, zo⟩ := hpk.at0
                  obtain ⟨sy, pok, hcode, h7, hnext⟩ := ho.step L.lb
                  have HT := Lib.hid (hkk.Take sy p po pok hcode zo (fun b hb => hfr b (.inl hb)) h7)
                  have HF := Lib.hid hfr
                  obtain ⟨n9, nl0, nl4, nll⟩ := hnext.st
                  have HN := Lib.hid hnext
                  generalize ltakeS (CL L.lb) s p = R at *
                  obtain ⟨r1, r2⟩ := R
                  dsimp only at HT HN n9 nl0 nl4 nll
                  have e9 : (r1.st.s == 9) = false := by simpa using n9
                  have e4 : decide ((4 : Int) < r1.loops) = false := by simp; omega
                  have hlen2 : r2.length ≤ 1 := by rcases nll with h | ⟨q, h⟩ <;> rw [h] <;> simp
                  unfold pkV at HT
                  unfold maxLen at hc2
                  obtain ⟨pc, pi, pl, pd⟩ := p
                  dsimp only at z0 z1 z3 HT
                  rw [List.length_nil] at *
                  clear ho hkk hpk hfr hs9 hl0 hl4 sy pok hcode h7 hnext n9 nl0 nl4 nll zo hg1
                  go_wp2_with fail
                  refine wp_loop_rounds 2 ?_
                  rw [rounds_succ]
                  go_wp2_with fail
                  refine HT.out.mono ?_
                  rintro e w7 ⟨v7, rfl, ⟨K7, e7, row7, opts7⟩, k7, -⟩
                  have hone7 : ∀ p ∈ K7, p.2.oneCell' = true := fun p hp => by obtain ⟨sa, sc, e, _, _⟩ := Opts.form (opts7 p hp); rw [e]; rfl
                  have hll7 : ([] : List (Pk × Value)).length + K7.length ≤ 1000000 := by
                    have h1 := congrArg List.length e7
                    rw [List.length_map] at h1
                    simp only [List.length_nil]
                    omega
                  have H7 := Lib.hid (And.intro e7 (And.intro row7 (And.intro opts7 k7)))
                  clear e7 row7 opts7 k7
                  go_wp2_with (at_builtin; refine wpl_append_pks (B := w7.heap.size) rfl _ _ rfl _ [] rfl (PRow.nil _ _) _ K7 rfl H7.out.2.1 hone7 hll7 (Nat.le_refl _) ?_
                               intro v8 w8 r8 k8 o8
                               have hb8 : Below w7.heap.size w7 w8 := k8.below (Nat.le_refl _) (fun k _ h => by cases h)
                               have H8 := Lib.hid (And.intro r8 hb8)
                               have HK8 := Lib.hid (H7.out.2.2.2.below hb8)
                               have HST := Lib.hid (And.intro HK8.out.State HK8.out.Loops)
                               clear r8 k8 o8 hb8)
                  generalize hg1 : r1.st.s = ss at e9 HST
                  generalize hg2 : r1.loops = sl at e4 HST
                  clear hg1 hg2
                  rw [rounds_succ]
                  go_wp2_with (first
                    | (go_at_call 16; refine HST.out.1.mono ?_; rintro e _ ⟨rfl, rfl⟩)
                    | (go_at_call 17; refine HST.out.2.mono ?_; rintro e _ ⟨rfl, rfl⟩))
                  go_roundg (N - (k + 1))
                  case measure => omega
                  case rel =>
                    refine ⟨k + 1, by omega, rfl, by go_num, r1, r2, HN.out, HK8.out, Grow okp wr, w7.heap.size, ⟨K7, H7.out.1, ?_, POpts.keep H7.out.2.2.1 (Keep.of_below (fun _ => False) H8.out.2) (fun _ _ _ h => h)⟩, fun b hb ht => ?_⟩
                    · have := H8.out.1; rwa [List.nil_append] at this
                    · have h1 := (HK.out.2.nt ht).2
                      have h2 := (H7.out.2.2.2.nt ht).2
                      rcases hb with hb | hb
                      · rcases hb with hb | hb
                        · exact HF.out b (.inl hb) ht
                        · omega
                      · omega
              · obtain rfl : k = N := by omega
                clear ho hkk hpk hfr
                go_wp2_with fail
                refine (HAL.out _).mono ?_
                rintro e w8 ⟨rfl, b8⟩
                have HE := Lib.hid (HK.out.2.b.trans (b8.mono HK.out.2.b.size))
                clear b8
                go_wp2_with fail
                go_ret
                exact ⟨rfl, HE.out⟩
end Go.Proofs.YthhdackaopaojaaGreat

/- A list of numbers as an argument. -/
namespace Go.Proofs.YthhdackaopaojaaGreat
open Go.RowKit Go.Tg Go.Maps

theorem intL_k1 (l : List Int) : ∀ x ∈ intL l, x.length = 1 := by
  intro x hx; simp only [intL, List.mem_map] at hx; obtain ⟨o, _, rfl⟩ := hx; rfl
theorem list1 {α : Type} {l : List α} (h : l.length = 1) : ∃ a, l = [a] := by
  match l, h with
  | [a], _ => exact ⟨a, rfl⟩

set_option maxHeartbeats 1000000 in
theorem ints_of {H : Type} {enc : TypeId × Value → H} {w : World} {base : Nat} {spare : Nat → Bool} {held : Bool} {fuel : Nat} {a : Option Addr} {len cap : Nat} {x : DataW H × List MemPlace}
    (h : DataW.trod enc Tryz.prog w base spare held fuel 22 [.slice a len cap] = some x) : ∃ l : List Int, l.length = len ∧ Nums w (fun _ => True) (.slice a len cap) l ∧ (∀ o ∈ l, I64 o) := by
  have c3 : Tryz.prog.cellsOf 3 = 1 := by kernel_rfl
  rcases Go.Deep.open_slice Tryz.underlying22 h with ⟨hcs, _⟩ | ⟨p, l, c, m, n, D, Pl, hcs, hb, hl, hm, hmm, hx, hi⟩
  · simp at hcs
    obtain ⟨rfl, rfl, rfl⟩ := hcs
    exact ⟨[], rfl, Rec.nil _ _ _, (by intro o ho; exact absurd ho List.not_mem_nil)⟩
  · simp at hcs
    obtain ⟨rfl, rfl, rfl⟩ := hcs
    have hlm : len ≤ m := by rw [hmm]; split <;> omega
    rw [c3] at hi
    have key : ∀ i, i < len → ∃ o : Int, (∀ j u, ([.int .i64 o] : List Value)[j]? = some u → w.cell? (p.add (i * 1 + j)) = some u) ∧ I64 o := by
      intro i hil
      obtain ⟨cs', hc, ht⟩ := hi i (by omega)
      obtain ⟨_, hcl, hat⟩ := World.cells?_some hc
      obtain ⟨v0, rfl⟩ := list1 hcl
      have e0 := hat 0 (by omega)
      rw [Go.Deep.add_add] at e0
      obtain ⟨k0, hk0, -, hw0⟩ := DataW.trod_int Tryz.underlying3 ht
      simp only [List.cons.injEq, and_true] at hk0
      subst hk0
      refine ⟨k0, fun j u hu => ?_, hw0⟩
      match j, hu with
      | 0, hu => cases hu; exact e0
      | j + 1, hu => simp at hu
    obtain ⟨l, hll, hp⟩ := build_list _ len key
    refine ⟨l, hll, ⟨intL_k1 l, some p, cap, by rw [intL_len, hll], by rw [intL_len, hll]; exact hl, hm, ?_⟩, fun o ho => ?_⟩
    · by_cases hz : len = 0
      · left
        have : l = [] := List.eq_nil_of_length_eq_zero (by omega)
        subst this; rfl
      · right
        obtain ⟨bb, off, spot⟩ := p
        have h0 := (hp 0 (by omega)).1 0 _ rfl
        have hn : spot = none := by
          cases spot with
          | none => rfl
          | some s =>
            exfalso
            simp only [Nat.zero_mul, Addr.add, World.cell?, if_true, Option.isSome_some] at h0
            split at h0 <;> cases h0
        subst hn
        simp only [Addr.add_lit] at h0
        refine ⟨bb, off, rfl, ?_, trivial, ?_⟩
        · unfold World.cell? at h0
          by_cases hlt : bb < w.heap.size
          · exact hlt
          · have : w.heap[bb]? = none := by simp; omega
            simp [this] at h0
        · intro i hi j u hu
          have hi' : i < l.length := by rwa [intL_len] at hi
          have e : (intL l)[i] = [.int .i64 l[i]] := by simp [intL]
          rw [e] at hu
          have := (hp i hi').1 j u hu
          rw [Addr.add_lit, ← Nat.add_assoc] at this
          exact this
    · obtain ⟨i, hil, rfl⟩ := List.getElem_of_mem ho
      exact (hp i hil).2
end Go.Proofs.YthhdackaopaojaaGreat
