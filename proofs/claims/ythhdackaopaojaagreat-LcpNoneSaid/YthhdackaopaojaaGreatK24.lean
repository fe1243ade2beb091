import Derived.Test.YthhdackaopaojaaGreatK23
/- A link that is none; the law of none. -/
namespace Go.Proofs.YthhdackaopaojaaGreat
open Go.RowKit Go.Tg Go.Maps

structure LNone (v : Value) (w : World) : Prop where
  out : ∀ W, Below w.heap.size w W → Calls Tryz.prog 39 #[v] W fun e w' => e = .returned (.bool true) ∧ W = w'
theorem LNone.below {v : Value} {w w' : World} (h : LNone v w) (hb : Below w.heap.size w w') : LNone v w' := ⟨fun W hW => h.out W (hb.trans (hW.mono hb.size))⟩
theorem LNone.at {v : Value} {w : World} (h : LNone v w) : Calls Tryz.prog 39 #[v] w fun e w' => e = .returned (.bool true) ∧ w = w' := h.out w (Below.refl _ _)
set_option maxHeartbeats 400000 in
theorem lnone_nil (w : World) : LNone (.pointer none) w := by
  refine ⟨fun W _ => ?_⟩
  have q1 : ∀ w, (binOp .eql 27 (.pointer none) (.pointer none)).run Tryz.prog w = .ok (.bool true) w := fun w => by kernel_rfl
  go_enter Tryz.func39, Tryz.ntmps39
  go_wp2_with fail
  go_ret
  exact ⟨rfl, rfl⟩
set_option maxHeartbeats 400000 in
theorem lnone_zero {w : World} {b : Nat} (hb : b < w.heap.size) (h : w.cell? ⟨b, 0, none⟩ = some (.pointer none)) : LNone (.pointer (some ⟨b, 0, none⟩)) w := by
  refine ⟨fun W hW => ?_⟩
  have h0 : W.cell? ⟨b, 0, none⟩ = some (.pointer none) := (hW.cell (p := ⟨b, 0, none⟩) hb).trans h
  have q1 : ∀ w a, (binOp .eql 27 (.pointer (some a)) (.pointer none)).run Tryz.prog w = .ok (.bool false) w := fun w a => by kernel_rfl
  have q2 : ∀ w, (binOp .eql 62 (.pointer none) (.pointer none)).run Tryz.prog w = .ok (.bool true) w := fun w => by kernel_rfl
  clear h hW
  go_enter Tryz.func39, Tryz.ntmps39
  go_wp2_with fail
  go_ret
  exact ⟨rfl, rfl⟩

section
variable {v : Value} {w : World}
set_option maxHeartbeats 1000000 in
set_option maxRecDepth 100000 in
theorem LDo_none (hv : v.oneCell' = true) (h : LNone v w) (ev : Int) : Calls Tryz.prog 14 #[v, .int .i64 ev] w fun e w' => e = .returned (.slice none 0 0) ∧ Below w.heap.size w w' := by
  have H := Lib.hid h.at
  clear h
  go_enter Tryz.func14, Tryz.ntmps14
  go_wp2_with (go_at_call 39; refine H.out.mono ?_; rintro e w1 ⟨rfl, rfl⟩)
  go_ret
  exact ⟨rfl, Below.refl _ _⟩
set_option maxHeartbeats 1000000 in
set_option maxRecDepth 100000 in
theorem LTick_none (hv : v.oneCell' = true) (h : LNone v w) : Calls Tryz.prog 31 #[v] w fun e w' => e = .returned (.slice none 0 0) ∧ Below w.heap.size w w' := by
  have H := Lib.hid h.at
  clear h
  go_enter Tryz.func31, Tryz.ntmps31
  go_wp2_with (go_at_call 39; refine H.out.mono ?_; rintro e w1 ⟨rfl, rfl⟩)
  go_ret
  exact ⟨rfl, Below.refl _ _⟩
set_option maxHeartbeats 1000000 in
set_option maxRecDepth 100000 in
theorem LState_none (hv : v.oneCell' = true) (h : LNone v w) : Calls Tryz.prog 16 #[v] w fun e w' => e = .returned (.int .i64 0) ∧ Below w.heap.size w w' := by
  have H := Lib.hid h.at
  clear h
  go_enter Tryz.func16, Tryz.ntmps16
  go_wp2_with (go_at_call 39; refine H.out.mono ?_; rintro e w1 ⟨rfl, rfl⟩)
  go_ret
  exact ⟨rfl, Below.refl _ _⟩
set_option maxHeartbeats 1000000 in
set_option maxRecDepth 100000 in
theorem LLoops_none (hv : v.oneCell' = true) (h : LNone v w) : Calls Tryz.prog 17 #[v] w fun e w' => e = .returned (.int .i64 0) ∧ Below w.heap.size w w' := by
  have H := Lib.hid h.at
  clear h
  go_enter Tryz.func17, Tryz.ntmps17
  go_wp2_with (go_at_call 39; refine H.out.mono ?_; rintro e w1 ⟨rfl, rfl⟩)
  go_ret
  exact ⟨rfl, Below.refl _ _⟩
set_option maxHeartbeats 1000000 in
set_option maxRecDepth 100000 in
theorem LMru_none (hv : v.oneCell' = true) (h : LNone v w) : Calls Tryz.prog 27 #[v] w fun e w' => e = .returned (.int .i64 1492) ∧ Below w.heap.size w w' := by
  have H := Lib.hid h.at
  clear h
  go_enter Tryz.func27, Tryz.ntmps27
  go_wp2_with (go_at_call 39; refine H.out.mono ?_; rintro e w1 ⟨rfl, rfl⟩)
  go_ret
  exact ⟨rfl, Below.refl _ _⟩
set_option maxHeartbeats 1000000 in
set_option maxRecDepth 100000 in
theorem LAuth_none (hv : v.oneCell' = true) (h : LNone v w) : Calls Tryz.prog 26 #[v] w fun e w' => e = .returned (.tuple #[.int .i64 0, .int .i64 0]) ∧ Below w.heap.size w w' := by
  have H := Lib.hid h.at
  clear h
  go_enter Tryz.func26, Tryz.ntmps26
  go_wp2_with (go_at_call 39; refine H.out.mono ?_; rintro e w1 ⟨rfl, rfl⟩)
  go_ret2
  exact ⟨rfl, Below.refl _ _⟩
set_option maxHeartbeats 1000000 in
set_option maxRecDepth 100000 in
theorem LReject_none (hv : v.oneCell' = true) (h : LNone v w) (x : Int) (d : ByteArray) : Calls Tryz.prog 24 #[v, .int .i64 x, .string d] w fun e w' => e = .returned (.slice none 0 0) ∧ Below w.heap.size w w' := by
  have H := Lib.hid h.at
  clear h
  go_enter Tryz.func24, Tryz.ntmps24
  go_wp2_with (go_at_call 39; refine H.out.mono ?_; rintro e w1 ⟨rfl, rfl⟩)
  go_ret
  exact ⟨rfl, Below.refl _ _⟩
set_option maxHeartbeats 1000000 in
set_option maxRecDepth 100000 in
theorem LAdopt_none (hv : v.oneCell' = true) (h : LNone v w) (a b : Option Addr) (n c n' c' : Nat) : Calls Tryz.prog 22 #[v, .slice a n c, .slice b n' c'] w fun e w' => e = .returned (.int .i64 1) ∧ Below w.heap.size w w' := by
  have H := Lib.hid h.at
  clear h
  go_enter Tryz.func22, Tryz.ntmps22
  go_wp2_with (go_at_call 39; refine H.out.mono ?_; rintro e w1 ⟨rfl, rfl⟩)
  go_ret
  exact ⟨rfl, Below.refl _ _⟩
set_option maxHeartbeats 1000000 in
set_option maxRecDepth 100000 in
theorem LTake_none (hv : v.oneCell' = true) (h : LNone v w) (p : Pk) (a : Option Addr) (n c : Nat) : Calls Tryz.prog 15 #[v, pkV p (.slice a n c)] w fun e w' => e = .returned (.slice none 0 0) ∧ Below w.heap.size w w' := by
  have hb1 := (Below.refl w.heap.size w).alloc (Nat.le_refl _) (.cells #[.int .i64 p.code, .int .i64 p.id, .slice a n c, .string p.d] 38 (0, 0))
  have H := Lib.hid (h.below hb1).at
  have HB := Lib.hid hb1
  unfold pkV
  clear hb1
  clear h
  go_enter Tryz.func15, Tryz.ntmps15
  go_wp2_with (go_at_call 39; refine H.out.mono ?_; rintro e w1 ⟨rfl, rfl⟩)
  go_ret
  exact ⟨rfl, HB.out⟩
end

set_option maxHeartbeats 16000000 in
set_option maxRecDepth 100000 in
theorem lcpNone_any (p : Pk) (po : Value) (x : Int) (w : World) (hpo : ∃ a n k, po = .slice a n k) (hd : p.d.size ≤ maxLen) :
    Calls Tryz.prog 9 #[pkV p po, .int .i64 x] w fun e w' => e = .returned (.bool true) ∧ Below w.heap.size w w' := by
  obtain ⟨a1, n1, k1, rfl⟩ := hpo
  have hb1 : Below w.heap.size w (w.alloc (.cells #[.int .i64 p.code, .int .i64 p.id, (.slice a1 n1 k1), .string p.d] 38 (0, 0))) := (Below.refl _ _).alloc (Nat.le_refl _) _
  have hz := at1 w (.cells #[.int .i64 p.code, .int .i64 p.id, (.slice a1 n1 k1), .string p.d] 38 (0, 0))
  have hsz : (w.alloc (.cells #[.int .i64 p.code, .int .i64 p.id, (.slice a1 n1 k1), .string p.d] 38 (0, 0))).heap.size = w.heap.size + 1 := alloc1 _ _
  have HA := Lib.hid (lalive_any (w.alloc (.cells #[.int .i64 p.code, .int .i64 p.id, (.slice a1 n1 k1), .string p.d] 38 (0, 0))))
  have HB := Lib.hid (And.intro hb1 hz)
  have e0 := cellOf hz 0 _ rfl
  have e1 := cellOf hz 1 _ rfl
  have e2 := cellOf hz 2 _ rfl
  have e3 := cellOf hz 3 _ rfl
  unfold pkV
  unfold maxLen at hd
  clear hb1 hz
  by_cases h50 : (50 : Int) < (n1 : Int)
  · have d5 : decide ((50 : Int) < (n1 : Int)) = true := by simpa using h50
    clear h50
    go_enter Tryz.func9, Tryz.ntmps9
    go_wp2_with (go_at_call 11; refine HA.out.mono ?_; rintro e w2 ⟨rfl, b2⟩)
    go_ret
    exact ⟨rfl, HB.out.1.trans (b2.mono (by omega))⟩
  · have d5 : decide ((50 : Int) < (n1 : Int)) = false := by simpa using h50
    clear h50
    by_cases hq : 2000 < p.d.size
    · have dd : decide ((2000 : Int) < (p.d.size : Int)) = true := by simp; omega
      clear hq
      go_enter Tryz.func9, Tryz.ntmps9
      go_wp2_with (go_at_call 11; refine HA.out.mono ?_; rintro e w2 ⟨rfl, b2⟩)
      go_ret
      exact ⟨rfl, HB.out.1.trans (b2.mono (by omega))⟩
    · have dd : decide ((2000 : Int) < (p.d.size : Int)) = false := by simp; omega
      clear hq
      go_enter Tryz.func9, Tryz.ntmps9
      go_wp2_with fail
      have b3 : Below (w.alloc (.cells #[.int .i64 p.code, .int .i64 p.id, (.slice a1 n1 k1), .string p.d] 38 (0, 0))).heap.size (w.alloc (.cells #[.int .i64 p.code, .int .i64 p.id, (.slice a1 n1 k1), .string p.d] 38 (0, 0))) ((w.alloc (.cells #[.int .i64 p.code, .int .i64 p.id, (.slice a1 n1 k1), .string p.d] 38 (0, 0))).alloc (.cells #[.pointer none, .pointer none, .int .i64 0, .int .i64 0, .int .i64 0, .int .i64 0, .int .i64 0] 64 (0, 0))) := (Below.refl _ _).alloc (Nat.le_refl _) _
      have z3 : ((w.alloc (.cells #[.int .i64 p.code, .int .i64 p.id, (.slice a1 n1 k1), .string p.d] 38 (0, 0))).alloc (.cells #[.pointer none, .pointer none, .int .i64 0, .int .i64 0, .int .i64 0, .int .i64 0, .int .i64 0] 64 (0, 0))).heap[w.heap.size + 1]? = some (.cells #[.pointer none, .pointer none, .int .i64 0, .int .i64 0, .int .i64 0, .int .i64 0, .int .i64 0] 64 (0, 0)) := at21 _ _ _
      have l3 : w.heap.size + 1 < ((w.alloc (.cells #[.int .i64 p.code, .int .i64 p.id, (.slice a1 n1 k1), .string p.d] 38 (0, 0))).alloc (.cells #[.pointer none, .pointer none, .int .i64 0, .int .i64 0, .int .i64 0, .int .i64 0, .int .i64 0] 64 (0, 0))).heap.size := (Array.getElem?_eq_some_iff.1 z3).1
      have N3 := Lib.hid (lnone_zero l3 (cellOf z3 0 _ rfl))
      have HB3 := Lib.hid (And.intro (HB.out.1.trans (b3.mono (by omega))) ((b3.block _ (by omega)).trans HB.out.2))
      clear b3 z3
      refine (LAuth_none rfl (lnone_nil _)).mono ?_
      rintro e w4 ⟨rfl, b4⟩
      have l4 : w.heap.size + 1 < w4.heap.size := Nat.lt_of_lt_of_le l3 b4.size
      have N4 := Lib.hid (N3.out.below b4)
      have HB4 := Lib.hid (And.intro (HB3.out.1.trans (b4.mono (by omega))) ((b4.block _ (by omega)).trans HB3.out.2))
      clear b4
      go_wp2_with fail
      refine (LAuth_none rfl N4.out).mono ?_
      rintro e w5 ⟨rfl, b5⟩
      have N5 := N4.out.below b5
      have z5 := (b5.block _ (by omega)).trans HB4.out.2
      have HB5 := Lib.hid (HB4.out.1.trans (b5.mono (by omega)))
      have HN0 := Lib.hid (fun (d : Nat) (os : Array Obj) => lnone_nil (Go.Sort.grow (redrawn w5 d) os))
      have HNZ := Lib.hid (fun (d : Nat) (os : Array Obj) => N5.below (below_regrown w5 d os))
      have f0 := fun d os => cell_regrown (cellOf z5 0 _ rfl) d os
      have f1 := fun d os => cell_regrown (cellOf z5 1 _ rfl) d os
      have f2 := fun d os => cell_regrown (cellOf z5 2 _ rfl) d os
      have f3 := fun d os => cell_regrown (cellOf z5 3 _ rfl) d os
      clear b5 N5 z5
      go_wp2_with fail
      simp only [List.append_eq, List.cons_append, List.nil_append]
      clear HA HB HB3 HB4 N3 N4 e0 e1 e2 e3 dd hsz l3 l4
      refine wp_region_quiet_below (by kernel_rfl) (by kernel_rfl) ?_
      repeat (quiet_step (first | (go_at_call 14; exact Calls.regrown_of (LDo_none (by rfl) (by first | exact HN0.out _ _ | exact HNZ.out _ _) _)) | (go_at_call 15; exact Calls.regrown_of (LTake_none (by rfl) (by first | exact HN0.out _ _ | exact HNZ.out _ _) p _ _ _)) | (go_at_call 31; exact Calls.regrown_of (LTick_none (by rfl) (by first | exact HN0.out _ _ | exact HNZ.out _ _))) | (go_at_call 24; exact Calls.regrown_of (LReject_none (by rfl) (by first | exact HN0.out _ _ | exact HNZ.out _ _) _ _)) | (go_at_call 16; exact Calls.regrown_of (LState_none (by rfl) (by first | exact HN0.out _ _ | exact HNZ.out _ _))) | (go_at_call 17; exact Calls.regrown_of (LLoops_none (by rfl) (by first | exact HN0.out _ _ | exact HNZ.out _ _))) | (go_at_call 27; exact Calls.regrown_of (LMru_none (by rfl) (by first | exact HN0.out _ _ | exact HNZ.out _ _))) | (go_at_call 22; exact Calls.regrown_of (LAdopt_none (by rfl) (by first | exact HN0.out _ _ | exact HNZ.out _ _) _ _ _ _ _ _)) | (go_at_call 11; exact Calls.regrown_of (lalive_any _))))
      refine wpQuiet_nil ?_
      rintro _ ⟨⟨nq, osq⟩, rfl⟩
      go_wp2_with fail
      go_ret
      exact ⟨rfl, HB5.out.trans ((below_regrown w5 nq osq).mono HB5.out.size)⟩
end Go.Proofs.YthhdackaopaojaaGreat
