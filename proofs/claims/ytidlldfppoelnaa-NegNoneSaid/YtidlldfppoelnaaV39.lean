import Derived.Test.YtidlldfppoelnaaV38
import Derived.Lib.QuietBelow
namespace Go.Proofs.Ytidlldfppoelnaa
open Go.RowKit Go.Tg Go.Maps

/-- A negotiation that is none. -/
structure NoneV (v : Value) (w : World) : Prop where
  out : ∀ W, Below w.heap.size w W → Calls Try.prog 31 #[v] W fun e w' => e = .returned (.bool true) ∧ W = w'
theorem NoneV.below {v : Value} {w w' : World} (h : NoneV v w) (hb : Below w.heap.size w w') : NoneV v w' := ⟨fun W hW => h.out W (hb.trans (hW.mono hb.size))⟩
theorem NoneV.at {v : Value} {w : World} (h : NoneV v w) : Calls Try.prog 31 #[v] w fun e w' => e = .returned (.bool true) ∧ w = w' := h.out w (Below.refl _ _)
theorem noneV_nil (w : World) : NoneV (.pointer none) w := ⟨fun W _ => nnone_nil W⟩
set_option maxHeartbeats 400000 in
theorem noneV_zero {w : World} {b : Nat} (hb : b < w.heap.size) (h : w.cell? ⟨b, 0, none⟩ = some (.pointer none)) : NoneV (.pointer (some ⟨b, 0, none⟩)) w := by
  refine ⟨fun W hW => ?_⟩
  have h0 : W.cell? ⟨b, 0, none⟩ = some (.pointer none) := (hW.cell (p := ⟨b, 0, none⟩) hb).trans h
  have q1 : ∀ w a, (binOp .eql 23 (.pointer (some a)) (.pointer none)).run Try.prog w = .ok (.bool false) w := fun w a => by kernel_rfl
  have q2 : ∀ w, (binOp .eql 67 (.pointer none) (.pointer none)).run Try.prog w = .ok (.bool true) w := fun w => by kernel_rfl
  clear h hW
  go_enter Try.func31, Try.ntmps31
  go_wp2_with fail
  go_ret
  exact ⟨rfl, rfl⟩

section
variable {v : Value} {w : World}

set_option maxHeartbeats 1000000 in
set_option maxRecDepth 100000 in
theorem Do_none (hv : v.oneCell' = true) (h : NoneV v w) (ev : Int) : Calls Try.prog 13 #[v, .int .i64 ev] w fun e w' => e = .returned (.slice none 0 0) ∧ Below w.heap.size w w' := by
  have H := Lib.hid h.at
  clear h
  go_enter Try.func13, Try.ntmps13
  go_wp2_with (go_at_call 31; refine H.out.mono ?_; rintro e w1 ⟨rfl, rfl⟩)
  go_ret
  exact ⟨rfl, Below.refl _ _⟩
set_option maxHeartbeats 1000000 in
set_option maxRecDepth 100000 in
theorem Tick_none (hv : v.oneCell' = true) (h : NoneV v w) : Calls Try.prog 25 #[v] w fun e w' => e = .returned (.slice none 0 0) ∧ Below w.heap.size w w' := by
  have H := Lib.hid h.at
  clear h
  go_enter Try.func25, Try.ntmps25
  go_wp2_with (go_at_call 31; refine H.out.mono ?_; rintro e w1 ⟨rfl, rfl⟩)
  go_ret
  exact ⟨rfl, Below.refl _ _⟩
set_option maxHeartbeats 1000000 in
set_option maxRecDepth 100000 in
theorem State_none (hv : v.oneCell' = true) (h : NoneV v w) : Calls Try.prog 20 #[v] w fun e w' => e = .returned (.int .i64 0) ∧ Below w.heap.size w w' := by
  have H := Lib.hid h.at
  clear h
  go_enter Try.func20, Try.ntmps20
  go_wp2_with (go_at_call 31; refine H.out.mono ?_; rintro e w1 ⟨rfl, rfl⟩)
  go_ret
  exact ⟨rfl, Below.refl _ _⟩
set_option maxHeartbeats 1000000 in
set_option maxRecDepth 100000 in
theorem Mine_none (hv : v.oneCell' = true) (h : NoneV v w) : Calls Try.prog 21 #[v] w fun e w' => e = .returned (.slice none 0 0) ∧ Below w.heap.size w w' := by
  have H := Lib.hid (State_none hv h)
  clear h
  go_enter Try.func21, Try.ntmps21
  go_wp2_with (go_at_call 20; refine H.out.mono ?_; rintro e w1 ⟨rfl, b1⟩; have HB := Lib.hid b1; clear b1)
  go_ret
  exact ⟨rfl, HB.out⟩
set_option maxHeartbeats 1000000 in
set_option maxRecDepth 100000 in
theorem Theirs_none (hv : v.oneCell' = true) (h : NoneV v w) : Calls Try.prog 22 #[v] w fun e w' => e = .returned (.slice none 0 0) ∧ Below w.heap.size w w' := by
  have H := Lib.hid (State_none hv h)
  clear h
  go_enter Try.func22, Try.ntmps22
  go_wp2_with (go_at_call 20; refine H.out.mono ?_; rintro e w1 ⟨rfl, b1⟩; have HB := Lib.hid b1; clear b1)
  go_ret
  exact ⟨rfl, HB.out⟩
set_option maxHeartbeats 1000000 in
set_option maxRecDepth 100000 in
theorem Ups_none (hv : v.oneCell' = true) (h : NoneV v w) : Calls Try.prog 29 #[v] w fun e w' => e = .returned (.tuple #[.int .i64 0, .int .i64 0]) ∧ Below w.heap.size w w' := by
  have H := Lib.hid h.at
  clear h
  go_enter Try.func29, Try.ntmps29
  go_wp2_with (go_at_call 31; refine H.out.mono ?_; rintro e w1 ⟨rfl, rfl⟩)
  go_ret2
  exact ⟨rfl, Below.refl _ _⟩
set_option maxHeartbeats 1000000 in
set_option maxRecDepth 100000 in
theorem Adopt_none (hv : v.oneCell' = true) (h : NoneV v w) (a b : Option Addr) (n c n' c' : Nat) : Calls Try.prog 28 #[v, .slice a n c, .slice b n' c'] w fun e w' => e = .returned (.int .i64 1) ∧ Below w.heap.size w w' := by
  have H := Lib.hid h.at
  clear h
  go_enter Try.func28, Try.ntmps28
  go_wp2_with (go_at_call 31; refine H.out.mono ?_; rintro e w1 ⟨rfl, rfl⟩)
  go_ret
  exact ⟨rfl, Below.refl _ _⟩
set_option maxHeartbeats 1000000 in
set_option maxRecDepth 100000 in
theorem Take_none (hv : v.oneCell' = true) (h : NoneV v w) (p : Pk) (a : Option Addr) (n c : Nat) : Calls Try.prog 15 #[v, pkV p (.slice a n c)] w fun e w' => e = .returned (.slice none 0 0) ∧ Below w.heap.size w w' := by
  have hb1 : Below w.heap.size w (w.alloc (.cells #[.int .i64 p.code, .int .i64 p.id, .slice a n c, .string p.d] 36 (0, 0))) := (Below.refl _ _).alloc (Nat.le_refl _) _
  have H := Lib.hid (And.intro (h.below hb1).at hb1)
  unfold pkV
  clear h hb1
  go_enter Try.func15, Try.ntmps15
  go_wp2_with (go_at_call 31; refine H.out.1.mono ?_; rintro e w1 ⟨rfl, rfl⟩)
  go_ret
  exact ⟨rfl, H.out.2⟩
end

set_option maxHeartbeats 16000000 in
set_option maxRecDepth 100000 in
theorem negNone_any (p : Pk) (po lv : Value) (event : Int) (l : List Opt) (w : World) (hp : Opts w (fun _ => True) po p.o) (hps : ∀ o ∈ p.o, o.v.size ≤ maxLen) (hd : p.d.size ≤ maxLen) (hl : Opts w (fun _ => True) lv l) (hls : ∀ o ∈ l, o.v.size ≤ maxLen) :
    Calls Try.prog 9 #[pkV p po, .int .i64 event, lv] w fun e w' => e = .returned (.bool true) ∧ Below w.heap.size w w' := by
  obtain ⟨n1, a1, k1, rfl⟩ : ∃ n1 a1 k1, po = .slice a1 n1 k1 := by obtain ⟨a1, k1, e, _, _⟩ := hp.form; exact ⟨_, a1, k1, e⟩
  obtain ⟨n2, a2, k2, rfl⟩ : ∃ n2 a2 k2, lv = .slice a2 n2 k2 := by obtain ⟨a1, k1, e, _, _⟩ := hl.form; exact ⟨_, a1, k1, e⟩
  have hb1 : Below w.heap.size w (w.alloc (.cells #[.int .i64 p.code, .int .i64 p.id, (.slice a1 n1 k1), .string p.d] 36 (0, 0))) := (Below.refl _ _).alloc (Nat.le_refl _) _
  have hz := at1 w (.cells #[.int .i64 p.code, .int .i64 p.id, (.slice a1 n1 k1), .string p.d] 36 (0, 0))
  have hsz : (w.alloc (.cells #[.int .i64 p.code, .int .i64 p.id, (.slice a1 n1 k1), .string p.d] 36 (0, 0))).heap.size = w.heap.size + 1 := alloc1 _ _
  have HL1 := Lib.hid (light_any p.o _ _ (w.alloc (.cells #[.int .i64 p.code, .int .i64 p.id, (.slice a1 n1 k1), .string p.d] 36 (0, 0))) (hp.below hb1) hps)
  have HL2 := Lib.hid (light_any l _ _ (w.alloc (.cells #[.int .i64 p.code, .int .i64 p.id, (.slice a1 n1 k1), .string p.d] 36 (0, 0))) (hl.below hb1) hls)
  have HA := Lib.hid (alive_any (w.alloc (.cells #[.int .i64 p.code, .int .i64 p.id, (.slice a1 n1 k1), .string p.d] 36 (0, 0))))
  have HB := Lib.hid (And.intro hb1 hz)
  have e0 := cellOf hz 0 _ rfl
  have e1 := cellOf hz 1 _ rfl
  have e2 := cellOf hz 2 _ rfl
  have e3 := cellOf hz 3 _ rfl
  unfold pkV
  unfold maxLen at hd
  clear hp hl hps hls hb1 hz
  go_enter Try.func9, Try.ntmps9
  go_wp2_with fail
  refine HL1.out.mono ?_
  rintro e w1 ⟨⟨b, rfl, -⟩, rfl⟩
  cases b with
  | false =>
    go_wp2_with (go_at_call 10; refine HA.out.mono ?_; rintro e w2 ⟨rfl, b2⟩)
    go_ret
    exact ⟨rfl, HB.out.1.trans (b2.mono (by omega))⟩
  | true =>
    by_cases hq : 2000 < p.d.size
    · have dd : decide ((2000 : Int) < (p.d.size : Int)) = true := by simp; omega
      clear hq
      go_wp2_with (go_at_call 10; refine HA.out.mono ?_; rintro e w2 ⟨rfl, b2⟩)
      go_ret
      exact ⟨rfl, HB.out.1.trans (b2.mono (by omega))⟩
    · have dd : decide ((2000 : Int) < (p.d.size : Int)) = false := by simp; omega
      clear hq
      go_wp2_with fail
      refine HL2.out.mono ?_
      rintro e w1 ⟨⟨b, rfl, -⟩, rfl⟩
      cases b with
      | false =>
        go_wp2_with (go_at_call 10; refine HA.out.mono ?_; rintro e w2 ⟨rfl, b2⟩)
        go_ret
        exact ⟨rfl, HB.out.1.trans (b2.mono (by omega))⟩
      | true =>
        go_wp2_with fail
        have b3 : Below (w.alloc (.cells #[.int .i64 p.code, .int .i64 p.id, (.slice a1 n1 k1), .string p.d] 36 (0, 0))).heap.size (w.alloc (.cells #[.int .i64 p.code, .int .i64 p.id, (.slice a1 n1 k1), .string p.d] 36 (0, 0))) ((w.alloc (.cells #[.int .i64 p.code, .int .i64 p.id, (.slice a1 n1 k1), .string p.d] 36 (0, 0))).alloc (.cells #[.pointer none, .slice none 0 0, .slice none 0 0, .slice none 0 0, .slice none 0 0, .int .i64 0, .int .i64 0, .int .i64 0, .int .i64 0, .nilFunc, .slice none 0 0, .int .u8 0, .int .u8 0, .int .i64 0, .int .i64 0, .slice none 0 0, .slice none 0 0, .int .i64 0, .int .i64 0] 71 (0, 0))) := (Below.refl _ _).alloc (Nat.le_refl _) _
        have z3 : ((w.alloc (.cells #[.int .i64 p.code, .int .i64 p.id, (.slice a1 n1 k1), .string p.d] 36 (0, 0))).alloc (.cells #[.pointer none, .slice none 0 0, .slice none 0 0, .slice none 0 0, .slice none 0 0, .int .i64 0, .int .i64 0, .int .i64 0, .int .i64 0, .nilFunc, .slice none 0 0, .int .u8 0, .int .u8 0, .int .i64 0, .int .i64 0, .slice none 0 0, .slice none 0 0, .int .i64 0, .int .i64 0] 71 (0, 0))).heap[w.heap.size + 1]? = some (.cells #[.pointer none, .slice none 0 0, .slice none 0 0, .slice none 0 0, .slice none 0 0, .int .i64 0, .int .i64 0, .int .i64 0, .int .i64 0, .nilFunc, .slice none 0 0, .int .u8 0, .int .u8 0, .int .i64 0, .int .i64 0, .slice none 0 0, .slice none 0 0, .int .i64 0, .int .i64 0] 71 (0, 0)) := at21 w (.cells #[.int .i64 p.code, .int .i64 p.id, (.slice a1 n1 k1), .string p.d] 36 (0, 0)) (.cells #[.pointer none, .slice none 0 0, .slice none 0 0, .slice none 0 0, .slice none 0 0, .int .i64 0, .int .i64 0, .int .i64 0, .int .i64 0, .nilFunc, .slice none 0 0, .int .u8 0, .int .u8 0, .int .i64 0, .int .i64 0, .slice none 0 0, .slice none 0 0, .int .i64 0, .int .i64 0] 71 (0, 0))
        have l3 : w.heap.size + 1 < ((w.alloc (.cells #[.int .i64 p.code, .int .i64 p.id, (.slice a1 n1 k1), .string p.d] 36 (0, 0))).alloc (.cells #[.pointer none, .slice none 0 0, .slice none 0 0, .slice none 0 0, .slice none 0 0, .int .i64 0, .int .i64 0, .int .i64 0, .int .i64 0, .nilFunc, .slice none 0 0, .int .u8 0, .int .u8 0, .int .i64 0, .int .i64 0, .slice none 0 0, .slice none 0 0, .int .i64 0, .int .i64 0] 71 (0, 0))).heap.size := (Array.getElem?_eq_some_iff.1 z3).1
        have N3 := Lib.hid (noneV_zero l3 (cellOf z3 0 _ rfl))
        have HB3 := Lib.hid (And.intro (HB.out.1.trans (b3.mono (by omega))) ((b3.block _ (by omega)).trans HB.out.2))
        clear b3 z3
        refine (Ups_none rfl (noneV_nil _)).mono ?_
        rintro e w4 ⟨rfl, b4⟩
        have l4 : w.heap.size + 1 < w4.heap.size := Nat.lt_of_lt_of_le l3 b4.size
        have N4 := Lib.hid (N3.out.below b4)
        have HB4 := Lib.hid (And.intro (HB3.out.1.trans (b4.mono (by omega))) ((b4.block _ (by omega)).trans HB3.out.2))
        clear b4
        go_wp2_with fail
        refine (Ups_none rfl N4.out).mono ?_
        rintro e w5 ⟨rfl, b5⟩
        have N5 := N4.out.below b5
        have z5 := (b5.block _ (by omega)).trans HB4.out.2
        have HB5 := Lib.hid (HB4.out.1.trans (b5.mono (by omega)))
        have HN0 := Lib.hid (fun (d : Nat) (os : Array Obj) => noneV_nil (Go.Sort.grow (redrawn w5 d) os))
        have HNZ := Lib.hid (fun (d : Nat) (os : Array Obj) => N5.below (below_regrown w5 d os))
        have f0 := fun d os => cell_regrown (cellOf z5 0 _ rfl) d os
        have f1 := fun d os => cell_regrown (cellOf z5 1 _ rfl) d os
        have f2 := fun d os => cell_regrown (cellOf z5 2 _ rfl) d os
        have f3 := fun d os => cell_regrown (cellOf z5 3 _ rfl) d os
        clear b5 N5 z5
        go_wp2_with fail
        simp only [List.append_eq, List.cons_append, List.nil_append]
        clear HL1 HL2 HA HB HB3 HB4 N3 N4 e0 e1 e2 e3 dd hsz l3 l4
        refine wp_region_quiet_below (by kernel_rfl) (by kernel_rfl) ?_
        repeat (quiet_step (first | (go_at_call 13; exact Calls.regrown_of (Do_none (by rfl) (by first | exact HN0.out _ _ | exact HNZ.out _ _) _)) | (go_at_call 15; exact Calls.regrown_of (Take_none (by rfl) (by first | exact HN0.out _ _ | exact HNZ.out _ _) p _ _ _)) | (go_at_call 25; exact Calls.regrown_of (Tick_none (by rfl) (by first | exact HN0.out _ _ | exact HNZ.out _ _))) | (go_at_call 20; exact Calls.regrown_of (State_none (by rfl) (by first | exact HN0.out _ _ | exact HNZ.out _ _))) | (go_at_call 21; exact Calls.regrown_of (Mine_none (by rfl) (by first | exact HN0.out _ _ | exact HNZ.out _ _))) | (go_at_call 22; exact Calls.regrown_of (Theirs_none (by rfl) (by first | exact HN0.out _ _ | exact HNZ.out _ _))) | (go_at_call 28; exact Calls.regrown_of (Adopt_none (by rfl) (by first | exact HN0.out _ _ | exact HNZ.out _ _) _ _ _ _ _ _)) | (go_at_call 10; exact Calls.regrown_of (alive_any _))))
        refine wpQuiet_nil ?_
        rintro _ ⟨⟨nq, osq⟩, rfl⟩
        go_wp2_with fail
        go_ret
        exact ⟨rfl, HB5.out.trans ((below_regrown w5 nq osq).mono HB5.out.size)⟩
end Go.Proofs.Ytidlldfppoelnaa
