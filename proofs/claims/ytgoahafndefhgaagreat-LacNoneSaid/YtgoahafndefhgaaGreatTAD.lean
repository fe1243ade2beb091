import Derived.Test.YtgoahafndefhgaaGreatQAO
import Derived.Test.YtgoahafndefhgaaGreatQAR
import Derived.Test.YtgoahafndefhgaaGreatQAA
import Derived.Lib.QuietBelow
import Derived.Deep.DeepCutAuto
import Derived.Deep.CutBlock
import Derived.Test.YtgoahafndefhgaaGreatTAC
import Derived.Test.YtgoahafndefhgaaGreatTAA
set_option linter.unusedVariables false
set_option linter.unusedSimpArgs false
set_option maxHeartbeats 16000000
namespace Go.Proofs.YtgoahafndefhgaaGreat
open Go.RowKit Go.Tg Go.Maps
structure NoneL (v : Value) (w : World) : Prop where
 out : ∀ W, Below w.heap.size w W -> Calls Tryz.prog 58 #[v] W fun e w' => e = .returned (.bool true) /\ W = w'
theorem NoneL.below {v : Value} {w w' : World} (h : NoneL v w) (hb : Below w.heap.size w w') : NoneL v w' := ⟨fun W hW => h.out W (hb.trans (hW.mono hb.size))⟩
theorem NoneL.at {v : Value} {w : World} (h : NoneL v w) : Calls Tryz.prog 58 #[v] w fun e w' => e = .returned (.bool true) /\ w = w' := h.out w (Below.refl _ _)
theorem NoneL.grown {v : Value} {w W : World} (h : NoneL v w) (hb : Below w.heap.size w W) (d : Nat) (os : Array Obj) : Calls Tryz.prog 58 #[v] (Go.Sort.grow (redrawn W d) os) fun e w' => e = .returned (.bool true) /\ Below (Go.Sort.grow (redrawn W d) os).heap.size (Go.Sort.grow (redrawn W d) os) w' :=
 (h.out _ (hb.trans ((below_regrown W d os).mono hb.size))).mono (fun e w' hq => ⟨hq.1, hq.2 ▸ Below.refl _ _⟩)
theorem noneL_nil (w : World) : NoneL (.pointer none) w := by
 refine ⟨fun W _ => ?_⟩; have q1 : ∀ w, (binOp .eql 75 (.pointer none) (.pointer none)).run Tryz.prog w = .ok (.bool true) w := fun w => by kernel_rfl
 go_enter Tryz.func58, Tryz.ntmps58; go_wp2_with fail; go_ret; exact ⟨rfl, rfl⟩
theorem noneL_zero {w : World} {b : Nat} (hb : b < w.heap.size) (h : w.cell? ⟨b, 26, none⟩ = some (.pointer none)) : NoneL (.pointer (some ⟨b, 0, none⟩)) w := by
 refine ⟨fun W hW => ?_⟩; have h0 : W.cell? ⟨b, 26, none⟩ = some (.pointer none) := (hW.cell (p := ⟨b, 26, none⟩) hb).trans h; have q1 : ∀ w a, (binOp .eql 75 (.pointer (some a)) (.pointer none)).run Tryz.prog w = .ok (.bool false) w := fun w a => by kernel_rfl
 have q2 : ∀ w, (binOp .eql 80 (.pointer none) (.pointer none)).run Tryz.prog w = .ok (.bool true) w := fun w => by kernel_rfl
 clear h hW; go_enter Tryz.func58, Tryz.ntmps58; go_wp2_with fail; go_ret; exact ⟨rfl, rfl⟩
section
variable {v : Value} {w : World}
set_option maxRecDepth 100000 in
theorem lTick_none (hv : v.oneCell' = true) (h : NoneL v w) : Calls Tryz.prog 25 #[v] w fun e w' => e = .returned (.tuple #[]) /\ Below w.heap.size w w' := by
 have H := H_ h.at; clear h; go_enter Tryz.func25, Tryz.ntmps25
 go_wp2_with (go_at_call 58; refine H.out.mono ?_; rintro e w1 ⟨rfl, rfl⟩)
 refine bodyPost_ret (results_none rfl _ _ _) rfl ?_; exact ⟨rfl, Below.refl _ _⟩
set_option maxRecDepth 100000 in
theorem lOut_none (hv : v.oneCell' = true) (h : NoneL v w) : Calls Tryz.prog 26 #[v] w fun e w' => e = .returned (.tuple #[.slice none 0 0, .slice none 0 0]) /\ Below w.heap.size w w' := by
 have H := H_ h.at; clear h; go_enter Tryz.func26, Tryz.ntmps26
 go_wp2_with (go_at_call 58; refine H.out.mono ?_; rintro e w1 ⟨rfl, rfl⟩)
 go_ret2; exact ⟨rfl, Below.refl _ _⟩
set_option maxRecDepth 100000 in
theorem lLines_none (hv : v.oneCell' = true) (h : NoneL v w) : Calls Tryz.prog 27 #[v] w fun e w' => e = .returned (.slice none 0 0) /\ Below w.heap.size w w' := by
 have H := H_ h.at; clear h; go_enter Tryz.func27, Tryz.ntmps27
 go_wp2_with (go_at_call 58; refine H.out.mono ?_; rintro e w1 ⟨rfl, rfl⟩)
 go_ret; exact ⟨rfl, Below.refl _ _⟩
set_option maxRecDepth 100000 in
theorem lTunnels_none (hv : v.oneCell' = true) (h : NoneL v w) : Calls Tryz.prog 28 #[v] w fun e w' => e = .returned (.slice none 0 0) /\ Below w.heap.size w w' := by
 have H := H_ h.at; clear h; go_enter Tryz.func28, Tryz.ntmps28
 go_wp2_with (go_at_call 58; refine H.out.mono ?_; rintro e w1 ⟨rfl, rfl⟩)
 go_ret; exact ⟨rfl, Below.refl _ _⟩
set_option maxRecDepth 100000 in
theorem lNow_none (hv : v.oneCell' = true) (h : NoneL v w) : Calls Tryz.prog 29 #[v] w fun e w' => e = .returned (.int .i64 0) /\ Below w.heap.size w w' := by
 have H := H_ h.at; clear h; go_enter Tryz.func29, Tryz.ntmps29
 go_wp2_with (go_at_call 58; refine H.out.mono ?_; rintro e w1 ⟨rfl, rfl⟩)
 go_ret; exact ⟨rfl, Below.refl _ _⟩
set_option maxRecDepth 100000 in
theorem lEther_none (hv : v.oneCell' = true) (h : NoneL v w) (a0 a1 a2 a3 a4 a5 b0 b1 b2 b3 b4 b5 : UInt8) (t : Int) (s : ByteArray) : Calls Tryz.prog 23 #[v, .agg #[.int .u8 (a0.toNat : Int), .int .u8 (a1.toNat : Int), .int .u8 (a2.toNat : Int), .int .u8 (a3.toNat : Int), .int .u8 (a4.toNat : Int), .int .u8 (a5.toNat : Int), .int .u8 (b0.toNat : Int), .int .u8 (b1.toNat : Int), .int .u8 (b2.toNat : Int), .int .u8 (b3.toNat : Int), .int .u8 (b4.toNat : Int), .int .u8 (b5.toNat : Int), .int .i64 t, .string s]] w fun e w' => e = .returned (.tuple #[]) /\ Below w.heap.size w w' := by
 have hb1 : Below w.heap.size w (w.alloc (.cells #[.int .u8 (a0.toNat : Int), .int .u8 (a1.toNat : Int), .int .u8 (a2.toNat : Int), .int .u8 (a3.toNat : Int), .int .u8 (a4.toNat : Int), .int .u8 (a5.toNat : Int), .int .u8 (b0.toNat : Int), .int .u8 (b1.toNat : Int), .int .u8 (b2.toNat : Int), .int .u8 (b3.toNat : Int), .int .u8 (b4.toNat : Int), .int .u8 (b5.toNat : Int), .int .i64 t, .string s] 68 (0, 0))) := (Below.refl _ _).alloc (Nat.le_refl _) _; have H := H_ (A_ (h.below hb1).at hb1); clear h hb1; go_enter Tryz.func23, Tryz.ntmps23
 go_wp2_with (go_at_call 58; refine H.out.1.mono ?_; rintro e w1 ⟨rfl, rfl⟩)
 refine bodyPost_ret (results_none rfl _ _ _) rfl ?_; exact ⟨rfl, H.out.2⟩
set_option maxRecDepth 100000 in
theorem lGram_none (hv : v.oneCell' = true) (h : NoneL v w) (a b : Int) (s : ByteArray) : Calls Tryz.prog 24 #[v, .agg #[.int .i64 a, .int .i64 b, .string s]] w fun e w' => e = .returned (.tuple #[]) /\ Below w.heap.size w w' := by
 have hb1 : Below w.heap.size w (w.alloc (.cells #[.int .i64 a, .int .i64 b, .string s] 23 (0, 0))) := (Below.refl _ _).alloc (Nat.le_refl _) _; have HQ := H_ (fun (d : Nat) (os : Array Obj) => h.grown hb1 d os); have HB := H_ hb1; clear h hb1; go_enter Tryz.func24, Tryz.ntmps24
 go_upto_region 1 with (fail)
 refine wp_region_quiet_below (by kernel_rfl) (by kernel_rfl) ?_
 repeat (
  with_reducible refine wpQuiet_step (fun K hK => ?_)
  go_simp
  first
   | (refine hK _ ?_; clear hK K)
   | (
    apply Exists.intro
    refine ⟨fun _ => ?_, hK _ ?_⟩
    (first | (go_at_call 58; exact Calls.regrown_of (HQ.out _ _)))
    clear hK K))
 refine wpQuiet_nil ?_; rintro _ ⟨⟨nq, osq⟩, rfl⟩; have HB2 := H_ (HB.out.trans ((below_regrown _ nq osq).mono HB.out.size)); go_wp2_with fail; refine bodyPost_ret (results_none rfl _ _ _) rfl ?_; exact ⟨rfl, HB2.out⟩
set_option maxRecDepth 100000 in
theorem lClose_none (hv : v.oneCell' = true) (h : NoneL v w) (a0 a1 a2 a3 a4 a5 : UInt8) (n : Int) : Calls Tryz.prog 30 #[v, .agg #[.int .u8 (a0.toNat : Int), .int .u8 (a1.toNat : Int), .int .u8 (a2.toNat : Int), .int .u8 (a3.toNat : Int), .int .u8 (a4.toNat : Int), .int .u8 (a5.toNat : Int), .int .i64 n]] w fun e w' => e = .returned (.int .i64 3) /\ Below w.heap.size w w' := by
 have hb1 : Below w.heap.size w (w.alloc (.cells #[.int .u8 (a0.toNat : Int), .int .u8 (a1.toNat : Int), .int .u8 (a2.toNat : Int), .int .u8 (a3.toNat : Int), .int .u8 (a4.toNat : Int), .int .u8 (a5.toNat : Int), .int .i64 n] 70 (0, 0))) := (Below.refl _ _).alloc (Nat.le_refl _) _; have HQ := H_ (fun (d : Nat) (os : Array Obj) => h.grown hb1 d os); have HB := H_ hb1; clear h hb1; go_enter Tryz.func30, Tryz.ntmps30
 go_upto_region 1 with (fail)
 refine wp_region_quiet_below (by kernel_rfl) (by kernel_rfl) ?_
 repeat (
  with_reducible refine wpQuiet_step (fun K hK => ?_)
  go_simp
  first
   | (refine hK _ ?_; clear hK K)
   | (
    apply Exists.intro
    refine ⟨fun _ => ?_, hK _ ?_⟩
    (first | (go_at_call 58; exact Calls.regrown_of (HQ.out _ _)))
    clear hK K))
 refine wpQuiet_nil ?_; rintro _ ⟨⟨nq, osq⟩, rfl⟩; have HB2 := H_ (HB.out.trans ((below_regrown _ nq osq).mono HB.out.size)); go_wp2_with fail; go_ret; exact ⟨rfl, HB2.out⟩
end
end Go.Proofs.YtgoahafndefhgaaGreat
