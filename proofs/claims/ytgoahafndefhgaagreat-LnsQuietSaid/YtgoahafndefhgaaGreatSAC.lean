import Derived.Test.YtgoahafndefhgaaGreatQAY
import Derived.Deep.Heap
import Derived.Test.YtgoahafndefhgaaGreatSAA
set_option linter.unusedVariables false
set_option linter.unusedSimpArgs false
set_option maxHeartbeats 16000000
namespace Go.Proofs.YtgoahafndefhgaaGreat
open Go.RowKit Go.Tg Go.Maps
section
variable {w : World} {c : XCfg} {lb tb mt ms pb ph pw sb : Nat} {now : Int}
theorem keepSetX (w : World) (lb i : Nat) (v : Value) : Keep (fun x => x = lb) w (w.setCell ⟨lb, i, none⟩ v) := Keep.setCell (S := fun x => x = lb) (Keep.refl _ w) ⟨lb, i, none⟩ (Or.inr rfl) v
theorem nodes_at (h : XC w c lb tb mt ms pb ph pw sb now) : Calls Tryz.prog 42 #[.pointer (some ⟨lb, 0, none⟩)] w fun e w' => e = .returned (.slice none 0 0) /\ Below w.heap.size w w' := by
 have c39 : w.cell? ⟨lb, 39, none⟩ = some (.map (some mt)) := cellOf h.xl 39 _ rfl; have HM := H_ (mapNone (K := 3) h.mt'); have HS := H_ (fun w => sortO_nil w); clear h; go_enter Tryz.func42, Tryz.ntmps42
 go_wp2_with (first | (at_range; refine wpl_range _ rfl _ 37 3 119 rfl Tryz.underlying37 mt (fun _ => none) (by rfl) HM.out ?_; intro w1 n hit hk hsz))
 have hb1 := hk.below (Nat.le_refl _) (fun _ _ h => h); have HB1 := H_ hb1; clear hk hb1; refine wp_loop_rounds 1 ?_; rw [rounds_succ]
 go_wp2_with (first | (at_next; refine wpl_next _ rfl _ rfl 3 w.heap.size mt (fun _ => none) _ _ (by rfl) hit ?_ ?_))
 refine (HS.out _).mono ?_; rintro e w2 ⟨rfl, rfl⟩; go_wp2_with fail; go_ret; exact ⟨rfl, HB1.out⟩
theorem look_at' (h : XC w c lb tb mt ms pb ph pw sb now) : Calls Tryz.prog 39 #[.pointer (some ⟨lb, 0, none⟩)] w fun e w' => e = .returned (.tuple #[]) /\ Below w.heap.size w w' := by
 have HS := H_ (sorted_at h); clear h; go_enter Tryz.func39, Tryz.ntmps39; go_wp2_with fail; refine wp_loop_rounds 2 ?_; rw [rounds_succ]
 go_wp2_with (go_at_call 40; refine HS.out.mono ?_; rintro e w1 ⟨rfl, b1⟩; have HB := H_ b1; clear b1)
 refine wp_loop_rounds 1 ?_; rw [rounds_succ]; go_wp2_with fail; rw [rounds_succ]; go_wp2_with fail
 first | go_end0 | refine bodyPost_ret (results_none rfl _ _ _) rfl ?_
 exact ⟨rfl, HB.out⟩
theorem xCells_now (c : XCfg) (tb mt ms sb pb : Nat) (now m : Int) : (xCells c tb (.map (some mt)) (.map (some ms)) (.pointer (some ⟨sb, 0, none⟩)) (.pointer (some ⟨pb, 0, none⟩)) now 0 0 (.slice none 0 0) (.slice none 0 0)).setIfInBounds 43 (.int .i64 m) = xCells c tb (.map (some mt)) (.map (some ms)) (.pointer (some ⟨sb, 0, none⟩)) (.pointer (some ⟨pb, 0, none⟩)) m 0 0 (.slice none 0 0) (.slice none 0 0) := by kernel_rfl
theorem XC.tick (h : XC w c lb tb mt ms pb ph pw sb now) (m : Int) : XC (w.setCell ⟨lb, 43, none⟩ (.int .i64 m)) c lb tb mt ms pb ph pw sb m := by
 have hx := blkSet (v := .int .i64 m) (i := 43) h.xl; rw [xCells_now] at hx; have up : ∀ {k}, k ≠ lb -> (w.setCell ⟨lb, 43, none⟩ (.int .i64 m)).heap[k]? = w.heap[k]? := fun hn => Go.Deep.blk_setCell_other w _ _ _ hn; exact ⟨hx, (up h.d.1).trans h.mt', (up h.d.2.1).trans h.ms', h.p.same (up h.d.2.2.1) (up h.d.2.2.2.1) (up h.d.2.2.2.2), h.d⟩
theorem xTick_at (h : XC w c lb tb mt ms pb ph pw sb now) (hn : 0 <= now /\ now < 1000000) : Calls Tryz.prog 10 #[.pointer (some ⟨lb, 0, none⟩)] w fun e w' => e = .returned (.tuple #[]) /\ XC w' c lb tb mt ms pb ph pw sb (now + 1) /\ Keep (· = lb) w w' := by
 obtain ⟨W, hW⟩ : ∃ W, W = w.setCell ⟨lb, 43, none⟩ (.int .i64 (now + 1)) := ⟨_, rfl⟩; have ht := h.tick (now + 1); have hk : Keep (· = lb) w W := by rw [hW]; exact keepSetX w lb 43 _
 rw [<- hW] at ht; have HN := H_ (xnone_at h); have c43 := cellOf h.xl 43 (.int .i64 now) rfl; have f43 := frozen_of_block h.xl 43; have e1 : wrap64 (now + 1) = now + 1 := by unfold wrap64; omega
 have e2 : min (now + 1) (4611686018427387904 : Int) = now + 1 := by omega
 have HT := H_ (A_ ht hk); clear h hn ht hk; go_enter Tryz.func10, Tryz.ntmps10
 go_wp2_with (first | (go_at_call 34; refine HN.out.mono ?_; rintro e w1 ⟨rfl, rfl⟩) | (go_at_call 40; rw [<- hW]; refine (sorted_at HT.out.1).mono ?_; rintro e w2 ⟨rfl, b2⟩; have H2 := H_ (A_ (HT.out.1.go b2) (HT.out.2.trans (Keep.of_below _ b2))); clear b2))
 refine wp_loop_rounds 1 ?_; rw [rounds_succ]
 go_wp2_with (go_at_call 42; refine (nodes_at H2.out.1).mono ?_; rintro e w3 ⟨rfl, b3⟩; have H3 := H_ (A_ (H2.out.1.go b3) (H2.out.2.trans (Keep.of_below _ b3))); clear b3)
 refine wp_loop_rounds 1 ?_; rw [rounds_succ]
 go_wp2_with (go_at_call 39; refine (look_at' H3.out.1).mono ?_; rintro e w4 ⟨rfl, b4⟩; have H4 := H_ (A_ (H3.out.1.go b4) (H3.out.2.trans (Keep.of_below _ b4))); clear b4)
 first | go_end0 | refine bodyPost_ret (results_none rfl _ _ _) rfl ?_
 exact ⟨rfl, H4.out⟩
theorem xOut_at (h : XC w c lb tb mt ms pb ph pw sb now) : Calls Tryz.prog 13 #[.pointer (some ⟨lb, 0, none⟩)] w fun e w' => e = .returned (.slice none 0 0) /\ Below w.heap.size w w' := by
 have HN := H_ (xnone_at h); have HO := H_ (nodes_at h); have HH := H_ h; clear h; go_enter Tryz.func13, Tryz.ntmps13
 go_wp2_with (first | (go_at_call 34; refine HN.out.mono ?_; rintro e w1 ⟨rfl, rfl⟩) | (go_at_call 42; refine HO.out.mono ?_; rintro e w2 ⟨rfl, b2⟩; have H2 := H_ (A_ b2 (HH.out.go b2)); clear b2))
 refine wp_loop_rounds 1 ?_; rw [rounds_succ]; have hx := H2.out.2.xl; have e47 : w2.setCell ⟨lb, 47, none⟩ (.slice none 0 0) = w2 := setCell_same hx rfl; have f47 := frozen_of_block hx 47; have c47 := cellOf hx 47 (.slice none 0 0) rfl; clear hx; go_wp2_with fail; go_ret; exact ⟨rfl, H2.out.1⟩
theorem xEvents_at (h : XC w c lb tb mt ms pb ph pw sb now) : Calls Tryz.prog 15 #[.pointer (some ⟨lb, 0, none⟩)] w fun e w' => e = .returned (.slice none 0 0) /\ Below w.heap.size w w' := by
 have HN := H_ (xnone_at h); have c46 := cellOf h.xl 46 (.slice none 0 0) rfl; have e46 : w.setCell ⟨lb, 46, none⟩ (.slice none 0 0) = w := setCell_same h.xl rfl; have f46 := frozen_of_block h.xl 46; clear h; go_enter Tryz.func15, Tryz.ntmps15
 go_wp2_with (go_at_call 34; refine HN.out.mono ?_; rintro e w1 ⟨rfl, rfl⟩)
 go_ret; exact ⟨rfl, Below.refl _ _⟩
end
set_option maxRecDepth 100000 in
theorem lnsQuiet_any (c : XCfg) (n : Int) (w : World) (hI : I64 c.auth) (h0 : c.name.size <= maxLen) (hs : c.secret.size <= maxLen) : Calls Tryz.prog 4 #[.agg c.cells, .int .i64 n] w fun e w' => e = .returned (.bool true) /\ Below w.heap.size w w' := by
 have q1 : ∀ w a, (binOp .eql 33 (.pointer (some a)) (.pointer none)).run Tryz.prog w = .ok (.bool false) w := fun w a => by kernel_rfl
 have HA := H_ (fun w => alive27_any w); obtain ⟨W, hW⟩ : ∃ W, W = w.alloc (.cells c.cells 35 (0, 0)) := ⟨_, rfl⟩; have b1 : Below w.heap.size w W := by rw [hW]; exact (Below.refl _ _).alloc (Nat.le_refl _) _
 have x0 : W.heap[w.heap.size]? = some (.cells c.cells 35 (0, 0)) := by rw [hW]; exact at1 _ _
 have hsz : W.heap.size = w.heap.size + 1 := by rw [hW, alloc1]
 have k0 : W.cell? ⟨w.heap.size, 0, none⟩ = some (.string c.name) := cellOf x0 0 _ rfl; have k1 : W.cell? ⟨w.heap.size, 1, none⟩ = some (.string c.secret) := cellOf x0 1 _ rfl; have HB := H_ b1
 by_cases g1 : (300 : Int) < wrap64 ((c.name.size : Int) + (c.secret.size : Int))
 . have d1 : decide ((300 : Int) < wrap64 ((c.name.size : Int) + (c.secret.size : Int))) = true := by simpa using g1
   clear b1 x0 hI h0 hs g1 hsz; go_enter Tryz.func4, Tryz.ntmps4
   go_upto_region 1 with (refine wpl_cfgbox c (by rfl) ?_)
   rw [<- hW]; clear hW
   go_wp2_with (go_at_call 8; refine (HA.out _).mono ?_; rintro e w1 ⟨rfl, b2⟩; have H2 := H_ (HB.out.trans (b2.mono HB.out.size)); clear b2)
   go_ret; exact ⟨rfl, H2.out⟩
 have d1 : decide ((300 : Int) < wrap64 ((c.name.size : Int) + (c.secret.size : Int))) = false := by simpa using g1
 by_cases g2 : n < 0
 . have d2 : decide (n < 0) = true := by simpa using g2
   clear b1 x0 hI h0 hs g1 g2 hsz; go_enter Tryz.func4, Tryz.ntmps4
   go_upto_region 1 with (refine wpl_cfgbox c (by rfl) ?_)
   rw [<- hW]; clear hW
   go_wp2_with (go_at_call 8; refine (HA.out _).mono ?_; rintro e w1 ⟨rfl, b2⟩; have H2 := H_ (HB.out.trans (b2.mono HB.out.size)); clear b2)
   go_ret; exact ⟨rfl, H2.out⟩
 have d2 : decide (n < 0) = false := by simpa using g2
 by_cases g3 : 300 < n
 . have d3 : decide (300 < n) = true := by simpa using g3
   clear b1 x0 hI h0 hs g1 g2 g3 hsz; go_enter Tryz.func4, Tryz.ntmps4
   go_upto_region 1 with (refine wpl_cfgbox c (by rfl) ?_)
   rw [<- hW]; clear hW
   go_wp2_with (go_at_call 8; refine (HA.out _).mono ?_; rintro e w1 ⟨rfl, b2⟩; have H2 := H_ (HB.out.trans (b2.mono HB.out.size)); clear b2)
   go_ret; exact ⟨rfl, H2.out⟩
 have d3 : decide (300 < n) = false := by simpa using g3
 obtain ⟨m, rfl⟩ : ∃ m : Nat, n = m := ⟨n.toNat, by omega⟩; have hm : m <= 300 := by omega
 have HR := H_ (cfg_range x0); have HN := H_ (fun w => xnew_any c w hI hs); have HX := H_ (A_ x0 (A_ hsz hm)); clear b1 x0 hI h0 hs g1 g2 g3 hsz hm; go_enter Tryz.func4, Tryz.ntmps4
 go_upto_region 1 with (refine wpl_cfgbox c (by rfl) ?_)
 rw [<- hW]; clear hW
 go_upto_region 3 with (fail)
 have HR2 := H_ HR.out; have HX2 := H_ HX.out; have HB3 := H_ HB.out; clear k0 k1 HR HX HB
 go_wp2_with (first | (refine wpl_cfgload rfl _ rfl w.heap.size (by rfl) c HR2.out ?_))
 refine (HN.out _).mono ?_; rintro e w2 h2
 rcases h2 with ⟨x, rfl, hx, -, b2⟩ | ⟨lb, tb, mt, ms, pb, ph, pw, sb, sm, rfl, h2⟩
 . have e1 : (x == 0) = false := by simpa using hx
   have e2 : decide (x = 0) = false := by simpa using hx
   have H2 := H_ (HB3.out.trans (b2.mono HB3.out.size)); clear b2 hx HX2 HR2
   go_wp2_with (go_at_call 8; refine (HA.out _).mono ?_; rintro e w3 ⟨rfl, b3⟩; have H3 := H_ (H2.out.trans (b3.mono H2.out.size)); clear b3)
   go_ret; exact ⟨rfl, H3.out⟩
 . have H2 := H_ h2.c; have HL := H_ (A_ h2.bl h2.lo.1); clear h2 HR2 HN; go_wp2_with fail
   go_loopg [7] m (fun x i wr => ∃ k : Nat, k <= m /\ x = m - k /\ i = .int .i64 k /\ Hid (XC wr c lb tb mt ms pb ph pw sb k /\ Below W.heap.size W wr))
   case atStart => exact ⟨0, by omega, by omega, rfl, H_ ⟨H2.out, HL.out.1⟩⟩
   case round =>
    obtain ⟨k, hk, rfl, rfl, hK⟩ := hrel; have HK := H_ hK.out; clear hK
    by_cases hkn : k < m
    . have hk3 := HX2.out.2.2; have e1 : wrap64 ((k : Int) + 1) = (k : Int) + 1 := by unfold wrap64; omega
      have TI := H_ (xTick_at HK.out.1 (by omega)); clear hk3
      go_wp2_with (go_at_call 10; refine TI.out.mono ?_; rintro e w8 ⟨rfl, h8, k8⟩; have H8 := H_ (A_ h8 (HK.out.2.trans (k8.below HK.out.2.size (fun j hj h => by have := HL.out.2; omega)))); clear h8 k8)
      go_roundg (m - (k + 1))
      case measure => omega
      case rel => exact ⟨k + 1, by omega, rfl, by go_num, H_ ⟨H8.out.1, H8.out.2⟩⟩
    . obtain rfl : k = m := by omega
      have HT := H_ (xTunnel_at HK.out.1); have x1 := (HK.out.2.block _ (by have := HX2.out.2.1; omega)).trans HX2.out.1; have c33 := cell_regrown (cellOf x1 33 (.int .i64 c.pool) rfl); have HQ := H_ (fun (d : Nat) (os : Array Obj) => HK.out.1.grown (Below.refl _ _) d os); have p1 : (c.pool == c.pool) = true := by simp
      clear x1
      go_upto_region 13 with (go_at_call 11; refine HT.out.mono ?_; rintro e w9 ⟨rfl, rfl⟩)
      refine wp_region_quiet_below (by kernel_rfl) (by kernel_rfl) ?_
      repeat (
       with_reducible refine wpQuiet_step (fun K hK => ?_)
       go_simp
       first
        | (refine hK _ ?_; clear hK K)
        | (
         apply Exists.intro
         refine ⟨fun _ => ?_, hK _ ?_⟩
         (first | (go_at_call 8; exact Calls.regrown_of (HA.out _)) | (go_at_call 13; exact Calls.regrown_of (xOut_at (HQ.out _ _))) | (go_at_call 14; exact Calls.regrown_of (xSeats_at (HQ.out _ _))) | (go_at_call 15; exact Calls.regrown_of (xEvents_at (HQ.out _ _))) | (go_at_call 16; exact Calls.regrown_of (xFree_at (HQ.out _ _))))
         clear hK K))
      refine wpQuiet_nil ?_; rintro _ ⟨⟨nq, osq⟩, rfl⟩; have HB9 := H_ (HK.out.2.trans ((below_regrown _ nq osq).mono HK.out.2.size)); go_wp2_with fail; go_ret; exact ⟨rfl, HB3.out.trans (HB9.out.mono HB3.out.size)⟩
end Go.Proofs.YtgoahafndefhgaaGreat
