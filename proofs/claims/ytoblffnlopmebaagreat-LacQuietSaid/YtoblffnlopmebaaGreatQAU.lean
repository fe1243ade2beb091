import Derived.Test.YtoblffnlopmebaaGreatQAP
import Derived.Test.YtoblffnlopmebaaGreatQAS
import Derived.Test.YtoblffnlopmebaaGreatQAA
import Derived.Lib.QuietBelow
import Derived.Deep.DeepCutAuto
import Derived.Deep.CutBlock
import Derived.Test.YtoblffnlopmebaaGreatQAR
set_option linter.unusedVariables false
set_option linter.unusedSimpArgs false
set_option maxHeartbeats 16000000
namespace Go.Proofs.YtoblffnlopmebaaGreat
open Go.RowKit Go.Tg Go.Maps
structure NoneL (v : Value) (w : World) : Prop where
 out : ∀ W, Below w.heap.size w W -> Calls Tryz.prog 20 #[v] W fun e w' => e = .returned (.bool true) /\ W = w'
section
variable {v : Value} {w : World}
end
set_option maxRecDepth 100000 in
theorem tunNew_any (name secret : ByteArray) (id wd q rt wt hl : Int) (tb : Nat) (w : World) :
 Calls Tryz.prog 38 #[.agg #[.string name, .string secret, .int .i64 id, .int .i64 wd, .int .i64 q, .int .i64 rt, .int .i64 wt, .int .i64 hl], .pointer (some ⟨tb, 0, none⟩)] w fun e w' => Made w w' (TunOk name secret id wd q rt wt hl) e := by
 have q1 : ∀ w a, (binOp .eql 50 (.pointer (some a)) (.pointer none)).run Tryz.prog w = .ok (.bool false) w := fun w a => by kernel_rfl
 have hb0 := (Below.refl w.heap.size w).alloc (Nat.le_refl _) (.cells #[.string name, .string secret, .int .i64 id, .int .i64 wd, .int .i64 q, .int .i64 rt, .int .i64 wt, .int .i64 hl] 114 (0, 0)); have HB0 := H_ hb0
 have bad : ∀ (v : Value) (W : World), v = .pointer none -> Below w.heap.size w W -> ¬ TunOk name secret id wd q rt wt hl -> Made w W (TunOk name secret id wd q rt wt hl) (.returned (.tuple #[v, .int .i64 1])) := by
  rintro v W rfl hb hn; exact ⟨_, _, rfl, hb, fun h => absurd h hn⟩
 have HBAD := H_ bad; clear bad
 by_cases e1 : name.size = 0
 . have d1 : name.toList.isEmpty = true := by rw [isE]; simp [e1]
   have HN := H_ (show ¬ TunOk name secret id wd q rt wt hl from fun h => h.1.1 e1); clear e1 hb0; go_enter Tryz.func38, Tryz.ntmps38; go_wp2_with fail; go_ret2; exact HBAD.out _ _ rfl HB0.out HN.out
 have d1 : name.toList.isEmpty = false := by rw [isE]; simp [e1]
 by_cases e2 : 40 < name.size
 . have d2 : decide ((40 : Int) < (name.size : Int)) = true := by simp; omega
   have HN := H_ (show ¬ TunOk name secret id wd q rt wt hl from fun h => by have := h.1.2; omega); clear e1 e2 hb0; go_enter Tryz.func38, Tryz.ntmps38; go_wp2_with fail; go_ret2; exact HBAD.out _ _ rfl HB0.out HN.out
 have d2 : decide ((40 : Int) < (name.size : Int)) = false := by simp; omega
 by_cases e3 : 60 < secret.size
 . have d3 : decide ((60 : Int) < (secret.size : Int)) = true := by simp; omega
   have HN := H_ (show ¬ TunOk name secret id wd q rt wt hl from fun h => by have := h.2.1; omega); clear e1 e2 e3 hb0; go_enter Tryz.func38, Tryz.ntmps38; go_wp2_with fail; go_ret2; exact HBAD.out _ _ rfl HB0.out HN.out
 have d3 : decide ((60 : Int) < (secret.size : Int)) = false := by simp; omega
 by_cases e4 : id < 1
 . have d4 : decide (id < 1) = true := by simp; omega
   have HN := H_ (show ¬ TunOk name secret id wd q rt wt hl from fun h => by have := h.2.2.1.1; omega); clear e1 e2 e3 e4 hb0; go_enter Tryz.func38, Tryz.ntmps38; go_wp2_with fail; go_ret2; exact HBAD.out _ _ rfl HB0.out HN.out
 have d4 : decide (id < 1) = false := by simp; omega
 by_cases e5 : 65535 < id
 . have d5 : decide (65535 < id) = true := by simp; omega
   have HN := H_ (show ¬ TunOk name secret id wd q rt wt hl from fun h => by have := h.2.2.1.2; omega); clear e1 e2 e3 e4 e5 hb0; go_enter Tryz.func38, Tryz.ntmps38; go_wp2_with fail; go_ret2; exact HBAD.out _ _ rfl HB0.out HN.out
 have d5 : decide (65535 < id) = false := by simp; omega
 by_cases e6 : hl < 1
 . have d6 : decide (hl < 1) = true := by simp; omega
   have HN := H_ (show ¬ TunOk name secret id wd q rt wt hl from fun h => by have := h.2.2.2.1.1; omega); clear e1 e2 e3 e4 e5 e6 hb0; go_enter Tryz.func38, Tryz.ntmps38; go_wp2_with fail; go_ret2; exact HBAD.out _ _ rfl HB0.out HN.out
 have d6 : decide (hl < 1) = false := by simp; omega
 by_cases e7 : 1000 < hl
 . have d7 : decide (1000 < hl) = true := by simp; omega
   have HN := H_ (show ¬ TunOk name secret id wd q rt wt hl from fun h => by have := h.2.2.2.1.2; omega); clear e1 e2 e3 e4 e5 e6 e7 hb0; go_enter Tryz.func38, Tryz.ntmps38; go_wp2_with fail; go_ret2; exact HBAD.out _ _ rfl HB0.out HN.out
 have d7 : decide (1000 < hl) = false := by simp; omega
 have HA := H_ (fun w => sclone_any name w (by omega)); have HS := H_ (fun w => sclone_any secret w (by omega)); clear e1 e2 e3 e4 e5 e6 e7; obtain ⟨W, hW⟩ : ∃ W, W = (w.alloc (.cells #[.string name, .string secret, .int .i64 id, .int .i64 wd, .int .i64 q, .int .i64 rt, .int .i64 wt, .int .i64 hl] 114 (0, 0))).alloc (.cells #[.string name, .string secret, .int .i64 id, .int .i64 wd, .int .i64 q, .int .i64 rt, .int .i64 wt, .int .i64 hl, .pointer (some ⟨tb, 0, none⟩), .pointer none, .int .i64 0, .int .i64 0, .string ⟨#[]⟩, .int .u64 0, .string ⟨#[]⟩, .string ⟨#[]⟩, .bool false, .int .i64 0, .int .i64 0, .bool false] 131 (0, 0)) := ⟨_, rfl⟩; have hb1 : Below w.heap.size w W := by rw [hW]; exact hb0.alloc hb0.size _
 have x0 : W.heap[w.heap.size]? = some (.cells #[.string name, .string secret, .int .i64 id, .int .i64 wd, .int .i64 q, .int .i64 rt, .int .i64 wt, .int .i64 hl] 114 (0, 0)) := by rw [hW]; exact at20 _ _ _
 have x1 : W.heap[w.heap.size + 1]? = some (.cells #[.string name, .string secret, .int .i64 id, .int .i64 wd, .int .i64 q, .int .i64 rt, .int .i64 wt, .int .i64 hl, .pointer (some ⟨tb, 0, none⟩), .pointer none, .int .i64 0, .int .i64 0, .string ⟨#[]⟩, .int .u64 0, .string ⟨#[]⟩, .string ⟨#[]⟩, .bool false, .int .i64 0, .int .i64 0, .bool false] 131 (0, 0)) := by rw [hW]; exact at21 _ _ _
 have hsz : W.heap.size = w.heap.size + 1 + 1 := by rw [hW, alloc1, alloc1]
 have HX := H_ (A_ hb1 (A_ x0 (A_ x1 hsz)))
 have HSA : Hid (∀ Y, Below W.heap.size W Y -> (fun Y : World => Y.cell? ⟨w.heap.size, 0, none⟩ = some (.string name) /\ Y.cell? ⟨w.heap.size, 1, none⟩ = some (.string secret)) Y) := H_ fun Y hY => by
  have y := (hY.block w.heap.size (by rw [HX.out.2.2.2]; omega)).trans HX.out.2.1; exact ⟨cellOf y 0 _ rfl, cellOf y 1 _ rfl⟩
 clear hb0 hb1 x0 x1 hsz; go_enter Tryz.func38, Tryz.ntmps38
 go_upto_region 6 with (fail)
 rw [<- hW]; clear hW; have HSv := HSA.out _ (Below.refl W.heap.size W).drew; have HAd := H_ (HA.out W.drew); refine wp_region_H (rgH 0 16) (fun Y : World => Y.cell? ⟨w.heap.size, 0, none⟩ = some (.string name) /\ Y.cell? ⟨w.heap.size, 1, none⟩ = some (.string secret)) (by kernel_rfl) ?_; refine hatH 0 rfl (by rintro W ⟨g0, g1⟩; go_simp; try rfl) HSv ?_; simp only [aZ, aC, aD]; refine hatH 1 rfl (by rintro W ⟨g0, g1⟩; go_simp; try rfl) HSv ?_; simp only [aZ, aC, aD]; refine hatH 2 rfl (by rintro W ⟨g0, g1⟩; go_simp; try rfl) HSv ?_; simp only [aZ, aC, aD]; refine hatH 3 rfl (by rintro W ⟨g0, g1⟩; go_simp; try rfl) HSv ?_; simp only [aZ, aC, aD]; refine hatH 5 rfl (by rintro W ⟨g0, g1⟩; go_simp; try rfl) HSv ?_; simp only [aZ, aC, aD]; refine hatH 6 rfl (by rintro W ⟨g0, g1⟩; go_simp; try rfl) HSv ?_; simp only [aZ, aC, aD]; refine hone 4 rfl fun K hK => ?_
 try go_simp
 go_at_call 35; refine HAd.out.mono ?_; rintro e w1 ⟨rfl, b1⟩; have hb1 : Below W.heap.size W w1 := Below.trans (Below.refl W.heap.size W).drew b1; have HSv := HSA.out _ hb1; have HB1 := H_ hb1; clear b1 hb1; refine hK _ _ (fun _ => HSv) ?_
 try simp only [aZ, aA, aE, aB, aC, aD]
 refine hone 7 rfl fun K hK => ?_
 try go_simp
 go_at_call 35; refine (HS.out w1).mono ?_; rintro e w2 ⟨rfl, b2⟩; have hb2 : Below W.heap.size W w2 := HB1.out.trans (b2.mono HB1.out.size); have HSv := HSA.out _ hb2; have HB2 := H_ hb2; have y2 := (hb2.block (w.heap.size + 1) (by rw [HX.out.2.2.2]; omega)).trans HX.out.2.2.1; have u0 := cellOf y2 0 _ rfl; have fz := fun o => fzOf y2 o; have HY2 := H_ y2; clear b2 hb2 y2; refine hK _ _ (fun _ => HSv) ?_
 try simp only [aZ, aA, aE, aB, aC, aD]
 refine hatH 8 rfl (by rintro W ⟨g0, g1⟩; go_simp; try rfl) HSv ?_; simp only [aZ, aC, aD]; refine hatH 9 rfl (by rintro W ⟨g0, g1⟩; go_simp; try rfl) HSv ?_; simp only [aZ, aC, aD]; refine hatH 10 rfl (by rintro W ⟨g0, g1⟩; go_simp; try rfl) HSv ?_; simp only [aZ, aC, aD]; have k3 : Keep (fun b => b = w.heap.size + 1) w2 (w2.setCell ⟨w.heap.size + 1, 0, none⟩ (.string name)) := (Keep.refl (fun b => b = w.heap.size + 1) w2).setCell ⟨w.heap.size + 1, 0, none⟩ (Or.inr rfl) (.string name); have y3 := set_block HY2.out 0 (.string name)
 have HSv3 : (fun Y : World => Y.cell? ⟨w.heap.size, 0, none⟩ = some (.string name) /\ Y.cell? ⟨w.heap.size, 1, none⟩ = some (.string secret)) (w2.setCell ⟨w.heap.size + 1, 0, none⟩ (.string name)) := by
  have y := (k3.block w.heap.size (by have := HB2.out.size; rw [HX.out.2.2.2] at this; omega) (by omega)).trans ((HB2.out.block w.heap.size (by rw [HX.out.2.2.2]; omega)).trans HX.out.2.1); exact ⟨cellOf y 0 _ rfl, cellOf y 1 _ rfl⟩
 have HK3 := H_ (A_ k3 y3); clear HSv k3 y3; refine hone 11 rfl fun K hK => ?_
 try go_simp
 refine hK _ _ (fun _ => HSv3) ?_
 try simp only [aZ, aA, aE, aB, aC, aD]
 clear u0 fz; have hx3 := HK3.out.2; simp only [List.setIfInBounds_toArray, List.set_cons_zero] at hx3; generalize w2.setCell ⟨w.heap.size + 1, 0, none⟩ (.string name) = w3 at *; have u1 := cellOf hx3 1 _ rfl; have fz := fun o => fzOf hx3 o; refine hatH 12 rfl (by rintro W ⟨g0, g1⟩; go_simp; try rfl) HSv3 ?_; simp only [aZ, aC, aD]; refine hatH 13 rfl (by rintro W ⟨g0, g1⟩; go_simp; try rfl) HSv3 ?_; simp only [aZ, aC, aD]; refine hatH 14 rfl (by rintro W ⟨g0, g1⟩; go_simp; try rfl) HSv3 ?_; simp only [aZ, aC, aD]; have k4 : Keep (fun b => b = w.heap.size + 1) w3 (w3.setCell ⟨w.heap.size + 1, 1, none⟩ (.string secret)) := (Keep.refl (fun b => b = w.heap.size + 1) w3).setCell ⟨w.heap.size + 1, 1, none⟩ (Or.inr rfl) (.string secret); have y4 := set_block hx3 1 (.string secret); simp only [List.setIfInBounds_toArray, List.set_cons_zero, List.set_cons_succ] at y4
 have HSv4 : (fun Y : World => Y.cell? ⟨w.heap.size, 0, none⟩ = some (.string name) /\ Y.cell? ⟨w.heap.size, 1, none⟩ = some (.string secret)) (w3.setCell ⟨w.heap.size + 1, 1, none⟩ (.string secret)) := by
  have y := (k4.block w.heap.size (by have := HB2.out.size; have := HK3.out.1.size; rw [HX.out.2.2.2] at *; omega) (by omega)).trans ((HK3.out.1.block w.heap.size (by have := HB2.out.size; rw [HX.out.2.2.2] at this; omega) (by omega)).trans ((HB2.out.block w.heap.size (by rw [HX.out.2.2.2]; omega)).trans HX.out.2.1)); exact ⟨cellOf y 0 _ rfl, cellOf y 1 _ rfl⟩
 have HK4 := H_ (A_ k4 y4); clear HSv3 k4 y4; refine hone 15 rfl fun K hK => ?_
 try go_simp
 refine hK _ _ (fun _ => HSv4) ?_
 try simp only [aZ, aA, aE, aB, aC, aD]
 refine hend 16 ?_; simp only [aF, aG]; clear HSv4 u1 fz hx3; generalize w3.setCell ⟨w.heap.size + 1, 1, none⟩ (.string secret) = w4 at *; have HTA := H_ (tanew_any name secret id wd q rt wt hl tb (w.heap.size + 1) w4 HK4.out.2); have HBB : Hid (Below w.heap.size w w4) := H_ ((HX.out.1.trans (HB2.out.mono HX.out.1.size)).trans ((HK3.out.1.trans HK4.out.1).below (Nat.le_trans HX.out.1.size HB2.out.size) (fun g hg he => by have he : g = w.heap.size + 1 := he; omega))); go_wp2_with fail; refine HTA.out.mono ?_; rintro e w5 ⟨x, rfl, hk, hx⟩; have HF := H_ (A_ (HBB.out.trans (hk.below HBB.out.size (fun g hg he => by have he : g = w.heap.size + 1 := he; omega))) hx); clear hk hx
 by_cases hx0 : x = 0
 . subst hx0; go_wp2_with fail; go_ret2; exact ⟨_, _, rfl, HF.out.1, fun _ => rfl⟩
 . have q2 : (x != 0) = true := by simpa using hx0
   have q3 : (x == 0) = false := by simpa using hx0
   clear hx0; go_wp2_with fail; go_ret2; exact ⟨_, _, rfl, HF.out.1, fun h => HF.out.2 ⟨h.2.2.2.2.1, h.2.2.2.2.2.1, h.2.2.2.2.2.2.1, h.2.2.2.2.2.2.2⟩⟩
end Go.Proofs.YtoblffnlopmebaaGreat
