import Derived.Test.YtoblffnlopmebaaGreatQAA
import Derived.Test.YtoblffnlopmebaaGreatQAO
set_option linter.unusedVariables false
set_option linter.unusedSimpArgs false
set_option maxHeartbeats 16000000
namespace Go.Proofs.YtoblffnlopmebaaGreat
open Go.RowKit Go.Tg Go.Maps
def Made (w w' : World) (ok : Prop) (e : Ending) : Prop := ∃ (p : Option Addr) (x : Int), e = .returned (.tuple #[.pointer p, .int .i64 x]) /\ Below w.heap.size w w' /\ (ok -> x = 0)
set_option maxRecDepth 100000 in
theorem servNew_any (name : ByteArray) (retry wait : Int) (w : World) : Calls Tryz.prog 18 #[.string name, .int .i64 retry, .int .i64 wait] w fun e w' => Made w w' (name.size <= 60 /\ 0 <= retry /\ retry <= 10 /\ 1 <= wait /\ wait <= 100) e := by
 by_cases h0 : 60 < name.size
 . have d0 : decide ((60 : Int) < (name.size : Int)) = true := by simp; omega
   have HN := H_ (show ¬ (name.size <= 60 /\ 0 <= retry /\ retry <= 10 /\ 1 <= wait /\ wait <= 100) by omega); clear h0; go_enter Tryz.func18, Tryz.ntmps18; go_wp2_with fail; go_ret2; exact ⟨_, _, rfl, Below.refl _ _, fun h => absurd h HN.out⟩
 have d0 : decide ((60 : Int) < (name.size : Int)) = false := by simp; omega
 by_cases h1 : retry < 0
 . have d1 : decide (retry < 0) = true := by simpa using h1
   have HN := H_ (show ¬ (name.size <= 60 /\ 0 <= retry /\ retry <= 10 /\ 1 <= wait /\ wait <= 100) by omega); clear h0 h1; go_enter Tryz.func18, Tryz.ntmps18; go_wp2_with fail; go_ret2; exact ⟨_, _, rfl, Below.refl _ _, fun h => absurd h HN.out⟩
 have d1 : decide (retry < 0) = false := by simpa using h1
 by_cases h2 : 10 < retry
 . have d2 : decide (10 < retry) = true := by simpa using h2
   have HN := H_ (show ¬ (name.size <= 60 /\ 0 <= retry /\ retry <= 10 /\ 1 <= wait /\ wait <= 100) by omega); clear h0 h1 h2; go_enter Tryz.func18, Tryz.ntmps18; go_wp2_with fail; go_ret2; exact ⟨_, _, rfl, Below.refl _ _, fun h => absurd h HN.out⟩
 have d2 : decide (10 < retry) = false := by simpa using h2
 by_cases h3 : wait < 1
 . have d3 : decide (wait < 1) = true := by simpa using h3
   have HN := H_ (show ¬ (name.size <= 60 /\ 0 <= retry /\ retry <= 10 /\ 1 <= wait /\ wait <= 100) by omega); clear h0 h1 h2 h3; go_enter Tryz.func18, Tryz.ntmps18; go_wp2_with fail; go_ret2; exact ⟨_, _, rfl, Below.refl _ _, fun h => absurd h HN.out⟩
 have d3 : decide (wait < 1) = false := by simpa using h3
 by_cases h4 : 100 < wait
 . have d4 : decide (100 < wait) = true := by simpa using h4
   have HN := H_ (show ¬ (name.size <= 60 /\ 0 <= retry /\ retry <= 10 /\ 1 <= wait /\ wait <= 100) by omega); clear h0 h1 h2 h3 h4; go_enter Tryz.func18, Tryz.ntmps18; go_wp2_with fail; go_ret2; exact ⟨_, _, rfl, Below.refl _ _, fun h => absurd h HN.out⟩
 have d4 : decide (100 < wait) = false := by simpa using h4
 have HC := H_ (sclone_any name w (by omega)); clear h0 h1 h2 h3 h4; go_enter Tryz.func18, Tryz.ntmps18; go_wp2_with fail; refine HC.out.mono ?_; rintro e w1 ⟨rfl, b1⟩; have HB := H_ b1; clear b1; go_wp2_with fail; go_ret2; exact ⟨_, _, rfl, HB.out.alloc HB.out.size _, fun _ => rfl⟩
theorem cin_any (n a b : Int) (w : World) : Calls Tryz.prog 184 #[.int .i64 n, .int .i64 a, .int .i64 b] w fun e w' => e = .returned (.bool (decide (a <= n) && decide (n <= b))) /\ w = w' := by
 by_cases h1 : a <= n
 . have d1 : decide (a <= n) = true := by simpa using h1
   have d1' : decide (n >= a) = true := by simpa using h1
   have H := H_ d1; clear h1; go_enter Tryz.func184, Tryz.ntmps184; go_wp2_with fail; go_ret; exact ⟨by rw [H.out]; rfl, rfl⟩
 . have d1 : decide (a <= n) = false := by simpa using h1
   have d1' : decide (n >= a) = false := by simpa using h1
   have H := H_ d1; clear h1; go_enter Tryz.func184, Tryz.ntmps184; go_wp2_with fail; go_ret; exact ⟨by rw [H.out]; rfl, rfl⟩
set_option maxRecDepth 100000 in
theorem ctlNew_any (wd q rt wt f : Int) (w : World) : Calls Tryz.prog 126 #[.int .i64 wd, .int .i64 q, .int .i64 rt, .int .i64 wt, .int .i64 f] w fun e w' => Made w w' ((1 <= wd /\ wd <= 64) /\ (1 <= q /\ q <= 40) /\ (0 <= rt /\ rt <= 10) /\ (1 <= wt /\ wt <= 100) /\ (0 <= f /\ f <= 65535)) e := by
 have H1 := fun W => cin_any wd 1 64 W; have H2 := fun W => cin_any q 1 40 W; have H3 := fun W => cin_any rt 0 10 W; have H4 := fun W => cin_any wt 1 100 W; have H5 := fun W => cin_any f 0 65535 W
 have HN : Hid ((1 <= wd /\ wd <= 64) /\ (1 <= q /\ q <= 40) /\ (0 <= rt /\ rt <= 10) /\ (1 <= wt /\ wt <= 100) /\ (0 <= f /\ f <= 65535) -> (decide (1 <= wd) && decide (wd <= 64)) = true /\ (decide (1 <= q) && decide (q <= 40)) = true /\ (decide (0 <= rt) && decide (rt <= 10)) = true /\ (decide (1 <= wt) && decide (wt <= 100)) = true /\ (decide (0 <= f) && decide (f <= 65535)) = true) := H_ fun h => by
  obtain ⟨⟨a1, a2⟩, ⟨b1, b2⟩, ⟨c1, c2⟩, ⟨d1, d2⟩, e1, e2⟩ := h; simp [a1, a2, b1, b2, c1, c2, d1, d2, e1, e2]
 generalize (decide (1 <= wd) && decide (wd <= 64)) = x1 at *; generalize (decide (1 <= q) && decide (q <= 40)) = x2 at *; generalize (decide (0 <= rt) && decide (rt <= 10)) = x3 at *; generalize (decide (1 <= wt) && decide (wt <= 100)) = x4 at *; generalize (decide (0 <= f) && decide (f <= 65535)) = x5 at *; have HL := H_ (A_ H1 (A_ H2 (A_ H3 (A_ H4 H5)))); clear H1 H2 H3 H4 H5
 have bad : ∀ (v : Value) (x : Int), v = .pointer none -> x = 1 -> ¬ (x1 = true /\ x2 = true /\ x3 = true /\ x4 = true /\ x5 = true) -> Made w w ((1 <= wd /\ wd <= 64) /\ (1 <= q /\ q <= 40) /\ (0 <= rt /\ rt <= 10) /\ (1 <= wt /\ wt <= 100) /\ (0 <= f /\ f <= 65535)) (.returned (.tuple #[v, .int .i64 x])) := by
  rintro v x rfl rfl hn; exact ⟨_, _, rfl, Below.refl _ _, fun h => absurd (HN.out h) hn⟩
 have HBAD := H_ bad; clear bad; cases x1
 . go_enter Tryz.func126, Tryz.ntmps126
   go_wp2_with (
    go_at_call 184; first | with_reducible refine (HL.out.1 _).mono ?_ | with_reducible refine (HL.out.2.1 _).mono ?_ | with_reducible refine (HL.out.2.2.1 _).mono ?_ | with_reducible refine (HL.out.2.2.2.1 _).mono ?_ | with_reducible refine (HL.out.2.2.2.2 _).mono ?_
    rintro e w1 ⟨rfl, rfl⟩)
   go_ret2; exact HBAD.out _ _ rfl rfl (by simp)
 cases x2
 . go_enter Tryz.func126, Tryz.ntmps126
   go_wp2_with (
    go_at_call 184; first | with_reducible refine (HL.out.1 _).mono ?_ | with_reducible refine (HL.out.2.1 _).mono ?_ | with_reducible refine (HL.out.2.2.1 _).mono ?_ | with_reducible refine (HL.out.2.2.2.1 _).mono ?_ | with_reducible refine (HL.out.2.2.2.2 _).mono ?_
    rintro e w1 ⟨rfl, rfl⟩)
   go_ret2; exact HBAD.out _ _ rfl rfl (by simp)
 cases x3
 . go_enter Tryz.func126, Tryz.ntmps126
   go_wp2_with (
    go_at_call 184; first | with_reducible refine (HL.out.1 _).mono ?_ | with_reducible refine (HL.out.2.1 _).mono ?_ | with_reducible refine (HL.out.2.2.1 _).mono ?_ | with_reducible refine (HL.out.2.2.2.1 _).mono ?_ | with_reducible refine (HL.out.2.2.2.2 _).mono ?_
    rintro e w1 ⟨rfl, rfl⟩)
   go_ret2; exact HBAD.out _ _ rfl rfl (by simp)
 cases x4
 . go_enter Tryz.func126, Tryz.ntmps126
   go_wp2_with (
    go_at_call 184; first | with_reducible refine (HL.out.1 _).mono ?_ | with_reducible refine (HL.out.2.1 _).mono ?_ | with_reducible refine (HL.out.2.2.1 _).mono ?_ | with_reducible refine (HL.out.2.2.2.1 _).mono ?_ | with_reducible refine (HL.out.2.2.2.2 _).mono ?_
    rintro e w1 ⟨rfl, rfl⟩)
   go_ret2; exact HBAD.out _ _ rfl rfl (by simp)
 cases x5
 . go_enter Tryz.func126, Tryz.ntmps126
   go_wp2_with (
    go_at_call 184; first | with_reducible refine (HL.out.1 _).mono ?_ | with_reducible refine (HL.out.2.1 _).mono ?_ | with_reducible refine (HL.out.2.2.1 _).mono ?_ | with_reducible refine (HL.out.2.2.2.1 _).mono ?_ | with_reducible refine (HL.out.2.2.2.2 _).mono ?_
    rintro e w1 ⟨rfl, rfl⟩)
   go_ret2; exact HBAD.out _ _ rfl rfl (by simp)
 go_enter Tryz.func126, Tryz.ntmps126
 go_wp2_with (
  go_at_call 184; first | with_reducible refine (HL.out.1 _).mono ?_ | with_reducible refine (HL.out.2.1 _).mono ?_ | with_reducible refine (HL.out.2.2.1 _).mono ?_ | with_reducible refine (HL.out.2.2.2.1 _).mono ?_ | with_reducible refine (HL.out.2.2.2.2 _).mono ?_
  rintro e w1 ⟨rfl, rfl⟩)
 go_ret2; exact ⟨_, _, rfl, (Below.refl _ _).alloc (Nat.le_refl _) _, fun _ => rfl⟩
def TunOk (name secret : ByteArray) (id wd q rt wt hl : Int) : Prop := (name.size ≠ 0 /\ name.size <= 40) /\ secret.size <= 60 /\ (1 <= id /\ id <= 65535) /\ (1 <= hl /\ hl <= 1000) /\ (1 <= wd /\ wd <= 64) /\ (1 <= q /\ q <= 40) /\ (0 <= rt /\ rt <= 10) /\ (1 <= wt /\ wt <= 100)
set_option maxRecDepth 100000 in
theorem tanew_any (name secret : ByteArray) (id wd q rt wt hl : Int) (tb g : Nat) (w : World) (h : w.heap[g]? = some (.cells #[.string name, .string secret, .int .i64 id, .int .i64 wd, .int .i64 q, .int .i64 rt, .int .i64 wt, .int .i64 hl, .pointer (some ⟨tb, 0, none⟩), .pointer none, .int .i64 0, .int .i64 0, .string ⟨#[]⟩, .int .u64 0, .string ⟨#[]⟩, .string ⟨#[]⟩, .bool false, .int .i64 0, .int .i64 0, .bool false] 131 (0, 0))) :
 Calls Tryz.prog 75 #[.pointer (some ⟨g, 0, none⟩)] w fun e w' => ∃ x, e = .returned (.int .i64 x) /\ Keep (fun b => b = g) w w' /\ ((1 <= wd /\ wd <= 64) /\ (1 <= q /\ q <= 40) /\ (0 <= rt /\ rt <= 10) /\ (1 <= wt /\ wt <= 100) -> x = 0) := by
 have f3 := cellOf h 3 _ rfl; have f4 := cellOf h 4 _ rfl; have f5 := cellOf h 5 _ rfl; have f6 := cellOf h 6 _ rfl; have HC := H_ (A_ h (fun W => ctlNew_any wd q rt wt 0 W)); clear h
 have HSA : Hid (∀ Y, Below w.heap.size w Y -> (fun Y : World => Y.cell? ⟨g, 3, none⟩ = some (.int .i64 wd) /\ Y.cell? ⟨g, 4, none⟩ = some (.int .i64 q) /\ Y.cell? ⟨g, 5, none⟩ = some (.int .i64 rt) /\ Y.cell? ⟨g, 6, none⟩ = some (.int .i64 wt)) Y) := H_ fun Y hY => by
  have y := (hY.block g (Array.getElem?_eq_some_iff.1 HC.out.1).1).trans HC.out.1; exact ⟨cellOf y 3 _ rfl, cellOf y 4 _ rfl, cellOf y 5 _ rfl, cellOf y 6 _ rfl⟩
 have HSv := HSA.out _ (Below.refl w.heap.size w).drew; clear f3 f4 f5 f6; go_enter Tryz.func75, Tryz.ntmps75; go_wp2_with fail; refine wp_region_H (rgH 0 26) (fun Y : World => Y.cell? ⟨g, 3, none⟩ = some (.int .i64 wd) /\ Y.cell? ⟨g, 4, none⟩ = some (.int .i64 q) /\ Y.cell? ⟨g, 5, none⟩ = some (.int .i64 rt) /\ Y.cell? ⟨g, 6, none⟩ = some (.int .i64 wt)) (by kernel_rfl) ?_; refine hatH 0 rfl (by rintro W ⟨g3, g4, g5, g6⟩; go_simp; try rfl) HSv ?_; simp only [aZ, aC, aD]; refine hatH 1 rfl (by rintro W ⟨g3, g4, g5, g6⟩; go_simp; try rfl) HSv ?_; simp only [aZ, aC, aD]; refine hatH 2 rfl (by rintro W ⟨g3, g4, g5, g6⟩; go_simp; try rfl) HSv ?_; simp only [aZ, aC, aD]; refine hatH 3 rfl (by rintro W ⟨g3, g4, g5, g6⟩; go_simp; try rfl) HSv ?_; simp only [aZ, aC, aD]; refine hatH 4 rfl (by rintro W ⟨g3, g4, g5, g6⟩; go_simp; try rfl) HSv ?_; simp only [aZ, aC, aD]; refine hatH 5 rfl (by rintro W ⟨g3, g4, g5, g6⟩; go_simp; try rfl) HSv ?_; simp only [aZ, aC, aD]; refine hatH 6 rfl (by rintro W ⟨g3, g4, g5, g6⟩; go_simp; try rfl) HSv ?_; simp only [aZ, aC, aD]; refine hatH 7 rfl (by rintro W ⟨g3, g4, g5, g6⟩; go_simp; try rfl) HSv ?_; simp only [aZ, aC, aD]; refine hatH 8 rfl (by rintro W ⟨g3, g4, g5, g6⟩; go_simp; try rfl) HSv ?_; simp only [aZ, aC, aD]; refine hatH 9 rfl (by rintro W ⟨g3, g4, g5, g6⟩; go_simp; try rfl) HSv ?_; simp only [aZ, aC, aD]; refine hatH 10 rfl (by rintro W ⟨g3, g4, g5, g6⟩; go_simp; try rfl) HSv ?_; simp only [aZ, aC, aD]; refine hatH 11 rfl (by rintro W ⟨g3, g4, g5, g6⟩; go_simp; try rfl) HSv ?_; simp only [aZ, aC, aD]; refine hatH 12 rfl (by rintro W ⟨g3, g4, g5, g6⟩; go_simp; try rfl) HSv ?_; simp only [aZ, aC, aD]; refine hatH 13 rfl (by rintro W ⟨g3, g4, g5, g6⟩; go_simp; try rfl) HSv ?_; simp only [aZ, aC, aD]; refine hatH 14 rfl (by rintro W ⟨g3, g4, g5, g6⟩; go_simp; try rfl) HSv ?_; simp only [aZ, aC, aD]; refine hatH 15 rfl (by rintro W ⟨g3, g4, g5, g6⟩; go_simp; try rfl) HSv ?_; simp only [aZ, aC, aD]; refine hatH 16 rfl (by rintro W ⟨g3, g4, g5, g6⟩; go_simp; try rfl) HSv ?_; simp only [aZ, aC, aD]; refine hatH 17 rfl (by rintro W ⟨g3, g4, g5, g6⟩; go_simp; try rfl) HSv ?_; simp only [aZ, aC, aD]; refine hatH 18 rfl (by rintro W ⟨g3, g4, g5, g6⟩; go_simp; try rfl) HSv ?_; simp only [aZ, aC, aD]; refine hatH 19 rfl (by rintro W ⟨g3, g4, g5, g6⟩; go_simp; try rfl) HSv ?_; simp only [aZ, aC, aD]; refine hone 20 rfl fun K hK => ?_
 try go_simp
 go_at_call 126; refine (HC.out.2 _).mono ?_; rintro e w1 ⟨p, x, rfl, hb', hx⟩; have hb : Below w.heap.size w w1 := Below.trans (Below.refl w.heap.size w).drew hb'; have HSv := HSA.out _ hb; refine hK _ _ (fun _ => HSv) ?_
 try simp only [aZ, aA, aE, aB, aC, aD]
 refine hatH 21 rfl (by rintro W ⟨g3, g4, g5, g6⟩; go_simp; try rfl) HSv ?_; simp only [aZ, aC, aD]; refine hatH 22 rfl (by rintro W ⟨g3, g4, g5, g6⟩; go_simp; try rfl) HSv ?_; simp only [aZ, aC, aD]; refine hatH 23 rfl (by rintro W ⟨g3, g4, g5, g6⟩; go_simp; try rfl) HSv ?_; simp only [aZ, aC, aD]; refine hatH 24 rfl (by rintro W ⟨g3, g4, g5, g6⟩; go_simp; try rfl) HSv ?_; simp only [aZ, aC, aD]; refine hatH 25 rfl (by rintro W ⟨g3, g4, g5, g6⟩; go_simp; try rfl) HSv ?_; simp only [aZ, aC, aD]; refine hend 26 ?_; simp only [aF, aG]; have h1 := (hb.block g (Array.getElem?_eq_some_iff.1 HC.out.1).1).trans HC.out.1; have f9 := cellOf h1 9 _ rfl; have fz := fun o => fzOf h1 o; have H1 := H_ (A_ hb hx); clear hb hb' hx h1 HSv; go_wp2_with fail; go_ret; exact ⟨x, rfl, (Keep.of_below (fun b => b = g) H1.out.1).setCell ⟨g, 9, none⟩ (Or.inr rfl) (.pointer p), by intros; exact H1.out.2 (by omega)⟩
end Go.Proofs.YtoblffnlopmebaaGreat
