import Derived.Test.YtoblffnlopmebaaGreatQAU
import Derived.Test.YtoblffnlopmebaaGreatQAX
import Derived.Deep.DeepCutAuto
import Derived.Deep.CutBlock
import Derived.Test.YtoblffnlopmebaaGreatQAS
import Derived.Test.YtoblffnlopmebaaGreatQAA
import Derived.Deep.WholeRow
import Derived.Deep.MidRow
import Derived.Test.YtoblffnlopmebaaGreatQAM
import Derived.Test.YtoblffnlopmebaaGreatQAQ
import Derived.Test.YtoblffnlopmebaaGreatQAF
import Derived.Test.YtoblffnlopmebaaGreatQAO
set_option linter.unusedVariables false
set_option linter.unusedSimpArgs false
set_option maxHeartbeats 16000000
namespace Go.Proofs.YtoblffnlopmebaaGreat
open Go.RowKit Go.Tg Go.Maps
structure LaC where
 m0 : UInt8
 m1 : UInt8
 m2 : UInt8
 m3 : UInt8
 m4 : UInt8
 m5 : UInt8
 name : ByteArray
 cookie : ByteArray
 sva : Option Addr
 svl : Nat
 svc : Nat
 most : Int
 node : Int
 auth : Int
 mru : Int
 magic : Int
 rest : Int
 cf : Int
 tm : Int
 fl : Int
 wt : Int
 rt : Int
 wd : Int
 q : Int
 hello : Int
 seq : Bool
 srva : Option Addr
 srvl : Nat
 srvc : Nat
def LaC.cells (c : LaC) : Array Value := (List.toArray (.int .u8 (c.m0.toNat : Int) :: .int .u8 (c.m1.toNat : Int) :: .int .u8 (c.m2.toNat : Int) :: .int .u8 (c.m3.toNat : Int) :: .int .u8 (c.m4.toNat : Int) :: .int .u8 (c.m5.toNat : Int) :: .string c.name :: .string c.cookie :: .slice c.sva c.svl c.svc :: .int .i64 c.most :: .int .i64 c.node :: .int .i64 c.auth :: .int .i64 c.mru :: .int .i64 c.magic :: .int .i64 c.rest :: .int .i64 c.cf :: .int .i64 c.tm :: .int .i64 c.fl :: .int .i64 c.wt :: .int .i64 c.rt :: .int .i64 c.wd :: .int .i64 c.q :: .int .i64 c.hello :: .bool c.seq :: .slice c.srva c.srvl c.srvc :: []))
def LaC.v (c : LaC) : Value := .agg (List.toArray (.int .u8 (c.m0.toNat : Int) :: .int .u8 (c.m1.toNat : Int) :: .int .u8 (c.m2.toNat : Int) :: .int .u8 (c.m3.toNat : Int) :: .int .u8 (c.m4.toNat : Int) :: .int .u8 (c.m5.toNat : Int) :: .string c.name :: .string c.cookie :: .slice c.sva c.svl c.svc :: .int .i64 c.most :: .int .i64 c.node :: .int .i64 c.auth :: .int .i64 c.mru :: .int .i64 c.magic :: .int .i64 c.rest :: .int .i64 c.cf :: .int .i64 c.tm :: .int .i64 c.fl :: .int .i64 c.wt :: .int .i64 c.rt :: .int .i64 c.wd :: .int .i64 c.q :: .int .i64 c.hello :: .bool c.seq :: .slice c.srva c.srvl c.srvc :: []))
def LaC.l (c : LaC) : LCfg := ⟨c.mru, c.auth, c.magic, 0, c.cf, c.tm, c.fl, c.wt⟩
def lCells (c : LaC) (tb : Nat) (cv sv lv : Value) (now ids gv ser : Int) (fr gr : Value) : Array Value := c.cells ++ #[.pointer (some ⟨tb, 0, none⟩), cv, sv, lv, .int .i64 now, .int .u16 ids, .int .u16 gv, .int .i64 ser, fr, gr]
theorem lcfg_cells : (Tryz.prog.info? 27).map (·.size) = some 25 := by kernel_rfl
theorem lcfg_sz (c : LaC) : c.cells.size = 25 := rfl
theorem lcfg_one (c : LaC) : c.cells.all (·.oneCell') = true := by kernel_rfl
theorem lalloc_cfg : ∃ Z : Array Value, Z.size = 25 /\ ∀ w, (Instr.alloc 27 true (.tuple #[])).run Tryz.prog w = .ok (.pointer (some ⟨w.heap.size, 0, none⟩)) (w.alloc (.cells Z 27 (0, 0))) :=
 ⟨(List.toArray (.int .u8 0 :: .int .u8 0 :: .int .u8 0 :: .int .u8 0 :: .int .u8 0 :: .int .u8 0 :: .string ⟨#[]⟩ :: .string ⟨#[]⟩ :: .slice none 0 0 :: .int .i64 0 :: .int .i64 0 :: .int .i64 0 :: .int .i64 0 :: .int .i64 0 :: .int .i64 0 :: .int .i64 0 :: .int .i64 0 :: .int .i64 0 :: .int .i64 0 :: .int .i64 0 :: .int .i64 0 :: .int .i64 0 :: .int .i64 0 :: .bool false :: .slice none 0 0 :: [])), rfl, fun w => by kernel_rfl⟩
theorem lwpl_cfgload {ops : Array Oper} {rest : List Oper} {Q : Exit -> Act -> World -> Prop} {a : Act} {w : World} {o : Oper} (hgd : o.guard = none) (x : Operand) (ho : o.op = .load 27 x) (b : Nat) (hx : a.eval x = .pointer (some ⟨b, 0, none⟩)) (c : LaC) (hc : w.rangeAt b 0 c.cells.toList)
 (h : wpList Tryz.prog ops Q rest (a.put o.dst (.agg c.cells)) w) : wpList Tryz.prog ops Q (o :: rest) a w := by
 refine wpList_load_mid hgd 27 x ho b 0 hx c.cells.toList _ hc Tryz.underlying27 rfl (by rw [lcfg_cells, Array.length_toList, lcfg_sz]) ?_; rw [Array.toArray_toList]; exact h
theorem lwpl_cfgalloc {ops : Array Oper} {rest : List Oper} {Q : Exit -> Act -> World -> Prop} {a : Act} {w : World} (c : LaC) {d : Tmp} {y : Operand} {t1 t2 : TypeId} {p1 p2 : String} {f1 f2 : Array Edge}
 (hd : (a.put (some d) (.pointer (some ⟨w.heap.size, 0, none⟩))).eval (.tmp d) = .pointer (some ⟨w.heap.size, 0, none⟩))
 (hy : (a.put (some d) (.pointer (some ⟨w.heap.size, 0, none⟩))).eval y = .agg c.cells)
 (h : wpList Tryz.prog ops Q rest (a.put (some d) (.pointer (some ⟨w.heap.size, 0, none⟩))) (w.alloc (.cells c.cells 27 (0, 0)))) :
 wpList Tryz.prog ops Q ({ dst := some d, op := .alloc 27, type := t1, pos := p1, after := f1, guard := none } :: { dst := none, op := .store 27 (.tmp d) y, type := t2, pos := p2, after := f2, guard := none } :: rest) a w := by
 obtain ⟨Z, hz, hal⟩ := lalloc_cfg; refine Go.Tg.step_val (v := .pointer (some ⟨w.heap.size, 0, none⟩)) (w' := w.alloc (.cells Z 27 (0, 0))) rfl ?_ ?_
 . simp only [execOp, hal, Sem.run_bind, Result.andThen_ok, Sem.run_pure]
 . refine Go.Tg.step_skip (w' := w.alloc (.cells c.cells 27 (0, 0))) rfl ?_ h; simp only [execOp, hd, hy, Sem.run_bind, run_storeAt_new (P := Tryz.prog) w 27 Z c.cells (by rw [lcfg_cells, lcfg_sz]) (by rw [hz, lcfg_sz]) (lcfg_one c), Result.andThen_ok, Sem.run_pure]
theorem lRange {c : LaC} {lb tb : Nat} {cv sv lv : Value} {now ids gv ser : Int} {fr gr : Value} {w : World} (h : w.heap[lb]? = some (.cells (lCells c tb cv sv lv now ids gv ser fr gr) 57 (0, 0))) : w.rangeAt lb 0 c.cells.toList := fun j v hv => by
 rw [cell_of_row w lb (0 + j) _ _ _ h, Nat.zero_add]; unfold lCells; have hj : j < c.cells.size := by rw [Array.getElem?_toList] at hv; exact (Array.getElem?_eq_some_iff.1 hv).1
 rw [Array.getElem?_append_left hj, <- Array.getElem?_toList]; exact hv
section
variable {c : LaC} {lb tb : Nat} {cv sv lv : Value} {now ids gv ser : Int} {fr gr : Value} {w : World} {okt : Nat -> Prop} {t : TpS}
set_option maxRecDepth 100000 in
theorem llink_any (h : w.heap[lb]? = some (.cells (lCells c tb cv sv lv now ids gv ser fr gr) 57 (0, 0))) (HT : Hid (TapeAt w tb okt t /\ ∀ b, okt b -> b < w.heap.size)) (HI : Hid (I64 c.auth)) :
 Calls Tryz.prog 17 #[.pointer (some ⟨lb, 0, none⟩)] w fun e w' => ∃ p x, e = .returned (.tuple #[.pointer p, .int .i64 x]) /\ Below w.heap.size w w' /\ (x = 0 ↔ c.l.Ok) := by
 have f25 := cellOf h 25 (.pointer (some ⟨tb, 0, none⟩)) rfl; have hlt := (Array.getElem?_eq_some_iff.1 h).1; have hb1 := (Below.refl w.heap.size w).alloc (Nat.le_refl _) (.cells c.cells 27 (0, 0)); have hx := at1 w (.cells c.cells 27 (0, 0)); have hl := (hb1.block lb hlt).trans h; have HX := H_ (A_ hb1 (A_ hx (A_ hl (alloc1 w (.cells c.cells 27 (0, 0)))))); have HRG := H_ (lRange h); clear h hb1 hx hl; go_enter Tryz.func17, Tryz.ntmps17
 go_upto_region 2 with (first | (refine lwpl_cfgload rfl _ rfl lb (by rfl) c HRG.out ?_) | (refine lwpl_cfgalloc c (by rfl) (by rfl) ?_))
 obtain ⟨W, hW⟩ : ∃ W, W = w.alloc (.cells c.cells 27 (0, 0)) := ⟨_, rfl⟩; rw [<- hW] at HX ⊢; clear hW HRG
 have HSA : Hid (∀ Y, Below W.heap.size W Y -> (fun Y : World => (Y.cell? ⟨w.heap.size, 11, none⟩ = some (.int .i64 c.auth) /\ Y.cell? ⟨w.heap.size, 12, none⟩ = some (.int .i64 c.mru) /\ Y.cell? ⟨w.heap.size, 13, none⟩ = some (.int .i64 c.magic) /\ Y.cell? ⟨w.heap.size, 15, none⟩ = some (.int .i64 c.cf) /\ Y.cell? ⟨w.heap.size, 16, none⟩ = some (.int .i64 c.tm) /\ Y.cell? ⟨w.heap.size, 17, none⟩ = some (.int .i64 c.fl) /\ Y.cell? ⟨w.heap.size, 18, none⟩ = some (.int .i64 c.wt)) /\ Y.cell? ⟨lb, 25, none⟩ = some (.pointer (some ⟨tb, 0, none⟩))) Y) := H_ fun Y hY => by
  have y := (hY.block w.heap.size (by rw [HX.out.2.2.2]; omega)).trans HX.out.2.1; have z := (hY.block lb (by rw [HX.out.2.2.2]; omega)).trans HX.out.2.2.1; exact ⟨⟨cellOf y 11 _ rfl, cellOf y 12 _ rfl, cellOf y 13 _ rfl, cellOf y 15 _ rfl, cellOf y 16 _ rfl, cellOf y 17 _ rfl, cellOf y 18 _ rfl⟩, cellOf z 25 _ rfl⟩
 have HSv := HSA.out _ (Below.refl W.heap.size W).drew; clear hlt; refine wp_region_H (rgH 0 24) (fun Y : World => (Y.cell? ⟨w.heap.size, 11, none⟩ = some (.int .i64 c.auth) /\ Y.cell? ⟨w.heap.size, 12, none⟩ = some (.int .i64 c.mru) /\ Y.cell? ⟨w.heap.size, 13, none⟩ = some (.int .i64 c.magic) /\ Y.cell? ⟨w.heap.size, 15, none⟩ = some (.int .i64 c.cf) /\ Y.cell? ⟨w.heap.size, 16, none⟩ = some (.int .i64 c.tm) /\ Y.cell? ⟨w.heap.size, 17, none⟩ = some (.int .i64 c.fl) /\ Y.cell? ⟨w.heap.size, 18, none⟩ = some (.int .i64 c.wt)) /\ Y.cell? ⟨lb, 25, none⟩ = some (.pointer (some ⟨tb, 0, none⟩))) (by kernel_rfl) ?_; refine hatH 0 rfl (by rintro W ⟨⟨g11, g12, g13, g15, g16, g17, g18⟩, g25⟩; go_simp; try rfl) HSv ?_; simp only [aZ, aC, aD]; refine hatH 1 rfl (by rintro W ⟨⟨g11, g12, g13, g15, g16, g17, g18⟩, g25⟩; go_simp; try rfl) HSv ?_; simp only [aZ, aC, aD]; refine hatH 2 rfl (by rintro W ⟨⟨g11, g12, g13, g15, g16, g17, g18⟩, g25⟩; go_simp; try rfl) HSv ?_; simp only [aZ, aC, aD]; refine hatH 3 rfl (by rintro W ⟨⟨g11, g12, g13, g15, g16, g17, g18⟩, g25⟩; go_simp; try rfl) HSv ?_; simp only [aZ, aC, aD]; refine hatH 4 rfl (by rintro W ⟨⟨g11, g12, g13, g15, g16, g17, g18⟩, g25⟩; go_simp; try rfl) HSv ?_; simp only [aZ, aC, aD]; refine hatH 5 rfl (by rintro W ⟨⟨g11, g12, g13, g15, g16, g17, g18⟩, g25⟩; go_simp; try rfl) HSv ?_; simp only [aZ, aC, aD]; refine hatH 6 rfl (by rintro W ⟨⟨g11, g12, g13, g15, g16, g17, g18⟩, g25⟩; go_simp; try rfl) HSv ?_; simp only [aZ, aC, aD]; refine hatH 7 rfl (by rintro W ⟨⟨g11, g12, g13, g15, g16, g17, g18⟩, g25⟩; go_simp; try rfl) HSv ?_; simp only [aZ, aC, aD]; refine hatH 8 rfl (by rintro W ⟨⟨g11, g12, g13, g15, g16, g17, g18⟩, g25⟩; go_simp; try rfl) HSv ?_; simp only [aZ, aC, aD]; refine hatH 9 rfl (by rintro W ⟨⟨g11, g12, g13, g15, g16, g17, g18⟩, g25⟩; go_simp; try rfl) HSv ?_; simp only [aZ, aC, aD]; refine hatH 10 rfl (by rintro W ⟨⟨g11, g12, g13, g15, g16, g17, g18⟩, g25⟩; go_simp; try rfl) HSv ?_; simp only [aZ, aC, aD]; refine hatH 11 rfl (by rintro W ⟨⟨g11, g12, g13, g15, g16, g17, g18⟩, g25⟩; go_simp; try rfl) HSv ?_; simp only [aZ, aC, aD]; refine hatH 12 rfl (by rintro W ⟨⟨g11, g12, g13, g15, g16, g17, g18⟩, g25⟩; go_simp; try rfl) HSv ?_; simp only [aZ, aC, aD]; refine hatH 13 rfl (by rintro W ⟨⟨g11, g12, g13, g15, g16, g17, g18⟩, g25⟩; go_simp; try rfl) HSv ?_; simp only [aZ, aC, aD]; refine hatH 14 rfl (by rintro W ⟨⟨g11, g12, g13, g15, g16, g17, g18⟩, g25⟩; go_simp; try rfl) HSv ?_; simp only [aZ, aC, aD]; refine hatH 15 rfl (by rintro W ⟨⟨g11, g12, g13, g15, g16, g17, g18⟩, g25⟩; go_simp; try rfl) HSv ?_; simp only [aZ, aC, aD]; refine hatH 16 rfl (by rintro W ⟨⟨g11, g12, g13, g15, g16, g17, g18⟩, g25⟩; go_simp; try rfl) HSv ?_; simp only [aZ, aC, aD]; refine hatH 17 rfl (by rintro W ⟨⟨g11, g12, g13, g15, g16, g17, g18⟩, g25⟩; go_simp; try rfl) HSv ?_; simp only [aZ, aC, aD]; refine hatH 18 rfl (by rintro W ⟨⟨g11, g12, g13, g15, g16, g17, g18⟩, g25⟩; go_simp; try rfl) HSv ?_; simp only [aZ, aC, aD]; refine hone 19 rfl fun K hK => ?_
 try go_simp
 go_at_call 37; refine (lnew_all c.l HI.out tb okt t _ (HT.out.1.below HX.out.1.drew) (fun b hb => Nat.lt_of_lt_of_le (HT.out.2 b hb) HX.out.1.drew.size)).mono ?_; rintro e w1 ⟨hr, hb⟩
 obtain ⟨p, x, rfl, hx⟩ : ∃ p x, e = .returned (.tuple #[.pointer p, .int .i64 x]) /\ (x = 0 ↔ c.l.Ok) := by
  rcases hr with ⟨hok, b, rfl⟩ | ⟨hno, rfl⟩
  . exact ⟨_, _, rfl, fun _ => hok, fun _ => rfl⟩
  . exact ⟨_, _, rfl, fun h => absurd h (by decide), fun h => absurd h hno⟩
 have HB := H_ (A_ (HX.out.1.drew.trans (hb.mono HX.out.1.drew.size)) hx); have HSv := HSA.out _ (Below.trans (Below.refl W.heap.size W).drew hb); clear hr hb hx; refine hK _ _ (fun _ => HSv) ?_
 try simp only [aZ, aA, aE, aB, aC, aD]
 refine hatH 20 rfl (by rintro W ⟨⟨g11, g12, g13, g15, g16, g17, g18⟩, g25⟩; go_simp; try rfl) HSv ?_; simp only [aZ, aC, aD]; refine hatH 21 rfl (by rintro W ⟨⟨g11, g12, g13, g15, g16, g17, g18⟩, g25⟩; go_simp; try rfl) HSv ?_; simp only [aZ, aC, aD]; refine hatH 22 rfl (by rintro W ⟨⟨g11, g12, g13, g15, g16, g17, g18⟩, g25⟩; go_simp; try rfl) HSv ?_; simp only [aZ, aC, aD]; refine hatH 23 rfl (by rintro W ⟨⟨g11, g12, g13, g15, g16, g17, g18⟩, g25⟩; go_simp; try rfl) HSv ?_; simp only [aZ, aC, aD]; refine hend 24 ?_; simp only [aF, aG]; clear HSv; go_wp2_with fail; go_ret2; exact ⟨_, _, rfl, HB.out.1, HB.out.2⟩
set_option maxRecDepth 100000 in
theorem ltunnel_any (h : w.heap[lb]? = some (.cells (lCells c tb cv sv lv now ids gv ser fr gr) 57 (0, 0))) (secret : ByteArray) (id : Int) :
 Calls Tryz.prog 19 #[.pointer (some ⟨lb, 0, none⟩), .string secret, .int .i64 id] w fun e w' => Made w w' (TunOk c.name secret id c.wd c.q c.rt c.wt c.hello) e := by
 have f25 := cellOf h 25 (.pointer (some ⟨tb, 0, none⟩)) rfl; have hlt := (Array.getElem?_eq_some_iff.1 h).1; have hb1 := (Below.refl w.heap.size w).alloc (Nat.le_refl _) (.cells c.cells 27 (0, 0)); have hx := at1 w (.cells c.cells 27 (0, 0)); have hl := (hb1.block lb hlt).trans h; have HX := H_ (A_ hb1 (A_ hx (A_ hl (alloc1 w (.cells c.cells 27 (0, 0)))))); have HRG := H_ (lRange h); clear h hb1 hx hl; go_enter Tryz.func19, Tryz.ntmps19
 go_upto_region 2 with (first | (refine lwpl_cfgload rfl _ rfl lb (by rfl) c HRG.out ?_) | (refine lwpl_cfgalloc c (by rfl) (by rfl) ?_))
 obtain ⟨W, hW⟩ : ∃ W, W = w.alloc (.cells c.cells 27 (0, 0)) := ⟨_, rfl⟩; rw [<- hW] at HX ⊢; clear hW HRG
 have HSA : Hid (∀ Y, Below W.heap.size W Y -> (fun Y : World => (Y.cell? ⟨w.heap.size, 6, none⟩ = some (.string c.name) /\ Y.cell? ⟨w.heap.size, 18, none⟩ = some (.int .i64 c.wt) /\ Y.cell? ⟨w.heap.size, 19, none⟩ = some (.int .i64 c.rt) /\ Y.cell? ⟨w.heap.size, 20, none⟩ = some (.int .i64 c.wd) /\ Y.cell? ⟨w.heap.size, 21, none⟩ = some (.int .i64 c.q) /\ Y.cell? ⟨w.heap.size, 22, none⟩ = some (.int .i64 c.hello)) /\ Y.cell? ⟨lb, 25, none⟩ = some (.pointer (some ⟨tb, 0, none⟩))) Y) := H_ fun Y hY => by
  have y := (hY.block w.heap.size (by rw [HX.out.2.2.2]; omega)).trans HX.out.2.1; have z := (hY.block lb (by rw [HX.out.2.2.2]; omega)).trans HX.out.2.2.1; exact ⟨⟨cellOf y 6 _ rfl, cellOf y 18 _ rfl, cellOf y 19 _ rfl, cellOf y 20 _ rfl, cellOf y 21 _ rfl, cellOf y 22 _ rfl⟩, cellOf z 25 _ rfl⟩
 have HSv := HSA.out _ (Below.refl W.heap.size W).drew; clear hlt; refine wp_region_H (rgH 0 24) (fun Y : World => (Y.cell? ⟨w.heap.size, 6, none⟩ = some (.string c.name) /\ Y.cell? ⟨w.heap.size, 18, none⟩ = some (.int .i64 c.wt) /\ Y.cell? ⟨w.heap.size, 19, none⟩ = some (.int .i64 c.rt) /\ Y.cell? ⟨w.heap.size, 20, none⟩ = some (.int .i64 c.wd) /\ Y.cell? ⟨w.heap.size, 21, none⟩ = some (.int .i64 c.q) /\ Y.cell? ⟨w.heap.size, 22, none⟩ = some (.int .i64 c.hello)) /\ Y.cell? ⟨lb, 25, none⟩ = some (.pointer (some ⟨tb, 0, none⟩))) (by kernel_rfl) ?_; refine hatH 0 rfl (by rintro W ⟨⟨g6, g18, g19, g20, g21, g22⟩, g25⟩; go_simp; try rfl) HSv ?_; simp only [aZ, aC, aD]; refine hatH 1 rfl (by rintro W ⟨⟨g6, g18, g19, g20, g21, g22⟩, g25⟩; go_simp; try rfl) HSv ?_; simp only [aZ, aC, aD]; refine hatH 2 rfl (by rintro W ⟨⟨g6, g18, g19, g20, g21, g22⟩, g25⟩; go_simp; try rfl) HSv ?_; simp only [aZ, aC, aD]; refine hatH 3 rfl (by rintro W ⟨⟨g6, g18, g19, g20, g21, g22⟩, g25⟩; go_simp; try rfl) HSv ?_; simp only [aZ, aC, aD]; refine hatH 4 rfl (by rintro W ⟨⟨g6, g18, g19, g20, g21, g22⟩, g25⟩; go_simp; try rfl) HSv ?_; simp only [aZ, aC, aD]; refine hatH 5 rfl (by rintro W ⟨⟨g6, g18, g19, g20, g21, g22⟩, g25⟩; go_simp; try rfl) HSv ?_; simp only [aZ, aC, aD]; refine hatH 6 rfl (by rintro W ⟨⟨g6, g18, g19, g20, g21, g22⟩, g25⟩; go_simp; try rfl) HSv ?_; simp only [aZ, aC, aD]; refine hatH 7 rfl (by rintro W ⟨⟨g6, g18, g19, g20, g21, g22⟩, g25⟩; go_simp; try rfl) HSv ?_; simp only [aZ, aC, aD]; refine hatH 8 rfl (by rintro W ⟨⟨g6, g18, g19, g20, g21, g22⟩, g25⟩; go_simp; try rfl) HSv ?_; simp only [aZ, aC, aD]; refine hatH 9 rfl (by rintro W ⟨⟨g6, g18, g19, g20, g21, g22⟩, g25⟩; go_simp; try rfl) HSv ?_; simp only [aZ, aC, aD]; refine hatH 10 rfl (by rintro W ⟨⟨g6, g18, g19, g20, g21, g22⟩, g25⟩; go_simp; try rfl) HSv ?_; simp only [aZ, aC, aD]; refine hatH 11 rfl (by rintro W ⟨⟨g6, g18, g19, g20, g21, g22⟩, g25⟩; go_simp; try rfl) HSv ?_; simp only [aZ, aC, aD]; refine hatH 12 rfl (by rintro W ⟨⟨g6, g18, g19, g20, g21, g22⟩, g25⟩; go_simp; try rfl) HSv ?_; simp only [aZ, aC, aD]; refine hatH 13 rfl (by rintro W ⟨⟨g6, g18, g19, g20, g21, g22⟩, g25⟩; go_simp; try rfl) HSv ?_; simp only [aZ, aC, aD]; refine hatH 14 rfl (by rintro W ⟨⟨g6, g18, g19, g20, g21, g22⟩, g25⟩; go_simp; try rfl) HSv ?_; simp only [aZ, aC, aD]; refine hatH 15 rfl (by rintro W ⟨⟨g6, g18, g19, g20, g21, g22⟩, g25⟩; go_simp; try rfl) HSv ?_; simp only [aZ, aC, aD]; refine hatH 16 rfl (by rintro W ⟨⟨g6, g18, g19, g20, g21, g22⟩, g25⟩; go_simp; try rfl) HSv ?_; simp only [aZ, aC, aD]; refine hatH 17 rfl (by rintro W ⟨⟨g6, g18, g19, g20, g21, g22⟩, g25⟩; go_simp; try rfl) HSv ?_; simp only [aZ, aC, aD]; refine hatH 18 rfl (by rintro W ⟨⟨g6, g18, g19, g20, g21, g22⟩, g25⟩; go_simp; try rfl) HSv ?_; simp only [aZ, aC, aD]; refine hone 19 rfl fun K hK => ?_
 try go_simp
 go_at_call 38; refine (tunNew_any c.name secret id c.wd c.q c.rt c.wt c.hello tb _).mono ?_; rintro e w1 ⟨p, x, rfl, hb, hx⟩; have HB := H_ (A_ (HX.out.1.drew.trans (hb.mono HX.out.1.drew.size)) hx); have HSv := HSA.out _ (Below.trans (Below.refl W.heap.size W).drew hb); clear hb hx; refine hK _ _ (fun _ => HSv) ?_
 try simp only [aZ, aA, aE, aB, aC, aD]
 refine hatH 20 rfl (by rintro W ⟨⟨g6, g18, g19, g20, g21, g22⟩, g25⟩; go_simp; try rfl) HSv ?_; simp only [aZ, aC, aD]; refine hatH 21 rfl (by rintro W ⟨⟨g6, g18, g19, g20, g21, g22⟩, g25⟩; go_simp; try rfl) HSv ?_; simp only [aZ, aC, aD]; refine hatH 22 rfl (by rintro W ⟨⟨g6, g18, g19, g20, g21, g22⟩, g25⟩; go_simp; try rfl) HSv ?_; simp only [aZ, aC, aD]; refine hatH 23 rfl (by rintro W ⟨⟨g6, g18, g19, g20, g21, g22⟩, g25⟩; go_simp; try rfl) HSv ?_; simp only [aZ, aC, aD]; refine hend 24 ?_; simp only [aF, aG]; clear HSv; go_wp2_with fail; go_ret2; exact ⟨_, _, rfl, HB.out.1, HB.out.2⟩
end
def strL (l : List ByteArray) : List (List Value) := l.map fun s => [.string s]
theorem strL_len (l : List ByteArray) : (strL l).length = l.length := by simp [strL]
theorem strL_k (l : List ByteArray) : ∀ x ∈ strL l, x.length = 1 := by
 intro x hx; simp only [strL, List.mem_map] at hx; obtain ⟨o, _, rfl⟩ := hx; rfl
def Strs (w : World) (ok : Nat -> Prop) (v : Value) (l : List ByteArray) : Prop := Rec 1 w ok v (strL l)
theorem Strs.form {w : World} {ok : Nat -> Prop} {v : Value} {l : List ByteArray} (h : Strs w ok v l) : ∃ sa c, v = .slice sa l.length c /\ l.length <= c /\ c <= maxLen := by
 obtain ⟨sa, c, hv, h1, h2⟩ := Rec.form h; rw [strL_len] at hv h1; exact ⟨sa, c, hv, h1, h2⟩
theorem Strs.at {w : World} {ok : Nat -> Prop} {sa : Option Addr} {n c : Nat} {l : List ByteArray} (h : Strs w ok (.slice sa n c) l) (i : Nat) (hi : i < l.length) :
 ∃ b off, sa = some ⟨b, off, none⟩ /\ ∀ Y, Below w.heap.size w Y -> Y.cell? ⟨b, off + i, none⟩ = some (.string l[i]) := by
 obtain ⟨b, off, hs, hb, -, -, -, -, hr⟩ := Rec.at h i (by rw [strL_len]; exact hi); refine ⟨b, off, hs, fun Y hY => ?_⟩; have := hr 0 (.string l[i]) (by simp [strL]); rw [Nat.mul_one, Nat.add_zero] at this; exact (hY.cell (p := ⟨b, off + i, none⟩) hb).trans this
theorem Strs.below {w w' : World} {ok : Nat -> Prop} {v : Value} {l : List ByteArray} (h : Strs w ok v l) (hb : Below w.heap.size w w') : Strs w' ok v l := Rec.keep h (Keep.of_below (fun _ => False) hb) (fun _ _ _ h => h)
theorem str_info : ∃ i z, Tryz.prog.info? 9 = some i /\ i.zero = some z /\ i.size = 1 /\ i.bytes = 16 /\ z.cells.size = 1 := by
 have h : (Tryz.prog.info? 9).map (fun i => (i.zero, i.size, i.bytes)) = some (some (.string ⟨#[]⟩), 1, 16) := by kernel_rfl
 obtain ⟨i, hi, he⟩ := Option.map_eq_some_iff.1 h; simp only [Prod.mk.injEq] at he; exact ⟨i, _, hi, he.1, he.2.1, he.2.2, rfl⟩
theorem str_bytes (l : List ByteArray) : ∀ u ∈ (strL l).flatten, u.oneCell' = true := by
 intro u hu; simp only [List.mem_flatten, strL, List.mem_map] at hu; obtain ⟨_, ⟨o, _, rfl⟩, hu⟩ := hu; simp only [List.mem_singleton] at hu; subst hu; rfl
set_option maxRecDepth 100000 in
theorem idxS_any (l : List ByteArray) (lv : Value) (ok : Nat -> Prop) (g : Nat) (lb : Array Value) (p : ByteArray -> Bool) (w : World) (hl : Strs w ok lv l) (hmax : l.length <= 1000000) (eg : ∀ args w, (callFunc g args).run Tryz.prog w = .ok (.enter g args) w)
 (hp : ∀ (W : World) (o : ByteArray), o ∈ l -> Below w.heap.size w W -> Calls Tryz.prog g (#[.string o] ++ lb) W fun e w' => e = .returned (.bool (p o)) /\ Below w.heap.size w w') :
 Calls Tryz.prog 66 #[lv, .func (.func g) #[] lb] w fun e w' => e = .returned (.int .i64 (idxP p l)) /\ Below w.heap.size w w' := by
 obtain ⟨sa, c, rfl, hc, hm⟩ := hl.form; have HL := H_ hl; have HP := H_ hp; obtain ⟨len, hln⟩ : ∃ len, len = l.length := ⟨_, rfl⟩; have HLN := H_ hln; rw [<- hln] at hc hmax ⊢; unfold maxLen at hm; clear hl hp hln; go_enter Tryz.func66, Tryz.ntmps66; go_wp2_with fail
 go_loopg [8] len (fun x i wr => ∃ k : Nat, k <= len /\ x = len - k /\ i = .int .i64 k /\ Hid (Below w.heap.size w wr /\ ∀ j (hj : j < l.length), j < k -> p l[j] = false))
 case atStart => exact ⟨0, by omega, by omega, rfl, Below.refl _ _, fun j _ h => absurd h (Nat.not_lt_zero _)⟩
 case round =>
  obtain ⟨k, hk, rfl, rfl, hK⟩ := hrel; have HK := H_ hK.out; clear hK
  by_cases hkl : k < len
  . have hkl' : k < l.length := by have := HLN.out; omega
    obtain ⟨b, off, rfl, hcell⟩ := HL.out.at k hkl'; have d0 := hcell wr HK.out.1; have hcall := HP.out wr l[k] (List.getElem_mem _) HK.out.1; have HH := H_ (idxP_hit p l k hkl')
    have HB : Hid (∀ (y : Bool), p l[k] = y -> y = false -> ∀ j (hj : j < l.length), j < k + 1 -> p l[j] = false) := H_ (by
     intro y hy hf j hj hlt
     rcases Nat.lt_or_ge j k with h | h
     . exact HK.out.2 j hj h
     . obtain rfl : j = k := by omega
       rw [hy, hf])
    clear hcell; generalize hq : p l[k] = y at hcall HH HB; clear hq; generalize l[k] = o at *
    cases y with
    | true =>
     go_wp2_with (go_at_fn g; refine hcall.mono ?_; rintro e w' ⟨rfl, hb'⟩)
     go_ret; exact ⟨by rw [HH.out (by first | exact trivial | rfl) HK.out.2]; rfl, hb'⟩
    | false =>
     go_wp2_with (go_at_fn g; refine hcall.mono ?_; rintro e w' ⟨rfl, hb'⟩)
     go_roundg (len - (k + 1))
     case measure => omega
     case rel => exact ⟨k + 1, by omega, rfl, by go_num, hb', HB.out false rfl rfl⟩
  . go_wp2_with fail; go_ret; exact ⟨by rw [idxP_miss p l (fun j hj => HK.out.2 j hj (by have := HLN.out; omega))]; rfl, HK.out.1⟩
theorem containsS_any (l : List ByteArray) (lv : Value) (ok : Nat -> Prop) (g : Nat) (lb : Array Value) (p : ByteArray -> Bool) (w : World) (hl : Strs w ok lv l) (hmax : l.length <= 1000000) (eg : ∀ args w, (callFunc g args).run Tryz.prog w = .ok (.enter g args) w)
 (hp : ∀ (W : World) (o : ByteArray), o ∈ l -> Below w.heap.size w W -> Calls Tryz.prog g (#[.string o] ++ lb) W fun e w' => e = .returned (.bool (p o)) /\ Below w.heap.size w w') :
 Calls Tryz.prog 34 #[lv, .func (.func g) #[] lb] w fun e w' => e = .returned (.bool (l.any p)) /\ Below w.heap.size w w' := by
 have HI := H_ (idxS_any l lv ok g lb p w hl hmax eg hp); obtain ⟨sa, c, rfl, hc, hm⟩ := hl.form; have HA := H_ (any_idx p l); generalize idxP p l = i at HI HA; clear hl hp; go_enter Tryz.func34, Tryz.ntmps34; go_wp2_with fail; refine HI.out.mono ?_; rintro e w' ⟨rfl, hb⟩; go_wp2_with fail; go_ret; exact ⟨by rw [<- HA.out]; rfl, hb⟩
set_option maxRecDepth 100000 in
theorem cloneS_any (l : List ByteArray) (lv : Value) (ok : Nat -> Prop) (w : World) (hl : Strs w ok lv l) (hmax : l.length <= 1000000) :
 Calls Tryz.prog 36 #[lv] w fun e w' => (∃ a n c, e = .returned (.slice a n c)) /\ Below w.heap.size w w' := by
 obtain ⟨sa, c, rfl, hc, hm⟩ := hl.form; have q22 : ∀ (w : World) (a : Option Addr) (n c n' c' : Nat), (binOp .eql 24 (.slice a n c) (.slice none n' c')).run Tryz.prog w = .ok (.bool a.isNone) w := fun w a n c n' c' => Lib.run_eql_slice_nil w _ _ a n c n' c' Tryz.underlying24
 cases sa with
 | none =>
  go_enter Tryz.func36, Tryz.ntmps36
  go_wp2
  go_ret; exact ⟨⟨_, _, _, rfl⟩, Below.refl _ _⟩
 | some ad =>
  obtain ⟨i0, z, hi, hz0, hz1, hz2, hzs⟩ := str_info; have hfl := Rec.flat (by decide) hl; have hlen : (strL l).flatten.length = l.length * 1 := by rw [flatten_len _ (strL_k l), strL_len]
  have A : Aside (∀ j u, (strL l).flatten[j]? = some u -> w.cell? (ad.add j) = some u) := hfl; clear hfl; go_enter Tryz.func36, Tryz.ntmps36
  go_wp2_with (at_builtin; refine wpList_append_own _ rfl _ _ 24 rfl w.heap.size 9 i0 z 1 16 Tryz.underlying24 hi hz0 hz1 hz2 hzs (by decide) _ _ _ rfl (World.ownsRow_made w #[] 0 (Nat.le_refl _) (Nat.zero_le _) (by simp)) ad l.length c (strL l).flatten rfl ?qc1 ?qc2 ?qc3 ?qc4 ?qc5 ?qc6 ?_)
  case qc1 => exact hlen
  case qc2 =>
   intro j u hj; exact Lib.cell?_alloc_some _ (A.out j u hj)
  case qc3 => exact str_bytes l
  case qc4 => rw [Nat.zero_add]; unfold maxLen; omega
  case qc5 => rw [Nat.zero_add]; omega
  case qc6 => simp
  intro v' w1 hown hgrow hnil
  obtain ⟨sa', n', sc', rfl⟩ : ∃ sa' n' sc', v' = .slice sa' n' sc' := by
   obtain ⟨_, ⟨h, hn⟩ | ⟨g, cp, cur, hv, _⟩⟩ := hown
   . exact ⟨none, 0, 0, h⟩
   . exact ⟨_, _, _, hv⟩
  go_wp2
  go_ret; refine ⟨⟨_, _, _, rfl⟩, ?_⟩; exact ((Below.refl _ w).alloc (Nat.le_refl _) _).grown hgrow (by simp) (by intro k hk; simp [Value.ownBlock] at hk; omega)
theorem long_any (s : ByteArray) (w : World) : Calls Tryz.prog 33 #[.string s] w fun e w' => e = .returned (.bool (decide ((40 : Int) < (s.size : Int)))) /\ w = w' := by
 go_enter Tryz.func33, Tryz.ntmps33; go_wp2_with fail; go_ret; exact ⟨rfl, rfl⟩
def acF (b0 b1 b2 b3 b4 b5 : UInt8) (name cookie : ByteArray) (sa : Option Addr) (sl sc : Nat) (most : Int) (i : Nat) (v : Value) (_ : World) : Prop := match i with
 | 0 => v = .agg #[.int .u8 (b0.toNat : Int), .int .u8 (b1.toNat : Int), .int .u8 (b2.toNat : Int), .int .u8 (b3.toNat : Int), .int .u8 (b4.toNat : Int), .int .u8 (b5.toNat : Int)]
 | 1 => v = .string name
 | 2 => v = .string name
 | 3 => v = .string cookie
 | 4 => v = .string cookie
 | 5 => v = .slice sa sl sc
 | 6 => ∃ a n c, v = .slice a n c
 | 7 => v = .int .i64 most
 | 8 => ∃ b, v = .map (some b)
 | 9 => ∃ b, v = .map (some b)
 | _ => True
def AcOk (name : ByteArray) (l : List ByteArray) (most : Int) : Prop := name.size ≠ 0 /\ name.size <= 40 /\ l.length <= 8 /\ (∀ s ∈ l, s.size <= 40) /\ 1 <= most /\ most <= 60
def AcNew (w w' : World) (name : ByteArray) (l : List ByteArray) (most : Int) (e : Ending) : Prop := Below w.heap.size w w' /\ ((∃ x, e = .returned (.tuple #[.pointer none, .int .i64 x]) /\ x ≠ 0 /\ ¬ AcOk name l most) \/ ∃ b, e = .returned (.tuple #[.pointer (some ⟨b, 0, none⟩), .int .i64 0]))
set_option maxRecDepth 100000 in
theorem acNew_any (b0 b1 b2 b3 b4 b5 : UInt8) (name cookie : ByteArray) (l : List ByteArray) (lv : Value) (ok : Nat -> Prop) (most : Int) (w : World) (hl : Strs w ok lv l) (hmax : l.length <= 1000000) (hc : name.size <= 40 -> cookie.size <= 140737488355328) :
 Calls Tryz.prog 16 #[.agg #[.int .u8 (b0.toNat : Int), .int .u8 (b1.toNat : Int), .int .u8 (b2.toNat : Int), .int .u8 (b3.toNat : Int), .int .u8 (b4.toNat : Int), .int .u8 (b5.toNat : Int)], .string name, lv, .string cookie, .int .i64 most] w fun e w' => AcNew w w' name l most e := by
 have hb1 : Below w.heap.size w (w.alloc (.cells #[.int .u8 (b0.toNat : Int), .int .u8 (b1.toNat : Int), .int .u8 (b2.toNat : Int), .int .u8 (b3.toNat : Int), .int .u8 (b4.toNat : Int), .int .u8 (b5.toNat : Int)] 23 (0, 0))) := (Below.refl _ _).alloc (Nat.le_refl _) _; have x1 := at1 w (.cells #[.int .u8 (b0.toNat : Int), .int .u8 (b1.toNat : Int), .int .u8 (b2.toNat : Int), .int .u8 (b3.toNat : Int), .int .u8 (b4.toNat : Int), .int .u8 (b5.toNat : Int)] 23 (0, 0)); have s1 := alloc1 w (.cells #[.int .u8 (b0.toNat : Int), .int .u8 (b1.toNat : Int), .int .u8 (b2.toNat : Int), .int .u8 (b3.toNat : Int), .int .u8 (b4.toNat : Int), .int .u8 (b5.toNat : Int)] 23 (0, 0)); obtain ⟨W, hW⟩ : ∃ W, W = w.alloc (.cells #[.int .u8 (b0.toNat : Int), .int .u8 (b1.toNat : Int), .int .u8 (b2.toNat : Int), .int .u8 (b3.toNat : Int), .int .u8 (b4.toNat : Int), .int .u8 (b5.toNat : Int)] 23 (0, 0)) := ⟨_, rfl⟩; rw [<- hW] at hb1 x1 s1; have HX := H_ (A_ hb1 (A_ x1 s1)); have HLG := H_ (fun W s => long_any s W); have hlW := hl.below hb1; have HCA := H_ (containsS_any l lv ok 33 #[] (fun s => decide ((40 : Int) < (s.size : Int))) W hlW hmax (enters_of Tryz.func33 (by kernel_rfl) rfl) (fun Z o _ hZ => (long_any o Z).mono (fun e w' h => ⟨h.1, h.2 ▸ hZ⟩))); have HCL := H_ (fun Y (hY : Below W.heap.size W Y) => cloneS_any l lv ok Y (hlW.below hY) hmax); obtain ⟨sa, sc, rfl, -, -⟩ := hl.form; have HCC := H_ (fun (h : name.size <= 40) W => sclone_any cookie W (hc h)); have HCN := H_ (fun (h : name.size <= 40) W => sclone_any name W (by omega)); have HK : Hid (∀ g : AcOk name l most, name.size ≠ 0 /\ name.size <= 40 /\ l.length <= 8 /\ (∀ s ∈ l, s.size <= 40) /\ 1 <= most /\ most <= 60) := H_ fun g => g; obtain ⟨len, hln⟩ : ∃ len, len = l.length := ⟨_, rfl⟩; have HLN := H_ hln; rw [<- hln] at hmax HCA HCL ⊢; clear hl hlW hb1 x1 s1 hc hln
 by_cases g0 : name.size = 0
 . have e0 : name.toList.isEmpty = true := by rw [isE]; simp [g0]
   have HN := H_ (show ¬ AcOk name l most from fun h => h.1 g0); go_enter Tryz.func16, Tryz.ntmps16
   go_upto_region 2 with (fail)
   rw [<- hW]; clear hW; go_wp2_with fail; go_ret2; exact ⟨HX.out.1, .inl ⟨1, rfl, by decide, HN.out⟩⟩
 have e0 : name.toList.isEmpty = false := by rw [isE]; simp [g0]
 by_cases g1 : 40 < name.size
 . have d1 : decide ((40 : Int) < (name.size : Int)) = true := by simp; omega
   have HN := H_ (show ¬ AcOk name l most from fun h => by have := h.2.1; omega); go_enter Tryz.func16, Tryz.ntmps16
   go_upto_region 2 with (fail)
   rw [<- hW]; clear hW
   go_wp2_with (go_at_call 33; refine (HLG.out _ _).mono ?_; rintro e w1 ⟨rfl, rfl⟩)
   go_ret2; exact ⟨HX.out.1, .inl ⟨1, rfl, by decide, HN.out⟩⟩
 have d1 : decide ((40 : Int) < (name.size : Int)) = false := by simp; omega
 by_cases g2 : 8 < len
 . have d2 : decide ((8 : Int) < (len : Int)) = true := by simp; omega
   have HN := H_ (show ¬ AcOk name l most from fun h => by have := h.2.2.1; have := HLN.out; omega); go_enter Tryz.func16, Tryz.ntmps16
   go_upto_region 2 with (fail)
   rw [<- hW]; clear hW
   go_wp2_with (first | (go_at_call 33; refine (HLG.out _ _).mono ?_; rintro e w1 ⟨rfl, rfl⟩))
   go_ret2; exact ⟨HX.out.1, .inl ⟨1, rfl, by decide, HN.out⟩⟩
 have d2 : decide ((8 : Int) < (len : Int)) = false := by simp; omega
 by_cases g3 : l.any (fun s => decide ((40 : Int) < (s.size : Int))) = true
 . have HN := H_ (show ¬ AcOk name l most from fun h => by
    obtain ⟨s, hs, h1⟩ := List.any_eq_true.1 g3; have := h.2.2.2.1 s hs
    simp at h1; omega)
   rw [g3] at HCA; go_enter Tryz.func16, Tryz.ntmps16
   go_upto_region 2 with (fail)
   rw [<- hW]; clear hW
   go_wp2_with (first | (go_at_call 33; refine (HLG.out _ _).mono ?_; rintro e w1 ⟨rfl, rfl⟩) | (go_at_call 34; refine HCA.out.mono ?_; rintro e w2 ⟨rfl, b2⟩; have H2 := H_ (HX.out.1.trans (b2.mono HX.out.1.size)); clear b2))
   go_ret2; exact ⟨H2.out, .inl ⟨1, rfl, by decide, HN.out⟩⟩
 have g3 : l.any (fun s => decide ((40 : Int) < (s.size : Int))) = false := by simpa using g3
 rw [g3] at HCA
 by_cases g4 : most < 1
 . have d4 : decide (most < 1) = true := by simpa using g4
   have HN := H_ (show ¬ AcOk name l most from fun h => by have := h.2.2.2.2.1; omega); go_enter Tryz.func16, Tryz.ntmps16
   go_upto_region 2 with (fail)
   rw [<- hW]; clear hW
   go_wp2_with (first | (go_at_call 33; refine (HLG.out _ _).mono ?_; rintro e w1 ⟨rfl, rfl⟩) | (go_at_call 34; refine HCA.out.mono ?_; rintro e w2 ⟨rfl, b2⟩; have H2 := H_ (HX.out.1.trans (b2.mono HX.out.1.size)); clear b2))
   go_ret2; exact ⟨H2.out, .inl ⟨1, rfl, by decide, HN.out⟩⟩
 have d4 : decide (most < 1) = false := by simpa using g4
 by_cases g5 : 60 < most
 . have d5 : decide (60 < most) = true := by simpa using g5
   have HN := H_ (show ¬ AcOk name l most from fun h => by have := h.2.2.2.2.2; omega); go_enter Tryz.func16, Tryz.ntmps16
   go_upto_region 2 with (fail)
   rw [<- hW]; clear hW
   go_wp2_with (first | (go_at_call 33; refine (HLG.out _ _).mono ?_; rintro e w1 ⟨rfl, rfl⟩) | (go_at_call 34; refine HCA.out.mono ?_; rintro e w2 ⟨rfl, b2⟩; have H2 := H_ (HX.out.1.trans (b2.mono HX.out.1.size)); clear b2))
   go_ret2; exact ⟨H2.out, .inl ⟨1, rfl, by decide, HN.out⟩⟩
 have d5 : decide (60 < most) = false := by simpa using g5
 have HCC := H_ (HCC.out (by omega)); have HCN := H_ (HCN.out (by omega)); clear g0 g1 g2 g3 g4 g5; have hmm := @run_makeMap Tryz.prog; go_enter Tryz.func16, Tryz.ntmps16
 go_upto_region 2 with (fail)
 rw [<- hW]; clear hW
 go_upto_region 4 with (first | (go_at_call 33; refine (HLG.out _ _).mono ?_; rintro e w1 ⟨rfl, rfl⟩) | (go_at_call 34; refine HCA.out.mono ?_; rintro e w2 ⟨rfl, b2⟩; have HW2 := H_ b2; clear b2))
 have H2 := H_ (HX.out.1.trans (HW2.out.mono HX.out.1.size)); have x2 := (HW2.out.block _ (Array.getElem?_eq_some_iff.1 HX.out.2.1).1).trans HX.out.2.1; have HX2 := H_ (show w2.drew.heap[w.heap.size]? = _ /\ w.heap.size < w2.drew.heap.size from ⟨x2, (Array.getElem?_eq_some_iff.1 x2).1⟩); have HD := H_ (show Below W.heap.size W w2.drew from HW2.out.trans ((Below.refl _ _).drew.mono HW2.out.size)); clear x2; refine wp_region_facts 10 (fun w w' => Below w.heap.size w w') (acF b0 b1 b2 b3 b4 b5 name cookie sa len sc most) (by kernel_rfl) (by kernel_rfl) (fun _ a a' _ e h => by cases a; cases a'; cases e; exact h) (Below.refl _ _) (fun a b c h k => h.trans (k.mono h.size)) (fun i v w w' _ h hb => h) ?_ ?_
 . refine ⟨?_, ?_, ?_, ?_, ?_, ?_, ?_, ?_, ?_, ?_, trivial⟩
   . intro vals wc hR hF K hK; have y := (hR.block w.heap.size HX2.out.2).trans HX2.out.1; have c0 := cellOf y 0 (.int .u8 (b0.toNat : Int)) rfl; have c1 := cellOf y 1 (.int .u8 (b1.toNat : Int)) rfl; have c2 := cellOf y 2 (.int .u8 (b2.toNat : Int)) rfl; have c3 := cellOf y 3 (.int .u8 (b3.toNat : Int)) rfl; have c4 := cellOf y 4 (.int .u8 (b4.toNat : Int)) rfl; have c5 := cellOf y 5 (.int .u8 (b5.toNat : Int)) rfl; clear y; simp only [Tg.putAll, List.take_succ_cons, List.take_zero, Act.put, List.setIfInBounds_toArray, List.set_cons_zero, List.set_cons_succ] at hK ⊢; clear hF; go_simp; exact hK _ _ (Below.refl _ _) rfl
   . intro vals wc hR hF K hK; simp only [Tg.putAll, List.take_succ_cons, List.take_zero, Act.put, List.setIfInBounds_toArray, List.set_cons_zero, List.set_cons_succ] at hK ⊢; clear hF; go_simp; exact hK _ _ (Below.refl _ _) rfl
   . intro vals wc hR hF K hK; have f1 : vals 1 = .string name := hF 1 (by kernel_rfl) (by decide); simp only [Tg.putAll, List.take_succ_cons, List.take_zero, Act.put, List.setIfInBounds_toArray, List.set_cons_zero, List.set_cons_succ, f1] at hK ⊢; clear hF f1; go_simp; go_at_call 35; refine (HCN.out _).mono ?_; rintro e w4 ⟨rfl, hb⟩; exact hK _ _ hb rfl
   . intro vals wc hR hF K hK; simp only [Tg.putAll, List.take_succ_cons, List.take_zero, Act.put, List.setIfInBounds_toArray, List.set_cons_zero, List.set_cons_succ] at hK ⊢; clear hF; go_simp; exact hK _ _ (Below.refl _ _) rfl
   . intro vals wc hR hF K hK; have f3 : vals 3 = .string cookie := hF 3 (by kernel_rfl) (by decide); simp only [Tg.putAll, List.take_succ_cons, List.take_zero, Act.put, List.setIfInBounds_toArray, List.set_cons_zero, List.set_cons_succ, f3] at hK ⊢; clear hF f3; go_simp; go_at_call 35; refine (HCC.out _).mono ?_; rintro e w4 ⟨rfl, hb⟩; exact hK _ _ hb rfl
   . intro vals wc hR hF K hK; simp only [Tg.putAll, List.take_succ_cons, List.take_zero, Act.put, List.setIfInBounds_toArray, List.set_cons_zero, List.set_cons_succ] at hK ⊢; clear hF; go_simp; exact hK _ _ (Below.refl _ _) rfl
   . intro vals wc hR hF K hK; have f5 : vals 5 = .slice sa len sc := hF 5 (by kernel_rfl) (by decide); simp only [Tg.putAll, List.take_succ_cons, List.take_zero, Act.put, List.setIfInBounds_toArray, List.set_cons_zero, List.set_cons_succ, f5] at hK ⊢; clear hF f5; go_simp; go_at_call 36; refine (HCL.out _ (HD.out.trans (hR.mono HD.out.size))).mono ?_; rintro e w4 ⟨⟨a, n, c, rfl⟩, hb⟩; exact hK _ _ hb ⟨_, _, _, rfl⟩
   . intro vals wc hR hF K hK; simp only [Tg.putAll, List.take_succ_cons, List.take_zero, Act.put, List.setIfInBounds_toArray, List.set_cons_zero, List.set_cons_succ] at hK ⊢; clear hF; go_simp; exact hK _ _ (Below.refl _ _) rfl
   . intro vals wc hR hF K hK; simp only [Tg.putAll, List.take_succ_cons, List.take_zero, Act.put, List.setIfInBounds_toArray, List.set_cons_zero, List.set_cons_succ] at hK ⊢; clear hF; go_simp; exact hK _ _ ((Below.refl _ _).alloc (Nat.le_refl _) _) ⟨_, rfl⟩
   . intro vals wc hR hF K hK; simp only [Tg.putAll, List.take_succ_cons, List.take_zero, Act.put, List.setIfInBounds_toArray, List.set_cons_zero, List.set_cons_succ] at hK ⊢; clear hF; go_simp; exact hK _ _ ((Below.refl _ _).alloc (Nat.le_refl _) _) ⟨_, rfl⟩
 . intro vals wc hR hF; have f0 : vals 0 = .agg #[.int .u8 (b0.toNat : Int), .int .u8 (b1.toNat : Int), .int .u8 (b2.toNat : Int), .int .u8 (b3.toNat : Int), .int .u8 (b4.toNat : Int), .int .u8 (b5.toNat : Int)] := hF 0 (by decide); have f2 : vals 2 = .string name := hF 2 (by decide); have f4 : vals 4 = .string cookie := hF 4 (by decide); obtain ⟨s6, n6, c6, f6⟩ := hF 6 (by decide); have f7 : vals 7 = .int .i64 most := hF 7 (by decide); obtain ⟨m8, f8⟩ := hF 8 (by decide); obtain ⟨m9, f9⟩ := hF 9 (by decide); have HR := H_ hR; clear hF hR; simp only [Tg.putAll, List.take_succ_cons, List.take_zero, List.drop_succ_cons, List.drop_zero, Act.put, List.setIfInBounds_toArray, List.set_cons_zero, List.set_cons_succ, f0, f2, f4, f6, f7, f8, f9]; clear f0 f2 f4 f6 f7 f8 f9; go_wp2_with fail; go_ret2; refine ⟨HX.out.1.trans (((HD.out.trans (HR.out.mono HD.out.size)).alloc (HD.out.trans (HR.out.mono HD.out.size)).size _).mono HX.out.1.size), .inr ⟨_, rfl⟩⟩
structure Sv where
 node : Int
 secret : ByteArray
 realm : ByteArray
def svL (l : List Sv) : List (List Value) := l.map fun s => [.int .i64 s.node, .string s.secret, .string s.realm]
theorem svL_len (l : List Sv) : (svL l).length = l.length := by simp [svL]
theorem svL_k (l : List Sv) : ∀ x ∈ svL l, x.length = 3 := by
 intro x hx; simp only [svL, List.mem_map] at hx; obtain ⟨o, _, rfl⟩ := hx; rfl
def Svs (w : World) (ok : Nat -> Prop) (v : Value) (l : List Sv) : Prop := Rec 3 w ok v (svL l)
theorem Svs.form {w : World} {ok : Nat -> Prop} {v : Value} {l : List Sv} (h : Svs w ok v l) : ∃ sa c, v = .slice sa l.length c /\ l.length <= c /\ c <= maxLen := by
 obtain ⟨sa, c, hv, h1, h2⟩ := Rec.form h; rw [svL_len] at hv h1; exact ⟨sa, c, hv, h1, h2⟩
theorem Svs.at {w : World} {ok : Nat -> Prop} {sa : Option Addr} {n c : Nat} {l : List Sv} (h : Svs w ok (.slice sa n c) l) (i : Nat) (hi : i < l.length) :
 ∃ b off, sa = some ⟨b, off, none⟩ /\ b < w.heap.size /\ ∀ Y, Below w.heap.size w Y -> Y.cell? ⟨b, off + i * 3, none⟩ = some (.int .i64 l[i].node) /\ Y.cell? ⟨b, off + i * 3 + 1, none⟩ = some (.string l[i].secret) /\ Y.cell? ⟨b, off + i * 3 + 2, none⟩ = some (.string l[i].realm) := by
 obtain ⟨b, off, hs, hb, -, -, -, -, hr⟩ := Rec.at h i (by rw [svL_len]; exact hi); refine ⟨b, off, hs, hb, fun Y hY => ⟨?_, ?_, ?_⟩⟩
 . exact (hY.cell (p := ⟨b, off + i * 3, none⟩) hb).trans (hr 0 _ (by simp [svL]))
 . exact (hY.cell (p := ⟨b, off + i * 3 + 1, none⟩) hb).trans (hr 1 _ (by simp [svL]))
 . exact (hY.cell (p := ⟨b, off + i * 3 + 2, none⟩) hb).trans (hr 2 _ (by simp [svL]))
theorem Svs.below {w w' : World} {ok : Nat -> Prop} {v : Value} {l : List Sv} (h : Svs w ok v l) (hb : Below w.heap.size w w') : Svs w' ok v l := Rec.keep h (Keep.of_below (fun _ => False) hb) (fun _ _ _ h => h)
def sO (s : Sv) : Opt := ⟨s.node, s.secret⟩
def rgo : List Opt -> List Sv -> Bool
 | _, [] => true
 | pre, s :: r => if pre.any (fun x => x.t == s.node) = true \/ s.node < 1 \/ 65535 < s.node \/ 60 < s.secret.size \/ 40 < s.realm.size then false else rgo (pre ++ [sO s]) r
def rightB (c : LaC) (l : List Sv) : Bool := if c.node < 1 \/ 65535 < c.node \/ l.length < 1 \/ 4 < l.length \/ c.rest < 1 \/ 1000 < c.rest then false else rgo [⟨c.node, c.name⟩] l
def RI (w W : World) (m : Nat) (pre : List Opt) : Prop := MapAt Tryz.prog 3 W m (seenF pre) /\ w.heap.size <= m /\ Below w.heap.size w W
theorem RI.below {w W W' : World} {m : Nat} {pre : List Opt} (h : RI w W m pre) (hb : Below W.heap.size W W') : RI w W' m pre :=
 ⟨h.1.same (hb.block _ h.1.lt), h.2.1, h.2.2.trans (hb.mono h.2.2.size)⟩
theorem RI.upd {w W : World} {m : Nat} {pre : List Opt} (h : RI w W m pre) (o : Opt) (ho : I64 o.t) :
 ∃ W', (Instr.mapUpdate 94 (.map (some m)) (.int .i64 o.t) (.agg #[])).run Tryz.prog W = .ok () W' /\ RI w W' m (pre ++ [o]) /\ Keep (· = m) W W' := by
 obtain ⟨es, cl, h1, h2⟩ := h.1.run_update keyedI Tryz.underlying94 (kvI ho) (.agg #[]); have hk : Keep (· = m) W (ChangeMaps.setBlock W m (.map es cl)) := (Keep.refl (· = m) W).setBlock m (Or.inr rfl) _; exact ⟨_, h1, ⟨h2.congr (fun k => seenF_snoc _ _ _), h.2.1, h.2.2.trans (hk.below h.2.2.size (fun k hk e => by have := h.2.1; omega))⟩, hk⟩
theorem lbox_cfg (c : LaC) (w : World) : (Instr.box 27 (.agg c.cells)).run Tryz.prog w = .ok (.pointer (some ⟨w.heap.size, 0, none⟩)) (w.alloc (.cells c.cells 27 (0, 0))) := by kernel_rfl
theorem lwpl_cfgbox {ops : Array Oper} {rest : List Oper} {Q : Exit -> Act -> World -> Prop} {a : Act} {w : World} (c : LaC) {d : Tmp} {y : Operand} {t1 : TypeId} {p1 : String} {f1 : Array Edge} (hy : a.eval y = .agg c.cells)
 (h : wpList Tryz.prog ops Q rest (a.put (some d) (.pointer (some ⟨w.heap.size, 0, none⟩))) (w.alloc (.cells c.cells 27 (0, 0)))) :
 wpList Tryz.prog ops Q ({ dst := some d, op := .box 27 y, type := t1, pos := p1, after := f1, guard := none } :: rest) a w := by
 refine Go.Tg.step_val (v := .pointer (some ⟨w.heap.size, 0, none⟩)) (w' := w.alloc (.cells c.cells 27 (0, 0))) rfl ?_ h; simp only [execOp, hy, Sem.run_bind, lbox_cfg, Result.andThen_ok, Sem.run_pure]
theorem lcfg_range {w : World} {b : Nat} {c : LaC} (h : w.heap[b]? = some (.cells c.cells 27 (0, 0))) : w.rangeAt b 0 c.cells.toList := fun j v hv => by
 rw [cell_of_row w b (0 + j) _ _ _ h, Nat.zero_add, <- Array.getElem?_toList]; exact hv
theorem rgo_bad {pre : List Opt} {s : Sv} {r : List Sv} (h : pre.any (fun x => x.t == s.node) = true \/ s.node < 1 \/ 65535 < s.node \/ 60 < s.secret.size \/ 40 < s.realm.size) : rgo pre (s :: r) = false := by
 unfold rgo; exact if_pos h
theorem rgo_good {pre : List Opt} {s : Sv} {r : List Sv} (h : ¬ (pre.any (fun x => x.t == s.node) = true \/ s.node < 1 \/ 65535 < s.node \/ 60 < s.secret.size \/ 40 < s.realm.size)) : rgo pre (s :: r) = rgo (pre ++ [sO s]) r := by
 rw [rgo, if_neg h]
set_option maxRecDepth 100000 in
theorem right_any (c : LaC) (l : List Sv) (ok : Nat -> Prop) (w : World) (hl : Svs w ok (.slice c.srva c.srvl c.srvc) l) (hmax : l.length <= 1000000) (hw : ∀ s ∈ l, I64 s.node) (hn : I64 c.node) : Calls Tryz.prog 14 #[.agg c.cells] w fun e w' => e = .returned (.bool (rightB c l)) /\ Below w.heap.size w w' := by
 obtain ⟨W, hW⟩ : ∃ W, W = w.alloc (.cells c.cells 27 (0, 0)) := ⟨_, rfl⟩; have b1 : Below w.heap.size w W := by rw [hW]; exact (Below.refl _ _).alloc (Nat.le_refl _) _
 have x0 : W.heap[w.heap.size]? = some (.cells c.cells 27 (0, 0)) := by rw [hW]; exact at1 _ _
 have hsz : W.heap.size = w.heap.size + 1 := by rw [hW, alloc1]
 have hlen : c.srvl = l.length := by
  obtain ⟨sa, sc, hv, -, -⟩ := hl.form; exact (Value.slice.inj hv).2.1
 have k10 : W.cell? ⟨w.heap.size, 10, none⟩ = some (.int .i64 c.node) := cellOf x0 10 _ rfl; have k14 : W.cell? ⟨w.heap.size, 14, none⟩ = some (.int .i64 c.rest) := cellOf x0 14 _ rfl; have k24 : W.cell? ⟨w.heap.size, 24, none⟩ = some (.slice c.srva c.srvl c.srvc) := cellOf x0 24 _ rfl; have HX := H_ (A_ b1 (A_ x0 hsz)); have HL := H_ hl; have HW := H_ hw; obtain ⟨len, hln⟩ : ∃ len, len = l.length := ⟨_, rfl⟩; have HLN := H_ hln; rw [<- hln] at hlen hmax; rw [hlen] at k24; have hm2 : ¬ (9223372036854775807 : Int) < (len : Int) := by omega
 clear hl hw b1 x0 hsz hln
 by_cases g0 : c.node < 1
 . have d0 : decide (c.node < 1) = true := by simp; omega
   have HN := H_ (show rightB c l = false from if_pos (.inl (by have := HLN.out; omega))); clear g0; go_enter Tryz.func14, Tryz.ntmps14
   go_upto_region 1 with (refine lwpl_cfgbox c (by rfl) ?_)
   rw [<- hW]; clear hW; go_wp2_with fail; go_ret; exact ⟨by rw [HN.out]; rfl, HX.out.1⟩
 have d0 : decide (c.node < 1) = false := by simp; omega
 by_cases g1 : 65535 < c.node
 . have d1 : decide (65535 < c.node) = true := by simp; omega
   have HN := H_ (show rightB c l = false from if_pos (.inr <| .inl (by have := HLN.out; omega))); clear g0 g1; go_enter Tryz.func14, Tryz.ntmps14
   go_upto_region 1 with (refine lwpl_cfgbox c (by rfl) ?_)
   rw [<- hW]; clear hW; go_wp2_with fail; go_ret; exact ⟨by rw [HN.out]; rfl, HX.out.1⟩
 have d1 : decide (65535 < c.node) = false := by simp; omega
 by_cases g2 : len < 1
 . have d2 : decide (((len : Int) < 1)) = true := by simp; omega
   have HN := H_ (show rightB c l = false from if_pos (.inr <| .inr <| .inl (by have := HLN.out; omega))); clear g0 g1 g2; go_enter Tryz.func14, Tryz.ntmps14
   go_upto_region 1 with (refine lwpl_cfgbox c (by rfl) ?_)
   rw [<- hW]; clear hW; go_wp2_with fail; go_ret; exact ⟨by rw [HN.out]; rfl, HX.out.1⟩
 have d2 : decide (((len : Int) < 1)) = false := by simp; omega
 by_cases g3 : 4 < len
 . have d3 : decide (((4 : Int) < (len : Int))) = true := by simp; omega
   have HN := H_ (show rightB c l = false from if_pos (.inr <| .inr <| .inr <| .inl (by have := HLN.out; omega))); clear g0 g1 g2 g3; go_enter Tryz.func14, Tryz.ntmps14
   go_upto_region 1 with (refine lwpl_cfgbox c (by rfl) ?_)
   rw [<- hW]; clear hW; go_wp2_with fail; go_ret; exact ⟨by rw [HN.out]; rfl, HX.out.1⟩
 have d3 : decide (((4 : Int) < (len : Int))) = false := by simp; omega
 by_cases g4 : c.rest < 1
 . have d4 : decide (c.rest < 1) = true := by simp; omega
   have HN := H_ (show rightB c l = false from if_pos (.inr <| .inr <| .inr <| .inr <| .inl (by have := HLN.out; omega))); clear g0 g1 g2 g3 g4; go_enter Tryz.func14, Tryz.ntmps14
   go_upto_region 1 with (refine lwpl_cfgbox c (by rfl) ?_)
   rw [<- hW]; clear hW; go_wp2_with fail; go_ret; exact ⟨by rw [HN.out]; rfl, HX.out.1⟩
 have d4 : decide (c.rest < 1) = false := by simp; omega
 by_cases g5 : 1000 < c.rest
 . have d5 : decide (1000 < c.rest) = true := by simp; omega
   have HN := H_ (show rightB c l = false from if_pos (.inr <| .inr <| .inr <| .inr <| .inr (by have := HLN.out; omega))); clear g0 g1 g2 g3 g4 g5; go_enter Tryz.func14, Tryz.ntmps14
   go_upto_region 1 with (refine lwpl_cfgbox c (by rfl) ?_)
   rw [<- hW]; clear hW; go_wp2_with fail; go_ret; exact ⟨by rw [HN.out]; rfl, HX.out.1⟩
 have d5 : decide (1000 < c.rest) = false := by simp; omega
 have HR := H_ (show rightB c l = rgo [⟨c.node, c.name⟩] l from if_neg (by have := HLN.out; omega)); have hA0 : RI w (W.alloc (.map #[] 0)) W.heap.size [] := ⟨by rw [seenF_nil]; exact MapAt.empty _, HX.out.1.size, HX.out.1.alloc HX.out.1.size _⟩; obtain ⟨W2, hup, hA⟩ := hA0.upd ⟨c.node, c.name⟩ hn; have hmm := @run_makeMap Tryz.prog; have k10' : (W.alloc (.map #[] 0)).cell? ⟨w.heap.size, 10, none⟩ = some (.int .i64 c.node) := Lib.cell?_alloc_some _ k10; have HK2 := H_ (show Below W.heap.size W W2 from ((Below.refl W.heap.size W).alloc (Nat.le_refl _) _).trans (hA.2.below (by rw [alloc1]; omega) (fun k hk e => by omega))); have HA := H_ hA.1; have y24 : W2.cell? ⟨w.heap.size, 24, none⟩ = some (.slice c.srva len c.srvc) := (HK2.out.cell (p := ⟨w.heap.size, 24, none⟩) (by have := HX.out.2.2; show w.heap.size < W.heap.size; omega)).trans k24; obtain ⟨b0, o0, hs0, -, -⟩ := HL.out.at 0 (by have := HLN.out; omega); rw [hs0] at y24; have HS0 := H_ hs0; clear hs0 hA hA0 hn g0 g1 g2 g3 g4 g5; go_enter Tryz.func14, Tryz.ntmps14
 go_upto_region 1 with (refine lwpl_cfgbox c (by rfl) ?_)
 rw [<- hW]; clear hW
 go_upto_region 4 with (fail)
 clear hup hmm k10 k10' k14 k24 d0 d1 d2 d3 d4 d5; go_wp2_with fail
 go_loopg [46] len (fun x i wr => ∃ k : Nat, k <= len /\ x = len - k /\ i = .int .i64 k /\ Hid (∃ pre, RI w wr W.heap.size pre /\ rgo [⟨c.node, c.name⟩] l = rgo pre (l.drop k)))
 case atStart => exact ⟨0, by omega, by omega, rfl, H_ ⟨_, HA.out, rfl⟩⟩
 case round =>
  obtain ⟨k, hk, rfl, rfl, hK⟩ := hrel; obtain ⟨pre, hI, hq⟩ := hK.out; have HI := H_ hI; clear hK
  by_cases hkl : k < len
  . have hkl' : k < l.length := by have := HLN.out; omega
    obtain ⟨b, off, hs, hb, hc⟩ := HL.out.at k hkl'
    obtain ⟨rfl, rfl⟩ : b = b0 /\ off = o0 := by
     rw [HS0.out] at hs; have := Option.some.inj hs
     injection this with h1 h2 _
     exact ⟨h1.symm, h2.symm⟩
    obtain ⟨d0, d1, d2⟩ := hc wr hI.2.2; have HD := H_ (hq.trans (show rgo pre (l.drop k) = rgo pre (l[k] :: l.drop (k + 1)) by rw [List.drop_eq_getElem_cons hkl'])); have hwo := HW.out l[k] (List.getElem_mem hkl'); clear hc hq hI hs; generalize l[k] = s at *; obtain ⟨nd, se, re⟩ := s; simp only at d0 d1 d2 hwo
    have hzu : ∀ w, (zeroValue 93).run Tryz.prog w = .ok (.agg #[]) w := fun w => by kernel_rfl
    have hlk := ((HI.out.below ((Below.refl wr.heap.size wr).alloc (Nat.le_refl _) (.cells #[.int .i64 nd, .string se, .string re] 45 (0, 0)))).1).run_lookup keyedI Tryz.underlying94 (kvI hwo) (hzu _) true; rw [seenF_at] at hlk; have HB5 := H_ ((((Below.refl wr.heap.size wr).alloc (Nat.le_refl _) (.cells #[.int .i64 nd, .string se, .string re] 45 (0, 0)))).alloc (by rw [alloc1]; omega) (.cells #[] 93 (0, 0))); have hx5 := (Below.heap_alloc (wr.alloc (.cells #[.int .i64 nd, .string se, .string re] 45 (0, 0))) (.cells #[] 93 (0, 0)) wr.heap.size (by rw [alloc1]; omega)).trans (at1 wr (.cells #[.int .i64 nd, .string se, .string re] 45 (0, 0))); have z0 := cellOf hx5 0 _ rfl; have z1 := cellOf hx5 1 _ rfl; have z2 := cellOf hx5 2 _ rfl; obtain ⟨W6, hup, hA6⟩ := (HI.out.below HB5.out).upd ⟨nd, se⟩ hwo; have HA6 := H_ hA6.1; clear hx5 hA6; obtain ⟨had, hhad⟩ : ∃ had, pre.any (fun x => x.t == nd) = had := ⟨_, rfl⟩; rw [hhad] at hlk; cases had
    case true =>
     simp only [if_pos, Option.getD, Option.isSome] at hlk; clear hup z0 z1 z2; go_wp2_with fail; go_ret; exact ⟨by rw [HR.out, HD.out, rgo_bad (.inl hhad)]; rfl, (HI.out.below HB5.out).2.2⟩
    simp only [Option.getD, Option.isSome] at hlk
    by_cases h0 : nd < 1
    . have v0 : decide (nd < 1) = true := by simp; omega
      clear hup; go_wp2_with fail; go_ret; exact ⟨by rw [HR.out, HD.out, rgo_bad (.inr <| .inl h0)]; rfl, (HI.out.below HB5.out).2.2⟩
    have v0 : decide (nd < 1) = false := by simp; omega
    by_cases h1 : 65535 < nd
    . have v1 : decide (65535 < nd) = true := by simp; omega
      clear hup; go_wp2_with fail; go_ret; exact ⟨by rw [HR.out, HD.out, rgo_bad (.inr <| .inr <| .inl h1)]; rfl, (HI.out.below HB5.out).2.2⟩
    have v1 : decide (65535 < nd) = false := by simp; omega
    by_cases h2 : 60 < se.size
    . have v2 : decide (((60 : Int) < (se.size : Int))) = true := by simp; omega
      clear hup; go_wp2_with fail; go_ret; exact ⟨by rw [HR.out, HD.out, rgo_bad (.inr <| .inr <| .inr <| .inl h2)]; rfl, (HI.out.below HB5.out).2.2⟩
    have v2 : decide (((60 : Int) < (se.size : Int))) = false := by simp; omega
    by_cases h3 : 40 < re.size
    . have v3 : decide (((40 : Int) < (re.size : Int))) = true := by simp; omega
      clear hup; go_wp2_with fail; go_ret; exact ⟨by rw [HR.out, HD.out, rgo_bad (.inr <| .inr <| .inr <| .inr h3)]; rfl, (HI.out.below HB5.out).2.2⟩
    have v3 : decide (((40 : Int) < (re.size : Int))) = false := by simp; omega
    have HG := H_ (rgo_good (pre := pre) (s := ⟨nd, se, re⟩) (r := l.drop (k + 1)) (by
     rintro (h | h | h | h | h)
     . rw [hhad] at h; cases h
     . exact h0 h
     . exact h1 h
     . exact h2 h
     . exact h3 h))
    clear h0 h1 h2 h3 hhad; go_wp2_with fail
    go_roundg (len - (k + 1))
    case measure => omega
    case rel => exact ⟨k + 1, by omega, rfl, by go_num, H_ ⟨_, HA6.out, HD.out.trans HG.out⟩⟩
  . obtain rfl : len = k := by omega
    have HQ := H_ hq; clear hq hI; go_wp2_with fail; go_ret; exact ⟨by rw [HR.out, HQ.out, List.drop_eq_nil_of_le (by have := HLN.out; omega)]; rfl, HI.out.2.2⟩
end Go.Proofs.YtoblffnlopmebaaGreat
