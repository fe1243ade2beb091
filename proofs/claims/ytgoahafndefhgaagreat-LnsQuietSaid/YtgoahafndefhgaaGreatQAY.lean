import Derived.Test.YtgoahafndefhgaaGreatQAT
import Derived.Test.YtgoahafndefhgaaGreatQAX
import Derived.Deep.DeepCutAuto
import Derived.Deep.CutBlock
import Derived.Test.YtgoahafndefhgaaGreatQAU
import Derived.Test.YtgoahafndefhgaaGreatQAR
import Derived.Test.YtgoahafndefhgaaGreatQAA
import Derived.Deep.WholeRow
import Derived.Deep.MidRow
import Derived.Test.YtgoahafndefhgaaGreatQAI
import Derived.Lib.QuietBelow
set_option linter.unusedVariables false
set_option linter.unusedSimpArgs false
set_option maxHeartbeats 16000000
namespace Go.Proofs.YtgoahafndefhgaaGreat
open Go.RowKit Go.Tg Go.Maps
structure XCfg where
 name : ByteArray
 secret : ByteArray
 node : Int
 auth : Int
 mru : Int
 magic : Int
 echo : Int
 cf : Int
 tm : Int
 fl : Int
 wt : Int
 rt : Int
 wd : Int
 q : Int
 hello : Int
 adopt : Bool
 seq : Bool
 own : Ad
 base : Ad
 d1 : Ad
 d2 : Ad
 pool : Int
 rate : Int
 burst : Int
 limit : Int
 calm : Int
def XCfg.cells (c : XCfg) : Array Value := (List.toArray (.string c.name :: .string c.secret :: .int .i64 c.node :: .int .i64 c.auth :: .int .i64 c.mru :: .int .i64 c.magic :: .int .i64 c.echo :: .int .i64 c.cf :: .int .i64 c.tm :: .int .i64 c.fl :: .int .i64 c.wt :: .int .i64 c.rt :: .int .i64 c.wd :: .int .i64 c.q :: .int .i64 c.hello :: .bool c.adopt :: .bool c.seq :: .int .u8 (c.own.a.toNat : Int) :: .int .u8 (c.own.b.toNat : Int) :: .int .u8 (c.own.c.toNat : Int) :: .int .u8 (c.own.d.toNat : Int) :: .int .u8 (c.base.a.toNat : Int) :: .int .u8 (c.base.b.toNat : Int) :: .int .u8 (c.base.c.toNat : Int) :: .int .u8 (c.base.d.toNat : Int) :: .int .u8 (c.d1.a.toNat : Int) :: .int .u8 (c.d1.b.toNat : Int) :: .int .u8 (c.d1.c.toNat : Int) :: .int .u8 (c.d1.d.toNat : Int) :: .int .u8 (c.d2.a.toNat : Int) :: .int .u8 (c.d2.b.toNat : Int) :: .int .u8 (c.d2.c.toNat : Int) :: .int .u8 (c.d2.d.toNat : Int) :: .int .i64 c.pool :: .int .i64 c.rate :: .int .i64 c.burst :: .int .i64 c.limit :: .int .i64 c.calm :: []))
def XCfg.v (c : XCfg) : Value := .agg (List.toArray (.string c.name :: .string c.secret :: .int .i64 c.node :: .int .i64 c.auth :: .int .i64 c.mru :: .int .i64 c.magic :: .int .i64 c.echo :: .int .i64 c.cf :: .int .i64 c.tm :: .int .i64 c.fl :: .int .i64 c.wt :: .int .i64 c.rt :: .int .i64 c.wd :: .int .i64 c.q :: .int .i64 c.hello :: .bool c.adopt :: .bool c.seq :: .int .u8 (c.own.a.toNat : Int) :: .int .u8 (c.own.b.toNat : Int) :: .int .u8 (c.own.c.toNat : Int) :: .int .u8 (c.own.d.toNat : Int) :: .int .u8 (c.base.a.toNat : Int) :: .int .u8 (c.base.b.toNat : Int) :: .int .u8 (c.base.c.toNat : Int) :: .int .u8 (c.base.d.toNat : Int) :: .int .u8 (c.d1.a.toNat : Int) :: .int .u8 (c.d1.b.toNat : Int) :: .int .u8 (c.d1.c.toNat : Int) :: .int .u8 (c.d1.d.toNat : Int) :: .int .u8 (c.d2.a.toNat : Int) :: .int .u8 (c.d2.b.toNat : Int) :: .int .u8 (c.d2.c.toNat : Int) :: .int .u8 (c.d2.d.toNat : Int) :: .int .i64 c.pool :: .int .i64 c.rate :: .int .i64 c.burst :: .int .i64 c.limit :: .int .i64 c.calm :: []))
def XCfg.l (c : XCfg) : LCfg := ⟨c.mru, c.auth, c.magic, c.echo, c.cf, c.tm, c.fl, c.wt⟩
def xCells (c : XCfg) (tb : Nat) (tv sv wv pv : Value) (now ids calls : Int) (ev gr : Value) : Array Value := c.cells ++ #[.pointer (some ⟨tb, 0, none⟩), tv, sv, wv, pv, .int .i64 now, .int .u16 ids, .int .u16 calls, ev, gr]
theorem cfg_cells : (Tryz.prog.info? 35).map (·.size) = some 38 := by kernel_rfl
theorem cfg_sz (c : XCfg) : c.cells.size = 38 := rfl
theorem cfg_one (c : XCfg) : c.cells.all (·.oneCell') = true := by kernel_rfl
theorem alloc_cfg : ∃ Z : Array Value, Z.size = 38 /\ ∀ w, (Instr.alloc 35 true (.tuple #[])).run Tryz.prog w = .ok (.pointer (some ⟨w.heap.size, 0, none⟩)) (w.alloc (.cells Z 35 (0, 0))) :=
 ⟨(List.toArray (.string ⟨#[]⟩ :: .string ⟨#[]⟩ :: .int .i64 0 :: .int .i64 0 :: .int .i64 0 :: .int .i64 0 :: .int .i64 0 :: .int .i64 0 :: .int .i64 0 :: .int .i64 0 :: .int .i64 0 :: .int .i64 0 :: .int .i64 0 :: .int .i64 0 :: .int .i64 0 :: .bool false :: .bool false :: .int .u8 0 :: .int .u8 0 :: .int .u8 0 :: .int .u8 0 :: .int .u8 0 :: .int .u8 0 :: .int .u8 0 :: .int .u8 0 :: .int .u8 0 :: .int .u8 0 :: .int .u8 0 :: .int .u8 0 :: .int .u8 0 :: .int .u8 0 :: .int .u8 0 :: .int .u8 0 :: .int .i64 0 :: .int .i64 0 :: .int .i64 0 :: .int .i64 0 :: .int .i64 0 :: [])), rfl, fun w => by kernel_rfl⟩
theorem wpl_cfgload {ops : Array Oper} {rest : List Oper} {Q : Exit -> Act -> World -> Prop} {a : Act} {w : World} {o : Oper} (hgd : o.guard = none) (x : Operand) (ho : o.op = .load 35 x) (b : Nat) (hx : a.eval x = .pointer (some ⟨b, 0, none⟩)) (c : XCfg) (hc : w.rangeAt b 0 c.cells.toList)
 (h : wpList Tryz.prog ops Q rest (a.put o.dst (.agg c.cells)) w) : wpList Tryz.prog ops Q (o :: rest) a w := by
 refine wpList_load_mid hgd 35 x ho b 0 hx c.cells.toList _ hc Tryz.underlying35 rfl (by rw [cfg_cells, Array.length_toList, cfg_sz]) ?_; rw [Array.toArray_toList]; exact h
theorem wpl_cfgalloc {ops : Array Oper} {rest : List Oper} {Q : Exit -> Act -> World -> Prop} {a : Act} {w : World} (c : XCfg) {d : Tmp} {y : Operand} {t1 t2 : TypeId} {p1 p2 : String} {f1 f2 : Array Edge}
 (hd : (a.put (some d) (.pointer (some ⟨w.heap.size, 0, none⟩))).eval (.tmp d) = .pointer (some ⟨w.heap.size, 0, none⟩))
 (hy : (a.put (some d) (.pointer (some ⟨w.heap.size, 0, none⟩))).eval y = .agg c.cells)
 (h : wpList Tryz.prog ops Q rest (a.put (some d) (.pointer (some ⟨w.heap.size, 0, none⟩))) (w.alloc (.cells c.cells 35 (0, 0)))) :
 wpList Tryz.prog ops Q ({ dst := some d, op := .alloc 35, type := t1, pos := p1, after := f1, guard := none } :: { dst := none, op := .store 35 (.tmp d) y, type := t2, pos := p2, after := f2, guard := none } :: rest) a w := by
 obtain ⟨Z, hz, hal⟩ := alloc_cfg; refine Go.Tg.step_val (v := .pointer (some ⟨w.heap.size, 0, none⟩)) (w' := w.alloc (.cells Z 35 (0, 0))) rfl ?_ ?_
 . simp only [execOp, hal, Sem.run_bind, Result.andThen_ok, Sem.run_pure]
 . refine Go.Tg.step_skip (w' := w.alloc (.cells c.cells 35 (0, 0))) rfl ?_ h; simp only [execOp, hd, hy, Sem.run_bind, run_storeAt_new (P := Tryz.prog) w 35 Z c.cells (by rw [cfg_cells, cfg_sz]) (by rw [hz, cfg_sz]) (cfg_one c), Result.andThen_ok, Sem.run_pure]
theorem xRange {c : XCfg} {lb tb : Nat} {tv sv wv pv : Value} {now ids calls : Int} {ev gr : Value} {w : World} (h : w.heap[lb]? = some (.cells (xCells c tb tv sv wv pv now ids calls ev gr) 45 (0, 0))) : w.rangeAt lb 0 c.cells.toList := fun j v hv => by
 rw [cell_of_row w lb (0 + j) _ _ _ h, Nat.zero_add]; unfold xCells; have hj : j < c.cells.size := by rw [Array.getElem?_toList] at hv; exact (Array.getElem?_eq_some_iff.1 hv).1
 rw [Array.getElem?_append_left hj, <- Array.getElem?_toList]; exact hv
section
variable {c : XCfg} {lb tb : Nat} {tv sv wv pv : Value} {now ids calls : Int} {ev gr : Value} {w : World} {okt : Nat -> Prop} {t : TpS}
set_option maxRecDepth 100000 in
theorem xlink_any (h : w.heap[lb]? = some (.cells (xCells c tb tv sv wv pv now ids calls ev gr) 45 (0, 0))) (HT : Hid (TapeAt w tb okt t /\ ∀ b, okt b -> b < w.heap.size)) (HI : Hid (I64 c.auth)) :
 Calls Tryz.prog 118 #[.pointer (some ⟨lb, 0, none⟩)] w fun e w' => ∃ p x, e = .returned (.tuple #[.pointer p, .int .i64 x]) /\ Below w.heap.size w w' /\ (x = 0 ↔ c.l.Ok) := by
 have f38 := cellOf h 38 (.pointer (some ⟨tb, 0, none⟩)) rfl; have hlt := (Array.getElem?_eq_some_iff.1 h).1; have hb1 := (Below.refl w.heap.size w).alloc (Nat.le_refl _) (.cells c.cells 35 (0, 0)); have hx := at1 w (.cells c.cells 35 (0, 0)); have hl := (hb1.block lb hlt).trans h; have HX := H_ (A_ hb1 (A_ hx (A_ hl (alloc1 w (.cells c.cells 35 (0, 0)))))); have HRG := H_ (xRange h); clear h hb1 hx hl; go_enter Tryz.func118, Tryz.ntmps118
 go_upto_region 2 with (first | (refine wpl_cfgload rfl _ rfl lb (by rfl) c HRG.out ?_) | (refine wpl_cfgalloc c (by rfl) (by rfl) ?_))
 obtain ⟨W, hW⟩ : ∃ W, W = w.alloc (.cells c.cells 35 (0, 0)) := ⟨_, rfl⟩; rw [<- hW] at HX ⊢; clear hW HRG
 have HSA : Hid (∀ Y, Below W.heap.size W Y -> (fun Y : World => (Y.cell? ⟨w.heap.size, 3, none⟩ = some (.int .i64 c.auth) /\ Y.cell? ⟨w.heap.size, 4, none⟩ = some (.int .i64 c.mru) /\ Y.cell? ⟨w.heap.size, 5, none⟩ = some (.int .i64 c.magic) /\ Y.cell? ⟨w.heap.size, 6, none⟩ = some (.int .i64 c.echo) /\ Y.cell? ⟨w.heap.size, 7, none⟩ = some (.int .i64 c.cf) /\ Y.cell? ⟨w.heap.size, 8, none⟩ = some (.int .i64 c.tm) /\ Y.cell? ⟨w.heap.size, 9, none⟩ = some (.int .i64 c.fl) /\ Y.cell? ⟨w.heap.size, 10, none⟩ = some (.int .i64 c.wt)) /\ Y.cell? ⟨lb, 38, none⟩ = some (.pointer (some ⟨tb, 0, none⟩))) Y) := H_ fun Y hY => by
  have y := (hY.block w.heap.size (by rw [HX.out.2.2.2]; omega)).trans HX.out.2.1; have z := (hY.block lb (by rw [HX.out.2.2.2]; omega)).trans HX.out.2.2.1; exact ⟨⟨cellOf y 3 _ rfl, cellOf y 4 _ rfl, cellOf y 5 _ rfl, cellOf y 6 _ rfl, cellOf y 7 _ rfl, cellOf y 8 _ rfl, cellOf y 9 _ rfl, cellOf y 10 _ rfl⟩, cellOf z 38 _ rfl⟩
 have HSv := HSA.out _ (Below.refl W.heap.size W).drew; clear hlt; refine wp_region_H (rgH 0 26) (fun Y : World => (Y.cell? ⟨w.heap.size, 3, none⟩ = some (.int .i64 c.auth) /\ Y.cell? ⟨w.heap.size, 4, none⟩ = some (.int .i64 c.mru) /\ Y.cell? ⟨w.heap.size, 5, none⟩ = some (.int .i64 c.magic) /\ Y.cell? ⟨w.heap.size, 6, none⟩ = some (.int .i64 c.echo) /\ Y.cell? ⟨w.heap.size, 7, none⟩ = some (.int .i64 c.cf) /\ Y.cell? ⟨w.heap.size, 8, none⟩ = some (.int .i64 c.tm) /\ Y.cell? ⟨w.heap.size, 9, none⟩ = some (.int .i64 c.fl) /\ Y.cell? ⟨w.heap.size, 10, none⟩ = some (.int .i64 c.wt)) /\ Y.cell? ⟨lb, 38, none⟩ = some (.pointer (some ⟨tb, 0, none⟩))) (by kernel_rfl) ?_; refine hatH 0 rfl (by rintro W ⟨⟨g3, g4, g5, g6, g7, g8, g9, g10⟩, g38⟩; go_simp; try rfl) HSv ?_; simp only [aZ, aC, aD]; refine hatH 1 rfl (by rintro W ⟨⟨g3, g4, g5, g6, g7, g8, g9, g10⟩, g38⟩; go_simp; try rfl) HSv ?_; simp only [aZ, aC, aD]; refine hatH 2 rfl (by rintro W ⟨⟨g3, g4, g5, g6, g7, g8, g9, g10⟩, g38⟩; go_simp; try rfl) HSv ?_; simp only [aZ, aC, aD]; refine hatH 3 rfl (by rintro W ⟨⟨g3, g4, g5, g6, g7, g8, g9, g10⟩, g38⟩; go_simp; try rfl) HSv ?_; simp only [aZ, aC, aD]; refine hatH 4 rfl (by rintro W ⟨⟨g3, g4, g5, g6, g7, g8, g9, g10⟩, g38⟩; go_simp; try rfl) HSv ?_; simp only [aZ, aC, aD]; refine hatH 5 rfl (by rintro W ⟨⟨g3, g4, g5, g6, g7, g8, g9, g10⟩, g38⟩; go_simp; try rfl) HSv ?_; simp only [aZ, aC, aD]; refine hatH 6 rfl (by rintro W ⟨⟨g3, g4, g5, g6, g7, g8, g9, g10⟩, g38⟩; go_simp; try rfl) HSv ?_; simp only [aZ, aC, aD]; refine hatH 7 rfl (by rintro W ⟨⟨g3, g4, g5, g6, g7, g8, g9, g10⟩, g38⟩; go_simp; try rfl) HSv ?_; simp only [aZ, aC, aD]; refine hatH 8 rfl (by rintro W ⟨⟨g3, g4, g5, g6, g7, g8, g9, g10⟩, g38⟩; go_simp; try rfl) HSv ?_; simp only [aZ, aC, aD]; refine hatH 9 rfl (by rintro W ⟨⟨g3, g4, g5, g6, g7, g8, g9, g10⟩, g38⟩; go_simp; try rfl) HSv ?_; simp only [aZ, aC, aD]; refine hatH 10 rfl (by rintro W ⟨⟨g3, g4, g5, g6, g7, g8, g9, g10⟩, g38⟩; go_simp; try rfl) HSv ?_; simp only [aZ, aC, aD]; refine hatH 11 rfl (by rintro W ⟨⟨g3, g4, g5, g6, g7, g8, g9, g10⟩, g38⟩; go_simp; try rfl) HSv ?_; simp only [aZ, aC, aD]; refine hatH 12 rfl (by rintro W ⟨⟨g3, g4, g5, g6, g7, g8, g9, g10⟩, g38⟩; go_simp; try rfl) HSv ?_; simp only [aZ, aC, aD]; refine hatH 13 rfl (by rintro W ⟨⟨g3, g4, g5, g6, g7, g8, g9, g10⟩, g38⟩; go_simp; try rfl) HSv ?_; simp only [aZ, aC, aD]; refine hatH 14 rfl (by rintro W ⟨⟨g3, g4, g5, g6, g7, g8, g9, g10⟩, g38⟩; go_simp; try rfl) HSv ?_; simp only [aZ, aC, aD]; refine hatH 15 rfl (by rintro W ⟨⟨g3, g4, g5, g6, g7, g8, g9, g10⟩, g38⟩; go_simp; try rfl) HSv ?_; simp only [aZ, aC, aD]; refine hatH 16 rfl (by rintro W ⟨⟨g3, g4, g5, g6, g7, g8, g9, g10⟩, g38⟩; go_simp; try rfl) HSv ?_; simp only [aZ, aC, aD]; refine hatH 17 rfl (by rintro W ⟨⟨g3, g4, g5, g6, g7, g8, g9, g10⟩, g38⟩; go_simp; try rfl) HSv ?_; simp only [aZ, aC, aD]; refine hatH 18 rfl (by rintro W ⟨⟨g3, g4, g5, g6, g7, g8, g9, g10⟩, g38⟩; go_simp; try rfl) HSv ?_; simp only [aZ, aC, aD]; refine hatH 19 rfl (by rintro W ⟨⟨g3, g4, g5, g6, g7, g8, g9, g10⟩, g38⟩; go_simp; try rfl) HSv ?_; simp only [aZ, aC, aD]; refine hatH 20 rfl (by rintro W ⟨⟨g3, g4, g5, g6, g7, g8, g9, g10⟩, g38⟩; go_simp; try rfl) HSv ?_; simp only [aZ, aC, aD]; refine hone 21 rfl fun K hK => ?_
 try go_simp
 go_at_call 154; refine (lnew_all c.l HI.out tb okt t _ (HT.out.1.below HX.out.1.drew) (fun b hb => Nat.lt_of_lt_of_le (HT.out.2 b hb) HX.out.1.drew.size)).mono ?_; rintro e w1 ⟨hr, hb⟩
 obtain ⟨p, x, rfl, hx⟩ : ∃ p x, e = .returned (.tuple #[.pointer p, .int .i64 x]) /\ (x = 0 ↔ c.l.Ok) := by
  rcases hr with ⟨hok, b, rfl⟩ | ⟨hno, rfl⟩
  . exact ⟨_, _, rfl, fun _ => hok, fun _ => rfl⟩
  . exact ⟨_, _, rfl, fun h => absurd h (by decide), fun h => absurd h hno⟩
 have HB := H_ (A_ (HX.out.1.drew.trans (hb.mono HX.out.1.drew.size)) hx); have HSv := HSA.out _ (Below.trans (Below.refl W.heap.size W).drew hb); clear hr hb hx; refine hK _ _ (fun _ => HSv) ?_
 try simp only [aZ, aA, aE, aB, aC, aD]
 refine hatH 22 rfl (by rintro W ⟨⟨g3, g4, g5, g6, g7, g8, g9, g10⟩, g38⟩; go_simp; try rfl) HSv ?_; simp only [aZ, aC, aD]; refine hatH 23 rfl (by rintro W ⟨⟨g3, g4, g5, g6, g7, g8, g9, g10⟩, g38⟩; go_simp; try rfl) HSv ?_; simp only [aZ, aC, aD]; refine hatH 24 rfl (by rintro W ⟨⟨g3, g4, g5, g6, g7, g8, g9, g10⟩, g38⟩; go_simp; try rfl) HSv ?_; simp only [aZ, aC, aD]; refine hatH 25 rfl (by rintro W ⟨⟨g3, g4, g5, g6, g7, g8, g9, g10⟩, g38⟩; go_simp; try rfl) HSv ?_; simp only [aZ, aC, aD]; refine hend 26 ?_; simp only [aF, aG]; clear HSv; go_wp2_with fail; go_ret2; exact ⟨_, _, rfl, HB.out.1, HB.out.2⟩
set_option maxRecDepth 100000 in
theorem xtunnel_any (h : w.heap[lb]? = some (.cells (xCells c tb tv sv wv pv now ids calls ev gr) 45 (0, 0))) (id : Int) :
 Calls Tryz.prog 119 #[.pointer (some ⟨lb, 0, none⟩), .int .i64 id] w fun e w' => Made w w' (TunOk c.name c.secret id c.wd c.q c.rt c.wt c.hello) e := by
 have f38 := cellOf h 38 (.pointer (some ⟨tb, 0, none⟩)) rfl; have hlt := (Array.getElem?_eq_some_iff.1 h).1; have hb1 := (Below.refl w.heap.size w).alloc (Nat.le_refl _) (.cells c.cells 35 (0, 0)); have hx := at1 w (.cells c.cells 35 (0, 0)); have hl := (hb1.block lb hlt).trans h; have HX := H_ (A_ hb1 (A_ hx (A_ hl (alloc1 w (.cells c.cells 35 (0, 0)))))); have HRG := H_ (xRange h); clear h hb1 hx hl; go_enter Tryz.func119, Tryz.ntmps119
 go_upto_region 2 with (first | (refine wpl_cfgload rfl _ rfl lb (by rfl) c HRG.out ?_) | (refine wpl_cfgalloc c (by rfl) (by rfl) ?_))
 obtain ⟨W, hW⟩ : ∃ W, W = w.alloc (.cells c.cells 35 (0, 0)) := ⟨_, rfl⟩; rw [<- hW] at HX ⊢; clear hW HRG
 have HSA : Hid (∀ Y, Below W.heap.size W Y -> (fun Y : World => (Y.cell? ⟨w.heap.size, 0, none⟩ = some (.string c.name) /\ Y.cell? ⟨w.heap.size, 1, none⟩ = some (.string c.secret) /\ Y.cell? ⟨w.heap.size, 10, none⟩ = some (.int .i64 c.wt) /\ Y.cell? ⟨w.heap.size, 11, none⟩ = some (.int .i64 c.rt) /\ Y.cell? ⟨w.heap.size, 12, none⟩ = some (.int .i64 c.wd) /\ Y.cell? ⟨w.heap.size, 13, none⟩ = some (.int .i64 c.q) /\ Y.cell? ⟨w.heap.size, 14, none⟩ = some (.int .i64 c.hello)) /\ Y.cell? ⟨lb, 38, none⟩ = some (.pointer (some ⟨tb, 0, none⟩))) Y) := H_ fun Y hY => by
  have y := (hY.block w.heap.size (by rw [HX.out.2.2.2]; omega)).trans HX.out.2.1; have z := (hY.block lb (by rw [HX.out.2.2.2]; omega)).trans HX.out.2.2.1; exact ⟨⟨cellOf y 0 _ rfl, cellOf y 1 _ rfl, cellOf y 10 _ rfl, cellOf y 11 _ rfl, cellOf y 12 _ rfl, cellOf y 13 _ rfl, cellOf y 14 _ rfl⟩, cellOf z 38 _ rfl⟩
 have HSv := HSA.out _ (Below.refl W.heap.size W).drew; clear hlt; refine wp_region_H (rgH 0 25) (fun Y : World => (Y.cell? ⟨w.heap.size, 0, none⟩ = some (.string c.name) /\ Y.cell? ⟨w.heap.size, 1, none⟩ = some (.string c.secret) /\ Y.cell? ⟨w.heap.size, 10, none⟩ = some (.int .i64 c.wt) /\ Y.cell? ⟨w.heap.size, 11, none⟩ = some (.int .i64 c.rt) /\ Y.cell? ⟨w.heap.size, 12, none⟩ = some (.int .i64 c.wd) /\ Y.cell? ⟨w.heap.size, 13, none⟩ = some (.int .i64 c.q) /\ Y.cell? ⟨w.heap.size, 14, none⟩ = some (.int .i64 c.hello)) /\ Y.cell? ⟨lb, 38, none⟩ = some (.pointer (some ⟨tb, 0, none⟩))) (by kernel_rfl) ?_; refine hatH 0 rfl (by rintro W ⟨⟨g0, g1, g10, g11, g12, g13, g14⟩, g38⟩; go_simp; try rfl) HSv ?_; simp only [aZ, aC, aD]; refine hatH 1 rfl (by rintro W ⟨⟨g0, g1, g10, g11, g12, g13, g14⟩, g38⟩; go_simp; try rfl) HSv ?_; simp only [aZ, aC, aD]; refine hatH 2 rfl (by rintro W ⟨⟨g0, g1, g10, g11, g12, g13, g14⟩, g38⟩; go_simp; try rfl) HSv ?_; simp only [aZ, aC, aD]; refine hatH 3 rfl (by rintro W ⟨⟨g0, g1, g10, g11, g12, g13, g14⟩, g38⟩; go_simp; try rfl) HSv ?_; simp only [aZ, aC, aD]; refine hatH 4 rfl (by rintro W ⟨⟨g0, g1, g10, g11, g12, g13, g14⟩, g38⟩; go_simp; try rfl) HSv ?_; simp only [aZ, aC, aD]; refine hatH 5 rfl (by rintro W ⟨⟨g0, g1, g10, g11, g12, g13, g14⟩, g38⟩; go_simp; try rfl) HSv ?_; simp only [aZ, aC, aD]; refine hatH 6 rfl (by rintro W ⟨⟨g0, g1, g10, g11, g12, g13, g14⟩, g38⟩; go_simp; try rfl) HSv ?_; simp only [aZ, aC, aD]; refine hatH 7 rfl (by rintro W ⟨⟨g0, g1, g10, g11, g12, g13, g14⟩, g38⟩; go_simp; try rfl) HSv ?_; simp only [aZ, aC, aD]; refine hatH 8 rfl (by rintro W ⟨⟨g0, g1, g10, g11, g12, g13, g14⟩, g38⟩; go_simp; try rfl) HSv ?_; simp only [aZ, aC, aD]; refine hatH 9 rfl (by rintro W ⟨⟨g0, g1, g10, g11, g12, g13, g14⟩, g38⟩; go_simp; try rfl) HSv ?_; simp only [aZ, aC, aD]; refine hatH 10 rfl (by rintro W ⟨⟨g0, g1, g10, g11, g12, g13, g14⟩, g38⟩; go_simp; try rfl) HSv ?_; simp only [aZ, aC, aD]; refine hatH 11 rfl (by rintro W ⟨⟨g0, g1, g10, g11, g12, g13, g14⟩, g38⟩; go_simp; try rfl) HSv ?_; simp only [aZ, aC, aD]; refine hatH 12 rfl (by rintro W ⟨⟨g0, g1, g10, g11, g12, g13, g14⟩, g38⟩; go_simp; try rfl) HSv ?_; simp only [aZ, aC, aD]; refine hatH 13 rfl (by rintro W ⟨⟨g0, g1, g10, g11, g12, g13, g14⟩, g38⟩; go_simp; try rfl) HSv ?_; simp only [aZ, aC, aD]; refine hatH 14 rfl (by rintro W ⟨⟨g0, g1, g10, g11, g12, g13, g14⟩, g38⟩; go_simp; try rfl) HSv ?_; simp only [aZ, aC, aD]; refine hatH 15 rfl (by rintro W ⟨⟨g0, g1, g10, g11, g12, g13, g14⟩, g38⟩; go_simp; try rfl) HSv ?_; simp only [aZ, aC, aD]; refine hatH 16 rfl (by rintro W ⟨⟨g0, g1, g10, g11, g12, g13, g14⟩, g38⟩; go_simp; try rfl) HSv ?_; simp only [aZ, aC, aD]; refine hatH 17 rfl (by rintro W ⟨⟨g0, g1, g10, g11, g12, g13, g14⟩, g38⟩; go_simp; try rfl) HSv ?_; simp only [aZ, aC, aD]; refine hatH 18 rfl (by rintro W ⟨⟨g0, g1, g10, g11, g12, g13, g14⟩, g38⟩; go_simp; try rfl) HSv ?_; simp only [aZ, aC, aD]; refine hatH 19 rfl (by rintro W ⟨⟨g0, g1, g10, g11, g12, g13, g14⟩, g38⟩; go_simp; try rfl) HSv ?_; simp only [aZ, aC, aD]; refine hone 20 rfl fun K hK => ?_
 try go_simp
 go_at_call 155; refine (tunNew_any c.name c.secret id c.wd c.q c.rt c.wt c.hello tb _).mono ?_; rintro e w1 ⟨p, x, rfl, hb, hx⟩; have HB := H_ (A_ (HX.out.1.drew.trans (hb.mono HX.out.1.drew.size)) hx); have HSv := HSA.out _ (Below.trans (Below.refl W.heap.size W).drew hb); clear hb hx; refine hK _ _ (fun _ => HSv) ?_
 try simp only [aZ, aA, aE, aB, aC, aD]
 refine hatH 21 rfl (by rintro W ⟨⟨g0, g1, g10, g11, g12, g13, g14⟩, g38⟩; go_simp; try rfl) HSv ?_; simp only [aZ, aC, aD]; refine hatH 22 rfl (by rintro W ⟨⟨g0, g1, g10, g11, g12, g13, g14⟩, g38⟩; go_simp; try rfl) HSv ?_; simp only [aZ, aC, aD]; refine hatH 23 rfl (by rintro W ⟨⟨g0, g1, g10, g11, g12, g13, g14⟩, g38⟩; go_simp; try rfl) HSv ?_; simp only [aZ, aC, aD]; refine hatH 24 rfl (by rintro W ⟨⟨g0, g1, g10, g11, g12, g13, g14⟩, g38⟩; go_simp; try rfl) HSv ?_; simp only [aZ, aC, aD]; refine hend 25 ?_; simp only [aF, aG]; clear HSv; go_wp2_with fail; go_ret2; exact ⟨_, _, rfl, HB.out.1, HB.out.2⟩
set_option maxRecDepth 100000 in
theorem xaddr_any (h : w.heap[lb]? = some (.cells (xCells c tb tv sv wv pv now ids calls ev gr) 45 (0, 0))) (x : Ad) (hok : c.l.Ok) :
 Calls Tryz.prog 123 #[.pointer (some ⟨lb, 0, none⟩), x.v] w fun e w' => ∃ p, e = .returned (.tuple #[.pointer p, .int .i64 0]) /\ Below w.heap.size w w' := by
 have hb0 := (Below.refl w.heap.size w).alloc (Nat.le_refl _) (.cells x.cs 27 (0, 0)); have hl := (hb0.block lb (Array.getElem?_eq_some_iff.1 h).1).trans h; have HRG := H_ (xRange hl); obtain ⟨W, hW⟩ : ∃ W, W = (w.alloc (.cells x.cs 27 (0, 0))).alloc (.cells c.cells 35 (0, 0)) := ⟨_, rfl⟩; have hb1 : Below w.heap.size w W := by rw [hW]; exact hb0.alloc hb0.size _
 have hx : W.heap[w.heap.size]? = some (.cells x.cs 27 (0, 0)) := by rw [hW]; exact at20 _ _ _
 have hc : W.heap[w.heap.size + 1]? = some (.cells c.cells 35 (0, 0)) := by rw [hW]; exact at21 _ _ _
 have HN := H_ (fun W => server_any c.own x c.d1 c.d2 c.cf c.tm c.fl c.wt W (inB20_true.1 hok.cf) (inB20_true.1 hok.tm) hok.fl hok.wt); have HX := H_ hb1; have x0 := cellOf hx 0 (.int .u8 (x.a.toNat : Int)) rfl; have x1 := cellOf hx 1 (.int .u8 (x.b.toNat : Int)) rfl; have x2 := cellOf hx 2 (.int .u8 (x.c.toNat : Int)) rfl; have x3 := cellOf hx 3 (.int .u8 (x.d.toNat : Int)) rfl; have g17 := cellOf hc 17 (.int .u8 (c.own.a.toNat : Int)) rfl; have g18 := cellOf hc 18 (.int .u8 (c.own.b.toNat : Int)) rfl; have g19 := cellOf hc 19 (.int .u8 (c.own.c.toNat : Int)) rfl; have g20 := cellOf hc 20 (.int .u8 (c.own.d.toNat : Int)) rfl; have g25 := cellOf hc 25 (.int .u8 (c.d1.a.toNat : Int)) rfl; have g26 := cellOf hc 26 (.int .u8 (c.d1.b.toNat : Int)) rfl; have g27 := cellOf hc 27 (.int .u8 (c.d1.c.toNat : Int)) rfl; have g28 := cellOf hc 28 (.int .u8 (c.d1.d.toNat : Int)) rfl; have g29 := cellOf hc 29 (.int .u8 (c.d2.a.toNat : Int)) rfl; have g30 := cellOf hc 30 (.int .u8 (c.d2.b.toNat : Int)) rfl; have g31 := cellOf hc 31 (.int .u8 (c.d2.c.toNat : Int)) rfl; have g32 := cellOf hc 32 (.int .u8 (c.d2.d.toNat : Int)) rfl; have g7 := cellOf hc 7 (.int .i64 c.cf) rfl; have g8 := cellOf hc 8 (.int .i64 c.tm) rfl; have g9 := cellOf hc 9 (.int .i64 c.fl) rfl; have g10 := cellOf hc 10 (.int .i64 c.wt) rfl; unfold Ad.cs at hW HRG; unfold Ad.v at HN ⊢; clear h hok hb0 hb1 hl hx hc; go_enter Tryz.func123, Tryz.ntmps123
 go_upto_region 2 with (first | (refine wpl_cfgload rfl _ rfl lb (by rfl) c HRG.out ?_) | (refine wpl_cfgalloc c (by rfl) (by rfl) ?_))
 try simp only [World.heap_size_alloc]
 rw [<- hW]; clear hW HRG; go_wp2_with fail; refine (HN.out _).mono ?_; rintro e w1 ⟨v, rfl, B, jb, rfl, -, -, -, -, hb⟩; have HB := H_ (HX.out.trans (hb.mono HX.out.size)); clear hb; go_wp2_with fail; go_ret2; exact ⟨_, rfl, HB.out⟩
end
structure PI (w W : World) (lb : Nat) (c : XCfg) (tb : Nat) (tv sv wv pv : Value) (now ids calls : Int) (ev gr : Value) : Prop where
 k : Keep (fun g => g = lb) w W
 xl : W.heap[lb]? = some (.cells (xCells c tb tv sv wv pv now ids calls ev gr) 45 (0, 0))
 xc : W.heap[w.heap.size]? = some (.cells c.cells 35 (0, 0))
 lt : lb < w.heap.size
section
variable {w W W' : World} {lb tb : Nat} {c : XCfg} {tv sv wv pv ev gr : Value} {now ids calls : Int}
theorem PI.sz (h : PI w W lb c tb tv sv wv pv now ids calls ev gr) : w.heap.size < W.heap.size := (Array.getElem?_eq_some_iff.1 h.xc).1
theorem PI.go (h : PI w W lb c tb tv sv wv pv now ids calls ev gr) (b : Below W.heap.size W W') : PI w W' lb c tb tv sv wv pv now ids calls ev gr :=
 ⟨h.k.trans ((Keep.of_below _ b)), (b.block _ (by have := h.sz; have := h.lt; omega)).trans h.xl, (b.block _ h.sz).trans h.xc, h.lt⟩
theorem PI.pool (h : PI w W lb c tb tv sv wv pv now ids calls ev gr) (v : Value) : PI w (W.setCell ⟨lb, 42, none⟩ v) lb c tb tv sv wv v now ids calls ev gr := by
 have hk : Keep (fun g => g = lb) W (W.setCell ⟨lb, 42, none⟩ v) := (Keep.refl (fun g => g = lb) W).setCell ⟨lb, 42, none⟩ (Or.inr rfl) v; refine ⟨h.k.trans hk, ?_, (hk.block _ h.sz (by have := h.lt; omega)).trans h.xc, h.lt⟩; exact (set_block h.xl 42 v).trans (congrArg (fun a => some (Obj.cells a 45 (0, 0))) (by kernel_rfl))
theorem PI.who (h : PI w W lb c tb tv sv wv pv now ids calls ev gr) (v : Value) : PI w (W.setCell ⟨lb, 41, none⟩ v) lb c tb tv sv v pv now ids calls ev gr := by
 have hk : Keep (fun g => g = lb) W (W.setCell ⟨lb, 41, none⟩ v) := (Keep.refl (fun g => g = lb) W).setCell ⟨lb, 41, none⟩ (Or.inr rfl) v; refine ⟨h.k.trans hk, ?_, (hk.block _ h.sz (by have := h.lt; omega)).trans h.xc, h.lt⟩; exact (set_block h.xl 41 v).trans (congrArg (fun a => some (Obj.cells a 45 (0, 0))) (by kernel_rfl))
structure StoreAt (w : World) (sb sm : Nat) (limit calm : Int) : Prop where
 blk : w.heap[sb]? = some (.cells #[.int .i64 limit, .int .i64 calm, .map (some sm)] 219 (0, 0))
 m : w.heap[sm]? = some (.map #[] 0)
def XOk (c : XCfg) : Prop := c.l.Ok /\ (c.name.size <= 60 /\ 0 <= c.rt /\ c.rt <= 10 /\ 1 <= c.wt /\ c.wt <= 100) /\ TunOk c.name c.secret 1 c.wd c.q c.rt c.wt c.hello /\ PoolOk c.base c.pool /\ (0 <= c.rate /\ c.rate <= 1000000 /\ 0 <= c.burst /\ c.burst <= 1000000000) /\ (0 <= c.limit /\ c.limit <= 100 /\ 1 <= c.calm /\ c.calm <= 1000)
structure Parts (w W : World) (lb : Nat) (c : XCfg) (tb : Nat) (tv sv : Value) (now ids calls : Int) (ev gr : Value) (pb ph pw sb sm : Nat) : Prop where
 at' : PI w W lb c tb tv sv (.pointer (some ⟨sb, 0, none⟩)) (.pointer (some ⟨pb, 0, none⟩)) now ids calls ev gr
 p : PoolAt W pb ph pw c.base c.pool
 s : StoreAt W sb sm c.limit c.calm
 f : w.heap.size <= pb /\ w.heap.size <= ph /\ w.heap.size <= pw /\ w.heap.size <= sb /\ w.heap.size <= sm
 d : sb ≠ pb /\ sb ≠ ph /\ sb ≠ pw /\ sm ≠ pb /\ sm ≠ ph /\ sm ≠ pw
set_option maxRecDepth 100000 in
theorem xparts_any {okt : Nat -> Prop} {t : TpS} (h : w.heap[lb]? = some (.cells (xCells c tb tv sv wv pv now ids calls ev gr) 45 (0, 0))) (ht : TapeAt w tb okt t) (hto : ∀ b, okt b -> b < w.heap.size) (hI : I64 c.auth) :
 Calls Tryz.prog 56 #[.pointer (some ⟨lb, 0, none⟩)] w fun e w' => ∃ x, e = .returned (.int .i64 x) /\ Keep (fun g => g = lb) w w' /\ (XOk c -> x = 0) /\ (x = 0 -> ∃ pb ph pw sb sm, Parts w w' lb c tb tv sv now ids calls ev gr pb ph pw sb sm) := by
 have hlt := (Array.getElem?_eq_some_iff.1 h).1; have hb1 := (Below.refl w.heap.size w).alloc (Nat.le_refl _) (.cells c.cells 35 (0, 0)); have hP0 : PI w (w.alloc (.cells c.cells 35 (0, 0))) lb c tb tv sv wv pv now ids calls ev gr := ⟨Keep.of_below _ hb1, (hb1.block lb hlt).trans h, at1 _ _, hlt⟩; have HP0 := H_ hP0; have HT := H_ (A_ (ht.below hb1) (fun b hb => Nat.lt_of_lt_of_le (hto b hb) hb1.size)); have HI := H_ hI; have HRG := H_ (xRange h); clear h ht hto hI hlt hb1 hP0; go_enter Tryz.func56, Tryz.ntmps56
 go_upto_region 2 with (first | (refine wpl_cfgload rfl _ rfl lb (by rfl) c HRG.out ?_) | (refine wpl_cfgalloc c (by rfl) (by rfl) ?_))
 obtain ⟨W, hW⟩ : ∃ W, W = w.alloc (.cells c.cells 35 (0, 0)) := ⟨_, rfl⟩; rw [<- hW] at HP0 HT ⊢; clear hW HRG; go_wp2_with fail; refine (xlink_any HP0.out.xl HT HI).mono ?_; rintro e w1 ⟨p1, x, rfl, b1, hx1⟩; have HP1 := H_ (HP0.out.go b1); have HX1 := H_ hx1; clear b1 hx1
 by_cases hx : x = 0
 case neg =>
  have q1 : (x != 0) = true := by simpa using hx
  have q2 : (x == 0) = false := by simpa using hx
  have HN := H_ hx; clear hx; go_wp2_with fail; go_ret; exact ⟨x, rfl, HP1.out.k, fun h => absurd (HX1.out.2 h.1) HN.out, fun h => absurd h HN.out⟩
 subst hx; have HOK := H_ (HX1.out.1 rfl); have g0 := cellOf HP1.out.xc 0 (.string c.name) rfl; have g11 := cellOf HP1.out.xc 11 (.int .i64 c.rt) rfl; have g10 := cellOf HP1.out.xc 10 (.int .i64 c.wt) rfl; go_wp2_with fail; refine (servNew_any c.name c.rt c.wt w1).mono ?_; rintro e w2 ⟨p2, x, rfl, b2, hx2⟩; have HP2 := H_ (HP1.out.go b2); have HX2 := H_ hx2; clear b2 hx2 g0 g11 g10
 by_cases hx : x = 0
 case neg =>
  have q1 : (x != 0) = true := by simpa using hx
  have q2 : (x == 0) = false := by simpa using hx
  have HN := H_ hx; clear hx; go_wp2_with fail; go_ret; exact ⟨x, rfl, HP2.out.k, fun h => absurd (HX2.out h.2.1) HN.out, fun h => absurd h HN.out⟩
 subst hx; go_wp2_with fail; refine (xtunnel_any HP2.out.xl 1).mono ?_; rintro e w3 ⟨p3, x, rfl, b3, hx3⟩; have HP3 := H_ (HP2.out.go b3); have HX3 := H_ hx3; clear b3 hx3
 by_cases hx : x = 0
 case neg =>
  have q1 : (x != 0) = true := by simpa using hx
  have q2 : (x == 0) = false := by simpa using hx
  have HN := H_ hx; clear hx; go_wp2_with fail; go_ret; exact ⟨x, rfl, HP3.out.k, fun h => absurd (HX3.out h.2.2.1) HN.out, fun h => absurd h HN.out⟩
 subst hx; have g21 := cellOf HP3.out.xc 21 (.int .u8 (c.base.a.toNat : Int)) rfl; have g22 := cellOf HP3.out.xc 22 (.int .u8 (c.base.b.toNat : Int)) rfl; have g23 := cellOf HP3.out.xc 23 (.int .u8 (c.base.c.toNat : Int)) rfl; have g24 := cellOf HP3.out.xc 24 (.int .u8 (c.base.d.toNat : Int)) rfl; have g33 := cellOf HP3.out.xc 33 (.int .i64 c.pool) rfl; have HPN := H_ (poolNew_any c.base c.pool w3); unfold Ad.v at HPN; go_wp2_with fail; refine HPN.out.mono ?_; rintro e w4 ⟨p4, x, rfl, b4, hx4, hy4⟩; have HP4 := H_ (HP3.out.go b4); have HX4 := H_ (A_ hx4 hy4); clear b4 hx4 hy4 HPN g21 g22 g23 g24 g33; have y42 := cellOf HP4.out.xl 42 pv rfl; have fz := fun o => fzOf HP4.out.xl o
 go_upto_region 13 with (fail)
 have HP5 := H_ (HP4.out.pool (.pointer p4)); have HZ4 := H_ (show Keep (fun g => g = lb) w4 (w4.setCell ⟨lb, 42, none⟩ (.pointer p4)) from (Keep.refl (fun g => g = lb) w4).setCell ⟨lb, 42, none⟩ (Or.inr rfl) (.pointer p4)); have HSZ := H_ (A_ HP3.out.sz HP3.out.lt); clear y42 fz; generalize w4.setCell ⟨lb, 42, none⟩ (.pointer p4) = w5 at *
 by_cases hx : x = 0
 case neg =>
  have q1 : (x != 0) = true := by simpa using hx
  have q2 : (x == 0) = false := by simpa using hx
  have HN := H_ hx; clear hx; go_wp2_with fail; go_ret; exact ⟨x, rfl, HP5.out.k, fun h => absurd (HX4.out.1 h.2.2.2.1) HN.out, fun h => absurd h HN.out⟩
 subst hx; obtain ⟨pb, ph, pw, rfl, hp, hf⟩ := HX4.out.2 rfl; have HPO := H_ (A_ (hp.same (HZ4.out.block _ (Array.getElem?_eq_some_iff.1 hp.blk).1 (by have := HSZ.out; omega)) (HZ4.out.block _ (Array.getElem?_eq_some_iff.1 hp.h).1 (by have := HSZ.out; omega)) (HZ4.out.block _ (Array.getElem?_eq_some_iff.1 hp.v).1 (by have := HSZ.out; omega))) hf); clear hp hf; have g34 := cellOf HP5.out.xc 34 (.int .i64 c.rate) rfl; have g35 := cellOf HP5.out.xc 35 (.int .i64 c.burst) rfl; go_wp2_with fail; refine (policeNew_any c.rate c.burst w5).mono ?_; rintro e w6 ⟨p6, x, rfl, b6, hx6⟩; have HP6 := H_ (HP5.out.go b6); have HX6 := H_ hx6; have HB6 := H_ b6; clear b6 hx6 g34 g35
 by_cases hx : x = 0
 case neg =>
  have q1 : (x != 0) = true := by simpa using hx
  have q2 : (x == 0) = false := by simpa using hx
  have HN := H_ hx; clear hx; go_wp2_with fail; go_ret; exact ⟨x, rfl, HP6.out.k, fun h => absurd (HX6.out h.2.2.2.2.1) HN.out, fun h => absurd h HN.out⟩
 subst hx; have g36 := cellOf HP6.out.xc 36 (.int .i64 c.limit) rfl; have g37 := cellOf HP6.out.xc 37 (.int .i64 c.calm) rfl; go_wp2_with fail; refine (storeNew_any c.limit c.calm w6).mono ?_; rintro e w7 hs7
 obtain ⟨p7, x, he7, b7, hs7'⟩ : ∃ p x, e = .returned (.tuple #[.pointer p, .int .i64 x]) /\ Below w6.heap.size w6 w7 /\ ((x ≠ 0 /\ ¬ (0 <= c.limit /\ c.limit <= 100 /\ 1 <= c.calm /\ c.calm <= 1000)) \/ (x = 0 /\ p = some ⟨w6.heap.size + 1, 0, none⟩ /\ StoreAt w7 (w6.heap.size + 1) w6.heap.size c.limit c.calm)) := by
  rcases hs7 with ⟨x, he, hx, hn, rfl⟩ | ⟨he, h1, h2, hb⟩
  . exact ⟨_, x, he, Below.refl _ _, .inl ⟨hx, hn⟩⟩
  . exact ⟨_, 0, he, hb, .inr ⟨rfl, rfl, h1, h2⟩⟩
 subst he7; have HP7 := H_ (HP6.out.go b7); have HX7 := H_ hs7'; have HB7 := H_ b7; clear b7 hs7 hs7' g36 g37; have y41 := cellOf HP7.out.xl 41 wv rfl; have fz := fun o => fzOf HP7.out.xl o
 go_upto_region 19 with (fail)
 have HP8 := H_ (HP7.out.who (.pointer p7)); have HZ7 := H_ (show Keep (fun g => g = lb) w7 (w7.setCell ⟨lb, 41, none⟩ (.pointer p7)) from (Keep.refl (fun g => g = lb) w7).setCell ⟨lb, 41, none⟩ (Or.inr rfl) (.pointer p7)); clear y41 fz; generalize w7.setCell ⟨lb, 41, none⟩ (.pointer p7) = w8 at *
 by_cases hx : x = 0
 case neg =>
  have q1 : (x != 0) = true := by simpa using hx
  have q2 : (x == 0) = false := by simpa using hx
  have HN := H_ hx; clear hx; go_wp2_with fail; go_ret; exact ⟨x, rfl, HP8.out.k, fun h => absurd (HX7.out.elim (fun h' => absurd h.2.2.2.2.2 h'.2) (fun h' => h'.1)) HN.out, fun h => absurd h HN.out⟩
 subst hx; obtain ⟨rfl, hst⟩ : p7 = some ⟨w6.heap.size + 1, 0, none⟩ /\ StoreAt w7 (w6.heap.size + 1) w6.heap.size c.limit c.calm := HX7.out.elim (fun h' => absurd rfl h'.1) (fun h' => h'.2); have HST := H_ hst; clear hst; have g21 := cellOf HP8.out.xc 21 (.int .u8 (c.base.a.toNat : Int)) rfl; have g22 := cellOf HP8.out.xc 22 (.int .u8 (c.base.b.toNat : Int)) rfl; have g23 := cellOf HP8.out.xc 23 (.int .u8 (c.base.c.toNat : Int)) rfl; have g24 := cellOf HP8.out.xc 24 (.int .u8 (c.base.d.toNat : Int)) rfl; have HAD := H_ (xaddr_any HP8.out.xl c.base HOK.out); unfold Ad.v at HAD; go_wp2_with fail; refine HAD.out.mono ?_; rintro e w9 ⟨p9, rfl, b9⟩; have HP9 := H_ (HP8.out.go b9); have HB9 := H_ b9; clear b9; go_wp2_with fail; go_ret; have hlb := HP8.out.lt; have h6 := HP6.out.sz; have hsb : w6.heap.size + 1 < w7.heap.size := (Array.getElem?_eq_some_iff.1 HST.out.blk).1; have s8 := HZ7.out.size; have up : ∀ g, g < w6.heap.size -> g ≠ lb -> w9.heap[g]? = w6.heap[g]? := fun g hg hn => (HB9.out.block g (by omega)).trans ((HZ7.out.block g (by omega) hn).trans (HB7.out.block g hg)); have up7 : ∀ g, g < w7.heap.size -> g ≠ lb -> w9.heap[g]? = w7.heap[g]? := fun g hg hn => (HB9.out.block g (by omega)).trans (HZ7.out.block g hg hn); have hp6 : PoolAt w6 pb ph pw c.base c.pool := HPO.out.1.same (HB6.out.block _ (Array.getElem?_eq_some_iff.1 HPO.out.1.blk).1) (HB6.out.block _ (Array.getElem?_eq_some_iff.1 HPO.out.1.h).1) (HB6.out.block _ (Array.getElem?_eq_some_iff.1 HPO.out.1.v).1); have l1 := (Array.getElem?_eq_some_iff.1 hp6.blk).1; have l2 := (Array.getElem?_eq_some_iff.1 hp6.h).1; have l3 := (Array.getElem?_eq_some_iff.1 hp6.v).1; have hf := HPO.out.2; have hz := HSZ.out; refine ⟨0, rfl, HP9.out.k, fun _ => rfl, fun _ => ⟨pb, ph, pw, w6.heap.size + 1, w6.heap.size, HP9.out, ?_, ?_, ⟨by omega, by omega, by omega, by omega, by omega⟩, ⟨by omega, by omega, by omega, by omega, by omega, by omega⟩⟩⟩
 . exact hp6.same (up _ l1 (by omega)) (up _ l2 (by omega)) (up _ l3 (by omega))
 . exact ⟨(up7 _ hsb (by omega)).trans HST.out.blk, (up7 _ (by omega) (by omega)).trans HST.out.m⟩
end
theorem box_cfg (c : XCfg) (w : World) : (Instr.box 35 (.agg c.cells)).run Tryz.prog w = .ok (.pointer (some ⟨w.heap.size, 0, none⟩)) (w.alloc (.cells c.cells 35 (0, 0))) := by kernel_rfl
theorem wpl_cfgbox {ops : Array Oper} {rest : List Oper} {Q : Exit -> Act -> World -> Prop} {a : Act} {w : World} (c : XCfg) {d : Tmp} {y : Operand} {t1 : TypeId} {p1 : String} {f1 : Array Edge} (hy : a.eval y = .agg c.cells)
 (h : wpList Tryz.prog ops Q rest (a.put (some d) (.pointer (some ⟨w.heap.size, 0, none⟩))) (w.alloc (.cells c.cells 35 (0, 0)))) :
 wpList Tryz.prog ops Q ({ dst := some d, op := .box 35 y, type := t1, pos := p1, after := f1, guard := none } :: rest) a w := by
 refine Go.Tg.step_val (v := .pointer (some ⟨w.heap.size, 0, none⟩)) (w' := w.alloc (.cells c.cells 35 (0, 0))) rfl ?_ h; simp only [execOp, hy, Sem.run_bind, box_cfg, Result.andThen_ok, Sem.run_pure]
def xCells0 (c : XCfg) (tb mt ms : Nat) : Array Value := xCells c tb (.map (some mt)) (.map (some ms)) (.pointer none) (.pointer none) 0 0 0 (.slice none 0 0) (.slice none 0 0)
theorem build_lns (c : XCfg) (tb mt ms : Nat) (w : World) : (Instr.build 45 #[(0, .agg c.cells), (1, .pointer (some ⟨tb, 0, none⟩)), (2, .map (some mt)), (3, .map (some ms))]).run Tryz.prog w = .ok (.agg (xCells0 c tb mt ms)) w := by kernel_rfl
theorem box_lns (c : XCfg) (tb mt ms : Nat) (w : World) : (Instr.box 45 (.agg (xCells0 c tb mt ms))).run Tryz.prog w = .ok (.pointer (some ⟨w.heap.size, 0, none⟩)) (w.alloc (.cells (xCells0 c tb mt ms) 45 (0, 0))) := by kernel_rfl
theorem wpl_newlns {ops : Array Oper} {rest : List Oper} {Q : Exit -> Act -> World -> Prop} {a : Act} {w : World} (c : XCfg) (tb mt ms : Nat) {d1 d2 : Tmp} {y0 y1 y2 y3 : Operand} {t1 t2 : TypeId} {p1 p2 : String} {f1 f2 : Array Edge}
 (h0 : a.eval y0 = .agg c.cells) (h1 : a.eval y1 = .pointer (some ⟨tb, 0, none⟩)) (h2 : a.eval y2 = .map (some mt)) (h3 : a.eval y3 = .map (some ms))
 (hx : (a.put (some d1) (.agg (xCells0 c tb mt ms))).eval (.tmp d1) = .agg (xCells0 c tb mt ms))
 (h : wpList Tryz.prog ops Q rest ((a.put (some d1) (.agg (xCells0 c tb mt ms))).put (some d2) (.pointer (some ⟨w.heap.size, 0, none⟩))) (w.alloc (.cells (xCells0 c tb mt ms) 45 (0, 0)))) :
 wpList Tryz.prog ops Q ({ dst := some d1, op := .build 45 #[(0, y0), (1, y1), (2, y2), (3, y3)], type := t1, pos := p1, after := f1, guard := none } :: { dst := some d2, op := .box 45 (.tmp d1), type := t2, pos := p2, after := f2, guard := none } :: rest) a w := by
 refine Go.Tg.step_val (v := .agg (xCells0 c tb mt ms)) (w' := w) rfl ?_ ?_
 . simp only [execOp, List.map_toArray, List.map_cons, List.map_nil, h0, h1, h2, h3, Sem.run_bind, build_lns, Result.andThen_ok, Sem.run_pure]
 . refine Go.Tg.step_val (v := .pointer (some ⟨w.heap.size, 0, none⟩)) (w' := w.alloc (.cells (xCells0 c tb mt ms) 45 (0, 0))) rfl ?_ h; simp only [execOp, hx, Sem.run_bind, box_lns, Result.andThen_ok, Sem.run_pure]
theorem cfg_range {w : World} {b : Nat} {c : XCfg} (h : w.heap[b]? = some (.cells c.cells 35 (0, 0))) : w.rangeAt b 0 c.cells.toList := fun j v hv => by
 rw [cell_of_row w b (0 + j) _ _ _ h, Nat.zero_add, <- Array.getElem?_toList]; exact hv
structure XAt (w0 w : World) (c : XCfg) (lb tb mt ms pb ph pw sb sm : Nat) (now : Int) : Prop where
 bl : Below w0.heap.size w0 w
 xl : w.heap[lb]? = some (.cells (xCells c tb (.map (some mt)) (.map (some ms)) (.pointer (some ⟨sb, 0, none⟩)) (.pointer (some ⟨pb, 0, none⟩)) now 0 0 (.slice none 0 0) (.slice none 0 0)) 45 (0, 0))
 mt' : w.heap[mt]? = some (.map #[] 0)
 ms' : w.heap[ms]? = some (.map #[] 0)
 p : PoolAt w pb ph pw c.base c.pool
 s : StoreAt w sb sm c.limit c.calm
 lo : w0.heap.size <= lb /\ w0.heap.size <= sb /\ w0.heap.size <= sm
 d : mt ≠ lb /\ ms ≠ lb /\ pb ≠ lb /\ ph ≠ lb /\ pw ≠ lb /\ sb ≠ lb /\ sm ≠ lb
 e : mt ≠ sm /\ ms ≠ sm /\ pb ≠ sm /\ ph ≠ sm /\ pw ≠ sm /\ sb ≠ sm
def XGood (c : XCfg) : Prop := (1 <= c.node /\ c.node <= 65535) /\ c.secret.size <= 60 /\ adE c.own Ad.z = false /\ adE c.base Ad.z = false /\ XOk c /\ c.auth ≠ 0
def XNew (w w' : World) (c : XCfg) (e : Ending) : Prop := (∃ x, e = .returned (.tuple #[.pointer none, .int .i64 x]) /\ x ≠ 0 /\ ¬ XGood c /\ Below w.heap.size w w') \/
 ∃ lb tb mt ms pb ph pw sb sm, e = .returned (.tuple #[.pointer (some ⟨lb, 0, none⟩), .int .i64 0]) /\ XAt w w' c lb tb mt ms pb ph pw sb sm 0
set_option maxRecDepth 100000 in
theorem xnew_any (c : XCfg) (w : World) (hI : I64 c.auth) (hs : c.secret.size <= maxLen) : Calls Tryz.prog 20 #[.agg c.cells, .pointer none] w fun e w' => XNew w w' c e := by
 have q1 : ∀ w, (binOp .eql 36 (.pointer none) (.pointer none)).run Tryz.prog w = .ok (.bool true) w := fun w => by kernel_rfl
 have hmm := @run_makeMap Tryz.prog; have hb1 := (Below.refl w.heap.size w).alloc (Nat.le_refl _) (.cells c.cells 35 (0, 0)); obtain ⟨W, hW⟩ : ∃ W, W = (w.alloc (.cells c.cells 35 (0, 0))).alloc (.cells #[.int .u8 0, .int .u8 0, .int .u8 0, .int .u8 0] 27 (0, 0)) := ⟨_, rfl⟩; have hb2 : Below w.heap.size w W := by rw [hW]; exact hb1.alloc hb1.size _
 have x0 : W.heap[w.heap.size]? = some (.cells c.cells 35 (0, 0)) := by rw [hW]; exact at20 _ _ _
 have x1 : W.heap[w.heap.size + 1]? = some (.cells #[.int .u8 0, .int .u8 0, .int .u8 0, .int .u8 0] 27 (0, 0)) := by rw [hW]; exact at21 _ _ _
 have hsz : W.heap.size = w.heap.size + 1 + 1 := by rw [hW, alloc1, alloc1]
 have HX := H_ (A_ hb2 (A_ x0 (A_ x1 hsz))); have HI := H_ hI; have g2 := cellOf x0 2 (.int .i64 c.node) rfl; have g1 := cellOf x0 1 (.string c.secret) rfl; have g17 := cellOf x0 17 (.int .u8 (c.own.a.toNat : Int)) rfl; have g18 := cellOf x0 18 (.int .u8 (c.own.b.toNat : Int)) rfl; have g19 := cellOf x0 19 (.int .u8 (c.own.c.toNat : Int)) rfl; have g20 := cellOf x0 20 (.int .u8 (c.own.d.toNat : Int)) rfl; have g21 := cellOf x0 21 (.int .u8 (c.base.a.toNat : Int)) rfl; have g22 := cellOf x0 22 (.int .u8 (c.base.b.toNat : Int)) rfl; have g23 := cellOf x0 23 (.int .u8 (c.base.c.toNat : Int)) rfl; have g24 := cellOf x0 24 (.int .u8 (c.base.d.toNat : Int)) rfl; have n0 := cellOf x1 0 (.int .u8 0) rfl; have n1 := cellOf x1 1 (.int .u8 0) rfl; have n2 := cellOf x1 2 (.int .u8 0) rfl; have n3 := cellOf x1 3 (.int .u8 0) rfl; have E1 := adEql c.own Ad.z; have E2 := adEql c.base Ad.z; have E1 : ∀ w, (binOp .eql 27 (.agg #[.int .u8 (c.own.a.toNat : Int), .int .u8 (c.own.b.toNat : Int), .int .u8 (c.own.c.toNat : Int), .int .u8 (c.own.d.toNat : Int)]) (.agg #[.int .u8 0, .int .u8 0, .int .u8 0, .int .u8 0])).run Tryz.prog w = .ok (.bool (adE c.own Ad.z)) w := E1; have E2 : ∀ w, (binOp .eql 27 (.agg #[.int .u8 (c.base.a.toNat : Int), .int .u8 (c.base.b.toNat : Int), .int .u8 (c.base.c.toNat : Int), .int .u8 (c.base.d.toNat : Int)]) (.agg #[.int .u8 0, .int .u8 0, .int .u8 0, .int .u8 0])).run Tryz.prog w = .ok (.bool (adE c.base Ad.z)) w := E2; unfold maxLen at hs; clear hb1 hb2 x0 x1 hsz hI
 by_cases e0 : c.node < 1
 . have d0 : decide (c.node < 1) = true := by simp; omega
   have HN := H_ (show ¬ XGood c from fun h => by have := h.1.1; omega); clear e0; go_enter Tryz.func20, Tryz.ntmps20
   go_upto_region 2 with (refine wpl_cfgbox c (by rfl) ?_)
   rw [<- hW]; clear hW; go_wp2_with fail; go_ret2; exact .inl ⟨1, rfl, by decide, HN.out, HX.out.1⟩
 have d0 : decide (c.node < 1) = false := by simp; omega
 by_cases e1 : 65535 < c.node
 . have d1 : decide (65535 < c.node) = true := by simp; omega
   have HN := H_ (show ¬ XGood c from fun h => by have := h.1.2; omega); clear e0 e1; go_enter Tryz.func20, Tryz.ntmps20
   go_upto_region 2 with (refine wpl_cfgbox c (by rfl) ?_)
   rw [<- hW]; clear hW; go_wp2_with fail; go_ret2; exact .inl ⟨1, rfl, by decide, HN.out, HX.out.1⟩
 have d1 : decide (65535 < c.node) = false := by simp; omega
 by_cases e2 : 60 < c.secret.size
 . have d2 : decide ((60 : Int) < (c.secret.size : Int)) = true := by simp; omega
   have HN := H_ (show ¬ XGood c from fun h => by have := h.2.1; omega); clear e0 e1 e2; go_enter Tryz.func20, Tryz.ntmps20
   go_upto_region 2 with (refine wpl_cfgbox c (by rfl) ?_)
   rw [<- hW]; clear hW; go_wp2_with fail; go_ret2; exact .inl ⟨1, rfl, by decide, HN.out, HX.out.1⟩
 have d2 : decide ((60 : Int) < (c.secret.size : Int)) = false := by simp; omega
 obtain ⟨b0, hb0⟩ : ∃ b, adE c.own Ad.z = b := ⟨_, rfl⟩; rw [hb0] at E1; cases b0
 case true =>
  have HN := H_ (show ¬ XGood c from fun h => by have := h.2.2.1; rw [hb0] at this; cases this); go_enter Tryz.func20, Tryz.ntmps20
  go_upto_region 2 with (refine wpl_cfgbox c (by rfl) ?_)
  rw [<- hW]; clear hW; go_wp2_with fail; go_ret2; exact .inl ⟨1, rfl, by decide, HN.out, HX.out.1⟩
 obtain ⟨b1, hb1⟩ : ∃ b, adE c.base Ad.z = b := ⟨_, rfl⟩; rw [hb1] at E2; cases b1
 case true =>
  have HN := H_ (show ¬ XGood c from fun h => by have := h.2.2.2.1; rw [hb1] at this; cases this); go_enter Tryz.func20, Tryz.ntmps20
  go_upto_region 2 with (refine wpl_cfgbox c (by rfl) ?_)
  rw [<- hW]; clear hW; go_wp2_with fail; go_ret2; exact .inl ⟨1, rfl, by decide, HN.out, HX.out.1⟩
 have HG : Hid (c.auth ≠ 0 -> ¬ XGood c -> ¬ XOk c) := H_ fun h1 h2 h3 => h2 ⟨by omega, by omega, hb0, hb1, h3, h1⟩; have HG2 := H_ (show c.auth = 0 -> ¬ XGood c from fun h1 h2 => h2.2.2.2.2.2 h1); have HG3 := H_ (show XGood c -> XOk c from fun h => h.2.2.2.2.1); clear e0 e1 e2 hs hb0 hb1; go_enter Tryz.func20, Tryz.ntmps20
 go_upto_region 2 with (refine wpl_cfgbox c (by rfl) ?_)
 rw [<- hW]; clear hW; go_wp2_with fail; refine (tapeNew_any [] _ (fun _ => False) _ (Rec.nil _ _ _) (fun _ h => by cases h) (by decide)).mono ?_; rintro e w3 ⟨tb, rfl, t3, lo3, b3⟩; have HT := H_ (A_ t3 (A_ t3.lt b3)); have x3 := (b3.block w.heap.size (by rw [HX.out.2.2.2]; omega)).trans HX.out.2.1; have HR := H_ (cfg_range x3); have HX3 := H_ x3; clear t3 b3 x3 n0 n1 n2 n3 E1 E2 d0 d1 d2 g2 g1 g17 g18 g19 g20 g21 g22 g23 g24
 go_upto_region 7 with (first | (refine wpl_cfgload rfl _ rfl w.heap.size (by rfl) c HR.out ?_) | (refine wpl_newlns c tb w3.heap.size (w3.heap.size + 1) (by rfl) (by rfl) (by rfl) (by rfl) (by rfl) ?_))
 obtain ⟨V, hV⟩ : ∃ V, V = ((w3.alloc (.map #[] 0)).alloc (.map #[] 0)).alloc (.cells (xCells0 c tb w3.heap.size (w3.heap.size + 1)) 45 (0, 0)) := ⟨_, rfl⟩; have hbV : Below w3.heap.size w3 V := by rw [hV]; exact (((Below.refl _ _).alloc (Nat.le_refl _) _).alloc (by rw [alloc1]; omega) _).alloc (by rw [alloc1, alloc1]; omega) _
 have v0 : V.heap[w3.heap.size]? = some (.map #[] 0) := by rw [hV, Below.heap_alloc _ _ _ (by rw [alloc1, alloc1]; omega)]; exact at20 _ _ _
 have v1 : V.heap[w3.heap.size + 1]? = some (.map #[] 0) := by rw [hV, Below.heap_alloc _ _ _ (by rw [alloc1, alloc1]; omega)]; exact at21 _ _ _
 have v2 : V.heap[w3.heap.size + 1 + 1]? = some (.cells (xCells0 c tb w3.heap.size (w3.heap.size + 1)) 45 (0, 0)) := by rw [hV, <- alloc1 w3 (.map #[] 0), <- alloc1 (w3.alloc (.map #[] 0)) (.map #[] 0)]; exact at1 _ _
 have vs : V.heap.size = w3.heap.size + 1 + 1 + 1 := by rw [hV, alloc1, alloc1, alloc1]
 rw [<- hV]; clear hV; have HP := H_ (xparts_any (lb := w3.heap.size + 1 + 1) (c := c) (tb := tb) (tv := .map (some w3.heap.size)) (sv := .map (some (w3.heap.size + 1))) v2 (HT.out.1.below hbV) (fun b hb => by have := HT.out.2.1; have := hb.2; omega) HI.out); have HV := H_ (A_ hbV (A_ v0 (A_ v1 vs))); clear hbV v0 v1 v2 vs; go_wp2_with fail; refine HP.out.mono ?_; rintro e w4 ⟨x, rfl, hk, hok, hp⟩; have HK := H_ (A_ hk (A_ hok hp)); have hz3 := HT.out.2.2.size
 have HBB : Hid (Below w.heap.size w w4) := H_ (by
  have h3 : Below w.heap.size w w3 := HX.out.1.trans (HT.out.2.2.mono HX.out.1.size); have hv : Below w.heap.size w V := h3.trans (HV.out.1.mono h3.size)
  exact hv.trans (hk.below hv.size (fun g hg he => by have he : g = w3.heap.size + 1 + 1 := he; have := HX.out.1.size; omega)))
 clear hk hok hp HP
 by_cases hx : x = 0
 case neg =>
  have q2 : (x != 0) = true := by simpa using hx
  have q3 : (x == 0) = false := by simpa using hx
  have HN := H_ hx; clear hx; go_wp2_with fail; go_ret2; exact .inl ⟨x, rfl, HN.out, fun hg => HN.out (HK.out.2.1 (HG3.out hg)), HBB.out⟩
 subst hx; have x4 := (HK.out.1.block w.heap.size (by rw [HV.out.2.2.2]; have := HX.out.2.2.2; omega) (fun he => by have he : w.heap.size = w3.heap.size + 1 + 1 := he; have := HX.out.2.2.2; omega)).trans ((HV.out.1.block w.heap.size (by have := HX.out.2.2.2; omega)).trans HX3.out); have g3 := cellOf x4 3 (.int .i64 c.auth) rfl; clear x4
 by_cases ha : c.auth = 0
 case pos =>
  have q2 : (c.auth == 0) = true := by simpa using ha
  have HN := H_ (HG2.out ha); clear ha; go_wp2_with fail; go_ret2; exact .inl ⟨1, rfl, by decide, HN.out, HBB.out⟩
 have q2 : (c.auth == 0) = false := by simpa using ha
 clear ha; go_wp2_with fail; go_ret2; obtain ⟨pb, ph, pw, sb, sm, hP⟩ := HK.out.2.2 (by first | rfl | trivial)
 have hss : sb ≠ sm := fun h => by
  have := hP.s.blk; rw [h, hP.s.m] at this; cases this
 have f := hP.f; have d := hP.d; have hzz := HX.out.2.2.2; have hvs := HV.out.2.2.2; refine .inr ⟨w3.heap.size + 1 + 1, tb, w3.heap.size, w3.heap.size + 1, pb, ph, pw, sb, sm, rfl, HBB.out, hP.at'.xl, ?_, ?_, hP.p, hP.s, ⟨by omega, by omega, by omega⟩, ⟨by omega, by omega, by omega, by omega, by omega, by omega, by omega⟩, ⟨by omega, by omega, by omega, by omega, by omega, hss⟩⟩
 . exact (HK.out.1.block _ (by omega) (fun he => by have he : w3.heap.size = w3.heap.size + 1 + 1 := he; omega)).trans HV.out.2.1
 . exact (HK.out.1.block _ (by omega) (fun he => by have he : w3.heap.size + 1 = w3.heap.size + 1 + 1 := he; omega)).trans HV.out.2.2.1
theorem mapNone {K : TypeId} {w : World} {b : Nat} (h : w.heap[b]? = some (.map #[] 0)) : MapAt Tryz.prog K w b (fun _ => none) := ⟨#[], 0, h, Go.MapKept.stamped_empty 0, by simp, by simp⟩
theorem lookNone {T K E : TypeId} {w : World} {b : Nat} (Kd : Keyed Tryz.prog K) (ht : Tryz.prog.underlying T = some (.map K E)) {k z : Value} (hk : KV Tryz.prog K k) (hz : (zeroValue E).run Tryz.prog w = .ok z w) (h : w.heap[b]? = some (.map #[] 0)) (ok : Bool) :
 (Instr.lookup T (.map (some b)) k ok).run Tryz.prog w = .ok (if ok then .tuple #[z, .bool false] else z) w := (mapNone h).run_lookup Kd ht hk hz ok
theorem ktLK : Tryz.prog.keyTypeAt 3 25 = true := by kernel_rfl
theorem szLK : decide (25 < Tryz.prog.types.size) = true := by kernel_rfl
theorem wdLK : (match Tryz.prog.underlying 25 with | some (.array _ _) | some (.struct _) => true | _ => false) = true := by kernel_rfl
set_option maxRecDepth 100000 in
theorem keyedLK : Keyed Tryz.prog 25 := Keyed.of_law (deep_law_laid laidOut (m := 3) (by omega) (of_decide_eq_true szLK) ktLK wdLK)
theorem ktAd : Tryz.prog.keyTypeAt 3 27 = true := by kernel_rfl
theorem szAd : decide (27 < Tryz.prog.types.size) = true := by kernel_rfl
theorem wdAd : (match Tryz.prog.underlying 27 with | some (.array _ _) | some (.struct _) => true | _ => false) = true := by kernel_rfl
set_option maxRecDepth 100000 in
theorem keyedAd : Keyed Tryz.prog 27 := Keyed.of_law (deep_law_laid laidOut (m := 3) (by omega) (of_decide_eq_true szAd) ktAd wdAd)
theorem kvLK11 : KV Tryz.prog 25 (.agg #[.int .i64 1, .int .i64 1]) := by
 have h : (keyOf Tryz.prog 25 (.agg #[.int .i64 1, .int .i64 1])).isSome = true := by kernel_rfl
 exact Option.isSome_iff_exists.1 h
theorem kvBase : KV Tryz.prog 27 (.agg #[.int .u8 10, .int .u8 0, .int .u8 0, .int .u8 10]) := by
 have h : (keyOf Tryz.prog 27 (.agg #[.int .u8 10, .int .u8 0, .int .u8 0, .int .u8 10])).isSome = true := by kernel_rfl
 exact Option.isSome_iff_exists.1 h
theorem zPK (w : World) : (zeroValue 223).run Tryz.prog w = .ok (.agg #[.int .i64 0, .int .i64 0]) w := by kernel_rfl
theorem zTun (w : World) : (zeroValue 119).run Tryz.prog w = .ok (.pointer none) w := by kernel_rfl
theorem zSeat (w : World) : (zeroValue 109).run Tryz.prog w = .ok (.pointer none) w := by kernel_rfl
structure XC (w : World) (c : XCfg) (lb tb mt ms pb ph pw sb : Nat) (now : Int) : Prop where
 xl : w.heap[lb]? = some (.cells (xCells c tb (.map (some mt)) (.map (some ms)) (.pointer (some ⟨sb, 0, none⟩)) (.pointer (some ⟨pb, 0, none⟩)) now 0 0 (.slice none 0 0) (.slice none 0 0)) 45 (0, 0))
 mt' : w.heap[mt]? = some (.map #[] 0)
 ms' : w.heap[ms]? = some (.map #[] 0)
 p : PoolAt w pb ph pw c.base c.pool
 d : mt ≠ lb /\ ms ≠ lb /\ pb ≠ lb /\ ph ≠ lb /\ pw ≠ lb
theorem XAt.c {w0 w : World} {c : XCfg} {lb tb mt ms pb ph pw sb sm : Nat} {now : Int} (h : XAt w0 w c lb tb mt ms pb ph pw sb sm now) : XC w c lb tb mt ms pb ph pw sb now := ⟨h.xl, h.mt', h.ms', h.p, h.d.1, h.d.2.1, h.d.2.2.1, h.d.2.2.2.1, h.d.2.2.2.2.1⟩
theorem lenNone {T K E ty : TypeId} {w : World} {b : Nat} (ht : Tryz.prog.underlying T = some (.map K E)) (h : w.heap[b]? = some (.map #[] 0)) : (Builtin.len_ #[T] ty #[.map (some b)]).run Tryz.prog w = .ok (.int .i64 0) w := by simp [Builtin.len_, run_underlying ht, MapKept.run_getObj_map h, goInt, Result.andThen]
section
variable {w : World} {c : XCfg} {lb tb mt ms pb ph pw sb : Nat} {now : Int}
theorem XC.go {w' : World} (h : XC w c lb tb mt ms pb ph pw sb now) (b : Below w.heap.size w w') : XC w' c lb tb mt ms pb ph pw sb now := by
 have up : ∀ {k o}, w.heap[k]? = some o -> w'.heap[k]? = w.heap[k]? := fun hk => b.block _ (Array.getElem?_eq_some_iff.1 hk).1; exact ⟨(up h.xl).trans h.xl, (up h.mt').trans h.mt', (up h.ms').trans h.ms', h.p.same (up h.p.blk) (up h.p.h) (up h.p.v), h.d⟩
theorem xnone_at (h : XC w c lb tb mt ms pb ph pw sb now) : Calls Tryz.prog 34 #[.pointer (some ⟨lb, 0, none⟩)] w fun e w' => e = .returned (.bool false) /\ w = w' := by
 have q1 : ∀ w a, (binOp .eql 33 (.pointer (some a)) (.pointer none)).run Tryz.prog w = .ok (.bool false) w := fun w a => by kernel_rfl
 have q2 : ∀ w a, (binOp .eql 40 (.pointer (some a)) (.pointer none)).run Tryz.prog w = .ok (.bool false) w := fun w a => by kernel_rfl
 have c42 : w.cell? ⟨lb, 42, none⟩ = some (.pointer (some ⟨pb, 0, none⟩)) := cellOf h.xl 42 _ rfl; clear h; go_enter Tryz.func34, Tryz.ntmps34; go_wp2_with fail; go_ret; exact ⟨rfl, rfl⟩
theorem xTunnel_at (h : XC w c lb tb mt ms pb ph pw sb now) : Calls Tryz.prog 11 #[.pointer (some ⟨lb, 0, none⟩), .int .i64 1] w fun e w' => e = .returned (.tuple #[.int .i64 0, .bool false]) /\ w = w' := by
 have HN := H_ (xnone_at h); have c39 : w.cell? ⟨lb, 39, none⟩ = some (.map (some mt)) := cellOf h.xl 39 _ rfl; have L := lookNone (T := 37) (k := .int .i64 1) (z := .pointer none) keyedI Tryz.underlying37 (kvI (by unfold I64; decide)) (zTun w) h.mt' false; have q1 : ∀ w, (binOp .eql 119 (.pointer none) (.pointer none)).run Tryz.prog w = .ok (.bool true) w := fun w => by kernel_rfl
 simp only [Bool.false_eq_true, if_false] at L; clear h; go_enter Tryz.func11, Tryz.ntmps11; go_wp2_with fail; refine HN.out.mono ?_; rintro e w1 ⟨rfl, rfl⟩; go_wp2_with fail; go_ret2; exact ⟨rfl, rfl⟩
theorem pnone_at {x : Ad} {n : Int} (h : PoolAt w pb ph pw x n) : Calls Tryz.prog 108 #[.pointer (some ⟨pb, 0, none⟩)] w fun e w' => e = .returned (.bool false) /\ w = w' := by
 have q1 : ∀ w a, (binOp .eql 40 (.pointer (some a)) (.pointer none)).run Tryz.prog w = .ok (.bool false) w := fun w a => by kernel_rfl
 have c4 : w.cell? ⟨pb, 4, none⟩ = some (.int .i64 n) := cellOf h.blk 4 _ rfl; have hp := h.pos; have q2 : (n == 0) = false := by simp; omega
 clear h hp; go_enter Tryz.func108, Tryz.ntmps108; go_wp2_with fail; go_ret; exact ⟨rfl, rfl⟩
theorem sorted_at (h : XC w c lb tb mt ms pb ph pw sb now) : Calls Tryz.prog 40 #[.pointer (some ⟨lb, 0, none⟩)] w fun e w' => e = .returned (.slice none 0 0) /\ Below w.heap.size w w' := by
 have c40 : w.cell? ⟨lb, 40, none⟩ = some (.map (some ms)) := cellOf h.xl 40 _ rfl; have HM := H_ (mapNone (K := 25) h.ms'); have HS := H_ (fun w => sortS_nil (.func (Fn.func 91) #[] #[]) (by rfl) w); clear h; go_enter Tryz.func40, Tryz.ntmps40
 go_wp2_with (first | (at_range; refine wpl_range _ rfl _ 38 25 109 rfl Tryz.underlying38 ms (fun _ => none) (by rfl) HM.out ?_; intro w1 n hit hk hsz))
 have hb1 := hk.below (Nat.le_refl _) (fun _ _ h => h); have HB1 := H_ hb1; clear hk hb1; refine wp_loop_rounds 1 ?_; rw [rounds_succ]
 go_wp2_with (first | (at_next; refine wpl_next _ rfl _ rfl 25 w.heap.size ms (fun _ => none) _ _ (by rfl) hit ?_ ?_))
 refine (HS.out _).mono ?_; rintro e w2 ⟨rfl, rfl⟩; go_wp2_with fail; go_ret; exact ⟨rfl, HB1.out⟩
theorem pFree_at {x : Ad} {n : Int} (h : PoolAt w pb ph pw x n) : Calls Tryz.prog 49 #[.pointer (some ⟨pb, 0, none⟩)] w fun e w' => e = .returned (.int .i64 n) /\ Below w.heap.size w w' := by
 have HN := H_ (pnone_at h); have c4 : w.cell? ⟨pb, 4, none⟩ = some (.int .i64 n) := cellOf h.blk 4 _ rfl; have c5 : w.cell? ⟨pb, 5, none⟩ = some (.map (some ph)) := cellOf h.blk 5 _ rfl; have hl : ∀ ty k, (Builtin.len_ #[208] ty #[.map (some ph)]).run Tryz.prog (w.drewN k) = .ok (.int .i64 0) (w.drewN k) := fun ty k => lenNone Tryz.underlying208 h.h; have hp := h.pos; have e1 : wrap64 (n - 0) = n := by unfold wrap64; omega
 have e2 : wrap64 n = n := by unfold wrap64; omega
 clear h hp; go_enter Tryz.func49, Tryz.ntmps49
 go_wp2_with (go_at_call 108; refine HN.out.mono ?_; rintro e w1 ⟨rfl, rfl⟩)
 go_quiet (fail)
 go_wp2_with fail; go_ret; refine ⟨?_, belowN (Below.refl _ _) _⟩
 first | rfl | (rw [e2]; rfl)
theorem xFree_at (h : XC w c lb tb mt ms pb ph pw sb now) : Calls Tryz.prog 16 #[.pointer (some ⟨lb, 0, none⟩)] w fun e w' => e = .returned (.int .i64 c.pool) /\ Below w.heap.size w w' := by
 have HN := H_ (xnone_at h); have HF := H_ (pFree_at h.p); have c42 : w.cell? ⟨lb, 42, none⟩ = some (.pointer (some ⟨pb, 0, none⟩)) := cellOf h.xl 42 _ rfl; clear h; go_enter Tryz.func16, Tryz.ntmps16
 go_wp2_with (first | (go_at_call 34; refine HN.out.mono ?_; rintro e w1 ⟨rfl, rfl⟩) | (go_at_call 49; refine HF.out.mono ?_; rintro e w1 ⟨rfl, b1⟩; have HB := H_ b1; clear b1))
 go_ret; exact ⟨rfl, HB.out⟩
theorem xSeats_at (h : XC w c lb tb mt ms pb ph pw sb now) : Calls Tryz.prog 14 #[.pointer (some ⟨lb, 0, none⟩)] w fun e w' => e = .returned (.slice none 0 0) /\ Below w.heap.size w w' := by
 have HN := H_ (xnone_at h); have HF := H_ (sorted_at h); clear h; go_enter Tryz.func14, Tryz.ntmps14
 go_wp2_with (first | (go_at_call 34; refine HN.out.mono ?_; rintro e w1 ⟨rfl, rfl⟩) | (go_at_call 40; refine HF.out.mono ?_; rintro e w1 ⟨rfl, b1⟩; have HB := H_ b1; clear b1))
 refine wp_loop_rounds 1 ?_; rw [rounds_succ]; go_wp2_with fail; go_ret; exact ⟨rfl, HB.out⟩
theorem XC.grown {W : World} (h : XC w c lb tb mt ms pb ph pw sb now) (hb : Below w.heap.size w W) (d : Nat) (os : Array Obj) : XC (Go.Sort.grow (redrawn W d) os) c lb tb mt ms pb ph pw sb now := h.go (hb.trans ((below_regrown W d os).mono hb.size))
set_option maxRecDepth 100000 in
theorem xseat_at (h : XC w c lb tb mt ms pb ph pw sb now) (a b : Int) (hkv : KV Tryz.prog 25 (.agg #[.int .i64 a, .int .i64 b])) : Calls Tryz.prog 45 #[.pointer (some ⟨lb, 0, none⟩), .agg #[.int .i64 a, .int .i64 b]] w fun e w' => e = .returned (.pointer none) /\ Below w.heap.size w w' := by
 have hb1 : Below w.heap.size w (w.alloc (.cells #[.int .i64 a, .int .i64 b] 25 (0, 0))) := (Below.refl _ _).alloc (Nat.le_refl _) _; have x1 := at1 w (.cells #[.int .i64 a, .int .i64 b] 25 (0, 0)); obtain ⟨W, hW⟩ : ∃ W, W = w.alloc (.cells #[.int .i64 a, .int .i64 b] 25 (0, 0)) := ⟨_, rfl⟩; rw [<- hW] at hb1 x1; have c0 := cell_regrown (cellOf x1 0 (.int .i64 a) rfl); have c1 := cell_regrown (cellOf x1 1 (.int .i64 b) rfl); have c40 := cell_regrown (cellOf (h.go hb1).xl 40 (.map (some ms)) rfl); have HN := H_ (fun (d : Nat) (os : Array Obj) => (xnone_at (h.grown hb1 d os)).mono (fun e w' hq => (⟨hq.1, hq.2 ▸ Below.refl _ _⟩ : e = .returned (.bool false) /\ Below (Go.Sort.grow (redrawn W d) os).heap.size (Go.Sort.grow (redrawn W d) os) w'))); have L : ∀ d os, (Instr.lookup 38 (.map (some ms)) (.agg #[.int .i64 a, .int .i64 b]) false).run Tryz.prog (Go.Sort.grow (redrawn W d) os) = .ok (.pointer none) (Go.Sort.grow (redrawn W d) os) := fun d os => lookNone (T := 38) (z := .pointer none) keyedLK Tryz.underlying38 hkv (zSeat _) (h.grown hb1 d os).ms' false; have q1 : ∀ w, (binOp .eql 109 (.pointer none) (.pointer none)).run Tryz.prog w = .ok (.bool true) w := fun w => by kernel_rfl
 have HB := H_ hb1; clear h hb1 x1 hkv; go_enter Tryz.func45, Tryz.ntmps45
 go_upto_region 1 with (fail)
 rw [<- hW]; clear hW; refine wp_region_quiet_below (by kernel_rfl) (by kernel_rfl) ?_
 repeat (
  with_reducible refine wpQuiet_step (fun K hK => ?_)
  go_simp
  first
   | (refine hK _ ?_; clear hK K)
   | (
    apply Exists.intro
    refine ⟨fun _ => ?_, hK _ ?_⟩
    (first | (go_at_call 34; exact Calls.regrown_of (HN.out _ _)))
    clear hK K))
 refine wpQuiet_nil ?_; rintro _ ⟨⟨nq, osq⟩, rfl⟩; have HB2 := H_ (HB.out.trans ((below_regrown _ nq osq).mono HB.out.size)); go_wp2_with fail; go_ret; exact ⟨rfl, HB2.out⟩
theorem xClose_at (h : XC w c lb tb mt ms pb ph pw sb now) (a b : Int) (hkv : KV Tryz.prog 25 (.agg #[.int .i64 a, .int .i64 b])) : Calls Tryz.prog 19 #[.pointer (some ⟨lb, 0, none⟩), .agg #[.int .i64 a, .int .i64 b]] w fun e w' => e = .returned (.int .i64 3) /\ Below w.heap.size w w' := by
 have hb1 : Below w.heap.size w (w.alloc (.cells #[.int .i64 a, .int .i64 b] 25 (0, 0))) := (Below.refl _ _).alloc (Nat.le_refl _) _; have q1 : ∀ w, (binOp .eql 109 (.pointer none) (.pointer none)).run Tryz.prog w = .ok (.bool true) w := fun w => by kernel_rfl
 have H := H_ (A_ (xseat_at (h.go hb1) a b hkv) hb1); clear h hb1 hkv; go_enter Tryz.func19, Tryz.ntmps19
 go_wp2_with (go_at_call 45; refine H.out.1.mono ?_; rintro e w1 ⟨rfl, b1⟩; have HB := H_ (H.out.2.trans (b1.mono H.out.2.size)); clear b1)
 go_ret; exact ⟨rfl, HB.out⟩
theorem results_cell_tmp' {P : Program} {fn : Func} {p t : Tmp} {ty : TypeId} (h : fn.results = #[.cell p ty, .tmp t]) (tmps : Array Value) (w : World) (g : Nat) (T : TypeId) (cs : Array Value) (fr : Nat × Nat) (d : TypeDesc)
 (hp : tmps.getD p undef = .pointer (some ⟨g, 0, none⟩)) (hg : w.heap[g]? = some (.cells cs T fr))
 (hu : P.underlying ty = some d) (hd : (match d with | .struct _ | .array _ _ => true | _ => false) = true) (hi : (P.info? ty).map (·.size) = some cs.size) :
 (results fn tmps).run P w = .ok (.tuple #[.agg cs, tmps.getD t undef]) w := by
 have hp' : tmps[p]?.getD undef = .pointer (some ⟨g, 0, none⟩) := by simpa using hp
 simp [results, h, hp', asAddr, run_loadVar_row w g T ty cs fr d hg hu hd hi]
theorem pkey_cells : (Tryz.prog.info? 223).map (·.size) = some 2 := by kernel_rfl
structure WhoS (w W : World) (pb pw : Nat) (x : Ad) (Y : World) : Prop where
 c6 : Y.cell? ⟨pb, 6, none⟩ = some (.map (some pw))
 a0 : Y.cell? ⟨w.heap.size, 0, none⟩ = some (.int .u8 (x.a.toNat : Int))
 a1 : Y.cell? ⟨w.heap.size, 1, none⟩ = some (.int .u8 (x.b.toNat : Int))
 a2 : Y.cell? ⟨w.heap.size, 2, none⟩ = some (.int .u8 (x.c.toNat : Int))
 a3 : Y.cell? ⟨w.heap.size, 3, none⟩ = some (.int .u8 (x.d.toNat : Int))
 l : (Instr.lookup 209 (.map (some pw)) (.agg #[.int .u8 (x.a.toNat : Int), .int .u8 (x.b.toNat : Int), .int .u8 (x.c.toNat : Int), .int .u8 (x.d.toNat : Int)]) true).run Tryz.prog Y = .ok (.tuple #[.agg #[.int .i64 0, .int .i64 0], .bool false]) Y
set_option maxRecDepth 100000 in
theorem pWho_at {y : Ad} {n : Int} (h : PoolAt w pb ph pw y n) (x : Ad) (hkv : KV Tryz.prog 27 x.v) : Calls Tryz.prog 110 #[.pointer (some ⟨pb, 0, none⟩), x.v] w fun e w' => e = .returned (.tuple #[.agg #[.int .i64 0, .int .i64 0], .bool false]) /\ Below w.heap.size w w' := by
 have hb1 : Below w.heap.size w (w.alloc (.cells x.cs 27 (0, 0))) := (Below.refl _ _).alloc (Nat.le_refl _) _; have x1 := at1 w (.cells x.cs 27 (0, 0)); have s1 := alloc1 w (.cells x.cs 27 (0, 0)); unfold Ad.cs at hb1 x1 s1; obtain ⟨W, hW⟩ : ∃ W, W = w.alloc (.cells #[.int .u8 (x.a.toNat : Int), .int .u8 (x.b.toNat : Int), .int .u8 (x.c.toNat : Int), .int .u8 (x.d.toNat : Int)] 27 (0, 0)) := ⟨_, rfl⟩; rw [<- hW] at hb1 x1 s1; have s2 := alloc1 W (.cells #[.int .i64 0, .int .i64 0] 223 (0, 0)); have x2 := at1 W (.cells #[.int .i64 0, .int .i64 0] 223 (0, 0)); have hb2 := hb1.alloc hb1.size (.cells #[.int .i64 0, .int .i64 0] 223 (0, 0)); obtain ⟨W2, hW2⟩ : ∃ W2, W2 = W.alloc (.cells #[.int .i64 0, .int .i64 0] 223 (0, 0)) := ⟨_, rfl⟩; rw [<- hW2] at s2 x2 hb2
 have HS : ∀ Y, Below W2.heap.size W2 Y -> WhoS w W2 pb pw x Y := fun Y hY => by
  have hh : Below w.heap.size w Y := hb2.trans (hY.mono hb2.size); have hp : Y.heap[pb]? = w.heap[pb]? := hh.block _ (Array.getElem?_eq_some_iff.1 h.blk).1
  have hx : Y.heap[w.heap.size]? = W.heap[w.heap.size]? := by
   rw [hY.block _ (by omega), hW2]; exact ((Below.refl W.heap.size W).alloc (Nat.le_refl _) _).block _ (by omega)
  have hv : Y.heap[pw]? = some (.map #[] 0) := (hh.block _ (Array.getElem?_eq_some_iff.1 h.v).1).trans h.v; have hx := hx.trans x1; exact ⟨cellOf (hp.trans h.blk) 6 _ rfl, cellOf hx 0 _ rfl, cellOf hx 1 _ rfl, cellOf hx 2 _ rfl, cellOf hx 3 _ rfl, lookNone (T := 209) keyedAd Tryz.underlying209 hkv (zPK Y) hv true⟩
 have HP : Hid (Calls Tryz.prog 108 #[.pointer (some ⟨pb, 0, none⟩)] W2 fun e w' => e = .returned (.bool false) /\ W2 = w') := H_ (pnone_at (h.same (hb2.block _ (Array.getElem?_eq_some_iff.1 h.blk).1) (hb2.block _ (Array.getElem?_eq_some_iff.1 h.h).1) (hb2.block _ (Array.getElem?_eq_some_iff.1 h.v).1))); have HS := H_ HS; rw [s1] at x2 s2; have HB := H_ (A_ hb2 (A_ x2 s2)); unfold Ad.v; clear h hkv hb1 x1 s1 s2 x2 hb2; go_enter Tryz.func110, Tryz.ntmps110
 go_upto_region 3 with (go_at_call 108; rw [<- hW, <- hW2]; refine HP.out.mono ?_; rintro e w1 ⟨rfl, rfl⟩)
 try rw [<- hW, <- hW2]
 clear hW hW2; refine wp_region_H (rgH 0 12) (WhoS w W2 pb pw x) (by kernel_rfl) ?_; have HSv : WhoS w W2 pb pw x W2.drew := HS.out _ (Below.refl _ _).drew; have HY := H_ (show Below W2.heap.size W2 W2.drew from (Below.refl _ _).drew); generalize W2.drew = Y at HSv HY ⊢; refine hatH 0 rfl (by rintro W ⟨c6, a0, a1, a2, a3, l⟩; go_simp; try rfl) HSv ?_; simp only [aZ, aC, aD]; refine hatH 1 rfl (by rintro W ⟨c6, a0, a1, a2, a3, l⟩; go_simp; try rfl) HSv ?_; simp only [aZ, aC, aD]; refine hatH 2 rfl (by rintro W ⟨c6, a0, a1, a2, a3, l⟩; go_simp; try rfl) HSv ?_; simp only [aZ, aC, aD]; refine hatH 3 rfl (by rintro W ⟨c6, a0, a1, a2, a3, l⟩; go_simp; try rfl) HSv ?_; simp only [aZ, aC, aD]; refine hatH 4 rfl (by rintro W ⟨c6, a0, a1, a2, a3, l⟩; go_simp; try rfl) HSv ?_; simp only [aZ, aC, aD]; refine hatH 5 rfl (by rintro W ⟨c6, a0, a1, a2, a3, l⟩; go_simp; try rfl) HSv ?_; simp only [aZ, aC, aD]; refine hatH 6 rfl (by rintro W ⟨c6, a0, a1, a2, a3, l⟩; go_simp; try rfl) HSv ?_; simp only [aZ, aC, aD]; refine hatH 7 rfl (by rintro W ⟨c6, a0, a1, a2, a3, l⟩; go_simp; try rfl) HSv ?_; simp only [aZ, aC, aD]; refine hatH 8 rfl (by rintro W ⟨c6, a0, a1, a2, a3, l⟩; go_simp; try rfl) HSv ?_; simp only [aZ, aC, aD]; refine hone 9 rfl fun K hK => ?_
 try go_simp
 have HY2 := H_ (A_ (HY.out.alloc HY.out.size (.cells #[.int .i64 0, .int .i64 0] 223 (0, 0))) (A_ (at1 Y (.cells #[.int .i64 0, .int .i64 0] 223 (0, 0))) (alloc1 Y (.cells #[.int .i64 0, .int .i64 0] 223 (0, 0))))); generalize Y.alloc (.cells #[.int .i64 0, .int .i64 0] 223 (0, 0)) = Y2 at HY2 ⊢; have HSv : WhoS w W2 pb pw x Y2 := HS.out _ HY2.out.1; refine hK _ _ (fun _ => HSv) ?_
 try simp only [aZ, aA, aE, aB, aC, aD]
 have d0 := cellOf HY2.out.2.1 0 (.int .i64 0) rfl; have d1 := cellOf HY2.out.2.1 1 (.int .i64 0) rfl; have f0 := frozen_of_block HY2.out.2.1 0; have f1 := frozen_of_block HY2.out.2.1 1; have e0 : Y2.setCell ⟨Y.heap.size, 0, none⟩ (.int .i64 0) = Y2 := setCell_same HY2.out.2.1 rfl; have e1 : Y2.setCell ⟨Y.heap.size, 1, none⟩ (.int .i64 0) = Y2 := setCell_same HY2.out.2.1 rfl; refine hone 10 rfl fun K hK => ?_
 try go_simp
 refine hK _ _ (fun _ => HSv) ?_
 try simp only [aZ, aA, aE, aB, aC, aD]
 refine hatH 11 rfl (by rintro W ⟨c6, a0, a1, a2, a3, l⟩; go_simp; try rfl) HSv ?_; simp only [aZ, aC, aD]; refine hend 12 ?_; simp only [aF, aG]
 have HZ : Y2.heap[w.heap.size + 1]? = some (.cells #[.int .i64 0, .int .i64 0] 223 (0, 0)) := by
  rw [HY2.out.1.block _ (by have := HB.out.2.2; omega)]; exact HB.out.2.1
 have f2 := frozen_of_block HZ 0; have f3 := frozen_of_block HZ 1; have g0 := cellOf HZ 0 (.int .i64 0) rfl; have g1 := cellOf HZ 1 (.int .i64 0) rfl; have e2 : Y2.setCell ⟨w.heap.size + 1, 0, none⟩ (.int .i64 0) = Y2 := setCell_same HZ rfl; have e3 : Y2.setCell ⟨w.heap.size + 1, 1, none⟩ (.int .i64 0) = Y2 := setCell_same HZ rfl; go_wp2_with fail; refine bodyPost_ret (results_cell_tmp' rfl _ _ (w.heap.size + 1) 223 _ (0, 0) _ rfl HZ Tryz.underlying223 rfl pkey_cells) rfl ?_; exact ⟨rfl, HB.out.1.trans (HY2.out.1.mono HB.out.1.size)⟩
structure AtS (w : World) (lb pb ph pw : Nat) (y : Ad) (n : Int) (x : Ad) (Y : World) : Prop where
 c42 : Y.cell? ⟨lb, 42, none⟩ = some (.pointer (some ⟨pb, 0, none⟩))
 a0 : Y.cell? ⟨w.heap.size, 0, none⟩ = some (.int .u8 (x.a.toNat : Int))
 a1 : Y.cell? ⟨w.heap.size, 1, none⟩ = some (.int .u8 (x.b.toNat : Int))
 a2 : Y.cell? ⟨w.heap.size, 2, none⟩ = some (.int .u8 (x.c.toNat : Int))
 a3 : Y.cell? ⟨w.heap.size, 3, none⟩ = some (.int .u8 (x.d.toNat : Int))
 p : PoolAt Y pb ph pw y n
set_option maxRecDepth 100000 in
theorem xat_at (h : XC w c lb tb mt ms pb ph pw sb now) (x : Ad) (hkv : KV Tryz.prog 27 x.v) : Calls Tryz.prog 51 #[.pointer (some ⟨lb, 0, none⟩), x.v] w fun e w' => e = .returned (.pointer none) /\ Below w.heap.size w w' := by
 have hb1 : Below w.heap.size w (w.alloc (.cells x.cs 27 (0, 0))) := (Below.refl _ _).alloc (Nat.le_refl _) _; have x1 := at1 w (.cells x.cs 27 (0, 0)); have s1 := alloc1 w (.cells x.cs 27 (0, 0)); unfold Ad.cs at hb1 x1 s1; obtain ⟨W, hW⟩ : ∃ W, W = w.alloc (.cells #[.int .u8 (x.a.toNat : Int), .int .u8 (x.b.toNat : Int), .int .u8 (x.c.toNat : Int), .int .u8 (x.d.toNat : Int)] 27 (0, 0)) := ⟨_, rfl⟩; rw [<- hW] at hb1 x1 s1
 have HS : ∀ Y, Below W.heap.size W Y -> AtS w lb pb ph pw c.base c.pool x Y := fun Y hY => by
  have hh : Below w.heap.size w Y := hb1.trans (hY.mono hb1.size); have hx : Y.heap[w.heap.size]? = W.heap[w.heap.size]? := hY.block _ (by omega); have hx := hx.trans x1; have h' := h.go hh; exact ⟨cellOf h'.xl 42 _ rfl, cellOf hx 0 _ rfl, cellOf hx 1 _ rfl, cellOf hx 2 _ rfl, cellOf hx 3 _ rfl, h'.p⟩
 have HS := H_ HS; have HB := H_ hb1; have HK := H_ (show ∀ Y, PoolAt Y pb ph pw c.base c.pool -> _ from fun Y hp => pWho_at hp x hkv); unfold Ad.v at HK ⊢; clear h hkv hb1 x1 s1; go_enter Tryz.func51, Tryz.ntmps51
 go_upto_region 1 with (fail)
 rw [<- hW]; clear hW; refine wp_region_H (rgH 0 12) (AtS w lb pb ph pw c.base c.pool x) (by kernel_rfl) ?_; have HSv : AtS w lb pb ph pw c.base c.pool x W.drew := HS.out _ (Below.refl _ _).drew; have HY := H_ (show Below W.heap.size W W.drew from (Below.refl _ _).drew); generalize W.drew = Y at HSv HY ⊢; refine hatH 0 rfl (by rintro W ⟨c42, a0, a1, a2, a3, p⟩; go_simp; try rfl) HSv ?_; simp only [aZ, aC, aD]; refine hatH 1 rfl (by rintro W ⟨c42, a0, a1, a2, a3, p⟩; go_simp; try rfl) HSv ?_; simp only [aZ, aC, aD]; refine hatH 2 rfl (by rintro W ⟨c42, a0, a1, a2, a3, p⟩; go_simp; try rfl) HSv ?_; simp only [aZ, aC, aD]; refine hatH 3 rfl (by rintro W ⟨c42, a0, a1, a2, a3, p⟩; go_simp; try rfl) HSv ?_; simp only [aZ, aC, aD]; refine hatH 4 rfl (by rintro W ⟨c42, a0, a1, a2, a3, p⟩; go_simp; try rfl) HSv ?_; simp only [aZ, aC, aD]; refine wpAnyH_2 5 9 rfl rfl (by kernel_rfl) ?_ ?_
 . intro K hK; rw [if_pos (by rfl)]
   try go_simp
   go_at_call 110; refine (HK.out _ HSv.p).mono ?_; rintro e Y1 ⟨rfl, b1⟩; have HY1 := H_ (HY.out.trans (b1.mono HY.out.size)); clear b1; have HSv : AtS w lb pb ph pw c.base c.pool x Y1 := HS.out _ HY1.out; refine hK _ _ (fun _ => HSv) ?_
   try simp only [aZ, aA, aE, aB, aC, aD]
   refine hatH 6 rfl (by rintro W ⟨c42, a0, a1, a2, a3, p⟩; go_simp; try rfl) HSv ?_; simp only [aZ, aC, aD]; refine hatH 7 rfl (by rintro W ⟨c42, a0, a1, a2, a3, p⟩; go_simp; try rfl) HSv ?_; simp only [aZ, aC, aD]; refine hatH 8 rfl (by rintro W ⟨c42, a0, a1, a2, a3, p⟩; go_simp; try rfl) HSv ?_; simp only [aZ, aC, aD]; refine hone 9 rfl fun K hK => ?_
   try go_simp
   have HY2 := H_ (A_ (HY1.out.alloc HY1.out.size (.cells #[.int .i64 0, .int .i64 0] 223 (0, 0))) (A_ (at1 Y1 (.cells #[.int .i64 0, .int .i64 0] 223 (0, 0))) (alloc1 Y1 (.cells #[.int .i64 0, .int .i64 0] 223 (0, 0))))); generalize Y1.alloc (.cells #[.int .i64 0, .int .i64 0] 223 (0, 0)) = Y2 at HY2 ⊢; have HSv : AtS w lb pb ph pw c.base c.pool x Y2 := HS.out _ HY2.out.1; refine hK _ _ (fun _ => HSv) ?_
   try simp only [aZ, aA, aE, aB, aC, aD]
   have d0 := cellOf HY2.out.2.1 0 (.int .i64 0) rfl; have d1 := cellOf HY2.out.2.1 1 (.int .i64 0) rfl; have f0 := frozen_of_block HY2.out.2.1 0; have f1 := frozen_of_block HY2.out.2.1 1; have e0 : Y2.setCell ⟨Y1.heap.size, 0, none⟩ (.int .i64 0) = Y2 := setCell_same HY2.out.2.1 rfl; have e1 : Y2.setCell ⟨Y1.heap.size, 1, none⟩ (.int .i64 0) = Y2 := setCell_same HY2.out.2.1 rfl; refine hone 10 rfl fun K hK => ?_
   try go_simp
   refine hK _ _ (fun _ => HSv) ?_
   try simp only [aZ, aA, aE, aB, aC, aD]
   refine hatH 11 rfl (by rintro W ⟨c42, a0, a1, a2, a3, p⟩; go_simp; try rfl) HSv ?_; simp only [aZ, aC, aD]; refine hend 12 ?_; simp only [aF, aG]; go_wp2_with fail; go_ret; exact ⟨rfl, HB.out.trans (HY2.out.1.mono HB.out.size)⟩
 . intro K hK; rw [if_pos (by rfl)]
   try go_simp
   have HY1 := H_ (A_ (HY.out.alloc HY.out.size (.cells #[.int .i64 0, .int .i64 0] 223 (0, 0))) (A_ (at1 Y (.cells #[.int .i64 0, .int .i64 0] 223 (0, 0))) (alloc1 Y (.cells #[.int .i64 0, .int .i64 0] 223 (0, 0))))); generalize Y.alloc (.cells #[.int .i64 0, .int .i64 0] 223 (0, 0)) = Y1 at HY1 ⊢; have HSv : AtS w lb pb ph pw c.base c.pool x Y1 := HS.out _ HY1.out.1; refine hK _ _ (fun _ => HSv) ?_
   try simp only [aZ, aA, aE, aB, aC, aD]
   refine hone 5 rfl fun K hK => ?_
   try go_simp
   go_at_call 110; refine (HK.out _ HSv.p).mono ?_; rintro e Y2 ⟨rfl, b1⟩; have HY2 := H_ (A_ (HY1.out.1.trans (b1.mono HY1.out.1.size)) ((b1.block _ (Array.getElem?_eq_some_iff.1 HY1.out.2.1).1).trans HY1.out.2.1)); clear b1; have HSv : AtS w lb pb ph pw c.base c.pool x Y2 := HS.out _ HY2.out.1; refine hK _ _ (fun _ => HSv) ?_
   try simp only [aZ, aA, aE, aB, aC, aD]
   refine hatH 6 rfl (by rintro W ⟨c42, a0, a1, a2, a3, p⟩; go_simp; try rfl) HSv ?_; simp only [aZ, aC, aD]; refine hatH 7 rfl (by rintro W ⟨c42, a0, a1, a2, a3, p⟩; go_simp; try rfl) HSv ?_; simp only [aZ, aC, aD]; refine hatH 8 rfl (by rintro W ⟨c42, a0, a1, a2, a3, p⟩; go_simp; try rfl) HSv ?_; simp only [aZ, aC, aD]; have d0 := cellOf HY2.out.2 0 (.int .i64 0) rfl; have d1 := cellOf HY2.out.2 1 (.int .i64 0) rfl; have f0 := frozen_of_block HY2.out.2 0; have f1 := frozen_of_block HY2.out.2 1; have e0 : Y2.setCell ⟨Y.heap.size, 0, none⟩ (.int .i64 0) = Y2 := setCell_same HY2.out.2 rfl; have e1 : Y2.setCell ⟨Y.heap.size, 1, none⟩ (.int .i64 0) = Y2 := setCell_same HY2.out.2 rfl; refine hone 10 rfl fun K hK => ?_
   try go_simp
   refine hK _ _ (fun _ => HSv) ?_
   try simp only [aZ, aA, aE, aB, aC, aD]
   refine hatH 11 rfl (by rintro W ⟨c42, a0, a1, a2, a3, p⟩; go_simp; try rfl) HSv ?_; simp only [aZ, aC, aD]; refine hend 12 ?_; simp only [aF, aG]; go_wp2_with fail; go_ret; exact ⟨rfl, HB.out.trans (HY2.out.1.mono HB.out.size)⟩
set_option maxRecDepth 100000 in
theorem xSend_at (h : XC w c lb tb mt ms pb ph pw sb now) (x y : Ad) (s : ByteArray) (hs : s.size <= 1400) (hkv : KV Tryz.prog 27 y.v) : Calls Tryz.prog 18 #[.pointer (some ⟨lb, 0, none⟩), x.v, y.v, .string s] w fun e w' => e = .returned (.int .i64 3) /\ Below w.heap.size w w' := by
 have hb1 : Below w.heap.size w ((w.alloc (.cells x.cs 27 (0, 0))).alloc (.cells y.cs 27 (0, 0))) := ((Below.refl _ _).alloc (Nat.le_refl _) _).alloc (by rw [alloc1]; omega) _; have x1 := at21 w (.cells x.cs 27 (0, 0)) (.cells y.cs 27 (0, 0)); have d1 : decide ((1400 : Int) < (s.size : Int)) = false := by simp; omega
 have q1 : ∀ w, (binOp .eql 109 (.pointer none) (.pointer none)).run Tryz.prog w = .ok (.bool true) w := fun w => by kernel_rfl
 have HN := H_ (xnone_at (h.go hb1)); have HA := H_ (xat_at (h.go hb1) y hkv); have HB := H_ hb1; unfold Ad.cs at HN HA HB x1; unfold Ad.v at HA ⊢; have g0 := cellOf x1 0 (.int .u8 (y.a.toNat : Int)) rfl; have g1 := cellOf x1 1 (.int .u8 (y.b.toNat : Int)) rfl; have g2 := cellOf x1 2 (.int .u8 (y.c.toNat : Int)) rfl; have g3 := cellOf x1 3 (.int .u8 (y.d.toNat : Int)) rfl; clear h hkv hb1 x1 hs; go_enter Tryz.func18, Tryz.ntmps18
 go_wp2_with (first | (go_at_call 34; refine HN.out.mono ?_; rintro e w1 ⟨rfl, rfl⟩) | (go_at_call 51; refine HA.out.mono ?_; rintro e w1 ⟨rfl, b1⟩; have HB2 := H_ (HB.out.trans (b1.mono HB.out.size)); clear b1))
 go_ret; exact ⟨rfl, HB2.out⟩
end
set_option maxRecDepth 100000 in
theorem lastIx_a (w : World) : Calls Tryz.prog 301 #[.string ⟨#[97]⟩, .int .u8 64] w fun e w' => e = .returned (.int .i64 (-1)) /\ w = w' := by
 go_enter Tryz.func301, Tryz.ntmps301; go_wp2_with fail; refine wp_loop_rounds 2 ?_; rw [rounds_succ]; go_wp2_with fail; rw [rounds_succ]; go_wp2_with fail; go_ret; exact ⟨rfl, rfl⟩
theorem lastIxB_a (w : World) : Calls Tryz.prog 196 #[.string ⟨#[97]⟩, .int .u8 64] w fun e w' => e = .returned (.int .i64 (-1)) /\ w = w' := by
 have H := H_ (lastIx_a w); go_enter Tryz.func196, Tryz.ntmps196
 go_wp2_with (refine H.out.mono ?_; rintro e w1 ⟨rfl, rfl⟩)
 go_ret; exact ⟨rfl, rfl⟩
theorem who_cells : (Tryz.prog.info? 213).map (·.size) = some 2 := by kernel_rfl
set_option maxRecDepth 100000 in
theorem split_a (w : World) : Calls Tryz.prog 109 #[.string ⟨#[97]⟩] w fun e w' => e = .returned (.agg #[.string ⟨#[97]⟩, .string ⟨#[]⟩]) /\ Below w.heap.size w w' := by
 have H := H_ (fun w => lastIxB_a w); have HC := H_ (fun W => sclone_any ⟨#[97]⟩ W (by decide)); have hb0 : Below w.heap.size w (w.alloc (.cells #[.string ⟨#[]⟩, .string ⟨#[]⟩] 213 (0, 0))) := (Below.refl _ _).alloc (Nat.le_refl _) _; have x0 := at1 w (.cells #[.string ⟨#[]⟩, .string ⟨#[]⟩] 213 (0, 0)); have HW := H_ (A_ hb0 x0); clear hb0 x0; go_enter Tryz.func109, Tryz.ntmps109
 go_wp2_with (first | (go_at_call 196; refine (H.out _).mono ?_; rintro e w1 ⟨rfl, rfl⟩) | (go_at_call 85; refine (HC.out _).mono ?_; rintro e w1 ⟨rfl, b1⟩; have HX := H_ (A_ (HW.out.1.trans (b1.mono HW.out.1.size)) ((b1.block _ (Array.getElem?_eq_some_iff.1 HW.out.2).1).trans HW.out.2)); have c0 := cellOf HX.out.2 0 (.string ⟨#[]⟩) rfl; have c1 := cellOf HX.out.2 1 (.string ⟨#[]⟩) rfl; have f0 := frozen_of_block HX.out.2 0; have f1 := frozen_of_block HX.out.2 1; clear b1))
 refine bodyPost_ret (results_cell_row rfl _ _ w.heap.size 213 _ (0, 0) _ rfl (blkSet (blkSet HX.out.2)) Tryz.underlying213 rfl who_cells) rfl ?_; exact ⟨rfl, (HX.out.1.setCell (p := ⟨w.heap.size, 0, none⟩) (Nat.le_refl _) _).setCell (p := ⟨w.heap.size, 1, none⟩) (Nat.le_refl _) _⟩
structure SetS (w W : World) (sb sm : Nat) (Y : World) : Prop where
 c2 : Y.cell? ⟨sb, 2, none⟩ = some (.map (some sm))
 k0 : Y.cell? ⟨W.heap.size, 0, none⟩ = some (.string ⟨#[97]⟩)
 k1 : Y.cell? ⟨W.heap.size, 1, none⟩ = some (.string ⟨#[]⟩)
theorem ktWho : Tryz.prog.keyTypeAt 3 213 = true := by kernel_rfl
theorem szWho : decide (213 < Tryz.prog.types.size) = true := by kernel_rfl
theorem wdWho : (match Tryz.prog.underlying 213 with | some (.array _ _) | some (.struct _) => true | _ => false) = true := by kernel_rfl
set_option maxRecDepth 100000 in
theorem keyedWho : Keyed Tryz.prog 213 := Keyed.of_law (deep_law_laid laidOut (m := 3) (by omega) (of_decide_eq_true szWho) ktWho wdWho)
theorem kvWho : KV Tryz.prog 213 (.agg #[.string ⟨#[97]⟩, .string ⟨#[]⟩]) := by
 have h : (keyOf Tryz.prog 213 (.agg #[.string ⟨#[97]⟩, .string ⟨#[]⟩])).isSome = true := by kernel_rfl
 exact Option.isSome_iff_exists.1 h
theorem zKnown (w : World) : (zeroValue 215).run Tryz.prog w = .ok (.pointer none) w := by kernel_rfl
set_option maxRecDepth 100000 in
theorem stSet_at {w : World} {sb sm : Nat} {limit calm : Int} (h : StoreAt w sb sm limit calm) (hne : sb ≠ sm) : Calls Tryz.prog 50 #[.pointer (some ⟨sb, 0, none⟩), .string ⟨#[97]⟩, .string ⟨#[98]⟩] w fun e w' => e = .returned (.int .i64 0) /\ Keep (· = sm) w w' := by
 have H := H_ (fun w => split_a w); have HC := H_ (fun W => sclone_any ⟨#[98]⟩ W (by decide)); have q1 : ∀ w a, (binOp .eql 39 (.pointer (some a)) (.pointer none)).run Tryz.prog w = .ok (.bool false) w := fun w a => by kernel_rfl
 have q2 : ∀ w a, (binOp .eql 217 (.map (some a)) (.map none)).run Tryz.prog w = .ok (.bool false) w := fun w a => by kernel_rfl
 have HH := H_ (A_ h hne); clear h hne; go_enter Tryz.func50, Tryz.ntmps50
 go_upto_region 4 with (go_at_call 109; refine (H.out _).mono ?_; rintro e W ⟨rfl, b1⟩; have HB := H_ b1; clear b1)
 have hw1 := HB.out.alloc HB.out.size (.cells #[.string ⟨#[97]⟩, .string ⟨#[]⟩] 213 (0, 0)); have x1 := at1 W (.cells #[.string ⟨#[97]⟩, .string ⟨#[]⟩] 213 (0, 0)); have s1 := alloc1 W (.cells #[.string ⟨#[97]⟩, .string ⟨#[]⟩] 213 (0, 0)); generalize W.alloc (.cells #[.string ⟨#[97]⟩, .string ⟨#[]⟩] 213 (0, 0)) = W1 at hw1 x1 s1 ⊢; have hsb := (hw1.block _ (Array.getElem?_eq_some_iff.1 HH.out.1.blk).1).trans HH.out.1.blk; have hsm := (hw1.block _ (Array.getElem?_eq_some_iff.1 HH.out.1.m).1).trans HH.out.1.m; have HX := H_ (A_ hw1 (A_ x1 (A_ s1 (A_ hsb hsm)))); have c2 := cellOf hsb 2 (.map (some sm)) rfl; have k0 := cellOf x1 0 (.string ⟨#[97]⟩) rfl; have k1 := cellOf x1 1 (.string ⟨#[]⟩) rfl; have L : ∀ k, (Instr.lookup 217 (.map (some sm)) (.agg #[.string ⟨#[97]⟩, .string ⟨#[]⟩]) true).run Tryz.prog (W1.drewN k) = .ok (.tuple #[.pointer none, .bool false]) (W1.drewN k) := fun k => lookNone (T := 217) (w := W1.drewN k) keyedWho Tryz.underlying217 kvWho (zKnown _) hsm true; have hl : ∀ ty k, (Builtin.len_ #[217] ty #[.map (some sm)]).run Tryz.prog (W1.drewN k) = .ok (.int .i64 0) (W1.drewN k) := fun ty k => lenNone Tryz.underlying217 hsm; clear hw1 x1 s1 hsb hsm
 go_quiet (fail)
 go_upto_region 16 with (fail)
 have hw2 : Below w.heap.size w ((W1.drewN nq).alloc (.cells #[.string ⟨#[]⟩, .int .i64 0, .int .i64 0] 221 (0, 0))) := (belowN HX.out.1 nq).alloc HX.out.1.size _; have hv2 : Below W1.heap.size W1 ((W1.drewN nq).alloc (.cells #[.string ⟨#[]⟩, .int .i64 0, .int .i64 0] 221 (0, 0))) := (belowN (Below.refl _ _) nq).alloc (Nat.le_refl _) _; have y2 := at1 (W1.drewN nq) (.cells #[.string ⟨#[]⟩, .int .i64 0, .int .i64 0] 221 (0, 0)); have t2 := alloc1 (W1.drewN nq) (.cells #[.string ⟨#[]⟩, .int .i64 0, .int .i64 0] 221 (0, 0)); rw [drewN_heap] at y2 t2; generalize (W1.drewN nq).alloc (.cells #[.string ⟨#[]⟩, .int .i64 0, .int .i64 0] 221 (0, 0)) = W2 at hw2 hv2 y2 t2 ⊢; have HW := H_ (A_ hw2 (A_ hv2 (A_ y2 t2))); clear hw2 hv2 y2 t2; have hsb2 := (HW.out.2.1.block _ (Array.getElem?_eq_some_iff.1 HX.out.2.2.2.1).1).trans HX.out.2.2.2.1; have hsm2 := (HW.out.2.1.block _ (Array.getElem?_eq_some_iff.1 HX.out.2.2.2.2).1).trans HX.out.2.2.2.2; have hk2 := (HW.out.2.1.block _ (Array.getElem?_eq_some_iff.1 HX.out.2.1).1).trans HX.out.2.1; have HM := H_ (show W2.drew.heap[sm]? = some (.map #[] 0) from hsm2); have HL := H_ (A_ (Array.getElem?_eq_some_iff.1 HH.out.1.m).1 HB.out.size); refine wp_region_H (rgH 0 6) (SetS w W sb sm) (by kernel_rfl) ?_; have HSv : SetS w W sb sm W2.drew := ⟨cellOf (w := W2.drew) hsb2 2 _ rfl, cellOf (w := W2.drew) hk2 0 _ rfl, cellOf (w := W2.drew) hk2 1 _ rfl⟩; have HD := H_ (show Below W2.heap.size W2 W2.drew from (Below.refl _ _).drew); generalize W2.drew = Y at HSv HM HD ⊢; clear L hl hsb2 hsm2 hk2; refine hatH 0 rfl (by rintro W ⟨c2, k0, k1⟩; go_simp; try rfl) HSv ?_; simp only [aZ, aC, aD]; refine hatH 1 rfl (by rintro W ⟨c2, k0, k1⟩; go_simp; try rfl) HSv ?_; simp only [aZ, aC, aD]; refine hatH 2 rfl (by rintro W ⟨c2, k0, k1⟩; go_simp; try rfl) HSv ?_; simp only [aZ, aC, aD]; refine hatH 3 rfl (by rintro W ⟨c2, k0, k1⟩; go_simp; try rfl) HSv ?_; simp only [aZ, aC, aD]; refine hatH 4 rfl (by rintro W ⟨c2, k0, k1⟩; go_simp; try rfl) HSv ?_; simp only [aZ, aC, aD]; refine hatH 5 rfl (by rintro W ⟨c2, k0, k1⟩; go_simp; try rfl) HSv ?_; simp only [aZ, aC, aD]; refine wpAnyH_1 6 rfl (by kernel_rfl) ?_; intro K hK; refine step_update rfl _ _ _ 217 213 215 rfl keyedWho Tryz.underlying217 sm (fun _ => none) (by rfl) _ _ (by rfl) (by rfl) kvWho (mapNone HM.out) ?_; intro Y1 hm1 hk1 hs1; refine hK _ _ (fun h => absurd h (by decide)) ?_
 try simp only [aZ, aA, aE, aB, aC, aD]
 refine hend 7 ?_; simp only [aF, aG]; have hne : W1.heap.size ≠ sm := by have := HL.out; have := HX.out.1.size; omega
 have z1 : Y1.heap[W1.heap.size]? = some (.cells #[.string ⟨#[]⟩, .int .i64 0, .int .i64 0] 221 (0, 0)) := by
  rw [hk1.block _ (by have := HD.out.size; have := HW.out.2.2.2; omega) hne, HD.out.block _ (by have := HW.out.2.2.2; omega)]; exact HW.out.2.2.1
 have hkk : Keep (· = sm) w Y1 := (Keep.of_below _ (HW.out.1.trans (HD.out.mono HW.out.1.size))).trans hk1; have HZ := H_ (A_ z1 hkk); have HE := H_ HX.out.1.size; clear z1 hkk hm1 hk1 hs1 hne
 go_wp2_with (go_at_call 85; refine (HC.out _).mono ?_; rintro e Y2 ⟨rfl, b1⟩; have HQ := H_ (A_ (HZ.out.2.trans (Keep.of_below _ b1)) ((b1.block _ (Array.getElem?_eq_some_iff.1 HZ.out.1).1).trans HZ.out.1)); have d0 := cellOf HQ.out.2 0 (.string ⟨#[]⟩) rfl; have f0 := frozen_of_block HQ.out.2 0; clear b1)
 go_ret; exact ⟨rfl, HQ.out.1.setCell ⟨W1.heap.size, 0, none⟩ (Or.inl HE.out) _⟩
theorem XC.keep {w w' : World} {c : XCfg} {lb tb mt ms pb ph pw sb sm : Nat} {now : Int} (h : XC w c lb tb mt ms pb ph pw sb now) (hk : Keep (· = sm) w w') (hd : lb ≠ sm /\ mt ≠ sm /\ ms ≠ sm /\ pb ≠ sm /\ ph ≠ sm /\ pw ≠ sm) : XC w' c lb tb mt ms pb ph pw sb now := by
 have up : ∀ {k o}, w.heap[k]? = some o -> k ≠ sm -> w'.heap[k]? = w.heap[k]? := fun hk' hn => hk.block _ (Array.getElem?_eq_some_iff.1 hk').1 hn; exact ⟨(up h.xl hd.1).trans h.xl, (up h.mt' hd.2.1).trans h.mt', (up h.ms' hd.2.2.1).trans h.ms', h.p.same (up h.p.blk hd.2.2.2.1) (up h.p.h hd.2.2.2.2.1) (up h.p.v hd.2.2.2.2.2), h.d⟩
theorem xSet_at {w0 w : World} {c : XCfg} {lb tb mt ms pb ph pw sb sm : Nat} {now : Int} (h : XAt w0 w c lb tb mt ms pb ph pw sb sm now) : Calls Tryz.prog 17 #[.pointer (some ⟨lb, 0, none⟩), .string ⟨#[97]⟩, .string ⟨#[98]⟩] w fun e w' => e = .returned (.int .i64 0) /\ XC w' c lb tb mt ms pb ph pw sb now /\ Below w0.heap.size w0 w' := by
 have HN := H_ (xnone_at h.c); have HS := H_ (stSet_at h.s h.e.2.2.2.2.2); have c41 : w.cell? ⟨lb, 41, none⟩ = some (.pointer (some ⟨sb, 0, none⟩)) := cellOf h.xl 41 _ rfl; have HH := H_ h; clear h; go_enter Tryz.func17, Tryz.ntmps17
 go_wp2_with (first | (go_at_call 34; refine HN.out.mono ?_; rintro e w1 ⟨rfl, rfl⟩) | (go_at_call 50; refine HS.out.mono ?_; rintro e w1 ⟨rfl, hk⟩; have HK := H_ hk; clear hk))
 go_ret; exact ⟨rfl, HH.out.c.keep HK.out ⟨fun h => HH.out.d.2.2.2.2.2.2 h.symm, HH.out.e.1, HH.out.e.2.1, HH.out.e.2.2.1, HH.out.e.2.2.2.1, HH.out.e.2.2.2.2.1⟩, HH.out.bl.trans (HK.out.below HH.out.bl.size (fun k hk h => by have := HH.out.lo.2.2; omega))⟩
def cfg27c (auth : Int) (adopt : Bool) : XCfg := ⟨⟨#[115]⟩, ⟨#[116]⟩, 2, auth, 1492, 2001, 0, 5, 2, 5, 3, 3, 4, 20, 20, adopt, false, ⟨10, 0, 0, 1⟩, ⟨10, 0, 0, 10⟩, ⟨10, 9, 9, 1⟩, ⟨0, 0, 0, 0⟩, 5, 100, 1000, 0, 1⟩
theorem build_cfg27 (auth : Int) (adopt : Bool) (w : World) : (Instr.build 35 #[(0, .string ⟨#[115]⟩), (1, .string ⟨#[116]⟩), (2, .int .i64 2), (3, .int .i64 auth), (4, .int .i64 1492), (5, .int .i64 2001), (7, .int .i64 5), (8, .int .i64 2), (9, .int .i64 5), (10, .int .i64 3), (11, .int .i64 3), (12, .int .i64 4), (13, .int .i64 20), (14, .int .i64 20), (15, .bool adopt), (17, .agg #[.int .u8 10, .int .u8 0, .int .u8 0, .int .u8 1]), (18, .agg #[.int .u8 10, .int .u8 0, .int .u8 0, .int .u8 10]), (19, .agg #[.int .u8 10, .int .u8 9, .int .u8 9, .int .u8 1]), (21, .int .i64 5), (22, .int .i64 100), (23, .int .i64 1000), (25, .int .i64 1)]).run Tryz.prog w = .ok (.agg (cfg27c auth adopt).cells) w := by kernel_rfl
theorem wpl_alloc38 {ops : Array Oper} {rest : List Oper} {Q : Exit -> Act -> World -> Prop} {a : Act} {w : World} {d : Tmp} {t1 : TypeId} {p1 : String} {f1 : Array Edge}
 (h : ∀ Z : Array Value, Z.size = 38 -> wpList Tryz.prog ops Q rest (a.put (some d) (.pointer (some ⟨w.heap.size, 0, none⟩))) (w.alloc (.cells Z 35 (0, 0)))) :
 wpList Tryz.prog ops Q ({ dst := some d, op := .alloc 35, type := t1, pos := p1, after := f1, guard := none } :: rest) a w := by
 obtain ⟨Z, hz, hal⟩ := alloc_cfg; refine Go.Tg.step_val (v := .pointer (some ⟨w.heap.size, 0, none⟩)) (w' := w.alloc (.cells Z 35 (0, 0))) rfl ?_ (h Z hz); simp only [execOp, hal, Sem.run_bind, Result.andThen_ok, Sem.run_pure]
theorem wpl_build38 {ops : Array Oper} {rest : List Oper} {Q : Exit -> Act -> World -> Prop} {a : Act} {w : World} (auth : Int) (adopt : Bool) {d : Tmp} {o3 o15 o17 o18 o19 : Operand} {t1 : TypeId} {p1 : String} {f1 : Array Edge}
 (e3 : a.eval o3 = .int .i64 auth) (e15 : a.eval o15 = .bool adopt) (e17 : a.eval o17 = .agg #[.int .u8 10, .int .u8 0, .int .u8 0, .int .u8 1]) (e18 : a.eval o18 = .agg #[.int .u8 10, .int .u8 0, .int .u8 0, .int .u8 10]) (e19 : a.eval o19 = .agg #[.int .u8 10, .int .u8 9, .int .u8 9, .int .u8 1])
 (h : wpList Tryz.prog ops Q rest (a.put (some d) (.agg (cfg27c auth adopt).cells)) w) :
 wpList Tryz.prog ops Q ({ dst := some d, op := .build 35 #[(0, .const (.string ⟨#[115]⟩)), (1, .const (.string ⟨#[116]⟩)), (2, .const (.int .i64 2)), (3, o3), (4, .const (.int .i64 1492)), (5, .const (.int .i64 2001)), (7, .const (.int .i64 5)), (8, .const (.int .i64 2)), (9, .const (.int .i64 5)), (10, .const (.int .i64 3)), (11, .const (.int .i64 3)), (12, .const (.int .i64 4)), (13, .const (.int .i64 20)), (14, .const (.int .i64 20)), (15, o15), (17, o17), (18, o18), (19, o19), (21, .const (.int .i64 5)), (22, .const (.int .i64 100)), (23, .const (.int .i64 1000)), (25, .const (.int .i64 1))], type := t1, pos := p1, after := f1, guard := none } :: rest) a w := by
 refine Go.Tg.step_val (v := .agg (cfg27c auth adopt).cells) (w' := w) rfl ?_ h; have hc : ∀ v, a.eval (.const v) = v := fun v => rfl; simp only [execOp, List.map_toArray, List.map_cons, List.map_nil, hc, e3, e15, e17, e18, e19, Sem.run_bind, build_cfg27, Result.andThen_ok, Sem.run_pure]
theorem wpl_store38 {ops : Array Oper} {rest : List Oper} {Q : Exit -> Act -> World -> Prop} {a : Act} {w : World} (c : XCfg) (Z : Array Value) (hz : Z.size = 38) {p y : Operand} {t2 : TypeId} {p2 : String} {f2 : Array Edge}
 (hp : a.eval p = .pointer (some ⟨w.heap.size, 0, none⟩)) (hy : a.eval y = .agg c.cells)
 (h : wpList Tryz.prog ops Q rest a (w.alloc (.cells c.cells 35 (0, 0)))) :
 wpList Tryz.prog ops Q ({ dst := none, op := .store 35 p y, type := t2, pos := p2, after := f2, guard := none } :: rest) a (w.alloc (.cells Z 35 (0, 0))) := by
 refine Go.Tg.step_skip (w' := w.alloc (.cells c.cells 35 (0, 0))) rfl ?_ h; simp only [execOp, hp, hy, Sem.run_bind, run_storeAt_new (P := Tryz.prog) w 35 Z c.cells (by rw [cfg_cells, cfg_sz]) (by rw [hz, cfg_sz]) (cfg_one c), Result.andThen_ok, Sem.run_pure]
set_option maxRecDepth 100000 in
theorem config27 (auth : Int) (adopt : Bool) (w : World) : Calls Tryz.prog 33 #[.int .i64 auth, .bool adopt] w fun e w' => e = .returned (.agg (cfg27c auth adopt).cells) /\ Below w.heap.size w w' := by
 go_enter Tryz.func33, Tryz.ntmps33
 go_wp2_with (first | (refine wpl_alloc38 ?_; intro Z hz) | (refine wpl_build38 auth adopt (by rfl) (by rfl) (by rfl) (by rfl) (by rfl) ?_) | (refine wpl_store38 (cfg27c auth adopt) Z hz (by rfl) (by rfl) ?_))
 refine bodyPost_ret (results_cell_row rfl _ _ w.heap.size 35 _ (0, 0) _ rfl (at1 w _) Tryz.underlying35 rfl (by rw [cfg_cells, cfg_sz])) rfl ?_; exact ⟨rfl, (Below.refl _ _).alloc (Nat.le_refl _) _⟩
theorem cfg27_l : (cfg27c 49699 true).l.Ok := ⟨by decide, .inr (.inr rfl), by decide, by decide, by decide, by decide, by decide, by decide⟩
theorem cfg27_num : numA ⟨10, 0, 0, 10⟩ + 5 <= 4294967296 := by
 have h : decide (numA ⟨10, 0, 0, 10⟩ + 5 <= 4294967296) = true := by kernel_rfl
 exact of_decide_eq_true h
theorem cfg27_good : XGood (cfg27c 49699 true) := ⟨by decide, by decide, by decide, by decide, ⟨cfg27_l, by decide, by unfold TunOk; decide, ⟨by decide, cfg27_num⟩, by decide, by decide⟩, by decide⟩
theorem xnew27 {w w' : World} {e : Ending} (h : XNew w w' (cfg27c 49699 true) e) : ∃ lb tb mt ms pb ph pw sb sm, e = .returned (.tuple #[.pointer (some ⟨lb, 0, none⟩), .int .i64 0]) /\ XAt w w' (cfg27c 49699 true) lb tb mt ms pb ph pw sb sm 0 := by
 obtain ⟨x, -, -, hn, -⟩ | h := h
 . exact absurd cfg27_good hn
 . exact h
set_option maxRecDepth 100000 in
theorem alive27_any (w : World) : Calls Tryz.prog 8 #[] w fun e w' => e = .returned (.bool true) /\ Below w.heap.size w w' := by
 have q1 : ∀ w a, (binOp .eql 33 (.pointer (some a)) (.pointer none)).run Tryz.prog w = .ok (.bool false) w := fun w a => by kernel_rfl
 have HC := H_ (fun w => config27 49699 true w); have HN := H_ (fun w => xnew_any (cfg27c 49699 true) w (by unfold I64; decide) (by decide)); go_enter Tryz.func8, Tryz.ntmps8
 go_wp2_with (first | (go_at_call 33; refine (HC.out _).mono ?_; rintro e w1 ⟨rfl, b1⟩; have HB1 := H_ b1; clear b1) | (go_at_call 20; refine (HN.out _).mono ?_; rintro e w2 h2; obtain ⟨lb, tb, mt, ms, pb, ph, pw, sb, sm, rfl, h9⟩ := xnew27 h2; have HX := H_ h9; clear h9 h2) | (go_at_call 17; refine (xSet_at HX.out).mono ?_; rintro e w3 ⟨rfl, h3⟩; have HY := H_ h3; clear h3) | (go_at_call 11; refine (xTunnel_at HY.out.1).mono ?_; rintro e w4 ⟨rfl, rfl⟩) | (go_at_call 16; refine (xFree_at HY.out.1).mono ?_; rintro e w5 ⟨rfl, b5⟩; have H5 := H_ (A_ (HY.out.1.go b5) (HY.out.2.trans (b5.mono HY.out.2.size))); clear b5) | (go_at_call 14; refine (xSeats_at H5.out.1).mono ?_; rintro e w6 ⟨rfl, b6⟩; have H6 := H_ (A_ (H5.out.1.go b6) (H5.out.2.trans (b6.mono H5.out.2.size))); clear b6) | (go_at_call 18; refine (xSend_at H6.out.1 ⟨1, 0, 0, 0⟩ ⟨10, 0, 0, 10⟩ ⟨#[120]⟩ (by decide) kvBase).mono ?_; rintro e w7 ⟨rfl, b7⟩; have H7 := H_ (A_ (H6.out.1.go b7) (H6.out.2.trans (b7.mono H6.out.2.size))); clear b7) | (go_at_call 19; refine (xClose_at H7.out.1 1 1 kvLK11).mono ?_; rintro e w8 ⟨rfl, b8⟩; have H8 := H_ (A_ (H7.out.1.go b8) (H7.out.2.trans (b8.mono H7.out.2.size))); clear b8))
 go_ret; exact ⟨rfl, HB1.out.trans (H8.out.2.mono HB1.out.size)⟩
def opCells (n0 n1 n2 n3 n5 n6 : Int) (A B : Ad) (s4 s15 s16 : ByteArray) : Array Value := #[.int .i64 n0, .int .i64 n1, .int .i64 n2, .int .i64 n3, .string s4, .int .i64 n5, .int .i64 n6, .int .u8 (A.a.toNat : Int), .int .u8 (A.b.toNat : Int), .int .u8 (A.c.toNat : Int), .int .u8 (A.d.toNat : Int), .int .u8 (B.a.toNat : Int), .int .u8 (B.b.toNat : Int), .int .u8 (B.c.toNat : Int), .int .u8 (B.d.toNat : Int), .string s15, .string s16]
set_option maxRecDepth 100000 in
theorem light27 (n0 n1 n2 n3 n5 n6 : Int) (A B : Ad) (s4 s15 s16 : ByteArray) (W : World) (g : Nat) (hg : W.heap[g]? = some (.cells (opCells n0 n1 n2 n3 n5 n6 A B s4 s15 s16) 29 (0, 0))) (h4 : s4.size <= maxLen) (h15 : s15.size <= maxLen) (h16 : s16.size <= maxLen) :
 ∃ b, Calls Tryz.prog 7 #[.slice (some ⟨g, 0, none⟩) 1 1] W fun e w' => e = .returned (.bool b) /\ Below W.heap.size W w' := by
 have k4 : W.cell? ⟨g, 4, none⟩ = some (.string s4) := cellOf hg 4 _ rfl; have k15 : W.cell? ⟨g, 15, none⟩ = some (.string s15) := cellOf hg 15 _ rfl; have k16 : W.cell? ⟨g, 16, none⟩ = some (.string s16) := cellOf hg 16 _ rfl; have HB := H_ (Below.refl W.heap.size W)
 by_cases hb : (2500 : Int) < wrap64 (wrap64 ((s4.size : Int) + (s15.size : Int)) + (s16.size : Int))
 . have d1 : decide ((2500 : Int) < wrap64 (wrap64 ((s4.size : Int) + (s15.size : Int)) + (s16.size : Int))) = true := by simpa using hb
   clear hg h4 h15 h16 hb; refine ⟨false, ?_⟩; go_enter Tryz.func7, Tryz.ntmps7; go_wp2_with fail; refine wp_loop_rounds 2 ?_; rw [rounds_succ]; go_wp2_with fail
   go_quiet (fail)
   go_wp2_with fail; go_ret; exact ⟨rfl, belowN HB.out _⟩
 . have d1 : decide ((2500 : Int) < wrap64 (wrap64 ((s4.size : Int) + (s15.size : Int)) + (s16.size : Int))) = false := by simpa using hb
   clear hg h4 h15 h16 hb; refine ⟨true, ?_⟩; go_enter Tryz.func7, Tryz.ntmps7; go_wp2_with fail; refine wp_loop_rounds 2 ?_; rw [rounds_succ]; go_wp2_with fail
   go_quiet (fail)
   go_wp2_with fail; rw [rounds_succ]; go_wp2_with fail; go_ret; exact ⟨rfl, belowN HB.out _⟩
def lnsZ : Array Value := List.toArray (.string ⟨#[]⟩ :: .string ⟨#[]⟩ :: .int .i64 0 :: .int .i64 0 :: .int .i64 0 :: .int .i64 0 :: .int .i64 0 :: .int .i64 0 :: .int .i64 0 :: .int .i64 0 :: .int .i64 0 :: .int .i64 0 :: .int .i64 0 :: .int .i64 0 :: .int .i64 0 :: .bool false :: .bool false :: .int .u8 0 :: .int .u8 0 :: .int .u8 0 :: .int .u8 0 :: .int .u8 0 :: .int .u8 0 :: .int .u8 0 :: .int .u8 0 :: .int .u8 0 :: .int .u8 0 :: .int .u8 0 :: .int .u8 0 :: .int .u8 0 :: .int .u8 0 :: .int .u8 0 :: .int .u8 0 :: .int .i64 0 :: .int .i64 0 :: .int .i64 0 :: .int .i64 0 :: .int .i64 0 :: .pointer none :: .map none :: .map none :: .pointer none :: .pointer none :: .int .i64 0 :: .int .u16 0 :: .int .u16 0 :: .slice none 0 0 :: .slice none 0 0 :: [])
theorem build_lnsZ (w : World) : (Instr.build 45 #[]).run Tryz.prog w = .ok (.agg lnsZ) w := by kernel_rfl
theorem box_lnsZ (w : World) : (Instr.box 45 (.agg lnsZ)).run Tryz.prog w = .ok (.pointer (some ⟨w.heap.size, 0, none⟩)) (w.alloc (.cells lnsZ 45 (0, 0))) := by kernel_rfl
theorem wpl_zeroLns {ops : Array Oper} {rest : List Oper} {Q : Exit -> Act -> World -> Prop} {a : Act} {w : World} {d1 d2 : Tmp} {t1 t2 : TypeId} {p1 p2 : String} {f1 f2 : Array Edge}
 (hx : (a.put (some d1) (.agg lnsZ)).eval (.tmp d1) = .agg lnsZ)
 (h : wpList Tryz.prog ops Q rest ((a.put (some d1) (.agg lnsZ)).put (some d2) (.pointer (some ⟨w.heap.size, 0, none⟩))) (w.alloc (.cells lnsZ 45 (0, 0)))) :
 wpList Tryz.prog ops Q ({ dst := some d1, op := .build 45 #[], type := t1, pos := p1, after := f1, guard := none } :: { dst := some d2, op := .box 45 (.tmp d1), type := t2, pos := p2, after := f2, guard := none } :: rest) a w := by
 refine Go.Tg.step_val (v := .agg lnsZ) (w' := w) rfl ?_ ?_
 . simp only [execOp, List.map_toArray, List.map_nil, Sem.run_bind, build_lnsZ, Result.andThen_ok, Sem.run_pure]
 . refine Go.Tg.step_val (v := .pointer (some ⟨w.heap.size, 0, none⟩)) (w' := w.alloc (.cells lnsZ 45 (0, 0))) rfl ?_ h; simp only [execOp, hx, Sem.run_bind, box_lnsZ, Result.andThen_ok, Sem.run_pure]
set_option maxRecDepth 100000 in
theorem lnsNone_any (n0 n1 n2 n3 n5 n6 : Int) (A B : Ad) (s4 s15 s16 : ByteArray) (w : World) (h4 : s4.size <= maxLen) (h15 : s15.size <= maxLen) (h16 : s16.size <= maxLen) :
 Calls Tryz.prog 3 #[.agg #[.int .i64 n0, .int .i64 n1, .int .i64 n2, .int .i64 n3, .string s4, .int .i64 n5, .int .i64 n6, .int .u8 (A.a.toNat : Int), .int .u8 (A.b.toNat : Int), .int .u8 (A.c.toNat : Int), .int .u8 (A.d.toNat : Int), .int .u8 (B.a.toNat : Int), .int .u8 (B.b.toNat : Int), .int .u8 (B.c.toNat : Int), .int .u8 (B.d.toNat : Int), .string s15, .string s16]] w fun e w' => e = .returned (.bool true) /\ Below w.heap.size w w' := by
 have HA := H_ (fun w => alive27_any w); obtain ⟨W, hW⟩ : ∃ W, W = (w.alloc (.cells #[.int .i64 n0, .int .i64 n1, .int .i64 n2, .int .i64 n3, .string s4, .int .i64 n5, .int .i64 n6, .int .u8 (A.a.toNat : Int), .int .u8 (A.b.toNat : Int), .int .u8 (A.c.toNat : Int), .int .u8 (A.d.toNat : Int), .int .u8 (B.a.toNat : Int), .int .u8 (B.b.toNat : Int), .int .u8 (B.c.toNat : Int), .int .u8 (B.d.toNat : Int), .string s15, .string s16] 29 (0, 0))).alloc (.cells #[.int .i64 n0, .int .i64 n1, .int .i64 n2, .int .i64 n3, .string s4, .int .i64 n5, .int .i64 n6, .int .u8 (A.a.toNat : Int), .int .u8 (A.b.toNat : Int), .int .u8 (A.c.toNat : Int), .int .u8 (A.d.toNat : Int), .int .u8 (B.a.toNat : Int), .int .u8 (B.b.toNat : Int), .int .u8 (B.c.toNat : Int), .int .u8 (B.d.toNat : Int), .string s15, .string s16] 29 (0, 0)) := ⟨_, rfl⟩; have b1 : Below w.heap.size w W := by rw [hW]; exact ((Below.refl _ _).alloc (Nat.le_refl _) _).alloc (by rw [alloc1]; omega) _
 have x0 : W.heap[w.heap.size]? = some (.cells #[.int .i64 n0, .int .i64 n1, .int .i64 n2, .int .i64 n3, .string s4, .int .i64 n5, .int .i64 n6, .int .u8 (A.a.toNat : Int), .int .u8 (A.b.toNat : Int), .int .u8 (A.c.toNat : Int), .int .u8 (A.d.toNat : Int), .int .u8 (B.a.toNat : Int), .int .u8 (B.b.toNat : Int), .int .u8 (B.c.toNat : Int), .int .u8 (B.d.toNat : Int), .string s15, .string s16] 29 (0, 0)) := by rw [hW]; exact at20 _ _ _
 have x1 : W.heap[w.heap.size + 1]? = some (.cells #[.int .i64 n0, .int .i64 n1, .int .i64 n2, .int .i64 n3, .string s4, .int .i64 n5, .int .i64 n6, .int .u8 (A.a.toNat : Int), .int .u8 (A.b.toNat : Int), .int .u8 (A.c.toNat : Int), .int .u8 (A.d.toNat : Int), .int .u8 (B.a.toNat : Int), .int .u8 (B.b.toNat : Int), .int .u8 (B.c.toNat : Int), .int .u8 (B.d.toNat : Int), .string s15, .string s16] 29 (0, 0)) := by rw [hW]; exact at21 _ _ _
 obtain ⟨b, hl⟩ := light27 n0 n1 n2 n3 n5 n6 A B s4 s15 s16 W _ x1 h4 h15 h16; have HL := H_ hl; have HX := H_ (A_ b1 x0); clear b1 x0 x1 h4 h15 h16 hl; cases b
 . go_enter Tryz.func3, Tryz.ntmps3
   go_wp2_with (first | (go_at_call 7; rw [<- hW]; refine HL.out.mono ?_; rintro e W1 ⟨rfl, bk⟩; have HY := H_ (HX.out.1.trans (bk.mono HX.out.1.size)); clear bk) | (go_at_call 8; refine (HA.out _).mono ?_; rintro e W2 ⟨rfl, b2⟩; have HY2 := H_ (HY.out.trans (b2.mono HY.out.size)); clear b2))
   go_ret; exact ⟨rfl, HY2.out⟩
 . go_enter Tryz.func3, Tryz.ntmps3
   go_upto_region 5 with (first | (go_at_call 7; rw [<- hW]; refine HL.out.mono ?_; rintro e W1 ⟨rfl, bk⟩; have HY := H_ (A_ (HX.out.1.trans (bk.mono HX.out.1.size)) ((bk.block _ (Array.getElem?_eq_some_iff.1 HX.out.2).1).trans HX.out.2)); clear bk) | (refine wpl_zeroLns (by rfl) ?_))
   have hz1 : Below w.heap.size w (W1.alloc (.cells lnsZ 45 (0, 0))) := HY.out.1.alloc HY.out.1.size _; have hz2 : (W1.alloc (.cells lnsZ 45 (0, 0))).heap[w.heap.size]? = some (.cells #[.int .i64 n0, .int .i64 n1, .int .i64 n2, .int .i64 n3, .string s4, .int .i64 n5, .int .i64 n6, .int .u8 (A.a.toNat : Int), .int .u8 (A.b.toNat : Int), .int .u8 (A.c.toNat : Int), .int .u8 (A.d.toNat : Int), .int .u8 (B.a.toNat : Int), .int .u8 (B.b.toNat : Int), .int .u8 (B.c.toNat : Int), .int .u8 (B.d.toNat : Int), .string s15, .string s16] 29 (0, 0)) := (((Below.refl _ W1).alloc (Nat.le_refl _) _).block _ (Array.getElem?_eq_some_iff.1 HY.out.2).1).trans HY.out.2; have hz3 : NoneX (.pointer (some ⟨W1.heap.size, 0, none⟩)) (W1.alloc (.cells lnsZ 45 (0, 0))) := noneX_zero (by rw [alloc1]; omega) (cellOf (at1 W1 _) 42 _ rfl); generalize hWz : W1.alloc (.cells lnsZ 45 (0, 0)) = Wz at hz1 hz2 hz3 ⊢; clear hWz; have HZ := H_ hz3; have HB0 := H_ hz1; have HO := H_ hz2; have HB := H_ (Below.refl Wz.heap.size Wz); clear hz1 hz2 hz3; have k2 := cellOf HO.out 2 (.int .i64 n2) rfl; have k3 := cellOf HO.out 3 (.int .i64 n3) rfl; have k4 := cellOf HO.out 4 (.string s4) rfl; have k5 := cellOf HO.out 5 (.int .i64 n5) rfl; have k6 := cellOf HO.out 6 (.int .i64 n6) rfl; have k7 := cellOf HO.out 7 (.int .u8 (A.a.toNat : Int)) rfl; have k8 := cellOf HO.out 8 (.int .u8 (A.b.toNat : Int)) rfl; have k9 := cellOf HO.out 9 (.int .u8 (A.c.toNat : Int)) rfl; have k10 := cellOf HO.out 10 (.int .u8 (A.d.toNat : Int)) rfl; have k11 := cellOf HO.out 11 (.int .u8 (B.a.toNat : Int)) rfl; have k12 := cellOf HO.out 12 (.int .u8 (B.b.toNat : Int)) rfl; have k13 := cellOf HO.out 13 (.int .u8 (B.c.toNat : Int)) rfl; have k14 := cellOf HO.out 14 (.int .u8 (B.d.toNat : Int)) rfl
   go_wp2_with (first | (go_at_call 9; refine (xGram_none (by rfl) (by first | exact noneX_nil _ | exact HZ.out.below HB.out) _ _ _).mono ?_; rintro e Y ⟨rfl, bk⟩; have HO := H_ ((bk.block _ (Array.getElem?_eq_some_iff.1 HO.out).1).trans HO.out); have HB := H_ (HB.out.trans (bk.mono HB.out.size)); clear bk; clear k2 k3 k4 k5 k6 k7 k8 k9 k10 k11 k12 k13 k14; have k2 := cellOf HO.out 2 (.int .i64 n2) rfl; have k3 := cellOf HO.out 3 (.int .i64 n3) rfl; have k4 := cellOf HO.out 4 (.string s4) rfl; have k5 := cellOf HO.out 5 (.int .i64 n5) rfl; have k6 := cellOf HO.out 6 (.int .i64 n6) rfl; have k7 := cellOf HO.out 7 (.int .u8 (A.a.toNat : Int)) rfl; have k8 := cellOf HO.out 8 (.int .u8 (A.b.toNat : Int)) rfl; have k9 := cellOf HO.out 9 (.int .u8 (A.c.toNat : Int)) rfl; have k10 := cellOf HO.out 10 (.int .u8 (A.d.toNat : Int)) rfl; have k11 := cellOf HO.out 11 (.int .u8 (B.a.toNat : Int)) rfl; have k12 := cellOf HO.out 12 (.int .u8 (B.b.toNat : Int)) rfl; have k13 := cellOf HO.out 13 (.int .u8 (B.c.toNat : Int)) rfl; have k14 := cellOf HO.out 14 (.int .u8 (B.d.toNat : Int)) rfl) | (go_at_call 10; refine (xTick_none (by rfl) (by first | exact noneX_nil _ | exact HZ.out.below HB.out)).mono ?_; rintro e Y ⟨rfl, bk⟩; have HO := H_ ((bk.block _ (Array.getElem?_eq_some_iff.1 HO.out).1).trans HO.out); have HB := H_ (HB.out.trans (bk.mono HB.out.size)); clear bk; clear k2 k3 k4 k5 k6 k7 k8 k9 k10 k11 k12 k13 k14; have k2 := cellOf HO.out 2 (.int .i64 n2) rfl; have k3 := cellOf HO.out 3 (.int .i64 n3) rfl; have k4 := cellOf HO.out 4 (.string s4) rfl; have k5 := cellOf HO.out 5 (.int .i64 n5) rfl; have k6 := cellOf HO.out 6 (.int .i64 n6) rfl; have k7 := cellOf HO.out 7 (.int .u8 (A.a.toNat : Int)) rfl; have k8 := cellOf HO.out 8 (.int .u8 (A.b.toNat : Int)) rfl; have k9 := cellOf HO.out 9 (.int .u8 (A.c.toNat : Int)) rfl; have k10 := cellOf HO.out 10 (.int .u8 (A.d.toNat : Int)) rfl; have k11 := cellOf HO.out 11 (.int .u8 (B.a.toNat : Int)) rfl; have k12 := cellOf HO.out 12 (.int .u8 (B.b.toNat : Int)) rfl; have k13 := cellOf HO.out 13 (.int .u8 (B.c.toNat : Int)) rfl; have k14 := cellOf HO.out 14 (.int .u8 (B.d.toNat : Int)) rfl) | (go_at_call 11; refine (xTunnel_none (by rfl) (by first | exact noneX_nil _ | exact HZ.out.below HB.out) _).mono ?_; rintro e Y ⟨rfl, bk⟩; have HO := H_ ((bk.block _ (Array.getElem?_eq_some_iff.1 HO.out).1).trans HO.out); have HB := H_ (HB.out.trans (bk.mono HB.out.size)); clear bk; clear k2 k3 k4 k5 k6 k7 k8 k9 k10 k11 k12 k13 k14; have k2 := cellOf HO.out 2 (.int .i64 n2) rfl; have k3 := cellOf HO.out 3 (.int .i64 n3) rfl; have k4 := cellOf HO.out 4 (.string s4) rfl; have k5 := cellOf HO.out 5 (.int .i64 n5) rfl; have k6 := cellOf HO.out 6 (.int .i64 n6) rfl; have k7 := cellOf HO.out 7 (.int .u8 (A.a.toNat : Int)) rfl; have k8 := cellOf HO.out 8 (.int .u8 (A.b.toNat : Int)) rfl; have k9 := cellOf HO.out 9 (.int .u8 (A.c.toNat : Int)) rfl; have k10 := cellOf HO.out 10 (.int .u8 (A.d.toNat : Int)) rfl; have k11 := cellOf HO.out 11 (.int .u8 (B.a.toNat : Int)) rfl; have k12 := cellOf HO.out 12 (.int .u8 (B.b.toNat : Int)) rfl; have k13 := cellOf HO.out 13 (.int .u8 (B.c.toNat : Int)) rfl; have k14 := cellOf HO.out 14 (.int .u8 (B.d.toNat : Int)) rfl) | (go_at_call 12; refine (xLink_none (by rfl) (by first | exact noneX_nil _ | exact HZ.out.below HB.out) _ _).mono ?_; rintro e Y ⟨rfl, bk⟩; have HO := H_ ((bk.block _ (Array.getElem?_eq_some_iff.1 HO.out).1).trans HO.out); have HB := H_ (HB.out.trans (bk.mono HB.out.size)); clear bk; clear k2 k3 k4 k5 k6 k7 k8 k9 k10 k11 k12 k13 k14; have k2 := cellOf HO.out 2 (.int .i64 n2) rfl; have k3 := cellOf HO.out 3 (.int .i64 n3) rfl; have k4 := cellOf HO.out 4 (.string s4) rfl; have k5 := cellOf HO.out 5 (.int .i64 n5) rfl; have k6 := cellOf HO.out 6 (.int .i64 n6) rfl; have k7 := cellOf HO.out 7 (.int .u8 (A.a.toNat : Int)) rfl; have k8 := cellOf HO.out 8 (.int .u8 (A.b.toNat : Int)) rfl; have k9 := cellOf HO.out 9 (.int .u8 (A.c.toNat : Int)) rfl; have k10 := cellOf HO.out 10 (.int .u8 (A.d.toNat : Int)) rfl; have k11 := cellOf HO.out 11 (.int .u8 (B.a.toNat : Int)) rfl; have k12 := cellOf HO.out 12 (.int .u8 (B.b.toNat : Int)) rfl; have k13 := cellOf HO.out 13 (.int .u8 (B.c.toNat : Int)) rfl; have k14 := cellOf HO.out 14 (.int .u8 (B.d.toNat : Int)) rfl) | (go_at_call 8; refine (HA.out _).mono ?_; rintro e Y ⟨rfl, bk⟩; have HO := H_ ((bk.block _ (Array.getElem?_eq_some_iff.1 HO.out).1).trans HO.out); have HB := H_ (HB.out.trans (bk.mono HB.out.size)); clear bk; clear k2 k3 k4 k5 k6 k7 k8 k9 k10 k11 k12 k13 k14; have k2 := cellOf HO.out 2 (.int .i64 n2) rfl; have k3 := cellOf HO.out 3 (.int .i64 n3) rfl; have k4 := cellOf HO.out 4 (.string s4) rfl; have k5 := cellOf HO.out 5 (.int .i64 n5) rfl; have k6 := cellOf HO.out 6 (.int .i64 n6) rfl; have k7 := cellOf HO.out 7 (.int .u8 (A.a.toNat : Int)) rfl; have k8 := cellOf HO.out 8 (.int .u8 (A.b.toNat : Int)) rfl; have k9 := cellOf HO.out 9 (.int .u8 (A.c.toNat : Int)) rfl; have k10 := cellOf HO.out 10 (.int .u8 (A.d.toNat : Int)) rfl; have k11 := cellOf HO.out 11 (.int .u8 (B.a.toNat : Int)) rfl; have k12 := cellOf HO.out 12 (.int .u8 (B.b.toNat : Int)) rfl; have k13 := cellOf HO.out 13 (.int .u8 (B.c.toNat : Int)) rfl; have k14 := cellOf HO.out 14 (.int .u8 (B.d.toNat : Int)) rfl) | (go_at_call 13; refine (xOut_none (by rfl) (by first | exact noneX_nil _ | exact HZ.out.below HB.out)).mono ?_; rintro e Y ⟨rfl, bk⟩; have HO := H_ ((bk.block _ (Array.getElem?_eq_some_iff.1 HO.out).1).trans HO.out); have HB := H_ (HB.out.trans (bk.mono HB.out.size)); clear bk; clear k2 k3 k4 k5 k6 k7 k8 k9 k10 k11 k12 k13 k14; have k2 := cellOf HO.out 2 (.int .i64 n2) rfl; have k3 := cellOf HO.out 3 (.int .i64 n3) rfl; have k4 := cellOf HO.out 4 (.string s4) rfl; have k5 := cellOf HO.out 5 (.int .i64 n5) rfl; have k6 := cellOf HO.out 6 (.int .i64 n6) rfl; have k7 := cellOf HO.out 7 (.int .u8 (A.a.toNat : Int)) rfl; have k8 := cellOf HO.out 8 (.int .u8 (A.b.toNat : Int)) rfl; have k9 := cellOf HO.out 9 (.int .u8 (A.c.toNat : Int)) rfl; have k10 := cellOf HO.out 10 (.int .u8 (A.d.toNat : Int)) rfl; have k11 := cellOf HO.out 11 (.int .u8 (B.a.toNat : Int)) rfl; have k12 := cellOf HO.out 12 (.int .u8 (B.b.toNat : Int)) rfl; have k13 := cellOf HO.out 13 (.int .u8 (B.c.toNat : Int)) rfl; have k14 := cellOf HO.out 14 (.int .u8 (B.d.toNat : Int)) rfl) | (go_at_call 14; refine (xSeats_none (by rfl) (by first | exact noneX_nil _ | exact HZ.out.below HB.out)).mono ?_; rintro e Y ⟨rfl, bk⟩; have HO := H_ ((bk.block _ (Array.getElem?_eq_some_iff.1 HO.out).1).trans HO.out); have HB := H_ (HB.out.trans (bk.mono HB.out.size)); clear bk; clear k2 k3 k4 k5 k6 k7 k8 k9 k10 k11 k12 k13 k14; have k2 := cellOf HO.out 2 (.int .i64 n2) rfl; have k3 := cellOf HO.out 3 (.int .i64 n3) rfl; have k4 := cellOf HO.out 4 (.string s4) rfl; have k5 := cellOf HO.out 5 (.int .i64 n5) rfl; have k6 := cellOf HO.out 6 (.int .i64 n6) rfl; have k7 := cellOf HO.out 7 (.int .u8 (A.a.toNat : Int)) rfl; have k8 := cellOf HO.out 8 (.int .u8 (A.b.toNat : Int)) rfl; have k9 := cellOf HO.out 9 (.int .u8 (A.c.toNat : Int)) rfl; have k10 := cellOf HO.out 10 (.int .u8 (A.d.toNat : Int)) rfl; have k11 := cellOf HO.out 11 (.int .u8 (B.a.toNat : Int)) rfl; have k12 := cellOf HO.out 12 (.int .u8 (B.b.toNat : Int)) rfl; have k13 := cellOf HO.out 13 (.int .u8 (B.c.toNat : Int)) rfl; have k14 := cellOf HO.out 14 (.int .u8 (B.d.toNat : Int)) rfl) | (go_at_call 15; refine (xEvents_none (by rfl) (by first | exact noneX_nil _ | exact HZ.out.below HB.out)).mono ?_; rintro e Y ⟨rfl, bk⟩; have HO := H_ ((bk.block _ (Array.getElem?_eq_some_iff.1 HO.out).1).trans HO.out); have HB := H_ (HB.out.trans (bk.mono HB.out.size)); clear bk; clear k2 k3 k4 k5 k6 k7 k8 k9 k10 k11 k12 k13 k14; have k2 := cellOf HO.out 2 (.int .i64 n2) rfl; have k3 := cellOf HO.out 3 (.int .i64 n3) rfl; have k4 := cellOf HO.out 4 (.string s4) rfl; have k5 := cellOf HO.out 5 (.int .i64 n5) rfl; have k6 := cellOf HO.out 6 (.int .i64 n6) rfl; have k7 := cellOf HO.out 7 (.int .u8 (A.a.toNat : Int)) rfl; have k8 := cellOf HO.out 8 (.int .u8 (A.b.toNat : Int)) rfl; have k9 := cellOf HO.out 9 (.int .u8 (A.c.toNat : Int)) rfl; have k10 := cellOf HO.out 10 (.int .u8 (A.d.toNat : Int)) rfl; have k11 := cellOf HO.out 11 (.int .u8 (B.a.toNat : Int)) rfl; have k12 := cellOf HO.out 12 (.int .u8 (B.b.toNat : Int)) rfl; have k13 := cellOf HO.out 13 (.int .u8 (B.c.toNat : Int)) rfl; have k14 := cellOf HO.out 14 (.int .u8 (B.d.toNat : Int)) rfl) | (go_at_call 16; refine (xFree_none (by rfl) (by first | exact noneX_nil _ | exact HZ.out.below HB.out)).mono ?_; rintro e Y ⟨rfl, bk⟩; have HO := H_ ((bk.block _ (Array.getElem?_eq_some_iff.1 HO.out).1).trans HO.out); have HB := H_ (HB.out.trans (bk.mono HB.out.size)); clear bk; clear k2 k3 k4 k5 k6 k7 k8 k9 k10 k11 k12 k13 k14; have k2 := cellOf HO.out 2 (.int .i64 n2) rfl; have k3 := cellOf HO.out 3 (.int .i64 n3) rfl; have k4 := cellOf HO.out 4 (.string s4) rfl; have k5 := cellOf HO.out 5 (.int .i64 n5) rfl; have k6 := cellOf HO.out 6 (.int .i64 n6) rfl; have k7 := cellOf HO.out 7 (.int .u8 (A.a.toNat : Int)) rfl; have k8 := cellOf HO.out 8 (.int .u8 (A.b.toNat : Int)) rfl; have k9 := cellOf HO.out 9 (.int .u8 (A.c.toNat : Int)) rfl; have k10 := cellOf HO.out 10 (.int .u8 (A.d.toNat : Int)) rfl; have k11 := cellOf HO.out 11 (.int .u8 (B.a.toNat : Int)) rfl; have k12 := cellOf HO.out 12 (.int .u8 (B.b.toNat : Int)) rfl; have k13 := cellOf HO.out 13 (.int .u8 (B.c.toNat : Int)) rfl; have k14 := cellOf HO.out 14 (.int .u8 (B.d.toNat : Int)) rfl) | (go_at_call 17; refine (xSet_none (by rfl) (by first | exact noneX_nil _ | exact HZ.out.below HB.out) _ _).mono ?_; rintro e Y ⟨rfl, bk⟩; have HO := H_ ((bk.block _ (Array.getElem?_eq_some_iff.1 HO.out).1).trans HO.out); have HB := H_ (HB.out.trans (bk.mono HB.out.size)); clear bk; clear k2 k3 k4 k5 k6 k7 k8 k9 k10 k11 k12 k13 k14; have k2 := cellOf HO.out 2 (.int .i64 n2) rfl; have k3 := cellOf HO.out 3 (.int .i64 n3) rfl; have k4 := cellOf HO.out 4 (.string s4) rfl; have k5 := cellOf HO.out 5 (.int .i64 n5) rfl; have k6 := cellOf HO.out 6 (.int .i64 n6) rfl; have k7 := cellOf HO.out 7 (.int .u8 (A.a.toNat : Int)) rfl; have k8 := cellOf HO.out 8 (.int .u8 (A.b.toNat : Int)) rfl; have k9 := cellOf HO.out 9 (.int .u8 (A.c.toNat : Int)) rfl; have k10 := cellOf HO.out 10 (.int .u8 (A.d.toNat : Int)) rfl; have k11 := cellOf HO.out 11 (.int .u8 (B.a.toNat : Int)) rfl; have k12 := cellOf HO.out 12 (.int .u8 (B.b.toNat : Int)) rfl; have k13 := cellOf HO.out 13 (.int .u8 (B.c.toNat : Int)) rfl; have k14 := cellOf HO.out 14 (.int .u8 (B.d.toNat : Int)) rfl) | (go_at_call 18; refine (xSend_none (by rfl) (by first | exact noneX_nil _ | exact HZ.out.below HB.out) A B _).mono ?_; rintro e Y ⟨rfl, bk⟩; have HO := H_ ((bk.block _ (Array.getElem?_eq_some_iff.1 HO.out).1).trans HO.out); have HB := H_ (HB.out.trans (bk.mono HB.out.size)); clear bk; clear k2 k3 k4 k5 k6 k7 k8 k9 k10 k11 k12 k13 k14; have k2 := cellOf HO.out 2 (.int .i64 n2) rfl; have k3 := cellOf HO.out 3 (.int .i64 n3) rfl; have k4 := cellOf HO.out 4 (.string s4) rfl; have k5 := cellOf HO.out 5 (.int .i64 n5) rfl; have k6 := cellOf HO.out 6 (.int .i64 n6) rfl; have k7 := cellOf HO.out 7 (.int .u8 (A.a.toNat : Int)) rfl; have k8 := cellOf HO.out 8 (.int .u8 (A.b.toNat : Int)) rfl; have k9 := cellOf HO.out 9 (.int .u8 (A.c.toNat : Int)) rfl; have k10 := cellOf HO.out 10 (.int .u8 (A.d.toNat : Int)) rfl; have k11 := cellOf HO.out 11 (.int .u8 (B.a.toNat : Int)) rfl; have k12 := cellOf HO.out 12 (.int .u8 (B.b.toNat : Int)) rfl; have k13 := cellOf HO.out 13 (.int .u8 (B.c.toNat : Int)) rfl; have k14 := cellOf HO.out 14 (.int .u8 (B.d.toNat : Int)) rfl) | (go_at_call 19; refine (xClose_none (by rfl) (by first | exact noneX_nil _ | exact HZ.out.below HB.out) _ _).mono ?_; rintro e Y ⟨rfl, bk⟩; have HO := H_ ((bk.block _ (Array.getElem?_eq_some_iff.1 HO.out).1).trans HO.out); have HB := H_ (HB.out.trans (bk.mono HB.out.size)); clear bk; clear k2 k3 k4 k5 k6 k7 k8 k9 k10 k11 k12 k13 k14; have k2 := cellOf HO.out 2 (.int .i64 n2) rfl; have k3 := cellOf HO.out 3 (.int .i64 n3) rfl; have k4 := cellOf HO.out 4 (.string s4) rfl; have k5 := cellOf HO.out 5 (.int .i64 n5) rfl; have k6 := cellOf HO.out 6 (.int .i64 n6) rfl; have k7 := cellOf HO.out 7 (.int .u8 (A.a.toNat : Int)) rfl; have k8 := cellOf HO.out 8 (.int .u8 (A.b.toNat : Int)) rfl; have k9 := cellOf HO.out 9 (.int .u8 (A.c.toNat : Int)) rfl; have k10 := cellOf HO.out 10 (.int .u8 (A.d.toNat : Int)) rfl; have k11 := cellOf HO.out 11 (.int .u8 (B.a.toNat : Int)) rfl; have k12 := cellOf HO.out 12 (.int .u8 (B.b.toNat : Int)) rfl; have k13 := cellOf HO.out 13 (.int .u8 (B.c.toNat : Int)) rfl; have k14 := cellOf HO.out 14 (.int .u8 (B.d.toNat : Int)) rfl))
   go_ret; exact ⟨rfl, HB0.out.trans (HB.out.mono HB0.out.size)⟩
end Go.Proofs.YtgoahafndefhgaaGreat
