import Derived.Test.YtoblffnlopmebaaGreatQAR
import Derived.Test.YtoblffnlopmebaaGreatQAO
import Derived.ChangeKeysEq
import Derived.Laws.Cover3
import Derived.Laws.IdiomStrings
import Derived.Test.YtoblffnlopmebaaGreatQAM
import Derived.Test.YtoblffnlopmebaaGreatQAA
import Derived.Laws.EntriesVeiled
set_option linter.unusedVariables false
set_option linter.unusedSimpArgs false
set_option maxHeartbeats 16000000
namespace Go.Proofs.YtoblffnlopmebaaGreat
open Go.RowKit Go.Tg Go.Maps
def eqB (a b : Opt) : Bool := decide (a.t = b.t) && decide (a.v = b.v)
structure Ad where
 a : UInt8
 b : UInt8
 c : UInt8
 d : UInt8
def Ad.v (x : Ad) : Value := .agg #[.int .u8 (x.a.toNat : Int), .int .u8 (x.b.toNat : Int), .int .u8 (x.c.toNat : Int), .int .u8 (x.d.toNat : Int)]
def Ad.cs (x : Ad) : Array Value := #[.int .u8 (x.a.toNat : Int), .int .u8 (x.b.toNat : Int), .int .u8 (x.c.toNat : Int), .int .u8 (x.d.toNat : Int)]
def Ad.s (x : Ad) : ByteArray := ⟨#[x.a, x.b, x.c, x.d]⟩
def Ad.z : Ad := ⟨0, 0, 0, 0⟩
def adE (x y : Ad) : Bool := decide (x.a = y.a) && (decide (x.b = y.b) && (decide (x.c = y.c) && decide (x.d = y.d)))
def justR (k : Int) (x : Ad) : Rl := ⟨k, 4, valB [x.a, x.b, x.c, x.d], valB [x.a, x.b, x.c, x.d], x.s⟩
def spanR (k m : Int) (s : ByteArray) : Rl := ⟨k, 4, m, 4294967295, s⟩
def adOf (s : ByteArray) : Ad := ⟨s.data.getD 0 0, s.data.getD 1 0, s.data.getD 2 0, s.data.getD 3 0⟩
def adrS (l : List Opt) (k : Int) : Ad × Bool := match findO l k with
 | none => (Ad.z, false)
 | some o => if o.v.size = 4 then (adOf o.v, true) else (Ad.z, false)
def goodS (a b : Ad) : Bool := adE a b && !adE a Ad.z
theorem ktK : Tryz.prog.keyTypeAt 3 202 = true := by kernel_rfl
theorem szK : decide (202 < Tryz.prog.types.size) = true := by kernel_rfl
theorem wdK : (match Tryz.prog.underlying 202 with | some (.array _ _) | some (.struct _) => true | _ => false) = true := by kernel_rfl
set_option maxRecDepth 100000 in
theorem keyedK : Keyed Tryz.prog 202 := Keyed.of_law (deep_law_laid laidOut (m := 3) (by omega) (of_decide_eq_true szK) ktK wdK)
def kindV (p : Int) : Value := .agg #[.int .i64 p, .bool true]
theorem kvK (a : Int) (ha : I64 a) : KV Tryz.prog 202 (kindV a) := by
 unfold KV kindV; have ha' : (Lit.int .i64 a).wf = true := by first | exact ha | (unfold I64 at ha; simp [Lit.wf, IntKind.min, IntKind.max, IntKind.signed, IntKind.bits]; omega)
 have h1 : Tryz.prog.keyType 202 = true := by kernel_rfl
 have h3 : (Value.agg #[Value.int .i64 a, Value.bool true]).formed Tryz.prog 202 = true := by kernel_rfl
 have h2 : (Tryz.prog.keyLits (Tryz.prog.types.size + 1) 202 (Value.agg #[Value.int .i64 a, Value.bool true]).cells.toList) = some [.int .i64 a, .bool true] := by
  obtain ⟨d, hd⟩ : ∃ d, Tryz.prog.types.size + 1 = d + 2 := ⟨Tryz.prog.types.size - 1, by kernel_rfl⟩; have c48 : Tryz.prog.cellsOf 202 = 2 := by kernel_rfl
  have c3 : Tryz.prog.cellsOf 3 = 1 := by kernel_rfl
  have c4 : Tryz.prog.cellsOf 4 = 1 := by kernel_rfl
  have cs : (Value.agg #[Value.int .i64 a, Value.bool true]).cells.toList = [Value.int .i64 a, Value.bool true] := rfl; rw [hd, cs]; generalize hwa : (Lit.int .i64 a).wf = wa at ha'; subst ha'; simp [Program.keyLits, Tryz.underlying202, Tryz.underlying3, Tryz.underlying4, c48, c3, c4, hwa]
 simp only [keyOf, Tryz.underlying202, h1, h2, h3]; exact ⟨_, rfl⟩
def papB : ByteArray := ⟨#[192, 35]⟩
def chapB : ByteArray := ⟨#[194, 35, 5]⟩
def noS : ByteArray := ⟨#[]⟩
def lvalS (p : Int) : ByteArray := if p = 49187 then papB else if p = 49699 then chapB else noS
theorem kindV_inj {a b : Int} (h : kindV a = kindV b) : a = b := by
 unfold kindV at h
 simpa using h
set_option maxRecDepth 100000 in
theorem lvalue_any (p : Int) (w : World) (hp : I64 p) : Calls Tryz.prog 69 #[.int .i64 p] w fun e w' => e = .returned (.string (lvalS p)) /\ Below w.heap.size w w' := by
 have hmm := @run_makeMap Tryz.prog; have hz : ∀ w, (zeroValue 9).run Tryz.prog w = .ok (.string noS) w := fun w => by kernel_rfl
 have hb1 : ∀ w, (Instr.build 202 #[(0, .int .i64 49187), (1, .bool true)]).run Tryz.prog w = .ok (kindV 49187) w := fun w => by kernel_rfl
 have hb2 : ∀ w, (Instr.build 202 #[(0, .int .i64 49699), (1, .bool true)]).run Tryz.prog w = .ok (kindV 49699) w := fun w => by kernel_rfl
 have hb3 : ∀ w, (Instr.build 202 #[(0, .int .i64 p), (1, .bool true)]).run Tryz.prog w = .ok (kindV p) w := fun w => by kernel_rfl
 have i1 : I64 49187 := by unfold I64; decide
 have i2 : I64 49699 := by unfold I64; decide
 have hm0 : MapAt Tryz.prog 202 ((w.alloc (.map #[] 0)).drew) w.heap.size (fun _ => none) := MapAt.empty w.drew; obtain ⟨ea, ca, ua, ma⟩ := hm0.run_update keyedK Tryz.underlying203 (kvK 49187 i1) (.string papB); obtain ⟨eb, cb, ub, mb⟩ := ma.run_update keyedK Tryz.underlying203 (kvK 49699 i2) (.string chapB); have la := mb.run_lookup keyedK Tryz.underlying203 (kvK p hp) (hz _) false; obtain ⟨ed, cd, ud, md⟩ := hm0.run_update keyedK Tryz.underlying203 (kvK 49699 i2) (.string chapB); obtain ⟨ee, ce, ue, me⟩ := md.run_update keyedK Tryz.underlying203 (kvK 49187 i1) (.string papB); have lb := me.run_lookup keyedK Tryz.underlying203 (kvK p hp) (hz _) false; have h12 : kindV 49187 ≠ kindV 49699 := fun h => absurd (kindV_inj h) (by decide)
 have ra : ((upd (upd (fun _ => none) (kindV 49187) (.string papB)) (kindV 49699) (.string chapB)) (kindV p)).getD (.string noS) = .string (lvalS p) := by
  unfold lvalS
  by_cases h1 : p = 49187
  . subst h1; rw [upd_other _ _ h12, upd_same]; rfl
  . by_cases h2 : p = 49699
    . subst h2; rw [upd_same]; rfl
    . rw [upd_other _ _ (fun h => h2 (kindV_inj h)), upd_other _ _ (fun h => h1 (kindV_inj h)), if_neg h1, if_neg h2]; rfl
 have rb : ((upd (upd (fun _ => none) (kindV 49699) (.string chapB)) (kindV 49187) (.string papB)) (kindV p)).getD (.string noS) = .string (lvalS p) := by
  unfold lvalS
  by_cases h1 : p = 49187
  . subst h1; rw [upd_same]; rfl
  . by_cases h2 : p = 49699
    . subst h2; rw [upd_other _ _ (fun h => h12 h.symm), upd_same]; rfl
    . rw [upd_other _ _ (fun h => h1 (kindV_inj h)), upd_other _ _ (fun h => h2 (kindV_inj h)), if_neg h1, if_neg h2]; rfl
 simp only [Bool.false_eq_true, if_false] at la lb; rw [ra] at la; rw [rb] at lb; have hk0 : Below w.heap.size w ((w.alloc (.map #[] 0)).drew) := ((Below.refl w.heap.size w).alloc (Nat.le_refl _) (.map #[] 0)).drew
 have kk : ∀ (W : World) (o : Obj), Below w.heap.size w W -> Below w.heap.size w (ChangeMaps.setBlock W w.heap.size o) := fun W o hW =>
  hW.trans (((Keep.refl (· = w.heap.size) W).setBlock w.heap.size (Or.inr rfl) o).below hW.size (fun k hk e => by omega))
 have HB := H_ (A_ (kk _ (.map eb cb) (kk _ (.map ea ca) hk0)) (kk _ (.map ee ce) (kk _ (.map ed cd) hk0))); clear kk hk0 hm0 ma mb md me ra rb h12 hz; generalize hS1 : ChangeMaps.setBlock ((w.alloc (.map #[] 0)).drew) w.heap.size (.map ea ca) = S1 at *; generalize hS2 : ChangeMaps.setBlock S1 w.heap.size (.map eb cb) = S2 at *; generalize hS3 : ChangeMaps.setBlock ((w.alloc (.map #[] 0)).drew) w.heap.size (.map ed cd) = S3 at *; generalize hS4 : ChangeMaps.setBlock S3 w.heap.size (.map ee ce) = S4 at *; clear hS1 hS2 hS3 hS4; unfold papB at ua ue; unfold chapB at ub ud; unfold kindV at ua ub ud ue la lb hb1 hb2 hb3; generalize lvalS p = vp at *; go_enter Tryz.func69, Tryz.ntmps69; go_wp2_with fail; refine wp_region_H (rgH 0 0) (fun _ => True) (by kernel_rfl) ?_; refine hatP 1 rfl (by intro W _; go_simp; try rfl) ?_; simp only [aZ, aC, aD]; refine hatP 3 rfl (by intro W _; go_simp; try rfl) ?_; simp only [aZ, aC, aD]; refine hatP 6 rfl (by intro W _; go_simp; try rfl) ?_; simp only [aZ, aC, aD]; refine hatP 7 rfl (by intro W _; go_simp; try rfl) ?_; simp only [aZ, aC, aD]; refine hone 0 rfl fun K hK => ?_
 try go_simp
 refine hK _ _ (fun _ => trivial) ?_
 try simp only [aZ, aA, aE, aB, aC, aD]
 refine wpAnyH_2 2 4 rfl rfl (by kernel_rfl) ?_ ?_
 . intro K hK; rw [if_pos (by rfl)]; go_simp; refine hK _ _ (fun _ => trivial) ?_
   try simp only [aZ, aA, aE, aB, aC, aD]
   refine hone 4 rfl fun K hK => ?_
   try go_simp
   refine hK _ _ (fun _ => trivial) ?_
   try simp only [aZ, aA, aE, aB, aC, aD]
   refine hone 5 rfl fun K hK => ?_
   try go_simp
   refine hK _ _ (fun _ => trivial) ?_
   try simp only [aZ, aA, aE, aB, aC, aD]
   refine hone 8 rfl fun K hK => ?_
   try go_simp
   refine hK _ _ (fun _ => trivial) ?_
   try simp only [aZ, aA, aE, aB, aC, aD]
   refine hend 9 ?_; simp only [aF, aG]; go_wp2_with fail; go_ret; exact ⟨rfl, HB.out.1⟩
 . intro K hK; rw [if_pos (by rfl)]; go_simp; refine hK _ _ (fun _ => trivial) ?_
   try simp only [aZ, aA, aE, aB, aC, aD]
   refine hone 2 rfl fun K hK => ?_
   try go_simp
   refine hK _ _ (fun _ => trivial) ?_
   try simp only [aZ, aA, aE, aB, aC, aD]
   refine hone 5 rfl fun K hK => ?_
   try go_simp
   refine hK _ _ (fun _ => trivial) ?_
   try simp only [aZ, aA, aE, aB, aC, aD]
   refine hone 8 rfl fun K hK => ?_
   try go_simp
   refine hK _ _ (fun _ => trivial) ?_
   try simp only [aZ, aA, aE, aB, aC, aD]
   refine hend 9 ?_; simp only [aF, aG]; go_wp2_with fail; go_ret; exact ⟨rfl, HB.out.2⟩
def be2 (v : Nat) : ByteArray := ⟨#[UInt8.ofNat (v / 256), UInt8.ofNat v]⟩
def be4 (v : Nat) : ByteArray := ⟨#[UInt8.ofNat (v / 16777216), UInt8.ofNat (v / 65536), UInt8.ofNat (v / 256), UInt8.ofNat v]⟩
set_option maxRecDepth 100000 in
theorem lput2_any (v : Nat) (w : World) (hv : v < 65536) :
 Calls Tryz.prog 92 #[.int .i64 (v : Int), .int .i64 2] w fun e w' => e = .returned (.string (be2 v)) /\ Below w.heap.size w w' := by
 have hmk : ∀ w, (Instr.makeSlice 193 (.int .i64 2) (.int .i64 2)).run Tryz.prog w = .ok (.slice (some ⟨w.heap.size, 0, none⟩) 2 2) (w.alloc (.cells #[.int .u8 0, .int .u8 0] 5 (0, 0))) := fun w => by kernel_rfl
 have hcv : (convert 193 9 (.slice (some ⟨w.heap.size, 0, none⟩) 2 2)).run Tryz.prog (w.alloc (.cells #[.int .u8 ((v : Int) / 256), .int .u8 ((v : Int) % 256)] 5 (0, 0))) = .ok (.string (be2 v)) (w.alloc (.cells #[.int .u8 ((v : Int) / 256), .int .u8 ((v : Int) % 256)] 5 (0, 0))) := by
  have hx := at1 w (.cells #[.int .u8 ((v : Int) / 256), .int .u8 ((v : Int) % 256)] 5 (0, 0)); refine run_convert_bytes_back (P := Tryz.prog) _ 193 9 5 ⟨w.heap.size, 0, none⟩ 2 [UInt8.ofNat (v / 256), UInt8.ofNat v] Tryz.underlying193 Tryz.underlying5 Tryz.underlying9 (fun j hj => ?_); rw [Addr.add_lit, Nat.zero_add]; have e1 : (UInt8.ofNat (v / 256)).toNat = v / 256 := by rw [UInt8.toNat_ofNat']; omega
  have e2 : (UInt8.ofNat v).toNat = v % 256 := by rw [UInt8.toNat_ofNat']
  match j, hj with
  | 0, _ => simp only [List.getElem_cons_zero]; rw [e1]; exact cellOf hx 0 _ (by simp)
  | 1, _ => simp only [List.getElem_cons_zero, List.getElem_cons_succ]; rw [e2]; exact cellOf hx 1 _ (by simp)
 go_enter Tryz.func92, Tryz.ntmps92; go_wp2_with fail; refine wp_loop_rounds 3 ?_; rw [rounds_succ]; go_wp2_with fail; rw [rounds_succ]; go_wp2_with fail; rw [rounds_succ]; go_wp2_with fail; go_ret; exact ⟨rfl, (Below.refl _ _).alloc (Nat.le_refl _) _⟩
set_option maxRecDepth 100000 in
theorem lput4_any (v : Nat) (w : World) (hv : v < 4294967296) :
 Calls Tryz.prog 92 #[.int .i64 (v : Int), .int .i64 4] w fun e w' => e = .returned (.string (be4 v)) /\ Below w.heap.size w w' := by
 have hmk : ∀ w, (Instr.makeSlice 193 (.int .i64 4) (.int .i64 4)).run Tryz.prog w = .ok (.slice (some ⟨w.heap.size, 0, none⟩) 4 4) (w.alloc (.cells #[.int .u8 0, .int .u8 0, .int .u8 0, .int .u8 0] 5 (0, 0))) := fun w => by kernel_rfl
 have hcv : (convert 193 9 (.slice (some ⟨w.heap.size, 0, none⟩) 4 4)).run Tryz.prog (w.alloc (.cells #[.int .u8 ((v : Int) / 16777216), .int .u8 ((v : Int) / 65536 % 256), .int .u8 ((v : Int) / 256 % 256), .int .u8 ((v : Int) % 256)] 5 (0, 0))) = .ok (.string (be4 v)) (w.alloc (.cells #[.int .u8 ((v : Int) / 16777216), .int .u8 ((v : Int) / 65536 % 256), .int .u8 ((v : Int) / 256 % 256), .int .u8 ((v : Int) % 256)] 5 (0, 0))) := by
  have hx := at1 w (.cells #[.int .u8 ((v : Int) / 16777216), .int .u8 ((v : Int) / 65536 % 256), .int .u8 ((v : Int) / 256 % 256), .int .u8 ((v : Int) % 256)] 5 (0, 0)); refine run_convert_bytes_back (P := Tryz.prog) _ 193 9 5 ⟨w.heap.size, 0, none⟩ 4 [UInt8.ofNat (v / 16777216), UInt8.ofNat (v / 65536), UInt8.ofNat (v / 256), UInt8.ofNat v] Tryz.underlying193 Tryz.underlying5 Tryz.underlying9 (fun j hj => ?_); rw [Addr.add_lit, Nat.zero_add]
  match j, hj with
  | 0, _ => simp only [List.getElem_cons_zero]; rw [show (UInt8.ofNat (v / 16777216)).toNat = v / 16777216 by rw [UInt8.toNat_ofNat']; omega]; exact cellOf hx 0 _ (by simp)
  | 1, _ => simp only [List.getElem_cons_zero, List.getElem_cons_succ]; rw [UInt8.toNat_ofNat']; exact cellOf hx 1 _ (by simp)
  | 2, _ => simp only [List.getElem_cons_zero, List.getElem_cons_succ]; rw [UInt8.toNat_ofNat']; exact cellOf hx 2 _ (by simp)
  | 3, _ => simp only [List.getElem_cons_zero, List.getElem_cons_succ]; rw [UInt8.toNat_ofNat']; exact cellOf hx 3 _ (by simp)
 go_enter Tryz.func92, Tryz.ntmps92; go_wp2_with fail; refine wp_loop_rounds 5 ?_; rw [rounds_succ]; go_wp2_with fail; rw [rounds_succ]; go_wp2_with fail; rw [rounds_succ]; go_wp2_with fail; rw [rounds_succ]; go_wp2_with fail; rw [rounds_succ]; go_wp2_with fail; go_ret; exact ⟨rfl, (Below.refl _ _).alloc (Nat.le_refl _) _⟩
theorem lin_any (n a b : Int) (w : World) : Calls Tryz.prog 68 #[.int .i64 n, .int .i64 a, .int .i64 b] w fun e w' => e = .returned (.bool (decide (a <= n) && decide (n <= b))) /\ w = w' := by
 by_cases h1 : a <= n
 . have d1 : decide (a <= n) = true := by simpa using h1
   rw [d1]; go_enter Tryz.func68, Tryz.ntmps68
   go_wp2
   go_ret; exact ⟨by simp, rfl⟩
 . have d1 : decide (a <= n) = false := by simpa using h1
   rw [d1]; go_enter Tryz.func68, Tryz.ntmps68
   go_wp2
   go_ret; exact ⟨by simp, rfl⟩
def unitR (most : Int) : Rl := ⟨1, 2, 64, most, be2 1492⟩
def magicR : Rl := ⟨5, 4, 1, 4294967295, be4 1⟩
theorem units_any (m : Int) (w : World) : Calls Tryz.prog 72 #[.int .i64 m] w fun e w' => e = .returned (.agg #[.int .i64 1, .int .i64 2, .int .i64 64, .int .i64 m, .string (be2 1492)]) /\ Below w.heap.size w w' := by
 have h := lput2_any 1492 (w.alloc (.cells #[.int .i64 0, .int .i64 0, .int .i64 0, .int .i64 0, .string ⟨#[]⟩] 158 (0, 0))) (by decide); have HP := H_ h; clear h; have hX := at1 w (.cells #[.int .i64 0, .int .i64 0, .int .i64 0, .int .i64 0, .string ⟨#[]⟩] 158 (0, 0)); have HX := H_ (A_ hX (A_ (alloc1 w (.cells #[.int .i64 0, .int .i64 0, .int .i64 0, .int .i64 0, .string ⟨#[]⟩] 158 (0, 0))) ((Below.refl w.heap.size w).alloc (Nat.le_refl _) (.cells #[.int .i64 0, .int .i64 0, .int .i64 0, .int .i64 0, .string ⟨#[]⟩] 158 (0, 0))))); clear hX; go_enter Tryz.func72, Tryz.ntmps72; go_wp2_with fail; refine HP.out.mono ?_; rintro e w1 ⟨rfl, hb⟩; have hx := (hb.block w.heap.size (by rw [HX.out.2.1]; omega)).trans HX.out.1; have HX1 := H_ (A_ hx (HX.out.2.2.trans (hb.mono (by rw [HX.out.2.1]; omega)))); have z := fun o => fzOf hx o; have y0 : w1.cell? ⟨w.heap.size, 0, none⟩ = some (.int .i64 0) := cellOf hx 0 _ rfl; have y1 : w1.cell? ⟨w.heap.size, 1, none⟩ = some (.int .i64 0) := cellOf hx 1 _ rfl; have y2 : w1.cell? ⟨w.heap.size, 2, none⟩ = some (.int .i64 0) := cellOf hx 2 _ rfl; have y3 : w1.cell? ⟨w.heap.size, 3, none⟩ = some (.int .i64 0) := cellOf hx 3 _ rfl; have y4 : w1.cell? ⟨w.heap.size, 4, none⟩ = some (.string ⟨#[]⟩) := cellOf hx 4 _ rfl; clear hb hx; go_wp2_with fail; refine bodyPost_ret (results_cell_row rfl _ _ w.heap.size 158 _ (0, 0) _ rfl (set5 HX1.out.1 _ _ _ _ _) Tryz.underlying158 rfl (by kernel_rfl)) rfl ?_; exact ⟨rfl, below5 HX1.out.2 (Nat.le_refl _) _ _ _ _ _⟩
theorem magics_any (w : World) : Calls Tryz.prog 73 #[] w fun e w' => e = .returned (.agg #[.int .i64 5, .int .i64 4, .int .i64 1, .int .i64 4294967295, .string (be4 1)]) /\ Below w.heap.size w w' := by
 have h := lput4_any 1 (w.alloc (.cells #[.int .i64 0, .int .i64 0, .int .i64 0, .int .i64 0, .string ⟨#[]⟩] 158 (0, 0))) (by decide); have HP := H_ h; clear h; have hX := at1 w (.cells #[.int .i64 0, .int .i64 0, .int .i64 0, .int .i64 0, .string ⟨#[]⟩] 158 (0, 0)); have HX := H_ (A_ hX (A_ (alloc1 w (.cells #[.int .i64 0, .int .i64 0, .int .i64 0, .int .i64 0, .string ⟨#[]⟩] 158 (0, 0))) ((Below.refl w.heap.size w).alloc (Nat.le_refl _) (.cells #[.int .i64 0, .int .i64 0, .int .i64 0, .int .i64 0, .string ⟨#[]⟩] 158 (0, 0))))); clear hX; go_enter Tryz.func73, Tryz.ntmps73; go_wp2_with fail; refine HP.out.mono ?_; rintro e w1 ⟨rfl, hb⟩; have hx := (hb.block w.heap.size (by rw [HX.out.2.1]; omega)).trans HX.out.1; have HX1 := H_ (A_ hx (HX.out.2.2.trans (hb.mono (by rw [HX.out.2.1]; omega)))); have z := fun o => fzOf hx o; have y0 : w1.cell? ⟨w.heap.size, 0, none⟩ = some (.int .i64 0) := cellOf hx 0 _ rfl; have y1 : w1.cell? ⟨w.heap.size, 1, none⟩ = some (.int .i64 0) := cellOf hx 1 _ rfl; have y2 : w1.cell? ⟨w.heap.size, 2, none⟩ = some (.int .i64 0) := cellOf hx 2 _ rfl; have y3 : w1.cell? ⟨w.heap.size, 3, none⟩ = some (.int .i64 0) := cellOf hx 3 _ rfl; have y4 : w1.cell? ⟨w.heap.size, 4, none⟩ = some (.string ⟨#[]⟩) := cellOf hx 4 _ rfl; clear hb hx; go_wp2_with fail; refine bodyPost_ret (results_cell_row rfl _ _ w.heap.size 158 _ (0, 0) _ rfl (set5 HX1.out.1 _ _ _ _ _) Tryz.underlying158 rfl (by kernel_rfl)) rfl ?_; exact ⟨rfl, below5 HX1.out.2 (Nat.le_refl _) _ _ _ _ _⟩
structure TpS where
 l : List Int
 asks : Int
def tpNext (t : TpS) : Int × TpS := match t.l with
 | [] => (wrap64 (7 * wrap64 (t.asks + 1)) % 256, ⟨[], wrap64 (t.asks + 1)⟩)
 | x :: r => (x % 256, ⟨r, t.asks⟩)
def TapeAt (w : World) (tb : Nat) (ok : Nat -> Prop) (t : TpS) : Prop :=
 ∃ tv, w.heap[tb]? = some (.cells #[tv, .int .i64 t.asks] 98 (0, 0)) /\ Nums w ok tv t.l /\ (∀ x ∈ t.l, I64 x) /\ (∀ b, ok b -> b ≠ tb) /\ I64 t.asks /\ t.l.length <= 1000000
theorem TapeAt.keep {T : Nat -> Prop} {w w' : World} {tb : Nat} {ok : Nat -> Prop} {t : TpS} (h : TapeAt w tb ok t) (hk : Keep T w w') (h1 : ¬ T tb) (h2 : ∀ b, b < w.heap.size -> ok b -> ¬ T b) : TapeAt w' tb ok t := by
 obtain ⟨tv, a, b, c⟩ := h; exact ⟨tv, (hk.block _ (Array.getElem?_eq_some_iff.1 a).1 h1).trans a, Rec.keep b hk h2, c⟩
theorem TapeAt.below {w w' : World} {tb : Nat} {ok : Nat -> Prop} {t : TpS} (h : TapeAt w tb ok t) (hk : Below w.heap.size w w') : TapeAt w' tb ok t := h.keep (Keep.of_below (fun _ => False) hk) (fun h => h) (fun _ _ _ h => h)
theorem TapeAt.lt {w : World} {tb : Nat} {ok : Nat -> Prop} {t : TpS} (h : TapeAt w tb ok t) : tb < w.heap.size := by
 obtain ⟨tv, a, _⟩ := h; exact (Array.getElem?_eq_some_iff.1 a).1
def byteOf (x : Int) : UInt8 := UInt8.ofNat x.toNat
def tp4 (t : TpS) : ByteArray × TpS :=
 let a := tpNext t
 let b := tpNext a.2
 let c := tpNext b.2
 let d := tpNext c.2
 (⟨#[byteOf a.1, byteOf b.1, byteOf c.1, byteOf d.1]⟩, d.2)
theorem byteOf_nat (x : Int) (h : 0 <= x /\ x < 256) : ((byteOf x).toNat : Int) = x := by
 unfold byteOf; rw [UInt8.toNat_ofNat']; omega
def protoS (l : List Opt) : Int := if (findO l 3).isSome then (if ((findO l 3).getD default).v = papB then 49187 else if ((findO l 3).getD default).v = chapB then 49699 else 0) else 0
def pB2 (v : Int) : ByteArray := ⟨#[byteOf (v / 256 % 256), byteOf (v % 256)]⟩
def pB4 (v : Int) : ByteArray := ⟨#[byteOf (v / 16777216 % 256), byteOf (v / 65536 % 256), byteOf (v / 256 % 256), byteOf (v % 256)]⟩
theorem md (x : Int) : 0 <= x % 256 /\ x % 256 < 256 := by omega
set_option maxRecDepth 100000 in
theorem lputI2 (v : Int) (w : World) :
 Calls Tryz.prog 92 #[.int .i64 v, .int .i64 2] w fun e w' => e = .returned (.string (pB2 v)) /\ Below w.heap.size w w' := by
 have hmk : ∀ w, (Instr.makeSlice 193 (.int .i64 2) (.int .i64 2)).run Tryz.prog w = .ok (.slice (some ⟨w.heap.size, 0, none⟩) 2 2) (w.alloc (.cells #[.int .u8 0, .int .u8 0] 5 (0, 0))) := fun w => by kernel_rfl
 have hcv : (convert 193 9 (.slice (some ⟨w.heap.size, 0, none⟩) 2 2)).run Tryz.prog (w.alloc (.cells #[.int .u8 (v / 256 % 256), .int .u8 (v % 256)] 5 (0, 0))) = .ok (.string (pB2 v)) (w.alloc (.cells #[.int .u8 (v / 256 % 256), .int .u8 (v % 256)] 5 (0, 0))) := by
  have hx := at1 w (.cells #[.int .u8 (v / 256 % 256), .int .u8 (v % 256)] 5 (0, 0)); refine run_convert_bytes_back (P := Tryz.prog) _ 193 9 5 ⟨w.heap.size, 0, none⟩ 2 [byteOf (v / 256 % 256), byteOf (v % 256)] Tryz.underlying193 Tryz.underlying5 Tryz.underlying9 (fun j hj => ?_); rw [Addr.add_lit, Nat.zero_add]
  match j, hj with
  | 0, _ => simp only [List.getElem_cons_zero]; rw [byteOf_nat _ (md _)]; exact cellOf hx 0 _ rfl
  | 1, _ => simp only [List.getElem_cons_zero, List.getElem_cons_succ]; rw [byteOf_nat _ (md _)]; exact cellOf hx 1 _ rfl
 go_enter Tryz.func92, Tryz.ntmps92; go_wp2_with fail; refine wp_loop_rounds 3 ?_; rw [rounds_succ]; go_wp2_with fail; rw [rounds_succ]; go_wp2_with fail; rw [rounds_succ]; go_wp2_with fail; go_ret; exact ⟨rfl, (Below.refl _ _).alloc (Nat.le_refl _) _⟩
set_option maxRecDepth 100000 in
theorem lputI4 (v : Int) (w : World) :
 Calls Tryz.prog 92 #[.int .i64 v, .int .i64 4] w fun e w' => e = .returned (.string (pB4 v)) /\ Below w.heap.size w w' := by
 have hmk : ∀ w, (Instr.makeSlice 193 (.int .i64 4) (.int .i64 4)).run Tryz.prog w = .ok (.slice (some ⟨w.heap.size, 0, none⟩) 4 4) (w.alloc (.cells #[.int .u8 0, .int .u8 0, .int .u8 0, .int .u8 0] 5 (0, 0))) := fun w => by kernel_rfl
 have hcv : (convert 193 9 (.slice (some ⟨w.heap.size, 0, none⟩) 4 4)).run Tryz.prog (w.alloc (.cells #[.int .u8 (v / 16777216 % 256), .int .u8 (v / 65536 % 256), .int .u8 (v / 256 % 256), .int .u8 (v % 256)] 5 (0, 0))) = .ok (.string (pB4 v)) (w.alloc (.cells #[.int .u8 (v / 16777216 % 256), .int .u8 (v / 65536 % 256), .int .u8 (v / 256 % 256), .int .u8 (v % 256)] 5 (0, 0))) := by
  have hx := at1 w (.cells #[.int .u8 (v / 16777216 % 256), .int .u8 (v / 65536 % 256), .int .u8 (v / 256 % 256), .int .u8 (v % 256)] 5 (0, 0)); refine run_convert_bytes_back (P := Tryz.prog) _ 193 9 5 ⟨w.heap.size, 0, none⟩ 4 [byteOf (v / 16777216 % 256), byteOf (v / 65536 % 256), byteOf (v / 256 % 256), byteOf (v % 256)] Tryz.underlying193 Tryz.underlying5 Tryz.underlying9 (fun j hj => ?_); rw [Addr.add_lit, Nat.zero_add]
  match j, hj with
  | 0, _ => simp only [List.getElem_cons_zero]; rw [byteOf_nat _ (md _)]; exact cellOf hx 0 _ rfl
  | 1, _ => simp only [List.getElem_cons_zero, List.getElem_cons_succ]; rw [byteOf_nat _ (md _)]; exact cellOf hx 1 _ rfl
  | 2, _ => simp only [List.getElem_cons_zero, List.getElem_cons_succ]; rw [byteOf_nat _ (md _)]; exact cellOf hx 2 _ rfl
  | 3, _ => simp only [List.getElem_cons_zero, List.getElem_cons_succ]; rw [byteOf_nat _ (md _)]; exact cellOf hx 3 _ rfl
 go_enter Tryz.func92, Tryz.ntmps92; go_wp2_with fail; refine wp_loop_rounds 5 ?_; rw [rounds_succ]; go_wp2_with fail; rw [rounds_succ]; go_wp2_with fail; rw [rounds_succ]; go_wp2_with fail; rw [rounds_succ]; go_wp2_with fail; rw [rounds_succ]; go_wp2_with fail; go_ret; exact ⟨rfl, (Below.refl _ _).alloc (Nat.le_refl _) _⟩
structure LCfg where
 mru : Int
 auth : Int
 magic : Int
 echo : Int
 cf : Int
 tm : Int
 fl : Int
 wt : Int
def cfgV (c : LCfg) : Value := .agg #[.int .i64 c.mru, .int .i64 c.auth, .int .i64 c.magic, .int .i64 c.echo, .int .i64 c.cf, .int .i64 c.tm, .int .i64 c.fl, .int .i64 c.wt]
def optsS1 (c : LCfg) : List Opt := if c.mru = 1492 then [] else [⟨1, pB2 c.mru⟩]
def optsS2 (c : LCfg) : List Opt := if c.auth = 0 then optsS1 c else optsS1 c ++ [⟨3, lvalS c.auth⟩]
def optsS (c : LCfg) : List Opt := if c.magic = 0 then optsS2 c else optsS2 c ++ [⟨5, pB4 c.magic⟩]
structure OI (w W : World) (cs : Array Value) (rv : Value) (l : List Opt) : Prop where
 blk : W.heap[w.heap.size]? = some (.cells cs 109 (0, 0))
 row : ORow W (w.heap.size + 1) rv l
 bel : Below w.heap.size w W
theorem OI.sz {w W : World} {cs : Array Value} {rv : Value} {l : List Opt} (h : OI w W cs rv l) : w.heap.size + 1 <= W.heap.size := (Array.getElem?_eq_some_iff.1 h.blk).1
theorem OI.go {w W W' : World} {cs : Array Value} {rv : Value} {l : List Opt} (h : OI w W cs rv l) (hb : Below W.heap.size W W') : OI w W' cs rv l :=
 ⟨(hb.block _ h.sz).trans h.blk, h.row.below hb, h.bel.trans (hb.mono (Nat.le_of_succ_le h.sz))⟩
theorem OI.al {w W : World} {cs : Array Value} {rv : Value} {l : List Opt} (h : OI w W cs rv l) (o : Obj) : OI w (W.alloc o) cs rv l := h.go ((Below.refl _ _).alloc (Nat.le_refl _) o)
theorem OI.app {w W W' : World} {cs : Array Value} {rv rv' : Value} {l l' : List Opt} (h : OI w W cs rv l) (hr : ORow W' (w.heap.size + 1) rv' l') (hk : Keep (fun k => rv.ownBlock = some k) W W') : OI w W' cs rv' l' :=
 ⟨(hk.block _ h.sz (fun he => by have := (h.row.lt _ he).2; omega)).trans h.blk, hr, h.bel.trans (hk.below (Nat.le_of_succ_le h.sz) (fun k hk he => by have := (h.row.lt _ he).2; omega))⟩
set_option maxRecDepth 100000 in
theorem lopts_000 (m au mg ec cf tm fl wt : Int) (w : World) (ha : I64 au) (h1 : m = 1492) (h2 : au = 0) (h3 : mg = 0) :
 Calls Tryz.prog 71 #[cfgV ⟨m, au, mg, ec, cf, tm, fl, wt⟩] w fun e w' => ∃ v, e = .returned v /\ ORow w' w.heap.size v (optsS ⟨m, au, mg, ec, cf, tm, fl, wt⟩) /\ Below w.heap.size w w' := by
 have HA := H_ ha
 have HI : Hid (OI w (w.alloc (.cells #[.int .i64 m, .int .i64 au, .int .i64 mg, .int .i64 ec, .int .i64 cf, .int .i64 tm, .int .i64 fl, .int .i64 wt] 109 (0, 0))) #[.int .i64 m, .int .i64 au, .int .i64 mg, .int .i64 ec, .int .i64 cf, .int .i64 tm, .int .i64 fl, .int .i64 wt] (.slice none 0 0) []) :=
  H_ ⟨at1 _ _, ORow.nil _ _, (Below.refl _ _).alloc (Nat.le_refl _) _⟩
 have HE := H_ (show optsS ⟨m, au, mg, ec, cf, tm, fl, wt⟩ = ([] : List Opt) from by
  unfold optsS optsS2 optsS1
  simp [h1, h2, h3])
 generalize optsS ⟨m, au, mg, ec, cf, tm, fl, wt⟩ = R at *; unfold cfgV
 dsimp only
 clear ha; have e1 : (m != 1492) = false := by simpa using h1
 have e2 : (au != 0) = false := by simpa using h2
 have e3 : (mg != 0) = false := by simpa using h3
 clear h1 h2 h3; go_enter Tryz.func71, Tryz.ntmps71; go_wp2_with fail; go_ret; rw [HE.out]; exact ⟨_, rfl, (by have := HI.out.row.base (Nat.le_succ _); simpa using this), HI.out.bel⟩
set_option maxRecDepth 100000 in
theorem lopts_001 (m au mg ec cf tm fl wt : Int) (w : World) (ha : I64 au) (h1 : m = 1492) (h2 : au = 0) (h3 : ¬ mg = 0) :
 Calls Tryz.prog 71 #[cfgV ⟨m, au, mg, ec, cf, tm, fl, wt⟩] w fun e w' => ∃ v, e = .returned v /\ ORow w' w.heap.size v (optsS ⟨m, au, mg, ec, cf, tm, fl, wt⟩) /\ Below w.heap.size w w' := by
 have HA := H_ ha
 have HI : Hid (OI w (w.alloc (.cells #[.int .i64 m, .int .i64 au, .int .i64 mg, .int .i64 ec, .int .i64 cf, .int .i64 tm, .int .i64 fl, .int .i64 wt] 109 (0, 0))) #[.int .i64 m, .int .i64 au, .int .i64 mg, .int .i64 ec, .int .i64 cf, .int .i64 tm, .int .i64 fl, .int .i64 wt] (.slice none 0 0) []) :=
  H_ ⟨at1 _ _, ORow.nil _ _, (Below.refl _ _).alloc (Nat.le_refl _) _⟩
 have HE := H_ (show optsS ⟨m, au, mg, ec, cf, tm, fl, wt⟩ = (([] : List Opt) ++ [⟨5, pB4 mg⟩]) from by
  unfold optsS optsS2 optsS1
  simp [h1, h2, h3])
 generalize optsS ⟨m, au, mg, ec, cf, tm, fl, wt⟩ = R at *; unfold cfgV
 dsimp only
 clear ha; have e1 : (m != 1492) = false := by simpa using h1
 have e2 : (au != 0) = false := by simpa using h2
 have e3 : (mg != 0) = true := by simpa using h3
 clear h1 h2 h3; go_enter Tryz.func71, Tryz.ntmps71
 go_wp2_with (first
  | (
   go_at_call 92; refine (lputI4 _ _).mono ?_; rintro e W1 ⟨rfl, b1⟩; have HI := H_ (HI.out.go b1); have c1 := cellOf HI.out.blk 1 _ rfl; have c2 := cellOf HI.out.blk 2 _ rfl
   clear b1)
  | (
   at_builtin; refine wpl_append_opt rfl _ _ rfl _ _ rfl (HI.out.al _).row _ 1 _ _ rfl (at1 _ _) (by simp) (by rw [alloc1]; have := HI.out.sz; omega) ?_
   intro g cap W2 hr hk hg; have HI := H_ ((HI.out.al _).app hr hk); have c1 := cellOf HI.out.blk 1 _ rfl; have c2 := cellOf HI.out.blk 2 _ rfl
   clear hr hk hg))
 go_ret; rw [HE.out]; exact ⟨_, rfl, (by have := HI.out.row.base (Nat.le_succ _); simpa using this), HI.out.bel⟩
set_option maxRecDepth 100000 in
theorem lopts_010 (m au mg ec cf tm fl wt : Int) (w : World) (ha : I64 au) (h1 : m = 1492) (h2 : ¬ au = 0) (h3 : mg = 0) :
 Calls Tryz.prog 71 #[cfgV ⟨m, au, mg, ec, cf, tm, fl, wt⟩] w fun e w' => ∃ v, e = .returned v /\ ORow w' w.heap.size v (optsS ⟨m, au, mg, ec, cf, tm, fl, wt⟩) /\ Below w.heap.size w w' := by
 have HA := H_ ha
 have HI : Hid (OI w (w.alloc (.cells #[.int .i64 m, .int .i64 au, .int .i64 mg, .int .i64 ec, .int .i64 cf, .int .i64 tm, .int .i64 fl, .int .i64 wt] 109 (0, 0))) #[.int .i64 m, .int .i64 au, .int .i64 mg, .int .i64 ec, .int .i64 cf, .int .i64 tm, .int .i64 fl, .int .i64 wt] (.slice none 0 0) []) :=
  H_ ⟨at1 _ _, ORow.nil _ _, (Below.refl _ _).alloc (Nat.le_refl _) _⟩
 have HE := H_ (show optsS ⟨m, au, mg, ec, cf, tm, fl, wt⟩ = (([] : List Opt) ++ [⟨3, lvalS au⟩]) from by
  unfold optsS optsS2 optsS1
  simp [h1, h2, h3])
 generalize optsS ⟨m, au, mg, ec, cf, tm, fl, wt⟩ = R at *; unfold cfgV
 dsimp only
 clear ha; have e1 : (m != 1492) = false := by simpa using h1
 have e2 : (au != 0) = true := by simpa using h2
 have e3 : (mg != 0) = false := by simpa using h3
 clear h1 h2 h3; go_enter Tryz.func71, Tryz.ntmps71
 go_wp2_with (first
  | (
   go_at_call 69; refine (lvalue_any _ _ HA.out).mono ?_; rintro e W1 ⟨rfl, b1⟩; have HI := H_ (HI.out.go b1); have c2 := cellOf HI.out.blk 2 _ rfl
   clear b1)
  | (
   at_builtin; refine wpl_append_opt rfl _ _ rfl _ _ rfl (HI.out.al _).row _ 1 _ _ rfl (at1 _ _) (by simp) (by rw [alloc1]; have := HI.out.sz; omega) ?_
   intro g cap W2 hr hk hg; have HI := H_ ((HI.out.al _).app hr hk); have c1 := cellOf HI.out.blk 1 _ rfl; have c2 := cellOf HI.out.blk 2 _ rfl
   clear hr hk hg))
 go_ret; rw [HE.out]; exact ⟨_, rfl, (by have := HI.out.row.base (Nat.le_succ _); simpa using this), HI.out.bel⟩
set_option maxRecDepth 100000 in
theorem lopts_011 (m au mg ec cf tm fl wt : Int) (w : World) (ha : I64 au) (h1 : m = 1492) (h2 : ¬ au = 0) (h3 : ¬ mg = 0) :
 Calls Tryz.prog 71 #[cfgV ⟨m, au, mg, ec, cf, tm, fl, wt⟩] w fun e w' => ∃ v, e = .returned v /\ ORow w' w.heap.size v (optsS ⟨m, au, mg, ec, cf, tm, fl, wt⟩) /\ Below w.heap.size w w' := by
 have HA := H_ ha
 have HI : Hid (OI w (w.alloc (.cells #[.int .i64 m, .int .i64 au, .int .i64 mg, .int .i64 ec, .int .i64 cf, .int .i64 tm, .int .i64 fl, .int .i64 wt] 109 (0, 0))) #[.int .i64 m, .int .i64 au, .int .i64 mg, .int .i64 ec, .int .i64 cf, .int .i64 tm, .int .i64 fl, .int .i64 wt] (.slice none 0 0) []) :=
  H_ ⟨at1 _ _, ORow.nil _ _, (Below.refl _ _).alloc (Nat.le_refl _) _⟩
 have HE := H_ (show optsS ⟨m, au, mg, ec, cf, tm, fl, wt⟩ = ((([] : List Opt) ++ [⟨3, lvalS au⟩]) ++ [⟨5, pB4 mg⟩]) from by
  unfold optsS optsS2 optsS1
  simp [h1, h2, h3])
 generalize optsS ⟨m, au, mg, ec, cf, tm, fl, wt⟩ = R at *; unfold cfgV
 dsimp only
 clear ha; have e1 : (m != 1492) = false := by simpa using h1
 have e2 : (au != 0) = true := by simpa using h2
 have e3 : (mg != 0) = true := by simpa using h3
 clear h1 h2 h3; go_enter Tryz.func71, Tryz.ntmps71
 go_wp2_with (first
  | (
   go_at_call 92; refine (lputI4 _ _).mono ?_; rintro e W1 ⟨rfl, b1⟩; have HI := H_ (HI.out.go b1); have c1 := cellOf HI.out.blk 1 _ rfl; have c2 := cellOf HI.out.blk 2 _ rfl
   clear b1)
  | (
   go_at_call 69; refine (lvalue_any _ _ HA.out).mono ?_; rintro e W1 ⟨rfl, b1⟩; have HI := H_ (HI.out.go b1); have c2 := cellOf HI.out.blk 2 _ rfl
   clear b1)
  | (
   at_builtin; refine wpl_append_opt rfl _ _ rfl _ _ rfl (HI.out.al _).row _ 1 _ _ rfl (at1 _ _) (by simp) (by rw [alloc1]; have := HI.out.sz; omega) ?_
   intro g cap W2 hr hk hg; have HI := H_ ((HI.out.al _).app hr hk); have c1 := cellOf HI.out.blk 1 _ rfl; have c2 := cellOf HI.out.blk 2 _ rfl
   clear hr hk hg))
 go_ret; rw [HE.out]; exact ⟨_, rfl, (by have := HI.out.row.base (Nat.le_succ _); simpa using this), HI.out.bel⟩
set_option maxRecDepth 100000 in
theorem lopts_100 (m au mg ec cf tm fl wt : Int) (w : World) (ha : I64 au) (h1 : ¬ m = 1492) (h2 : au = 0) (h3 : mg = 0) :
 Calls Tryz.prog 71 #[cfgV ⟨m, au, mg, ec, cf, tm, fl, wt⟩] w fun e w' => ∃ v, e = .returned v /\ ORow w' w.heap.size v (optsS ⟨m, au, mg, ec, cf, tm, fl, wt⟩) /\ Below w.heap.size w w' := by
 have HA := H_ ha
 have HI : Hid (OI w (w.alloc (.cells #[.int .i64 m, .int .i64 au, .int .i64 mg, .int .i64 ec, .int .i64 cf, .int .i64 tm, .int .i64 fl, .int .i64 wt] 109 (0, 0))) #[.int .i64 m, .int .i64 au, .int .i64 mg, .int .i64 ec, .int .i64 cf, .int .i64 tm, .int .i64 fl, .int .i64 wt] (.slice none 0 0) []) :=
  H_ ⟨at1 _ _, ORow.nil _ _, (Below.refl _ _).alloc (Nat.le_refl _) _⟩
 have HE := H_ (show optsS ⟨m, au, mg, ec, cf, tm, fl, wt⟩ = (([] : List Opt) ++ [⟨1, pB2 m⟩]) from by
  unfold optsS optsS2 optsS1
  simp [h1, h2, h3])
 generalize optsS ⟨m, au, mg, ec, cf, tm, fl, wt⟩ = R at *; unfold cfgV
 dsimp only
 clear ha; have e1 : (m != 1492) = true := by simpa using h1
 have e2 : (au != 0) = false := by simpa using h2
 have e3 : (mg != 0) = false := by simpa using h3
 clear h1 h2 h3; go_enter Tryz.func71, Tryz.ntmps71
 go_wp2_with (first
  | (
   go_at_call 92; refine (lputI2 _ _).mono ?_; rintro e W1 ⟨rfl, b1⟩; have HI := H_ (HI.out.go b1); have c1 := cellOf HI.out.blk 1 _ rfl; have c2 := cellOf HI.out.blk 2 _ rfl
   clear b1)
  | (
   at_builtin; refine wpl_append_opt rfl _ _ rfl _ _ rfl (HI.out.al _).row _ 1 _ _ rfl (at1 _ _) (by simp) (by rw [alloc1]; have := HI.out.sz; omega) ?_
   intro g cap W2 hr hk hg; have HI := H_ ((HI.out.al _).app hr hk); have c1 := cellOf HI.out.blk 1 _ rfl; have c2 := cellOf HI.out.blk 2 _ rfl
   clear hr hk hg))
 go_ret; rw [HE.out]; exact ⟨_, rfl, (by have := HI.out.row.base (Nat.le_succ _); simpa using this), HI.out.bel⟩
set_option maxRecDepth 100000 in
theorem lopts_101 (m au mg ec cf tm fl wt : Int) (w : World) (ha : I64 au) (h1 : ¬ m = 1492) (h2 : au = 0) (h3 : ¬ mg = 0) :
 Calls Tryz.prog 71 #[cfgV ⟨m, au, mg, ec, cf, tm, fl, wt⟩] w fun e w' => ∃ v, e = .returned v /\ ORow w' w.heap.size v (optsS ⟨m, au, mg, ec, cf, tm, fl, wt⟩) /\ Below w.heap.size w w' := by
 have HA := H_ ha
 have HI : Hid (OI w (w.alloc (.cells #[.int .i64 m, .int .i64 au, .int .i64 mg, .int .i64 ec, .int .i64 cf, .int .i64 tm, .int .i64 fl, .int .i64 wt] 109 (0, 0))) #[.int .i64 m, .int .i64 au, .int .i64 mg, .int .i64 ec, .int .i64 cf, .int .i64 tm, .int .i64 fl, .int .i64 wt] (.slice none 0 0) []) :=
  H_ ⟨at1 _ _, ORow.nil _ _, (Below.refl _ _).alloc (Nat.le_refl _) _⟩
 have HE := H_ (show optsS ⟨m, au, mg, ec, cf, tm, fl, wt⟩ = ((([] : List Opt) ++ [⟨1, pB2 m⟩]) ++ [⟨5, pB4 mg⟩]) from by
  unfold optsS optsS2 optsS1
  simp [h1, h2, h3])
 generalize optsS ⟨m, au, mg, ec, cf, tm, fl, wt⟩ = R at *; unfold cfgV
 dsimp only
 clear ha; have e1 : (m != 1492) = true := by simpa using h1
 have e2 : (au != 0) = false := by simpa using h2
 have e3 : (mg != 0) = true := by simpa using h3
 clear h1 h2 h3; go_enter Tryz.func71, Tryz.ntmps71
 go_wp2_with (first
  | (
   go_at_call 92; first | with_reducible refine (lputI2 _ _).mono ?_ | with_reducible refine (lputI4 _ _).mono ?_
   rintro e W1 ⟨rfl, b1⟩; have HI := H_ (HI.out.go b1); have c1 := cellOf HI.out.blk 1 _ rfl; have c2 := cellOf HI.out.blk 2 _ rfl
   clear b1)
  | (
   at_builtin; refine wpl_append_opt rfl _ _ rfl _ _ rfl (HI.out.al _).row _ 1 _ _ rfl (at1 _ _) (by simp) (by rw [alloc1]; have := HI.out.sz; omega) ?_
   intro g cap W2 hr hk hg; have HI := H_ ((HI.out.al _).app hr hk); have c1 := cellOf HI.out.blk 1 _ rfl; have c2 := cellOf HI.out.blk 2 _ rfl
   clear hr hk hg))
 go_ret; rw [HE.out]; exact ⟨_, rfl, (by have := HI.out.row.base (Nat.le_succ _); simpa using this), HI.out.bel⟩
set_option maxRecDepth 100000 in
theorem lopts_110 (m au mg ec cf tm fl wt : Int) (w : World) (ha : I64 au) (h1 : ¬ m = 1492) (h2 : ¬ au = 0) (h3 : mg = 0) :
 Calls Tryz.prog 71 #[cfgV ⟨m, au, mg, ec, cf, tm, fl, wt⟩] w fun e w' => ∃ v, e = .returned v /\ ORow w' w.heap.size v (optsS ⟨m, au, mg, ec, cf, tm, fl, wt⟩) /\ Below w.heap.size w w' := by
 have HA := H_ ha
 have HI : Hid (OI w (w.alloc (.cells #[.int .i64 m, .int .i64 au, .int .i64 mg, .int .i64 ec, .int .i64 cf, .int .i64 tm, .int .i64 fl, .int .i64 wt] 109 (0, 0))) #[.int .i64 m, .int .i64 au, .int .i64 mg, .int .i64 ec, .int .i64 cf, .int .i64 tm, .int .i64 fl, .int .i64 wt] (.slice none 0 0) []) :=
  H_ ⟨at1 _ _, ORow.nil _ _, (Below.refl _ _).alloc (Nat.le_refl _) _⟩
 have HE := H_ (show optsS ⟨m, au, mg, ec, cf, tm, fl, wt⟩ = ((([] : List Opt) ++ [⟨1, pB2 m⟩]) ++ [⟨3, lvalS au⟩]) from by
  unfold optsS optsS2 optsS1
  simp [h1, h2, h3])
 generalize optsS ⟨m, au, mg, ec, cf, tm, fl, wt⟩ = R at *; unfold cfgV
 dsimp only
 clear ha; have e1 : (m != 1492) = true := by simpa using h1
 have e2 : (au != 0) = true := by simpa using h2
 have e3 : (mg != 0) = false := by simpa using h3
 clear h1 h2 h3; go_enter Tryz.func71, Tryz.ntmps71
 go_wp2_with (first
  | (
   go_at_call 92; refine (lputI2 _ _).mono ?_; rintro e W1 ⟨rfl, b1⟩; have HI := H_ (HI.out.go b1); have c1 := cellOf HI.out.blk 1 _ rfl; have c2 := cellOf HI.out.blk 2 _ rfl
   clear b1)
  | (
   go_at_call 69; refine (lvalue_any _ _ HA.out).mono ?_; rintro e W1 ⟨rfl, b1⟩; have HI := H_ (HI.out.go b1); have c2 := cellOf HI.out.blk 2 _ rfl
   clear b1)
  | (
   at_builtin; refine wpl_append_opt rfl _ _ rfl _ _ rfl (HI.out.al _).row _ 1 _ _ rfl (at1 _ _) (by simp) (by rw [alloc1]; have := HI.out.sz; omega) ?_
   intro g cap W2 hr hk hg; have HI := H_ ((HI.out.al _).app hr hk); have c1 := cellOf HI.out.blk 1 _ rfl; have c2 := cellOf HI.out.blk 2 _ rfl
   clear hr hk hg))
 go_ret; rw [HE.out]; exact ⟨_, rfl, (by have := HI.out.row.base (Nat.le_succ _); simpa using this), HI.out.bel⟩
set_option maxRecDepth 100000 in
theorem lopts_111 (m au mg ec cf tm fl wt : Int) (w : World) (ha : I64 au) (h1 : ¬ m = 1492) (h2 : ¬ au = 0) (h3 : ¬ mg = 0) :
 Calls Tryz.prog 71 #[cfgV ⟨m, au, mg, ec, cf, tm, fl, wt⟩] w fun e w' => ∃ v, e = .returned v /\ ORow w' w.heap.size v (optsS ⟨m, au, mg, ec, cf, tm, fl, wt⟩) /\ Below w.heap.size w w' := by
 have HA := H_ ha
 have HI : Hid (OI w (w.alloc (.cells #[.int .i64 m, .int .i64 au, .int .i64 mg, .int .i64 ec, .int .i64 cf, .int .i64 tm, .int .i64 fl, .int .i64 wt] 109 (0, 0))) #[.int .i64 m, .int .i64 au, .int .i64 mg, .int .i64 ec, .int .i64 cf, .int .i64 tm, .int .i64 fl, .int .i64 wt] (.slice none 0 0) []) :=
  H_ ⟨at1 _ _, ORow.nil _ _, (Below.refl _ _).alloc (Nat.le_refl _) _⟩
 have HE := H_ (show optsS ⟨m, au, mg, ec, cf, tm, fl, wt⟩ = (((([] : List Opt) ++ [⟨1, pB2 m⟩]) ++ [⟨3, lvalS au⟩]) ++ [⟨5, pB4 mg⟩]) from by
  unfold optsS optsS2 optsS1
  simp [h1, h2, h3])
 generalize optsS ⟨m, au, mg, ec, cf, tm, fl, wt⟩ = R at *; unfold cfgV
 dsimp only
 clear ha; have e1 : (m != 1492) = true := by simpa using h1
 have e2 : (au != 0) = true := by simpa using h2
 have e3 : (mg != 0) = true := by simpa using h3
 clear h1 h2 h3; go_enter Tryz.func71, Tryz.ntmps71
 go_wp2_with (first
  | (
   go_at_call 92; first | with_reducible refine (lputI2 _ _).mono ?_ | with_reducible refine (lputI4 _ _).mono ?_
   rintro e W1 ⟨rfl, b1⟩; have HI := H_ (HI.out.go b1); have c1 := cellOf HI.out.blk 1 _ rfl; have c2 := cellOf HI.out.blk 2 _ rfl
   clear b1)
  | (
   go_at_call 69; refine (lvalue_any _ _ HA.out).mono ?_; rintro e W1 ⟨rfl, b1⟩; have HI := H_ (HI.out.go b1); have c2 := cellOf HI.out.blk 2 _ rfl
   clear b1)
  | (
   at_builtin; refine wpl_append_opt rfl _ _ rfl _ _ rfl (HI.out.al _).row _ 1 _ _ rfl (at1 _ _) (by simp) (by rw [alloc1]; have := HI.out.sz; omega) ?_
   intro g cap W2 hr hk hg; have HI := H_ ((HI.out.al _).app hr hk); have c1 := cellOf HI.out.blk 1 _ rfl; have c2 := cellOf HI.out.blk 2 _ rfl
   clear hr hk hg))
 go_ret; rw [HE.out]; exact ⟨_, rfl, (by have := HI.out.row.base (Nat.le_succ _); simpa using this), HI.out.bel⟩
theorem lopts_any (c : LCfg) (w : World) (ha : I64 c.auth) :
 Calls Tryz.prog 71 #[cfgV c] w fun e w' => ∃ v, e = .returned v /\ ORow w' w.heap.size v (optsS c) /\ Below w.heap.size w w' := by
 obtain ⟨m, au, mg, ec, cf, tm, fl, wt⟩ := c
 by_cases h1 : m = 1492 <;> by_cases h2 : au = 0 <;> by_cases h3 : mg = 0
 . exact lopts_000 m au mg ec cf tm fl wt w ha h1 h2 h3
 . exact lopts_001 m au mg ec cf tm fl wt w ha h1 h2 h3
 . exact lopts_010 m au mg ec cf tm fl wt w ha h1 h2 h3
 . exact lopts_011 m au mg ec cf tm fl wt w ha h1 h2 h3
 . exact lopts_100 m au mg ec cf tm fl wt w ha h1 h2 h3
 . exact lopts_101 m au mg ec cf tm fl wt w ha h1 h2 h3
 . exact lopts_110 m au mg ec cf tm fl wt w ha h1 h2 h3
 . exact lopts_111 m au mg ec cf tm fl wt w ha h1 h2 h3
def wB : List Opt -> List Opt -> Bool
 | _, [] => true
 | [], _ :: _ => false
 | r :: rs, o :: l => if eqB r o then wB rs l else wB rs (o :: l)
section
variable {w : World} {S ok : Nat -> Prop} {B : NegB} {C : NegC} {st : NSt} {X : NegX}
def refusedS (rej : Pk -> ByteArray) (C : NegC) (st : NSt) (p : Pk) : NSt × List Pk :=
 if wB st.req p.o then
  if p.o.any (fun o => hasB C.must o.t) then evS rej C st 14 ⟨true, p, 0, []⟩ else evS rej C { st with req := st.req.filter fun o => !(p.o.any (eqB o)) } 9 ⟨true, p, 0, []⟩
 else (st, [])
end
section
variable (rej : Pk -> ByteArray) {w : World} {S ok : Nat -> Prop} {B : NegB} {C : NegC} {st : NSt} {X : NegX}
end
def nameOne (C : NegC) (req : List Opt) (o : Opt) : List Opt :=
 if idxP (fun x => x.t == o.t) req < 0 then req
 else if (findR C.own o.t).isSome && fitsR (ruleOf C.own o.t) o.v then req.set (idxP (fun x => x.t == o.t) req).toNat o
 else if hasB C.must o.t then req else req.eraseIdx (idxP (fun x => x.t == o.t) req).toNat
def namedS (rej : Pk -> ByteArray) (C : NegC) (st : NSt) (p : Pk) : NSt × List Pk := evS rej C { st with req := p.o.foldl (nameOne C) st.req } 9 ⟨true, p, 0, []⟩
section
variable {w : World} {S : Nat -> Prop} {B : NegB} {C : NegC} {st : NSt} {X : NegX}
end
end Go.Proofs.YtoblffnlopmebaaGreat
