import Derived.Test.YtgoahafndefhgaaGreatQAQ
import Derived.Test.YtgoahafndefhgaaGreatQAN
import Derived.ChangeKeysEq
import Derived.Laws.Cover3
import Derived.Laws.IdiomStrings
import Derived.Test.YtgoahafndefhgaaGreatQAL
import Derived.Test.YtgoahafndefhgaaGreatQAA
import Derived.Laws.EntriesVeiled
set_option linter.unusedVariables false
set_option linter.unusedSimpArgs false
set_option maxHeartbeats 16000000
namespace Go.Proofs.YtgoahafndefhgaaGreat
open Go.RowKit Go.Tg Go.Maps
def eqB (a b : Opt) : Bool := decide (a.t = b.t) && decide (a.v = b.v)
structure Ad where
 a : UInt8
 b : UInt8
 c : UInt8
 d : UInt8
def Ad.v (x : Ad) : Value := .agg #[.int .u8 (x.a.toNat : Int), .int .u8 (x.b.toNat : Int), .int .u8 (x.c.toNat : Int), .int .u8 (x.d.toNat : Int)]
def Ad.cs (x : Ad) : Array Value := #[.int .u8 (x.a.toNat : Int), .int .u8 (x.b.toNat : Int), .int .u8 (x.c.toNat : Int), .int .u8 (x.d.toNat : Int)]
def Ad.s (x : Ad) : ByteArray := ⟨#[x.a, x.b, x.c, x.d]⟩
def Ad.z : Ad := ⟨0, 0, 0, 0⟩
def adE (x y : Ad) : Bool := decide (x.a = y.a) && (decide (x.b = y.b) && (decide (x.c = y.c) && decide (x.d = y.d)))
theorem ad_u8 (x y : UInt8) : ((x.toNat : Int) == (y.toNat : Int)) = decide (x = y) := by
 by_cases h : x = y
 . subst h; simp
 . have : ¬ (x.toNat : Int) = (y.toNat : Int) := fun e => h (UInt8.toNat_inj.1 (by omega)); simp [h, this]
theorem adEqual (x y : Ad) (w : World) : (Op.equalIn 10000 27 x.v y.v).run Tryz.prog w = .ok (adE x y) w := by
 have u5 := Tryz.underlying5; obtain ⟨i, hi, -, h1, -⟩ := u8_info; have hc : Tryz.prog.cellsOf 5 = 1 := by simp [Program.cellsOf, hi, h1]
 have hu : Tryz.prog.underlying 27 = some (.array 4 5) := Tryz.underlying27; unfold Ad.v; rw [show (10000 : Nat) = 9999 + 1 from rfl, run_equalIn_array w 9999 _ _ hu hi, hc]; have hpk : Tryz.prog.plainKey 5 = true := by simp [Program.plainKey, u5]
 have p0 := fun (a b c d : Value) (w : World) => run_part_plain (P := Tryz.prog) (w := w) hpk (show (#[a, b, c, d])[0]? = some a from rfl); have p1 := fun (a b c d : Value) (w : World) => run_part_plain (P := Tryz.prog) (w := w) hpk (show (#[a, b, c, d])[1]? = some b from rfl); have p2 := fun (a b c d : Value) (w : World) => run_part_plain (P := Tryz.prog) (w := w) hpk (show (#[a, b, c, d])[2]? = some c from rfl); have p3 := fun (a b c d : Value) (w : World) => run_part_plain (P := Tryz.prog) (w := w) hpk (show (#[a, b, c, d])[3]? = some d from rfl)
 have eqi : ∀ (a b : UInt8) (w : World), (Op.equalIn 9999 5 (.int .u8 (a.toNat : Int)) (.int .u8 (b.toNat : Int))).run Tryz.prog w = .ok (decide (a = b)) w := fun a b w => by
  rw [<- ad_u8]; exact run_equalIn_int (P := Tryz.prog) w 9998 5 .u8 .u8 (a.toNat : Int) (b.toNat : Int) u5
 simp only [show List.range 4 = [0, 1, 2, 3] from rfl, Op.eqItems, Sem.run_bind, Nat.mul_one, p0, p1, p2, p3, Result.andThen_ok, eqi]; unfold adE
 by_cases e0 : x.a = y.a <;> by_cases e1 : x.b = y.b <;> by_cases e2 : x.c = y.c <;> by_cases e3 : x.d = y.d <;> simp [e0, e1, e2, e3, p0, p1, p2, p3, eqi]
theorem adEql (x y : Ad) (w : World) : (binOp .eql 27 x.v y.v).run Tryz.prog w = .ok (.bool (adE x y)) w := by
 have h := adEqual x y w; unfold Ad.v at h ⊢; rw [run_eql_struct, h]; rfl
theorem adNeq (x y : Ad) (w : World) : (binOp .neq 27 x.v y.v).run Tryz.prog w = .ok (.bool (!adE x y)) w := by
 have h := adEqual x y w; unfold Ad.v at h ⊢; rw [run_neq_struct, h]; rfl
def justR (k : Int) (x : Ad) : Rl := ⟨k, 4, valB [x.a, x.b, x.c, x.d], valB [x.a, x.b, x.c, x.d], x.s⟩
def spanR (k m : Int) (s : ByteArray) : Rl := ⟨k, 4, m, 4294967295, s⟩
theorem conv_ad (x : Ad) (b : Nat) (w : World) (h : w.heap[b]? = some (.cells x.cs 27 (0, 0))) : (convert 128 9 (.slice (some ⟨b, 0, none⟩) 4 4)).run Tryz.prog w = .ok (.string x.s) w := by
 have := run_convert_bytes_back (P := Tryz.prog) w 128 9 5 ⟨b, 0, none⟩ 4 [x.a, x.b, x.c, x.d] Tryz.underlying128 Tryz.underlying5 Tryz.underlying9 (fun j hj => by
  have e : (⟨b, 0, none⟩ : Addr).add j = ⟨b, j, none⟩ := by unfold Addr.add; split <;> simp_all
  rw [e]; have hj' : j < 4 := hj; refine cellOf h j _ ?_; unfold Ad.cs
  rcases (show j = 0 \/ j = 1 \/ j = 2 \/ j = 3 by omega) with rfl | rfl | rfl | rfl <;> rfl)
 exact this
set_option maxRecDepth 100000 in
theorem just_any (k : Int) (x : Ad) (w : World) : Calls Tryz.prog 304 #[.int .i64 k, x.v] w fun e w' => e = .returned (.agg #[.int .i64 k, .int .i64 4, .int .i64 (valB [x.a, x.b, x.c, x.d]), .int .i64 (valB [x.a, x.b, x.c, x.d]), .string x.s]) /\ Below w.heap.size w w' := by
 obtain ⟨W, hW, hs, x0, x1⟩ : ∃ W, W = (w.alloc (.cells x.cs 27 (0, 0))).alloc (.cells #[.int .i64 0, .int .i64 0, .int .i64 0, .int .i64 0, .string ⟨#[]⟩] 385 (0, 0)) /\ W.heap.size = w.heap.size + 1 + 1 /\ W.heap[w.heap.size]? = some (.cells x.cs 27 (0, 0)) /\ W.heap[w.heap.size + 1]? = some (.cells #[.int .i64 0, .int .i64 0, .int .i64 0, .int .i64 0, .string ⟨#[]⟩] 385 (0, 0)) :=
  ⟨_, rfl, by rw [alloc1, alloc1], by rw [Below.heap_alloc _ _ _ (by rw [alloc1]; omega)]; exact at1 _ _, by rw [<- alloc1 w (.cells x.cs 27 (0, 0))]; exact at1 _ _⟩
 have hcv := conv_ad x w.heap.size W x0; have HV := H_ (value_any x.s W (show 4 <= 7 by decide)); have HB : Hid (Below w.heap.size w W) := H_ (by rw [hW]; exact ((Below.refl _ _).alloc (Nat.le_refl _) _).alloc (by rw [alloc1]; omega) _); have HX := H_ x1; have z1 := fun o => fzOf x1 o; have y0 : W.cell? ⟨w.heap.size + 1, 0, none⟩ = some (.int .i64 0) := cellOf x1 0 _ rfl; have y1 : W.cell? ⟨w.heap.size + 1, 1, none⟩ = some (.int .i64 0) := cellOf x1 1 _ rfl; have y2 : W.cell? ⟨w.heap.size + 1, 2, none⟩ = some (.int .i64 0) := cellOf x1 2 _ rfl; have y3 : W.cell? ⟨w.heap.size + 1, 3, none⟩ = some (.int .i64 0) := cellOf x1 3 _ rfl; have y4 : W.cell? ⟨w.heap.size + 1, 4, none⟩ = some (.string ⟨#[]⟩) := cellOf x1 4 _ rfl; unfold Ad.cs at hW; unfold Ad.v; rw [show valB [x.a, x.b, x.c, x.d] = valB x.s.data.toList from rfl]; generalize x.s = s at *; generalize valB s.data.toList = n at *; clear x0 x1 hs; go_enter Tryz.func304, Tryz.ntmps304; rw [hW] at hcv
 go_wp2_with (rw [<- hW]; refine HV.out.mono ?_; rintro e w1 ⟨rfl, rfl⟩)
 refine bodyPost_ret (results_cell_row rfl _ _ (w.heap.size + 1) 385 _ (0, 0) _ rfl (at21 w _ _) Tryz.underlying385 rfl (by kernel_rfl)) rfl ?_; exact ⟨rfl, ((Below.refl _ _).alloc (Nat.le_refl _) _).alloc (by rw [alloc1]; omega) _⟩
def adOf (s : ByteArray) : Ad := ⟨s.data.getD 0 0, s.data.getD 1 0, s.data.getD 2 0, s.data.getD 3 0⟩
def adrS (l : List Opt) (k : Int) : Ad × Bool := match findO l k with
 | none => (Ad.z, false)
 | some o => if o.v.size = 4 then (adOf o.v, true) else (Ad.z, false)
def goodS (a b : Ad) : Bool := adE a b && !adE a Ad.z
theorem adz : (Value.agg #[.int .u8 0, .int .u8 0, .int .u8 0, .int .u8 0]) = Ad.z.v := rfl
theorem ktK : Tryz.prog.keyTypeAt 3 472 = true := by kernel_rfl
theorem szK : decide (472 < Tryz.prog.types.size) = true := by kernel_rfl
theorem wdK : (match Tryz.prog.underlying 472 with | some (.array _ _) | some (.struct _) => true | _ => false) = true := by kernel_rfl
set_option maxRecDepth 100000 in
theorem keyedK : Keyed Tryz.prog 472 := Keyed.of_law (deep_law_laid laidOut (m := 3) (by omega) (of_decide_eq_true szK) ktK wdK)
def kindV (p : Int) : Value := .agg #[.int .i64 p, .bool true]
theorem kvK (a : Int) (ha : I64 a) : KV Tryz.prog 472 (kindV a) := by
 unfold KV kindV; have ha' : (Lit.int .i64 a).wf = true := by first | exact ha | (unfold I64 at ha; simp [Lit.wf, IntKind.min, IntKind.max, IntKind.signed, IntKind.bits]; omega)
 have h1 : Tryz.prog.keyType 472 = true := by kernel_rfl
 have h3 : (Value.agg #[Value.int .i64 a, Value.bool true]).formed Tryz.prog 472 = true := by kernel_rfl
 have h2 : (Tryz.prog.keyLits (Tryz.prog.types.size + 1) 472 (Value.agg #[Value.int .i64 a, Value.bool true]).cells.toList) = some [.int .i64 a, .bool true] := by
  obtain ⟨d, hd⟩ : ∃ d, Tryz.prog.types.size + 1 = d + 2 := ⟨Tryz.prog.types.size - 1, by kernel_rfl⟩; have c48 : Tryz.prog.cellsOf 472 = 2 := by kernel_rfl
  have c3 : Tryz.prog.cellsOf 3 = 1 := by kernel_rfl
  have c4 : Tryz.prog.cellsOf 4 = 1 := by kernel_rfl
  have cs : (Value.agg #[Value.int .i64 a, Value.bool true]).cells.toList = [Value.int .i64 a, Value.bool true] := rfl; rw [hd, cs]; generalize hwa : (Lit.int .i64 a).wf = wa at ha'; subst ha'; simp [Program.keyLits, Tryz.underlying472, Tryz.underlying3, Tryz.underlying4, c48, c3, c4, hwa]
 simp only [keyOf, Tryz.underlying472, h1, h2, h3]; exact ⟨_, rfl⟩
def papB : ByteArray := ⟨#[192, 35]⟩
def chapB : ByteArray := ⟨#[194, 35, 5]⟩
def noS : ByteArray := ⟨#[]⟩
def lvalS (p : Int) : ByteArray := if p = 49187 then papB else if p = 49699 then chapB else noS
theorem kindV_inj {a b : Int} (h : kindV a = kindV b) : a = b := by
 unfold kindV at h
 simpa using h
set_option maxRecDepth 100000 in
theorem lvalue_any (p : Int) (w : World) (hp : I64 p) : Calls Tryz.prog 236 #[.int .i64 p] w fun e w' => e = .returned (.string (lvalS p)) /\ Below w.heap.size w w' := by
 have hmm := @run_makeMap Tryz.prog; have hz : ∀ w, (zeroValue 9).run Tryz.prog w = .ok (.string noS) w := fun w => by kernel_rfl
 have hb1 : ∀ w, (Instr.build 472 #[(0, .int .i64 49187), (1, .bool true)]).run Tryz.prog w = .ok (kindV 49187) w := fun w => by kernel_rfl
 have hb2 : ∀ w, (Instr.build 472 #[(0, .int .i64 49699), (1, .bool true)]).run Tryz.prog w = .ok (kindV 49699) w := fun w => by kernel_rfl
 have hb3 : ∀ w, (Instr.build 472 #[(0, .int .i64 p), (1, .bool true)]).run Tryz.prog w = .ok (kindV p) w := fun w => by kernel_rfl
 have i1 : I64 49187 := by unfold I64; decide
 have i2 : I64 49699 := by unfold I64; decide
 have hm0 : MapAt Tryz.prog 472 ((w.alloc (.map #[] 0)).drew) w.heap.size (fun _ => none) := MapAt.empty w.drew; obtain ⟨ea, ca, ua, ma⟩ := hm0.run_update keyedK Tryz.underlying473 (kvK 49187 i1) (.string papB); obtain ⟨eb, cb, ub, mb⟩ := ma.run_update keyedK Tryz.underlying473 (kvK 49699 i2) (.string chapB); have la := mb.run_lookup keyedK Tryz.underlying473 (kvK p hp) (hz _) false; obtain ⟨ed, cd, ud, md⟩ := hm0.run_update keyedK Tryz.underlying473 (kvK 49699 i2) (.string chapB); obtain ⟨ee, ce, ue, me⟩ := md.run_update keyedK Tryz.underlying473 (kvK 49187 i1) (.string papB); have lb := me.run_lookup keyedK Tryz.underlying473 (kvK p hp) (hz _) false; have h12 : kindV 49187 ≠ kindV 49699 := fun h => absurd (kindV_inj h) (by decide)
 have ra : ((upd (upd (fun _ => none) (kindV 49187) (.string papB)) (kindV 49699) (.string chapB)) (kindV p)).getD (.string noS) = .string (lvalS p) := by
  unfold lvalS
  by_cases h1 : p = 49187
  . subst h1; rw [upd_other _ _ h12, upd_same]; rfl
  . by_cases h2 : p = 49699
    . subst h2; rw [upd_same]; rfl
    . rw [upd_other _ _ (fun h => h2 (kindV_inj h)), upd_other _ _ (fun h => h1 (kindV_inj h)), if_neg h1, if_neg h2]; rfl
 have rb : ((upd (upd (fun _ => none) (kindV 49699) (.string chapB)) (kindV 49187) (.string papB)) (kindV p)).getD (.string noS) = .string (lvalS p) := by
  unfold lvalS
  by_cases h1 : p = 49187
  . subst h1; rw [upd_same]; rfl
  . by_cases h2 : p = 49699
    . subst h2; rw [upd_other _ _ (fun h => h12 h.symm), upd_same]; rfl
    . rw [upd_other _ _ (fun h => h1 (kindV_inj h)), upd_other _ _ (fun h => h2 (kindV_inj h)), if_neg h1, if_neg h2]; rfl
 simp only [Bool.false_eq_true, if_false] at la lb; rw [ra] at la; rw [rb] at lb; have hk0 : Below w.heap.size w ((w.alloc (.map #[] 0)).drew) := ((Below.refl w.heap.size w).alloc (Nat.le_refl _) (.map #[] 0)).drew
 have kk : ∀ (W : World) (o : Obj), Below w.heap.size w W -> Below w.heap.size w (ChangeMaps.setBlock W w.heap.size o) := fun W o hW =>
  hW.trans (((Keep.refl (· = w.heap.size) W).setBlock w.heap.size (Or.inr rfl) o).below hW.size (fun k hk e => by omega))
 have HB := H_ (A_ (kk _ (.map eb cb) (kk _ (.map ea ca) hk0)) (kk _ (.map ee ce) (kk _ (.map ed cd) hk0))); clear kk hk0 hm0 ma mb md me ra rb h12 hz; generalize hS1 : ChangeMaps.setBlock ((w.alloc (.map #[] 0)).drew) w.heap.size (.map ea ca) = S1 at *; generalize hS2 : ChangeMaps.setBlock S1 w.heap.size (.map eb cb) = S2 at *; generalize hS3 : ChangeMaps.setBlock ((w.alloc (.map #[] 0)).drew) w.heap.size (.map ed cd) = S3 at *; generalize hS4 : ChangeMaps.setBlock S3 w.heap.size (.map ee ce) = S4 at *; clear hS1 hS2 hS3 hS4; unfold papB at ua ue; unfold chapB at ub ud; unfold kindV at ua ub ud ue la lb hb1 hb2 hb3; generalize lvalS p = vp at *; go_enter Tryz.func236, Tryz.ntmps236; go_wp2_with fail; refine wp_region_H (rgH 0 0) (fun _ => True) (by kernel_rfl) ?_; refine hatP 1 rfl (by intro W _; go_simp; try rfl) ?_; simp only [aZ, aC, aD]; refine hatP 3 rfl (by intro W _; go_simp; try rfl) ?_; simp only [aZ, aC, aD]; refine hatP 6 rfl (by intro W _; go_simp; try rfl) ?_; simp only [aZ, aC, aD]; refine hatP 7 rfl (by intro W _; go_simp; try rfl) ?_; simp only [aZ, aC, aD]; refine hone 0 rfl fun K hK => ?_
 try go_simp
 refine hK _ _ (fun _ => trivial) ?_
 try simp only [aZ, aA, aE, aB, aC, aD]
 refine wpAnyH_2 2 4 rfl rfl (by kernel_rfl) ?_ ?_
 . intro K hK; rw [if_pos (by rfl)]; go_simp; refine hK _ _ (fun _ => trivial) ?_
   try simp only [aZ, aA, aE, aB, aC, aD]
   refine hone 4 rfl fun K hK => ?_
   try go_simp
   refine hK _ _ (fun _ => trivial) ?_
   try simp only [aZ, aA, aE, aB, aC, aD]
   refine hone 5 rfl fun K hK => ?_
   try go_simp
   refine hK _ _ (fun _ => trivial) ?_
   try simp only [aZ, aA, aE, aB, aC, aD]
   refine hone 8 rfl fun K hK => ?_
   try go_simp
   refine hK _ _ (fun _ => trivial) ?_
   try simp only [aZ, aA, aE, aB, aC, aD]
   refine hend 9 ?_; simp only [aF, aG]; go_wp2_with fail; go_ret; exact ⟨rfl, HB.out.1⟩
 . intro K hK; rw [if_pos (by rfl)]; go_simp; refine hK _ _ (fun _ => trivial) ?_
   try simp only [aZ, aA, aE, aB, aC, aD]
   refine hone 2 rfl fun K hK => ?_
   try go_simp
   refine hK _ _ (fun _ => trivial) ?_
   try simp only [aZ, aA, aE, aB, aC, aD]
   refine hone 5 rfl fun K hK => ?_
   try go_simp
   refine hK _ _ (fun _ => trivial) ?_
   try simp only [aZ, aA, aE, aB, aC, aD]
   refine hone 8 rfl fun K hK => ?_
   try go_simp
   refine hK _ _ (fun _ => trivial) ?_
   try simp only [aZ, aA, aE, aB, aC, aD]
   refine hend 9 ?_; simp only [aF, aG]; go_wp2_with fail; go_ret; exact ⟨rfl, HB.out.2⟩
def be2 (v : Nat) : ByteArray := ⟨#[UInt8.ofNat (v / 256), UInt8.ofNat v]⟩
def be4 (v : Nat) : ByteArray := ⟨#[UInt8.ofNat (v / 16777216), UInt8.ofNat (v / 65536), UInt8.ofNat (v / 256), UInt8.ofNat v]⟩
set_option maxRecDepth 100000 in
theorem lput2_any (v : Nat) (w : World) (hv : v < 65536) :
 Calls Tryz.prog 220 #[.int .i64 (v : Int), .int .i64 2] w fun e w' => e = .returned (.string (be2 v)) /\ Below w.heap.size w w' := by
 have hmk : ∀ w, (Instr.makeSlice 128 (.int .i64 2) (.int .i64 2)).run Tryz.prog w = .ok (.slice (some ⟨w.heap.size, 0, none⟩) 2 2) (w.alloc (.cells #[.int .u8 0, .int .u8 0] 5 (0, 0))) := fun w => by kernel_rfl
 have hcv : (convert 128 9 (.slice (some ⟨w.heap.size, 0, none⟩) 2 2)).run Tryz.prog (w.alloc (.cells #[.int .u8 ((v : Int) / 256), .int .u8 ((v : Int) % 256)] 5 (0, 0))) = .ok (.string (be2 v)) (w.alloc (.cells #[.int .u8 ((v : Int) / 256), .int .u8 ((v : Int) % 256)] 5 (0, 0))) := by
  have hx := at1 w (.cells #[.int .u8 ((v : Int) / 256), .int .u8 ((v : Int) % 256)] 5 (0, 0)); refine run_convert_bytes_back (P := Tryz.prog) _ 128 9 5 ⟨w.heap.size, 0, none⟩ 2 [UInt8.ofNat (v / 256), UInt8.ofNat v] Tryz.underlying128 Tryz.underlying5 Tryz.underlying9 (fun j hj => ?_); rw [Addr.add_lit, Nat.zero_add]; have e1 : (UInt8.ofNat (v / 256)).toNat = v / 256 := by rw [UInt8.toNat_ofNat']; omega
  have e2 : (UInt8.ofNat v).toNat = v % 256 := by rw [UInt8.toNat_ofNat']
  match j, hj with
  | 0, _ => simp only [List.getElem_cons_zero]; rw [e1]; exact cellOf hx 0 _ (by simp)
  | 1, _ => simp only [List.getElem_cons_zero, List.getElem_cons_succ]; rw [e2]; exact cellOf hx 1 _ (by simp)
 go_enter Tryz.func220, Tryz.ntmps220; go_wp2_with fail; refine wp_loop_rounds 3 ?_; rw [rounds_succ]; go_wp2_with fail; rw [rounds_succ]; go_wp2_with fail; rw [rounds_succ]; go_wp2_with fail; go_ret; exact ⟨rfl, (Below.refl _ _).alloc (Nat.le_refl _) _⟩
set_option maxRecDepth 100000 in
theorem lput4_any (v : Nat) (w : World) (hv : v < 4294967296) :
 Calls Tryz.prog 220 #[.int .i64 (v : Int), .int .i64 4] w fun e w' => e = .returned (.string (be4 v)) /\ Below w.heap.size w w' := by
 have hmk : ∀ w, (Instr.makeSlice 128 (.int .i64 4) (.int .i64 4)).run Tryz.prog w = .ok (.slice (some ⟨w.heap.size, 0, none⟩) 4 4) (w.alloc (.cells #[.int .u8 0, .int .u8 0, .int .u8 0, .int .u8 0] 5 (0, 0))) := fun w => by kernel_rfl
 have hcv : (convert 128 9 (.slice (some ⟨w.heap.size, 0, none⟩) 4 4)).run Tryz.prog (w.alloc (.cells #[.int .u8 ((v : Int) / 16777216), .int .u8 ((v : Int) / 65536 % 256), .int .u8 ((v : Int) / 256 % 256), .int .u8 ((v : Int) % 256)] 5 (0, 0))) = .ok (.string (be4 v)) (w.alloc (.cells #[.int .u8 ((v : Int) / 16777216), .int .u8 ((v : Int) / 65536 % 256), .int .u8 ((v : Int) / 256 % 256), .int .u8 ((v : Int) % 256)] 5 (0, 0))) := by
  have hx := at1 w (.cells #[.int .u8 ((v : Int) / 16777216), .int .u8 ((v : Int) / 65536 % 256), .int .u8 ((v : Int) / 256 % 256), .int .u8 ((v : Int) % 256)] 5 (0, 0)); refine run_convert_bytes_back (P := Tryz.prog) _ 128 9 5 ⟨w.heap.size, 0, none⟩ 4 [UInt8.ofNat (v / 16777216), UInt8.ofNat (v / 65536), UInt8.ofNat (v / 256), UInt8.ofNat v] Tryz.underlying128 Tryz.underlying5 Tryz.underlying9 (fun j hj => ?_); rw [Addr.add_lit, Nat.zero_add]
  match j, hj with
  | 0, _ => simp only [List.getElem_cons_zero]; rw [show (UInt8.ofNat (v / 16777216)).toNat = v / 16777216 by rw [UInt8.toNat_ofNat']; omega]; exact cellOf hx 0 _ (by simp)
  | 1, _ => simp only [List.getElem_cons_zero, List.getElem_cons_succ]; rw [UInt8.toNat_ofNat']; exact cellOf hx 1 _ (by simp)
  | 2, _ => simp only [List.getElem_cons_zero, List.getElem_cons_succ]; rw [UInt8.toNat_ofNat']; exact cellOf hx 2 _ (by simp)
  | 3, _ => simp only [List.getElem_cons_zero, List.getElem_cons_succ]; rw [UInt8.toNat_ofNat']; exact cellOf hx 3 _ (by simp)
 go_enter Tryz.func220, Tryz.ntmps220; go_wp2_with fail; refine wp_loop_rounds 5 ?_; rw [rounds_succ]; go_wp2_with fail; rw [rounds_succ]; go_wp2_with fail; rw [rounds_succ]; go_wp2_with fail; rw [rounds_succ]; go_wp2_with fail; rw [rounds_succ]; go_wp2_with fail; go_ret; exact ⟨rfl, (Below.refl _ _).alloc (Nat.le_refl _) _⟩
theorem lin_any (n a b : Int) (w : World) : Calls Tryz.prog 219 #[.int .i64 n, .int .i64 a, .int .i64 b] w fun e w' => e = .returned (.bool (decide (a <= n) && decide (n <= b))) /\ w = w' := by
 by_cases h1 : a <= n
 . have d1 : decide (a <= n) = true := by simpa using h1
   rw [d1]; go_enter Tryz.func219, Tryz.ntmps219
   go_wp2
   go_ret; exact ⟨by simp, rfl⟩
 . have d1 : decide (a <= n) = false := by simpa using h1
   rw [d1]; go_enter Tryz.func219, Tryz.ntmps219
   go_wp2
   go_ret; exact ⟨by simp, rfl⟩
def unitR (most : Int) : Rl := ⟨1, 2, 64, most, be2 1492⟩
def magicR : Rl := ⟨5, 4, 1, 4294967295, be4 1⟩
theorem units_any (m : Int) (w : World) : Calls Tryz.prog 239 #[.int .i64 m] w fun e w' => e = .returned (.agg #[.int .i64 1, .int .i64 2, .int .i64 64, .int .i64 m, .string (be2 1492)]) /\ Below w.heap.size w w' := by
 have h := lput2_any 1492 (w.alloc (.cells #[.int .i64 0, .int .i64 0, .int .i64 0, .int .i64 0, .string ⟨#[]⟩] 385 (0, 0))) (by decide); have HP := H_ h; clear h; have hX := at1 w (.cells #[.int .i64 0, .int .i64 0, .int .i64 0, .int .i64 0, .string ⟨#[]⟩] 385 (0, 0)); have HX := H_ (A_ hX (A_ (alloc1 w (.cells #[.int .i64 0, .int .i64 0, .int .i64 0, .int .i64 0, .string ⟨#[]⟩] 385 (0, 0))) ((Below.refl w.heap.size w).alloc (Nat.le_refl _) (.cells #[.int .i64 0, .int .i64 0, .int .i64 0, .int .i64 0, .string ⟨#[]⟩] 385 (0, 0))))); clear hX; go_enter Tryz.func239, Tryz.ntmps239; go_wp2_with fail; refine HP.out.mono ?_; rintro e w1 ⟨rfl, hb⟩; have hx := (hb.block w.heap.size (by rw [HX.out.2.1]; omega)).trans HX.out.1; have HX1 := H_ (A_ hx (HX.out.2.2.trans (hb.mono (by rw [HX.out.2.1]; omega)))); have z := fun o => fzOf hx o; have y0 : w1.cell? ⟨w.heap.size, 0, none⟩ = some (.int .i64 0) := cellOf hx 0 _ rfl; have y1 : w1.cell? ⟨w.heap.size, 1, none⟩ = some (.int .i64 0) := cellOf hx 1 _ rfl; have y2 : w1.cell? ⟨w.heap.size, 2, none⟩ = some (.int .i64 0) := cellOf hx 2 _ rfl; have y3 : w1.cell? ⟨w.heap.size, 3, none⟩ = some (.int .i64 0) := cellOf hx 3 _ rfl; have y4 : w1.cell? ⟨w.heap.size, 4, none⟩ = some (.string ⟨#[]⟩) := cellOf hx 4 _ rfl; clear hb hx; go_wp2_with fail; refine bodyPost_ret (results_cell_row rfl _ _ w.heap.size 385 _ (0, 0) _ rfl (set5 HX1.out.1 _ _ _ _ _) Tryz.underlying385 rfl (by kernel_rfl)) rfl ?_; exact ⟨rfl, below5 HX1.out.2 (Nat.le_refl _) _ _ _ _ _⟩
theorem magics_any (w : World) : Calls Tryz.prog 240 #[] w fun e w' => e = .returned (.agg #[.int .i64 5, .int .i64 4, .int .i64 1, .int .i64 4294967295, .string (be4 1)]) /\ Below w.heap.size w w' := by
 have h := lput4_any 1 (w.alloc (.cells #[.int .i64 0, .int .i64 0, .int .i64 0, .int .i64 0, .string ⟨#[]⟩] 385 (0, 0))) (by decide); have HP := H_ h; clear h; have hX := at1 w (.cells #[.int .i64 0, .int .i64 0, .int .i64 0, .int .i64 0, .string ⟨#[]⟩] 385 (0, 0)); have HX := H_ (A_ hX (A_ (alloc1 w (.cells #[.int .i64 0, .int .i64 0, .int .i64 0, .int .i64 0, .string ⟨#[]⟩] 385 (0, 0))) ((Below.refl w.heap.size w).alloc (Nat.le_refl _) (.cells #[.int .i64 0, .int .i64 0, .int .i64 0, .int .i64 0, .string ⟨#[]⟩] 385 (0, 0))))); clear hX; go_enter Tryz.func240, Tryz.ntmps240; go_wp2_with fail; refine HP.out.mono ?_; rintro e w1 ⟨rfl, hb⟩; have hx := (hb.block w.heap.size (by rw [HX.out.2.1]; omega)).trans HX.out.1; have HX1 := H_ (A_ hx (HX.out.2.2.trans (hb.mono (by rw [HX.out.2.1]; omega)))); have z := fun o => fzOf hx o; have y0 : w1.cell? ⟨w.heap.size, 0, none⟩ = some (.int .i64 0) := cellOf hx 0 _ rfl; have y1 : w1.cell? ⟨w.heap.size, 1, none⟩ = some (.int .i64 0) := cellOf hx 1 _ rfl; have y2 : w1.cell? ⟨w.heap.size, 2, none⟩ = some (.int .i64 0) := cellOf hx 2 _ rfl; have y3 : w1.cell? ⟨w.heap.size, 3, none⟩ = some (.int .i64 0) := cellOf hx 3 _ rfl; have y4 : w1.cell? ⟨w.heap.size, 4, none⟩ = some (.string ⟨#[]⟩) := cellOf hx 4 _ rfl; clear hb hx; go_wp2_with fail; refine bodyPost_ret (results_cell_row rfl _ _ w.heap.size 385 _ (0, 0) _ rfl (set5 HX1.out.1 _ _ _ _ _) Tryz.underlying385 rfl (by kernel_rfl)) rfl ?_; exact ⟨rfl, below5 HX1.out.2 (Nat.le_refl _) _ _ _ _ _⟩
structure TpS where
 l : List Int
 asks : Int
def tpNext (t : TpS) : Int × TpS := match t.l with
 | [] => (wrap64 (7 * wrap64 (t.asks + 1)) % 256, ⟨[], wrap64 (t.asks + 1)⟩)
 | x :: r => (x % 256, ⟨r, t.asks⟩)
def TapeAt (w : World) (tb : Nat) (ok : Nat -> Prop) (t : TpS) : Prop :=
 ∃ tv, w.heap[tb]? = some (.cells #[tv, .int .i64 t.asks] 235 (0, 0)) /\ Nums w ok tv t.l /\ (∀ x ∈ t.l, I64 x) /\ (∀ b, ok b -> b ≠ tb) /\ I64 t.asks /\ t.l.length <= 1000000
theorem TapeAt.keep {T : Nat -> Prop} {w w' : World} {tb : Nat} {ok : Nat -> Prop} {t : TpS} (h : TapeAt w tb ok t) (hk : Keep T w w') (h1 : ¬ T tb) (h2 : ∀ b, b < w.heap.size -> ok b -> ¬ T b) : TapeAt w' tb ok t := by
 obtain ⟨tv, a, b, c⟩ := h; exact ⟨tv, (hk.block _ (Array.getElem?_eq_some_iff.1 a).1 h1).trans a, Rec.keep b hk h2, c⟩
theorem TapeAt.below {w w' : World} {tb : Nat} {ok : Nat -> Prop} {t : TpS} (h : TapeAt w tb ok t) (hk : Below w.heap.size w w') : TapeAt w' tb ok t := h.keep (Keep.of_below (fun _ => False) hk) (fun h => h) (fun _ _ _ h => h)
theorem TapeAt.lt {w : World} {tb : Nat} {ok : Nat -> Prop} {t : TpS} (h : TapeAt w tb ok t) : tb < w.heap.size := by
 obtain ⟨tv, a, _⟩ := h; exact (Array.getElem?_eq_some_iff.1 a).1
def byteOf (x : Int) : UInt8 := UInt8.ofNat x.toNat
def tp4 (t : TpS) : ByteArray × TpS :=
 let a := tpNext t
 let b := tpNext a.2
 let c := tpNext b.2
 let d := tpNext c.2
 (⟨#[byteOf a.1, byteOf b.1, byteOf c.1, byteOf d.1]⟩, d.2)
theorem byteOf_nat (x : Int) (h : 0 <= x /\ x < 256) : ((byteOf x).toNat : Int) = x := by
 unfold byteOf; rw [UInt8.toNat_ofNat']; omega
def protoS (l : List Opt) : Int := if (findO l 3).isSome then (if ((findO l 3).getD default).v = papB then 49187 else if ((findO l 3).getD default).v = chapB then 49699 else 0) else 0
def pB2 (v : Int) : ByteArray := ⟨#[byteOf (v / 256 % 256), byteOf (v % 256)]⟩
def pB4 (v : Int) : ByteArray := ⟨#[byteOf (v / 16777216 % 256), byteOf (v / 65536 % 256), byteOf (v / 256 % 256), byteOf (v % 256)]⟩
theorem md (x : Int) : 0 <= x % 256 /\ x % 256 < 256 := by omega
set_option maxRecDepth 100000 in
theorem lputI2 (v : Int) (w : World) :
 Calls Tryz.prog 220 #[.int .i64 v, .int .i64 2] w fun e w' => e = .returned (.string (pB2 v)) /\ Below w.heap.size w w' := by
 have hmk : ∀ w, (Instr.makeSlice 128 (.int .i64 2) (.int .i64 2)).run Tryz.prog w = .ok (.slice (some ⟨w.heap.size, 0, none⟩) 2 2) (w.alloc (.cells #[.int .u8 0, .int .u8 0] 5 (0, 0))) := fun w => by kernel_rfl
 have hcv : (convert 128 9 (.slice (some ⟨w.heap.size, 0, none⟩) 2 2)).run Tryz.prog (w.alloc (.cells #[.int .u8 (v / 256 % 256), .int .u8 (v % 256)] 5 (0, 0))) = .ok (.string (pB2 v)) (w.alloc (.cells #[.int .u8 (v / 256 % 256), .int .u8 (v % 256)] 5 (0, 0))) := by
  have hx := at1 w (.cells #[.int .u8 (v / 256 % 256), .int .u8 (v % 256)] 5 (0, 0)); refine run_convert_bytes_back (P := Tryz.prog) _ 128 9 5 ⟨w.heap.size, 0, none⟩ 2 [byteOf (v / 256 % 256), byteOf (v % 256)] Tryz.underlying128 Tryz.underlying5 Tryz.underlying9 (fun j hj => ?_); rw [Addr.add_lit, Nat.zero_add]
  match j, hj with
  | 0, _ => simp only [List.getElem_cons_zero]; rw [byteOf_nat _ (md _)]; exact cellOf hx 0 _ rfl
  | 1, _ => simp only [List.getElem_cons_zero, List.getElem_cons_succ]; rw [byteOf_nat _ (md _)]; exact cellOf hx 1 _ rfl
 go_enter Tryz.func220, Tryz.ntmps220; go_wp2_with fail; refine wp_loop_rounds 3 ?_; rw [rounds_succ]; go_wp2_with fail; rw [rounds_succ]; go_wp2_with fail; rw [rounds_succ]; go_wp2_with fail; go_ret; exact ⟨rfl, (Below.refl _ _).alloc (Nat.le_refl _) _⟩
set_option maxRecDepth 100000 in
theorem lputI4 (v : Int) (w : World) :
 Calls Tryz.prog 220 #[.int .i64 v, .int .i64 4] w fun e w' => e = .returned (.string (pB4 v)) /\ Below w.heap.size w w' := by
 have hmk : ∀ w, (Instr.makeSlice 128 (.int .i64 4) (.int .i64 4)).run Tryz.prog w = .ok (.slice (some ⟨w.heap.size, 0, none⟩) 4 4) (w.alloc (.cells #[.int .u8 0, .int .u8 0, .int .u8 0, .int .u8 0] 5 (0, 0))) := fun w => by kernel_rfl
 have hcv : (convert 128 9 (.slice (some ⟨w.heap.size, 0, none⟩) 4 4)).run Tryz.prog (w.alloc (.cells #[.int .u8 (v / 16777216 % 256), .int .u8 (v / 65536 % 256), .int .u8 (v / 256 % 256), .int .u8 (v % 256)] 5 (0, 0))) = .ok (.string (pB4 v)) (w.alloc (.cells #[.int .u8 (v / 16777216 % 256), .int .u8 (v / 65536 % 256), .int .u8 (v / 256 % 256), .int .u8 (v % 256)] 5 (0, 0))) := by
  have hx := at1 w (.cells #[.int .u8 (v / 16777216 % 256), .int .u8 (v / 65536 % 256), .int .u8 (v / 256 % 256), .int .u8 (v % 256)] 5 (0, 0)); refine run_convert_bytes_back (P := Tryz.prog) _ 128 9 5 ⟨w.heap.size, 0, none⟩ 4 [byteOf (v / 16777216 % 256), byteOf (v / 65536 % 256), byteOf (v / 256 % 256), byteOf (v % 256)] Tryz.underlying128 Tryz.underlying5 Tryz.underlying9 (fun j hj => ?_); rw [Addr.add_lit, Nat.zero_add]
  match j, hj with
  | 0, _ => simp only [List.getElem_cons_zero]; rw [byteOf_nat _ (md _)]; exact cellOf hx 0 _ rfl
  | 1, _ => simp only [List.getElem_cons_zero, List.getElem_cons_succ]; rw [byteOf_nat _ (md _)]; exact cellOf hx 1 _ rfl
  | 2, _ => simp only [List.getElem_cons_zero, List.getElem_cons_succ]; rw [byteOf_nat _ (md _)]; exact cellOf hx 2 _ rfl
  | 3, _ => simp only [List.getElem_cons_zero, List.getElem_cons_succ]; rw [byteOf_nat _ (md _)]; exact cellOf hx 3 _ rfl
 go_enter Tryz.func220, Tryz.ntmps220; go_wp2_with fail; refine wp_loop_rounds 5 ?_; rw [rounds_succ]; go_wp2_with fail; rw [rounds_succ]; go_wp2_with fail; rw [rounds_succ]; go_wp2_with fail; rw [rounds_succ]; go_wp2_with fail; rw [rounds_succ]; go_wp2_with fail; go_ret; exact ⟨rfl, (Below.refl _ _).alloc (Nat.le_refl _) _⟩
structure LCfg where
 mru : Int
 auth : Int
 magic : Int
 echo : Int
 cf : Int
 tm : Int
 fl : Int
 wt : Int
def cfgV (c : LCfg) : Value := .agg #[.int .i64 c.mru, .int .i64 c.auth, .int .i64 c.magic, .int .i64 c.echo, .int .i64 c.cf, .int .i64 c.tm, .int .i64 c.fl, .int .i64 c.wt]
def optsS1 (c : LCfg) : List Opt := if c.mru = 1492 then [] else [⟨1, pB2 c.mru⟩]
def optsS2 (c : LCfg) : List Opt := if c.auth = 0 then optsS1 c else optsS1 c ++ [⟨3, lvalS c.auth⟩]
def optsS (c : LCfg) : List Opt := if c.magic = 0 then optsS2 c else optsS2 c ++ [⟨5, pB4 c.magic⟩]
structure OI (w W : World) (cs : Array Value) (rv : Value) (l : List Opt) : Prop where
 blk : W.heap[w.heap.size]? = some (.cells cs 290 (0, 0))
 row : ORow W (w.heap.size + 1) rv l
 bel : Below w.heap.size w W
theorem OI.sz {w W : World} {cs : Array Value} {rv : Value} {l : List Opt} (h : OI w W cs rv l) : w.heap.size + 1 <= W.heap.size := (Array.getElem?_eq_some_iff.1 h.blk).1
theorem OI.go {w W W' : World} {cs : Array Value} {rv : Value} {l : List Opt} (h : OI w W cs rv l) (hb : Below W.heap.size W W') : OI w W' cs rv l :=
 ⟨(hb.block _ h.sz).trans h.blk, h.row.below hb, h.bel.trans (hb.mono (Nat.le_of_succ_le h.sz))⟩
theorem OI.al {w W : World} {cs : Array Value} {rv : Value} {l : List Opt} (h : OI w W cs rv l) (o : Obj) : OI w (W.alloc o) cs rv l := h.go ((Below.refl _ _).alloc (Nat.le_refl _) o)
theorem OI.app {w W W' : World} {cs : Array Value} {rv rv' : Value} {l l' : List Opt} (h : OI w W cs rv l) (hr : ORow W' (w.heap.size + 1) rv' l') (hk : Keep (fun k => rv.ownBlock = some k) W W') : OI w W' cs rv' l' :=
 ⟨(hk.block _ h.sz (fun he => by have := (h.row.lt _ he).2; omega)).trans h.blk, hr, h.bel.trans (hk.below (Nat.le_of_succ_le h.sz) (fun k hk he => by have := (h.row.lt _ he).2; omega))⟩
set_option maxRecDepth 100000 in
theorem lopts_000 (m au mg ec cf tm fl wt : Int) (w : World) (ha : I64 au) (h1 : m = 1492) (h2 : au = 0) (h3 : mg = 0) :
 Calls Tryz.prog 238 #[cfgV ⟨m, au, mg, ec, cf, tm, fl, wt⟩] w fun e w' => ∃ v, e = .returned v /\ ORow w' w.heap.size v (optsS ⟨m, au, mg, ec, cf, tm, fl, wt⟩) /\ Below w.heap.size w w' := by
 have HA := H_ ha
 have HI : Hid (OI w (w.alloc (.cells #[.int .i64 m, .int .i64 au, .int .i64 mg, .int .i64 ec, .int .i64 cf, .int .i64 tm, .int .i64 fl, .int .i64 wt] 290 (0, 0))) #[.int .i64 m, .int .i64 au, .int .i64 mg, .int .i64 ec, .int .i64 cf, .int .i64 tm, .int .i64 fl, .int .i64 wt] (.slice none 0 0) []) :=
  H_ ⟨at1 _ _, ORow.nil _ _, (Below.refl _ _).alloc (Nat.le_refl _) _⟩
 have HE := H_ (show optsS ⟨m, au, mg, ec, cf, tm, fl, wt⟩ = ([] : List Opt) from by
  unfold optsS optsS2 optsS1
  simp [h1, h2, h3])
 generalize optsS ⟨m, au, mg, ec, cf, tm, fl, wt⟩ = R at *; unfold cfgV
 dsimp only
 clear ha; have e1 : (m != 1492) = false := by simpa using h1
 have e2 : (au != 0) = false := by simpa using h2
 have e3 : (mg != 0) = false := by simpa using h3
 clear h1 h2 h3; go_enter Tryz.func238, Tryz.ntmps238; go_wp2_with fail; go_ret; rw [HE.out]; exact ⟨_, rfl, (by have := HI.out.row.base (Nat.le_succ _); simpa using this), HI.out.bel⟩
set_option maxRecDepth 100000 in
theorem lopts_001 (m au mg ec cf tm fl wt : Int) (w : World) (ha : I64 au) (h1 : m = 1492) (h2 : au = 0) (h3 : ¬ mg = 0) :
 Calls Tryz.prog 238 #[cfgV ⟨m, au, mg, ec, cf, tm, fl, wt⟩] w fun e w' => ∃ v, e = .returned v /\ ORow w' w.heap.size v (optsS ⟨m, au, mg, ec, cf, tm, fl, wt⟩) /\ Below w.heap.size w w' := by
 have HA := H_ ha
 have HI : Hid (OI w (w.alloc (.cells #[.int .i64 m, .int .i64 au, .int .i64 mg, .int .i64 ec, .int .i64 cf, .int .i64 tm, .int .i64 fl, .int .i64 wt] 290 (0, 0))) #[.int .i64 m, .int .i64 au, .int .i64 mg, .int .i64 ec, .int .i64 cf, .int .i64 tm, .int .i64 fl, .int .i64 wt] (.slice none 0 0) []) :=
  H_ ⟨at1 _ _, ORow.nil _ _, (Below.refl _ _).alloc (Nat.le_refl _) _⟩
 have HE := H_ (show optsS ⟨m, au, mg, ec, cf, tm, fl, wt⟩ = (([] : List Opt) ++ [⟨5, pB4 mg⟩]) from by
  unfold optsS optsS2 optsS1
  simp [h1, h2, h3])
 generalize optsS ⟨m, au, mg, ec, cf, tm, fl, wt⟩ = R at *; unfold cfgV
 dsimp only
 clear ha; have e1 : (m != 1492) = false := by simpa using h1
 have e2 : (au != 0) = false := by simpa using h2
 have e3 : (mg != 0) = true := by simpa using h3
 clear h1 h2 h3; go_enter Tryz.func238, Tryz.ntmps238
 go_wp2_with (first
  | (
   go_at_call 220; refine (lputI4 _ _).mono ?_; rintro e W1 ⟨rfl, b1⟩; have HI := H_ (HI.out.go b1); have c1 := cellOf HI.out.blk 1 _ rfl; have c2 := cellOf HI.out.blk 2 _ rfl
   clear b1)
  | (
   at_builtin; refine wpl_append_opt rfl _ _ rfl _ _ rfl (HI.out.al _).row _ 1 _ _ rfl (at1 _ _) (by simp) (by rw [alloc1]; have := HI.out.sz; omega) ?_
   intro g cap W2 hr hk hg; have HI := H_ ((HI.out.al _).app hr hk); have c1 := cellOf HI.out.blk 1 _ rfl; have c2 := cellOf HI.out.blk 2 _ rfl
   clear hr hk hg))
 go_ret; rw [HE.out]; exact ⟨_, rfl, (by have := HI.out.row.base (Nat.le_succ _); simpa using this), HI.out.bel⟩
set_option maxRecDepth 100000 in
theorem lopts_010 (m au mg ec cf tm fl wt : Int) (w : World) (ha : I64 au) (h1 : m = 1492) (h2 : ¬ au = 0) (h3 : mg = 0) :
 Calls Tryz.prog 238 #[cfgV ⟨m, au, mg, ec, cf, tm, fl, wt⟩] w fun e w' => ∃ v, e = .returned v /\ ORow w' w.heap.size v (optsS ⟨m, au, mg, ec, cf, tm, fl, wt⟩) /\ Below w.heap.size w w' := by
 have HA := H_ ha
 have HI : Hid (OI w (w.alloc (.cells #[.int .i64 m, .int .i64 au, .int .i64 mg, .int .i64 ec, .int .i64 cf, .int .i64 tm, .int .i64 fl, .int .i64 wt] 290 (0, 0))) #[.int .i64 m, .int .i64 au, .int .i64 mg, .int .i64 ec, .int .i64 cf, .int .i64 tm, .int .i64 fl, .int .i64 wt] (.slice none 0 0) []) :=
  H_ ⟨at1 _ _, ORow.nil _ _, (Below.refl _ _).alloc (Nat.le_refl _) _⟩
 have HE := H_ (show optsS ⟨m, au, mg, ec, cf, tm, fl, wt⟩ = (([] : List Opt) ++ [⟨3, lvalS au⟩]) from by
  unfold optsS optsS2 optsS1
  simp [h1, h2, h3])
 generalize optsS ⟨m, au, mg, ec, cf, tm, fl, wt⟩ = R at *; unfold cfgV
 dsimp only
 clear ha; have e1 : (m != 1492) = false := by simpa using h1
 have e2 : (au != 0) = true := by simpa using h2
 have e3 : (mg != 0) = false := by simpa using h3
 clear h1 h2 h3; go_enter Tryz.func238, Tryz.ntmps238
 go_wp2_with (first
  | (
   go_at_call 236; refine (lvalue_any _ _ HA.out).mono ?_; rintro e W1 ⟨rfl, b1⟩; have HI := H_ (HI.out.go b1); have c2 := cellOf HI.out.blk 2 _ rfl
   clear b1)
  | (
   at_builtin; refine wpl_append_opt rfl _ _ rfl _ _ rfl (HI.out.al _).row _ 1 _ _ rfl (at1 _ _) (by simp) (by rw [alloc1]; have := HI.out.sz; omega) ?_
   intro g cap W2 hr hk hg; have HI := H_ ((HI.out.al _).app hr hk); have c1 := cellOf HI.out.blk 1 _ rfl; have c2 := cellOf HI.out.blk 2 _ rfl
   clear hr hk hg))
 go_ret; rw [HE.out]; exact ⟨_, rfl, (by have := HI.out.row.base (Nat.le_succ _); simpa using this), HI.out.bel⟩
set_option maxRecDepth 100000 in
theorem lopts_011 (m au mg ec cf tm fl wt : Int) (w : World) (ha : I64 au) (h1 : m = 1492) (h2 : ¬ au = 0) (h3 : ¬ mg = 0) :
 Calls Tryz.prog 238 #[cfgV ⟨m, au, mg, ec, cf, tm, fl, wt⟩] w fun e w' => ∃ v, e = .returned v /\ ORow w' w.heap.size v (optsS ⟨m, au, mg, ec, cf, tm, fl, wt⟩) /\ Below w.heap.size w w' := by
 have HA := H_ ha
 have HI : Hid (OI w (w.alloc (.cells #[.int .i64 m, .int .i64 au, .int .i64 mg, .int .i64 ec, .int .i64 cf, .int .i64 tm, .int .i64 fl, .int .i64 wt] 290 (0, 0))) #[.int .i64 m, .int .i64 au, .int .i64 mg, .int .i64 ec, .int .i64 cf, .int .i64 tm, .int .i64 fl, .int .i64 wt] (.slice none 0 0) []) :=
  H_ ⟨at1 _ _, ORow.nil _ _, (Below.refl _ _).alloc (Nat.le_refl _) _⟩
 have HE := H_ (show optsS ⟨m, au, mg, ec, cf, tm, fl, wt⟩ = ((([] : List Opt) ++ [⟨3, lvalS au⟩]) ++ [⟨5, pB4 mg⟩]) from by
  unfold optsS optsS2 optsS1
  simp [h1, h2, h3])
 generalize optsS ⟨m, au, mg, ec, cf, tm, fl, wt⟩ = R at *; unfold cfgV
 dsimp only
 clear ha; have e1 : (m != 1492) = false := by simpa using h1
 have e2 : (au != 0) = true := by simpa using h2
 have e3 : (mg != 0) = true := by simpa using h3
 clear h1 h2 h3; go_enter Tryz.func238, Tryz.ntmps238
 go_wp2_with (first
  | (
   go_at_call 220; refine (lputI4 _ _).mono ?_; rintro e W1 ⟨rfl, b1⟩; have HI := H_ (HI.out.go b1); have c1 := cellOf HI.out.blk 1 _ rfl; have c2 := cellOf HI.out.blk 2 _ rfl
   clear b1)
  | (
   go_at_call 236; refine (lvalue_any _ _ HA.out).mono ?_; rintro e W1 ⟨rfl, b1⟩; have HI := H_ (HI.out.go b1); have c2 := cellOf HI.out.blk 2 _ rfl
   clear b1)
  | (
   at_builtin; refine wpl_append_opt rfl _ _ rfl _ _ rfl (HI.out.al _).row _ 1 _ _ rfl (at1 _ _) (by simp) (by rw [alloc1]; have := HI.out.sz; omega) ?_
   intro g cap W2 hr hk hg; have HI := H_ ((HI.out.al _).app hr hk); have c1 := cellOf HI.out.blk 1 _ rfl; have c2 := cellOf HI.out.blk 2 _ rfl
   clear hr hk hg))
 go_ret; rw [HE.out]; exact ⟨_, rfl, (by have := HI.out.row.base (Nat.le_succ _); simpa using this), HI.out.bel⟩
set_option maxRecDepth 100000 in
theorem lopts_100 (m au mg ec cf tm fl wt : Int) (w : World) (ha : I64 au) (h1 : ¬ m = 1492) (h2 : au = 0) (h3 : mg = 0) :
 Calls Tryz.prog 238 #[cfgV ⟨m, au, mg, ec, cf, tm, fl, wt⟩] w fun e w' => ∃ v, e = .returned v /\ ORow w' w.heap.size v (optsS ⟨m, au, mg, ec, cf, tm, fl, wt⟩) /\ Below w.heap.size w w' := by
 have HA := H_ ha
 have HI : Hid (OI w (w.alloc (.cells #[.int .i64 m, .int .i64 au, .int .i64 mg, .int .i64 ec, .int .i64 cf, .int .i64 tm, .int .i64 fl, .int .i64 wt] 290 (0, 0))) #[.int .i64 m, .int .i64 au, .int .i64 mg, .int .i64 ec, .int .i64 cf, .int .i64 tm, .int .i64 fl, .int .i64 wt] (.slice none 0 0) []) :=
  H_ ⟨at1 _ _, ORow.nil _ _, (Below.refl _ _).alloc (Nat.le_refl _) _⟩
 have HE := H_ (show optsS ⟨m, au, mg, ec, cf, tm, fl, wt⟩ = (([] : List Opt) ++ [⟨1, pB2 m⟩]) from by
  unfold optsS optsS2 optsS1
  simp [h1, h2, h3])
 generalize optsS ⟨m, au, mg, ec, cf, tm, fl, wt⟩ = R at *; unfold cfgV
 dsimp only
 clear ha; have e1 : (m != 1492) = true := by simpa using h1
 have e2 : (au != 0) = false := by simpa using h2
 have e3 : (mg != 0) = false := by simpa using h3
 clear h1 h2 h3; go_enter Tryz.func238, Tryz.ntmps238
 go_wp2_with (first
  | (
   go_at_call 220; refine (lputI2 _ _).mono ?_; rintro e W1 ⟨rfl, b1⟩; have HI := H_ (HI.out.go b1); have c1 := cellOf HI.out.blk 1 _ rfl; have c2 := cellOf HI.out.blk 2 _ rfl
   clear b1)
  | (
   at_builtin; refine wpl_append_opt rfl _ _ rfl _ _ rfl (HI.out.al _).row _ 1 _ _ rfl (at1 _ _) (by simp) (by rw [alloc1]; have := HI.out.sz; omega) ?_
   intro g cap W2 hr hk hg; have HI := H_ ((HI.out.al _).app hr hk); have c1 := cellOf HI.out.blk 1 _ rfl; have c2 := cellOf HI.out.blk 2 _ rfl
   clear hr hk hg))
 go_ret; rw [HE.out]; exact ⟨_, rfl, (by have := HI.out.row.base (Nat.le_succ _); simpa using this), HI.out.bel⟩
set_option maxRecDepth 100000 in
theorem lopts_101 (m au mg ec cf tm fl wt : Int) (w : World) (ha : I64 au) (h1 : ¬ m = 1492) (h2 : au = 0) (h3 : ¬ mg = 0) :
 Calls Tryz.prog 238 #[cfgV ⟨m, au, mg, ec, cf, tm, fl, wt⟩] w fun e w' => ∃ v, e = .returned v /\ ORow w' w.heap.size v (optsS ⟨m, au, mg, ec, cf, tm, fl, wt⟩) /\ Below w.heap.size w w' := by
 have HA := H_ ha
 have HI : Hid (OI w (w.alloc (.cells #[.int .i64 m, .int .i64 au, .int .i64 mg, .int .i64 ec, .int .i64 cf, .int .i64 tm, .int .i64 fl, .int .i64 wt] 290 (0, 0))) #[.int .i64 m, .int .i64 au, .int .i64 mg, .int .i64 ec, .int .i64 cf, .int .i64 tm, .int .i64 fl, .int .i64 wt] (.slice none 0 0) []) :=
  H_ ⟨at1 _ _, ORow.nil _ _, (Below.refl _ _).alloc (Nat.le_refl _) _⟩
 have HE := H_ (show optsS ⟨m, au, mg, ec, cf, tm, fl, wt⟩ = ((([] : List Opt) ++ [⟨1, pB2 m⟩]) ++ [⟨5, pB4 mg⟩]) from by
  unfold optsS optsS2 optsS1
  simp [h1, h2, h3])
 generalize optsS ⟨m, au, mg, ec, cf, tm, fl, wt⟩ = R at *; unfold cfgV
 dsimp only
 clear ha; have e1 : (m != 1492) = true := by simpa using h1
 have e2 : (au != 0) = false := by simpa using h2
 have e3 : (mg != 0) = true := by simpa using h3
 clear h1 h2 h3; go_enter Tryz.func238, Tryz.ntmps238
 go_wp2_with (first
  | (
   go_at_call 220; first | with_reducible refine (lputI2 _ _).mono ?_ | with_reducible refine (lputI4 _ _).mono ?_
   rintro e W1 ⟨rfl, b1⟩; have HI := H_ (HI.out.go b1); have c1 := cellOf HI.out.blk 1 _ rfl; have c2 := cellOf HI.out.blk 2 _ rfl
   clear b1)
  | (
   at_builtin; refine wpl_append_opt rfl _ _ rfl _ _ rfl (HI.out.al _).row _ 1 _ _ rfl (at1 _ _) (by simp) (by rw [alloc1]; have := HI.out.sz; omega) ?_
   intro g cap W2 hr hk hg; have HI := H_ ((HI.out.al _).app hr hk); have c1 := cellOf HI.out.blk 1 _ rfl; have c2 := cellOf HI.out.blk 2 _ rfl
   clear hr hk hg))
 go_ret; rw [HE.out]; exact ⟨_, rfl, (by have := HI.out.row.base (Nat.le_succ _); simpa using this), HI.out.bel⟩
set_option maxRecDepth 100000 in
theorem lopts_110 (m au mg ec cf tm fl wt : Int) (w : World) (ha : I64 au) (h1 : ¬ m = 1492) (h2 : ¬ au = 0) (h3 : mg = 0) :
 Calls Tryz.prog 238 #[cfgV ⟨m, au, mg, ec, cf, tm, fl, wt⟩] w fun e w' => ∃ v, e = .returned v /\ ORow w' w.heap.size v (optsS ⟨m, au, mg, ec, cf, tm, fl, wt⟩) /\ Below w.heap.size w w' := by
 have HA := H_ ha
 have HI : Hid (OI w (w.alloc (.cells #[.int .i64 m, .int .i64 au, .int .i64 mg, .int .i64 ec, .int .i64 cf, .int .i64 tm, .int .i64 fl, .int .i64 wt] 290 (0, 0))) #[.int .i64 m, .int .i64 au, .int .i64 mg, .int .i64 ec, .int .i64 cf, .int .i64 tm, .int .i64 fl, .int .i64 wt] (.slice none 0 0) []) :=
  H_ ⟨at1 _ _, ORow.nil _ _, (Below.refl _ _).alloc (Nat.le_refl _) _⟩
 have HE := H_ (show optsS ⟨m, au, mg, ec, cf, tm, fl, wt⟩ = ((([] : List Opt) ++ [⟨1, pB2 m⟩]) ++ [⟨3, lvalS au⟩]) from by
  unfold optsS optsS2 optsS1
  simp [h1, h2, h3])
 generalize optsS ⟨m, au, mg, ec, cf, tm, fl, wt⟩ = R at *; unfold cfgV
 dsimp only
 clear ha; have e1 : (m != 1492) = true := by simpa using h1
 have e2 : (au != 0) = true := by simpa using h2
 have e3 : (mg != 0) = false := by simpa using h3
 clear h1 h2 h3; go_enter Tryz.func238, Tryz.ntmps238
 go_wp2_with (first
  | (
   go_at_call 220; refine (lputI2 _ _).mono ?_; rintro e W1 ⟨rfl, b1⟩; have HI := H_ (HI.out.go b1); have c1 := cellOf HI.out.blk 1 _ rfl; have c2 := cellOf HI.out.blk 2 _ rfl
   clear b1)
  | (
   go_at_call 236; refine (lvalue_any _ _ HA.out).mono ?_; rintro e W1 ⟨rfl, b1⟩; have HI := H_ (HI.out.go b1); have c2 := cellOf HI.out.blk 2 _ rfl
   clear b1)
  | (
   at_builtin; refine wpl_append_opt rfl _ _ rfl _ _ rfl (HI.out.al _).row _ 1 _ _ rfl (at1 _ _) (by simp) (by rw [alloc1]; have := HI.out.sz; omega) ?_
   intro g cap W2 hr hk hg; have HI := H_ ((HI.out.al _).app hr hk); have c1 := cellOf HI.out.blk 1 _ rfl; have c2 := cellOf HI.out.blk 2 _ rfl
   clear hr hk hg))
 go_ret; rw [HE.out]; exact ⟨_, rfl, (by have := HI.out.row.base (Nat.le_succ _); simpa using this), HI.out.bel⟩
set_option maxRecDepth 100000 in
theorem lopts_111 (m au mg ec cf tm fl wt : Int) (w : World) (ha : I64 au) (h1 : ¬ m = 1492) (h2 : ¬ au = 0) (h3 : ¬ mg = 0) :
 Calls Tryz.prog 238 #[cfgV ⟨m, au, mg, ec, cf, tm, fl, wt⟩] w fun e w' => ∃ v, e = .returned v /\ ORow w' w.heap.size v (optsS ⟨m, au, mg, ec, cf, tm, fl, wt⟩) /\ Below w.heap.size w w' := by
 have HA := H_ ha
 have HI : Hid (OI w (w.alloc (.cells #[.int .i64 m, .int .i64 au, .int .i64 mg, .int .i64 ec, .int .i64 cf, .int .i64 tm, .int .i64 fl, .int .i64 wt] 290 (0, 0))) #[.int .i64 m, .int .i64 au, .int .i64 mg, .int .i64 ec, .int .i64 cf, .int .i64 tm, .int .i64 fl, .int .i64 wt] (.slice none 0 0) []) :=
  H_ ⟨at1 _ _, ORow.nil _ _, (Below.refl _ _).alloc (Nat.le_refl _) _⟩
 have HE := H_ (show optsS ⟨m, au, mg, ec, cf, tm, fl, wt⟩ = (((([] : List Opt) ++ [⟨1, pB2 m⟩]) ++ [⟨3, lvalS au⟩]) ++ [⟨5, pB4 mg⟩]) from by
  unfold optsS optsS2 optsS1
  simp [h1, h2, h3])
 generalize optsS ⟨m, au, mg, ec, cf, tm, fl, wt⟩ = R at *; unfold cfgV
 dsimp only
 clear ha; have e1 : (m != 1492) = true := by simpa using h1
 have e2 : (au != 0) = true := by simpa using h2
 have e3 : (mg != 0) = true := by simpa using h3
 clear h1 h2 h3; go_enter Tryz.func238, Tryz.ntmps238
 go_wp2_with (first
  | (
   go_at_call 220; first | with_reducible refine (lputI2 _ _).mono ?_ | with_reducible refine (lputI4 _ _).mono ?_
   rintro e W1 ⟨rfl, b1⟩; have HI := H_ (HI.out.go b1); have c1 := cellOf HI.out.blk 1 _ rfl; have c2 := cellOf HI.out.blk 2 _ rfl
   clear b1)
  | (
   go_at_call 236; refine (lvalue_any _ _ HA.out).mono ?_; rintro e W1 ⟨rfl, b1⟩; have HI := H_ (HI.out.go b1); have c2 := cellOf HI.out.blk 2 _ rfl
   clear b1)
  | (
   at_builtin; refine wpl_append_opt rfl _ _ rfl _ _ rfl (HI.out.al _).row _ 1 _ _ rfl (at1 _ _) (by simp) (by rw [alloc1]; have := HI.out.sz; omega) ?_
   intro g cap W2 hr hk hg; have HI := H_ ((HI.out.al _).app hr hk); have c1 := cellOf HI.out.blk 1 _ rfl; have c2 := cellOf HI.out.blk 2 _ rfl
   clear hr hk hg))
 go_ret; rw [HE.out]; exact ⟨_, rfl, (by have := HI.out.row.base (Nat.le_succ _); simpa using this), HI.out.bel⟩
theorem lopts_any (c : LCfg) (w : World) (ha : I64 c.auth) :
 Calls Tryz.prog 238 #[cfgV c] w fun e w' => ∃ v, e = .returned v /\ ORow w' w.heap.size v (optsS c) /\ Below w.heap.size w w' := by
 obtain ⟨m, au, mg, ec, cf, tm, fl, wt⟩ := c
 by_cases h1 : m = 1492 <;> by_cases h2 : au = 0 <;> by_cases h3 : mg = 0
 . exact lopts_000 m au mg ec cf tm fl wt w ha h1 h2 h3
 . exact lopts_001 m au mg ec cf tm fl wt w ha h1 h2 h3
 . exact lopts_010 m au mg ec cf tm fl wt w ha h1 h2 h3
 . exact lopts_011 m au mg ec cf tm fl wt w ha h1 h2 h3
 . exact lopts_100 m au mg ec cf tm fl wt w ha h1 h2 h3
 . exact lopts_101 m au mg ec cf tm fl wt w ha h1 h2 h3
 . exact lopts_110 m au mg ec cf tm fl wt w ha h1 h2 h3
 . exact lopts_111 m au mg ec cf tm fl wt w ha h1 h2 h3
def wB : List Opt -> List Opt -> Bool
 | _, [] => true
 | [], _ :: _ => false
 | r :: rs, o :: l => if eqB r o then wB rs l else wB rs (o :: l)
section
variable {w : World} {S ok : Nat -> Prop} {B : NegB} {C : NegC} {st : NSt} {X : NegX}
def refusedS (rej : Pk -> ByteArray) (C : NegC) (st : NSt) (p : Pk) : NSt × List Pk :=
 if wB st.req p.o then
  if p.o.any (fun o => hasB C.must o.t) then evS rej C st 14 ⟨true, p, 0, []⟩ else evS rej C { st with req := st.req.filter fun o => !(p.o.any (eqB o)) } 9 ⟨true, p, 0, []⟩
 else (st, [])
end
section
variable (rej : Pk -> ByteArray) {w : World} {S ok : Nat -> Prop} {B : NegB} {C : NegC} {st : NSt} {X : NegX}
end
def nameOne (C : NegC) (req : List Opt) (o : Opt) : List Opt :=
 if idxP (fun x => x.t == o.t) req < 0 then req
 else if (findR C.own o.t).isSome && fitsR (ruleOf C.own o.t) o.v then req.set (idxP (fun x => x.t == o.t) req).toNat o
 else if hasB C.must o.t then req else req.eraseIdx (idxP (fun x => x.t == o.t) req).toNat
def namedS (rej : Pk -> ByteArray) (C : NegC) (st : NSt) (p : Pk) : NSt × List Pk := evS rej C { st with req := p.o.foldl (nameOne C) st.req } 9 ⟨true, p, 0, []⟩
section
variable {w : World} {S : Nat -> Prop} {B : NegB} {C : NegC} {st : NSt} {X : NegX}
end
structure Lay (W Wc : World) (l : List (Nat × Obj)) : Prop where
 bl : Below W.heap.size W Wc
 get : ∀ p ∈ l, W.heap.size <= p.1 /\ Wc.heap[p.1]? = some p.2
theorem Lay.go {W Wc W' : World} {l : List (Nat × Obj)} (h : Lay W Wc l) (hb : Below Wc.heap.size Wc W') : Lay W W' l :=
 ⟨h.bl.trans (hb.mono h.bl.size), fun p hp => ⟨(h.get p hp).1, (hb.block _ (Array.getElem?_eq_some_iff.1 (h.get p hp).2).1).trans (h.get p hp).2⟩⟩
theorem Lay.alloc {W Wc : World} {l : List (Nat × Obj)} (h : Lay W Wc l) (o : Obj) : Lay W (Wc.alloc o) ((Wc.heap.size, o) :: l) := by
 refine ⟨h.bl.alloc h.bl.size _, fun p hp => ?_⟩
 rcases List.mem_cons.1 hp with rfl | hp
 . exact ⟨h.bl.size, at1 _ _⟩
 . exact (h.go ((Below.refl _ _).alloc (Nat.le_refl _) o)).get p hp
theorem code_post {P : Program} {c : Code} {Q Q' : Exit -> Act -> World -> Prop} {a : Act} {w : World} (h : c.wp P Q a w) (hq : ∀ e a w, Q e a w -> Q' e a w) : c.wp P Q' a w := Code.wp_mono hq h
structure Boxes (w W : World) (own peer d1 d2 : Ad) : Prop where
 size : W.heap.size = w.heap.size + 1 + 1 + 1 + 1
 x0 : W.heap[w.heap.size]? = some (.cells own.cs 27 (0, 0))
 x1 : W.heap[w.heap.size + 1]? = some (.cells peer.cs 27 (0, 0))
 x2 : W.heap[w.heap.size + 1 + 1]? = some (.cells d1.cs 27 (0, 0))
 x3 : W.heap[w.heap.size + 1 + 1 + 1]? = some (.cells d2.cs 27 (0, 0))
 bl : Below w.heap.size w W
theorem boxes_at (w : World) (own peer d1 d2 : Ad) : ∃ W, W = (((w.alloc (.cells own.cs 27 (0, 0))).alloc (.cells peer.cs 27 (0, 0))).alloc (.cells d1.cs 27 (0, 0))).alloc (.cells d2.cs 27 (0, 0)) /\ Boxes w W own peer d1 d2 := by
 have e1 := alloc1 w (.cells own.cs 27 (0, 0)); have e2 := alloc1 (w.alloc (.cells own.cs 27 (0, 0))) (.cells peer.cs 27 (0, 0)); have e3 := alloc1 ((w.alloc (.cells own.cs 27 (0, 0))).alloc (.cells peer.cs 27 (0, 0))) (.cells d1.cs 27 (0, 0)); have e4 := alloc1 (((w.alloc (.cells own.cs 27 (0, 0))).alloc (.cells peer.cs 27 (0, 0))).alloc (.cells d1.cs 27 (0, 0))) (.cells d2.cs 27 (0, 0)); refine ⟨_, rfl, by omega, ?_, ?_, ?_, ?_, ((((Below.refl _ _).alloc (Nat.le_refl _) _).alloc (by omega) _).alloc (by omega) _).alloc (by omega) _⟩
 . rw [Below.heap_alloc _ _ _ (by omega), Below.heap_alloc _ _ _ (by omega), Below.heap_alloc _ _ _ (by omega)]; exact at1 _ _
 . rw [Below.heap_alloc _ _ _ (by omega), Below.heap_alloc _ _ _ (by omega), <- e1]; exact at1 _ _
 . rw [Below.heap_alloc _ _ _ (by omega), show w.heap.size + 1 + 1 = ((w.alloc (.cells own.cs 27 (0, 0))).alloc (.cells peer.cs 27 (0, 0))).heap.size by omega]; exact at1 _ _
 . rw [show w.heap.size + 1 + 1 + 1 = (((w.alloc (.cells own.cs 27 (0, 0))).alloc (.cells peer.cs 27 (0, 0))).alloc (.cells d1.cs 27 (0, 0))).heap.size by omega]; exact at1 _ _
theorem srv_fin {W Wc : World} {sb ob rb : Nat} {t3 vp : Int} {s1 s2 : ByteArray} (bl : Below W.heap.size W Wc) (h12 : W.heap.size <= sb /\ Wc.heap[sb]? = some (.cells #[.slice none 0 0, .slice none 0 0, .slice none 0 0, .slice none 0 0, .int .i64 0, .int .i64 0, .int .i64 0, .int .i64 0] 325 (0, 0)))
 (h3 : W.heap.size <= ob /\ Wc.heap[ob]? = some (.cells #[.int .i64 t3, .string s1] 341 (0, 0))) (h6 : W.heap.size <= rb /\ Wc.heap[rb]? = some (.cells #[.int .i64 3, .int .i64 4, .int .i64 vp, .int .i64 vp, .string s2] 385 (0, 0))) (cf tm fl wt : Int) :
 Below W.heap.size W ((((((((Wc.setCell ⟨sb, 0, none⟩ (.slice (some ⟨ob, 0, none⟩) 1 1)).setCell ⟨sb, 1, none⟩ (.slice none 0 0)).setCell ⟨sb, 2, none⟩ (.slice (some ⟨rb, 0, none⟩) 1 1)).setCell ⟨sb, 3, none⟩ (.slice none 0 0)).setCell ⟨sb, 4, none⟩ (.int .i64 cf)).setCell ⟨sb, 5, none⟩ (.int .i64 tm)).setCell ⟨sb, 6, none⟩ (.int .i64 fl)).setCell ⟨sb, 7, none⟩ (.int .i64 wt)) /\
 (W.heap.size <= sb /\ ((((((((Wc.setCell ⟨sb, 0, none⟩ (.slice (some ⟨ob, 0, none⟩) 1 1)).setCell ⟨sb, 1, none⟩ (.slice none 0 0)).setCell ⟨sb, 2, none⟩ (.slice (some ⟨rb, 0, none⟩) 1 1)).setCell ⟨sb, 3, none⟩ (.slice none 0 0)).setCell ⟨sb, 4, none⟩ (.int .i64 cf)).setCell ⟨sb, 5, none⟩ (.int .i64 tm)).setCell ⟨sb, 6, none⟩ (.int .i64 fl)).setCell ⟨sb, 7, none⟩ (.int .i64 wt)).heap[sb]? = some (.cells #[.slice (some ⟨ob, 0, none⟩) 1 1, .slice none 0 0, .slice (some ⟨rb, 0, none⟩) 1 1, .slice none 0 0, .int .i64 cf, .int .i64 tm, .int .i64 fl, .int .i64 wt] 325 (0, 0))) /\
 (W.heap.size <= ob /\ ((((((((Wc.setCell ⟨sb, 0, none⟩ (.slice (some ⟨ob, 0, none⟩) 1 1)).setCell ⟨sb, 1, none⟩ (.slice none 0 0)).setCell ⟨sb, 2, none⟩ (.slice (some ⟨rb, 0, none⟩) 1 1)).setCell ⟨sb, 3, none⟩ (.slice none 0 0)).setCell ⟨sb, 4, none⟩ (.int .i64 cf)).setCell ⟨sb, 5, none⟩ (.int .i64 tm)).setCell ⟨sb, 6, none⟩ (.int .i64 fl)).setCell ⟨sb, 7, none⟩ (.int .i64 wt)).heap[ob]? = some (.cells #[.int .i64 t3, .string s1] 341 (0, 0))) /\
 (W.heap.size <= rb /\ ((((((((Wc.setCell ⟨sb, 0, none⟩ (.slice (some ⟨ob, 0, none⟩) 1 1)).setCell ⟨sb, 1, none⟩ (.slice none 0 0)).setCell ⟨sb, 2, none⟩ (.slice (some ⟨rb, 0, none⟩) 1 1)).setCell ⟨sb, 3, none⟩ (.slice none 0 0)).setCell ⟨sb, 4, none⟩ (.int .i64 cf)).setCell ⟨sb, 5, none⟩ (.int .i64 tm)).setCell ⟨sb, 6, none⟩ (.int .i64 fl)).setCell ⟨sb, 7, none⟩ (.int .i64 wt)).heap[rb]? = some (.cells #[.int .i64 3, .int .i64 4, .int .i64 vp, .int .i64 vp, .string s2] 385 (0, 0))) := by
 have kk := keep8 Wc sb (.slice (some ⟨ob, 0, none⟩) 1 1) (.slice none 0 0) (.slice (some ⟨rb, 0, none⟩) 1 1) (.slice none 0 0) (.int .i64 cf) (.int .i64 tm) (.int .i64 fl) (.int .i64 wt)
 have ne1 : ob ≠ sb := by
  rintro rfl; have := h3.2.symm.trans h12.2; simp at this
 have ne2 : rb ≠ sb := by
  rintro rfl; have := h6.2.symm.trans h12.2; simp at this
 have l1 := (Array.getElem?_eq_some_iff.1 h3.2).1; have l2 := (Array.getElem?_eq_some_iff.1 h6.2).1; have hs := bl.size; have h1 := h12.1; exact ⟨bl.trans (kk.below hs (fun k hk he => by omega)), ⟨h12.1, set8 h12.2 _ _ _ _ _ _ _ _⟩, ⟨h3.1, (kk.block ob l1 ne1).trans h3.2⟩, ⟨h6.1, (kk.block rb l2 ne2).trans h6.2⟩⟩
def srvR (peer d1 d2 : Ad) : List Rl := [justR 3 peer] ++ (if adE d1 Ad.z then [] else [justR 129 d1]) ++ (if adE d2 Ad.z then [] else [justR 131 d2])
theorem just_fits (k : Int) (x : Ad) : wrongR (justR k x) = false := by
 unfold wrongR justR fitsR; have h1 : x.s.size = 4 := rfl; have h2 : x.s.data.toList.take 7 = [x.a, x.b, x.c, x.d] := rfl; simp [h1, h2]
theorem srvR_ok (peer d1 d2 : Ad) : (srvR peer d1 d2).length <= 3 /\ (∀ r ∈ srvR peer d1 d2, r.s.size <= 100000) /\ (srvR peer d1 d2).any wrongR = false := by
 have h : ∀ r ∈ srvR peer d1 d2, ∃ k x, r = justR k x := by
  intro r hr; unfold srvR at hr; simp only [List.mem_append, List.mem_singleton] at hr
  rcases hr with (rfl | hr) | hr
  . exact ⟨_, _, rfl⟩
  . split at hr
    . cases hr
    . simp only [List.mem_singleton] at hr; exact ⟨_, _, hr⟩
  . split at hr
    . cases hr
    . simp only [List.mem_singleton] at hr; exact ⟨_, _, hr⟩
 refine ⟨?_, fun r hr => ?_, ?_⟩
 . unfold srvR; split <;> split <;> simp
 . obtain ⟨k, x, rfl⟩ := h r hr
   show 4 <= 100000; decide
 . rw [List.any_eq_false]; intro r hr; obtain ⟨k, x, rfl⟩ := h r hr; simp [just_fits]
def SrvQ (w W : World) (own peer d1 d2 : Ad) (cf tm fl wt vp : Int) (a' : Act) (w' : World) : Prop := ∃ sb ob rb, Below W.heap.size W w' /\ (W.heap.size <= sb /\ w'.heap[sb]? = some (.cells #[.slice (some ⟨ob, 0, none⟩) 1 1, .slice none 0 0, .slice (some ⟨rb, 0, none⟩) 1 1, .slice none 0 0, .int .i64 cf, .int .i64 tm, .int .i64 fl, .int .i64 wt] 325 (0, 0))) /\ (W.heap.size <= ob /\ w'.heap[ob]? = some (.cells #[.int .i64 3, .string own.s] 341 (0, 0))) /\ (W.heap.size <= rb /\ w'.heap[rb]? = some (.cells #[.int .i64 3, .int .i64 4, .int .i64 vp, .int .i64 vp, .string peer.s] 385 (0, 0))) /\ a' = ⟨#[.agg #[.int .u8 (own.a.toNat : Int), .int .u8 (own.b.toNat : Int), .int .u8 (own.c.toNat : Int), .int .u8 (own.d.toNat : Int)], .agg #[.int .u8 (peer.a.toNat : Int), .int .u8 (peer.b.toNat : Int), .int .u8 (peer.c.toNat : Int), .int .u8 (peer.d.toNat : Int)], .agg #[.int .u8 (d1.a.toNat : Int), .int .u8 (d1.b.toNat : Int), .int .u8 (d1.c.toNat : Int), .int .u8 (d1.d.toNat : Int)], .agg #[.int .u8 (d2.a.toNat : Int), .int .u8 (d2.b.toNat : Int), .int .u8 (d2.c.toNat : Int), .int .u8 (d2.d.toNat : Int)], .int .i64 cf, .int .i64 tm, .int .i64 fl, .int .i64 wt, .pointer (some ⟨w.heap.size, 0, none⟩), .pointer (some ⟨w.heap.size + 1, 0, none⟩), .pointer (some ⟨w.heap.size + 1 + 1, 0, none⟩), .pointer (some ⟨w.heap.size + 1 + 1 + 1, 0, none⟩), undef, undef, undef, undef, .pointer none, .int .i64 0, .pointer (some ⟨sb, 0, none⟩), .slice (some ⟨w.heap.size, 0, none⟩) 4 4, .string own.s, .agg #[.int .i64 3, .string own.s], .slice (some ⟨ob, 0, none⟩) 1 1, .agg #[.int .u8 (peer.a.toNat : Int), .int .u8 (peer.b.toNat : Int), .int .u8 (peer.c.toNat : Int), .int .u8 (peer.d.toNat : Int)], .agg #[.int .i64 3, .int .i64 4, .int .i64 vp, .int .i64 vp, .string peer.s], .slice (some ⟨rb, 0, none⟩) 1 1, .int .i64 cf, .int .i64 tm, .int .i64 fl, .int .i64 wt, .agg #[.slice (some ⟨ob, 0, none⟩) 1 1, .slice none 0 0, .slice (some ⟨rb, 0, none⟩) 1 1, .slice none 0 0, .int .i64 cf, .int .i64 tm, .int .i64 fl, .int .i64 wt], undef, undef, undef, undef, undef, undef, undef, undef, undef, undef, undef, undef, undef, undef, undef, undef, undef, undef, undef, undef, undef, undef, undef, undef], []⟩
theorem RRow.nil0 {w : World} {B n c : Nat} {l : List Rl} (h : RRow w B (.slice none n c) l) : c = 0 := by
 obtain ⟨_, h | ⟨g, cap, cur, h, _⟩⟩ := h
 . have := h.1; simp at this; exact this.2
 . cases h
structure SrvI (w wr : World) (d1 d2 : Ad) (sb : Nat) (ov pv : Value) (al : List Opt) (rs : List Rl) (cf tm fl wt : Int) : Prop where
 bl : Below w.heap.size w wr
 x2 : wr.heap[w.heap.size + 1 + 1]? = some (.cells d1.cs 27 (0, 0))
 x3 : wr.heap[w.heap.size + 1 + 1 + 1]? = some (.cells d2.cs 27 (0, 0))
 sbk : wr.heap[sb]? = some (.cells #[ov, .slice none 0 0, pv, .slice none 0 0, .int .i64 cf, .int .i64 tm, .int .i64 fl, .int .i64 wt] 325 (0, 0))
 hsb : w.heap.size + 1 + 1 + 1 + 1 <= sb
 orow : ORow wr w.heap.size ov al
 rrow : RRow wr (w.heap.size + 1 + 1 + 1 + 1) pv rs
 ne1 : ∀ k, pv.ownBlock = some k -> k ≠ sb
 ne2 : ∀ k, ov.ownBlock = some k -> k ≠ sb
 ne3 : ∀ k, ov.ownBlock = some k -> pv.ownBlock ≠ some k
theorem SrvI.go {w wr w' : World} {d1 d2 : Ad} {sb : Nat} {ov pv : Value} {al : List Opt} {rs : List Rl} {cf tm fl wt : Int} (h : SrvI w wr d1 d2 sb ov pv al rs cf tm fl wt) (hb : Below wr.heap.size wr w') : SrvI w w' d1 d2 sb ov pv al rs cf tm fl wt := by
 have l := fun {k : Nat} {o : Obj} (e : wr.heap[k]? = some o) => (Array.getElem?_eq_some_iff.1 e).1; exact { h with bl := h.bl.trans (hb.mono h.bl.size), x2 := (hb.block _ (l h.x2)).trans h.x2, x3 := (hb.block _ (l h.x3)).trans h.x3, sbk := (hb.block _ (l h.sbk)).trans h.sbk, orow := h.orow.below hb, rrow := h.rrow.below hb }
theorem SrvI.app {w wr w' : World} {d1 d2 : Ad} {sb : Nat} {ov pv pv' : Value} {al : List Opt} {rs rs' : List Rl} {cf tm fl wt : Int} (h : SrvI w wr d1 d2 sb ov pv al rs cf tm fl wt) (hk : Keep (fun k => pv.ownBlock = some k) wr w')
 (hr : RRow w' (w.heap.size + 1 + 1 + 1 + 1) pv' rs') (ho : pv'.ownBlock = pv.ownBlock \/ pv'.ownBlock = some wr.heap.size) : SrvI w (w'.setCell ⟨sb, 2, none⟩ pv') d1 d2 sb ov pv' al rs' cf tm fl wt := by
 have l := fun {k : Nat} {o : Obj} (e : wr.heap[k]? = some o) => (Array.getElem?_eq_some_iff.1 e).1; have l2 := l h.x2; have l3 := l h.x3; have l4 := l h.sbk; have hsb := h.hsb; have hs := hk.size; have hk2 : Keep (fun b => b = sb) w' (w'.setCell ⟨sb, 2, none⟩ pv') := (Keep.refl (fun b => b = sb) w').setCell ⟨sb, 2, none⟩ (Or.inr rfl) pv'; have hn : ∀ k, k < w.heap.size + 1 + 1 + 1 + 1 -> ¬ pv.ownBlock = some k := fun k hk he => by have := (h.rrow.lt k he).2; omega
 have y2 := (hk.block _ l2 (hn _ (by omega))).trans h.x2; have y3 := (hk.block _ l3 (hn _ (by omega))).trans h.x3; have y4 := (hk.block sb l4 (fun he => h.ne1 sb he rfl)).trans h.sbk
 have hn' : ∀ k, pv'.ownBlock = some k -> k ≠ sb := fun k hk' e => by
  rcases ho with ho | ho
  . exact h.ne1 k (by rw [<- ho]; exact hk') e
  . rw [ho] at hk'; cases hk'; omega
 refine { h with bl := h.bl.trans ((hk.below h.bl.size (fun k hk he => hn k (by omega) he)).trans (hk2.below (by have := h.bl.size; omega) (fun k hk he => by omega))), x2 := (hk2.block _ (by omega) (by omega)).trans y2, x3 := (hk2.block _ (by omega) (by omega)).trans y3, sbk := ?_, orow := ?_, rrow := hr.keep hk2 (fun k hk he => hn' k hk he), ne1 := hn', ne3 := ?_ }
 . have := set_block y4 2 pv'
   simpa using this
 . exact (h.orow.keep hk (fun k hk => h.ne3 k hk)).keep hk2 (fun k hk he => h.ne2 k hk he)
 . intro k hk1 hk2'
   rcases ho with ho | ho
   . exact h.ne3 k hk1 (by rw [<- ho]; exact hk2')
   . rw [ho] at hk2'; cases hk2'; exact absurd (h.orow.lt _ hk1).1 (Nat.lt_irrefl _)
theorem SrvQ.inv {w W : World} {own peer d1 d2 : Ad} {sb ob rb : Nat} {cf tm fl wt vp : Int} {w' : World} (HB : Boxes w W own peer d1 d2) (hz : Below W.heap.size W w') (hs : W.heap.size <= sb /\ w'.heap[sb]? = some (.cells #[.slice (some ⟨ob, 0, none⟩) 1 1, .slice none 0 0, .slice (some ⟨rb, 0, none⟩) 1 1, .slice none 0 0, .int .i64 cf, .int .i64 tm, .int .i64 fl, .int .i64 wt] 325 (0, 0)))
 (ho : W.heap.size <= ob /\ w'.heap[ob]? = some (.cells #[.int .i64 3, .string own.s] 341 (0, 0))) (hr : W.heap.size <= rb /\ w'.heap[rb]? = some (.cells #[.int .i64 3, .int .i64 4, .int .i64 vp, .int .i64 vp, .string peer.s] 385 (0, 0))) :
 SrvI w w' d1 d2 sb (.slice (some ⟨ob, 0, none⟩) 1 1) (.slice (some ⟨rb, 0, none⟩) 1 1) [⟨3, own.s⟩] [⟨3, 4, vp, vp, peer.s⟩] cf tm fl wt := by
 have z := HB.size; have n1 : ob ≠ sb := by rintro rfl; have := ho.2.symm.trans hs.2; simp at this
 have n2 : rb ≠ sb := by rintro rfl; have := hr.2.symm.trans hs.2; simp at this
 have n3 : ob ≠ rb := by rintro rfl; have := ho.2.symm.trans hr.2; simp at this
 refine ⟨HB.bl.trans (hz.mono HB.bl.size), (hz.block _ (by omega)).trans HB.x2, (hz.block _ (by omega)).trans HB.x3, hs.2, by omega, ORow.one ⟨3, own.s⟩ ho.2 (by omega), RRow.one ⟨3, 4, vp, vp, peer.s⟩ hr.2 (by omega), ?_, ?_, ?_⟩
 . intro k hk; cases hk; exact n2
 . intro k hk; cases hk; exact n1
 . intro k hk hk'; cases hk; cases hk'; exact n3 rfl
set_option maxRecDepth 100000 in
theorem server_any (own peer d1 d2 : Ad) (cf tm fl wt : Int) (w : World) (hcf : 1 <= cf /\ cf <= 20) (htm : 1 <= tm /\ tm <= 20) (hfl : 0 <= fl /\ fl <= 20) (hwt : 1 <= wt /\ wt <= 100) :
 Calls Tryz.prog 201 #[own.v, peer.v, d1.v, d2.v, .int .i64 cf, .int .i64 tm, .int .i64 fl, .int .i64 wt] w fun e w' => ∃ v, e = .returned v /\ NewAt w w' v [⟨3, own.s⟩] [] (srvR peer d1 d2) [] cf tm fl wt := by
 obtain ⟨W, hW, hbx⟩ := boxes_at w own peer d1 d2; have HB := H_ hbx; unfold Ad.v; unfold Ad.cs at hW; have HJ := H_ (fun w => just_any 3 peer w); unfold Ad.v at HJ; obtain ⟨vp, hvp⟩ : ∃ vp, vp = valB [peer.a, peer.b, peer.c, peer.d] := ⟨_, rfl⟩; rw [<- hvp] at HJ; have HJ1 := H_ (fun w => just_any 129 d1 w); have HJ2 := H_ (fun w => just_any 131 d2 w); unfold Ad.v at HJ1 HJ2; obtain ⟨vp1, hvp1⟩ : ∃ vp, vp = valB [d1.a, d1.b, d1.c, d1.d] := ⟨_, rfl⟩; rw [<- hvp1] at HJ1; obtain ⟨vp2, hvp2⟩ : ∃ vp, vp = valB [d2.a, d2.b, d2.c, d2.d] := ⟨_, rfl⟩; rw [<- hvp2] at HJ2; have n1 := adNeq d1 Ad.z; have n2 := adNeq d2 Ad.z; rw [<- adz] at n1 n2; unfold Ad.v at n1 n2; have HR : Hid (srvR peer d1 d2 = [⟨3, 4, vp, vp, peer.s⟩] ++ (if adE d1 Ad.z then [] else [⟨129, 4, vp1, vp1, d1.s⟩]) ++ (if adE d2 Ad.z then [] else [⟨131, 4, vp2, vp2, d2.s⟩])) := H_ (by rw [hvp, hvp1, hvp2]; rfl); have HW := H_ (srvR_ok peer d1 d2); have HA := H_ (A_ hcf (A_ htm (A_ hfl hwt))); generalize srvR peer d1 d2 = RS at HR HW ⊢; generalize adE d1 Ad.z = y1 at n1 HR; generalize adE d2 Ad.z = y2 at n2 HR
 have HS : Hid (∀ X l, Lay W X l -> (convert 128 9 (.slice (some ⟨w.heap.size, 0, none⟩) 4 4)).run Tryz.prog X = .ok (.string own.s) X /\ X.cell? ⟨w.heap.size + 1, 0, none⟩ = some (.int .u8 (peer.a.toNat : Int)) /\ X.cell? ⟨w.heap.size + 1, 1, none⟩ = some (.int .u8 (peer.b.toNat : Int)) /\ X.cell? ⟨w.heap.size + 1, 2, none⟩ = some (.int .u8 (peer.c.toNat : Int)) /\ X.cell? ⟨w.heap.size + 1, 3, none⟩ = some (.int .u8 (peer.d.toNat : Int))) := H_ (by
  intro X l hX; have y0 := (hX.bl.block w.heap.size (by have := HB.out.size; omega)).trans HB.out.x0; have y1 := (hX.bl.block (w.heap.size + 1) (by have := HB.out.size; omega)).trans HB.out.x1
  exact ⟨conv_ad own _ X y0, cellOf y1 0 _ rfl, cellOf y1 1 _ rfl, cellOf y1 2 _ rfl, cellOf y1 3 _ rfl⟩)
 clear hbx hvp hvp1 hvp2 hcf htm hfl hwt; go_enter Tryz.func201, Tryz.ntmps201; go_wp2_with fail; rw [<- hW]; clear hW; refine code_post (Q := fun e a' w' => match e with | .normal => SrvQ w W own peer d1 d2 cf tm fl wt vp a' w' | _ => False) ?_ ?_; refine wp_region_N 13 (fun X : World => (convert 128 9 (.slice (some ⟨w.heap.size, 0, none⟩) 4 4)).run Tryz.prog X = .ok (.string own.s) X /\ X.cell? ⟨w.heap.size + 1, 0, none⟩ = some (.int .u8 (peer.a.toNat : Int)) /\ X.cell? ⟨w.heap.size + 1, 1, none⟩ = some (.int .u8 (peer.b.toNat : Int)) /\ X.cell? ⟨w.heap.size + 1, 2, none⟩ = some (.int .u8 (peer.c.toNat : Int)) /\ X.cell? ⟨w.heap.size + 1, 3, none⟩ = some (.int .u8 (peer.d.toNat : Int))) (by kernel_rfl) ?_; have HL : Hid (Lay W W.drew []) := H_ ⟨(Below.refl _ _).drew, fun p hp => by cases hp⟩; have HSv := HS.out _ _ HL.out; generalize W.drew = V0 at HL HSv ⊢; refine hatN 0 rfl (by rintro W ⟨h0, h1, h2, h3, h4⟩; go_simp; try rfl) HSv ?_; simp only [aZ, aC, aD]; refine hatN 1 rfl (by rintro W ⟨h0, h1, h2, h3, h4⟩; go_simp; try rfl) HSv ?_; simp only [aZ, aC, aD]; refine hatN 2 rfl (by rintro W ⟨h0, h1, h2, h3, h4⟩; go_simp; try rfl) HSv ?_; simp only [aZ, aC, aD]; refine hatN 4 rfl (by rintro W ⟨h0, h1, h2, h3, h4⟩; go_simp; try rfl) HSv ?_; simp only [aZ, aC, aD]; refine hatN 7 rfl (by rintro W ⟨h0, h1, h2, h3, h4⟩; go_simp; try rfl) HSv ?_; simp only [aZ, aC, aD]; refine hatN 8 rfl (by rintro W ⟨h0, h1, h2, h3, h4⟩; go_simp; try rfl) HSv ?_; simp only [aZ, aC, aD]; refine hatN 9 rfl (by rintro W ⟨h0, h1, h2, h3, h4⟩; go_simp; try rfl) HSv ?_; simp only [aZ, aC, aD]; refine hatN 10 rfl (by rintro W ⟨h0, h1, h2, h3, h4⟩; go_simp; try rfl) HSv ?_; simp only [aZ, aC, aD]; refine wpAnyN_3 3 5 12 rfl rfl rfl (by kernel_rfl) ?_ ?_ ?_
 . intro K hK; rw [if_pos (by rfl)]
   try go_simp
   have HL := H_ (HL.out.alloc (.cells #[.int .i64 3, .string own.s] 341 (0, 0))); generalize V0.alloc (.cells #[.int .i64 3, .string own.s] 341 (0, 0)) = V1 at HL ⊢; generalize V0.heap.size = b3 at HL ⊢; have HSv := HS.out _ _ HL.out; refine hK _ _ (fun _ => HSv) ?_
   try simp only [aZ, aA, aE, aB, aC, aD]
   refine wpAnyN_2 5 12 rfl rfl (by kernel_rfl) ?_ ?_
   . intro K hK; rw [if_pos (by rfl)]
     try go_simp
     go_at_call 304; refine (HJ.out _).mono ?_; rintro e V2 ⟨rfl, hb⟩; have HL := H_ (HL.out.go hb); clear hb; have HSv := HS.out _ _ HL.out; refine hK _ _ (fun _ => HSv) ?_
     try simp only [aZ, aA, aE, aB, aC, aD]
     refine wpAnyN_2 6 12 rfl rfl (by kernel_rfl) ?_ ?_
     . intro K hK; rw [if_pos (by rfl)]
       try go_simp
       have HL := H_ (HL.out.alloc (.cells #[.int .i64 3, .int .i64 4, .int .i64 vp, .int .i64 vp, .string peer.s] 385 (0, 0))); generalize V2.alloc (.cells #[.int .i64 3, .int .i64 4, .int .i64 vp, .int .i64 vp, .string peer.s] 385 (0, 0)) = V3 at HL ⊢; generalize V2.heap.size = b6 at HL ⊢; have HSv := HS.out _ _ HL.out; refine hK _ _ (fun _ => HSv) ?_
       try simp only [aZ, aA, aE, aB, aC, aD]
       refine hatN 11 rfl (by rintro W ⟨h0, h1, h2, h3, h4⟩; go_simp; try rfl) HSv ?_; simp only [aZ, aC, aD]; refine wpAnyN_1 12 rfl (by kernel_rfl) ?_
       . intro K hK; rw [if_pos (by rfl)]
         try go_simp
         have HL := H_ (HL.out.alloc (.cells #[.slice none 0 0, .slice none 0 0, .slice none 0 0, .slice none 0 0, .int .i64 0, .int .i64 0, .int .i64 0, .int .i64 0] 325 (0, 0))); generalize V3.alloc (.cells #[.slice none 0 0, .slice none 0 0, .slice none 0 0, .slice none 0 0, .int .i64 0, .int .i64 0, .int .i64 0, .int .i64 0] 325 (0, 0)) = V4 at HL ⊢; generalize V3.heap.size = b12 at HL ⊢; have HSv := HS.out _ _ HL.out; refine hK _ _ (fun _ => HSv) ?_
         try simp only [aZ, aA, aE, aB, aC, aD]
         refine wpAnyN_end 13 (by decide) rfl (by kernel_rfl) ?_; simp only [List.drop_succ_cons, List.drop_zero]; have y12 := (HL.out.get (b12, (.cells #[.slice none 0 0, .slice none 0 0, .slice none 0 0, .slice none 0 0, .int .i64 0, .int .i64 0, .int .i64 0, .int .i64 0] 325 (0, 0))) (by simp only [List.mem_cons, true_or, or_true])).2; have z := fun o => fzOf y12 o; have c0 := cellOf y12 0 _ rfl; have c1 := cellOf y12 1 _ rfl; have c2 := cellOf y12 2 _ rfl; have c3 := cellOf y12 3 _ rfl; have c4 := cellOf y12 4 _ rfl; have c5 := cellOf y12 5 _ rfl; have c6 := cellOf y12 6 _ rfl; have c7 := cellOf y12 7 _ rfl; go_wp2_with fail; have hf := srv_fin HL.out.bl (HL.out.get (b12, (.cells #[.slice none 0 0, .slice none 0 0, .slice none 0 0, .slice none 0 0, .int .i64 0, .int .i64 0, .int .i64 0, .int .i64 0] 325 (0, 0))) (by simp only [List.mem_cons, true_or, or_true])) (HL.out.get (b3, (.cells #[.int .i64 3, .string own.s] 341 (0, 0))) (by simp only [List.mem_cons, true_or, or_true])) (HL.out.get (b6, (.cells #[.int .i64 3, .int .i64 4, .int .i64 vp, .int .i64 vp, .string peer.s] 385 (0, 0))) (by simp only [List.mem_cons, true_or, or_true])) cf tm fl wt
         show SrvQ _ _ _ _ _ _ _ _ _ _ _ _ _
         unfold SrvQ; exact ⟨b12, b3, b6, hf.1, hf.2.1, hf.2.2.1, hf.2.2.2, rfl⟩
     . intro K hK; rw [if_pos (by rfl)]
       try go_simp
       have HL := H_ (HL.out.alloc (.cells #[.slice none 0 0, .slice none 0 0, .slice none 0 0, .slice none 0 0, .int .i64 0, .int .i64 0, .int .i64 0, .int .i64 0] 325 (0, 0))); generalize V2.alloc (.cells #[.slice none 0 0, .slice none 0 0, .slice none 0 0, .slice none 0 0, .int .i64 0, .int .i64 0, .int .i64 0, .int .i64 0] 325 (0, 0)) = V5 at HL ⊢; generalize V2.heap.size = b12 at HL ⊢; have HSv := HS.out _ _ HL.out; refine hK _ _ (fun _ => HSv) ?_
       try simp only [aZ, aA, aE, aB, aC, aD]
       refine wpAnyN_1 6 rfl (by kernel_rfl) ?_
       . intro K hK; rw [if_pos (by rfl)]
         try go_simp
         have HL := H_ (HL.out.alloc (.cells #[.int .i64 3, .int .i64 4, .int .i64 vp, .int .i64 vp, .string peer.s] 385 (0, 0))); generalize V5.alloc (.cells #[.int .i64 3, .int .i64 4, .int .i64 vp, .int .i64 vp, .string peer.s] 385 (0, 0)) = V6 at HL ⊢; generalize V5.heap.size = b6 at HL ⊢; have HSv := HS.out _ _ HL.out; refine hK _ _ (fun _ => HSv) ?_
         try simp only [aZ, aA, aE, aB, aC, aD]
         refine hatN 11 rfl (by rintro W ⟨h0, h1, h2, h3, h4⟩; go_simp; try rfl) HSv ?_; simp only [aZ, aC, aD]; refine wpAnyN_end 13 (by decide) rfl (by kernel_rfl) ?_; simp only [List.drop_succ_cons, List.drop_zero]; have y12 := (HL.out.get (b12, (.cells #[.slice none 0 0, .slice none 0 0, .slice none 0 0, .slice none 0 0, .int .i64 0, .int .i64 0, .int .i64 0, .int .i64 0] 325 (0, 0))) (by simp only [List.mem_cons, true_or, or_true])).2; have z := fun o => fzOf y12 o; have c0 := cellOf y12 0 _ rfl; have c1 := cellOf y12 1 _ rfl; have c2 := cellOf y12 2 _ rfl; have c3 := cellOf y12 3 _ rfl; have c4 := cellOf y12 4 _ rfl; have c5 := cellOf y12 5 _ rfl; have c6 := cellOf y12 6 _ rfl; have c7 := cellOf y12 7 _ rfl; go_wp2_with fail; have hf := srv_fin HL.out.bl (HL.out.get (b12, (.cells #[.slice none 0 0, .slice none 0 0, .slice none 0 0, .slice none 0 0, .int .i64 0, .int .i64 0, .int .i64 0, .int .i64 0] 325 (0, 0))) (by simp only [List.mem_cons, true_or, or_true])) (HL.out.get (b3, (.cells #[.int .i64 3, .string own.s] 341 (0, 0))) (by simp only [List.mem_cons, true_or, or_true])) (HL.out.get (b6, (.cells #[.int .i64 3, .int .i64 4, .int .i64 vp, .int .i64 vp, .string peer.s] 385 (0, 0))) (by simp only [List.mem_cons, true_or, or_true])) cf tm fl wt
         show SrvQ _ _ _ _ _ _ _ _ _ _ _ _ _
         unfold SrvQ; exact ⟨b12, b3, b6, hf.1, hf.2.1, hf.2.2.1, hf.2.2.2, rfl⟩
   . intro K hK; rw [if_pos (by rfl)]
     try go_simp
     have HL := H_ (HL.out.alloc (.cells #[.slice none 0 0, .slice none 0 0, .slice none 0 0, .slice none 0 0, .int .i64 0, .int .i64 0, .int .i64 0, .int .i64 0] 325 (0, 0))); generalize V1.alloc (.cells #[.slice none 0 0, .slice none 0 0, .slice none 0 0, .slice none 0 0, .int .i64 0, .int .i64 0, .int .i64 0, .int .i64 0] 325 (0, 0)) = V7 at HL ⊢; generalize V1.heap.size = b12 at HL ⊢; have HSv := HS.out _ _ HL.out; refine hK _ _ (fun _ => HSv) ?_
     try simp only [aZ, aA, aE, aB, aC, aD]
     refine wpAnyN_1 5 rfl (by kernel_rfl) ?_
     . intro K hK; rw [if_pos (by rfl)]
       try go_simp
       go_at_call 304; refine (HJ.out _).mono ?_; rintro e V8 ⟨rfl, hb⟩; have HL := H_ (HL.out.go hb); clear hb; have HSv := HS.out _ _ HL.out; refine hK _ _ (fun _ => HSv) ?_
       try simp only [aZ, aA, aE, aB, aC, aD]
       refine wpAnyN_1 6 rfl (by kernel_rfl) ?_
       . intro K hK; rw [if_pos (by rfl)]
         try go_simp
         have HL := H_ (HL.out.alloc (.cells #[.int .i64 3, .int .i64 4, .int .i64 vp, .int .i64 vp, .string peer.s] 385 (0, 0))); generalize V8.alloc (.cells #[.int .i64 3, .int .i64 4, .int .i64 vp, .int .i64 vp, .string peer.s] 385 (0, 0)) = V9 at HL ⊢; generalize V8.heap.size = b6 at HL ⊢; have HSv := HS.out _ _ HL.out; refine hK _ _ (fun _ => HSv) ?_
         try simp only [aZ, aA, aE, aB, aC, aD]
         refine hatN 11 rfl (by rintro W ⟨h0, h1, h2, h3, h4⟩; go_simp; try rfl) HSv ?_; simp only [aZ, aC, aD]; refine wpAnyN_end 13 (by decide) rfl (by kernel_rfl) ?_; simp only [List.drop_succ_cons, List.drop_zero]; have y12 := (HL.out.get (b12, (.cells #[.slice none 0 0, .slice none 0 0, .slice none 0 0, .slice none 0 0, .int .i64 0, .int .i64 0, .int .i64 0, .int .i64 0] 325 (0, 0))) (by simp only [List.mem_cons, true_or, or_true])).2; have z := fun o => fzOf y12 o; have c0 := cellOf y12 0 _ rfl; have c1 := cellOf y12 1 _ rfl; have c2 := cellOf y12 2 _ rfl; have c3 := cellOf y12 3 _ rfl; have c4 := cellOf y12 4 _ rfl; have c5 := cellOf y12 5 _ rfl; have c6 := cellOf y12 6 _ rfl; have c7 := cellOf y12 7 _ rfl; go_wp2_with fail; have hf := srv_fin HL.out.bl (HL.out.get (b12, (.cells #[.slice none 0 0, .slice none 0 0, .slice none 0 0, .slice none 0 0, .int .i64 0, .int .i64 0, .int .i64 0, .int .i64 0] 325 (0, 0))) (by simp only [List.mem_cons, true_or, or_true])) (HL.out.get (b3, (.cells #[.int .i64 3, .string own.s] 341 (0, 0))) (by simp only [List.mem_cons, true_or, or_true])) (HL.out.get (b6, (.cells #[.int .i64 3, .int .i64 4, .int .i64 vp, .int .i64 vp, .string peer.s] 385 (0, 0))) (by simp only [List.mem_cons, true_or, or_true])) cf tm fl wt
         show SrvQ _ _ _ _ _ _ _ _ _ _ _ _ _
         unfold SrvQ; exact ⟨b12, b3, b6, hf.1, hf.2.1, hf.2.2.1, hf.2.2.2, rfl⟩
 . intro K hK; rw [if_pos (by rfl)]
   try go_simp
   go_at_call 304; refine (HJ.out _).mono ?_; rintro e V10 ⟨rfl, hb⟩; have HL := H_ (HL.out.go hb); clear hb; have HSv := HS.out _ _ HL.out; refine hK _ _ (fun _ => HSv) ?_
   try simp only [aZ, aA, aE, aB, aC, aD]
   refine wpAnyN_3 3 6 12 rfl rfl rfl (by kernel_rfl) ?_ ?_ ?_
   . intro K hK; rw [if_pos (by rfl)]
     try go_simp
     have HL := H_ (HL.out.alloc (.cells #[.int .i64 3, .string own.s] 341 (0, 0))); generalize V10.alloc (.cells #[.int .i64 3, .string own.s] 341 (0, 0)) = V11 at HL ⊢; generalize V10.heap.size = b3 at HL ⊢; have HSv := HS.out _ _ HL.out; refine hK _ _ (fun _ => HSv) ?_
     try simp only [aZ, aA, aE, aB, aC, aD]
     refine wpAnyN_2 6 12 rfl rfl (by kernel_rfl) ?_ ?_
     . intro K hK; rw [if_pos (by rfl)]
       try go_simp
       have HL := H_ (HL.out.alloc (.cells #[.int .i64 3, .int .i64 4, .int .i64 vp, .int .i64 vp, .string peer.s] 385 (0, 0))); generalize V11.alloc (.cells #[.int .i64 3, .int .i64 4, .int .i64 vp, .int .i64 vp, .string peer.s] 385 (0, 0)) = V12 at HL ⊢; generalize V11.heap.size = b6 at HL ⊢; have HSv := HS.out _ _ HL.out; refine hK _ _ (fun _ => HSv) ?_
       try simp only [aZ, aA, aE, aB, aC, aD]
       refine hatN 11 rfl (by rintro W ⟨h0, h1, h2, h3, h4⟩; go_simp; try rfl) HSv ?_; simp only [aZ, aC, aD]; refine wpAnyN_1 12 rfl (by kernel_rfl) ?_
       . intro K hK; rw [if_pos (by rfl)]
         try go_simp
         have HL := H_ (HL.out.alloc (.cells #[.slice none 0 0, .slice none 0 0, .slice none 0 0, .slice none 0 0, .int .i64 0, .int .i64 0, .int .i64 0, .int .i64 0] 325 (0, 0))); generalize V12.alloc (.cells #[.slice none 0 0, .slice none 0 0, .slice none 0 0, .slice none 0 0, .int .i64 0, .int .i64 0, .int .i64 0, .int .i64 0] 325 (0, 0)) = V13 at HL ⊢; generalize V12.heap.size = b12 at HL ⊢; have HSv := HS.out _ _ HL.out; refine hK _ _ (fun _ => HSv) ?_
         try simp only [aZ, aA, aE, aB, aC, aD]
         refine wpAnyN_end 13 (by decide) rfl (by kernel_rfl) ?_; simp only [List.drop_succ_cons, List.drop_zero]; have y12 := (HL.out.get (b12, (.cells #[.slice none 0 0, .slice none 0 0, .slice none 0 0, .slice none 0 0, .int .i64 0, .int .i64 0, .int .i64 0, .int .i64 0] 325 (0, 0))) (by simp only [List.mem_cons, true_or, or_true])).2; have z := fun o => fzOf y12 o; have c0 := cellOf y12 0 _ rfl; have c1 := cellOf y12 1 _ rfl; have c2 := cellOf y12 2 _ rfl; have c3 := cellOf y12 3 _ rfl; have c4 := cellOf y12 4 _ rfl; have c5 := cellOf y12 5 _ rfl; have c6 := cellOf y12 6 _ rfl; have c7 := cellOf y12 7 _ rfl; go_wp2_with fail; have hf := srv_fin HL.out.bl (HL.out.get (b12, (.cells #[.slice none 0 0, .slice none 0 0, .slice none 0 0, .slice none 0 0, .int .i64 0, .int .i64 0, .int .i64 0, .int .i64 0] 325 (0, 0))) (by simp only [List.mem_cons, true_or, or_true])) (HL.out.get (b3, (.cells #[.int .i64 3, .string own.s] 341 (0, 0))) (by simp only [List.mem_cons, true_or, or_true])) (HL.out.get (b6, (.cells #[.int .i64 3, .int .i64 4, .int .i64 vp, .int .i64 vp, .string peer.s] 385 (0, 0))) (by simp only [List.mem_cons, true_or, or_true])) cf tm fl wt
         show SrvQ _ _ _ _ _ _ _ _ _ _ _ _ _
         unfold SrvQ; exact ⟨b12, b3, b6, hf.1, hf.2.1, hf.2.2.1, hf.2.2.2, rfl⟩
     . intro K hK; rw [if_pos (by rfl)]
       try go_simp
       have HL := H_ (HL.out.alloc (.cells #[.slice none 0 0, .slice none 0 0, .slice none 0 0, .slice none 0 0, .int .i64 0, .int .i64 0, .int .i64 0, .int .i64 0] 325 (0, 0))); generalize V11.alloc (.cells #[.slice none 0 0, .slice none 0 0, .slice none 0 0, .slice none 0 0, .int .i64 0, .int .i64 0, .int .i64 0, .int .i64 0] 325 (0, 0)) = V14 at HL ⊢; generalize V11.heap.size = b12 at HL ⊢; have HSv := HS.out _ _ HL.out; refine hK _ _ (fun _ => HSv) ?_
       try simp only [aZ, aA, aE, aB, aC, aD]
       refine wpAnyN_1 6 rfl (by kernel_rfl) ?_
       . intro K hK; rw [if_pos (by rfl)]
         try go_simp
         have HL := H_ (HL.out.alloc (.cells #[.int .i64 3, .int .i64 4, .int .i64 vp, .int .i64 vp, .string peer.s] 385 (0, 0))); generalize V14.alloc (.cells #[.int .i64 3, .int .i64 4, .int .i64 vp, .int .i64 vp, .string peer.s] 385 (0, 0)) = V15 at HL ⊢; generalize V14.heap.size = b6 at HL ⊢; have HSv := HS.out _ _ HL.out; refine hK _ _ (fun _ => HSv) ?_
         try simp only [aZ, aA, aE, aB, aC, aD]
         refine hatN 11 rfl (by rintro W ⟨h0, h1, h2, h3, h4⟩; go_simp; try rfl) HSv ?_; simp only [aZ, aC, aD]; refine wpAnyN_end 13 (by decide) rfl (by kernel_rfl) ?_; simp only [List.drop_succ_cons, List.drop_zero]; have y12 := (HL.out.get (b12, (.cells #[.slice none 0 0, .slice none 0 0, .slice none 0 0, .slice none 0 0, .int .i64 0, .int .i64 0, .int .i64 0, .int .i64 0] 325 (0, 0))) (by simp only [List.mem_cons, true_or, or_true])).2; have z := fun o => fzOf y12 o; have c0 := cellOf y12 0 _ rfl; have c1 := cellOf y12 1 _ rfl; have c2 := cellOf y12 2 _ rfl; have c3 := cellOf y12 3 _ rfl; have c4 := cellOf y12 4 _ rfl; have c5 := cellOf y12 5 _ rfl; have c6 := cellOf y12 6 _ rfl; have c7 := cellOf y12 7 _ rfl; go_wp2_with fail; have hf := srv_fin HL.out.bl (HL.out.get (b12, (.cells #[.slice none 0 0, .slice none 0 0, .slice none 0 0, .slice none 0 0, .int .i64 0, .int .i64 0, .int .i64 0, .int .i64 0] 325 (0, 0))) (by simp only [List.mem_cons, true_or, or_true])) (HL.out.get (b3, (.cells #[.int .i64 3, .string own.s] 341 (0, 0))) (by simp only [List.mem_cons, true_or, or_true])) (HL.out.get (b6, (.cells #[.int .i64 3, .int .i64 4, .int .i64 vp, .int .i64 vp, .string peer.s] 385 (0, 0))) (by simp only [List.mem_cons, true_or, or_true])) cf tm fl wt
         show SrvQ _ _ _ _ _ _ _ _ _ _ _ _ _
         unfold SrvQ; exact ⟨b12, b3, b6, hf.1, hf.2.1, hf.2.2.1, hf.2.2.2, rfl⟩
   . intro K hK; rw [if_pos (by rfl)]
     try go_simp
     have HL := H_ (HL.out.alloc (.cells #[.int .i64 3, .int .i64 4, .int .i64 vp, .int .i64 vp, .string peer.s] 385 (0, 0))); generalize V10.alloc (.cells #[.int .i64 3, .int .i64 4, .int .i64 vp, .int .i64 vp, .string peer.s] 385 (0, 0)) = V16 at HL ⊢; generalize V10.heap.size = b6 at HL ⊢; have HSv := HS.out _ _ HL.out; refine hK _ _ (fun _ => HSv) ?_
     try simp only [aZ, aA, aE, aB, aC, aD]
     refine wpAnyN_2 3 12 rfl rfl (by kernel_rfl) ?_ ?_
     . intro K hK; rw [if_pos (by rfl)]
       try go_simp
       have HL := H_ (HL.out.alloc (.cells #[.int .i64 3, .string own.s] 341 (0, 0))); generalize V16.alloc (.cells #[.int .i64 3, .string own.s] 341 (0, 0)) = V17 at HL ⊢; generalize V16.heap.size = b3 at HL ⊢; have HSv := HS.out _ _ HL.out; refine hK _ _ (fun _ => HSv) ?_
       try simp only [aZ, aA, aE, aB, aC, aD]
       refine hatN 11 rfl (by rintro W ⟨h0, h1, h2, h3, h4⟩; go_simp; try rfl) HSv ?_; simp only [aZ, aC, aD]; refine wpAnyN_1 12 rfl (by kernel_rfl) ?_
       . intro K hK; rw [if_pos (by rfl)]
         try go_simp
         have HL := H_ (HL.out.alloc (.cells #[.slice none 0 0, .slice none 0 0, .slice none 0 0, .slice none 0 0, .int .i64 0, .int .i64 0, .int .i64 0, .int .i64 0] 325 (0, 0))); generalize V17.alloc (.cells #[.slice none 0 0, .slice none 0 0, .slice none 0 0, .slice none 0 0, .int .i64 0, .int .i64 0, .int .i64 0, .int .i64 0] 325 (0, 0)) = V18 at HL ⊢; generalize V17.heap.size = b12 at HL ⊢; have HSv := HS.out _ _ HL.out; refine hK _ _ (fun _ => HSv) ?_
         try simp only [aZ, aA, aE, aB, aC, aD]
         refine wpAnyN_end 13 (by decide) rfl (by kernel_rfl) ?_; simp only [List.drop_succ_cons, List.drop_zero]; have y12 := (HL.out.get (b12, (.cells #[.slice none 0 0, .slice none 0 0, .slice none 0 0, .slice none 0 0, .int .i64 0, .int .i64 0, .int .i64 0, .int .i64 0] 325 (0, 0))) (by simp only [List.mem_cons, true_or, or_true])).2; have z := fun o => fzOf y12 o; have c0 := cellOf y12 0 _ rfl; have c1 := cellOf y12 1 _ rfl; have c2 := cellOf y12 2 _ rfl; have c3 := cellOf y12 3 _ rfl; have c4 := cellOf y12 4 _ rfl; have c5 := cellOf y12 5 _ rfl; have c6 := cellOf y12 6 _ rfl; have c7 := cellOf y12 7 _ rfl; go_wp2_with fail; have hf := srv_fin HL.out.bl (HL.out.get (b12, (.cells #[.slice none 0 0, .slice none 0 0, .slice none 0 0, .slice none 0 0, .int .i64 0, .int .i64 0, .int .i64 0, .int .i64 0] 325 (0, 0))) (by simp only [List.mem_cons, true_or, or_true])) (HL.out.get (b3, (.cells #[.int .i64 3, .string own.s] 341 (0, 0))) (by simp only [List.mem_cons, true_or, or_true])) (HL.out.get (b6, (.cells #[.int .i64 3, .int .i64 4, .int .i64 vp, .int .i64 vp, .string peer.s] 385 (0, 0))) (by simp only [List.mem_cons, true_or, or_true])) cf tm fl wt
         show SrvQ _ _ _ _ _ _ _ _ _ _ _ _ _
         unfold SrvQ; exact ⟨b12, b3, b6, hf.1, hf.2.1, hf.2.2.1, hf.2.2.2, rfl⟩
     . intro K hK; rw [if_pos (by rfl)]
       try go_simp
       have HL := H_ (HL.out.alloc (.cells #[.slice none 0 0, .slice none 0 0, .slice none 0 0, .slice none 0 0, .int .i64 0, .int .i64 0, .int .i64 0, .int .i64 0] 325 (0, 0))); generalize V16.alloc (.cells #[.slice none 0 0, .slice none 0 0, .slice none 0 0, .slice none 0 0, .int .i64 0, .int .i64 0, .int .i64 0, .int .i64 0] 325 (0, 0)) = V19 at HL ⊢; generalize V16.heap.size = b12 at HL ⊢; have HSv := HS.out _ _ HL.out; refine hK _ _ (fun _ => HSv) ?_
       try simp only [aZ, aA, aE, aB, aC, aD]
       refine wpAnyN_1 3 rfl (by kernel_rfl) ?_
       . intro K hK; rw [if_pos (by rfl)]
         try go_simp
         have HL := H_ (HL.out.alloc (.cells #[.int .i64 3, .string own.s] 341 (0, 0))); generalize V19.alloc (.cells #[.int .i64 3, .string own.s] 341 (0, 0)) = V20 at HL ⊢; generalize V19.heap.size = b3 at HL ⊢; have HSv := HS.out _ _ HL.out; refine hK _ _ (fun _ => HSv) ?_
         try simp only [aZ, aA, aE, aB, aC, aD]
         refine hatN 11 rfl (by rintro W ⟨h0, h1, h2, h3, h4⟩; go_simp; try rfl) HSv ?_; simp only [aZ, aC, aD]; refine wpAnyN_end 13 (by decide) rfl (by kernel_rfl) ?_; simp only [List.drop_succ_cons, List.drop_zero]; have y12 := (HL.out.get (b12, (.cells #[.slice none 0 0, .slice none 0 0, .slice none 0 0, .slice none 0 0, .int .i64 0, .int .i64 0, .int .i64 0, .int .i64 0] 325 (0, 0))) (by simp only [List.mem_cons, true_or, or_true])).2; have z := fun o => fzOf y12 o; have c0 := cellOf y12 0 _ rfl; have c1 := cellOf y12 1 _ rfl; have c2 := cellOf y12 2 _ rfl; have c3 := cellOf y12 3 _ rfl; have c4 := cellOf y12 4 _ rfl; have c5 := cellOf y12 5 _ rfl; have c6 := cellOf y12 6 _ rfl; have c7 := cellOf y12 7 _ rfl; go_wp2_with fail; have hf := srv_fin HL.out.bl (HL.out.get (b12, (.cells #[.slice none 0 0, .slice none 0 0, .slice none 0 0, .slice none 0 0, .int .i64 0, .int .i64 0, .int .i64 0, .int .i64 0] 325 (0, 0))) (by simp only [List.mem_cons, true_or, or_true])) (HL.out.get (b3, (.cells #[.int .i64 3, .string own.s] 341 (0, 0))) (by simp only [List.mem_cons, true_or, or_true])) (HL.out.get (b6, (.cells #[.int .i64 3, .int .i64 4, .int .i64 vp, .int .i64 vp, .string peer.s] 385 (0, 0))) (by simp only [List.mem_cons, true_or, or_true])) cf tm fl wt
         show SrvQ _ _ _ _ _ _ _ _ _ _ _ _ _
         unfold SrvQ; exact ⟨b12, b3, b6, hf.1, hf.2.1, hf.2.2.1, hf.2.2.2, rfl⟩
   . intro K hK; rw [if_pos (by rfl)]
     try go_simp
     have HL := H_ (HL.out.alloc (.cells #[.slice none 0 0, .slice none 0 0, .slice none 0 0, .slice none 0 0, .int .i64 0, .int .i64 0, .int .i64 0, .int .i64 0] 325 (0, 0))); generalize V10.alloc (.cells #[.slice none 0 0, .slice none 0 0, .slice none 0 0, .slice none 0 0, .int .i64 0, .int .i64 0, .int .i64 0, .int .i64 0] 325 (0, 0)) = V21 at HL ⊢; generalize V10.heap.size = b12 at HL ⊢; have HSv := HS.out _ _ HL.out; refine hK _ _ (fun _ => HSv) ?_
     try simp only [aZ, aA, aE, aB, aC, aD]
     refine wpAnyN_2 3 6 rfl rfl (by kernel_rfl) ?_ ?_
     . intro K hK; rw [if_pos (by rfl)]
       try go_simp
       have HL := H_ (HL.out.alloc (.cells #[.int .i64 3, .string own.s] 341 (0, 0))); generalize V21.alloc (.cells #[.int .i64 3, .string own.s] 341 (0, 0)) = V22 at HL ⊢; generalize V21.heap.size = b3 at HL ⊢; have HSv := HS.out _ _ HL.out; refine hK _ _ (fun _ => HSv) ?_
       try simp only [aZ, aA, aE, aB, aC, aD]
       refine wpAnyN_1 6 rfl (by kernel_rfl) ?_
       . intro K hK; rw [if_pos (by rfl)]
         try go_simp
         have HL := H_ (HL.out.alloc (.cells #[.int .i64 3, .int .i64 4, .int .i64 vp, .int .i64 vp, .string peer.s] 385 (0, 0))); generalize V22.alloc (.cells #[.int .i64 3, .int .i64 4, .int .i64 vp, .int .i64 vp, .string peer.s] 385 (0, 0)) = V23 at HL ⊢; generalize V22.heap.size = b6 at HL ⊢; have HSv := HS.out _ _ HL.out; refine hK _ _ (fun _ => HSv) ?_
         try simp only [aZ, aA, aE, aB, aC, aD]
         refine hatN 11 rfl (by rintro W ⟨h0, h1, h2, h3, h4⟩; go_simp; try rfl) HSv ?_; simp only [aZ, aC, aD]; refine wpAnyN_end 13 (by decide) rfl (by kernel_rfl) ?_; simp only [List.drop_succ_cons, List.drop_zero]; have y12 := (HL.out.get (b12, (.cells #[.slice none 0 0, .slice none 0 0, .slice none 0 0, .slice none 0 0, .int .i64 0, .int .i64 0, .int .i64 0, .int .i64 0] 325 (0, 0))) (by simp only [List.mem_cons, true_or, or_true])).2; have z := fun o => fzOf y12 o; have c0 := cellOf y12 0 _ rfl; have c1 := cellOf y12 1 _ rfl; have c2 := cellOf y12 2 _ rfl; have c3 := cellOf y12 3 _ rfl; have c4 := cellOf y12 4 _ rfl; have c5 := cellOf y12 5 _ rfl; have c6 := cellOf y12 6 _ rfl; have c7 := cellOf y12 7 _ rfl; go_wp2_with fail; have hf := srv_fin HL.out.bl (HL.out.get (b12, (.cells #[.slice none 0 0, .slice none 0 0, .slice none 0 0, .slice none 0 0, .int .i64 0, .int .i64 0, .int .i64 0, .int .i64 0] 325 (0, 0))) (by simp only [List.mem_cons, true_or, or_true])) (HL.out.get (b3, (.cells #[.int .i64 3, .string own.s] 341 (0, 0))) (by simp only [List.mem_cons, true_or, or_true])) (HL.out.get (b6, (.cells #[.int .i64 3, .int .i64 4, .int .i64 vp, .int .i64 vp, .string peer.s] 385 (0, 0))) (by simp only [List.mem_cons, true_or, or_true])) cf tm fl wt
         show SrvQ _ _ _ _ _ _ _ _ _ _ _ _ _
         unfold SrvQ; exact ⟨b12, b3, b6, hf.1, hf.2.1, hf.2.2.1, hf.2.2.2, rfl⟩
     . intro K hK; rw [if_pos (by rfl)]
       try go_simp
       have HL := H_ (HL.out.alloc (.cells #[.int .i64 3, .int .i64 4, .int .i64 vp, .int .i64 vp, .string peer.s] 385 (0, 0))); generalize V21.alloc (.cells #[.int .i64 3, .int .i64 4, .int .i64 vp, .int .i64 vp, .string peer.s] 385 (0, 0)) = V24 at HL ⊢; generalize V21.heap.size = b6 at HL ⊢; have HSv := HS.out _ _ HL.out; refine hK _ _ (fun _ => HSv) ?_
       try simp only [aZ, aA, aE, aB, aC, aD]
       refine wpAnyN_1 3 rfl (by kernel_rfl) ?_
       . intro K hK; rw [if_pos (by rfl)]
         try go_simp
         have HL := H_ (HL.out.alloc (.cells #[.int .i64 3, .string own.s] 341 (0, 0))); generalize V24.alloc (.cells #[.int .i64 3, .string own.s] 341 (0, 0)) = V25 at HL ⊢; generalize V24.heap.size = b3 at HL ⊢; have HSv := HS.out _ _ HL.out; refine hK _ _ (fun _ => HSv) ?_
         try simp only [aZ, aA, aE, aB, aC, aD]
         refine hatN 11 rfl (by rintro W ⟨h0, h1, h2, h3, h4⟩; go_simp; try rfl) HSv ?_; simp only [aZ, aC, aD]; refine wpAnyN_end 13 (by decide) rfl (by kernel_rfl) ?_; simp only [List.drop_succ_cons, List.drop_zero]; have y12 := (HL.out.get (b12, (.cells #[.slice none 0 0, .slice none 0 0, .slice none 0 0, .slice none 0 0, .int .i64 0, .int .i64 0, .int .i64 0, .int .i64 0] 325 (0, 0))) (by simp only [List.mem_cons, true_or, or_true])).2; have z := fun o => fzOf y12 o; have c0 := cellOf y12 0 _ rfl; have c1 := cellOf y12 1 _ rfl; have c2 := cellOf y12 2 _ rfl; have c3 := cellOf y12 3 _ rfl; have c4 := cellOf y12 4 _ rfl; have c5 := cellOf y12 5 _ rfl; have c6 := cellOf y12 6 _ rfl; have c7 := cellOf y12 7 _ rfl; go_wp2_with fail; have hf := srv_fin HL.out.bl (HL.out.get (b12, (.cells #[.slice none 0 0, .slice none 0 0, .slice none 0 0, .slice none 0 0, .int .i64 0, .int .i64 0, .int .i64 0, .int .i64 0] 325 (0, 0))) (by simp only [List.mem_cons, true_or, or_true])) (HL.out.get (b3, (.cells #[.int .i64 3, .string own.s] 341 (0, 0))) (by simp only [List.mem_cons, true_or, or_true])) (HL.out.get (b6, (.cells #[.int .i64 3, .int .i64 4, .int .i64 vp, .int .i64 vp, .string peer.s] 385 (0, 0))) (by simp only [List.mem_cons, true_or, or_true])) cf tm fl wt
         show SrvQ _ _ _ _ _ _ _ _ _ _ _ _ _
         unfold SrvQ; exact ⟨b12, b3, b6, hf.1, hf.2.1, hf.2.2.1, hf.2.2.2, rfl⟩
 . intro K hK; rw [if_pos (by rfl)]
   try go_simp
   have HL := H_ (HL.out.alloc (.cells #[.slice none 0 0, .slice none 0 0, .slice none 0 0, .slice none 0 0, .int .i64 0, .int .i64 0, .int .i64 0, .int .i64 0] 325 (0, 0))); generalize V0.alloc (.cells #[.slice none 0 0, .slice none 0 0, .slice none 0 0, .slice none 0 0, .int .i64 0, .int .i64 0, .int .i64 0, .int .i64 0] 325 (0, 0)) = V26 at HL ⊢; generalize V0.heap.size = b12 at HL ⊢; have HSv := HS.out _ _ HL.out; refine hK _ _ (fun _ => HSv) ?_
   try simp only [aZ, aA, aE, aB, aC, aD]
   refine wpAnyN_2 3 5 rfl rfl (by kernel_rfl) ?_ ?_
   . intro K hK; rw [if_pos (by rfl)]
     try go_simp
     have HL := H_ (HL.out.alloc (.cells #[.int .i64 3, .string own.s] 341 (0, 0))); generalize V26.alloc (.cells #[.int .i64 3, .string own.s] 341 (0, 0)) = V27 at HL ⊢; generalize V26.heap.size = b3 at HL ⊢; have HSv := HS.out _ _ HL.out; refine hK _ _ (fun _ => HSv) ?_
     try simp only [aZ, aA, aE, aB, aC, aD]
     refine wpAnyN_1 5 rfl (by kernel_rfl) ?_
     . intro K hK; rw [if_pos (by rfl)]
       try go_simp
       go_at_call 304; refine (HJ.out _).mono ?_; rintro e V28 ⟨rfl, hb⟩; have HL := H_ (HL.out.go hb); clear hb; have HSv := HS.out _ _ HL.out; refine hK _ _ (fun _ => HSv) ?_
       try simp only [aZ, aA, aE, aB, aC, aD]
       refine wpAnyN_1 6 rfl (by kernel_rfl) ?_
       . intro K hK; rw [if_pos (by rfl)]
         try go_simp
         have HL := H_ (HL.out.alloc (.cells #[.int .i64 3, .int .i64 4, .int .i64 vp, .int .i64 vp, .string peer.s] 385 (0, 0))); generalize V28.alloc (.cells #[.int .i64 3, .int .i64 4, .int .i64 vp, .int .i64 vp, .string peer.s] 385 (0, 0)) = V29 at HL ⊢; generalize V28.heap.size = b6 at HL ⊢; have HSv := HS.out _ _ HL.out; refine hK _ _ (fun _ => HSv) ?_
         try simp only [aZ, aA, aE, aB, aC, aD]
         refine hatN 11 rfl (by rintro W ⟨h0, h1, h2, h3, h4⟩; go_simp; try rfl) HSv ?_; simp only [aZ, aC, aD]; refine wpAnyN_end 13 (by decide) rfl (by kernel_rfl) ?_; simp only [List.drop_succ_cons, List.drop_zero]; have y12 := (HL.out.get (b12, (.cells #[.slice none 0 0, .slice none 0 0, .slice none 0 0, .slice none 0 0, .int .i64 0, .int .i64 0, .int .i64 0, .int .i64 0] 325 (0, 0))) (by simp only [List.mem_cons, true_or, or_true])).2; have z := fun o => fzOf y12 o; have c0 := cellOf y12 0 _ rfl; have c1 := cellOf y12 1 _ rfl; have c2 := cellOf y12 2 _ rfl; have c3 := cellOf y12 3 _ rfl; have c4 := cellOf y12 4 _ rfl; have c5 := cellOf y12 5 _ rfl; have c6 := cellOf y12 6 _ rfl; have c7 := cellOf y12 7 _ rfl; go_wp2_with fail; have hf := srv_fin HL.out.bl (HL.out.get (b12, (.cells #[.slice none 0 0, .slice none 0 0, .slice none 0 0, .slice none 0 0, .int .i64 0, .int .i64 0, .int .i64 0, .int .i64 0] 325 (0, 0))) (by simp only [List.mem_cons, true_or, or_true])) (HL.out.get (b3, (.cells #[.int .i64 3, .string own.s] 341 (0, 0))) (by simp only [List.mem_cons, true_or, or_true])) (HL.out.get (b6, (.cells #[.int .i64 3, .int .i64 4, .int .i64 vp, .int .i64 vp, .string peer.s] 385 (0, 0))) (by simp only [List.mem_cons, true_or, or_true])) cf tm fl wt
         show SrvQ _ _ _ _ _ _ _ _ _ _ _ _ _
         unfold SrvQ; exact ⟨b12, b3, b6, hf.1, hf.2.1, hf.2.2.1, hf.2.2.2, rfl⟩
   . intro K hK; rw [if_pos (by rfl)]
     try go_simp
     go_at_call 304; refine (HJ.out _).mono ?_; rintro e V30 ⟨rfl, hb⟩; have HL := H_ (HL.out.go hb); clear hb; have HSv := HS.out _ _ HL.out; refine hK _ _ (fun _ => HSv) ?_
     try simp only [aZ, aA, aE, aB, aC, aD]
     refine wpAnyN_2 3 6 rfl rfl (by kernel_rfl) ?_ ?_
     . intro K hK; rw [if_pos (by rfl)]
       try go_simp
       have HL := H_ (HL.out.alloc (.cells #[.int .i64 3, .string own.s] 341 (0, 0))); generalize V30.alloc (.cells #[.int .i64 3, .string own.s] 341 (0, 0)) = V31 at HL ⊢; generalize V30.heap.size = b3 at HL ⊢; have HSv := HS.out _ _ HL.out; refine hK _ _ (fun _ => HSv) ?_
       try simp only [aZ, aA, aE, aB, aC, aD]
       refine wpAnyN_1 6 rfl (by kernel_rfl) ?_
       . intro K hK; rw [if_pos (by rfl)]
         try go_simp
         have HL := H_ (HL.out.alloc (.cells #[.int .i64 3, .int .i64 4, .int .i64 vp, .int .i64 vp, .string peer.s] 385 (0, 0))); generalize V31.alloc (.cells #[.int .i64 3, .int .i64 4, .int .i64 vp, .int .i64 vp, .string peer.s] 385 (0, 0)) = V32 at HL ⊢; generalize V31.heap.size = b6 at HL ⊢; have HSv := HS.out _ _ HL.out; refine hK _ _ (fun _ => HSv) ?_
         try simp only [aZ, aA, aE, aB, aC, aD]
         refine hatN 11 rfl (by rintro W ⟨h0, h1, h2, h3, h4⟩; go_simp; try rfl) HSv ?_; simp only [aZ, aC, aD]; refine wpAnyN_end 13 (by decide) rfl (by kernel_rfl) ?_; simp only [List.drop_succ_cons, List.drop_zero]; have y12 := (HL.out.get (b12, (.cells #[.slice none 0 0, .slice none 0 0, .slice none 0 0, .slice none 0 0, .int .i64 0, .int .i64 0, .int .i64 0, .int .i64 0] 325 (0, 0))) (by simp only [List.mem_cons, true_or, or_true])).2; have z := fun o => fzOf y12 o; have c0 := cellOf y12 0 _ rfl; have c1 := cellOf y12 1 _ rfl; have c2 := cellOf y12 2 _ rfl; have c3 := cellOf y12 3 _ rfl; have c4 := cellOf y12 4 _ rfl; have c5 := cellOf y12 5 _ rfl; have c6 := cellOf y12 6 _ rfl; have c7 := cellOf y12 7 _ rfl; go_wp2_with fail; have hf := srv_fin HL.out.bl (HL.out.get (b12, (.cells #[.slice none 0 0, .slice none 0 0, .slice none 0 0, .slice none 0 0, .int .i64 0, .int .i64 0, .int .i64 0, .int .i64 0] 325 (0, 0))) (by simp only [List.mem_cons, true_or, or_true])) (HL.out.get (b3, (.cells #[.int .i64 3, .string own.s] 341 (0, 0))) (by simp only [List.mem_cons, true_or, or_true])) (HL.out.get (b6, (.cells #[.int .i64 3, .int .i64 4, .int .i64 vp, .int .i64 vp, .string peer.s] 385 (0, 0))) (by simp only [List.mem_cons, true_or, or_true])) cf tm fl wt
         show SrvQ _ _ _ _ _ _ _ _ _ _ _ _ _
         unfold SrvQ; exact ⟨b12, b3, b6, hf.1, hf.2.1, hf.2.2.1, hf.2.2.2, rfl⟩
     . intro K hK; rw [if_pos (by rfl)]
       try go_simp
       have HL := H_ (HL.out.alloc (.cells #[.int .i64 3, .int .i64 4, .int .i64 vp, .int .i64 vp, .string peer.s] 385 (0, 0))); generalize V30.alloc (.cells #[.int .i64 3, .int .i64 4, .int .i64 vp, .int .i64 vp, .string peer.s] 385 (0, 0)) = V33 at HL ⊢; generalize V30.heap.size = b6 at HL ⊢; have HSv := HS.out _ _ HL.out; refine hK _ _ (fun _ => HSv) ?_
       try simp only [aZ, aA, aE, aB, aC, aD]
       refine wpAnyN_1 3 rfl (by kernel_rfl) ?_
       . intro K hK; rw [if_pos (by rfl)]
         try go_simp
         have HL := H_ (HL.out.alloc (.cells #[.int .i64 3, .string own.s] 341 (0, 0))); generalize V33.alloc (.cells #[.int .i64 3, .string own.s] 341 (0, 0)) = V34 at HL ⊢; generalize V33.heap.size = b3 at HL ⊢; have HSv := HS.out _ _ HL.out; refine hK _ _ (fun _ => HSv) ?_
         try simp only [aZ, aA, aE, aB, aC, aD]
         refine hatN 11 rfl (by rintro W ⟨h0, h1, h2, h3, h4⟩; go_simp; try rfl) HSv ?_; simp only [aZ, aC, aD]; refine wpAnyN_end 13 (by decide) rfl (by kernel_rfl) ?_; simp only [List.drop_succ_cons, List.drop_zero]; have y12 := (HL.out.get (b12, (.cells #[.slice none 0 0, .slice none 0 0, .slice none 0 0, .slice none 0 0, .int .i64 0, .int .i64 0, .int .i64 0, .int .i64 0] 325 (0, 0))) (by simp only [List.mem_cons, true_or, or_true])).2; have z := fun o => fzOf y12 o; have c0 := cellOf y12 0 _ rfl; have c1 := cellOf y12 1 _ rfl; have c2 := cellOf y12 2 _ rfl; have c3 := cellOf y12 3 _ rfl; have c4 := cellOf y12 4 _ rfl; have c5 := cellOf y12 5 _ rfl; have c6 := cellOf y12 6 _ rfl; have c7 := cellOf y12 7 _ rfl; go_wp2_with fail; have hf := srv_fin HL.out.bl (HL.out.get (b12, (.cells #[.slice none 0 0, .slice none 0 0, .slice none 0 0, .slice none 0 0, .int .i64 0, .int .i64 0, .int .i64 0, .int .i64 0] 325 (0, 0))) (by simp only [List.mem_cons, true_or, or_true])) (HL.out.get (b3, (.cells #[.int .i64 3, .string own.s] 341 (0, 0))) (by simp only [List.mem_cons, true_or, or_true])) (HL.out.get (b6, (.cells #[.int .i64 3, .int .i64 4, .int .i64 vp, .int .i64 vp, .string peer.s] 385 (0, 0))) (by simp only [List.mem_cons, true_or, or_true])) cf tm fl wt
         show SrvQ _ _ _ _ _ _ _ _ _ _ _ _ _
         unfold SrvQ; exact ⟨b12, b3, b6, hf.1, hf.2.1, hf.2.2.1, hf.2.2.2, rfl⟩
 . intro e a' w' h; cases e <;> first | exact h.elim | skip
   obtain ⟨sb, ob, rb, hz, hs, ho, hr, rfl⟩ := h; simp only [Exit.then]; have I0 := H_ (SrvQ.inv HB.out hz hs ho hr); clear hz hs ho hr HJ HS HB; generalize Value.slice (some ⟨ob, 0, none⟩) 1 1 = ov0 at I0; have q0 := cellOf I0.out.x2 0 (.int .u8 (d1.a.toNat : Int)) rfl; have q1 := cellOf I0.out.x2 1 (.int .u8 (d1.b.toNat : Int)) rfl; have q2 := cellOf I0.out.x2 2 (.int .u8 (d1.c.toNat : Int)) rfl; have q3 := cellOf I0.out.x2 3 (.int .u8 (d1.d.toNat : Int)) rfl; have p0 := cellOf I0.out.x3 0 (.int .u8 (d2.a.toNat : Int)) rfl; have p1 := cellOf I0.out.x3 1 (.int .u8 (d2.b.toNat : Int)) rfl; have p2 := cellOf I0.out.x3 2 (.int .u8 (d2.c.toNat : Int)) rfl; have p3 := cellOf I0.out.x3 3 (.int .u8 (d2.d.toNat : Int)) rfl; have s0 := cellOf I0.out.sbk 0 _ rfl; have s1 := cellOf I0.out.sbk 1 _ rfl; have s2 := cellOf I0.out.sbk 2 _ rfl; have s3 := cellOf I0.out.sbk 3 _ rfl; have s4 := cellOf I0.out.sbk 4 _ rfl; have s5 := cellOf I0.out.sbk 5 _ rfl; have s6 := cellOf I0.out.sbk 6 _ rfl; have s7 := cellOf I0.out.sbk 7 _ rfl
   cases y1 with
   | true =>
    cases y2 with
    | true =>
     have hI := I0.out; have hP : Rls _ (fun b => w.heap.size <= b) _ ([⟨3, 4, vp, vp, peer.s⟩]) := Rec.mono (hI.rrow.rls (by unfold maxLen; simp)) (fun b hb => by have hb : w.heap.size + 1 + 1 + 1 + 1 <= b := hb; omega); have hN := new_at [⟨3, own.s⟩] [] [⟨3, 4, vp, vp, peer.s⟩] [] _ _ _ _ (fun b => w.heap.size <= b) cf tm fl wt _ (hI.orow.opts (show 1 <= maxLen by decide)) (Rec.nil _ _ _) hP (Rec.nil _ _ _) (fun n c h => by cases h; rfl) (fun n c h => by have hR := hI.rrow; rw [h] at hR; exact hR.nil0) (by decide) (by simp) (by decide) (inB20_true.2 HA.out.1) (inB20_true.2 HA.out.2.1) HA.out.2.2.1.1 HA.out.2.2.1.2 HA.out.2.2.2.1 HA.out.2.2.2.2 (fun o ho => by simp only [List.mem_singleton] at ho; subst ho; show 4 <= 100000; decide) rfl rfl (by rw [List.nil_append]; have := HW.out.2.1; rw [HR.out] at this; exact this) (by rw [List.nil_append]; have := HW.out.2.2; rw [HR.out] at this; exact this); have HN := H_ hN; have HBL := H_ hI.bl; clear hN hI hP
     try go_wp2_with fail
     refine HN.out.mono ?_; rintro e w9 ⟨v, rfl, B, jb, rfl, h1, h2, h3, h4, h5⟩; have H9 := H_ (A_ h1 (A_ h2 (A_ h3 (A_ h4 h5)))); clear h1 h2 h3 h4 h5; go_wp2_with fail; go_ret2; rw [HR.out]; have hsz := HBL.out.size; exact ⟨_, rfl, B, jb, rfl, H9.out.1.mono (fun b hb => Nat.le_trans hsz hb), H9.out.2.1, Nat.le_trans hsz H9.out.2.2.1, H9.out.2.2.2.1, HBL.out.trans (H9.out.2.2.2.2.mono hsz)⟩
    | false =>
     go_wp2_with fail; refine wp_region_H (rgH 1 5) (fun X : World => X.cell? ⟨sb, 2, none⟩ = some (.slice (some ⟨rb, 0, none⟩) 1 1)) (by kernel_rfl) ?_; have HSv : (fun X : World => X.cell? ⟨sb, 2, none⟩ = some (.slice (some ⟨rb, 0, none⟩) 1 1)) w'.drew := s2; refine hatP 0 rfl (by intro W _; go_simp; try rfl) ?_; simp only [aZ, aC, aD]; refine hatH 1 rfl (by rintro W h0; go_simp; try rfl) HSv ?_; simp only [aZ, aC, aD]; refine hone 2 rfl fun K hK => ?_
     try go_simp
     refine hK _ _ (fun _ => HSv) ?_
     try simp only [aZ, aA, aE, aB, aC, aD]
     clear HSv s0 s1 s2 s3 s4 s5 s6 s7 p0 p1 p2 p3 q0 q1 q2 q3; refine hone 3 rfl fun K hK => ?_
     try go_simp
     go_at_call 304; refine (HJ2.out _).mono ?_; rintro e U2 ⟨rfl, hb⟩; have J2 := H_ ((I0.out.go (Below.refl _ _).drew).go hb); have HSv : (fun X : World => X.cell? ⟨sb, 2, none⟩ = some (.slice (some ⟨rb, 0, none⟩) 1 1)) U2 := cellOf J2.out.sbk 2 _ rfl; clear hb; refine hK _ _ (fun _ => HSv) ?_
     try simp only [aZ, aA, aE, aB, aC, aD]
     refine hone 4 rfl fun K hK => ?_
     try go_simp
     have K2 := H_ (J2.out.go ((Below.refl _ _).alloc (Nat.le_refl _) (.cells #[.int .i64 131, .int .i64 4, .int .i64 vp2, .int .i64 vp2, .string d2.s] 385 (0, 0)))); have HN2 := H_ (at1 U2 (.cells #[.int .i64 131, .int .i64 4, .int .i64 vp2, .int .i64 vp2, .string d2.s] 385 (0, 0))); have HSv : (fun X : World => X.cell? ⟨sb, 2, none⟩ = some (.slice (some ⟨rb, 0, none⟩) 1 1)) (U2.alloc (.cells #[.int .i64 131, .int .i64 4, .int .i64 vp2, .int .i64 vp2, .string d2.s] 385 (0, 0))) := cellOf K2.out.sbk 2 _ rfl; refine hK _ _ (fun _ => HSv) ?_
     try simp only [aZ, aA, aE, aB, aC, aD]
     refine hend 5 ?_; simp only [aF, aG]
     go_wp2_with (first
      | (
       at_builtin; refine wpl_append_rules rfl _ _ rfl _ ([⟨3, 4, vp, vp, peer.s⟩]) rfl K2.out.rrow _ [⟨131, 4, vp2, vp2, d2.s⟩] rfl ((RRow.one ⟨131, 4, vp2, vp2, d2.s⟩ HN2.out (Nat.le_refl _)).rls (show 1 <= maxLen by decide)) (by intro n c h; cases h) (by simp) (by have := (Array.getElem?_eq_some_iff.1 K2.out.sbk).1; have := K2.out.hsb; omega) ?_
       intro pv2 T2 r5 k5 o5; obtain ⟨ra2, rc2, rfl⟩ := r5.form; have r5 : RRow T2 _ (.slice ra2 2 rc2) ([⟨3, 4, vp, vp, peer.s⟩] ++ [⟨131, 4, vp2, vp2, d2.s⟩]) := r5; have o5 : (Value.ownBlock (.slice ra2 2 rc2) = _ \/ _) := o5; have I2 := H_ (K2.out.app k5 r5 o5); have y4 := (k5.block sb (Array.getElem?_eq_some_iff.1 K2.out.sbk).1 (fun he => K2.out.ne1 sb he rfl)).trans K2.out.sbk; have u2 := cellOf y4 2 _ rfl; have f2 := fun o => fzOf y4 o; have s0 := cellOf I2.out.sbk 0 _ rfl; have s1 := cellOf I2.out.sbk 1 _ rfl; have s2 := cellOf I2.out.sbk 2 _ rfl; have s3 := cellOf I2.out.sbk 3 _ rfl; have s4 := cellOf I2.out.sbk 4 _ rfl; have s5 := cellOf I2.out.sbk 5 _ rfl; have s6 := cellOf I2.out.sbk 6 _ rfl; have s7 := cellOf I2.out.sbk 7 _ rfl
       clear r5 k5 o5 y4))
     have hI := I2.out; have hP : Rls _ (fun b => w.heap.size <= b) _ (([⟨3, 4, vp, vp, peer.s⟩] ++ [⟨131, 4, vp2, vp2, d2.s⟩])) := Rec.mono (hI.rrow.rls (by unfold maxLen; simp)) (fun b hb => by have hb : w.heap.size + 1 + 1 + 1 + 1 <= b := hb; omega); have hN := new_at [⟨3, own.s⟩] [] ([⟨3, 4, vp, vp, peer.s⟩] ++ [⟨131, 4, vp2, vp2, d2.s⟩]) [] _ _ _ _ (fun b => w.heap.size <= b) cf tm fl wt _ (hI.orow.opts (show 1 <= maxLen by decide)) (Rec.nil _ _ _) hP (Rec.nil _ _ _) (fun n c h => by cases h; rfl) (fun n c h => by have hR := hI.rrow; rw [h] at hR; exact hR.nil0) (by decide) (by simp) (by decide) (inB20_true.2 HA.out.1) (inB20_true.2 HA.out.2.1) HA.out.2.2.1.1 HA.out.2.2.1.2 HA.out.2.2.2.1 HA.out.2.2.2.2 (fun o ho => by simp only [List.mem_singleton] at ho; subst ho; show 4 <= 100000; decide) rfl rfl (by rw [List.nil_append]; have := HW.out.2.1; rw [HR.out] at this; exact this) (by rw [List.nil_append]; have := HW.out.2.2; rw [HR.out] at this; exact this); have HN := H_ hN; have HBL := H_ hI.bl; clear hN hI hP
     try go_wp2_with fail
     refine HN.out.mono ?_; rintro e w9 ⟨v, rfl, B, jb, rfl, h1, h2, h3, h4, h5⟩; have H9 := H_ (A_ h1 (A_ h2 (A_ h3 (A_ h4 h5)))); clear h1 h2 h3 h4 h5; go_wp2_with fail; go_ret2; rw [HR.out]; have hsz := HBL.out.size; exact ⟨_, rfl, B, jb, rfl, H9.out.1.mono (fun b hb => Nat.le_trans hsz hb), H9.out.2.1, Nat.le_trans hsz H9.out.2.2.1, H9.out.2.2.2.1, HBL.out.trans (H9.out.2.2.2.2.mono hsz)⟩
   | false =>
    cases y2 with
    | true =>
     go_wp2_with fail; refine wp_region_H (rgH 1 5) (fun X : World => X.cell? ⟨sb, 2, none⟩ = some (.slice (some ⟨rb, 0, none⟩) 1 1)) (by kernel_rfl) ?_; have HSv : (fun X : World => X.cell? ⟨sb, 2, none⟩ = some (.slice (some ⟨rb, 0, none⟩) 1 1)) w'.drew := s2; refine hatP 0 rfl (by intro W _; go_simp; try rfl) ?_; simp only [aZ, aC, aD]; refine hatH 1 rfl (by rintro W h0; go_simp; try rfl) HSv ?_; simp only [aZ, aC, aD]; refine hone 2 rfl fun K hK => ?_
     try go_simp
     refine hK _ _ (fun _ => HSv) ?_
     try simp only [aZ, aA, aE, aB, aC, aD]
     clear HSv s0 s1 s2 s3 s4 s5 s6 s7 p0 p1 p2 p3 q0 q1 q2 q3; refine hone 3 rfl fun K hK => ?_
     try go_simp
     go_at_call 304; refine (HJ1.out _).mono ?_; rintro e U1 ⟨rfl, hb⟩; have J1 := H_ ((I0.out.go (Below.refl _ _).drew).go hb); have HSv : (fun X : World => X.cell? ⟨sb, 2, none⟩ = some (.slice (some ⟨rb, 0, none⟩) 1 1)) U1 := cellOf J1.out.sbk 2 _ rfl; clear hb; refine hK _ _ (fun _ => HSv) ?_
     try simp only [aZ, aA, aE, aB, aC, aD]
     refine hone 4 rfl fun K hK => ?_
     try go_simp
     have K1 := H_ (J1.out.go ((Below.refl _ _).alloc (Nat.le_refl _) (.cells #[.int .i64 129, .int .i64 4, .int .i64 vp1, .int .i64 vp1, .string d1.s] 385 (0, 0)))); have HN1 := H_ (at1 U1 (.cells #[.int .i64 129, .int .i64 4, .int .i64 vp1, .int .i64 vp1, .string d1.s] 385 (0, 0))); have HSv : (fun X : World => X.cell? ⟨sb, 2, none⟩ = some (.slice (some ⟨rb, 0, none⟩) 1 1)) (U1.alloc (.cells #[.int .i64 129, .int .i64 4, .int .i64 vp1, .int .i64 vp1, .string d1.s] 385 (0, 0))) := cellOf K1.out.sbk 2 _ rfl; refine hK _ _ (fun _ => HSv) ?_
     try simp only [aZ, aA, aE, aB, aC, aD]
     refine hend 5 ?_; simp only [aF, aG]
     go_wp2_with (first
      | (
       at_builtin; refine wpl_append_rules rfl _ _ rfl _ ([⟨3, 4, vp, vp, peer.s⟩]) rfl K1.out.rrow _ [⟨129, 4, vp1, vp1, d1.s⟩] rfl ((RRow.one ⟨129, 4, vp1, vp1, d1.s⟩ HN1.out (Nat.le_refl _)).rls (show 1 <= maxLen by decide)) (by intro n c h; cases h) (by simp) (by have := (Array.getElem?_eq_some_iff.1 K1.out.sbk).1; have := K1.out.hsb; omega) ?_
       intro pv1 T1 r5 k5 o5; obtain ⟨ra1, rc1, rfl⟩ := r5.form; have r5 : RRow T1 _ (.slice ra1 2 rc1) ([⟨3, 4, vp, vp, peer.s⟩] ++ [⟨129, 4, vp1, vp1, d1.s⟩]) := r5; have o5 : (Value.ownBlock (.slice ra1 2 rc1) = _ \/ _) := o5; have I1 := H_ (K1.out.app k5 r5 o5); have y4 := (k5.block sb (Array.getElem?_eq_some_iff.1 K1.out.sbk).1 (fun he => K1.out.ne1 sb he rfl)).trans K1.out.sbk; have u2 := cellOf y4 2 _ rfl; have f2 := fun o => fzOf y4 o; have p0 := cellOf I1.out.x3 0 (.int .u8 (d2.a.toNat : Int)) rfl; have p1 := cellOf I1.out.x3 1 (.int .u8 (d2.b.toNat : Int)) rfl; have p2 := cellOf I1.out.x3 2 (.int .u8 (d2.c.toNat : Int)) rfl; have p3 := cellOf I1.out.x3 3 (.int .u8 (d2.d.toNat : Int)) rfl; have s0 := cellOf I1.out.sbk 0 _ rfl; have s1 := cellOf I1.out.sbk 1 _ rfl; have s2 := cellOf I1.out.sbk 2 _ rfl; have s3 := cellOf I1.out.sbk 3 _ rfl; have s4 := cellOf I1.out.sbk 4 _ rfl; have s5 := cellOf I1.out.sbk 5 _ rfl; have s6 := cellOf I1.out.sbk 6 _ rfl; have s7 := cellOf I1.out.sbk 7 _ rfl
       clear r5 k5 o5 y4))
     have hI := I1.out; have hP : Rls _ (fun b => w.heap.size <= b) _ (([⟨3, 4, vp, vp, peer.s⟩] ++ [⟨129, 4, vp1, vp1, d1.s⟩])) := Rec.mono (hI.rrow.rls (by unfold maxLen; simp)) (fun b hb => by have hb : w.heap.size + 1 + 1 + 1 + 1 <= b := hb; omega); have hN := new_at [⟨3, own.s⟩] [] ([⟨3, 4, vp, vp, peer.s⟩] ++ [⟨129, 4, vp1, vp1, d1.s⟩]) [] _ _ _ _ (fun b => w.heap.size <= b) cf tm fl wt _ (hI.orow.opts (show 1 <= maxLen by decide)) (Rec.nil _ _ _) hP (Rec.nil _ _ _) (fun n c h => by cases h; rfl) (fun n c h => by have hR := hI.rrow; rw [h] at hR; exact hR.nil0) (by decide) (by simp) (by decide) (inB20_true.2 HA.out.1) (inB20_true.2 HA.out.2.1) HA.out.2.2.1.1 HA.out.2.2.1.2 HA.out.2.2.2.1 HA.out.2.2.2.2 (fun o ho => by simp only [List.mem_singleton] at ho; subst ho; show 4 <= 100000; decide) rfl rfl (by rw [List.nil_append]; have := HW.out.2.1; rw [HR.out] at this; exact this) (by rw [List.nil_append]; have := HW.out.2.2; rw [HR.out] at this; exact this); have HN := H_ hN; have HBL := H_ hI.bl; clear hN hI hP
     try go_wp2_with fail
     refine HN.out.mono ?_; rintro e w9 ⟨v, rfl, B, jb, rfl, h1, h2, h3, h4, h5⟩; have H9 := H_ (A_ h1 (A_ h2 (A_ h3 (A_ h4 h5)))); clear h1 h2 h3 h4 h5; go_wp2_with fail; go_ret2; rw [HR.out]; have hsz := HBL.out.size; exact ⟨_, rfl, B, jb, rfl, H9.out.1.mono (fun b hb => Nat.le_trans hsz hb), H9.out.2.1, Nat.le_trans hsz H9.out.2.2.1, H9.out.2.2.2.1, HBL.out.trans (H9.out.2.2.2.2.mono hsz)⟩
    | false =>
     go_wp2_with fail; refine wp_region_H (rgH 1 5) (fun X : World => X.cell? ⟨sb, 2, none⟩ = some (.slice (some ⟨rb, 0, none⟩) 1 1)) (by kernel_rfl) ?_; have HSv : (fun X : World => X.cell? ⟨sb, 2, none⟩ = some (.slice (some ⟨rb, 0, none⟩) 1 1)) w'.drew := s2; refine hatP 0 rfl (by intro W _; go_simp; try rfl) ?_; simp only [aZ, aC, aD]; refine hatH 1 rfl (by rintro W h0; go_simp; try rfl) HSv ?_; simp only [aZ, aC, aD]; refine hone 2 rfl fun K hK => ?_
     try go_simp
     refine hK _ _ (fun _ => HSv) ?_
     try simp only [aZ, aA, aE, aB, aC, aD]
     clear HSv s0 s1 s2 s3 s4 s5 s6 s7 p0 p1 p2 p3 q0 q1 q2 q3; refine hone 3 rfl fun K hK => ?_
     try go_simp
     go_at_call 304; refine (HJ1.out _).mono ?_; rintro e U1 ⟨rfl, hb⟩; have J1 := H_ ((I0.out.go (Below.refl _ _).drew).go hb); have HSv : (fun X : World => X.cell? ⟨sb, 2, none⟩ = some (.slice (some ⟨rb, 0, none⟩) 1 1)) U1 := cellOf J1.out.sbk 2 _ rfl; clear hb; refine hK _ _ (fun _ => HSv) ?_
     try simp only [aZ, aA, aE, aB, aC, aD]
     refine hone 4 rfl fun K hK => ?_
     try go_simp
     have K1 := H_ (J1.out.go ((Below.refl _ _).alloc (Nat.le_refl _) (.cells #[.int .i64 129, .int .i64 4, .int .i64 vp1, .int .i64 vp1, .string d1.s] 385 (0, 0)))); have HN1 := H_ (at1 U1 (.cells #[.int .i64 129, .int .i64 4, .int .i64 vp1, .int .i64 vp1, .string d1.s] 385 (0, 0))); have HSv : (fun X : World => X.cell? ⟨sb, 2, none⟩ = some (.slice (some ⟨rb, 0, none⟩) 1 1)) (U1.alloc (.cells #[.int .i64 129, .int .i64 4, .int .i64 vp1, .int .i64 vp1, .string d1.s] 385 (0, 0))) := cellOf K1.out.sbk 2 _ rfl; refine hK _ _ (fun _ => HSv) ?_
     try simp only [aZ, aA, aE, aB, aC, aD]
     refine hend 5 ?_; simp only [aF, aG]
     go_wp2_with (first
      | (
       at_builtin; refine wpl_append_rules rfl _ _ rfl _ ([⟨3, 4, vp, vp, peer.s⟩]) rfl K1.out.rrow _ [⟨129, 4, vp1, vp1, d1.s⟩] rfl ((RRow.one ⟨129, 4, vp1, vp1, d1.s⟩ HN1.out (Nat.le_refl _)).rls (show 1 <= maxLen by decide)) (by intro n c h; cases h) (by simp) (by have := (Array.getElem?_eq_some_iff.1 K1.out.sbk).1; have := K1.out.hsb; omega) ?_
       intro pv1 T1 r5 k5 o5; obtain ⟨ra1, rc1, rfl⟩ := r5.form; have r5 : RRow T1 _ (.slice ra1 2 rc1) ([⟨3, 4, vp, vp, peer.s⟩] ++ [⟨129, 4, vp1, vp1, d1.s⟩]) := r5; have o5 : (Value.ownBlock (.slice ra1 2 rc1) = _ \/ _) := o5; have I1 := H_ (K1.out.app k5 r5 o5); have y4 := (k5.block sb (Array.getElem?_eq_some_iff.1 K1.out.sbk).1 (fun he => K1.out.ne1 sb he rfl)).trans K1.out.sbk; have u2 := cellOf y4 2 _ rfl; have f2 := fun o => fzOf y4 o; have p0 := cellOf I1.out.x3 0 (.int .u8 (d2.a.toNat : Int)) rfl; have p1 := cellOf I1.out.x3 1 (.int .u8 (d2.b.toNat : Int)) rfl; have p2 := cellOf I1.out.x3 2 (.int .u8 (d2.c.toNat : Int)) rfl; have p3 := cellOf I1.out.x3 3 (.int .u8 (d2.d.toNat : Int)) rfl; have s0 := cellOf I1.out.sbk 0 _ rfl; have s1 := cellOf I1.out.sbk 1 _ rfl; have s2 := cellOf I1.out.sbk 2 _ rfl; have s3 := cellOf I1.out.sbk 3 _ rfl; have s4 := cellOf I1.out.sbk 4 _ rfl; have s5 := cellOf I1.out.sbk 5 _ rfl; have s6 := cellOf I1.out.sbk 6 _ rfl; have s7 := cellOf I1.out.sbk 7 _ rfl
       clear r5 k5 o5 y4))
     refine wp_region_H (rgH 1 5) (fun X : World => X.cell? ⟨sb, 2, none⟩ = some (.slice ra1 2 rc1)) (by kernel_rfl) ?_; have HSv : (fun X : World => X.cell? ⟨sb, 2, none⟩ = some (.slice ra1 2 rc1)) (T1.setCell ⟨sb, 2, none⟩ (.slice ra1 2 rc1)).drew := s2; refine hatP 0 rfl (by intro W _; go_simp; try rfl) ?_; simp only [aZ, aC, aD]; refine hatH 1 rfl (by rintro W h0; go_simp; try rfl) HSv ?_; simp only [aZ, aC, aD]; refine hone 2 rfl fun K hK => ?_
     try go_simp
     refine hK _ _ (fun _ => HSv) ?_
     try simp only [aZ, aA, aE, aB, aC, aD]
     clear HSv s0 s1 s2 s3 s4 s5 s6 s7 p0 p1 p2 p3; refine hone 3 rfl fun K hK => ?_
     try go_simp
     go_at_call 304; refine (HJ2.out _).mono ?_; rintro e U2 ⟨rfl, hb⟩; have J2 := H_ ((I1.out.go (Below.refl _ _).drew).go hb); have HSv : (fun X : World => X.cell? ⟨sb, 2, none⟩ = some (.slice ra1 2 rc1)) U2 := cellOf J2.out.sbk 2 _ rfl; clear hb; refine hK _ _ (fun _ => HSv) ?_
     try simp only [aZ, aA, aE, aB, aC, aD]
     refine hone 4 rfl fun K hK => ?_
     try go_simp
     have K2 := H_ (J2.out.go ((Below.refl _ _).alloc (Nat.le_refl _) (.cells #[.int .i64 131, .int .i64 4, .int .i64 vp2, .int .i64 vp2, .string d2.s] 385 (0, 0)))); have HN2 := H_ (at1 U2 (.cells #[.int .i64 131, .int .i64 4, .int .i64 vp2, .int .i64 vp2, .string d2.s] 385 (0, 0))); have HSv : (fun X : World => X.cell? ⟨sb, 2, none⟩ = some (.slice ra1 2 rc1)) (U2.alloc (.cells #[.int .i64 131, .int .i64 4, .int .i64 vp2, .int .i64 vp2, .string d2.s] 385 (0, 0))) := cellOf K2.out.sbk 2 _ rfl; refine hK _ _ (fun _ => HSv) ?_
     try simp only [aZ, aA, aE, aB, aC, aD]
     refine hend 5 ?_; simp only [aF, aG]
     go_wp2_with (first
      | (
       at_builtin; refine wpl_append_rules rfl _ _ rfl _ (([⟨3, 4, vp, vp, peer.s⟩] ++ [⟨129, 4, vp1, vp1, d1.s⟩])) rfl K2.out.rrow _ [⟨131, 4, vp2, vp2, d2.s⟩] rfl ((RRow.one ⟨131, 4, vp2, vp2, d2.s⟩ HN2.out (Nat.le_refl _)).rls (show 1 <= maxLen by decide)) (by intro n c h; cases h) (by simp) (by have := (Array.getElem?_eq_some_iff.1 K2.out.sbk).1; have := K2.out.hsb; omega) ?_
       intro pv2 T2 r5 k5 o5; obtain ⟨ra2, rc2, rfl⟩ := r5.form; have r5 : RRow T2 _ (.slice ra2 3 rc2) (([⟨3, 4, vp, vp, peer.s⟩] ++ [⟨129, 4, vp1, vp1, d1.s⟩]) ++ [⟨131, 4, vp2, vp2, d2.s⟩]) := r5; have o5 : (Value.ownBlock (.slice ra2 3 rc2) = _ \/ _) := o5; have I2 := H_ (K2.out.app k5 r5 o5); have y4 := (k5.block sb (Array.getElem?_eq_some_iff.1 K2.out.sbk).1 (fun he => K2.out.ne1 sb he rfl)).trans K2.out.sbk; have u2 := cellOf y4 2 _ rfl; have f2 := fun o => fzOf y4 o; have s0 := cellOf I2.out.sbk 0 _ rfl; have s1 := cellOf I2.out.sbk 1 _ rfl; have s2 := cellOf I2.out.sbk 2 _ rfl; have s3 := cellOf I2.out.sbk 3 _ rfl; have s4 := cellOf I2.out.sbk 4 _ rfl; have s5 := cellOf I2.out.sbk 5 _ rfl; have s6 := cellOf I2.out.sbk 6 _ rfl; have s7 := cellOf I2.out.sbk 7 _ rfl
       clear r5 k5 o5 y4))
     have hI := I2.out; have hP : Rls _ (fun b => w.heap.size <= b) _ ((([⟨3, 4, vp, vp, peer.s⟩] ++ [⟨129, 4, vp1, vp1, d1.s⟩]) ++ [⟨131, 4, vp2, vp2, d2.s⟩])) := Rec.mono (hI.rrow.rls (by unfold maxLen; simp)) (fun b hb => by have hb : w.heap.size + 1 + 1 + 1 + 1 <= b := hb; omega); have hN := new_at [⟨3, own.s⟩] [] (([⟨3, 4, vp, vp, peer.s⟩] ++ [⟨129, 4, vp1, vp1, d1.s⟩]) ++ [⟨131, 4, vp2, vp2, d2.s⟩]) [] _ _ _ _ (fun b => w.heap.size <= b) cf tm fl wt _ (hI.orow.opts (show 1 <= maxLen by decide)) (Rec.nil _ _ _) hP (Rec.nil _ _ _) (fun n c h => by cases h; rfl) (fun n c h => by have hR := hI.rrow; rw [h] at hR; exact hR.nil0) (by decide) (by simp) (by decide) (inB20_true.2 HA.out.1) (inB20_true.2 HA.out.2.1) HA.out.2.2.1.1 HA.out.2.2.1.2 HA.out.2.2.2.1 HA.out.2.2.2.2 (fun o ho => by simp only [List.mem_singleton] at ho; subst ho; show 4 <= 100000; decide) rfl rfl (by rw [List.nil_append]; have := HW.out.2.1; rw [HR.out] at this; exact this) (by rw [List.nil_append]; have := HW.out.2.2; rw [HR.out] at this; exact this); have HN := H_ hN; have HBL := H_ hI.bl; clear hN hI hP
     try go_wp2_with fail
     refine HN.out.mono ?_; rintro e w9 ⟨v, rfl, B, jb, rfl, h1, h2, h3, h4, h5⟩; have H9 := H_ (A_ h1 (A_ h2 (A_ h3 (A_ h4 h5)))); clear h1 h2 h3 h4 h5; go_wp2_with fail; go_ret2; rw [HR.out]; have hsz := HBL.out.size; exact ⟨_, rfl, B, jb, rfl, H9.out.1.mono (fun b hb => Nat.le_trans hsz hb), H9.out.2.1, Nat.le_trans hsz H9.out.2.2.1, H9.out.2.2.2.1, HBL.out.trans (H9.out.2.2.2.2.mono hsz)⟩
end Go.Proofs.YtgoahafndefhgaaGreat
