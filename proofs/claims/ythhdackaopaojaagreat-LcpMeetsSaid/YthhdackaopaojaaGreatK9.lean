import Derived.Test.YthhdackaopaojaaGreatV7
import Derived.Test.YthhdackaopaojaaGreatTgHeld3
import Derived.Laws.EntriesVeiled
import Derived.Laws.IdiomStrings
import Derived.Test.YthhdackaopaojaaGreatV47
import Derived.Test.YthhdackaopaojaaGreatV20
/- Lcp's small functions: value, put, in, units, magics, config; the tape. -/
namespace Go.Proofs.YthhdackaopaojaaGreat
open Go.RowKit Go.Tg Go.Maps

theorem ktK : Tryz.prog.keyTypeAt 3 93 = true := by kernel_rfl
theorem szK : decide (93 < Tryz.prog.types.size) = true := by kernel_rfl
theorem wdK : (match Tryz.prog.underlying 93 with | some (.array _ _) | some (.struct _) => true | _ => false) = true := by kernel_rfl
set_option maxRecDepth 100000 in
theorem keyedK : Keyed Tryz.prog 93 := Keyed.of_law (deep_law_laid laidOut (m := 3) (by omega) (of_decide_eq_true szK) ktK wdK)
def kindV (p : Int) : Value := .agg #[.int .i64 p, .bool true]
theorem kvK (a : Int) (ha : I64 a) : KV Tryz.prog 93 (kindV a) := by
  unfold KV kindV
  have ha' : (Lit.int .i64 a).wf = true := by first | exact ha | (unfold I64 at ha; simp [Lit.wf, IntKind.min, IntKind.max, IntKind.signed, IntKind.bits]; omega)
  have h1 : Tryz.prog.keyType 93 = true := by kernel_rfl
  have h3 : (Value.agg #[Value.int .i64 a, Value.bool true]).formed Tryz.prog 93 = true := by kernel_rfl
  have h2 : (Tryz.prog.keyLits (Tryz.prog.types.size + 1) 93 (Value.agg #[Value.int .i64 a, Value.bool true]).cells.toList) = some [.int .i64 a, .bool true] := by
    obtain ⟨d, hd⟩ : ∃ d, Tryz.prog.types.size + 1 = d + 2 := ⟨Tryz.prog.types.size - 1, by kernel_rfl⟩
    have c48 : Tryz.prog.cellsOf 93 = 2 := by kernel_rfl
    have c3 : Tryz.prog.cellsOf 3 = 1 := by kernel_rfl
    have c4 : Tryz.prog.cellsOf 4 = 1 := by kernel_rfl
    have cs : (Value.agg #[Value.int .i64 a, Value.bool true]).cells.toList = [Value.int .i64 a, Value.bool true] := rfl
    rw [hd, cs]
    generalize hwa : (Lit.int .i64 a).wf = wa at ha'
    subst ha'
    simp [Program.keyLits, Tryz.underlying93, Tryz.underlying3, Tryz.underlying4, c48, c3, c4, hwa]
  simp only [keyOf, Tryz.underlying93, h1, h2, h3]
  exact ⟨_, rfl⟩

def papB : ByteArray := ⟨#[192, 35]⟩
def chapB : ByteArray := ⟨#[194, 35, 5]⟩
def noS : ByteArray := ⟨#[]⟩
/-- How an authentication is named. -/
def lvalS (p : Int) : ByteArray := if p = 49187 then papB else if p = 49699 then chapB else noS

theorem kindV_inj {a b : Int} (h : kindV a = kindV b) : a = b := by
  unfold kindV at h
  simpa using h

set_option maxHeartbeats 4000000 in
set_option maxRecDepth 100000 in
theorem lvalue_any (p : Int) (w : World) (hp : I64 p) : Calls Tryz.prog 33 #[.int .i64 p] w fun e w' => e = .returned (.string (lvalS p)) ∧ Below w.heap.size w w' := by
  have hmm := @run_makeMap Tryz.prog
  have hz : ∀ w, (zeroValue 9).run Tryz.prog w = .ok (.string noS) w := fun w => by kernel_rfl
  have hb1 : ∀ w, (Instr.build 93 #[(0, .int .i64 49187), (1, .bool true)]).run Tryz.prog w = .ok (kindV 49187) w := fun w => by kernel_rfl
  have hb2 : ∀ w, (Instr.build 93 #[(0, .int .i64 49699), (1, .bool true)]).run Tryz.prog w = .ok (kindV 49699) w := fun w => by kernel_rfl
  have hb3 : ∀ w, (Instr.build 93 #[(0, .int .i64 p), (1, .bool true)]).run Tryz.prog w = .ok (kindV p) w := fun w => by kernel_rfl
  have i1 : I64 49187 := by unfold I64; decide
  have i2 : I64 49699 := by unfold I64; decide
  have hm0 : MapAt Tryz.prog 93 ((w.alloc (.map #[] 0)).drew) w.heap.size (fun _ => none) := MapAt.empty w.drew
  obtain ⟨ea, ca, ua, ma⟩ := hm0.run_update keyedK Tryz.underlying94 (kvK 49187 i1) (.string papB)
  obtain ⟨eb, cb, ub, mb⟩ := ma.run_update keyedK Tryz.underlying94 (kvK 49699 i2) (.string chapB)
  have la := mb.run_lookup keyedK Tryz.underlying94 (kvK p hp) (hz _) false
  obtain ⟨ed, cd, ud, md⟩ := hm0.run_update keyedK Tryz.underlying94 (kvK 49699 i2) (.string chapB)
  obtain ⟨ee, ce, ue, me⟩ := md.run_update keyedK Tryz.underlying94 (kvK 49187 i1) (.string papB)
  have lb := me.run_lookup keyedK Tryz.underlying94 (kvK p hp) (hz _) false
  have h12 : kindV 49187 ≠ kindV 49699 := fun h => absurd (kindV_inj h) (by decide)
  have ra : ((upd (upd (fun _ => none) (kindV 49187) (.string papB)) (kindV 49699) (.string chapB)) (kindV p)).getD (.string noS) = .string (lvalS p) := by
    unfold lvalS
    by_cases h1 : p = 49187
    · subst h1; rw [upd_other _ _ h12, upd_same]; rfl
    · by_cases h2 : p = 49699
      · subst h2; rw [upd_same]; rfl
      · rw [upd_other _ _ (fun h => h2 (kindV_inj h)), upd_other _ _ (fun h => h1 (kindV_inj h)), if_neg h1, if_neg h2]; rfl
  have rb : ((upd (upd (fun _ => none) (kindV 49699) (.string chapB)) (kindV 49187) (.string papB)) (kindV p)).getD (.string noS) = .string (lvalS p) := by
    unfold lvalS
    by_cases h1 : p = 49187
    · subst h1; rw [upd_same]; rfl
    · by_cases h2 : p = 49699
      · subst h2; rw [upd_other _ _ (fun h => h12 h.symm), upd_same]; rfl
      · rw [upd_other _ _ (fun h => h1 (kindV_inj h)), upd_other _ _ (fun h => h2 (kindV_inj h)), if_neg h1, if_neg h2]; rfl
  simp only [Bool.false_eq_true, if_false] at la lb
  rw [ra] at la
  rw [rb] at lb
  have hk0 : Below w.heap.size w ((w.alloc (.map #[] 0)).drew) := ((Below.refl w.heap.size w).alloc (Nat.le_refl _) (.map #[] 0)).drew
  have kk : ∀ (W : World) (o : Obj), Below w.heap.size w W → Below w.heap.size w (ChangeMaps.setBlock W w.heap.size o) := fun W o hW =>
    hW.trans (((Keep.refl (· = w.heap.size) W).setBlock w.heap.size (Or.inr rfl) o).below hW.size (fun k hk e => by omega))
  have HB := Lib.hid (And.intro (kk _ (.map eb cb) (kk _ (.map ea ca) hk0)) (kk _ (.map ee ce) (kk _ (.map ed cd) hk0)))
  clear kk hk0 hm0 ma mb md me ra rb h12 hz
  generalize hS1 : ChangeMaps.setBlock ((w.alloc (.map #[] 0)).drew) w.heap.size (.map ea ca) = S1 at *
  generalize hS2 : ChangeMaps.setBlock S1 w.heap.size (.map eb cb) = S2 at *
  generalize hS3 : ChangeMaps.setBlock ((w.alloc (.map #[] 0)).drew) w.heap.size (.map ed cd) = S3 at *
  generalize hS4 : ChangeMaps.setBlock S3 w.heap.size (.map ee ce) = S4 at *
  clear hS1 hS2 hS3 hS4
  unfold papB at ua ue
  unfold chapB at ub ud
  unfold kindV at ua ub ud ue la lb hb1 hb2 hb3
  generalize lvalS p = vp at *
  go_enter Tryz.func33, Tryz.ntmps33
  go_wp2_with fail
  refine wp_region_H (rgH 0 0) (fun _ => True) (by kernel_rfl) ?_
  refine wpAnyH_pure 1 (v := ?vv659) rfl (by kernel_rfl) (by kernel_rfl) (by kernel_rfl) (fun _ _ _ h => h) ?hy659 ?hh659
  case hy659 =>
    refine Or.inl ⟨by rfl, ?_⟩
    intro W _
    go_simp
    try with_reducible rfl
  simp only [Act.put, List.setIfInBounds_toArray, List.set_cons_zero, List.set_cons_succ]
  refine wpAnyH_pure 3 (v := ?vv660) rfl (by kernel_rfl) (by kernel_rfl) (by kernel_rfl) (fun _ _ _ h => h) ?hy660 ?hh660
  case hy660 =>
    refine Or.inl ⟨by rfl, ?_⟩
    intro W _
    go_simp
    try with_reducible rfl
  simp only [Act.put, List.setIfInBounds_toArray, List.set_cons_zero, List.set_cons_succ]
  refine wpAnyH_pure 6 (v := ?vv661) rfl (by kernel_rfl) (by kernel_rfl) (by kernel_rfl) (fun _ _ _ h => h) ?hy661 ?hh661
  case hy661 =>
    refine Or.inl ⟨by rfl, ?_⟩
    intro W _
    go_simp
    try with_reducible rfl
  simp only [Act.put, List.setIfInBounds_toArray, List.set_cons_zero, List.set_cons_succ]
  refine wpAnyH_pure 7 (v := ?vv662) rfl (by kernel_rfl) (by kernel_rfl) (by kernel_rfl) (fun _ _ _ h => h) ?hy662 ?hh662
  case hy662 =>
    refine Or.inl ⟨by rfl, ?_⟩
    intro W _
    go_simp
    try with_reducible rfl
  simp only [Act.put, List.setIfInBounds_toArray, List.set_cons_zero, List.set_cons_succ]
  refine wpAnyH_1 0 rfl (by kernel_rfl) ?_
  intro K hK
  rw [if_pos (by rfl)]
  try go_simp
  refine hK _ _ (fun _ => trivial) ?_
  try simp only [Act.put, List.setIfInBounds_toArray, List.set_cons_zero, List.set_cons_succ]
  refine wpAnyH_2 2 4 rfl rfl (by kernel_rfl) ?_ ?_
  · intro K hK
    rw [if_pos (by rfl)]
    go_simp
    refine hK _ _ (fun _ => trivial) ?_
    try simp only [Act.put, List.setIfInBounds_toArray, List.set_cons_zero, List.set_cons_succ]
    refine wpAnyH_1 4 rfl (by kernel_rfl) ?_
    intro K hK
    rw [if_pos (by rfl)]
    try go_simp
    refine hK _ _ (fun _ => trivial) ?_
    try simp only [Act.put, List.setIfInBounds_toArray, List.set_cons_zero, List.set_cons_succ]
    refine wpAnyH_1 5 rfl (by kernel_rfl) ?_
    intro K hK
    rw [if_pos (by rfl)]
    try go_simp
    refine hK _ _ (fun _ => trivial) ?_
    try simp only [Act.put, List.setIfInBounds_toArray, List.set_cons_zero, List.set_cons_succ]
    refine wpAnyH_1 8 rfl (by kernel_rfl) ?_
    intro K hK
    rw [if_pos (by rfl)]
    try go_simp
    refine hK _ _ (fun _ => trivial) ?_
    try simp only [Act.put, List.setIfInBounds_toArray, List.set_cons_zero, List.set_cons_succ]
    refine wpAnyH_end 9 (fun j hj => rgH_end _ _ j (by omega)) (by rfl) (by kernel_rfl) ?_
    simp only [List.drop_succ_cons, List.drop_zero]
    go_wp2_with fail
    go_ret
    exact ⟨rfl, HB.out.1⟩
  · intro K hK
    rw [if_pos (by rfl)]
    go_simp
    refine hK _ _ (fun _ => trivial) ?_
    try simp only [Act.put, List.setIfInBounds_toArray, List.set_cons_zero, List.set_cons_succ]
    refine wpAnyH_1 2 rfl (by kernel_rfl) ?_
    intro K hK
    rw [if_pos (by rfl)]
    try go_simp
    refine hK _ _ (fun _ => trivial) ?_
    try simp only [Act.put, List.setIfInBounds_toArray, List.set_cons_zero, List.set_cons_succ]
    refine wpAnyH_1 5 rfl (by kernel_rfl) ?_
    intro K hK
    rw [if_pos (by rfl)]
    try go_simp
    refine hK _ _ (fun _ => trivial) ?_
    try simp only [Act.put, List.setIfInBounds_toArray, List.set_cons_zero, List.set_cons_succ]
    refine wpAnyH_1 8 rfl (by kernel_rfl) ?_
    intro K hK
    rw [if_pos (by rfl)]
    try go_simp
    refine hK _ _ (fun _ => trivial) ?_
    try simp only [Act.put, List.setIfInBounds_toArray, List.set_cons_zero, List.set_cons_succ]
    refine wpAnyH_end 9 (fun j hj => rgH_end _ _ j (by omega)) (by rfl) (by kernel_rfl) ?_
    simp only [List.drop_succ_cons, List.drop_zero]
    go_wp2_with fail
    go_ret
    exact ⟨rfl, HB.out.2⟩
end Go.Proofs.YthhdackaopaojaaGreat

namespace Go.Proofs.YthhdackaopaojaaGreat
open Go.RowKit Go.Tg Go.Maps

def be2 (v : Nat) : ByteArray := ⟨#[UInt8.ofNat (v / 256), UInt8.ofNat v]⟩
def be4 (v : Nat) : ByteArray := ⟨#[UInt8.ofNat (v / 16777216), UInt8.ofNat (v / 65536), UInt8.ofNat (v / 256), UInt8.ofNat v]⟩

set_option maxHeartbeats 4000000 in
set_option maxRecDepth 100000 in
theorem lput2_any (v : Nat) (w : World) (hv : v < 65536) :
    Calls Tryz.prog 50 #[.int .i64 (v : Int), .int .i64 2] w fun e w' => e = .returned (.string (be2 v)) ∧ Below w.heap.size w w' := by
  have hmk : ∀ w, (Instr.makeSlice 55 (.int .i64 2) (.int .i64 2)).run Tryz.prog w = .ok (.slice (some ⟨w.heap.size, 0, none⟩) 2 2) (w.alloc (.cells #[.int .u8 0, .int .u8 0] 5 (0, 0))) := fun w => by kernel_rfl
  have hcv : (convert 55 9 (.slice (some ⟨w.heap.size, 0, none⟩) 2 2)).run Tryz.prog (w.alloc (.cells #[.int .u8 ((v : Int) / 256), .int .u8 ((v : Int) % 256)] 5 (0, 0))) = .ok (.string (be2 v)) (w.alloc (.cells #[.int .u8 ((v : Int) / 256), .int .u8 ((v : Int) % 256)] 5 (0, 0))) := by
    have hx := at1 w (.cells #[.int .u8 ((v : Int) / 256), .int .u8 ((v : Int) % 256)] 5 (0, 0))
    refine run_convert_bytes_back (P := Tryz.prog) _ 55 9 5 ⟨w.heap.size, 0, none⟩ 2 [UInt8.ofNat (v / 256), UInt8.ofNat v] Tryz.underlying55 Tryz.underlying5 Tryz.underlying9 (fun j hj => ?_)
    rw [Addr.add_lit, Nat.zero_add]
    have e1 : (UInt8.ofNat (v / 256)).toNat = v / 256 := by rw [UInt8.toNat_ofNat']; omega
    have e2 : (UInt8.ofNat v).toNat = v % 256 := by rw [UInt8.toNat_ofNat']
    match j, hj with
    | 0, _ => simp only [List.getElem_cons_zero]; rw [e1]; exact cellOf hx 0 _ (by simp)
    | 1, _ => simp only [List.getElem_cons_zero, List.getElem_cons_succ]; rw [e2]; exact cellOf hx 1 _ (by simp)
  go_enter Tryz.func50, Tryz.ntmps50
  go_wp2_with fail
  refine wp_loop_rounds 3 ?_
  rw [rounds_succ]
  go_wp2_with fail
  rw [rounds_succ]
  go_wp2_with fail
  rw [rounds_succ]
  go_wp2_with fail
  go_ret
  exact ⟨rfl, (Below.refl _ _).alloc (Nat.le_refl _) _⟩

set_option maxHeartbeats 4000000 in
set_option maxRecDepth 100000 in
theorem lput4_any (v : Nat) (w : World) (hv : v < 4294967296) :
    Calls Tryz.prog 50 #[.int .i64 (v : Int), .int .i64 4] w fun e w' => e = .returned (.string (be4 v)) ∧ Below w.heap.size w w' := by
  have hmk : ∀ w, (Instr.makeSlice 55 (.int .i64 4) (.int .i64 4)).run Tryz.prog w = .ok (.slice (some ⟨w.heap.size, 0, none⟩) 4 4) (w.alloc (.cells #[.int .u8 0, .int .u8 0, .int .u8 0, .int .u8 0] 5 (0, 0))) := fun w => by kernel_rfl
  have hcv : (convert 55 9 (.slice (some ⟨w.heap.size, 0, none⟩) 4 4)).run Tryz.prog (w.alloc (.cells #[.int .u8 ((v : Int) / 16777216), .int .u8 ((v : Int) / 65536 % 256), .int .u8 ((v : Int) / 256 % 256), .int .u8 ((v : Int) % 256)] 5 (0, 0))) = .ok (.string (be4 v)) (w.alloc (.cells #[.int .u8 ((v : Int) / 16777216), .int .u8 ((v : Int) / 65536 % 256), .int .u8 ((v : Int) / 256 % 256), .int .u8 ((v : Int) % 256)] 5 (0, 0))) := by
    have hx := at1 w (.cells #[.int .u8 ((v : Int) / 16777216), .int .u8 ((v : Int) / 65536 % 256), .int .u8 ((v : Int) / 256 % 256), .int .u8 ((v : Int) % 256)] 5 (0, 0))
    refine run_convert_bytes_back (P := Tryz.prog) _ 55 9 5 ⟨w.heap.size, 0, none⟩ 4 [UInt8.ofNat (v / 16777216), UInt8.ofNat (v / 65536), UInt8.ofNat (v / 256), UInt8.ofNat v] Tryz.underlying55 Tryz.underlying5 Tryz.underlying9 (fun j hj => ?_)
    rw [Addr.add_lit, Nat.zero_add]
    match j, hj with
    | 0, _ => simp only [List.getElem_cons_zero]; rw [show (UInt8.ofNat (v / 16777216)).toNat = v / 16777216 by rw [UInt8.toNat_ofNat']; omega]; exact cellOf hx 0 _ (by simp)
    | 1, _ => simp only [List.getElem_cons_zero, List.getElem_cons_succ]; rw [UInt8.toNat_ofNat']; exact cellOf hx 1 _ (by simp)
    | 2, _ => simp only [List.getElem_cons_zero, List.getElem_cons_succ]; rw [UInt8.toNat_ofNat']; exact cellOf hx 2 _ (by simp)
    | 3, _ => simp only [List.getElem_cons_zero, List.getElem_cons_succ]; rw [UInt8.toNat_ofNat']; exact cellOf hx 3 _ (by simp)
  go_enter Tryz.func50, Tryz.ntmps50
  go_wp2_with fail
  refine wp_loop_rounds 5 ?_
  rw [rounds_succ]
  go_wp2_with fail
  rw [rounds_succ]
  go_wp2_with fail
  rw [rounds_succ]
  go_wp2_with fail
  rw [rounds_succ]
  go_wp2_with fail
  rw [rounds_succ]
  go_wp2_with fail
  go_ret
  exact ⟨rfl, (Below.refl _ _).alloc (Nat.le_refl _) _⟩
end Go.Proofs.YthhdackaopaojaaGreat

namespace Go.Proofs.YthhdackaopaojaaGreat
open Go.RowKit Go.Tg Go.Maps

theorem lin_any (n a b : Int) (w : World) : Calls Tryz.prog 32 #[.int .i64 n, .int .i64 a, .int .i64 b] w fun e w' => e = .returned (.bool (decide (a ≤ n) && decide (n ≤ b))) ∧ w = w' := by
  by_cases h1 : a ≤ n
  · have d1 : decide (a ≤ n) = true := by simpa using h1
    rw [d1]
    go_enter Tryz.func32, Tryz.ntmps32
    go_wp2
    go_ret
    exact ⟨by simp, rfl⟩
  · have d1 : decide (a ≤ n) = false := by simpa using h1
    rw [d1]
    go_enter Tryz.func32, Tryz.ntmps32
    go_wp2
    go_ret
    exact ⟨by simp, rfl⟩

theorem tmod_rest (v : Int) : (v.tmod 256 < 0 → wrap64 (v.tmod 256 + 256) = v % 256) ∧ (¬ v.tmod 256 < 0 → v.tmod 256 = v % 256) := by
  have e : v.tmod 256 = v % 256 - ((if 0 ≤ v ∨ (256 : Int) ∣ v then 0 else 256 : Nat) : Int) := @Int.tmod_eq_emod v 256
  unfold wrap64
  constructor <;> intro h1
  · rw [e] at h1 ⊢
    split at h1 <;> rename_i h2
    · omega
    · rw [if_neg h2]; omega
  · rw [e] at h1 ⊢
    split at h1 <;> rename_i h2
    · rw [if_pos h2]; omega
    · omega

set_option maxHeartbeats 4000000 in
theorem modulo_any (v : Int) (w : World) (hv : I64 v) : Calls Tryz.prog 119 #[.int .i64 v, .int .i64 256] w fun e w' => e = .returned (.int .i64 (v % 256)) ∧ w = w' := by
  have HR := Lib.hid (tmod_rest v)
  by_cases h : Int.tmod v 256 < 0
  · have d : decide (Int.tmod v 256 < 0) = true := by simpa using h
    have HE := Lib.hid (HR.out.1 h)
    clear h
    go_enter Tryz.func119, Tryz.ntmps119
    go_wp2_with fail
    go_ret
    rw [← HE.out]
    exact ⟨rfl, rfl⟩
  · have d : decide (Int.tmod v 256 < 0) = false := by simpa using h
    have HE := Lib.hid (HR.out.2 h)
    clear h
    go_enter Tryz.func119, Tryz.ntmps119
    go_wp2_with fail
    go_ret
    rw [← HE.out]
    exact ⟨rfl, rfl⟩

/-- The rule of units, of magic numbers. -/
def unitR (most : Int) : Rl := ⟨1, 2, 64, most, be2 1492⟩
def magicR : Rl := ⟨5, 4, 1, 4294967295, be4 1⟩
theorem units_any (m : Int) (w : World) : Calls Tryz.prog 35 #[.int .i64 m] w fun e w' => e = .returned (.agg #[.int .i64 1, .int .i64 2, .int .i64 64, .int .i64 m, .string (be2 1492)]) ∧ Below w.heap.size w w' := by
  have h := lput2_any 1492 (w.alloc (.cells #[.int .i64 0, .int .i64 0, .int .i64 0, .int .i64 0, .string ⟨#[]⟩] 73 (0, 0))) (by decide)
  have HP := Lib.hid h
  clear h
  have hX := at1 w (.cells #[.int .i64 0, .int .i64 0, .int .i64 0, .int .i64 0, .string ⟨#[]⟩] 73 (0, 0))
  have HX := Lib.hid (And.intro hX (And.intro (alloc1 w (.cells #[.int .i64 0, .int .i64 0, .int .i64 0, .int .i64 0, .string ⟨#[]⟩] 73 (0, 0))) ((Below.refl w.heap.size w).alloc (Nat.le_refl _) (.cells #[.int .i64 0, .int .i64 0, .int .i64 0, .int .i64 0, .string ⟨#[]⟩] 73 (0, 0)))))
  clear hX
  go_enter Tryz.func35, Tryz.ntmps35
  go_wp2_with fail
  refine HP.out.mono ?_
  rintro e w1 ⟨rfl, hb⟩
  have hx := (hb.block w.heap.size (by rw [HX.out.2.1]; omega)).trans HX.out.1
  have HX1 := Lib.hid (And.intro hx (HX.out.2.2.trans (hb.mono (by rw [HX.out.2.1]; omega))))
  have z := fun o => fzOf hx o
  have y0 : w1.cell? ⟨w.heap.size, 0, none⟩ = some (.int .i64 0) := cellOf hx 0 _ rfl
  have y1 : w1.cell? ⟨w.heap.size, 1, none⟩ = some (.int .i64 0) := cellOf hx 1 _ rfl
  have y2 : w1.cell? ⟨w.heap.size, 2, none⟩ = some (.int .i64 0) := cellOf hx 2 _ rfl
  have y3 : w1.cell? ⟨w.heap.size, 3, none⟩ = some (.int .i64 0) := cellOf hx 3 _ rfl
  have y4 : w1.cell? ⟨w.heap.size, 4, none⟩ = some (.string ⟨#[]⟩) := cellOf hx 4 _ rfl
  clear hb hx
  go_wp2_with fail
  refine bodyPost_ret (results_cell_row rfl _ _ w.heap.size 73 _ (0, 0) _ rfl (set5 HX1.out.1 _ _ _ _ _) Tryz.underlying73 rfl (by kernel_rfl)) rfl ?_
  exact ⟨rfl, below5 HX1.out.2 (Nat.le_refl _) _ _ _ _ _⟩
theorem magics_any (w : World) : Calls Tryz.prog 36 #[] w fun e w' => e = .returned (.agg #[.int .i64 5, .int .i64 4, .int .i64 1, .int .i64 4294967295, .string (be4 1)]) ∧ Below w.heap.size w w' := by
  have h := lput4_any 1 (w.alloc (.cells #[.int .i64 0, .int .i64 0, .int .i64 0, .int .i64 0, .string ⟨#[]⟩] 73 (0, 0))) (by decide)
  have HP := Lib.hid h
  clear h
  have hX := at1 w (.cells #[.int .i64 0, .int .i64 0, .int .i64 0, .int .i64 0, .string ⟨#[]⟩] 73 (0, 0))
  have HX := Lib.hid (And.intro hX (And.intro (alloc1 w (.cells #[.int .i64 0, .int .i64 0, .int .i64 0, .int .i64 0, .string ⟨#[]⟩] 73 (0, 0))) ((Below.refl w.heap.size w).alloc (Nat.le_refl _) (.cells #[.int .i64 0, .int .i64 0, .int .i64 0, .int .i64 0, .string ⟨#[]⟩] 73 (0, 0)))))
  clear hX
  go_enter Tryz.func36, Tryz.ntmps36
  go_wp2_with fail
  refine HP.out.mono ?_
  rintro e w1 ⟨rfl, hb⟩
  have hx := (hb.block w.heap.size (by rw [HX.out.2.1]; omega)).trans HX.out.1
  have HX1 := Lib.hid (And.intro hx (HX.out.2.2.trans (hb.mono (by rw [HX.out.2.1]; omega))))
  have z := fun o => fzOf hx o
  have y0 : w1.cell? ⟨w.heap.size, 0, none⟩ = some (.int .i64 0) := cellOf hx 0 _ rfl
  have y1 : w1.cell? ⟨w.heap.size, 1, none⟩ = some (.int .i64 0) := cellOf hx 1 _ rfl
  have y2 : w1.cell? ⟨w.heap.size, 2, none⟩ = some (.int .i64 0) := cellOf hx 2 _ rfl
  have y3 : w1.cell? ⟨w.heap.size, 3, none⟩ = some (.int .i64 0) := cellOf hx 3 _ rfl
  have y4 : w1.cell? ⟨w.heap.size, 4, none⟩ = some (.string ⟨#[]⟩) := cellOf hx 4 _ rfl
  clear hb hx
  go_wp2_with fail
  refine bodyPost_ret (results_cell_row rfl _ _ w.heap.size 73 _ (0, 0) _ rfl (set5 HX1.out.1 _ _ _ _ _) Tryz.underlying73 rfl (by kernel_rfl)) rfl ?_
  exact ⟨rfl, below5 HX1.out.2 (Nat.le_refl _) _ _ _ _ _⟩
theorem config_any (w : World) : Calls Tryz.prog 10 #[] w fun e w' => e = .returned (.agg #[.int .i64 1492, .int .i64 49699, .int .i64 7, .int .i64 0, .int .i64 5, .int .i64 2, .int .i64 5, .int .i64 3]) ∧ Below w.heap.size w w' := by
  go_enter Tryz.func10, Tryz.ntmps10
  go_wp2_with fail
  refine bodyPost_ret (results_cell_row rfl _ _ w.heap.size 24 _ (0, 0) _ rfl (at1 w _) Tryz.underlying24 rfl (by kernel_rfl)) rfl ?_
  exact ⟨rfl, (Below.refl _ _).alloc (Nat.le_refl _) _⟩
end Go.Proofs.YthhdackaopaojaaGreat

namespace Go.Proofs.YthhdackaopaojaaGreat
open Go.RowKit Go.Tg Go.Maps

/-- A tape: its numbers, and how often it was asked behind its end. -/
structure TpS where
  l : List Int
  asks : Int
def tpNext (t : TpS) : Int × TpS := match t.l with
  | [] => (wrap64 (7 * wrap64 (t.asks + 1)) % 256, ⟨[], wrap64 (t.asks + 1)⟩)
  | x :: r => (x % 256, ⟨r, t.asks⟩)
def TapeAt (w : World) (tb : Nat) (ok : Nat → Prop) (t : TpS) : Prop :=
  ∃ tv, w.heap[tb]? = some (.cells #[tv, .int .i64 t.asks] 82 (0, 0)) ∧ Nums w ok tv t.l ∧ (∀ x ∈ t.l, I64 x) ∧ (∀ b, ok b → b ≠ tb) ∧ I64 t.asks ∧ t.l.length ≤ 1000000

theorem Nums.tail {w : World} {ok : Nat → Prop} {sa : Option Addr} {n c : Nat} {x : Int} {l : List Int} (h : Nums w ok (.slice sa n c) (x :: l)) :
    ∃ b off, sa = some ⟨b, off, none⟩ ∧ n = l.length + 1 ∧ Nums w ok (.slice (some ⟨b, off + 1, none⟩) l.length (c - 1)) l := by
  obtain ⟨h0, sa', c', hv, hc, hm, h | ⟨b, off, hs, hb, hk, hr⟩⟩ := h
  · cases h
  · cases hv
    simp only [intL, List.map_cons, List.length_cons, List.length_map] at hc hr
    refine ⟨b, off, hs, by simp [intL], fun y hy => h0 y (by simp only [intL, List.map_cons, List.mem_cons]; exact .inr hy), some ⟨b, off + 1, none⟩, c - 1, by rw [intL_len], by rw [intL_len]; omega, by omega, Or.inr ⟨b, off + 1, rfl, hb, hk, fun i hi j u hu => ?_⟩⟩
    have hi' : i < l.length := by rw [intL_len] at hi; exact hi
    have := hr (i + 1) (by omega) j u (by simpa [intL] using hu)
    have e : off + 1 + i * 1 + j = off + (i + 1) * 1 + j := by omega
    rw [e]; exact this

theorem TapeAt.keep {T : Nat → Prop} {w w' : World} {tb : Nat} {ok : Nat → Prop} {t : TpS} (h : TapeAt w tb ok t) (hk : Keep T w w') (h1 : ¬ T tb) (h2 : ∀ b, b < w.heap.size → ok b → ¬ T b) : TapeAt w' tb ok t := by
  obtain ⟨tv, a, b, c⟩ := h
  exact ⟨tv, (hk.block _ (Array.getElem?_eq_some_iff.1 a).1 h1).trans a, Rec.keep b hk h2, c⟩
theorem TapeAt.below {w w' : World} {tb : Nat} {ok : Nat → Prop} {t : TpS} (h : TapeAt w tb ok t) (hk : Below w.heap.size w w') : TapeAt w' tb ok t := h.keep (Keep.of_below (fun _ => False) hk) (fun h => h) (fun _ _ _ h => h)
theorem TapeAt.lt {w : World} {tb : Nat} {ok : Nat → Prop} {t : TpS} (h : TapeAt w tb ok t) : tb < w.heap.size := by
  obtain ⟨tv, a, _⟩ := h
  exact (Array.getElem?_eq_some_iff.1 a).1
theorem wrap_I64 (x : Int) : I64 (wrap64 x) := by
  unfold I64 wrap64
  simp only [Lit.wf, IntKind.min, IntKind.max, IntKind.signed, IntKind.bits, Bool.and_eq_true, decide_eq_true_eq, if_true]
  omega

set_option maxHeartbeats 4000000 in
set_option maxRecDepth 100000 in
theorem tnext_any (tb : Nat) (ok : Nat → Prop) (t : TpS) (w : World) (h : TapeAt w tb ok t) :
    Calls Tryz.prog 106 #[.pointer (some ⟨tb, 0, none⟩), .int .i64 256] w fun e w' => e = .returned (.int .i64 (tpNext t).1) ∧ TapeAt w' tb ok (tpNext t).2 ∧ Keep (fun b => b = tb) w w' := by
  have q1 : ∀ w a, (binOp .eql 31 (.pointer (some a)) (.pointer none)).run Tryz.prog w = .ok (.bool false) w := fun w a => by kernel_rfl
  obtain ⟨tv, hb, hn, hi, hne, ha, hl⟩ := h
  obtain ⟨tl, ta⟩ := t
  dsimp only at *
  have f0 : w.frozen? ⟨tb, 0, none⟩ = false := fzOf hb 0
  have f1 : w.frozen? ⟨tb, 1, none⟩ = false := fzOf hb 1
  have hlt := (Array.getElem?_eq_some_iff.1 hb).1
  cases tl with
  | nil =>
    obtain ⟨sa, c, rfl, hc, hcm⟩ := hn.form
    unfold maxLen at hcm
    have g0 : w.cell? ⟨tb, 0, none⟩ = some (.slice sa 0 c) := cellOf hb 0 _ rfl
    have g1 : w.cell? ⟨tb, 1, none⟩ = some (.int .i64 ta) := cellOf hb 1 _ rfl
    have HM := Lib.hid (fun w => modulo_any (wrap64 (7 * wrap64 (ta + 1))) w (wrap_I64 _))
    have hk := (Keep.refl (fun b => b = tb) w).setCell ⟨tb, 1, none⟩ (Or.inr rfl) (.int .i64 (wrap64 (ta + 1)))
    have HT := Lib.hid (And.intro (show TapeAt (w.setCell ⟨tb, 1, none⟩ (.int .i64 (wrap64 (ta + 1)))) tb ok ⟨[], wrap64 (ta + 1)⟩ from ⟨_, set_block hb 1 _, Rec.keep hn hk (fun b _ hb he => hne b hb he), (fun _ h => (by cases h)), hne, wrap_I64 _, Nat.zero_le _⟩) hk)
    have HE := Lib.hid (show tpNext ⟨[], ta⟩ = (wrap64 (7 * wrap64 (ta + 1)) % 256, ⟨[], wrap64 (ta + 1)⟩) from rfl)
    clear hb hn hi hne hk
    go_enter Tryz.func106, Tryz.ntmps106
    go_wp2_with fail
    refine (HM.out _).mono ?_
    rintro e w1 ⟨rfl, rfl⟩
    go_wp2_with fail
    go_ret
    rw [HE.out]
    exact ⟨rfl, HT.out⟩
  | cons x l =>
    obtain ⟨sa, c, rfl, hc, hcm⟩ := hn.form
    obtain ⟨b, off, rfl, -, ht⟩ := hn.tail
    obtain ⟨b', off', e', hb', hx⟩ := hn.at 0 (by simp)
    cases e'
    have hbb : b ≠ tb := by
      obtain ⟨b2, off2, e2, -, hk2, -⟩ := Rec.at hn 0 (by simp [intL])
      cases e2
      exact hne b hk2
    rw [List.length_cons] at *
    unfold maxLen at hcm
    have g0 : w.cell? ⟨tb, 0, none⟩ = some (.slice (some ⟨b, off, none⟩) (l.length + 1) c) := cellOf hb 0 _ rfl
    have g2 : w.cell? ⟨b, off, none⟩ = some (.int .i64 x) := by simpa using hx
    have HM := Lib.hid (fun w => modulo_any x w (hi x (List.mem_cons_self ..)))
    have HT := Lib.hid (fun (v' : Value) (hv' : Nums w ok v' l) => (And.intro (show TapeAt (w.setCell ⟨tb, 0, none⟩ v') tb ok ⟨l, ta⟩ from ⟨_, set_block hb 0 _, Rec.keep hv' ((Keep.refl (fun b => b = tb) w).setCell ⟨tb, 0, none⟩ (Or.inr rfl) v') (fun b _ hb he => hne b hb he), (fun y hy => hi y (List.mem_cons_of_mem _ hy)), hne, ha, by dsimp only; omega⟩) ((Keep.refl (fun b => b = tb) w).setCell ⟨tb, 0, none⟩ (Or.inr rfl) v')))
    have HE := Lib.hid (show tpNext ⟨x :: l, ta⟩ = (x % 256, ⟨l, ta⟩) from rfl)
    have HN := Lib.hid ht
    have HZ : Hid (c = 1 → l = [] ∧ l.length = 0) := Lib.hid (fun h => by
      have : l.length = 0 := by omega
      exact ⟨List.eq_nil_of_length_eq_zero this, this⟩)
    clear hb hn hi hne ht hx hb' ha
    generalize hnl : l.length = n at *
    by_cases hc1 : c = 1
    · obtain ⟨rfl, rfl⟩ := HZ.out hc1
      subst hc1
      go_enter Tryz.func106, Tryz.ntmps106
      go_wp2_with fail
      refine (HM.out _).mono ?_
      rintro e w1 ⟨rfl, rfl⟩
      go_wp2_with fail
      go_ret
      rw [HE.out]
      exact ⟨rfl, HT.out _ ⟨(fun _ h => by cases h), some ⟨b, off, none⟩, 0, rfl, Nat.le_refl _, Nat.zero_le _, Or.inl rfl⟩⟩
    · clear HZ
      go_enter Tryz.func106, Tryz.ntmps106
      go_wp2_with fail
      refine (HM.out _).mono ?_
      rintro e w1 ⟨rfl, rfl⟩
      go_wp2_with fail
      go_ret
      rw [HE.out]
      exact ⟨rfl, HT.out _ HN.out⟩
end Go.Proofs.YthhdackaopaojaaGreat

namespace Go.Proofs.YthhdackaopaojaaGreat
open Go.RowKit Go.Tg Go.Maps

/-- Four draws, as bytes. -/
def byteOf (x : Int) : UInt8 := UInt8.ofNat x.toNat
def tp4 (t : TpS) : ByteArray × TpS :=
  let a := tpNext t
  let b := tpNext a.2
  let c := tpNext b.2
  let d := tpNext c.2
  (⟨#[byteOf a.1, byteOf b.1, byteOf c.1, byteOf d.1]⟩, d.2)
theorem tpNext_bd (t : TpS) : 0 ≤ (tpNext t).1 ∧ (tpNext t).1 < 256 := by
  unfold tpNext
  split <;> dsimp only <;> omega
theorem byteOf_nat (x : Int) (h : 0 ≤ x ∧ x < 256) : ((byteOf x).toNat : Int) = x := by
  unfold byteOf
  rw [UInt8.toNat_ofNat']
  omega

set_option maxHeartbeats 8000000 in
set_option maxRecDepth 100000 in
theorem bytes4_old (tb : Nat) (ok : Nat → Prop) (t : TpS) (w : World) (h : TapeAt w tb ok t) (OKW : ∀ b, ok b → b ≠ w.heap.size) :
    Calls Tryz.prog 98 #[.pointer (some ⟨tb, 0, none⟩), .int .i64 4] w fun e w' => e = .returned (.string (tp4 t).1) ∧ TapeAt w' tb ok (tp4 t).2 ∧ Keep (fun b => b = tb) w w' := by
  have hmk : ∀ w, (Instr.makeSlice 55 (.int .i64 4) (.int .i64 4)).run Tryz.prog w = .ok (.slice (some ⟨w.heap.size, 0, none⟩) 4 4) (w.alloc (.cells #[.int .u8 0, .int .u8 0, .int .u8 0, .int .u8 0] 5 (0, 0))) := fun w => by kernel_rfl
  have hcv : ∀ (W : World) (b : Nat) (x0 x1 x2 x3 : Int), 0 ≤ x0 ∧ x0 < 256 → 0 ≤ x1 ∧ x1 < 256 → 0 ≤ x2 ∧ x2 < 256 → 0 ≤ x3 ∧ x3 < 256 → W.heap[b]? = some (.cells #[.int .u8 x0, .int .u8 x1, .int .u8 x2, .int .u8 x3] 5 (0, 0)) →
      (convert 55 9 (.slice (some ⟨b, 0, none⟩) 4 4)).run Tryz.prog W = .ok (.string ⟨#[byteOf x0, byteOf x1, byteOf x2, byteOf x3]⟩) W := by
    intro W b x0 x1 x2 x3 h0 h1 h2 h3 hx
    refine run_convert_bytes_back (P := Tryz.prog) _ 55 9 5 ⟨b, 0, none⟩ 4 [byteOf x0, byteOf x1, byteOf x2, byteOf x3] Tryz.underlying55 Tryz.underlying5 Tryz.underlying9 (fun j hj => ?_)
    have e : (⟨b, 0, none⟩ : Addr).add j = ⟨b, j, none⟩ := by rw [Addr.add_lit, Nat.zero_add]
    rw [e]
    match j, hj with
    | 0, _ => simp only [List.getElem_cons_zero]; rw [byteOf_nat _ h0]; exact cellOf hx 0 _ rfl
    | 1, _ => simp only [List.getElem_cons_zero, List.getElem_cons_succ]; rw [byteOf_nat _ h1]; exact cellOf hx 1 _ rfl
    | 2, _ => simp only [List.getElem_cons_zero, List.getElem_cons_succ]; rw [byteOf_nat _ h2]; exact cellOf hx 2 _ rfl
    | 3, _ => simp only [List.getElem_cons_zero, List.getElem_cons_succ]; rw [byteOf_nat _ h3]; exact cellOf hx 3 _ rfl
  have HCV := Lib.hid hcv
  have hb1 := (Below.refl w.heap.size w).alloc (Nat.le_refl _) (.cells #[.int .u8 0, .int .u8 0, .int .u8 0, .int .u8 0] 5 (0, 0))
  have H1 := Lib.hid (And.intro (tnext_any tb ok t _ (h.below hb1)) (And.intro hb1 (And.intro (at1 w (.cells #[.int .u8 0, .int .u8 0, .int .u8 0, .int .u8 0] 5 (0, 0))) h.lt)))
  have HSZ := Lib.hid (alloc1 w (.cells #[.int .u8 0, .int .u8 0, .int .u8 0, .int .u8 0] 5 (0, 0)))
  have HV := Lib.hid (show tp4 t = (⟨#[byteOf (tpNext t).1, byteOf (tpNext (tpNext t).2).1, byteOf (tpNext (tpNext (tpNext t).2).2).1, byteOf (tpNext (tpNext (tpNext (tpNext t).2).2).2).1]⟩, (tpNext (tpNext (tpNext (tpNext t).2).2).2).2) from rfl)
  have B1 := tpNext_bd t
  have B2 := tpNext_bd (tpNext t).2
  have B3 := tpNext_bd (tpNext (tpNext t).2).2
  have B4 := tpNext_bd (tpNext (tpNext (tpNext t).2).2).2
  generalize tp4 t = r at *
  generalize hx1 : tpNext t = y1 at *
  generalize hx2 : tpNext y1.2 = y2 at *
  generalize hx3 : tpNext y2.2 = y3 at *
  generalize hx4 : tpNext y3.2 = y4 at *
  obtain ⟨x1, t1⟩ := y1
  obtain ⟨x2, t2⟩ := y2
  obtain ⟨x3, t3⟩ := y3
  obtain ⟨x4, t4⟩ := y4
  dsimp only at *
  have HX := Lib.hid (And.intro hx2 (And.intro hx3 hx4))
  clear h hb1 hcv hx1 hx2 hx3 hx4
  have wr8 : ∀ x : Int, 0 ≤ x ∧ x < 256 → IntKind.u8.wrap x = x := fun x h => by unfold IntKind.wrap; simp [IntKind.bits, IntKind.signed]; omega
  have e1 := wr8 x1 B1
  have e2 := wr8 x2 B2
  have e3 := wr8 x3 B3
  have e4 := wr8 x4 B4
  clear wr8
  go_enter Tryz.func98, Tryz.ntmps98
  go_wp2_with fail
  refine wp_loop_rounds 5 ?_
  rw [rounds_succ]
  go_wp2_with fail
  refine H1.out.1.mono ?_
  rintro e w1 ⟨rfl, a1, k1⟩
  have z1 := (k1.block w.heap.size (by rw [HSZ.out]; omega) (fun he => by have := H1.out.2.2.2; omega)).trans H1.out.2.2.1
  have hk1 := (Keep.of_below (fun b => b = tb) H1.out.2.1).trans k1
  have y1 := fzOf z1 0
  have y1' : w1.cell? ⟨w.heap.size, 0, none⟩ = some (.int .u8 0) := cellOf z1 0 _ rfl
  have zz := set_block z1 0 (.int .u8 x1)
  have hkk := hk1.setCell ⟨w.heap.size, 0, none⟩ (Or.inl (Nat.le_refl _)) (.int .u8 x1)
  have tt := a1.keep ((Keep.refl (fun b => b = w.heap.size) w1).setCell ⟨w.heap.size, 0, none⟩ (Or.inr rfl) (.int .u8 x1)) (fun he => by have := H1.out.2.2.2; omega) (fun b hb ho he => OKW b ho he)
  go_wp2_with fail
  generalize w1.setCell ⟨w.heap.size, 0, none⟩ (.int .u8 x1) = v1 at zz hkk tt ⊢
  have HC2 := Lib.hid (And.intro (tnext_any tb ok _ _ tt) (And.intro zz hkk))
  rw [HX.out.1] at HC2
  clear a1 k1 z1 hk1 y1 y1' zz hkk tt
  rw [rounds_succ]
  go_wp2_with fail
  refine HC2.out.1.mono ?_
  rintro e w2 ⟨rfl, a2, k2⟩
  have z2 := (k2.block w.heap.size (Array.getElem?_eq_some_iff.1 HC2.out.2.1).1 (fun he => by have := H1.out.2.2.2; omega)).trans HC2.out.2.1
  have hk2 := HC2.out.2.2.trans k2
  have y2 := fzOf z2 1
  have y2' : w2.cell? ⟨w.heap.size, 1, none⟩ = some (.int .u8 0) := cellOf z2 1 _ rfl
  have zz := set_block z2 1 (.int .u8 x2)
  have hkk := hk2.setCell ⟨w.heap.size, 1, none⟩ (Or.inl (Nat.le_refl _)) (.int .u8 x2)
  have tt := a2.keep ((Keep.refl (fun b => b = w.heap.size) w2).setCell ⟨w.heap.size, 1, none⟩ (Or.inr rfl) (.int .u8 x2)) (fun he => by have := H1.out.2.2.2; omega) (fun b hb ho he => OKW b ho he)
  go_wp2_with fail
  generalize w2.setCell ⟨w.heap.size, 1, none⟩ (.int .u8 x2) = v2 at zz hkk tt ⊢
  have HC3 := Lib.hid (And.intro (tnext_any tb ok _ _ tt) (And.intro zz hkk))
  rw [HX.out.2.1] at HC3
  clear a2 k2 z2 hk2 y2 y2' zz hkk tt
  rw [rounds_succ]
  go_wp2_with fail
  refine HC3.out.1.mono ?_
  rintro e w3 ⟨rfl, a3, k3⟩
  have z3 := (k3.block w.heap.size (Array.getElem?_eq_some_iff.1 HC3.out.2.1).1 (fun he => by have := H1.out.2.2.2; omega)).trans HC3.out.2.1
  have hk3 := HC3.out.2.2.trans k3
  have y3 := fzOf z3 2
  have y3' : w3.cell? ⟨w.heap.size, 2, none⟩ = some (.int .u8 0) := cellOf z3 2 _ rfl
  have zz := set_block z3 2 (.int .u8 x3)
  have hkk := hk3.setCell ⟨w.heap.size, 2, none⟩ (Or.inl (Nat.le_refl _)) (.int .u8 x3)
  have tt := a3.keep ((Keep.refl (fun b => b = w.heap.size) w3).setCell ⟨w.heap.size, 2, none⟩ (Or.inr rfl) (.int .u8 x3)) (fun he => by have := H1.out.2.2.2; omega) (fun b hb ho he => OKW b ho he)
  go_wp2_with fail
  generalize w3.setCell ⟨w.heap.size, 2, none⟩ (.int .u8 x3) = v3 at zz hkk tt ⊢
  have HC4 := Lib.hid (And.intro (tnext_any tb ok _ _ tt) (And.intro zz hkk))
  rw [HX.out.2.2] at HC4
  clear a3 k3 z3 hk3 y3 y3' zz hkk tt
  rw [rounds_succ]
  go_wp2_with fail
  refine HC4.out.1.mono ?_
  rintro e w4 ⟨rfl, a4, k4⟩
  have z4 := (k4.block w.heap.size (Array.getElem?_eq_some_iff.1 HC4.out.2.1).1 (fun he => by have := H1.out.2.2.2; omega)).trans HC4.out.2.1
  have hk4 := HC4.out.2.2.trans k4
  have y4 := fzOf z4 3
  have y4' : w4.cell? ⟨w.heap.size, 3, none⟩ = some (.int .u8 0) := cellOf z4 3 _ rfl
  have zz := set_block z4 3 (.int .u8 x4)
  have hkk := hk4.setCell ⟨w.heap.size, 3, none⟩ (Or.inl (Nat.le_refl _)) (.int .u8 x4)
  have tt := a4.keep ((Keep.refl (fun b => b = w.heap.size) w4).setCell ⟨w.heap.size, 3, none⟩ (Or.inr rfl) (.int .u8 x4)) (fun he => by have := H1.out.2.2.2; omega) (fun b hb ho he => OKW b ho he)
  have hcv := HCV.out _ w.heap.size x1 x2 x3 x4 B1 B2 B3 B4 zz
  have HD := Lib.hid (And.intro tt hkk)
  clear a4 k4 z4 hk4 zz hkk tt
  go_wp2_with fail
  rw [rounds_succ]
  go_wp2_with fail
  go_ret
  rw [HV.out]
  exact ⟨rfl, HD.out⟩

theorem TapeAt.old {w : World} {tb : Nat} {ok : Nat → Prop} {t : TpS} (h : TapeAt w tb ok t) : TapeAt w tb (fun b => ok b ∧ b < w.heap.size) t := by
  obtain ⟨tv, a, b, c, d, e⟩ := h
  exact ⟨tv, a, Rec.old b, c, fun b hb => d b hb.1, e⟩
theorem TapeAt.mono {w : World} {tb : Nat} {ok ok' : Nat → Prop} {t : TpS} (h : TapeAt w tb ok t) (hm : ∀ b, ok b → ok' b) (hn : ∀ b, ok' b → b ≠ tb) : TapeAt w tb ok' t := by
  obtain ⟨tv, a, b, c, d, e⟩ := h
  exact ⟨tv, a, Rec.mono b hm, c, hn, e⟩
theorem bytes4_any (tb : Nat) (ok : Nat → Prop) (t : TpS) (w : World) (h : TapeAt w tb ok t) :
    Calls Tryz.prog 98 #[.pointer (some ⟨tb, 0, none⟩), .int .i64 4] w fun e w' => e = .returned (.string (tp4 t).1) ∧ TapeAt w' tb ok (tp4 t).2 ∧ Keep (fun b => b = tb) w w' := by
  have hn : ∀ b, ok b → b ≠ tb := by obtain ⟨_, _, _, _, d, _⟩ := h; exact d
  refine (bytes4_old tb _ t w h.old (fun b hb => by omega)).mono ?_
  rintro e w' ⟨h1, h2, h3⟩
  exact ⟨h1, h2.mono (fun b hb => hb.1) hn, h3⟩
end Go.Proofs.YthhdackaopaojaaGreat

namespace Go.Proofs.YthhdackaopaojaaGreat
open Go.RowKit Go.Tg Go.Maps

theorem tl_eq (a b : ByteArray) : (a.toList == b.toList) = decide (a = b) := by
  by_cases h : a = b
  · subst h; simp
  · have : ¬ a.toList = b.toList := by
      intro e
      rw [ByteArray.toList_eq, ByteArray.toList_eq] at e
      exact h (ByteArray.ext (Array.ext' e))
    simp [this, h]
/-- The authentication that is named. -/
def protoS (l : List Opt) : Int := if (findO l 3).isSome then (if ((findO l 3).getD default).v = papB then 49187 else if ((findO l 3).getD default).v = chapB then 49699 else 0) else 0

set_option maxHeartbeats 4000000 in
set_option maxRecDepth 100000 in
theorem proto_any (l : List Opt) (lv : Value) (ok : Nat → Prop) (w : World) (hl : Opts w ok lv l) (hmax : l.length ≤ 1000000) :
    Calls Tryz.prog 59 #[lv] w fun e w' => e = .returned (.int .i64 (protoS l)) ∧ Below w.heap.size w w' := by
  obtain ⟨sa, c, rfl, hc, hm⟩ := hl.form
  have HF := Lib.hid (findO_any l _ ok 3 w hl hmax)
  have HP := Lib.hid (show protoS l = (if (findO l 3).isSome then (if ((findO l 3).getD default).v = papB then 49187 else if ((findO l 3).getD default).v = chapB then 49699 else 0) else 0) from rfl)
  have V1 := Lib.hid (fun w => lvalue_any 49187 w (by unfold I64; decide))
  have V2 := Lib.hid (fun w => lvalue_any 49699 w (by unfold I64; decide))
  rw [show lvalS 49187 = papB from rfl] at V1
  rw [show lvalS 49699 = chapB from rfl] at V2
  generalize ((findO l 3).getD default).v = s at *
  generalize (findO l 3).isSome = y at *
  generalize protoS l = r at *
  clear hl
  cases y with
  | false =>
    simp only [Bool.false_eq_true, if_false] at HP
    go_enter Tryz.func59, Tryz.ntmps59
    go_wp2_with (refine HF.out.mono ?_; rintro e w1 ⟨rfl, hb⟩; have HB := Lib.hid hb; clear hb)
    refine wp_loop_rounds 3 ?_
    rw [rounds_succ]
    go_wp2_with fail
    rw [rounds_succ]
    go_wp2_with fail
    rw [rounds_succ]
    go_wp2_with fail
    go_ret
    rw [HP.out]
    exact ⟨rfl, HB.out.alloc HB.out.size _⟩
  | true =>
    simp only [if_true] at HP
    go_enter Tryz.func59, Tryz.ntmps59
    go_wp2_with (refine HF.out.mono ?_; rintro e w1 ⟨rfl, hb⟩; have HB := Lib.hid hb; clear hb)
    have HA := Lib.hid (And.intro (at1 w1 (.cells #[.int .i64 49187, .int .i64 49699] 3 (0, 0))) (HB.out.alloc HB.out.size (.cells #[.int .i64 49187, .int .i64 49699] 3 (0, 0))))
    refine wp_loop_rounds 3 ?_
    rw [rounds_succ]
    go_wp2_with fail
    refine (V1.out _).mono ?_
    rintro e w2 ⟨rfl, b2⟩
    have z2 := (b2.block w1.heap.size (by rw [alloc1]; omega)).trans HA.out.1
    have HB2 := Lib.hid (And.intro z2 (HA.out.2.trans (b2.mono HA.out.2.size)))
    have y1 : w2.cell? ⟨w1.heap.size, 1, none⟩ = some (.int .i64 49699) := cellOf z2 1 _ rfl
    clear b2 z2
    by_cases h1 : s = papB
    · rw [if_pos h1] at HP
      subst h1
      go_wp2_with fail
      go_ret
      rw [HP.out]
      exact ⟨rfl, HB2.out.2⟩
    · rw [if_neg h1] at HP
      have d1 : (s.toList == papB.toList) = false := by rw [tl_eq]; simpa using h1
      clear h1
      go_wp2_with fail
      rw [rounds_succ]
      go_wp2_with fail
      refine (V2.out _).mono ?_
      rintro e w3 ⟨rfl, b3⟩
      have HB3 := Lib.hid (HB2.out.2.trans (b3.mono HB2.out.2.size))
      clear b3
      by_cases h2 : s = chapB
      · rw [if_pos h2] at HP
        subst h2
        go_wp2_with fail
        go_ret
        rw [HP.out]
        exact ⟨rfl, HB3.out⟩
      · rw [if_neg h2] at HP
        have d2 : (s.toList == chapB.toList) = false := by rw [tl_eq]; simpa using h2
        clear h2
        go_wp2_with fail
        rw [rounds_succ]
        go_wp2_with fail
        go_ret
        rw [HP.out]
        exact ⟨rfl, HB3.out⟩
end Go.Proofs.YthhdackaopaojaaGreat

namespace Go.Proofs.YthhdackaopaojaaGreat
open Go.RowKit Go.Tg Go.Maps

def pB2 (v : Int) : ByteArray := ⟨#[byteOf (v / 256 % 256), byteOf (v % 256)]⟩
def pB4 (v : Int) : ByteArray := ⟨#[byteOf (v / 16777216 % 256), byteOf (v / 65536 % 256), byteOf (v / 256 % 256), byteOf (v % 256)]⟩
theorem md (x : Int) : 0 ≤ x % 256 ∧ x % 256 < 256 := by omega

set_option maxHeartbeats 4000000 in
set_option maxRecDepth 100000 in
theorem lputI2 (v : Int) (w : World) :
    Calls Tryz.prog 50 #[.int .i64 v, .int .i64 2] w fun e w' => e = .returned (.string (pB2 v)) ∧ Below w.heap.size w w' := by
  have hmk : ∀ w, (Instr.makeSlice 55 (.int .i64 2) (.int .i64 2)).run Tryz.prog w = .ok (.slice (some ⟨w.heap.size, 0, none⟩) 2 2) (w.alloc (.cells #[.int .u8 0, .int .u8 0] 5 (0, 0))) := fun w => by kernel_rfl
  have hcv : (convert 55 9 (.slice (some ⟨w.heap.size, 0, none⟩) 2 2)).run Tryz.prog (w.alloc (.cells #[.int .u8 (v / 256 % 256), .int .u8 (v % 256)] 5 (0, 0))) = .ok (.string (pB2 v)) (w.alloc (.cells #[.int .u8 (v / 256 % 256), .int .u8 (v % 256)] 5 (0, 0))) := by
    have hx := at1 w (.cells #[.int .u8 (v / 256 % 256), .int .u8 (v % 256)] 5 (0, 0))
    refine run_convert_bytes_back (P := Tryz.prog) _ 55 9 5 ⟨w.heap.size, 0, none⟩ 2 [byteOf (v / 256 % 256), byteOf (v % 256)] Tryz.underlying55 Tryz.underlying5 Tryz.underlying9 (fun j hj => ?_)
    rw [Addr.add_lit, Nat.zero_add]
    match j, hj with
    | 0, _ => simp only [List.getElem_cons_zero]; rw [byteOf_nat _ (md _)]; exact cellOf hx 0 _ rfl
    | 1, _ => simp only [List.getElem_cons_zero, List.getElem_cons_succ]; rw [byteOf_nat _ (md _)]; exact cellOf hx 1 _ rfl
  go_enter Tryz.func50, Tryz.ntmps50
  go_wp2_with fail
  refine wp_loop_rounds 3 ?_
  rw [rounds_succ]
  go_wp2_with fail
  rw [rounds_succ]
  go_wp2_with fail
  rw [rounds_succ]
  go_wp2_with fail
  go_ret
  exact ⟨rfl, (Below.refl _ _).alloc (Nat.le_refl _) _⟩

set_option maxHeartbeats 4000000 in
set_option maxRecDepth 100000 in
theorem lputI4 (v : Int) (w : World) :
    Calls Tryz.prog 50 #[.int .i64 v, .int .i64 4] w fun e w' => e = .returned (.string (pB4 v)) ∧ Below w.heap.size w w' := by
  have hmk : ∀ w, (Instr.makeSlice 55 (.int .i64 4) (.int .i64 4)).run Tryz.prog w = .ok (.slice (some ⟨w.heap.size, 0, none⟩) 4 4) (w.alloc (.cells #[.int .u8 0, .int .u8 0, .int .u8 0, .int .u8 0] 5 (0, 0))) := fun w => by kernel_rfl
  have hcv : (convert 55 9 (.slice (some ⟨w.heap.size, 0, none⟩) 4 4)).run Tryz.prog (w.alloc (.cells #[.int .u8 (v / 16777216 % 256), .int .u8 (v / 65536 % 256), .int .u8 (v / 256 % 256), .int .u8 (v % 256)] 5 (0, 0))) = .ok (.string (pB4 v)) (w.alloc (.cells #[.int .u8 (v / 16777216 % 256), .int .u8 (v / 65536 % 256), .int .u8 (v / 256 % 256), .int .u8 (v % 256)] 5 (0, 0))) := by
    have hx := at1 w (.cells #[.int .u8 (v / 16777216 % 256), .int .u8 (v / 65536 % 256), .int .u8 (v / 256 % 256), .int .u8 (v % 256)] 5 (0, 0))
    refine run_convert_bytes_back (P := Tryz.prog) _ 55 9 5 ⟨w.heap.size, 0, none⟩ 4 [byteOf (v / 16777216 % 256), byteOf (v / 65536 % 256), byteOf (v / 256 % 256), byteOf (v % 256)] Tryz.underlying55 Tryz.underlying5 Tryz.underlying9 (fun j hj => ?_)
    rw [Addr.add_lit, Nat.zero_add]
    match j, hj with
    | 0, _ => simp only [List.getElem_cons_zero]; rw [byteOf_nat _ (md _)]; exact cellOf hx 0 _ rfl
    | 1, _ => simp only [List.getElem_cons_zero, List.getElem_cons_succ]; rw [byteOf_nat _ (md _)]; exact cellOf hx 1 _ rfl
    | 2, _ => simp only [List.getElem_cons_zero, List.getElem_cons_succ]; rw [byteOf_nat _ (md _)]; exact cellOf hx 2 _ rfl
    | 3, _ => simp only [List.getElem_cons_zero, List.getElem_cons_succ]; rw [byteOf_nat _ (md _)]; exact cellOf hx 3 _ rfl
  go_enter Tryz.func50, Tryz.ntmps50
  go_wp2_with fail
  refine wp_loop_rounds 5 ?_
  rw [rounds_succ]
  go_wp2_with fail
  rw [rounds_succ]
  go_wp2_with fail
  rw [rounds_succ]
  go_wp2_with fail
  rw [rounds_succ]
  go_wp2_with fail
  rw [rounds_succ]
  go_wp2_with fail
  go_ret
  exact ⟨rfl, (Below.refl _ _).alloc (Nat.le_refl _) _⟩

/-- A config. -/
structure LCfg where
  mru : Int
  auth : Int
  magic : Int
  echo : Int
  cf : Int
  tm : Int
  fl : Int
  wt : Int
def cfgV (c : LCfg) : Value := .agg #[.int .i64 c.mru, .int .i64 c.auth, .int .i64 c.magic, .int .i64 c.echo, .int .i64 c.cf, .int .i64 c.tm, .int .i64 c.fl, .int .i64 c.wt]
def optsS1 (c : LCfg) : List Opt := if c.mru = 1492 then [] else [⟨1, pB2 c.mru⟩]
def optsS2 (c : LCfg) : List Opt := if c.auth = 0 then optsS1 c else optsS1 c ++ [⟨3, lvalS c.auth⟩]
/-- What is asked for. -/
def optsS (c : LCfg) : List Opt := if c.magic = 0 then optsS2 c else optsS2 c ++ [⟨5, pB4 c.magic⟩]

end Go.Proofs.YthhdackaopaojaaGreat

namespace Go.Proofs.YthhdackaopaojaaGreat
open Go.RowKit Go.Tg Go.Maps

structure OI (w W : World) (cs : Array Value) (rv : Value) (l : List Opt) : Prop where
  blk : W.heap[w.heap.size]? = some (.cells cs 24 (0, 0))
  row : ORow W (w.heap.size + 1) rv l
  bel : Below w.heap.size w W
theorem OI.sz {w W : World} {cs : Array Value} {rv : Value} {l : List Opt} (h : OI w W cs rv l) : w.heap.size + 1 ≤ W.heap.size := (Array.getElem?_eq_some_iff.1 h.blk).1
theorem OI.go {w W W' : World} {cs : Array Value} {rv : Value} {l : List Opt} (h : OI w W cs rv l) (hb : Below W.heap.size W W') : OI w W' cs rv l :=
  ⟨(hb.block _ h.sz).trans h.blk, h.row.below hb, h.bel.trans (hb.mono (Nat.le_of_succ_le h.sz))⟩
theorem OI.al {w W : World} {cs : Array Value} {rv : Value} {l : List Opt} (h : OI w W cs rv l) (o : Obj) : OI w (W.alloc o) cs rv l := h.go ((Below.refl _ _).alloc (Nat.le_refl _) o)
theorem OI.app {w W W' : World} {cs : Array Value} {rv rv' : Value} {l l' : List Opt} (h : OI w W cs rv l) (hr : ORow W' (w.heap.size + 1) rv' l') (hk : Keep (fun k => rv.ownBlock = some k) W W') : OI w W' cs rv' l' :=
  ⟨(hk.block _ h.sz (fun he => by have := (h.row.lt _ he).2; omega)).trans h.blk, hr, h.bel.trans (hk.below (Nat.le_of_succ_le h.sz) (fun k hk he => by have := (h.row.lt _ he).2; omega))⟩

set_option maxHeartbeats 8000000 in
set_option maxRecDepth 100000 in
theorem lopts_000 (m au mg ec cf tm fl wt : Int) (w : World) (ha : I64 au) (h1 : m = 1492) (h2 : au = 0) (h3 : mg = 0) :
    Calls Tryz.prog 18 #[cfgV ⟨m, au, mg, ec, cf, tm, fl, wt⟩] w fun e w' => ∃ v, e = .returned v ∧ ORow w' w.heap.size v (optsS ⟨m, au, mg, ec, cf, tm, fl, wt⟩) ∧ Below w.heap.size w w' := by
  have HA := Lib.hid ha
  have HI : Hid (OI w (w.alloc (.cells #[.int .i64 m, .int .i64 au, .int .i64 mg, .int .i64 ec, .int .i64 cf, .int .i64 tm, .int .i64 fl, .int .i64 wt] 24 (0, 0))) #[.int .i64 m, .int .i64 au, .int .i64 mg, .int .i64 ec, .int .i64 cf, .int .i64 tm, .int .i64 fl, .int .i64 wt] (.slice none 0 0) []) :=
    Lib.hid ⟨at1 _ _, ORow.nil _ _, (Below.refl _ _).alloc (Nat.le_refl _) _⟩
  have HE := Lib.hid (show optsS ⟨m, au, mg, ec, cf, tm, fl, wt⟩ = ([] : List Opt) from by
    unfold optsS optsS2 optsS1
    simp [h1, h2, h3])
  generalize optsS ⟨m, au, mg, ec, cf, tm, fl, wt⟩ = R at *
  unfold cfgV
  dsimp only
  clear ha
  have e1 : (m != 1492) = false := by simpa using h1
  have e2 : (au != 0) = false := by simpa using h2
  have e3 : (mg != 0) = false := by simpa using h3
  clear h1 h2 h3
  go_enter Tryz.func18, Tryz.ntmps18
  go_wp2_with fail
  go_ret
  rw [HE.out]; exact ⟨_, rfl, (by have := HI.out.row.base (Nat.le_succ _); simpa using this), HI.out.bel⟩

set_option maxHeartbeats 8000000 in
set_option maxRecDepth 100000 in
theorem lopts_001 (m au mg ec cf tm fl wt : Int) (w : World) (ha : I64 au) (h1 : m = 1492) (h2 : au = 0) (h3 : ¬ mg = 0) :
    Calls Tryz.prog 18 #[cfgV ⟨m, au, mg, ec, cf, tm, fl, wt⟩] w fun e w' => ∃ v, e = .returned v ∧ ORow w' w.heap.size v (optsS ⟨m, au, mg, ec, cf, tm, fl, wt⟩) ∧ Below w.heap.size w w' := by
  have HA := Lib.hid ha
  have HI : Hid (OI w (w.alloc (.cells #[.int .i64 m, .int .i64 au, .int .i64 mg, .int .i64 ec, .int .i64 cf, .int .i64 tm, .int .i64 fl, .int .i64 wt] 24 (0, 0))) #[.int .i64 m, .int .i64 au, .int .i64 mg, .int .i64 ec, .int .i64 cf, .int .i64 tm, .int .i64 fl, .int .i64 wt] (.slice none 0 0) []) :=
    Lib.hid ⟨at1 _ _, ORow.nil _ _, (Below.refl _ _).alloc (Nat.le_refl _) _⟩
  have HE := Lib.hid (show optsS ⟨m, au, mg, ec, cf, tm, fl, wt⟩ = (([] : List Opt) ++ [⟨5, pB4 mg⟩]) from by
    unfold optsS optsS2 optsS1
    simp [h1, h2, h3])
  generalize optsS ⟨m, au, mg, ec, cf, tm, fl, wt⟩ = R at *
  unfold cfgV
  dsimp only
  clear ha
  have e1 : (m != 1492) = false := by simpa using h1
  have e2 : (au != 0) = false := by simpa using h2
  have e3 : (mg != 0) = true := by simpa using h3
  clear h1 h2 h3
  go_enter Tryz.func18, Tryz.ntmps18
  go_wp2_with (first
    | (go_at_call 50; refine (lputI4 _ _).mono ?_
       rintro e W1 ⟨rfl, b1⟩
       have HI := Lib.hid (HI.out.go b1)
       have c1 := cellOf HI.out.blk 1 _ rfl
       have c2 := cellOf HI.out.blk 2 _ rfl
       clear b1)
    | (at_builtin; refine wpl_append_opt rfl _ _ rfl _ _ rfl (HI.out.al _).row _ 1 _ _ rfl (at1 _ _) (by simp) (by rw [alloc1]; have := HI.out.sz; omega) ?_
       intro g cap W2 hr hk hg
       have HI := Lib.hid ((HI.out.al _).app hr hk)
       have c1 := cellOf HI.out.blk 1 _ rfl
       have c2 := cellOf HI.out.blk 2 _ rfl
       clear hr hk hg))
  go_ret
  rw [HE.out]; exact ⟨_, rfl, (by have := HI.out.row.base (Nat.le_succ _); simpa using this), HI.out.bel⟩

set_option maxHeartbeats 8000000 in
set_option maxRecDepth 100000 in
theorem lopts_010 (m au mg ec cf tm fl wt : Int) (w : World) (ha : I64 au) (h1 : m = 1492) (h2 : ¬ au = 0) (h3 : mg = 0) :
    Calls Tryz.prog 18 #[cfgV ⟨m, au, mg, ec, cf, tm, fl, wt⟩] w fun e w' => ∃ v, e = .returned v ∧ ORow w' w.heap.size v (optsS ⟨m, au, mg, ec, cf, tm, fl, wt⟩) ∧ Below w.heap.size w w' := by
  have HA := Lib.hid ha
  have HI : Hid (OI w (w.alloc (.cells #[.int .i64 m, .int .i64 au, .int .i64 mg, .int .i64 ec, .int .i64 cf, .int .i64 tm, .int .i64 fl, .int .i64 wt] 24 (0, 0))) #[.int .i64 m, .int .i64 au, .int .i64 mg, .int .i64 ec, .int .i64 cf, .int .i64 tm, .int .i64 fl, .int .i64 wt] (.slice none 0 0) []) :=
    Lib.hid ⟨at1 _ _, ORow.nil _ _, (Below.refl _ _).alloc (Nat.le_refl _) _⟩
  have HE := Lib.hid (show optsS ⟨m, au, mg, ec, cf, tm, fl, wt⟩ = (([] : List Opt) ++ [⟨3, lvalS au⟩]) from by
    unfold optsS optsS2 optsS1
    simp [h1, h2, h3])
  generalize optsS ⟨m, au, mg, ec, cf, tm, fl, wt⟩ = R at *
  unfold cfgV
  dsimp only
  clear ha
  have e1 : (m != 1492) = false := by simpa using h1
  have e2 : (au != 0) = true := by simpa using h2
  have e3 : (mg != 0) = false := by simpa using h3
  clear h1 h2 h3
  go_enter Tryz.func18, Tryz.ntmps18
  go_wp2_with (first
    | (go_at_call 33; refine (lvalue_any _ _ HA.out).mono ?_
       rintro e W1 ⟨rfl, b1⟩
       have HI := Lib.hid (HI.out.go b1)
       have c2 := cellOf HI.out.blk 2 _ rfl
       clear b1)
    | (at_builtin; refine wpl_append_opt rfl _ _ rfl _ _ rfl (HI.out.al _).row _ 1 _ _ rfl (at1 _ _) (by simp) (by rw [alloc1]; have := HI.out.sz; omega) ?_
       intro g cap W2 hr hk hg
       have HI := Lib.hid ((HI.out.al _).app hr hk)
       have c1 := cellOf HI.out.blk 1 _ rfl
       have c2 := cellOf HI.out.blk 2 _ rfl
       clear hr hk hg))
  go_ret
  rw [HE.out]; exact ⟨_, rfl, (by have := HI.out.row.base (Nat.le_succ _); simpa using this), HI.out.bel⟩

set_option maxHeartbeats 8000000 in
set_option maxRecDepth 100000 in
theorem lopts_011 (m au mg ec cf tm fl wt : Int) (w : World) (ha : I64 au) (h1 : m = 1492) (h2 : ¬ au = 0) (h3 : ¬ mg = 0) :
    Calls Tryz.prog 18 #[cfgV ⟨m, au, mg, ec, cf, tm, fl, wt⟩] w fun e w' => ∃ v, e = .returned v ∧ ORow w' w.heap.size v (optsS ⟨m, au, mg, ec, cf, tm, fl, wt⟩) ∧ Below w.heap.size w w' := by
  have HA := Lib.hid ha
  have HI : Hid (OI w (w.alloc (.cells #[.int .i64 m, .int .i64 au, .int .i64 mg, .int .i64 ec, .int .i64 cf, .int .i64 tm, .int .i64 fl, .int .i64 wt] 24 (0, 0))) #[.int .i64 m, .int .i64 au, .int .i64 mg, .int .i64 ec, .int .i64 cf, .int .i64 tm, .int .i64 fl, .int .i64 wt] (.slice none 0 0) []) :=
    Lib.hid ⟨at1 _ _, ORow.nil _ _, (Below.refl _ _).alloc (Nat.le_refl _) _⟩
  have HE := Lib.hid (show optsS ⟨m, au, mg, ec, cf, tm, fl, wt⟩ = ((([] : List Opt) ++ [⟨3, lvalS au⟩]) ++ [⟨5, pB4 mg⟩]) from by
    unfold optsS optsS2 optsS1
    simp [h1, h2, h3])
  generalize optsS ⟨m, au, mg, ec, cf, tm, fl, wt⟩ = R at *
  unfold cfgV
  dsimp only
  clear ha
  have e1 : (m != 1492) = false := by simpa using h1
  have e2 : (au != 0) = true := by simpa using h2
  have e3 : (mg != 0) = true := by simpa using h3
  clear h1 h2 h3
  go_enter Tryz.func18, Tryz.ntmps18
  go_wp2_with (first
    | (go_at_call 50; refine (lputI4 _ _).mono ?_
       rintro e W1 ⟨rfl, b1⟩
       have HI := Lib.hid (HI.out.go b1)
       have c1 := cellOf HI.out.blk 1 _ rfl
       have c2 := cellOf HI.out.blk 2 _ rfl
       clear b1)
    | (go_at_call 33; refine (lvalue_any _ _ HA.out).mono ?_
       rintro e W1 ⟨rfl, b1⟩
       have HI := Lib.hid (HI.out.go b1)
       have c2 := cellOf HI.out.blk 2 _ rfl
       clear b1)
    | (at_builtin; refine wpl_append_opt rfl _ _ rfl _ _ rfl (HI.out.al _).row _ 1 _ _ rfl (at1 _ _) (by simp) (by rw [alloc1]; have := HI.out.sz; omega) ?_
       intro g cap W2 hr hk hg
       have HI := Lib.hid ((HI.out.al _).app hr hk)
       have c1 := cellOf HI.out.blk 1 _ rfl
       have c2 := cellOf HI.out.blk 2 _ rfl
       clear hr hk hg))
  go_ret
  rw [HE.out]; exact ⟨_, rfl, (by have := HI.out.row.base (Nat.le_succ _); simpa using this), HI.out.bel⟩

set_option maxHeartbeats 8000000 in
set_option maxRecDepth 100000 in
theorem lopts_100 (m au mg ec cf tm fl wt : Int) (w : World) (ha : I64 au) (h1 : ¬ m = 1492) (h2 : au = 0) (h3 : mg = 0) :
    Calls Tryz.prog 18 #[cfgV ⟨m, au, mg, ec, cf, tm, fl, wt⟩] w fun e w' => ∃ v, e = .returned v ∧ ORow w' w.heap.size v (optsS ⟨m, au, mg, ec, cf, tm, fl, wt⟩) ∧ Below w.heap.size w w' := by
  have HA := Lib.hid ha
  have HI : Hid (OI w (w.alloc (.cells #[.int .i64 m, .int .i64 au, .int .i64 mg, .int .i64 ec, .int .i64 cf, .int .i64 tm, .int .i64 fl, .int .i64 wt] 24 (0, 0))) #[.int .i64 m, .int .i64 au, .int .i64 mg, .int .i64 ec, .int .i64 cf, .int .i64 tm, .int .i64 fl, .int .i64 wt] (.slice none 0 0) []) :=
    Lib.hid ⟨at1 _ _, ORow.nil _ _, (Below.refl _ _).alloc (Nat.le_refl _) _⟩
  have HE := Lib.hid (show optsS ⟨m, au, mg, ec, cf, tm, fl, wt⟩ = (([] : List Opt) ++ [⟨1, pB2 m⟩]) from by
    unfold optsS optsS2 optsS1
    simp [h1, h2, h3])
  generalize optsS ⟨m, au, mg, ec, cf, tm, fl, wt⟩ = R at *
  unfold cfgV
  dsimp only
  clear ha
  have e1 : (m != 1492) = true := by simpa using h1
  have e2 : (au != 0) = false := by simpa using h2
  have e3 : (mg != 0) = false := by simpa using h3
  clear h1 h2 h3
  go_enter Tryz.func18, Tryz.ntmps18
  go_wp2_with (first
    | (go_at_call 50; refine (lputI2 _ _).mono ?_
       rintro e W1 ⟨rfl, b1⟩
       have HI := Lib.hid (HI.out.go b1)
       have c1 := cellOf HI.out.blk 1 _ rfl
       have c2 := cellOf HI.out.blk 2 _ rfl
       clear b1)
    | (at_builtin; refine wpl_append_opt rfl _ _ rfl _ _ rfl (HI.out.al _).row _ 1 _ _ rfl (at1 _ _) (by simp) (by rw [alloc1]; have := HI.out.sz; omega) ?_
       intro g cap W2 hr hk hg
       have HI := Lib.hid ((HI.out.al _).app hr hk)
       have c1 := cellOf HI.out.blk 1 _ rfl
       have c2 := cellOf HI.out.blk 2 _ rfl
       clear hr hk hg))
  go_ret
  rw [HE.out]; exact ⟨_, rfl, (by have := HI.out.row.base (Nat.le_succ _); simpa using this), HI.out.bel⟩

set_option maxHeartbeats 8000000 in
set_option maxRecDepth 100000 in
theorem lopts_101 (m au mg ec cf tm fl wt : Int) (w : World) (ha : I64 au) (h1 : ¬ m = 1492) (h2 : au = 0) (h3 : ¬ mg = 0) :
    Calls Tryz.prog 18 #[cfgV ⟨m, au, mg, ec, cf, tm, fl, wt⟩] w fun e w' => ∃ v, e = .returned v ∧ ORow w' w.heap.size v (optsS ⟨m, au, mg, ec, cf, tm, fl, wt⟩) ∧ Below w.heap.size w w' := by
  have HA := Lib.hid ha
  have HI : Hid (OI w (w.alloc (.cells #[.int .i64 m, .int .i64 au, .int .i64 mg, .int .i64 ec, .int .i64 cf, .int .i64 tm, .int .i64 fl, .int .i64 wt] 24 (0, 0))) #[.int .i64 m, .int .i64 au, .int .i64 mg, .int .i64 ec, .int .i64 cf, .int .i64 tm, .int .i64 fl, .int .i64 wt] (.slice none 0 0) []) :=
    Lib.hid ⟨at1 _ _, ORow.nil _ _, (Below.refl _ _).alloc (Nat.le_refl _) _⟩
  have HE := Lib.hid (show optsS ⟨m, au, mg, ec, cf, tm, fl, wt⟩ = ((([] : List Opt) ++ [⟨1, pB2 m⟩]) ++ [⟨5, pB4 mg⟩]) from by
    unfold optsS optsS2 optsS1
    simp [h1, h2, h3])
  generalize optsS ⟨m, au, mg, ec, cf, tm, fl, wt⟩ = R at *
  unfold cfgV
  dsimp only
  clear ha
  have e1 : (m != 1492) = true := by simpa using h1
  have e2 : (au != 0) = false := by simpa using h2
  have e3 : (mg != 0) = true := by simpa using h3
  clear h1 h2 h3
  go_enter Tryz.func18, Tryz.ntmps18
  go_wp2_with (first
    | (go_at_call 50; first | with_reducible refine (lputI2 _ _).mono ?_ | with_reducible refine (lputI4 _ _).mono ?_
       rintro e W1 ⟨rfl, b1⟩
       have HI := Lib.hid (HI.out.go b1)
       have c1 := cellOf HI.out.blk 1 _ rfl
       have c2 := cellOf HI.out.blk 2 _ rfl
       clear b1)
    | (at_builtin; refine wpl_append_opt rfl _ _ rfl _ _ rfl (HI.out.al _).row _ 1 _ _ rfl (at1 _ _) (by simp) (by rw [alloc1]; have := HI.out.sz; omega) ?_
       intro g cap W2 hr hk hg
       have HI := Lib.hid ((HI.out.al _).app hr hk)
       have c1 := cellOf HI.out.blk 1 _ rfl
       have c2 := cellOf HI.out.blk 2 _ rfl
       clear hr hk hg))
  go_ret
  rw [HE.out]; exact ⟨_, rfl, (by have := HI.out.row.base (Nat.le_succ _); simpa using this), HI.out.bel⟩

set_option maxHeartbeats 8000000 in
set_option maxRecDepth 100000 in
theorem lopts_110 (m au mg ec cf tm fl wt : Int) (w : World) (ha : I64 au) (h1 : ¬ m = 1492) (h2 : ¬ au = 0) (h3 : mg = 0) :
    Calls Tryz.prog 18 #[cfgV ⟨m, au, mg, ec, cf, tm, fl, wt⟩] w fun e w' => ∃ v, e = .returned v ∧ ORow w' w.heap.size v (optsS ⟨m, au, mg, ec, cf, tm, fl, wt⟩) ∧ Below w.heap.size w w' := by
  have HA := Lib.hid ha
  have HI : Hid (OI w (w.alloc (.cells #[.int .i64 m, .int .i64 au, .int .i64 mg, .int .i64 ec, .int .i64 cf, .int .i64 tm, .int .i64 fl, .int .i64 wt] 24 (0, 0))) #[.int .i64 m, .int .i64 au, .int .i64 mg, .int .i64 ec, .int .i64 cf, .int .i64 tm, .int .i64 fl, .int .i64 wt] (.slice none 0 0) []) :=
    Lib.hid ⟨at1 _ _, ORow.nil _ _, (Below.refl _ _).alloc (Nat.le_refl _) _⟩
  have HE := Lib.hid (show optsS ⟨m, au, mg, ec, cf, tm, fl, wt⟩ = ((([] : List Opt) ++ [⟨1, pB2 m⟩]) ++ [⟨3, lvalS au⟩]) from by
    unfold optsS optsS2 optsS1
    simp [h1, h2, h3])
  generalize optsS ⟨m, au, mg, ec, cf, tm, fl, wt⟩ = R at *
  unfold cfgV
  dsimp only
  clear ha
  have e1 : (m != 1492) = true := by simpa using h1
  have e2 : (au != 0) = true := by simpa using h2
  have e3 : (mg != 0) = false := by simpa using h3
  clear h1 h2 h3
  go_enter Tryz.func18, Tryz.ntmps18
  go_wp2_with (first
    | (go_at_call 50; refine (lputI2 _ _).mono ?_
       rintro e W1 ⟨rfl, b1⟩
       have HI := Lib.hid (HI.out.go b1)
       have c1 := cellOf HI.out.blk 1 _ rfl
       have c2 := cellOf HI.out.blk 2 _ rfl
       clear b1)
    | (go_at_call 33; refine (lvalue_any _ _ HA.out).mono ?_
       rintro e W1 ⟨rfl, b1⟩
       have HI := Lib.hid (HI.out.go b1)
       have c2 := cellOf HI.out.blk 2 _ rfl
       clear b1)
    | (at_builtin; refine wpl_append_opt rfl _ _ rfl _ _ rfl (HI.out.al _).row _ 1 _ _ rfl (at1 _ _) (by simp) (by rw [alloc1]; have := HI.out.sz; omega) ?_
       intro g cap W2 hr hk hg
       have HI := Lib.hid ((HI.out.al _).app hr hk)
       have c1 := cellOf HI.out.blk 1 _ rfl
       have c2 := cellOf HI.out.blk 2 _ rfl
       clear hr hk hg))
  go_ret
  rw [HE.out]; exact ⟨_, rfl, (by have := HI.out.row.base (Nat.le_succ _); simpa using this), HI.out.bel⟩

set_option maxHeartbeats 8000000 in
set_option maxRecDepth 100000 in
theorem lopts_111 (m au mg ec cf tm fl wt : Int) (w : World) (ha : I64 au) (h1 : ¬ m = 1492) (h2 : ¬ au = 0) (h3 : ¬ mg = 0) :
    Calls Tryz.prog 18 #[cfgV ⟨m, au, mg, ec, cf, tm, fl, wt⟩] w fun e w' => ∃ v, e = .returned v ∧ ORow w' w.heap.size v (optsS ⟨m, au, mg, ec, cf, tm, fl, wt⟩) ∧ Below w.heap.size w w' := by
  have HA := Lib.hid ha
  have HI : Hid (OI w (w.alloc (.cells #[.int .i64 m, .int .i64 au, .int .i64 mg, .int .i64 ec, .int .i64 cf, .int .i64 tm, .int .i64 fl, .int .i64 wt] 24 (0, 0))) #[.int .i64 m, .int .i64 au, .int .i64 mg, .int .i64 ec, .int .i64 cf, .int .i64 tm, .int .i64 fl, .int .i64 wt] (.slice none 0 0) []) :=
    Lib.hid ⟨at1 _ _, ORow.nil _ _, (Below.refl _ _).alloc (Nat.le_refl _) _⟩
  have HE := Lib.hid (show optsS ⟨m, au, mg, ec, cf, tm, fl, wt⟩ = (((([] : List Opt) ++ [⟨1, pB2 m⟩]) ++ [⟨3, lvalS au⟩]) ++ [⟨5, pB4 mg⟩]) from by
    unfold optsS optsS2 optsS1
    simp [h1, h2, h3])
  generalize optsS ⟨m, au, mg, ec, cf, tm, fl, wt⟩ = R at *
  unfold cfgV
  dsimp only
  clear ha
  have e1 : (m != 1492) = true := by simpa using h1
  have e2 : (au != 0) = true := by simpa using h2
  have e3 : (mg != 0) = true := by simpa using h3
  clear h1 h2 h3
  go_enter Tryz.func18, Tryz.ntmps18
  go_wp2_with (first
    | (go_at_call 50; first | with_reducible refine (lputI2 _ _).mono ?_ | with_reducible refine (lputI4 _ _).mono ?_
       rintro e W1 ⟨rfl, b1⟩
       have HI := Lib.hid (HI.out.go b1)
       have c1 := cellOf HI.out.blk 1 _ rfl
       have c2 := cellOf HI.out.blk 2 _ rfl
       clear b1)
    | (go_at_call 33; refine (lvalue_any _ _ HA.out).mono ?_
       rintro e W1 ⟨rfl, b1⟩
       have HI := Lib.hid (HI.out.go b1)
       have c2 := cellOf HI.out.blk 2 _ rfl
       clear b1)
    | (at_builtin; refine wpl_append_opt rfl _ _ rfl _ _ rfl (HI.out.al _).row _ 1 _ _ rfl (at1 _ _) (by simp) (by rw [alloc1]; have := HI.out.sz; omega) ?_
       intro g cap W2 hr hk hg
       have HI := Lib.hid ((HI.out.al _).app hr hk)
       have c1 := cellOf HI.out.blk 1 _ rfl
       have c2 := cellOf HI.out.blk 2 _ rfl
       clear hr hk hg))
  go_ret
  rw [HE.out]; exact ⟨_, rfl, (by have := HI.out.row.base (Nat.le_succ _); simpa using this), HI.out.bel⟩

theorem lopts_any (c : LCfg) (w : World) (ha : I64 c.auth) :
    Calls Tryz.prog 18 #[cfgV c] w fun e w' => ∃ v, e = .returned v ∧ ORow w' w.heap.size v (optsS c) ∧ Below w.heap.size w w' := by
  obtain ⟨m, au, mg, ec, cf, tm, fl, wt⟩ := c
  by_cases h1 : m = 1492 <;> by_cases h2 : au = 0 <;> by_cases h3 : mg = 0
  · exact lopts_000 m au mg ec cf tm fl wt w ha h1 h2 h3
  · exact lopts_001 m au mg ec cf tm fl wt w ha h1 h2 h3
  · exact lopts_010 m au mg ec cf tm fl wt w ha h1 h2 h3
  · exact lopts_011 m au mg ec cf tm fl wt w ha h1 h2 h3
  · exact lopts_100 m au mg ec cf tm fl wt w ha h1 h2 h3
  · exact lopts_101 m au mg ec cf tm fl wt w ha h1 h2 h3
  · exact lopts_110 m au mg ec cf tm fl wt w ha h1 h2 h3
  · exact lopts_111 m au mg ec cf tm fl wt w ha h1 h2 h3
end Go.Proofs.YthhdackaopaojaaGreat
