import Derived.Test.YtbiaempeegfdkaaGreatPAO
import Derived.Test.YtbiaempeegfdkaaGreatPAM
import Derived.Test.YtbiaempeegfdkaaGreatPAK
import Derived.Test.YtbiaempeegfdkaaGreatPAA
import Derived.Laws.EntriesVeiled
import Derived.Laws.IdiomStrings
import Derived.Test.YtbiaempeegfdkaaGreatPAP
import Derived.ChangeKeysEq
import Derived.Laws.Cover3
set_option linter.unusedVariables false
set_option linter.unusedSimpArgs false
set_option maxHeartbeats 16000000
namespace Go.Proofs.YtbiaempeegfdkaaGreat
open Go.RowKit Go.Tg Go.Maps
def eqB (a b : Opt) : Bool := decide (a.t = b.t) && decide (a.v = b.v)
theorem eqO (a b : Int) (s t : ByteArray) (w : World) : (binOp .eql 132 (.agg #[.int .i64 a, .string s]) (.agg #[.int .i64 b, .string t])).run Tryz.prog w = .ok (.bool (decide (a = b) && decide (s = t))) w := by
 have u3 := Tryz.underlying3; have a3 := Tryz.isAgg3; have z3 := Tryz.sizeOf3; have u9 := Tryz.underlying9; have a9 := Tryz.isAgg9; have z9 := Tryz.sizeOf9; have hS : Tryz.prog.underlying 132 = some (.struct (Tryz.prog.fieldsOf 132)) := by kernel_rfl
 have hp : Tryz.prog.stoodInHeld 132 = false := by kernel_rfl
 rw [run_eql_struct, show (10000 : Nat) = 9999 + 1 from rfl, run_equalIn_agg w 9999 132 _ _ hS hp]; simp only [Program.fieldsOf, Tryz.underlying132]; go_simp
 by_cases h1 : a = b <;> by_cases h2 : s = t <;> simp [h1, h2]
 intro h; rw [ByteArray.toList_eq, ByteArray.toList_eq] at h; exact h2 (ByteArray.ext (Array.ext' h))
theorem Nums.at {w : World} {ok : Nat -> Prop} {sa : Option Addr} {n c : Nat} {l : List Int} (h : Nums w ok (.slice sa n c) l) (i : Nat) (hi : i < l.length) :
 ∃ b off, sa = some ⟨b, off, none⟩ /\ b < w.heap.size /\ w.cell? ⟨b, off + i, none⟩ = some (.int .i64 l[i]) := by
 obtain ⟨b, off, e, hb, -, -, -, -, hc⟩ := Rec.at h i (by rw [intL_len]; exact hi); refine ⟨b, off, e, hb, ?_⟩; have := hc 0 (.int .i64 l[i]) (by simp [intL])
 rwa [Nat.mul_one, Nat.add_zero] at this
set_option maxRecDepth 100000 in
theorem idxN_any (xs : List Int) (v : Value) (ok : Nat -> Prop) (x : Int) (w : World) (h : Nums w ok v xs) (hl : xs.length <= 1000000) :
 Calls Tryz.prog 176 #[v, .int .i64 x] w fun e w' => ∃ r, e = .returned (.int .i64 r) /\ Has xs x r /\ w = w' := by
 obtain ⟨sa, c, rfl, hc, hm⟩ := h.form; have H := H_ h; obtain ⟨len, hln⟩ : ∃ len, len = xs.length := ⟨_, rfl⟩; have HLN := H_ hln; rw [<- hln] at hc hl ⊢; unfold maxLen at hm; clear h hln; go_enter Tryz.func176, Tryz.ntmps176; go_wp2_with fail
 go_loopg [8] len (fun y i wr => ∃ k : Nat, k <= len /\ y = len - k /\ i = .int .i64 k /\ Hid (w = wr /\ ∀ (j : Nat) (h : j < xs.length), j < k -> xs[j] ≠ x))
 case atStart => exact ⟨0, by omega, by omega, rfl, rfl, fun j _ h => by omega⟩
 case round =>
  obtain ⟨k, hk, rfl, rfl, hK⟩ := hrel; obtain ⟨rfl, hno⟩ := hK.out; have HNO := H_ hno; clear hK hno
  by_cases hlt : k < len
  . have hlt' : k < xs.length := by have := HLN.out; omega
    obtain ⟨b, off, rfl, -, hck⟩ := H.out.at k hlt'
    by_cases hx : x = xs[k]
    . have hxb : (x == xs[k]) = true := by simpa using hx
      have HX := H_ hx; clear hx; go_wp2_with fail; go_ret; refine ⟨k, rfl, ?_, rfl⟩; have : hasB xs x = true := by unfold hasB; rw [List.contains_iff_mem, HX.out]; exact List.getElem_mem hlt'
      unfold Has; rw [this]; simp
    . have hxb : (x == xs[k]) = false := by simpa using hx
      have HX := H_ hx; clear hx; go_wp2_with fail
      go_roundg (len - (k + 1))
      case measure => omega
      case rel =>
       refine ⟨k + 1, by omega, rfl, by go_num, rfl, fun j hj hjk => ?_⟩
       rcases Nat.lt_or_ge j k with h | h
       . exact HNO.out j hj h
       . obtain rfl : j = k := by omega
         exact fun e => HX.out e.symm
  . go_wp2_with fail; go_ret; refine ⟨-1, rfl, ?_, rfl⟩
    have : hasB xs x = false := by
     unfold hasB
     cases hc : xs.contains x with
     | false => rfl
     | true =>
      rw [List.contains_iff_mem] at hc; obtain ⟨j, hj, he⟩ := List.getElem_of_mem hc; exact absurd he (HNO.out j hj (by have := HLN.out; omega))
    unfold Has; rw [this]; rfl
theorem hasN_any (xs : List Int) (v : Value) (ok : Nat -> Prop) (x : Int) (w : World) (h : Nums w ok v xs) (hl : xs.length <= 1000000) :
 Calls Tryz.prog 152 #[v, .int .i64 x] w fun e w' => e = .returned (.bool (hasB xs x)) /\ w = w' := by
 have H := H_ (idxN_any xs v ok x w h hl); clear h hl; go_enter Tryz.func152, Tryz.ntmps152; go_wp2_with fail; refine H.out.mono ?_; rintro e w' ⟨r, rfl, hr, rfl⟩
 go_wp2
 go_ret; exact ⟨by rw [<- show decide (0 <= r) = hasB xs x from hr]; rfl, rfl⟩
set_option maxRecDepth 100000 in
theorem idxE_any (l : List Opt) (lv : Value) (ok : Nat -> Prop) (o : Opt) (w : World) (hl : Opts w ok lv l) (hmax : l.length <= 1000000) :
 Calls Tryz.prog 183 #[lv, .agg #[.int .i64 o.t, .string o.v]] w fun e w' => e = .returned (.int .i64 (idxP (eqB o) l)) /\ Below w.heap.size w w' := by
 obtain ⟨sa, c, rfl, hc, hm⟩ := hl.form; have HL := H_ hl; obtain ⟨len, hln⟩ : ∃ len, len = l.length := ⟨_, rfl⟩; have HLN := H_ hln; rw [<- hln] at hc hmax ⊢; unfold maxLen at hm; have HX := H_ (at1 w (.cells #[.int .i64 o.t, .string o.v] 132 (0, 0))); have HB0 := H_ (show Below w.heap.size w (w.alloc (.cells #[.int .i64 o.t, .string o.v] 132 (0, 0))) from (Below.refl _ _).alloc (Nat.le_refl _) _); have HS0 := H_ (alloc1 w (.cells #[.int .i64 o.t, .string o.v] 132 (0, 0))); have HP := H_ (fun k (hk : k < l.length) => idxP_hit (eqB o) l k hk); have HM := H_ (idxP_miss (eqB o) l); have HE := H_ (fun a b => eqO o.t a o.v b); have HQ := H_ (show ∀ x : Opt, eqB o x = (decide (o.t = x.t) && decide (o.v = x.v)) from fun _ => rfl); generalize eqB o = p at *; generalize o.t = t at *; generalize o.v = v at *; clear hl hln; go_enter Tryz.func183, Tryz.ntmps183; go_wp2_with fail
 go_loopg [8] len (fun x i wr => ∃ k : Nat, k <= len /\ x = len - k /\ i = .int .i64 k /\ Hid (Below w.heap.size w wr /\ wr.heap[w.heap.size]? = some (.cells #[.int .i64 t, .string v] 132 (0, 0)) /\ ∀ j (hj : j < l.length), j < k -> p l[j] = false))
 case atStart => exact ⟨0, by omega, by omega, rfl, HB0.out, HX.out, fun j _ h => absurd h (Nat.not_lt_zero _)⟩
 case round =>
  obtain ⟨k, hk, rfl, rfl, hK⟩ := hrel; have HK := H_ hK.out; clear hK
  by_cases hkl : k < len
  . have hkl' : k < l.length := by have := HLN.out; omega
    obtain ⟨b, off, rfl, hb, -, -, -, -, c0, c1⟩ := HL.out.at k hkl'; have d0 : wr.cell? ⟨b, off + k * 2, none⟩ = _ := (HK.out.1.cell (p := ⟨b, off + k * 2, none⟩) hb).trans c0; have d1 : wr.cell? ⟨b, off + k * 2 + 1, none⟩ = _ := (HK.out.1.cell (p := ⟨b, off + k * 2 + 1, none⟩) hb).trans c1; have d2 : wr.cell? ⟨w.heap.size, 0, none⟩ = some (.int .i64 t) := cellOf HK.out.2.1 0 _ rfl; have d3 : wr.cell? ⟨w.heap.size, 1, none⟩ = some (.string v) := cellOf HK.out.2.1 1 _ rfl; have HH := H_ (HP.out k hkl')
    have HY : Hid (∀ (y : Bool), p l[k] = y -> y = false -> ∀ j (hj : j < l.length), j < k + 1 -> p l[j] = false) := H_ (by
     intro y hy hf j hj hlt
     rcases Nat.lt_or_ge j k with h | h
     . exact HK.out.2.2 j hj h
     . obtain rfl : j = k := by omega
       rw [hy, hf])
    have hq := HQ.out l[k]; clear c0 c1; generalize p l[k] = y at hq HH HY; generalize l[k] = o at *; obtain ⟨t', v'⟩ := o; simp only at d0 d1 hq
    have hn : ∀ w, (binOp .eql 132 (.agg #[.int .i64 t, .string v]) (.agg #[.int .i64 t', .string v'])).run Tryz.prog w = .ok (.bool y) w := fun w => by rw [eqO, hq]
    clear hq
    cases y with
    | true =>
     go_wp2_with fail
     go_quiet (fail)
     go_wp2_with fail; go_ret; exact ⟨by rw [HH.out (by first | exact trivial | rfl) HK.out.2.2]; rfl, belowN HK.out.1 _⟩
    | false =>
     go_wp2_with fail
     go_quiet (fail)
     go_wp2_with fail
     go_roundg (len - (k + 1))
     case measure => omega
     case rel => exact ⟨k + 1, by omega, rfl, by go_num, ⟨HK.out.1.os, HK.out.1.tape, HK.out.1.output, HK.out.1.size, HK.out.1.block⟩, HK.out.2.1, HY.out false rfl rfl⟩
  . go_wp2_with fail; go_ret; exact ⟨by rw [HM.out (fun j hj => HK.out.2.2 j hj (by have := HLN.out; omega))]; rfl, HK.out.1⟩
theorem conO_any (l : List Opt) (lv : Value) (ok : Nat -> Prop) (o : Opt) (w : World) (hl : Opts w ok lv l) (hmax : l.length <= 1000000) :
 Calls Tryz.prog 171 #[lv, .agg #[.int .i64 o.t, .string o.v]] w fun e w' => e = .returned (.bool (l.any (eqB o))) /\ Below w.heap.size w w' := by
 have HB0 := H_ (show Below w.heap.size w (w.alloc (.cells #[.int .i64 o.t, .string o.v] 132 (0, 0))) from (Below.refl _ _).alloc (Nat.le_refl _) _); have HI := H_ (idxE_any l lv ok o (w.alloc (.cells #[.int .i64 o.t, .string o.v] 132 (0, 0))) (hl.below HB0.out) hmax); obtain ⟨sa, c, rfl, hc, hm⟩ := hl.form; have HA := H_ (any_idx (eqB o) l); generalize idxP (eqB o) l = i at HI HA; generalize l.any (eqB o) = y at HA ⊢; obtain ⟨t, v⟩ := o; simp only at HI HB0 ⊢
 clear hl; go_enter Tryz.func171, Tryz.ntmps171; go_wp2_with fail; refine HI.out.mono ?_; rintro e w' ⟨rfl, hb⟩; go_wp2_with fail; go_ret; exact ⟨by rw [<- HA.out]; rfl, HB0.out.trans (hb.mono HB0.out.size)⟩
theorem ktK : Tryz.prog.keyTypeAt 3 162 = true := by kernel_rfl
theorem szK : decide (162 < Tryz.prog.types.size) = true := by kernel_rfl
theorem wdK : (match Tryz.prog.underlying 162 with | some (.array _ _) | some (.struct _) => true | _ => false) = true := by kernel_rfl
set_option maxRecDepth 100000 in
theorem keyedK : Keyed Tryz.prog 162 := Keyed.of_law (deep_law_laid laidOut (m := 3) (by omega) (of_decide_eq_true szK) ktK wdK)
def kindV (p : Int) : Value := .agg #[.int .i64 p, .bool true]
theorem kvK (a : Int) (ha : I64 a) : KV Tryz.prog 162 (kindV a) := by
 unfold KV kindV; have ha' : (Lit.int .i64 a).wf = true := by first | exact ha | (unfold I64 at ha; simp [Lit.wf, IntKind.min, IntKind.max, IntKind.signed, IntKind.bits]; omega)
 have h1 : Tryz.prog.keyType 162 = true := by kernel_rfl
 have h3 : (Value.agg #[Value.int .i64 a, Value.bool true]).formed Tryz.prog 162 = true := by kernel_rfl
 have h2 : (Tryz.prog.keyLits (Tryz.prog.types.size + 1) 162 (Value.agg #[Value.int .i64 a, Value.bool true]).cells.toList) = some [.int .i64 a, .bool true] := by
  obtain ⟨d, hd⟩ : ∃ d, Tryz.prog.types.size + 1 = d + 2 := ⟨Tryz.prog.types.size - 1, by kernel_rfl⟩; have c48 : Tryz.prog.cellsOf 162 = 2 := by kernel_rfl
  have c3 : Tryz.prog.cellsOf 3 = 1 := by kernel_rfl
  have c4 : Tryz.prog.cellsOf 4 = 1 := by kernel_rfl
  have cs : (Value.agg #[Value.int .i64 a, Value.bool true]).cells.toList = [Value.int .i64 a, Value.bool true] := rfl; rw [hd, cs]; generalize hwa : (Lit.int .i64 a).wf = wa at ha'; subst ha'; simp [Program.keyLits, Tryz.underlying162, Tryz.underlying3, Tryz.underlying4, c48, c3, c4, hwa]
 simp only [keyOf, Tryz.underlying162, h1, h2, h3]; exact ⟨_, rfl⟩
def papB : ByteArray := ⟨#[192, 35]⟩
def chapB : ByteArray := ⟨#[194, 35, 5]⟩
def noS : ByteArray := ⟨#[]⟩
def lvalS (p : Int) : ByteArray := if p = 49187 then papB else if p = 49699 then chapB else noS
theorem kindV_inj {a b : Int} (h : kindV a = kindV b) : a = b := by
 unfold kindV at h
 simpa using h
set_option maxRecDepth 100000 in
theorem lvalue_any (p : Int) (w : World) (hp : I64 p) : Calls Tryz.prog 87 #[.int .i64 p] w fun e w' => e = .returned (.string (lvalS p)) /\ Below w.heap.size w w' := by
 have hmm := @run_makeMap Tryz.prog; have hz : ∀ w, (zeroValue 9).run Tryz.prog w = .ok (.string noS) w := fun w => by kernel_rfl
 have hb1 : ∀ w, (Instr.build 162 #[(0, .int .i64 49187), (1, .bool true)]).run Tryz.prog w = .ok (kindV 49187) w := fun w => by kernel_rfl
 have hb2 : ∀ w, (Instr.build 162 #[(0, .int .i64 49699), (1, .bool true)]).run Tryz.prog w = .ok (kindV 49699) w := fun w => by kernel_rfl
 have hb3 : ∀ w, (Instr.build 162 #[(0, .int .i64 p), (1, .bool true)]).run Tryz.prog w = .ok (kindV p) w := fun w => by kernel_rfl
 have i1 : I64 49187 := by unfold I64; decide
 have i2 : I64 49699 := by unfold I64; decide
 have hm0 : MapAt Tryz.prog 162 ((w.alloc (.map #[] 0)).drew) w.heap.size (fun _ => none) := MapAt.empty w.drew; obtain ⟨ea, ca, ua, ma⟩ := hm0.run_update keyedK Tryz.underlying163 (kvK 49187 i1) (.string papB); obtain ⟨eb, cb, ub, mb⟩ := ma.run_update keyedK Tryz.underlying163 (kvK 49699 i2) (.string chapB); have la := mb.run_lookup keyedK Tryz.underlying163 (kvK p hp) (hz _) false; obtain ⟨ed, cd, ud, md⟩ := hm0.run_update keyedK Tryz.underlying163 (kvK 49699 i2) (.string chapB); obtain ⟨ee, ce, ue, me⟩ := md.run_update keyedK Tryz.underlying163 (kvK 49187 i1) (.string papB); have lb := me.run_lookup keyedK Tryz.underlying163 (kvK p hp) (hz _) false; have h12 : kindV 49187 ≠ kindV 49699 := fun h => absurd (kindV_inj h) (by decide)
 have ra : ((upd (upd (fun _ => none) (kindV 49187) (.string papB)) (kindV 49699) (.string chapB)) (kindV p)).getD (.string noS) = .string (lvalS p) := by
  unfold lvalS
  by_cases h1 : p = 49187
  . subst h1; rw [upd_other _ _ h12, upd_same]; rfl
  . by_cases h2 : p = 49699
    . subst h2; rw [upd_same]; rfl
    . rw [upd_other _ _ (fun h => h2 (kindV_inj h)), upd_other _ _ (fun h => h1 (kindV_inj h)), if_neg h1, if_neg h2]; rfl
 have rb : ((upd (upd (fun _ => none) (kindV 49699) (.string chapB)) (kindV 49187) (.string papB)) (kindV p)).getD (.string noS) = .string (lvalS p) := by
  unfold lvalS
  by_cases h1 : p = 49187
  . subst h1; rw [upd_same]; rfl
  . by_cases h2 : p = 49699
    . subst h2; rw [upd_other _ _ (fun h => h12 h.symm), upd_same]; rfl
    . rw [upd_other _ _ (fun h => h1 (kindV_inj h)), upd_other _ _ (fun h => h2 (kindV_inj h)), if_neg h1, if_neg h2]; rfl
 simp only [Bool.false_eq_true, if_false] at la lb; rw [ra] at la; rw [rb] at lb; have hk0 : Below w.heap.size w ((w.alloc (.map #[] 0)).drew) := ((Below.refl w.heap.size w).alloc (Nat.le_refl _) (.map #[] 0)).drew
 have kk : ∀ (W : World) (o : Obj), Below w.heap.size w W -> Below w.heap.size w (ChangeMaps.setBlock W w.heap.size o) := fun W o hW =>
  hW.trans (((Keep.refl (· = w.heap.size) W).setBlock w.heap.size (Or.inr rfl) o).below hW.size (fun k hk e => by omega))
 have HB := H_ (A_ (kk _ (.map eb cb) (kk _ (.map ea ca) hk0)) (kk _ (.map ee ce) (kk _ (.map ed cd) hk0))); clear kk hk0 hm0 ma mb md me ra rb h12 hz; generalize hS1 : ChangeMaps.setBlock ((w.alloc (.map #[] 0)).drew) w.heap.size (.map ea ca) = S1 at *; generalize hS2 : ChangeMaps.setBlock S1 w.heap.size (.map eb cb) = S2 at *; generalize hS3 : ChangeMaps.setBlock ((w.alloc (.map #[] 0)).drew) w.heap.size (.map ed cd) = S3 at *; generalize hS4 : ChangeMaps.setBlock S3 w.heap.size (.map ee ce) = S4 at *; clear hS1 hS2 hS3 hS4; unfold papB at ua ue; unfold chapB at ub ud; unfold kindV at ua ub ud ue la lb hb1 hb2 hb3; generalize lvalS p = vp at *; go_enter Tryz.func87, Tryz.ntmps87; go_wp2_with fail; refine wp_region_H (rgH 0 0) (fun _ => True) (by kernel_rfl) ?_; refine hatP 1 rfl (by intro W _; go_simp; try rfl) ?_; simp only [aZ, aC, aD]; refine hatP 3 rfl (by intro W _; go_simp; try rfl) ?_; simp only [aZ, aC, aD]; refine hatP 6 rfl (by intro W _; go_simp; try rfl) ?_; simp only [aZ, aC, aD]; refine hatP 7 rfl (by intro W _; go_simp; try rfl) ?_; simp only [aZ, aC, aD]; refine hone 0 rfl fun K hK => ?_
 try go_simp
 refine hK _ _ (fun _ => trivial) ?_
 try simp only [aZ, aA, aE, aB, aC, aD]
 refine wpAnyH_2 2 4 rfl rfl (by kernel_rfl) ?_ ?_
 . intro K hK; rw [if_pos (by rfl)]; go_simp; refine hK _ _ (fun _ => trivial) ?_
   try simp only [aZ, aA, aE, aB, aC, aD]
   refine hone 4 rfl fun K hK => ?_
   try go_simp
   refine hK _ _ (fun _ => trivial) ?_
   try simp only [aZ, aA, aE, aB, aC, aD]
   refine hone 5 rfl fun K hK => ?_
   try go_simp
   refine hK _ _ (fun _ => trivial) ?_
   try simp only [aZ, aA, aE, aB, aC, aD]
   refine hone 8 rfl fun K hK => ?_
   try go_simp
   refine hK _ _ (fun _ => trivial) ?_
   try simp only [aZ, aA, aE, aB, aC, aD]
   refine hend 9 ?_; simp only [aF, aG]; go_wp2_with fail; go_ret; exact ⟨rfl, HB.out.1⟩
 . intro K hK; rw [if_pos (by rfl)]; go_simp; refine hK _ _ (fun _ => trivial) ?_
   try simp only [aZ, aA, aE, aB, aC, aD]
   refine hone 2 rfl fun K hK => ?_
   try go_simp
   refine hK _ _ (fun _ => trivial) ?_
   try simp only [aZ, aA, aE, aB, aC, aD]
   refine hone 5 rfl fun K hK => ?_
   try go_simp
   refine hK _ _ (fun _ => trivial) ?_
   try simp only [aZ, aA, aE, aB, aC, aD]
   refine hone 8 rfl fun K hK => ?_
   try go_simp
   refine hK _ _ (fun _ => trivial) ?_
   try simp only [aZ, aA, aE, aB, aC, aD]
   refine hend 9 ?_; simp only [aF, aG]; go_wp2_with fail; go_ret; exact ⟨rfl, HB.out.2⟩
def be2 (v : Nat) : ByteArray := ⟨#[UInt8.ofNat (v / 256), UInt8.ofNat v]⟩
def be4 (v : Nat) : ByteArray := ⟨#[UInt8.ofNat (v / 16777216), UInt8.ofNat (v / 65536), UInt8.ofNat (v / 256), UInt8.ofNat v]⟩
set_option maxRecDepth 100000 in
theorem lput2_any (v : Nat) (w : World) (hv : v < 65536) :
 Calls Tryz.prog 72 #[.int .i64 (v : Int), .int .i64 2] w fun e w' => e = .returned (.string (be2 v)) /\ Below w.heap.size w w' := by
 have hmk : ∀ w, (Instr.makeSlice 66 (.int .i64 2) (.int .i64 2)).run Tryz.prog w = .ok (.slice (some ⟨w.heap.size, 0, none⟩) 2 2) (w.alloc (.cells #[.int .u8 0, .int .u8 0] 5 (0, 0))) := fun w => by kernel_rfl
 have hcv : (convert 66 9 (.slice (some ⟨w.heap.size, 0, none⟩) 2 2)).run Tryz.prog (w.alloc (.cells #[.int .u8 ((v : Int) / 256), .int .u8 ((v : Int) % 256)] 5 (0, 0))) = .ok (.string (be2 v)) (w.alloc (.cells #[.int .u8 ((v : Int) / 256), .int .u8 ((v : Int) % 256)] 5 (0, 0))) := by
  have hx := at1 w (.cells #[.int .u8 ((v : Int) / 256), .int .u8 ((v : Int) % 256)] 5 (0, 0)); refine run_convert_bytes_back (P := Tryz.prog) _ 66 9 5 ⟨w.heap.size, 0, none⟩ 2 [UInt8.ofNat (v / 256), UInt8.ofNat v] Tryz.underlying66 Tryz.underlying5 Tryz.underlying9 (fun j hj => ?_); rw [Addr.add_lit, Nat.zero_add]; have e1 : (UInt8.ofNat (v / 256)).toNat = v / 256 := by rw [UInt8.toNat_ofNat']; omega
  have e2 : (UInt8.ofNat v).toNat = v % 256 := by rw [UInt8.toNat_ofNat']
  match j, hj with
  | 0, _ => simp only [List.getElem_cons_zero]; rw [e1]; exact cellOf hx 0 _ (by simp)
  | 1, _ => simp only [List.getElem_cons_zero, List.getElem_cons_succ]; rw [e2]; exact cellOf hx 1 _ (by simp)
 go_enter Tryz.func72, Tryz.ntmps72; go_wp2_with fail; refine wp_loop_rounds 3 ?_; rw [rounds_succ]; go_wp2_with fail; rw [rounds_succ]; go_wp2_with fail; rw [rounds_succ]; go_wp2_with fail; go_ret; exact ⟨rfl, (Below.refl _ _).alloc (Nat.le_refl _) _⟩
set_option maxRecDepth 100000 in
theorem lput4_any (v : Nat) (w : World) (hv : v < 4294967296) :
 Calls Tryz.prog 72 #[.int .i64 (v : Int), .int .i64 4] w fun e w' => e = .returned (.string (be4 v)) /\ Below w.heap.size w w' := by
 have hmk : ∀ w, (Instr.makeSlice 66 (.int .i64 4) (.int .i64 4)).run Tryz.prog w = .ok (.slice (some ⟨w.heap.size, 0, none⟩) 4 4) (w.alloc (.cells #[.int .u8 0, .int .u8 0, .int .u8 0, .int .u8 0] 5 (0, 0))) := fun w => by kernel_rfl
 have hcv : (convert 66 9 (.slice (some ⟨w.heap.size, 0, none⟩) 4 4)).run Tryz.prog (w.alloc (.cells #[.int .u8 ((v : Int) / 16777216), .int .u8 ((v : Int) / 65536 % 256), .int .u8 ((v : Int) / 256 % 256), .int .u8 ((v : Int) % 256)] 5 (0, 0))) = .ok (.string (be4 v)) (w.alloc (.cells #[.int .u8 ((v : Int) / 16777216), .int .u8 ((v : Int) / 65536 % 256), .int .u8 ((v : Int) / 256 % 256), .int .u8 ((v : Int) % 256)] 5 (0, 0))) := by
  have hx := at1 w (.cells #[.int .u8 ((v : Int) / 16777216), .int .u8 ((v : Int) / 65536 % 256), .int .u8 ((v : Int) / 256 % 256), .int .u8 ((v : Int) % 256)] 5 (0, 0)); refine run_convert_bytes_back (P := Tryz.prog) _ 66 9 5 ⟨w.heap.size, 0, none⟩ 4 [UInt8.ofNat (v / 16777216), UInt8.ofNat (v / 65536), UInt8.ofNat (v / 256), UInt8.ofNat v] Tryz.underlying66 Tryz.underlying5 Tryz.underlying9 (fun j hj => ?_); rw [Addr.add_lit, Nat.zero_add]
  match j, hj with
  | 0, _ => simp only [List.getElem_cons_zero]; rw [show (UInt8.ofNat (v / 16777216)).toNat = v / 16777216 by rw [UInt8.toNat_ofNat']; omega]; exact cellOf hx 0 _ (by simp)
  | 1, _ => simp only [List.getElem_cons_zero, List.getElem_cons_succ]; rw [UInt8.toNat_ofNat']; exact cellOf hx 1 _ (by simp)
  | 2, _ => simp only [List.getElem_cons_zero, List.getElem_cons_succ]; rw [UInt8.toNat_ofNat']; exact cellOf hx 2 _ (by simp)
  | 3, _ => simp only [List.getElem_cons_zero, List.getElem_cons_succ]; rw [UInt8.toNat_ofNat']; exact cellOf hx 3 _ (by simp)
 go_enter Tryz.func72, Tryz.ntmps72; go_wp2_with fail; refine wp_loop_rounds 5 ?_; rw [rounds_succ]; go_wp2_with fail; rw [rounds_succ]; go_wp2_with fail; rw [rounds_succ]; go_wp2_with fail; rw [rounds_succ]; go_wp2_with fail; rw [rounds_succ]; go_wp2_with fail; go_ret; exact ⟨rfl, (Below.refl _ _).alloc (Nat.le_refl _) _⟩
theorem lin_any (n a b : Int) (w : World) : Calls Tryz.prog 71 #[.int .i64 n, .int .i64 a, .int .i64 b] w fun e w' => e = .returned (.bool (decide (a <= n) && decide (n <= b))) /\ w = w' := by
 by_cases h1 : a <= n
 . have d1 : decide (a <= n) = true := by simpa using h1
   rw [d1]; go_enter Tryz.func71, Tryz.ntmps71
   go_wp2
   go_ret; exact ⟨by simp, rfl⟩
 . have d1 : decide (a <= n) = false := by simpa using h1
   rw [d1]; go_enter Tryz.func71, Tryz.ntmps71
   go_wp2
   go_ret; exact ⟨by simp, rfl⟩
theorem tmod_rest (v : Int) : (v.tmod 256 < 0 -> wrap64 (v.tmod 256 + 256) = v % 256) /\ (¬ v.tmod 256 < 0 -> v.tmod 256 = v % 256) := by
 have e : v.tmod 256 = v % 256 - ((if 0 <= v \/ (256 : Int) ∣ v then 0 else 256 : Nat) : Int) := @Int.tmod_eq_emod v 256; unfold wrap64
 constructor <;> intro h1
 . rw [e] at h1 ⊢
   split at h1 <;> rename_i h2
   . omega
   . rw [if_neg h2]; omega
 . rw [e] at h1 ⊢
   split at h1 <;> rename_i h2
   . rw [if_pos h2]; omega
   . omega
theorem modulo_any (v : Int) (w : World) (hv : I64 v) : Calls Tryz.prog 187 #[.int .i64 v, .int .i64 256] w fun e w' => e = .returned (.int .i64 (v % 256)) /\ w = w' := by
 have HR := H_ (tmod_rest v)
 by_cases h : Int.tmod v 256 < 0
 . have d : decide (Int.tmod v 256 < 0) = true := by simpa using h
   have HE := H_ (HR.out.1 h); clear h; go_enter Tryz.func187, Tryz.ntmps187; go_wp2_with fail; go_ret; rw [<- HE.out]; exact ⟨rfl, rfl⟩
 . have d : decide (Int.tmod v 256 < 0) = false := by simpa using h
   have HE := H_ (HR.out.2 h); clear h; go_enter Tryz.func187, Tryz.ntmps187; go_wp2_with fail; go_ret; rw [<- HE.out]; exact ⟨rfl, rfl⟩
def unitR (most : Int) : Rl := ⟨1, 2, 64, most, be2 1492⟩
def magicR : Rl := ⟨5, 4, 1, 4294967295, be4 1⟩
theorem units_any (m : Int) (w : World) : Calls Tryz.prog 90 #[.int .i64 m] w fun e w' => e = .returned (.agg #[.int .i64 1, .int .i64 2, .int .i64 64, .int .i64 m, .string (be2 1492)]) /\ Below w.heap.size w w' := by
 have h := lput2_any 1492 (w.alloc (.cells #[.int .i64 0, .int .i64 0, .int .i64 0, .int .i64 0, .string ⟨#[]⟩] 136 (0, 0))) (by decide); have HP := H_ h; clear h; have hX := at1 w (.cells #[.int .i64 0, .int .i64 0, .int .i64 0, .int .i64 0, .string ⟨#[]⟩] 136 (0, 0)); have HX := H_ (A_ hX (A_ (alloc1 w (.cells #[.int .i64 0, .int .i64 0, .int .i64 0, .int .i64 0, .string ⟨#[]⟩] 136 (0, 0))) ((Below.refl w.heap.size w).alloc (Nat.le_refl _) (.cells #[.int .i64 0, .int .i64 0, .int .i64 0, .int .i64 0, .string ⟨#[]⟩] 136 (0, 0))))); clear hX; go_enter Tryz.func90, Tryz.ntmps90; go_wp2_with fail; refine HP.out.mono ?_; rintro e w1 ⟨rfl, hb⟩; have hx := (hb.block w.heap.size (by rw [HX.out.2.1]; omega)).trans HX.out.1; have HX1 := H_ (A_ hx (HX.out.2.2.trans (hb.mono (by rw [HX.out.2.1]; omega)))); have z := fun o => fzOf hx o; have y0 : w1.cell? ⟨w.heap.size, 0, none⟩ = some (.int .i64 0) := cellOf hx 0 _ rfl; have y1 : w1.cell? ⟨w.heap.size, 1, none⟩ = some (.int .i64 0) := cellOf hx 1 _ rfl; have y2 : w1.cell? ⟨w.heap.size, 2, none⟩ = some (.int .i64 0) := cellOf hx 2 _ rfl; have y3 : w1.cell? ⟨w.heap.size, 3, none⟩ = some (.int .i64 0) := cellOf hx 3 _ rfl; have y4 : w1.cell? ⟨w.heap.size, 4, none⟩ = some (.string ⟨#[]⟩) := cellOf hx 4 _ rfl; clear hb hx; go_wp2_with fail; refine bodyPost_ret (results_cell_row rfl _ _ w.heap.size 136 _ (0, 0) _ rfl (set5 HX1.out.1 _ _ _ _ _) Tryz.underlying136 rfl (by kernel_rfl)) rfl ?_; exact ⟨rfl, below5 HX1.out.2 (Nat.le_refl _) _ _ _ _ _⟩
theorem magics_any (w : World) : Calls Tryz.prog 91 #[] w fun e w' => e = .returned (.agg #[.int .i64 5, .int .i64 4, .int .i64 1, .int .i64 4294967295, .string (be4 1)]) /\ Below w.heap.size w w' := by
 have h := lput4_any 1 (w.alloc (.cells #[.int .i64 0, .int .i64 0, .int .i64 0, .int .i64 0, .string ⟨#[]⟩] 136 (0, 0))) (by decide); have HP := H_ h; clear h; have hX := at1 w (.cells #[.int .i64 0, .int .i64 0, .int .i64 0, .int .i64 0, .string ⟨#[]⟩] 136 (0, 0)); have HX := H_ (A_ hX (A_ (alloc1 w (.cells #[.int .i64 0, .int .i64 0, .int .i64 0, .int .i64 0, .string ⟨#[]⟩] 136 (0, 0))) ((Below.refl w.heap.size w).alloc (Nat.le_refl _) (.cells #[.int .i64 0, .int .i64 0, .int .i64 0, .int .i64 0, .string ⟨#[]⟩] 136 (0, 0))))); clear hX; go_enter Tryz.func91, Tryz.ntmps91; go_wp2_with fail; refine HP.out.mono ?_; rintro e w1 ⟨rfl, hb⟩; have hx := (hb.block w.heap.size (by rw [HX.out.2.1]; omega)).trans HX.out.1; have HX1 := H_ (A_ hx (HX.out.2.2.trans (hb.mono (by rw [HX.out.2.1]; omega)))); have z := fun o => fzOf hx o; have y0 : w1.cell? ⟨w.heap.size, 0, none⟩ = some (.int .i64 0) := cellOf hx 0 _ rfl; have y1 : w1.cell? ⟨w.heap.size, 1, none⟩ = some (.int .i64 0) := cellOf hx 1 _ rfl; have y2 : w1.cell? ⟨w.heap.size, 2, none⟩ = some (.int .i64 0) := cellOf hx 2 _ rfl; have y3 : w1.cell? ⟨w.heap.size, 3, none⟩ = some (.int .i64 0) := cellOf hx 3 _ rfl; have y4 : w1.cell? ⟨w.heap.size, 4, none⟩ = some (.string ⟨#[]⟩) := cellOf hx 4 _ rfl; clear hb hx; go_wp2_with fail; refine bodyPost_ret (results_cell_row rfl _ _ w.heap.size 136 _ (0, 0) _ rfl (set5 HX1.out.1 _ _ _ _ _) Tryz.underlying136 rfl (by kernel_rfl)) rfl ?_; exact ⟨rfl, below5 HX1.out.2 (Nat.le_refl _) _ _ _ _ _⟩
structure TpS where
 l : List Int
 asks : Int
def tpNext (t : TpS) : Int × TpS := match t.l with
 | [] => (wrap64 (7 * wrap64 (t.asks + 1)) % 256, ⟨[], wrap64 (t.asks + 1)⟩)
 | x :: r => (x % 256, ⟨r, t.asks⟩)
def TapeAt (w : World) (tb : Nat) (ok : Nat -> Prop) (t : TpS) : Prop :=
 ∃ tv, w.heap[tb]? = some (.cells #[tv, .int .i64 t.asks] 129 (0, 0)) /\ Nums w ok tv t.l /\ (∀ x ∈ t.l, I64 x) /\ (∀ b, ok b -> b ≠ tb) /\ I64 t.asks /\ t.l.length <= 1000000
theorem Nums.tail {w : World} {ok : Nat -> Prop} {sa : Option Addr} {n c : Nat} {x : Int} {l : List Int} (h : Nums w ok (.slice sa n c) (x :: l)) :
 ∃ b off, sa = some ⟨b, off, none⟩ /\ n = l.length + 1 /\ Nums w ok (.slice (some ⟨b, off + 1, none⟩) l.length (c - 1)) l := by
 obtain ⟨h0, sa', c', hv, hc, hm, h | ⟨b, off, hs, hb, hk, hr⟩⟩ := h
 . cases h
 . cases hv
   simp only [intL, List.map_cons, List.length_cons, List.length_map] at hc hr; refine ⟨b, off, hs, by simp [intL], fun y hy => h0 y (by simp only [intL, List.map_cons, List.mem_cons]; exact .inr hy), some ⟨b, off + 1, none⟩, c - 1, by rw [intL_len], by rw [intL_len]; omega, by omega, Or.inr ⟨b, off + 1, rfl, hb, hk, fun i hi j u hu => ?_⟩⟩; have hi' : i < l.length := by rw [intL_len] at hi; exact hi
   have := hr (i + 1) (by omega) j u (by simpa [intL] using hu); have e : off + 1 + i * 1 + j = off + (i + 1) * 1 + j := by omega
   rw [e]; exact this
theorem TapeAt.keep {T : Nat -> Prop} {w w' : World} {tb : Nat} {ok : Nat -> Prop} {t : TpS} (h : TapeAt w tb ok t) (hk : Keep T w w') (h1 : ¬ T tb) (h2 : ∀ b, b < w.heap.size -> ok b -> ¬ T b) : TapeAt w' tb ok t := by
 obtain ⟨tv, a, b, c⟩ := h; exact ⟨tv, (hk.block _ (Array.getElem?_eq_some_iff.1 a).1 h1).trans a, Rec.keep b hk h2, c⟩
theorem TapeAt.below {w w' : World} {tb : Nat} {ok : Nat -> Prop} {t : TpS} (h : TapeAt w tb ok t) (hk : Below w.heap.size w w') : TapeAt w' tb ok t := h.keep (Keep.of_below (fun _ => False) hk) (fun h => h) (fun _ _ _ h => h)
theorem TapeAt.lt {w : World} {tb : Nat} {ok : Nat -> Prop} {t : TpS} (h : TapeAt w tb ok t) : tb < w.heap.size := by
 obtain ⟨tv, a, _⟩ := h; exact (Array.getElem?_eq_some_iff.1 a).1
theorem wrap_I64 (x : Int) : I64 (wrap64 x) := by
 unfold I64 wrap64; simp only [Lit.wf, IntKind.min, IntKind.max, IntKind.signed, IntKind.bits, Bool.and_eq_true, decide_eq_true_eq, if_true]; omega
set_option maxRecDepth 100000 in
theorem tnext_any (tb : Nat) (ok : Nat -> Prop) (t : TpS) (w : World) (h : TapeAt w tb ok t) :
 Calls Tryz.prog 178 #[.pointer (some ⟨tb, 0, none⟩), .int .i64 256] w fun e w' => e = .returned (.int .i64 (tpNext t).1) /\ TapeAt w' tb ok (tpNext t).2 /\ Keep (fun b => b = tb) w w' := by
 have q1 : ∀ w a, (binOp .eql 28 (.pointer (some a)) (.pointer none)).run Tryz.prog w = .ok (.bool false) w := fun w a => by kernel_rfl
 obtain ⟨tv, hb, hn, hi, hne, ha, hl⟩ := h; obtain ⟨tl, ta⟩ := t
 dsimp only at *
 have f0 : w.frozen? ⟨tb, 0, none⟩ = false := fzOf hb 0; have f1 : w.frozen? ⟨tb, 1, none⟩ = false := fzOf hb 1; have hlt := (Array.getElem?_eq_some_iff.1 hb).1
 cases tl with
 | nil =>
  obtain ⟨sa, c, rfl, hc, hcm⟩ := hn.form; unfold maxLen at hcm; have g0 : w.cell? ⟨tb, 0, none⟩ = some (.slice sa 0 c) := cellOf hb 0 _ rfl; have g1 : w.cell? ⟨tb, 1, none⟩ = some (.int .i64 ta) := cellOf hb 1 _ rfl; have HM := H_ (fun w => modulo_any (wrap64 (7 * wrap64 (ta + 1))) w (wrap_I64 _)); have hk := (Keep.refl (fun b => b = tb) w).setCell ⟨tb, 1, none⟩ (Or.inr rfl) (.int .i64 (wrap64 (ta + 1))); have HT := H_ (A_ (show TapeAt (w.setCell ⟨tb, 1, none⟩ (.int .i64 (wrap64 (ta + 1)))) tb ok ⟨[], wrap64 (ta + 1)⟩ from ⟨_, set_block hb 1 _, Rec.keep hn hk (fun b _ hb he => hne b hb he), (fun _ h => (by cases h)), hne, wrap_I64 _, Nat.zero_le _⟩) hk); have HE := H_ (show tpNext ⟨[], ta⟩ = (wrap64 (7 * wrap64 (ta + 1)) % 256, ⟨[], wrap64 (ta + 1)⟩) from rfl); clear hb hn hi hne hk; go_enter Tryz.func178, Tryz.ntmps178; go_wp2_with fail; refine (HM.out _).mono ?_; rintro e w1 ⟨rfl, rfl⟩; go_wp2_with fail; go_ret; rw [HE.out]; exact ⟨rfl, HT.out⟩
 | cons x l =>
  obtain ⟨sa, c, rfl, hc, hcm⟩ := hn.form; obtain ⟨b, off, rfl, -, ht⟩ := hn.tail; obtain ⟨b', off', e', hb', hx⟩ := hn.at 0 (by simp); cases e'
  have hbb : b ≠ tb := by
   obtain ⟨b2, off2, e2, -, hk2, -⟩ := Rec.at hn 0 (by simp [intL]); cases e2
   exact hne b hk2
  rw [List.length_cons] at *; unfold maxLen at hcm; have g0 : w.cell? ⟨tb, 0, none⟩ = some (.slice (some ⟨b, off, none⟩) (l.length + 1) c) := cellOf hb 0 _ rfl; have g2 : w.cell? ⟨b, off, none⟩ = some (.int .i64 x) := by simpa using hx
  have HM := H_ (fun w => modulo_any x w (hi x (List.mem_cons_self ..))); have HT := H_ (fun (v' : Value) (hv' : Nums w ok v' l) => (A_ (show TapeAt (w.setCell ⟨tb, 0, none⟩ v') tb ok ⟨l, ta⟩ from ⟨_, set_block hb 0 _, Rec.keep hv' ((Keep.refl (fun b => b = tb) w).setCell ⟨tb, 0, none⟩ (Or.inr rfl) v') (fun b _ hb he => hne b hb he), (fun y hy => hi y (List.mem_cons_of_mem _ hy)), hne, ha, by dsimp only; omega⟩) ((Keep.refl (fun b => b = tb) w).setCell ⟨tb, 0, none⟩ (Or.inr rfl) v'))); have HE := H_ (show tpNext ⟨x :: l, ta⟩ = (x % 256, ⟨l, ta⟩) from rfl); have HN := H_ ht
  have HZ : Hid (c = 1 -> l = [] /\ l.length = 0) := H_ (fun h => by
   have : l.length = 0 := by omega
   exact ⟨List.eq_nil_of_length_eq_zero this, this⟩)
  clear hb hn hi hne ht hx hb' ha; generalize hnl : l.length = n at *
  by_cases hc1 : c = 1
  . obtain ⟨rfl, rfl⟩ := HZ.out hc1; subst hc1; go_enter Tryz.func178, Tryz.ntmps178; go_wp2_with fail; refine (HM.out _).mono ?_; rintro e w1 ⟨rfl, rfl⟩; go_wp2_with fail; go_ret; rw [HE.out]; exact ⟨rfl, HT.out _ ⟨(fun _ h => by cases h), some ⟨b, off, none⟩, 0, rfl, Nat.le_refl _, Nat.zero_le _, Or.inl rfl⟩⟩
  . clear HZ; go_enter Tryz.func178, Tryz.ntmps178; go_wp2_with fail; refine (HM.out _).mono ?_; rintro e w1 ⟨rfl, rfl⟩; go_wp2_with fail; go_ret; rw [HE.out]; exact ⟨rfl, HT.out _ HN.out⟩
def byteOf (x : Int) : UInt8 := UInt8.ofNat x.toNat
def tp4 (t : TpS) : ByteArray × TpS :=
 let a := tpNext t
 let b := tpNext a.2
 let c := tpNext b.2
 let d := tpNext c.2
 (⟨#[byteOf a.1, byteOf b.1, byteOf c.1, byteOf d.1]⟩, d.2)
theorem tpNext_bd (t : TpS) : 0 <= (tpNext t).1 /\ (tpNext t).1 < 256 := by
 unfold tpNext
 split <;> dsimp only <;> omega
theorem byteOf_nat (x : Int) (h : 0 <= x /\ x < 256) : ((byteOf x).toNat : Int) = x := by
 unfold byteOf; rw [UInt8.toNat_ofNat']; omega
set_option maxRecDepth 100000 in
theorem bytes4_old (tb : Nat) (ok : Nat -> Prop) (t : TpS) (w : World) (h : TapeAt w tb ok t) (OKW : ∀ b, ok b -> b ≠ w.heap.size) :
 Calls Tryz.prog 164 #[.pointer (some ⟨tb, 0, none⟩), .int .i64 4] w fun e w' => e = .returned (.string (tp4 t).1) /\ TapeAt w' tb ok (tp4 t).2 /\ Keep (fun b => b = tb) w w' := by
 have hmk : ∀ w, (Instr.makeSlice 66 (.int .i64 4) (.int .i64 4)).run Tryz.prog w = .ok (.slice (some ⟨w.heap.size, 0, none⟩) 4 4) (w.alloc (.cells #[.int .u8 0, .int .u8 0, .int .u8 0, .int .u8 0] 5 (0, 0))) := fun w => by kernel_rfl
 have hcv : ∀ (W : World) (b : Nat) (x0 x1 x2 x3 : Int), 0 <= x0 /\ x0 < 256 -> 0 <= x1 /\ x1 < 256 -> 0 <= x2 /\ x2 < 256 -> 0 <= x3 /\ x3 < 256 -> W.heap[b]? = some (.cells #[.int .u8 x0, .int .u8 x1, .int .u8 x2, .int .u8 x3] 5 (0, 0)) ->
  (convert 66 9 (.slice (some ⟨b, 0, none⟩) 4 4)).run Tryz.prog W = .ok (.string ⟨#[byteOf x0, byteOf x1, byteOf x2, byteOf x3]⟩) W := by
  intro W b x0 x1 x2 x3 h0 h1 h2 h3 hx; refine run_convert_bytes_back (P := Tryz.prog) _ 66 9 5 ⟨b, 0, none⟩ 4 [byteOf x0, byteOf x1, byteOf x2, byteOf x3] Tryz.underlying66 Tryz.underlying5 Tryz.underlying9 (fun j hj => ?_); have e : (⟨b, 0, none⟩ : Addr).add j = ⟨b, j, none⟩ := by rw [Addr.add_lit, Nat.zero_add]
  rw [e]
  match j, hj with
  | 0, _ => simp only [List.getElem_cons_zero]; rw [byteOf_nat _ h0]; exact cellOf hx 0 _ rfl
  | 1, _ => simp only [List.getElem_cons_zero, List.getElem_cons_succ]; rw [byteOf_nat _ h1]; exact cellOf hx 1 _ rfl
  | 2, _ => simp only [List.getElem_cons_zero, List.getElem_cons_succ]; rw [byteOf_nat _ h2]; exact cellOf hx 2 _ rfl
  | 3, _ => simp only [List.getElem_cons_zero, List.getElem_cons_succ]; rw [byteOf_nat _ h3]; exact cellOf hx 3 _ rfl
 have HCV := H_ hcv; have hb1 := (Below.refl w.heap.size w).alloc (Nat.le_refl _) (.cells #[.int .u8 0, .int .u8 0, .int .u8 0, .int .u8 0] 5 (0, 0)); have H1 := H_ (A_ (tnext_any tb ok t _ (h.below hb1)) (A_ hb1 (A_ (at1 w (.cells #[.int .u8 0, .int .u8 0, .int .u8 0, .int .u8 0] 5 (0, 0))) h.lt))); have HSZ := H_ (alloc1 w (.cells #[.int .u8 0, .int .u8 0, .int .u8 0, .int .u8 0] 5 (0, 0))); have HV := H_ (show tp4 t = (⟨#[byteOf (tpNext t).1, byteOf (tpNext (tpNext t).2).1, byteOf (tpNext (tpNext (tpNext t).2).2).1, byteOf (tpNext (tpNext (tpNext (tpNext t).2).2).2).1]⟩, (tpNext (tpNext (tpNext (tpNext t).2).2).2).2) from rfl); have B1 := tpNext_bd t; have B2 := tpNext_bd (tpNext t).2; have B3 := tpNext_bd (tpNext (tpNext t).2).2; have B4 := tpNext_bd (tpNext (tpNext (tpNext t).2).2).2; generalize tp4 t = r at *; generalize hx1 : tpNext t = y1 at *; generalize hx2 : tpNext y1.2 = y2 at *; generalize hx3 : tpNext y2.2 = y3 at *; generalize hx4 : tpNext y3.2 = y4 at *; obtain ⟨x1, t1⟩ := y1; obtain ⟨x2, t2⟩ := y2; obtain ⟨x3, t3⟩ := y3; obtain ⟨x4, t4⟩ := y4
 dsimp only at *
 have HX := H_ (A_ hx2 (A_ hx3 hx4)); clear h hb1 hcv hx1 hx2 hx3 hx4; have wr8 : ∀ x : Int, 0 <= x /\ x < 256 -> IntKind.u8.wrap x = x := fun x h => by unfold IntKind.wrap; simp [IntKind.bits, IntKind.signed]; omega
 have e1 := wr8 x1 B1; have e2 := wr8 x2 B2; have e3 := wr8 x3 B3; have e4 := wr8 x4 B4; clear wr8; go_enter Tryz.func164, Tryz.ntmps164; go_wp2_with fail; refine wp_loop_rounds 5 ?_; rw [rounds_succ]; go_wp2_with fail; refine H1.out.1.mono ?_; rintro e w1 ⟨rfl, a1, k1⟩; have z1 := (k1.block w.heap.size (by rw [HSZ.out]; omega) (fun he => by have := H1.out.2.2.2; omega)).trans H1.out.2.2.1; have hk1 := (Keep.of_below (fun b => b = tb) H1.out.2.1).trans k1; have y1 := fzOf z1 0; have y1' : w1.cell? ⟨w.heap.size, 0, none⟩ = some (.int .u8 0) := cellOf z1 0 _ rfl; have zz := set_block z1 0 (.int .u8 x1); have hkk := hk1.setCell ⟨w.heap.size, 0, none⟩ (Or.inl (Nat.le_refl _)) (.int .u8 x1); have tt := a1.keep ((Keep.refl (fun b => b = w.heap.size) w1).setCell ⟨w.heap.size, 0, none⟩ (Or.inr rfl) (.int .u8 x1)) (fun he => by have := H1.out.2.2.2; omega) (fun b hb ho he => OKW b ho he); go_wp2_with fail; generalize w1.setCell ⟨w.heap.size, 0, none⟩ (.int .u8 x1) = v1 at zz hkk tt ⊢; have HC2 := H_ (A_ (tnext_any tb ok _ _ tt) (A_ zz hkk)); rw [HX.out.1] at HC2; clear a1 k1 z1 hk1 y1 y1' zz hkk tt; rw [rounds_succ]; go_wp2_with fail; refine HC2.out.1.mono ?_; rintro e w2 ⟨rfl, a2, k2⟩; have z2 := (k2.block w.heap.size (Array.getElem?_eq_some_iff.1 HC2.out.2.1).1 (fun he => by have := H1.out.2.2.2; omega)).trans HC2.out.2.1; have hk2 := HC2.out.2.2.trans k2; have y2 := fzOf z2 1; have y2' : w2.cell? ⟨w.heap.size, 1, none⟩ = some (.int .u8 0) := cellOf z2 1 _ rfl; have zz := set_block z2 1 (.int .u8 x2); have hkk := hk2.setCell ⟨w.heap.size, 1, none⟩ (Or.inl (Nat.le_refl _)) (.int .u8 x2); have tt := a2.keep ((Keep.refl (fun b => b = w.heap.size) w2).setCell ⟨w.heap.size, 1, none⟩ (Or.inr rfl) (.int .u8 x2)) (fun he => by have := H1.out.2.2.2; omega) (fun b hb ho he => OKW b ho he); go_wp2_with fail; generalize w2.setCell ⟨w.heap.size, 1, none⟩ (.int .u8 x2) = v2 at zz hkk tt ⊢; have HC3 := H_ (A_ (tnext_any tb ok _ _ tt) (A_ zz hkk)); rw [HX.out.2.1] at HC3; clear a2 k2 z2 hk2 y2 y2' zz hkk tt; rw [rounds_succ]; go_wp2_with fail; refine HC3.out.1.mono ?_; rintro e w3 ⟨rfl, a3, k3⟩; have z3 := (k3.block w.heap.size (Array.getElem?_eq_some_iff.1 HC3.out.2.1).1 (fun he => by have := H1.out.2.2.2; omega)).trans HC3.out.2.1; have hk3 := HC3.out.2.2.trans k3; have y3 := fzOf z3 2; have y3' : w3.cell? ⟨w.heap.size, 2, none⟩ = some (.int .u8 0) := cellOf z3 2 _ rfl; have zz := set_block z3 2 (.int .u8 x3); have hkk := hk3.setCell ⟨w.heap.size, 2, none⟩ (Or.inl (Nat.le_refl _)) (.int .u8 x3); have tt := a3.keep ((Keep.refl (fun b => b = w.heap.size) w3).setCell ⟨w.heap.size, 2, none⟩ (Or.inr rfl) (.int .u8 x3)) (fun he => by have := H1.out.2.2.2; omega) (fun b hb ho he => OKW b ho he); go_wp2_with fail; generalize w3.setCell ⟨w.heap.size, 2, none⟩ (.int .u8 x3) = v3 at zz hkk tt ⊢; have HC4 := H_ (A_ (tnext_any tb ok _ _ tt) (A_ zz hkk)); rw [HX.out.2.2] at HC4; clear a3 k3 z3 hk3 y3 y3' zz hkk tt; rw [rounds_succ]; go_wp2_with fail; refine HC4.out.1.mono ?_; rintro e w4 ⟨rfl, a4, k4⟩; have z4 := (k4.block w.heap.size (Array.getElem?_eq_some_iff.1 HC4.out.2.1).1 (fun he => by have := H1.out.2.2.2; omega)).trans HC4.out.2.1; have hk4 := HC4.out.2.2.trans k4; have y4 := fzOf z4 3; have y4' : w4.cell? ⟨w.heap.size, 3, none⟩ = some (.int .u8 0) := cellOf z4 3 _ rfl; have zz := set_block z4 3 (.int .u8 x4); have hkk := hk4.setCell ⟨w.heap.size, 3, none⟩ (Or.inl (Nat.le_refl _)) (.int .u8 x4); have tt := a4.keep ((Keep.refl (fun b => b = w.heap.size) w4).setCell ⟨w.heap.size, 3, none⟩ (Or.inr rfl) (.int .u8 x4)) (fun he => by have := H1.out.2.2.2; omega) (fun b hb ho he => OKW b ho he); have hcv := HCV.out _ w.heap.size x1 x2 x3 x4 B1 B2 B3 B4 zz; have HD := H_ (A_ tt hkk); clear a4 k4 z4 hk4 zz hkk tt; go_wp2_with fail; rw [rounds_succ]; go_wp2_with fail; go_ret; rw [HV.out]; exact ⟨rfl, HD.out⟩
theorem TapeAt.old {w : World} {tb : Nat} {ok : Nat -> Prop} {t : TpS} (h : TapeAt w tb ok t) : TapeAt w tb (fun b => ok b /\ b < w.heap.size) t := by
 obtain ⟨tv, a, b, c, d, e⟩ := h; exact ⟨tv, a, Rec.old b, c, fun b hb => d b hb.1, e⟩
theorem TapeAt.mono {w : World} {tb : Nat} {ok ok' : Nat -> Prop} {t : TpS} (h : TapeAt w tb ok t) (hm : ∀ b, ok b -> ok' b) (hn : ∀ b, ok' b -> b ≠ tb) : TapeAt w tb ok' t := by
 obtain ⟨tv, a, b, c, d, e⟩ := h; exact ⟨tv, a, Rec.mono b hm, c, hn, e⟩
theorem bytes4_any (tb : Nat) (ok : Nat -> Prop) (t : TpS) (w : World) (h : TapeAt w tb ok t) :
 Calls Tryz.prog 164 #[.pointer (some ⟨tb, 0, none⟩), .int .i64 4] w fun e w' => e = .returned (.string (tp4 t).1) /\ TapeAt w' tb ok (tp4 t).2 /\ Keep (fun b => b = tb) w w' := by
 have hn : ∀ b, ok b -> b ≠ tb := by obtain ⟨_, _, _, _, d, _⟩ := h; exact d
 refine (bytes4_old tb _ t w h.old (fun b hb => by omega)).mono ?_; rintro e w' ⟨h1, h2, h3⟩; exact ⟨h1, h2.mono (fun b hb => hb.1) hn, h3⟩
theorem tl_eq (a b : ByteArray) : (a.toList == b.toList) = decide (a = b) := by
 by_cases h : a = b
 . subst h; simp
 . have : ¬ a.toList = b.toList := by
    intro e; rw [ByteArray.toList_eq, ByteArray.toList_eq] at e; exact h (ByteArray.ext (Array.ext' e))
   simp [this, h]
def protoS (l : List Opt) : Int := if (findO l 3).isSome then (if ((findO l 3).getD default).v = papB then 49187 else if ((findO l 3).getD default).v = chapB then 49699 else 0) else 0
set_option maxRecDepth 100000 in
theorem proto_any (l : List Opt) (lv : Value) (ok : Nat -> Prop) (w : World) (hl : Opts w ok lv l) (hmax : l.length <= 1000000) :
 Calls Tryz.prog 117 #[lv] w fun e w' => e = .returned (.int .i64 (protoS l)) /\ Below w.heap.size w w' := by
 obtain ⟨sa, c, rfl, hc, hm⟩ := hl.form; have HF := H_ (findO_any l _ ok 3 w hl hmax); have HP := H_ (show protoS l = (if (findO l 3).isSome then (if ((findO l 3).getD default).v = papB then 49187 else if ((findO l 3).getD default).v = chapB then 49699 else 0) else 0) from rfl); have V1 := H_ (fun w => lvalue_any 49187 w (by unfold I64; decide)); have V2 := H_ (fun w => lvalue_any 49699 w (by unfold I64; decide)); rw [show lvalS 49187 = papB from rfl] at V1; rw [show lvalS 49699 = chapB from rfl] at V2; generalize ((findO l 3).getD default).v = s at *; generalize (findO l 3).isSome = y at *; generalize protoS l = r at *; clear hl
 cases y with
 | false =>
  simp only [Bool.false_eq_true, if_false] at HP; go_enter Tryz.func117, Tryz.ntmps117
  go_wp2_with (refine HF.out.mono ?_; rintro e w1 ⟨rfl, hb⟩; have HB := H_ hb; clear hb)
  refine wp_loop_rounds 3 ?_; rw [rounds_succ]; go_wp2_with fail; rw [rounds_succ]; go_wp2_with fail; rw [rounds_succ]; go_wp2_with fail; go_ret; rw [HP.out]; exact ⟨rfl, HB.out.alloc HB.out.size _⟩
 | true =>
  simp only [if_true] at HP; go_enter Tryz.func117, Tryz.ntmps117
  go_wp2_with (refine HF.out.mono ?_; rintro e w1 ⟨rfl, hb⟩; have HB := H_ hb; clear hb)
  have HA := H_ (A_ (at1 w1 (.cells #[.int .i64 49187, .int .i64 49699] 3 (0, 0))) (HB.out.alloc HB.out.size (.cells #[.int .i64 49187, .int .i64 49699] 3 (0, 0)))); refine wp_loop_rounds 3 ?_; rw [rounds_succ]; go_wp2_with fail; refine (V1.out _).mono ?_; rintro e w2 ⟨rfl, b2⟩; have z2 := (b2.block w1.heap.size (by rw [alloc1]; omega)).trans HA.out.1; have HB2 := H_ (A_ z2 (HA.out.2.trans (b2.mono HA.out.2.size))); have y1 : w2.cell? ⟨w1.heap.size, 1, none⟩ = some (.int .i64 49699) := cellOf z2 1 _ rfl; clear b2 z2
  by_cases h1 : s = papB
  . rw [if_pos h1] at HP; subst h1; go_wp2_with fail; go_ret; rw [HP.out]; exact ⟨rfl, HB2.out.2⟩
  . rw [if_neg h1] at HP; have d1 : (s.toList == papB.toList) = false := by rw [tl_eq]; simpa using h1
    clear h1; go_wp2_with fail; rw [rounds_succ]; go_wp2_with fail; refine (V2.out _).mono ?_; rintro e w3 ⟨rfl, b3⟩; have HB3 := H_ (HB2.out.2.trans (b3.mono HB2.out.2.size)); clear b3
    by_cases h2 : s = chapB
    . rw [if_pos h2] at HP; subst h2; go_wp2_with fail; go_ret; rw [HP.out]; exact ⟨rfl, HB3.out⟩
    . rw [if_neg h2] at HP; have d2 : (s.toList == chapB.toList) = false := by rw [tl_eq]; simpa using h2
      clear h2; go_wp2_with fail; rw [rounds_succ]; go_wp2_with fail; go_ret; rw [HP.out]; exact ⟨rfl, HB3.out⟩
def pB2 (v : Int) : ByteArray := ⟨#[byteOf (v / 256 % 256), byteOf (v % 256)]⟩
def pB4 (v : Int) : ByteArray := ⟨#[byteOf (v / 16777216 % 256), byteOf (v / 65536 % 256), byteOf (v / 256 % 256), byteOf (v % 256)]⟩
theorem md (x : Int) : 0 <= x % 256 /\ x % 256 < 256 := by omega
set_option maxRecDepth 100000 in
theorem lputI2 (v : Int) (w : World) :
 Calls Tryz.prog 72 #[.int .i64 v, .int .i64 2] w fun e w' => e = .returned (.string (pB2 v)) /\ Below w.heap.size w w' := by
 have hmk : ∀ w, (Instr.makeSlice 66 (.int .i64 2) (.int .i64 2)).run Tryz.prog w = .ok (.slice (some ⟨w.heap.size, 0, none⟩) 2 2) (w.alloc (.cells #[.int .u8 0, .int .u8 0] 5 (0, 0))) := fun w => by kernel_rfl
 have hcv : (convert 66 9 (.slice (some ⟨w.heap.size, 0, none⟩) 2 2)).run Tryz.prog (w.alloc (.cells #[.int .u8 (v / 256 % 256), .int .u8 (v % 256)] 5 (0, 0))) = .ok (.string (pB2 v)) (w.alloc (.cells #[.int .u8 (v / 256 % 256), .int .u8 (v % 256)] 5 (0, 0))) := by
  have hx := at1 w (.cells #[.int .u8 (v / 256 % 256), .int .u8 (v % 256)] 5 (0, 0)); refine run_convert_bytes_back (P := Tryz.prog) _ 66 9 5 ⟨w.heap.size, 0, none⟩ 2 [byteOf (v / 256 % 256), byteOf (v % 256)] Tryz.underlying66 Tryz.underlying5 Tryz.underlying9 (fun j hj => ?_); rw [Addr.add_lit, Nat.zero_add]
  match j, hj with
  | 0, _ => simp only [List.getElem_cons_zero]; rw [byteOf_nat _ (md _)]; exact cellOf hx 0 _ rfl
  | 1, _ => simp only [List.getElem_cons_zero, List.getElem_cons_succ]; rw [byteOf_nat _ (md _)]; exact cellOf hx 1 _ rfl
 go_enter Tryz.func72, Tryz.ntmps72; go_wp2_with fail; refine wp_loop_rounds 3 ?_; rw [rounds_succ]; go_wp2_with fail; rw [rounds_succ]; go_wp2_with fail; rw [rounds_succ]; go_wp2_with fail; go_ret; exact ⟨rfl, (Below.refl _ _).alloc (Nat.le_refl _) _⟩
set_option maxRecDepth 100000 in
theorem lputI4 (v : Int) (w : World) :
 Calls Tryz.prog 72 #[.int .i64 v, .int .i64 4] w fun e w' => e = .returned (.string (pB4 v)) /\ Below w.heap.size w w' := by
 have hmk : ∀ w, (Instr.makeSlice 66 (.int .i64 4) (.int .i64 4)).run Tryz.prog w = .ok (.slice (some ⟨w.heap.size, 0, none⟩) 4 4) (w.alloc (.cells #[.int .u8 0, .int .u8 0, .int .u8 0, .int .u8 0] 5 (0, 0))) := fun w => by kernel_rfl
 have hcv : (convert 66 9 (.slice (some ⟨w.heap.size, 0, none⟩) 4 4)).run Tryz.prog (w.alloc (.cells #[.int .u8 (v / 16777216 % 256), .int .u8 (v / 65536 % 256), .int .u8 (v / 256 % 256), .int .u8 (v % 256)] 5 (0, 0))) = .ok (.string (pB4 v)) (w.alloc (.cells #[.int .u8 (v / 16777216 % 256), .int .u8 (v / 65536 % 256), .int .u8 (v / 256 % 256), .int .u8 (v % 256)] 5 (0, 0))) := by
  have hx := at1 w (.cells #[.int .u8 (v / 16777216 % 256), .int .u8 (v / 65536 % 256), .int .u8 (v / 256 % 256), .int .u8 (v % 256)] 5 (0, 0)); refine run_convert_bytes_back (P := Tryz.prog) _ 66 9 5 ⟨w.heap.size, 0, none⟩ 4 [byteOf (v / 16777216 % 256), byteOf (v / 65536 % 256), byteOf (v / 256 % 256), byteOf (v % 256)] Tryz.underlying66 Tryz.underlying5 Tryz.underlying9 (fun j hj => ?_); rw [Addr.add_lit, Nat.zero_add]
  match j, hj with
  | 0, _ => simp only [List.getElem_cons_zero]; rw [byteOf_nat _ (md _)]; exact cellOf hx 0 _ rfl
  | 1, _ => simp only [List.getElem_cons_zero, List.getElem_cons_succ]; rw [byteOf_nat _ (md _)]; exact cellOf hx 1 _ rfl
  | 2, _ => simp only [List.getElem_cons_zero, List.getElem_cons_succ]; rw [byteOf_nat _ (md _)]; exact cellOf hx 2 _ rfl
  | 3, _ => simp only [List.getElem_cons_zero, List.getElem_cons_succ]; rw [byteOf_nat _ (md _)]; exact cellOf hx 3 _ rfl
 go_enter Tryz.func72, Tryz.ntmps72; go_wp2_with fail; refine wp_loop_rounds 5 ?_; rw [rounds_succ]; go_wp2_with fail; rw [rounds_succ]; go_wp2_with fail; rw [rounds_succ]; go_wp2_with fail; rw [rounds_succ]; go_wp2_with fail; rw [rounds_succ]; go_wp2_with fail; go_ret; exact ⟨rfl, (Below.refl _ _).alloc (Nat.le_refl _) _⟩
structure LCfg where
 mru : Int
 auth : Int
 magic : Int
 echo : Int
 cf : Int
 tm : Int
 fl : Int
 wt : Int
def cfgV (c : LCfg) : Value := .agg #[.int .i64 c.mru, .int .i64 c.auth, .int .i64 c.magic, .int .i64 c.echo, .int .i64 c.cf, .int .i64 c.tm, .int .i64 c.fl, .int .i64 c.wt]
def optsS1 (c : LCfg) : List Opt := if c.mru = 1492 then [] else [⟨1, pB2 c.mru⟩]
def optsS2 (c : LCfg) : List Opt := if c.auth = 0 then optsS1 c else optsS1 c ++ [⟨3, lvalS c.auth⟩]
def optsS (c : LCfg) : List Opt := if c.magic = 0 then optsS2 c else optsS2 c ++ [⟨5, pB4 c.magic⟩]
structure OI (w W : World) (cs : Array Value) (rv : Value) (l : List Opt) : Prop where
 blk : W.heap[w.heap.size]? = some (.cells cs 86 (0, 0))
 row : ORow W (w.heap.size + 1) rv l
 bel : Below w.heap.size w W
theorem OI.sz {w W : World} {cs : Array Value} {rv : Value} {l : List Opt} (h : OI w W cs rv l) : w.heap.size + 1 <= W.heap.size := (Array.getElem?_eq_some_iff.1 h.blk).1
theorem OI.go {w W W' : World} {cs : Array Value} {rv : Value} {l : List Opt} (h : OI w W cs rv l) (hb : Below W.heap.size W W') : OI w W' cs rv l :=
 ⟨(hb.block _ h.sz).trans h.blk, h.row.below hb, h.bel.trans (hb.mono (Nat.le_of_succ_le h.sz))⟩
theorem OI.al {w W : World} {cs : Array Value} {rv : Value} {l : List Opt} (h : OI w W cs rv l) (o : Obj) : OI w (W.alloc o) cs rv l := h.go ((Below.refl _ _).alloc (Nat.le_refl _) o)
theorem OI.app {w W W' : World} {cs : Array Value} {rv rv' : Value} {l l' : List Opt} (h : OI w W cs rv l) (hr : ORow W' (w.heap.size + 1) rv' l') (hk : Keep (fun k => rv.ownBlock = some k) W W') : OI w W' cs rv' l' :=
 ⟨(hk.block _ h.sz (fun he => by have := (h.row.lt _ he).2; omega)).trans h.blk, hr, h.bel.trans (hk.below (Nat.le_of_succ_le h.sz) (fun k hk he => by have := (h.row.lt _ he).2; omega))⟩
set_option maxRecDepth 100000 in
theorem lopts_000 (m au mg ec cf tm fl wt : Int) (w : World) (ha : I64 au) (h1 : m = 1492) (h2 : au = 0) (h3 : mg = 0) :
 Calls Tryz.prog 89 #[cfgV ⟨m, au, mg, ec, cf, tm, fl, wt⟩] w fun e w' => ∃ v, e = .returned v /\ ORow w' w.heap.size v (optsS ⟨m, au, mg, ec, cf, tm, fl, wt⟩) /\ Below w.heap.size w w' := by
 have HA := H_ ha
 have HI : Hid (OI w (w.alloc (.cells #[.int .i64 m, .int .i64 au, .int .i64 mg, .int .i64 ec, .int .i64 cf, .int .i64 tm, .int .i64 fl, .int .i64 wt] 86 (0, 0))) #[.int .i64 m, .int .i64 au, .int .i64 mg, .int .i64 ec, .int .i64 cf, .int .i64 tm, .int .i64 fl, .int .i64 wt] (.slice none 0 0) []) :=
  H_ ⟨at1 _ _, ORow.nil _ _, (Below.refl _ _).alloc (Nat.le_refl _) _⟩
 have HE := H_ (show optsS ⟨m, au, mg, ec, cf, tm, fl, wt⟩ = ([] : List Opt) from by
  unfold optsS optsS2 optsS1
  simp [h1, h2, h3])
 generalize optsS ⟨m, au, mg, ec, cf, tm, fl, wt⟩ = R at *; unfold cfgV
 dsimp only
 clear ha; have e1 : (m != 1492) = false := by simpa using h1
 have e2 : (au != 0) = false := by simpa using h2
 have e3 : (mg != 0) = false := by simpa using h3
 clear h1 h2 h3; go_enter Tryz.func89, Tryz.ntmps89; go_wp2_with fail; go_ret; rw [HE.out]; exact ⟨_, rfl, (by have := HI.out.row.base (Nat.le_succ _); simpa using this), HI.out.bel⟩
set_option maxRecDepth 100000 in
theorem lopts_001 (m au mg ec cf tm fl wt : Int) (w : World) (ha : I64 au) (h1 : m = 1492) (h2 : au = 0) (h3 : ¬ mg = 0) :
 Calls Tryz.prog 89 #[cfgV ⟨m, au, mg, ec, cf, tm, fl, wt⟩] w fun e w' => ∃ v, e = .returned v /\ ORow w' w.heap.size v (optsS ⟨m, au, mg, ec, cf, tm, fl, wt⟩) /\ Below w.heap.size w w' := by
 have HA := H_ ha
 have HI : Hid (OI w (w.alloc (.cells #[.int .i64 m, .int .i64 au, .int .i64 mg, .int .i64 ec, .int .i64 cf, .int .i64 tm, .int .i64 fl, .int .i64 wt] 86 (0, 0))) #[.int .i64 m, .int .i64 au, .int .i64 mg, .int .i64 ec, .int .i64 cf, .int .i64 tm, .int .i64 fl, .int .i64 wt] (.slice none 0 0) []) :=
  H_ ⟨at1 _ _, ORow.nil _ _, (Below.refl _ _).alloc (Nat.le_refl _) _⟩
 have HE := H_ (show optsS ⟨m, au, mg, ec, cf, tm, fl, wt⟩ = (([] : List Opt) ++ [⟨5, pB4 mg⟩]) from by
  unfold optsS optsS2 optsS1
  simp [h1, h2, h3])
 generalize optsS ⟨m, au, mg, ec, cf, tm, fl, wt⟩ = R at *; unfold cfgV
 dsimp only
 clear ha; have e1 : (m != 1492) = false := by simpa using h1
 have e2 : (au != 0) = false := by simpa using h2
 have e3 : (mg != 0) = true := by simpa using h3
 clear h1 h2 h3; go_enter Tryz.func89, Tryz.ntmps89
 go_wp2_with (first
  | (
   go_at_call 72; refine (lputI4 _ _).mono ?_; rintro e W1 ⟨rfl, b1⟩; have HI := H_ (HI.out.go b1); have c1 := cellOf HI.out.blk 1 _ rfl; have c2 := cellOf HI.out.blk 2 _ rfl
   clear b1)
  | (
   at_builtin; refine wpl_append_opt rfl _ _ rfl _ _ rfl (HI.out.al _).row _ 1 _ _ rfl (at1 _ _) (by simp) (by rw [alloc1]; have := HI.out.sz; omega) ?_
   intro g cap W2 hr hk hg; have HI := H_ ((HI.out.al _).app hr hk); have c1 := cellOf HI.out.blk 1 _ rfl; have c2 := cellOf HI.out.blk 2 _ rfl
   clear hr hk hg))
 go_ret; rw [HE.out]; exact ⟨_, rfl, (by have := HI.out.row.base (Nat.le_succ _); simpa using this), HI.out.bel⟩
set_option maxRecDepth 100000 in
theorem lopts_010 (m au mg ec cf tm fl wt : Int) (w : World) (ha : I64 au) (h1 : m = 1492) (h2 : ¬ au = 0) (h3 : mg = 0) :
 Calls Tryz.prog 89 #[cfgV ⟨m, au, mg, ec, cf, tm, fl, wt⟩] w fun e w' => ∃ v, e = .returned v /\ ORow w' w.heap.size v (optsS ⟨m, au, mg, ec, cf, tm, fl, wt⟩) /\ Below w.heap.size w w' := by
 have HA := H_ ha
 have HI : Hid (OI w (w.alloc (.cells #[.int .i64 m, .int .i64 au, .int .i64 mg, .int .i64 ec, .int .i64 cf, .int .i64 tm, .int .i64 fl, .int .i64 wt] 86 (0, 0))) #[.int .i64 m, .int .i64 au, .int .i64 mg, .int .i64 ec, .int .i64 cf, .int .i64 tm, .int .i64 fl, .int .i64 wt] (.slice none 0 0) []) :=
  H_ ⟨at1 _ _, ORow.nil _ _, (Below.refl _ _).alloc (Nat.le_refl _) _⟩
 have HE := H_ (show optsS ⟨m, au, mg, ec, cf, tm, fl, wt⟩ = (([] : List Opt) ++ [⟨3, lvalS au⟩]) from by
  unfold optsS optsS2 optsS1
  simp [h1, h2, h3])
 generalize optsS ⟨m, au, mg, ec, cf, tm, fl, wt⟩ = R at *; unfold cfgV
 dsimp only
 clear ha; have e1 : (m != 1492) = false := by simpa using h1
 have e2 : (au != 0) = true := by simpa using h2
 have e3 : (mg != 0) = false := by simpa using h3
 clear h1 h2 h3; go_enter Tryz.func89, Tryz.ntmps89
 go_wp2_with (first
  | (
   go_at_call 87; refine (lvalue_any _ _ HA.out).mono ?_; rintro e W1 ⟨rfl, b1⟩; have HI := H_ (HI.out.go b1); have c2 := cellOf HI.out.blk 2 _ rfl
   clear b1)
  | (
   at_builtin; refine wpl_append_opt rfl _ _ rfl _ _ rfl (HI.out.al _).row _ 1 _ _ rfl (at1 _ _) (by simp) (by rw [alloc1]; have := HI.out.sz; omega) ?_
   intro g cap W2 hr hk hg; have HI := H_ ((HI.out.al _).app hr hk); have c1 := cellOf HI.out.blk 1 _ rfl; have c2 := cellOf HI.out.blk 2 _ rfl
   clear hr hk hg))
 go_ret; rw [HE.out]; exact ⟨_, rfl, (by have := HI.out.row.base (Nat.le_succ _); simpa using this), HI.out.bel⟩
set_option maxRecDepth 100000 in
theorem lopts_011 (m au mg ec cf tm fl wt : Int) (w : World) (ha : I64 au) (h1 : m = 1492) (h2 : ¬ au = 0) (h3 : ¬ mg = 0) :
 Calls Tryz.prog 89 #[cfgV ⟨m, au, mg, ec, cf, tm, fl, wt⟩] w fun e w' => ∃ v, e = .returned v /\ ORow w' w.heap.size v (optsS ⟨m, au, mg, ec, cf, tm, fl, wt⟩) /\ Below w.heap.size w w' := by
 have HA := H_ ha
 have HI : Hid (OI w (w.alloc (.cells #[.int .i64 m, .int .i64 au, .int .i64 mg, .int .i64 ec, .int .i64 cf, .int .i64 tm, .int .i64 fl, .int .i64 wt] 86 (0, 0))) #[.int .i64 m, .int .i64 au, .int .i64 mg, .int .i64 ec, .int .i64 cf, .int .i64 tm, .int .i64 fl, .int .i64 wt] (.slice none 0 0) []) :=
  H_ ⟨at1 _ _, ORow.nil _ _, (Below.refl _ _).alloc (Nat.le_refl _) _⟩
 have HE := H_ (show optsS ⟨m, au, mg, ec, cf, tm, fl, wt⟩ = ((([] : List Opt) ++ [⟨3, lvalS au⟩]) ++ [⟨5, pB4 mg⟩]) from by
  unfold optsS optsS2 optsS1
  simp [h1, h2, h3])
 generalize optsS ⟨m, au, mg, ec, cf, tm, fl, wt⟩ = R at *; unfold cfgV
 dsimp only
 clear ha; have e1 : (m != 1492) = false := by simpa using h1
 have e2 : (au != 0) = true := by simpa using h2
 have e3 : (mg != 0) = true := by simpa using h3
 clear h1 h2 h3; go_enter Tryz.func89, Tryz.ntmps89
 go_wp2_with (first
  | (
   go_at_call 72; refine (lputI4 _ _).mono ?_; rintro e W1 ⟨rfl, b1⟩; have HI := H_ (HI.out.go b1); have c1 := cellOf HI.out.blk 1 _ rfl; have c2 := cellOf HI.out.blk 2 _ rfl
   clear b1)
  | (
   go_at_call 87; refine (lvalue_any _ _ HA.out).mono ?_; rintro e W1 ⟨rfl, b1⟩; have HI := H_ (HI.out.go b1); have c2 := cellOf HI.out.blk 2 _ rfl
   clear b1)
  | (
   at_builtin; refine wpl_append_opt rfl _ _ rfl _ _ rfl (HI.out.al _).row _ 1 _ _ rfl (at1 _ _) (by simp) (by rw [alloc1]; have := HI.out.sz; omega) ?_
   intro g cap W2 hr hk hg; have HI := H_ ((HI.out.al _).app hr hk); have c1 := cellOf HI.out.blk 1 _ rfl; have c2 := cellOf HI.out.blk 2 _ rfl
   clear hr hk hg))
 go_ret; rw [HE.out]; exact ⟨_, rfl, (by have := HI.out.row.base (Nat.le_succ _); simpa using this), HI.out.bel⟩
set_option maxRecDepth 100000 in
theorem lopts_100 (m au mg ec cf tm fl wt : Int) (w : World) (ha : I64 au) (h1 : ¬ m = 1492) (h2 : au = 0) (h3 : mg = 0) :
 Calls Tryz.prog 89 #[cfgV ⟨m, au, mg, ec, cf, tm, fl, wt⟩] w fun e w' => ∃ v, e = .returned v /\ ORow w' w.heap.size v (optsS ⟨m, au, mg, ec, cf, tm, fl, wt⟩) /\ Below w.heap.size w w' := by
 have HA := H_ ha
 have HI : Hid (OI w (w.alloc (.cells #[.int .i64 m, .int .i64 au, .int .i64 mg, .int .i64 ec, .int .i64 cf, .int .i64 tm, .int .i64 fl, .int .i64 wt] 86 (0, 0))) #[.int .i64 m, .int .i64 au, .int .i64 mg, .int .i64 ec, .int .i64 cf, .int .i64 tm, .int .i64 fl, .int .i64 wt] (.slice none 0 0) []) :=
  H_ ⟨at1 _ _, ORow.nil _ _, (Below.refl _ _).alloc (Nat.le_refl _) _⟩
 have HE := H_ (show optsS ⟨m, au, mg, ec, cf, tm, fl, wt⟩ = (([] : List Opt) ++ [⟨1, pB2 m⟩]) from by
  unfold optsS optsS2 optsS1
  simp [h1, h2, h3])
 generalize optsS ⟨m, au, mg, ec, cf, tm, fl, wt⟩ = R at *; unfold cfgV
 dsimp only
 clear ha; have e1 : (m != 1492) = true := by simpa using h1
 have e2 : (au != 0) = false := by simpa using h2
 have e3 : (mg != 0) = false := by simpa using h3
 clear h1 h2 h3; go_enter Tryz.func89, Tryz.ntmps89
 go_wp2_with (first
  | (
   go_at_call 72; refine (lputI2 _ _).mono ?_; rintro e W1 ⟨rfl, b1⟩; have HI := H_ (HI.out.go b1); have c1 := cellOf HI.out.blk 1 _ rfl; have c2 := cellOf HI.out.blk 2 _ rfl
   clear b1)
  | (
   at_builtin; refine wpl_append_opt rfl _ _ rfl _ _ rfl (HI.out.al _).row _ 1 _ _ rfl (at1 _ _) (by simp) (by rw [alloc1]; have := HI.out.sz; omega) ?_
   intro g cap W2 hr hk hg; have HI := H_ ((HI.out.al _).app hr hk); have c1 := cellOf HI.out.blk 1 _ rfl; have c2 := cellOf HI.out.blk 2 _ rfl
   clear hr hk hg))
 go_ret; rw [HE.out]; exact ⟨_, rfl, (by have := HI.out.row.base (Nat.le_succ _); simpa using this), HI.out.bel⟩
set_option maxRecDepth 100000 in
theorem lopts_101 (m au mg ec cf tm fl wt : Int) (w : World) (ha : I64 au) (h1 : ¬ m = 1492) (h2 : au = 0) (h3 : ¬ mg = 0) :
 Calls Tryz.prog 89 #[cfgV ⟨m, au, mg, ec, cf, tm, fl, wt⟩] w fun e w' => ∃ v, e = .returned v /\ ORow w' w.heap.size v (optsS ⟨m, au, mg, ec, cf, tm, fl, wt⟩) /\ Below w.heap.size w w' := by
 have HA := H_ ha
 have HI : Hid (OI w (w.alloc (.cells #[.int .i64 m, .int .i64 au, .int .i64 mg, .int .i64 ec, .int .i64 cf, .int .i64 tm, .int .i64 fl, .int .i64 wt] 86 (0, 0))) #[.int .i64 m, .int .i64 au, .int .i64 mg, .int .i64 ec, .int .i64 cf, .int .i64 tm, .int .i64 fl, .int .i64 wt] (.slice none 0 0) []) :=
  H_ ⟨at1 _ _, ORow.nil _ _, (Below.refl _ _).alloc (Nat.le_refl _) _⟩
 have HE := H_ (show optsS ⟨m, au, mg, ec, cf, tm, fl, wt⟩ = ((([] : List Opt) ++ [⟨1, pB2 m⟩]) ++ [⟨5, pB4 mg⟩]) from by
  unfold optsS optsS2 optsS1
  simp [h1, h2, h3])
 generalize optsS ⟨m, au, mg, ec, cf, tm, fl, wt⟩ = R at *; unfold cfgV
 dsimp only
 clear ha; have e1 : (m != 1492) = true := by simpa using h1
 have e2 : (au != 0) = false := by simpa using h2
 have e3 : (mg != 0) = true := by simpa using h3
 clear h1 h2 h3; go_enter Tryz.func89, Tryz.ntmps89
 go_wp2_with (first
  | (
   go_at_call 72; first | with_reducible refine (lputI2 _ _).mono ?_ | with_reducible refine (lputI4 _ _).mono ?_
   rintro e W1 ⟨rfl, b1⟩; have HI := H_ (HI.out.go b1); have c1 := cellOf HI.out.blk 1 _ rfl; have c2 := cellOf HI.out.blk 2 _ rfl
   clear b1)
  | (
   at_builtin; refine wpl_append_opt rfl _ _ rfl _ _ rfl (HI.out.al _).row _ 1 _ _ rfl (at1 _ _) (by simp) (by rw [alloc1]; have := HI.out.sz; omega) ?_
   intro g cap W2 hr hk hg; have HI := H_ ((HI.out.al _).app hr hk); have c1 := cellOf HI.out.blk 1 _ rfl; have c2 := cellOf HI.out.blk 2 _ rfl
   clear hr hk hg))
 go_ret; rw [HE.out]; exact ⟨_, rfl, (by have := HI.out.row.base (Nat.le_succ _); simpa using this), HI.out.bel⟩
set_option maxRecDepth 100000 in
theorem lopts_110 (m au mg ec cf tm fl wt : Int) (w : World) (ha : I64 au) (h1 : ¬ m = 1492) (h2 : ¬ au = 0) (h3 : mg = 0) :
 Calls Tryz.prog 89 #[cfgV ⟨m, au, mg, ec, cf, tm, fl, wt⟩] w fun e w' => ∃ v, e = .returned v /\ ORow w' w.heap.size v (optsS ⟨m, au, mg, ec, cf, tm, fl, wt⟩) /\ Below w.heap.size w w' := by
 have HA := H_ ha
 have HI : Hid (OI w (w.alloc (.cells #[.int .i64 m, .int .i64 au, .int .i64 mg, .int .i64 ec, .int .i64 cf, .int .i64 tm, .int .i64 fl, .int .i64 wt] 86 (0, 0))) #[.int .i64 m, .int .i64 au, .int .i64 mg, .int .i64 ec, .int .i64 cf, .int .i64 tm, .int .i64 fl, .int .i64 wt] (.slice none 0 0) []) :=
  H_ ⟨at1 _ _, ORow.nil _ _, (Below.refl _ _).alloc (Nat.le_refl _) _⟩
 have HE := H_ (show optsS ⟨m, au, mg, ec, cf, tm, fl, wt⟩ = ((([] : List Opt) ++ [⟨1, pB2 m⟩]) ++ [⟨3, lvalS au⟩]) from by
  unfold optsS optsS2 optsS1
  simp [h1, h2, h3])
 generalize optsS ⟨m, au, mg, ec, cf, tm, fl, wt⟩ = R at *; unfold cfgV
 dsimp only
 clear ha; have e1 : (m != 1492) = true := by simpa using h1
 have e2 : (au != 0) = true := by simpa using h2
 have e3 : (mg != 0) = false := by simpa using h3
 clear h1 h2 h3; go_enter Tryz.func89, Tryz.ntmps89
 go_wp2_with (first
  | (
   go_at_call 72; refine (lputI2 _ _).mono ?_; rintro e W1 ⟨rfl, b1⟩; have HI := H_ (HI.out.go b1); have c1 := cellOf HI.out.blk 1 _ rfl; have c2 := cellOf HI.out.blk 2 _ rfl
   clear b1)
  | (
   go_at_call 87; refine (lvalue_any _ _ HA.out).mono ?_; rintro e W1 ⟨rfl, b1⟩; have HI := H_ (HI.out.go b1); have c2 := cellOf HI.out.blk 2 _ rfl
   clear b1)
  | (
   at_builtin; refine wpl_append_opt rfl _ _ rfl _ _ rfl (HI.out.al _).row _ 1 _ _ rfl (at1 _ _) (by simp) (by rw [alloc1]; have := HI.out.sz; omega) ?_
   intro g cap W2 hr hk hg; have HI := H_ ((HI.out.al _).app hr hk); have c1 := cellOf HI.out.blk 1 _ rfl; have c2 := cellOf HI.out.blk 2 _ rfl
   clear hr hk hg))
 go_ret; rw [HE.out]; exact ⟨_, rfl, (by have := HI.out.row.base (Nat.le_succ _); simpa using this), HI.out.bel⟩
set_option maxRecDepth 100000 in
theorem lopts_111 (m au mg ec cf tm fl wt : Int) (w : World) (ha : I64 au) (h1 : ¬ m = 1492) (h2 : ¬ au = 0) (h3 : ¬ mg = 0) :
 Calls Tryz.prog 89 #[cfgV ⟨m, au, mg, ec, cf, tm, fl, wt⟩] w fun e w' => ∃ v, e = .returned v /\ ORow w' w.heap.size v (optsS ⟨m, au, mg, ec, cf, tm, fl, wt⟩) /\ Below w.heap.size w w' := by
 have HA := H_ ha
 have HI : Hid (OI w (w.alloc (.cells #[.int .i64 m, .int .i64 au, .int .i64 mg, .int .i64 ec, .int .i64 cf, .int .i64 tm, .int .i64 fl, .int .i64 wt] 86 (0, 0))) #[.int .i64 m, .int .i64 au, .int .i64 mg, .int .i64 ec, .int .i64 cf, .int .i64 tm, .int .i64 fl, .int .i64 wt] (.slice none 0 0) []) :=
  H_ ⟨at1 _ _, ORow.nil _ _, (Below.refl _ _).alloc (Nat.le_refl _) _⟩
 have HE := H_ (show optsS ⟨m, au, mg, ec, cf, tm, fl, wt⟩ = (((([] : List Opt) ++ [⟨1, pB2 m⟩]) ++ [⟨3, lvalS au⟩]) ++ [⟨5, pB4 mg⟩]) from by
  unfold optsS optsS2 optsS1
  simp [h1, h2, h3])
 generalize optsS ⟨m, au, mg, ec, cf, tm, fl, wt⟩ = R at *; unfold cfgV
 dsimp only
 clear ha; have e1 : (m != 1492) = true := by simpa using h1
 have e2 : (au != 0) = true := by simpa using h2
 have e3 : (mg != 0) = true := by simpa using h3
 clear h1 h2 h3; go_enter Tryz.func89, Tryz.ntmps89
 go_wp2_with (first
  | (
   go_at_call 72; first | with_reducible refine (lputI2 _ _).mono ?_ | with_reducible refine (lputI4 _ _).mono ?_
   rintro e W1 ⟨rfl, b1⟩; have HI := H_ (HI.out.go b1); have c1 := cellOf HI.out.blk 1 _ rfl; have c2 := cellOf HI.out.blk 2 _ rfl
   clear b1)
  | (
   go_at_call 87; refine (lvalue_any _ _ HA.out).mono ?_; rintro e W1 ⟨rfl, b1⟩; have HI := H_ (HI.out.go b1); have c2 := cellOf HI.out.blk 2 _ rfl
   clear b1)
  | (
   at_builtin; refine wpl_append_opt rfl _ _ rfl _ _ rfl (HI.out.al _).row _ 1 _ _ rfl (at1 _ _) (by simp) (by rw [alloc1]; have := HI.out.sz; omega) ?_
   intro g cap W2 hr hk hg; have HI := H_ ((HI.out.al _).app hr hk); have c1 := cellOf HI.out.blk 1 _ rfl; have c2 := cellOf HI.out.blk 2 _ rfl
   clear hr hk hg))
 go_ret; rw [HE.out]; exact ⟨_, rfl, (by have := HI.out.row.base (Nat.le_succ _); simpa using this), HI.out.bel⟩
theorem lopts_any (c : LCfg) (w : World) (ha : I64 c.auth) :
 Calls Tryz.prog 89 #[cfgV c] w fun e w' => ∃ v, e = .returned v /\ ORow w' w.heap.size v (optsS c) /\ Below w.heap.size w w' := by
 obtain ⟨m, au, mg, ec, cf, tm, fl, wt⟩ := c
 by_cases h1 : m = 1492 <;> by_cases h2 : au = 0 <;> by_cases h3 : mg = 0
 . exact lopts_000 m au mg ec cf tm fl wt w ha h1 h2 h3
 . exact lopts_001 m au mg ec cf tm fl wt w ha h1 h2 h3
 . exact lopts_010 m au mg ec cf tm fl wt w ha h1 h2 h3
 . exact lopts_011 m au mg ec cf tm fl wt w ha h1 h2 h3
 . exact lopts_100 m au mg ec cf tm fl wt w ha h1 h2 h3
 . exact lopts_101 m au mg ec cf tm fl wt w ha h1 h2 h3
 . exact lopts_110 m au mg ec cf tm fl wt w ha h1 h2 h3
 . exact lopts_111 m au mg ec cf tm fl wt w ha h1 h2 h3
def wB : List Opt -> List Opt -> Bool
 | _, [] => true
 | [], _ :: _ => false
 | r :: rs, o :: l => if eqB r o then wB rs l else wB rs (o :: l)
theorem wB_nil (req : List Opt) : wB req [] = true := by cases req <;> rfl
theorem wB_end (req : List Opt) (o : Opt) (l : List Opt) (a : Nat) (h : req.length <= a) : wB (req.drop a) (o :: l) = false := by rw [List.drop_of_length_le h]; rfl
theorem wB_at (req : List Opt) (o : Opt) (l : List Opt) (a : Nat) (h : a < req.length) : wB (req.drop a) (o :: l) = if eqB req[a] o then wB (req.drop (a + 1)) l else wB (req.drop (a + 1)) (o :: l) := by
 rw [List.drop_eq_getElem_cons h]; rfl
set_option maxRecDepth 100000 in
theorem within_any (l req : List Opt) (lv rv : Value) (ok ok' : Nat -> Prop) (w : World) (hl : Opts w ok lv l) (hr : Opts w ok' rv req) (hm : l.length <= 1000000) (hm' : req.length <= 1000000) :
 Calls Tryz.prog 167 #[lv, rv] w fun e w' => e = .returned (.bool (wB req l)) /\ Below w.heap.size w w' := by
 obtain ⟨sa, c, rfl, hc, hcm⟩ := hl.form; obtain ⟨ra, rc, rfl, hrc, hrcm⟩ := hr.form; have HL := H_ hl; have HR := H_ hr; obtain ⟨len, hln⟩ : ∃ len, len = l.length := ⟨_, rfl⟩; have HLN := H_ hln; obtain ⟨m, hmn⟩ : ∃ m, m = req.length := ⟨_, rfl⟩; have HMN := H_ hmn; rw [<- hln] at hc hm ⊢; rw [<- hmn] at hrc hm' ⊢; unfold maxLen at hcm hrcm; clear hl hr hln hmn; go_enter Tryz.func167, Tryz.ntmps167; go_wp2_with fail
 go_loopg [10, 5] len (fun x i a wr => ∃ (k at' : Nat), k <= len /\ at' <= m /\ x = len - k /\ i = .int .i64 k /\ a = .int .i64 at' /\ Hid (Below w.heap.size w wr /\ wB req l = wB (req.drop at') (l.drop k)))
 case atStart => exact ⟨0, 0, by omega, by omega, by omega, rfl, rfl, Below.refl _ _, rfl⟩
 case round =>
  obtain ⟨k, a, hk, ha, rfl, rfl, rfl, hK⟩ := hrel; have HK := H_ hK.out; clear hK
  by_cases hkl : k < len
  . have hkl' : k < l.length := by have := HLN.out; omega
    obtain ⟨b, off, rfl, hb, -, -, -, -, c0, c1⟩ := HL.out.at k hkl'; have d0 : wr.cell? ⟨b, off + k * 2, none⟩ = _ := (HK.out.1.cell (p := ⟨b, off + k * 2, none⟩) hb).trans c0; have d1 : wr.cell? ⟨b, off + k * 2 + 1, none⟩ = _ := (HK.out.1.cell (p := ⟨b, off + k * 2 + 1, none⟩) hb).trans c1; have HD := H_ (show l.drop k = l[k] :: l.drop (k + 1) from List.drop_eq_getElem_cons hkl'); have hb1 := HK.out.1.alloc HK.out.1.size (.cells #[.int .i64 l[k].t, .string l[k].v] 132 (0, 0)); have hx := at1 wr (.cells #[.int .i64 l[k].t, .string l[k].v] 132 (0, 0)); generalize l[k] = o at *; obtain ⟨rest, hrest⟩ : ∃ rest, rest = l.drop (k + 1) := ⟨_, rfl⟩; rw [<- hrest] at HD; have HRE := H_ hrest; clear hrest; obtain ⟨t, v⟩ := o; simp only at d0 d1 hb1 hx
    rw [HD.out] at HK; have HX := H_ (A_ hb1 hx); clear c0 c1 hb1 hx; go_wp2_with fail; generalize wr.alloc (.cells #[.int .i64 t, .string v] 132 (0, 0)) = W1 at HX ⊢; generalize wr.heap.size = xb at HX ⊢
    go_loopg [5] (m - a) (fun x av wi => ∃ a' : Nat, a' <= m /\ x = m - a' /\ av = .int .i64 a' /\ Hid (Below w.heap.size w wi /\ wi.heap[xb]? = some (.cells #[.int .i64 t, .string v] 132 (0, 0)) /\ wB req l = wB (req.drop a') (⟨t, v⟩ :: rest)))
    case atStart => exact ⟨a, ha, by omega, rfl, HX.out.1, HX.out.2, HK.out.2⟩
    case round =>
     obtain ⟨a', ha', rfl, rfl, hI⟩ := hrel; have HI := H_ hI.out; clear hI; have x0 := cellOf HI.out.2.1 0 (.int .i64 t) rfl; have x1 := cellOf HI.out.2.1 1 (.string v) rfl
     by_cases ham : a' < m
     . have ham' : a' < req.length := by have := HMN.out; omega
       obtain ⟨rb, roff, rfl, hrb, -, -, -, -, r0, r1⟩ := HR.out.at a' ham'; have e0 : wr.cell? ⟨rb, roff + a' * 2, none⟩ = _ := (HI.out.1.cell (p := ⟨rb, roff + a' * 2, none⟩) hrb).trans r0; have e1 : wr.cell? ⟨rb, roff + a' * 2 + 1, none⟩ = _ := (HI.out.1.cell (p := ⟨rb, roff + a' * 2 + 1, none⟩) hrb).trans r1; have HW := H_ (wB_at req ⟨t, v⟩ rest a' ham'); have hn0 := fun w => neqO req[a'].t t req[a'].v v w; have hq : eqB req[a'] ⟨t, v⟩ = (decide (req[a'].t = t) && decide (req[a'].v = v)) := rfl; rw [<- hq] at hn0; clear r0 r1 hq; generalize eqB req[a'] ⟨t, v⟩ = y at HW hn0; generalize req[a'] = o' at *; obtain ⟨t', v'⟩ := o'; simp only at e0 e1 hn0
       have dlt : decide ((a' : Int) < (m : Int)) = true := by simp; omega
       have HSv : (fun X : World => X.cell? ⟨rb, roff + a' * 2, none⟩ = some (.int .i64 t') /\ X.cell? ⟨rb, roff + a' * 2 + 1, none⟩ = some (.string v') /\ X.cell? ⟨xb, 0, none⟩ = some (.int .i64 t) /\ X.cell? ⟨xb, 1, none⟩ = some (.string v)) wr.drew := ⟨e0, e1, x0, x1⟩
       cases y with
       | true =>
        go_wp2_with fail; refine wp_region_H (rgH 8 12) (fun X : World => X.cell? ⟨rb, roff + a' * 2, none⟩ = some (.int .i64 t') /\ X.cell? ⟨rb, roff + a' * 2 + 1, none⟩ = some (.string v') /\ X.cell? ⟨xb, 0, none⟩ = some (.int .i64 t) /\ X.cell? ⟨xb, 1, none⟩ = some (.string v)) (by kernel_rfl) ?_; refine hatP 0 rfl (by intro W _; go_simp; try rfl) ?_; simp only [aZ, aC, aD]; refine hatP 1 rfl (by intro W _; go_simp; try rfl) ?_; simp only [aZ, aC, aD]; refine hatP 2 rfl (by intro W _; go_simp; try rfl) ?_; simp only [aZ, aC, aD]; refine hatP 3 rfl (by intro W _; go_simp; try rfl) ?_; simp only [aZ, aC, aD]; refine hatP 4 rfl (by intro W _; go_simp; try rfl) ?_; simp only [aZ, aC, aD]; refine hatP 5 rfl (by intro W _; go_simp; try rfl) ?_; simp only [aZ, aC, aD]; refine hatP 6 rfl (by intro W _; go_simp; try rfl) ?_; simp only [aZ, aC, aD]; refine hatP 7 rfl (by intro W _; go_simp; try rfl) ?_; simp only [aZ, aC, aD]; refine hatH 8 rfl (by rintro W ⟨h0, h1, h2, h3⟩; go_simp; try rfl) HSv ?_; simp only [aZ, aC, aD]; refine hatH 9 rfl (by rintro W ⟨h0, h1, h2, h3⟩; go_simp; try rfl) HSv ?_; simp only [aZ, aC, aD]; refine hatH 10 rfl (by rintro W ⟨h0, h1, h2, h3⟩; go_simp; try rfl) HSv ?_; simp only [aZ, aC, aD]; refine hatH 11 rfl (by rintro W ⟨h0, h1, h2, h3⟩; go_simp; try rfl) HSv ?_; simp only [aZ, aC, aD]; refine hend 12 ?_; simp only [aF, aG]; have dne : ((a' : Int) == (m : Int)) = false := by simp; omega
        go_wp2_with fail
        go_roundg (len - (k + 1))
        case measure => omega
        case rel => exact ⟨k + 1, a' + 1, by omega, by omega, rfl, by go_num, by go_num, HI.out.1.drew, by rw [HI.out.2.2, HW.out, <- HRE.out]; exact if_pos trivial⟩
       | false =>
        go_wp2_with fail; refine wp_region_H (rgH 8 12) (fun X : World => X.cell? ⟨rb, roff + a' * 2, none⟩ = some (.int .i64 t') /\ X.cell? ⟨rb, roff + a' * 2 + 1, none⟩ = some (.string v') /\ X.cell? ⟨xb, 0, none⟩ = some (.int .i64 t) /\ X.cell? ⟨xb, 1, none⟩ = some (.string v)) (by kernel_rfl) ?_; refine hatP 0 rfl (by intro W _; go_simp; try rfl) ?_; simp only [aZ, aC, aD]; refine hatP 1 rfl (by intro W _; go_simp; try rfl) ?_; simp only [aZ, aC, aD]; refine hatP 2 rfl (by intro W _; go_simp; try rfl) ?_; simp only [aZ, aC, aD]; refine hatP 3 rfl (by intro W _; go_simp; try rfl) ?_; simp only [aZ, aC, aD]; refine hatP 4 rfl (by intro W _; go_simp; try rfl) ?_; simp only [aZ, aC, aD]; refine hatP 5 rfl (by intro W _; go_simp; try rfl) ?_; simp only [aZ, aC, aD]; refine hatP 6 rfl (by intro W _; go_simp; try rfl) ?_; simp only [aZ, aC, aD]; refine hatP 7 rfl (by intro W _; go_simp; try rfl) ?_; simp only [aZ, aC, aD]; refine hatH 8 rfl (by rintro W ⟨h0, h1, h2, h3⟩; go_simp; try rfl) HSv ?_; simp only [aZ, aC, aD]; refine hatH 9 rfl (by rintro W ⟨h0, h1, h2, h3⟩; go_simp; try rfl) HSv ?_; simp only [aZ, aC, aD]; refine hatH 10 rfl (by rintro W ⟨h0, h1, h2, h3⟩; go_simp; try rfl) HSv ?_; simp only [aZ, aC, aD]; refine hatH 11 rfl (by rintro W ⟨h0, h1, h2, h3⟩; go_simp; try rfl) HSv ?_; simp only [aZ, aC, aD]; refine hend 12 ?_; simp only [aF, aG]; go_wp2_with fail
        go_roundg (m - (a' + 1))
        case measure => omega
        case rel => exact ⟨a' + 1, by omega, rfl, by go_num, HI.out.1.drew, HI.out.2.1, by rw [HI.out.2.2, HW.out]; rfl⟩
     . obtain rfl : m = a' := by omega
       have HW := H_ (wB_end req ⟨t, v⟩ rest m (by have := HMN.out; omega)); have dlt : decide ((m : Int) < (m : Int)) = false := by simp
       go_wp2_with fail; refine wp_region_H (rgH 0 0) (fun X : World => True) (by kernel_rfl) ?_; refine hatP 0 rfl (by intro W _; go_simp; try rfl) ?_; simp only [aZ, aC, aD]; refine hatP 1 rfl (by intro W _; go_simp; try rfl) ?_; simp only [aZ, aC, aD]; refine hatP 2 rfl (by intro W _; go_simp; try rfl) ?_; simp only [aZ, aC, aD]; refine hatP 3 rfl (by intro W _; go_simp; try rfl) ?_; simp only [aZ, aC, aD]; refine hatP 4 rfl (by intro W _; go_simp; try rfl) ?_; simp only [aZ, aC, aD]; refine hskP 5 rfl ?_; simp only [aZ, aA, aE, aB, aC, aD]; refine hskP 6 rfl ?_; simp only [aZ, aA, aE, aB, aC, aD]; refine hskP 7 rfl ?_; simp only [aZ, aA, aE, aB, aC, aD]; refine hskP 8 rfl ?_; simp only [aZ, aA, aE, aB, aC, aD]; refine hskP 9 rfl ?_; simp only [aZ, aA, aE, aB, aC, aD]; refine hskP 10 rfl ?_; simp only [aZ, aA, aE, aB, aC, aD]; refine hatP 11 rfl (by intro W _; go_simp; try rfl) ?_; simp only [aZ, aC, aD]; refine hend 12 ?_; simp only [aF, aG]; go_wp2_with fail; go_ret; exact ⟨by rw [HI.out.2.2, HW.out]; rfl, HI.out.1.drew⟩
  . obtain rfl : len = k := by omega
    have HE : Hid (wB req l = true) := H_ (by rw [HK.out.2, HLN.out, List.drop_length, wB_nil]); go_wp2_with fail; go_ret; exact ⟨by rw [HE.out]; rfl, HK.out.1⟩
theorem below_of_eq {w w' : World} (h : w = w') : Below w.heap.size w w' := by subst h; exact Below.refl _ _
section
variable {w : World} {S ok : Nat -> Prop} {B : NegB} {C : NegC} {st : NSt} {X : NegX}
set_option maxRecDepth 100000 in
theorem refused1_any (h : NegAt w S B C st X) (bx : Nat) (hbx : w.heap[bx]? = some (.cells #[.pointer (some ⟨B.nb, 0, none⟩)] 32 (0, 0))) (o : Opt) :
 Calls Tryz.prog 168 #[.agg #[.int .i64 o.t, .string o.v], .pointer (some ⟨bx, 0, none⟩)] w fun e w' => e = .returned (.bool (hasB C.must o.t)) /\ Below w.heap.size w w' := by
 have hb := (Below.refl w.heap.size w).alloc (Nat.le_refl _) (.cells #[.int .i64 o.t, .string o.v] 132 (0, 0)); have hx := at1 w (.cells #[.int .i64 o.t, .string o.v] 132 (0, 0)); have h1 := h.below hb; have c0 := cell_regrown (cellOf hx 0 (.int .i64 o.t) rfl); have c1 := cell_regrown (cellOf ((hb.block _ (Array.getElem?_eq_some_iff.1 hbx).1).trans hbx) 0 (.pointer (some ⟨B.nb, 0, none⟩)) rfl); have c2 := cell_regrown (show (w.alloc (.cells #[.int .i64 o.t, .string o.v] 132 (0, 0))).cell? ⟨B.nb, 4, none⟩ = some X.must from h1.cell 4); have HN := H_ (fun d os => (hasN_any C.must X.must _ o.t (Go.Sort.grow (redrawn (w.alloc (.cells #[.int .i64 o.t, .string o.v] 132 (0, 0))) d) os) (h1.must.below (below_regrown _ d os)) (by have := h.ok.must; omega)).mono (fun e w' he => A_ he.1 (below_of_eq he.2))); have HB := H_ hb; obtain ⟨t, v⟩ := o; generalize hasB C.must t = y at *; generalize X.must = mv at *; clear hb hx h1 h hbx; go_enter Tryz.func168, Tryz.ntmps168; go_wp2_with fail; refine wp_region_quiet_below (by kernel_rfl) (by kernel_rfl) ?_
 repeat (quiet_step (first | (go_at_call 152; exact Calls.regrown_of (HN.out _ _))))
 refine wpQuiet_nil ?_; rintro _ ⟨⟨nq, osq⟩, rfl⟩; have HB1 := H_ (HB.out.trans ((below_regrown _ nq osq).mono HB.out.size)); go_wp2_with fail; go_ret; exact ⟨rfl, HB1.out⟩
set_option maxRecDepth 100000 in
theorem refused2_any (p : Pk) (po : Value) (px : Nat) (hpx : w.heap[px]? = some (.cells #[.int .i64 p.code, .int .i64 p.id, po, .string p.d] 59 (0, 0))) (ho : Opts w ok po p.o) (hlen : p.o.length <= 1000000) (o : Opt) :
 Calls Tryz.prog 170 #[.agg #[.int .i64 o.t, .string o.v], .pointer (some ⟨px, 0, none⟩)] w fun e w' => e = .returned (.bool (p.o.any (eqB o))) /\ Below w.heap.size w w' := by
 have hb := (Below.refl w.heap.size w).alloc (Nat.le_refl _) (.cells #[.int .i64 o.t, .string o.v] 132 (0, 0)); have hx := at1 w (.cells #[.int .i64 o.t, .string o.v] 132 (0, 0)); have c0 := cellOf hx 0 (.int .i64 o.t) rfl; have c1 := cellOf hx 1 (.string o.v) rfl; have HC := H_ (conO_any p.o po ok o _ (ho.below hb) hlen); obtain ⟨a1, k1, rfl, -, -⟩ := ho.form; have c2 := cellOf ((hb.block _ (Array.getElem?_eq_some_iff.1 hpx).1).trans hpx) 2 (.slice a1 p.o.length k1) rfl; have HB := H_ hb; obtain ⟨t, v⟩ := o; simp only at *
 generalize p.o.any (eqB ⟨t, v⟩) = y at *; clear hb hx hpx ho; go_enter Tryz.func170, Tryz.ntmps170
 go_wp2_with (go_at_call 171; refine HC.out.mono ?_; rintro e w2 ⟨rfl, b2⟩)
 go_ret; exact ⟨rfl, HB.out.trans (b2.mono HB.out.size)⟩
theorem NegAt.setReq {w' : World} {v : Value} {l' : List Opt} (h : NegAt w S B C st X) (hk : Keep (fun b => X.req.ownBlock = some b) w w') (hr : ORow w' 0 v l') (hv : ∀ k, v.ownBlock = some k -> k = B.rb) (hl : l'.length <= 30) :
 NegAt (w'.setCell ⟨B.nb, 10, none⟩ v) S B C { st with req := l' } { X with req := v } /\ Keep B.t w (w'.setCell ⟨B.nb, 10, none⟩ v) := by
 have hT : ∀ b, X.req.ownBlock = some b -> B.t b := fun b hb => .inr (.inr (h.rq b hb)); have hk1 : Keep B.t w w' := hk.mono (fun b _ hb => hT b hb); have hk2 := keepC B w' 10 v; have hk2' : Keep B.t w' (w'.setCell ⟨B.nb, 10, none⟩ v) := hk2.mono (fun b _ hb => Or.inl hb); have hkk := hk1.trans hk2'; have hn : ∀ b, b < w.heap.size -> B.r S b -> ¬ B.t b := fun b _ hb => hb.2; have y0 := (hk.block B.nb h.nlt (fun he => h.ne2 (h.rq _ he).symm)).trans h.blk; have ha := h.aut.keep hk (fun he => h.ne3 (h.rq _ he).symm)
 refine ⟨{ h with
  blk := ?_, aut := ha.keep hk2 (fun he => h.ne1 he.symm), own := Rec.keep h.own hkk hn, peer := Rec.keep h.peer hkk hn, must := Rec.keep h.must hkk hn,
  req := hr.keep hk2 (fun k hk' he => h.ne2 ((hv k hk').symm.trans he)), rq := hv, mine := Rec.keep h.mine hkk hn, theirs := Rec.keep h.theirs hkk hn, rlt := Nat.lt_of_lt_of_le h.rlt hkk.size, lr := hl }, hkk⟩
 have := set_block y0 10 v
 simpa [negCells] using this
def refusedS (rej : Pk -> ByteArray) (C : NegC) (st : NSt) (p : Pk) : NSt × List Pk :=
 if wB st.req p.o then
  if p.o.any (fun o => hasB C.must o.t) then evS rej C st 14 ⟨true, p, 0, []⟩ else evS rej C { st with req := st.req.filter fun o => !(p.o.any (eqB o)) } 9 ⟨true, p, 0, []⟩
 else (st, [])
end
section
variable (rej : Pk -> ByteArray) {w : World} {S ok : Nat -> Prop} {B : NegB} {C : NegC} {st : NSt} {X : NegX}
theorem lt_of_heap' {w : World} {k : Nat} {o : Obj} (e : w.heap[k]? = some o) : k < w.heap.size := (Array.getElem?_eq_some_iff.1 e).1
theorem two_boxes (w : World) (A D : Obj) : ∃ W, W = (w.alloc A).alloc D /\ W.heap.size = w.heap.size + 1 + 1 /\ W.heap[w.heap.size]? = some A /\ W.heap[w.heap.size + 1]? = some D /\ Below w.heap.size w W :=
 ⟨_, rfl, alloc2 _ _ _, at20 _ _ _, at21 _ _ _, ((Below.refl _ _).alloc (Nat.le_refl _) _).alloc (by rw [alloc1]; omega) _⟩
theorem EvPost.fin {W w' : World} {r : NSt × List Pk} {e : Ending} (h : EvPost W w' (fun b => Grow S w b) ok B C r e) (hk : Keep B.t w W) (hs : w.heap.size <= W.heap.size) : EvPost w w' S ok B C r e := by
 obtain ⟨v, he, ⟨L, h2, h3, h4⟩, ⟨X', h5⟩, h6⟩ := h; exact ⟨v, he, ⟨L, h2, h3.base hs, h4.mono (fun b hb => hb.imp id (fun h => Nat.le_trans hs h))⟩, ⟨X', h5.mono (fun b hb => hb.elim id (fun h => .inr (Nat.le_trans hs h)))⟩, hk.trans h6⟩
set_option maxRecDepth 100000 in
theorem refused_at (p : Pk) (po : Value) (h : NegAt w S B C st X) (ho : Opts w ok po p.o) (hok : ∀ b, ok b -> ¬ B.t b) (hlen : p.o.length <= 1000000) (okr : Nat -> Prop := ok) :
 Calls Tryz.prog 146 #[.pointer (some ⟨B.nb, 0, none⟩), pkV p po] w fun e w' => EvPost w w' S okr B C (refusedS rej C st p) e := by
 obtain ⟨a1, k1, rfl, hc1, hc2⟩ := ho.form; obtain ⟨W, hW, hs, x0, x1, hb⟩ := two_boxes w (.cells #[.pointer (some ⟨B.nb, 0, none⟩)] 32 (0, 0)) (.cells #[.int .i64 p.code, .int .i64 p.id, .slice a1 p.o.length k1, .string p.d] 59 (0, 0)); have h1 : NegAt W (fun b => Grow S w b) B C st X := (h.below hb).mono (fun b hb => .inl hb); have ho1 := ho.below hb; have hbl := h1.nlt; obtain ⟨qa, qc, hrq⟩ := h1.req.form
 have HS : Hid (∀ Y, Below W.heap.size W Y -> Y.cell? ⟨w.heap.size + 1, 2, none⟩ = some (.slice a1 p.o.length k1) /\ Y.cell? ⟨w.heap.size, 0, none⟩ = some (.pointer (some ⟨B.nb, 0, none⟩)) /\ Y.cell? ⟨B.nb, 10, none⟩ = some (.slice qa st.req.length qc)) := H_ fun Y hY =>
  ⟨cellOf ((hY.block _ (by omega)).trans x1) 2 _ rfl, cellOf ((hY.block _ (by omega)).trans x0) 0 _ rfl, by rw [hY.cell hbl, <- hrq]; exact h1.cell 10⟩
 have HWI := H_ (fun Y (hY : Below W.heap.size W Y) => within_any p.o st.req _ X.req ok _ Y (ho1.below hY) ((h1.req.below hY).opts (by have := h1.lr; unfold maxLen; omega)) hlen (by have := h1.lr; omega)); rw [hrq] at HWI; have HC := H_ (fun Y (hY : Below W.heap.size W Y) => containsO_any p.o _ ok 168 #[.pointer (some ⟨w.heap.size, 0, none⟩)] (fun o => hasB C.must o.t) Y (ho1.below hY) hlen (enters_of Tryz.func168 (by kernel_rfl) rfl) (fun Z o _ hZ => (refused1_any ((h1.below hY).below hZ) w.heap.size ((hZ.block _ (by have := hY.size; omega)).trans ((hY.block _ (by omega)).trans x0)) o).mono (fun e w' he => ⟨he.1, hZ.trans (he.2.mono hZ.size)⟩))); have H := H_ (A_ h1 (A_ ho1 (A_ hb (A_ hok (A_ hs (A_ x0 (A_ x1 h))))))); have HE14 := H_ (fun Y (hY : Below W.heap.size W Y) => Event_at (ok := ok) rej p (.slice a1 p.o.length k1) 14 (by decide) (h1.below hY) (ho1.below hY) hok hlen (fun pa => sayAll_next rej B C _ _ _ _ 14 h1.ss (by decide)) okr); unfold pkV at HE14; have HM := H_ (show refusedS rej C st p = if wB st.req p.o then (if p.o.any (fun o => hasB C.must o.t) then evS rej C st 14 ⟨true, p, 0, []⟩ else evS rej C { st with req := st.req.filter fun o => !(p.o.any (eqB o)) } 9 ⟨true, p, 0, []⟩) else (st, []) from rfl)
 have HDF := H_ (fun Y (hY : Below W.heap.size W Y) => delfunc_any st.req X.req 170 #[.pointer (some ⟨w.heap.size + 1, 0, none⟩)] (fun o => p.o.any (eqB o)) Y (h1.req.below hY) (by have := h1.lr; omega) (enters_of Tryz.func170 (by kernel_rfl) rfl)
  (fun Z o _ hZ => refused2_any (ok := ok) p _ (w.heap.size + 1) ((hZ.block _ (by have := hY.size; omega) (fun he => by have h1' := h1.rq _ he; have h2' := h.rlt; omega)).trans ((hY.block _ (by omega)).trans x1)) (Rec.keep (ho1.below hY) hZ (fun b _ hb he => hok b hb (.inr (.inr (h1.rq b he))))) hlen o))
 rw [hrq] at HDF; generalize refusedS rej C st p = R at HM ⊢; generalize wB st.req p.o = y at HM HWI; generalize p.o.any (fun o => hasB C.must o.t) = z at HM HC; have HL := H_ hlen; have HO := H_ ho; have HRB := H_ (show (∀ b, (Value.slice qa st.req.length qc).ownBlock = some b -> b = B.rb) /\ X.req = .slice qa st.req.length qc from ⟨by rw [<- hrq]; exact h1.rq, hrq⟩); unfold pkV; clear h h1 ho ho1 hok hb hs x0 x1 hlen hrq hbl; have HSv := HS.out W.drew (Below.refl _ _).drew
 cases y with
 | false =>
  go_enter Tryz.func146, Tryz.ntmps146; go_wp2_with fail; rw [<- hW]; clear hW; refine wp_region_H (rgH 1 8) (fun Y : World => Y.cell? ⟨w.heap.size + 1, 2, none⟩ = some (.slice a1 p.o.length k1) /\ Y.cell? ⟨w.heap.size, 0, none⟩ = some (.pointer (some ⟨B.nb, 0, none⟩)) /\ Y.cell? ⟨B.nb, 10, none⟩ = some (.slice qa st.req.length qc)) (by kernel_rfl) ?_; refine hatP 0 rfl (by intro W _; go_simp; try rfl) ?_; simp only [aZ, aC, aD]; refine hatH 1 rfl (by rintro W ⟨h0, h1, h2⟩; go_simp; try rfl) HSv ?_; simp only [aZ, aC, aD]; refine hatH 2 rfl (by rintro W ⟨h0, h1, h2⟩; go_simp; try rfl) HSv ?_; simp only [aZ, aC, aD]; refine hatH 3 rfl (by rintro W ⟨h0, h1, h2⟩; go_simp; try rfl) HSv ?_; simp only [aZ, aC, aD]; refine hatH 4 rfl (by rintro W ⟨h0, h1, h2⟩; go_simp; try rfl) HSv ?_; simp only [aZ, aC, aD]; refine hatH 5 rfl (by rintro W ⟨h0, h1, h2⟩; go_simp; try rfl) HSv ?_; simp only [aZ, aC, aD]; refine hone 6 rfl fun K hK => ?_
  try go_simp
  go_at_call 167; refine (HWI.out _ (Below.refl _ _).drew).mono ?_; rintro e w2 ⟨rfl, hb2⟩; have HB2 := H_ (show Below W.heap.size W w2 from Below.trans (Below.refl _ _).drew hb2); have HSv := HS.out w2 HB2.out; clear hb2; refine hK _ _ (fun _ => HSv) ?_
  try simp only [aZ, aA, aE, aB, aC, aD]
  refine hatH 7 rfl (by rintro W ⟨h0, h1, h2⟩; go_simp; try rfl) HSv ?_; simp only [aZ, aC, aD]; refine hend 8 ?_; simp only [aF, aG]; go_wp2_with fail; go_ret; rw [show R = (st, []) from HM.out]; have hbw := H.out.2.2.1.trans (HB2.out.mono H.out.2.2.1.size); exact EvPost.none' ⟨X, (H.out.2.2.2.2.2.2.2.below hbw).mono (fun b h => .inl h)⟩ (Keep.of_below _ hbw)
 | true =>
  go_enter Tryz.func146, Tryz.ntmps146; go_wp2_with fail; rw [<- hW]; clear hW; refine wp_region_H (rgH 1 8) (fun Y : World => Y.cell? ⟨w.heap.size + 1, 2, none⟩ = some (.slice a1 p.o.length k1) /\ Y.cell? ⟨w.heap.size, 0, none⟩ = some (.pointer (some ⟨B.nb, 0, none⟩)) /\ Y.cell? ⟨B.nb, 10, none⟩ = some (.slice qa st.req.length qc)) (by kernel_rfl) ?_; refine hatP 0 rfl (by intro W _; go_simp; try rfl) ?_; simp only [aZ, aC, aD]; refine hatH 1 rfl (by rintro W ⟨h0, h1, h2⟩; go_simp; try rfl) HSv ?_; simp only [aZ, aC, aD]; refine hatH 2 rfl (by rintro W ⟨h0, h1, h2⟩; go_simp; try rfl) HSv ?_; simp only [aZ, aC, aD]; refine hatH 3 rfl (by rintro W ⟨h0, h1, h2⟩; go_simp; try rfl) HSv ?_; simp only [aZ, aC, aD]; refine hatH 4 rfl (by rintro W ⟨h0, h1, h2⟩; go_simp; try rfl) HSv ?_; simp only [aZ, aC, aD]; refine hatH 5 rfl (by rintro W ⟨h0, h1, h2⟩; go_simp; try rfl) HSv ?_; simp only [aZ, aC, aD]; refine hone 6 rfl fun K hK => ?_
  try go_simp
  go_at_call 167; refine (HWI.out _ (Below.refl _ _).drew).mono ?_; rintro e w2 ⟨rfl, hb2⟩; have HB2 := H_ (show Below W.heap.size W w2 from Below.trans (Below.refl _ _).drew hb2); have HSv := HS.out w2 HB2.out; clear hb2; refine hK _ _ (fun _ => HSv) ?_
  try simp only [aZ, aA, aE, aB, aC, aD]
  refine hatH 7 rfl (by rintro W ⟨h0, h1, h2⟩; go_simp; try rfl) HSv ?_; simp only [aZ, aC, aD]; refine hend 8 ?_; simp only [aF, aG]; obtain ⟨g0, g1, g2⟩ := HSv; go_wp2_with fail; refine (HC.out w2 HB2.out).mono ?_; rintro e w3 ⟨rfl, hb3⟩; have HB3 := H_ (HB2.out.trans (hb3.mono HB2.out.size)); clear hb3 g0 g1 g2
  have HX3 : Hid (∀ Y, Below W.heap.size W Y -> Y.cell? ⟨w.heap.size, 0, none⟩ = some (.pointer (some ⟨B.nb, 0, none⟩)) /\ Y.cell? ⟨w.heap.size + 1, 0, none⟩ = some (.int .i64 p.code) /\ Y.cell? ⟨w.heap.size + 1, 1, none⟩ = some (.int .i64 p.id) /\ Y.cell? ⟨w.heap.size + 1, 2, none⟩ = some (.slice a1 p.o.length k1) /\ Y.cell? ⟨w.heap.size + 1, 3, none⟩ = some (.string p.d)) := H_ fun Y hY => by
   have z0 := (hY.block _ (by have := H.out.2.2.2.2.1; omega)).trans H.out.2.2.2.2.2.1; have z1 := (hY.block _ (by have := H.out.2.2.2.2.1; omega)).trans H.out.2.2.2.2.2.2.1; exact ⟨cellOf z0 0 _ rfl, cellOf z1 0 _ rfl, cellOf z1 1 _ rfl, cellOf z1 2 _ rfl, cellOf z1 3 _ rfl⟩
  cases z with
  | true =>
   obtain ⟨f0, f1, f2, f3, f4⟩ := HX3.out w3 HB3.out; go_wp2_with fail; refine (HE14.out w3 HB3.out).mono ?_; rintro e w4 ⟨v4, rfl, h4⟩; go_wp2_with fail; go_ret; rw [show R = evS rej C st 14 ⟨true, p, 0, []⟩ from HM.out]; have hbw := H.out.2.2.1.trans (HB3.out.mono H.out.2.2.1.size); exact EvPost.fin ⟨_, rfl, h4⟩ (Keep.of_below _ hbw) hbw.size
  | false =>
   go_wp2_with fail; refine wp_region_H (rgH 0 7) (fun Y : World => Y.cell? ⟨w.heap.size, 0, none⟩ = some (.pointer (some ⟨B.nb, 0, none⟩)) /\ Y.cell? ⟨B.nb, 10, none⟩ = some (.slice qa st.req.length qc)) (by kernel_rfl) ?_; have HSv : (fun Y : World => Y.cell? ⟨w.heap.size, 0, none⟩ = some (.pointer (some ⟨B.nb, 0, none⟩)) /\ Y.cell? ⟨B.nb, 10, none⟩ = some (.slice qa st.req.length qc)) w3.drew := (HS.out w3.drew HB3.out.drew).2; refine hatH 0 rfl (by rintro W ⟨h0, h1⟩; go_simp; try rfl) HSv ?_; simp only [aZ, aC, aD]; refine hatH 1 rfl (by rintro W ⟨h0, h1⟩; go_simp; try rfl) HSv ?_; simp only [aZ, aC, aD]; refine hatH 2 rfl (by rintro W ⟨h0, h1⟩; go_simp; try rfl) HSv ?_; simp only [aZ, aC, aD]; refine hatH 3 rfl (by rintro W ⟨h0, h1⟩; go_simp; try rfl) HSv ?_; simp only [aZ, aC, aD]; refine hatH 4 rfl (by rintro W ⟨h0, h1⟩; go_simp; try rfl) HSv ?_; simp only [aZ, aC, aD]; refine hatH 5 rfl (by rintro W ⟨h0, h1⟩; go_simp; try rfl) HSv ?_; simp only [aZ, aC, aD]; refine hone 6 rfl fun K hK => ?_
   try go_simp
   go_at_call 169; refine (HDF.out w3.drew HB3.out.drew).mono ?_; rintro e w4 ⟨v4, rfl, r4, ow4, k4⟩; obtain ⟨qd, qe, rfl⟩ := r4.form; have hNW := (H.out.1.below HB3.out).below (show Below w3.heap.size w3 w3.drew from (Below.refl _ _).drew); have hlr : (st.req.filter fun o => !(p.o.any (eqB o))).length <= 30 := Nat.le_trans (List.length_filter_le _ _) H.out.1.lr; rw [<- HRB.out.2] at k4 ow4; have hnb : ∀ b, X.req.ownBlock = some b -> b = B.rb := hNW.rq; have hN5 := hNW.setReq k4 r4 (fun k hk => by rw [ow4] at hk; exact hnb k hk) hlr; have y10 := (k4.block B.nb hNW.nlt (fun he => hNW.ne2 (hnb _ he).symm)).trans hNW.blk; have hlt := H.out.2.2.2.2.2.2.2.rlt; have z0 := (k4.block w.heap.size (by have := HB3.out.size; have := H.out.2.2.2.2.1; show w.heap.size < w3.heap.size; omega) (fun he => by have := hnb _ he; omega)).trans ((HB3.out.drew.block _ (by have := H.out.2.2.2.2.1; omega)).trans H.out.2.2.2.2.2.1); have z1 := (k4.block (w.heap.size + 1) (by have := HB3.out.size; have := H.out.2.2.2.2.1; show w.heap.size + 1 < w3.heap.size; omega) (fun he => by have := hnb _ he; omega)).trans ((HB3.out.drew.block _ (by have := H.out.2.2.2.2.1; omega)).trans H.out.2.2.2.2.2.2.1); have HSv : (fun Y : World => Y.cell? ⟨w.heap.size, 0, none⟩ = some (.pointer (some ⟨B.nb, 0, none⟩)) /\ Y.cell? ⟨B.nb, 10, none⟩ = some (.slice qa st.req.length qc)) w4 := ⟨cellOf z0 0 _ rfl, by rw [<- HRB.out.2]; exact cellOf y10 10 _ rfl⟩; have hbw := H.out.2.2.1.trans (HB3.out.mono H.out.2.2.1.size); have hkw : Keep B.t w (w4.setCell ⟨B.nb, 10, none⟩ (.slice qd (st.req.filter fun o => !(p.o.any (eqB o))).length qe)) := (Keep.of_below _ hbw).trans ((Keep.of_below B.t (show Below w3.heap.size w3 w3.drew from (Below.refl _ _).drew)).trans hN5.2); have ho5 := Rec.keep HO.out hkw (fun b _ hb ht => H.out.2.2.2.1 b hb ht); have HE := H_ (Event_at (ok := ok) rej p (.slice a1 p.o.length k1) 9 (by decide) hN5.1 ho5 H.out.2.2.2.1 HL.out (fun pa => sayAll_next rej B C _ _ _ _ 9 hNW.ss (by decide)) okr); unfold pkV at HE; have k5 := keepC B w4 10 (.slice qd (st.req.filter fun o => !(p.o.any (eqB o))).length qe); have hnl := H.out.2.2.2.2.2.2.2.nlt; have u0 := (k5.block w.heap.size (lt_of_heap' z0) (by omega)).trans z0; have u1 := (k5.block (w.heap.size + 1) (lt_of_heap' z1) (by omega)).trans z1; have f10 := fun o => fzOf y10 o; have HK := H_ (A_ hkw hbw); have t0 := cellOf u0 0 (.pointer (some ⟨B.nb, 0, none⟩)) rfl; have t1 := cellOf u1 0 (.int .i64 p.code) rfl; have t2 := cellOf u1 1 (.int .i64 p.id) rfl; have t3 := cellOf u1 2 (.slice a1 p.o.length k1) rfl; have t4 := cellOf u1 3 (.string p.d) rfl; generalize (st.req.filter fun o => !(p.o.any (eqB o))) = fl at *; clear hNW hlr hnb hN5 z0 z1 y10 r4 ow4 k4 ho5 k5 u0 u1 hkw hbw; refine hK _ _ (fun _ => HSv) ?_
   try simp only [aZ, aA, aE, aB, aC, aD]
   obtain ⟨s0, s1⟩ := HSv; refine hend 7 ?_; simp only [aF, aG]; go_wp2_with fail; refine HE.out.mono ?_; rintro e w6 ⟨v6, rfl, h6⟩; go_wp2_with fail; go_ret; rw [show R = evS rej C { st with req := fl } 9 ⟨true, p, 0, []⟩ from HM.out]; exact EvPost.fin ⟨_, rfl, h6⟩ HK.out.1 HK.out.1.size
end
def nameOne (C : NegC) (req : List Opt) (o : Opt) : List Opt :=
 if idxP (fun x => x.t == o.t) req < 0 then req
 else if (findR C.own o.t).isSome && fitsR (ruleOf C.own o.t) o.v then req.set (idxP (fun x => x.t == o.t) req).toNat o
 else if hasB C.must o.t then req else req.eraseIdx (idxP (fun x => x.t == o.t) req).toNat
def namedS (rej : Pk -> ByteArray) (C : NegC) (st : NSt) (p : Pk) : NSt × List Pk := evS rej C { st with req := p.o.foldl (nameOne C) st.req } 9 ⟨true, p, 0, []⟩
theorem nameOne_len (C : NegC) (req : List Opt) (o : Opt) : (nameOne C req o).length <= req.length := by
 unfold nameOne
 split
 . exact Nat.le_refl _
 . split
   . rw [List.length_set]; exact Nat.le_refl _
   . split
     . exact Nat.le_refl _
     . exact List.length_eraseIdx_le _ _
theorem named1_any (x : Opt) (k : Int) (kb : Nat) (w : World) (hk : w.cell? ⟨kb, 0, none⟩ = some (.int .i64 k)) :
 Calls Tryz.prog 172 #[.agg #[.int .i64 x.t, .string x.v], .pointer (some ⟨kb, 0, none⟩)] w fun e w' => e = .returned (.bool (x.t == k)) /\ Below w.heap.size w w' := by
 obtain ⟨t, v⟩ := x; have hk' : (w.alloc (.cells #[.int .i64 t, .string v] 132 (0, 0))).cell? ⟨kb, 0, none⟩ = some (.int .i64 k) := by go_keep
 clear hk; go_enter Tryz.func172, Tryz.ntmps172; go_wp2_with fail; go_ret; exact ⟨rfl, (Below.refl _ _).alloc (Nat.le_refl _) _⟩
theorem ORow.blk {w : World} {v : Value} {l : List Opt} (h : ORow w 0 v l) (hne : 0 < l.length) : ∃ g cap cur, v = .slice (some ⟨g, 0, none⟩) l.length cap /\ w.heap[g]? = some (.cells cur 132 (0, 0)) /\ l.length <= cap /\ cap <= maxLen /\ cur.size = cap * 2 /\ cur.toList.take (l.length * 2) = flatO l := by
 obtain ⟨_, ⟨h, h0⟩ | ⟨g, cap, cur, h1, _, h3, h4, h5, h6, h7⟩⟩ := h
 . omega
 . exact ⟨g, cap, cur, h1, h3, h4, h5, h6, h7⟩
theorem ORow.setV {w : World} {g cap : Nat} {cur : Array Value} {l : List Opt} {i : Nat} {o : Opt} (hb : w.heap[g]? = some (.cells cur 132 (0, 0))) (hc : l.length <= cap) (hm : cap <= maxLen) (hs : cur.size = cap * 2) (ht : cur.toList.take (l.length * 2) = flatO l) (hi : i < l.length) (hto : l[i].t = o.t) :
 ORow (w.setCell ⟨g, i * 2 + 1, none⟩ (.string o.v)) 0 (.slice (some ⟨g, 0, none⟩) l.length cap) (l.set i o) := by
 unfold ORow; rw [List.length_set]; refine ⟨by rw [optL_flen, List.length_set], Or.inr ⟨g, cap, _, rfl, Nat.zero_le _, blkSet hb, hc, hm, by simpa using hs, ?_⟩⟩; have hfl := flatO_len (l.set i o); rw [List.length_set] at hfl
 apply List.ext_getElem?
 intro m
 by_cases hlt : m < l.length * 2
 . rw [List.getElem?_take_of_lt hlt]
   show (cur.setIfInBounds (i * 2 + 1) (Value.string o.v)).toList[m]? = _
   have hcm : cur.toList[m]? = (flatO l)[m]? := by rw [<- ht, List.getElem?_take_of_lt hlt]
   have hcur : cur[m]? = (flatO l)[m]? := by rw [<- hcm]; simp
   have key : ∀ (l : List Opt) (j : Nat) (hj : j < l.length), (flatO l)[j * 2]? = some (.int .i64 l[j].t) /\ (flatO l)[j * 2 + 1]? = some (.string l[j].v) := fun l j hj => optL_at l j hj
   show _ = (flatO (l.set i o))[m]?
   rw [Array.getElem?_toList]; have hj : m / 2 < l.length := by omega
   obtain ⟨q1, q2⟩ := key l (m / 2) hj; obtain ⟨r1, r2⟩ := key (l.set i o) (m / 2) (by rw [List.length_set]; exact hj)
   rcases (show m = m / 2 * 2 \/ m = m / 2 * 2 + 1 by omega) with h | h
   . rw [Array.getElem?_setIfInBounds_ne (by omega), hcur]; rw [h, q1, r1]
     by_cases hij : i = m / 2
     . subst hij; simp [hto]
     . simp [hij]
   . by_cases hij : i = m / 2
     . subst hij; rw [<- h] at r2; rw [r2, show m / 2 * 2 + 1 = m by omega, Array.getElem?_setIfInBounds_self_of_lt (by omega)]; simp
     . rw [Array.getElem?_setIfInBounds_ne (by omega), hcur]; rw [h, q2, r2]; simp [hij]
 . rw [List.getElem?_eq_none (by rw [List.length_take]; omega), List.getElem?_eq_none (by show (flatO (l.set i o)).length <= m; omega)]
section
variable {w : World} {S : Nat -> Prop} {B : NegB} {C : NegC} {st : NSt} {X : NegX}
theorem NegAt.turnReq {w' : World} {l' : List Opt} (h : NegAt w S B C st X) (hk : Keep (fun b => X.req.ownBlock = some b) w w') (hr : ORow w' 0 X.req l') (hl : l'.length <= 30) : NegAt w' S B C { st with req := l' } X /\ Keep B.t w w' := by
 have hT : ∀ b, X.req.ownBlock = some b -> B.t b := fun b hb => .inr (.inr (h.rq b hb)); have hk1 : Keep B.t w w' := hk.mono (fun b _ hb => hT b hb); have hn : ∀ b, b < w.heap.size -> B.r S b -> ¬ B.t b := fun b _ hb => hb.2
 exact ⟨{ h with
  blk := (hk.block B.nb h.nlt (fun he => h.ne2 (h.rq _ he).symm)).trans h.blk, aut := h.aut.keep hk (fun he => h.ne3 (h.rq _ he).symm), own := Rec.keep h.own hk1 hn, peer := Rec.keep h.peer hk1 hn, must := Rec.keep h.must hk1 hn,
  req := hr, mine := Rec.keep h.mine hk1 hn, theirs := Rec.keep h.theirs hk1 hn, rlt := Nat.lt_of_lt_of_le h.rlt hk.size, lr := hl }, hk1⟩
end
theorem win_any (n a b : Int) (w : World) : Calls Tryz.prog 84 #[.int .i64 n, .int .i64 a, .int .i64 b] w fun e w' => e = .returned (.bool (decide (a <= n) && decide (n <= b))) /\ w = w' := by
 by_cases h1 : a <= n
 . by_cases h2 : n <= b
   . go_enter Tryz.func84, Tryz.ntmps84
     go_wp2
     go_ret; exact ⟨by simp [h1, h2], rfl⟩
   . go_enter Tryz.func84, Tryz.ntmps84
     go_wp2
     go_ret; exact ⟨by simp; omega, rfl⟩
 . go_enter Tryz.func84, Tryz.ntmps84
   go_wp2
   go_ret; exact ⟨by simp; omega, rfl⟩
def get2 (s : ByteArray) (k : Nat) : Int := if k + 2 <= s.size then valB ((s.data.toList.drop k).take 2) else 0
def get2E (s : ByteArray) (k : Nat) : Int := if k + 2 <= s.size then 0 else 5
theorem get2_bd (s : ByteArray) (k : Nat) : 0 <= get2 s k /\ get2 s k < 65536 := by
 unfold get2
 split
 . have h := valB_lt ((s.data.toList.drop k).take 2) (by rw [List.length_take]; omega); refine ⟨h.1, ?_⟩; have hb := (valB_bd ((s.data.toList.drop k).take 2)).2; have hl : ((s.data.toList.drop k).take 2).length <= 2 := by rw [List.length_take]; omega
   rcases (show ((s.data.toList.drop k).take 2).length = 0 \/ ((s.data.toList.drop k).take 2).length = 1 \/ ((s.data.toList.drop k).take 2).length = 2 by omega) with e | e | e <;> rw [e] at hb <;> omega
 . exact ⟨by omega, by omega⟩
set_option maxRecDepth 100000 in
theorem wget_any (s : ByteArray) (k : Nat) (w : World) (hs : s.size <= 1000000000) (hk : k <= 100) : Calls Tryz.prog 42 #[.string s, .int .i64 (k : Int), .int .i64 2] w fun e w' => e = .returned (.tuple #[.int .i64 (get2 s k), .int .i64 (get2E s k)]) /\ w = w' := by
 have HI := H_ (fun w => win_any 2 1 4 w); have hk0 : decide ((k : Int) < 0) = false := by simp
 by_cases h2 : k + 2 <= s.size
 . have q1 : decide (s.size < k) = false := by simp; omega
   have q2 : decide ((s.size : Int) - (k : Int) < 2) = false := by simp; omega
   have HG := H_ (A_ (show get2 s k = valB ((s.data.toList.drop k).take 2) from if_pos h2) (show get2E s k = 0 from if_pos h2)); have HL := H_ (show s.data.toList.length = s.size by rw [Array.length_toList]; rfl); go_enter Tryz.func42, Tryz.ntmps42; go_wp2_with fail; refine (HI.out _).mono ?_; rintro e w1 ⟨rfl, rfl⟩; go_wp2_with fail
   go_loopg [8, 32] 2 (fun x v i wr => ∃ j : Nat, j <= 2 /\ x = 2 - j /\ i = .int .i64 j /\ v = .int .i64 (valB ((s.data.toList.drop k).take j)) /\ w = wr)
   case atStart => exact ⟨0, by omega, by omega, rfl, rfl, rfl⟩
   case round =>
    obtain ⟨j, hj, rfl, rfl, rfl, rfl⟩ := hrel
    by_cases hlt : j < 2
    . have hkj : k + j < s.size := by omega
      have hdl : ((s.data.toList.drop k)).length = s.size - k := by rw [List.length_drop, HL.out]
      have HB := H_ (valB_snoc ((s.data.toList.drop k).take j) s[k + j])
      have HT := H_ (show (s.data.toList.drop k).take (j + 1) = (s.data.toList.drop k).take j ++ [s[k + j]] by
       rw [List.take_succ_eq_append_getElem (by omega), List.getElem_drop]; rfl)
      have hlt1 := valB_lt ((s.data.toList.drop k).take j) (by rw [List.length_take]; omega)
      have hE : bits .or .i64 (wrap64 (valB ((s.data.toList.drop k).take j) * 256)) (s[k + j].toNat : Int) = valB ((s.data.toList.drop k).take (j + 1)) := by
       rw [HT.out, HB.out]; have h6 : ((s.data.toList.drop k).take j).length <= 6 := by rw [List.length_take]; omega
       have hlt3 := valB_six ((s.data.toList.drop k).take j) h6; obtain ⟨v, hv⟩ := Int.eq_ofNat_of_zero_le hlt1.1; rw [hv] at hlt3 ⊢; rw [show wrap64 ((v : Int) * 256) = (v : Int) * 256 from IntWalk.wrap64_in _ (by omega)]; exact or_byte v s[k + j].toNat (by omega) (by have := s[k + j].toNat_lt; omega)
      have HE := H_ hE; clear hE hlt1 hdl; have hbb : s[k + j].toNat < 256 := s[k + j].toNat_lt; go_wp2_with fail
      go_roundg (2 - (j + 1))
      case measure => omega
      case rel => exact ⟨j + 1, by omega, rfl, by go_num, by rw [HE.out], rfl⟩
    . have q9 : decide ((j : Int) < 2) = false := by simp; omega
      have HJ := H_ (show j = 2 by omega); go_wp2_with fail; go_ret2; exact ⟨by rw [HG.out.1, HG.out.2, HJ.out]; rfl, rfl⟩
 . have HG := H_ (A_ (show get2 s k = 0 from if_neg h2) (show get2E s k = 5 from if_neg h2))
   by_cases h0 : k <= s.size
   . have q1 : decide ((s.size : Int) < (k : Int)) = false := by simp; omega
     have q2 : decide ((s.size : Int) - (k : Int) < 2) = true := by simp; omega
     go_enter Tryz.func42, Tryz.ntmps42; go_wp2_with fail; refine (HI.out _).mono ?_; rintro e w1 ⟨rfl, rfl⟩; go_wp2_with fail
     all_goals (first | (exfalso; omega) | (go_ret2; exact ⟨by rw [HG.out.1, HG.out.2]; rfl, rfl⟩))
   . have q1 : decide ((s.size : Int) < (k : Int)) = true := by simp; omega
     go_enter Tryz.func42, Tryz.ntmps42; go_wp2_with fail; refine (HI.out _).mono ?_; rintro e w1 ⟨rfl, rfl⟩; go_wp2_with fail
     all_goals (first | (exfalso; omega) | (go_ret2; exact ⟨by rw [HG.out.1, HG.out.2]; rfl, rfl⟩))
def isPr (n : Int) : Bool := (decide (0 <= n) && decide (n <= 65535)) && ((bits .and .i64 n 1 == 1) && (bits .and .i64 (n / 256) 1 == 0))
theorem isProto_any (n : Int) (w : World) : Calls Tryz.prog 43 #[.int .i64 n] w fun e w' => e = .returned (.bool (isPr n)) /\ w = w' := by
 have HI := H_ (fun w => win_any n 0 65535 w); obtain ⟨x, hx⟩ : ∃ x, x = (decide (0 <= n) && decide (n <= 65535)) := ⟨_, rfl⟩; have HP := H_ (show isPr n = (x && ((bits .and .i64 n 1 == 1) && (bits .and .i64 (n / 256) 1 == 0))) by rw [hx]; rfl); rw [<- hx] at HI; clear hx; cases x
 . go_enter Tryz.func43, Tryz.ntmps43; go_wp2_with fail; refine (HI.out _).mono ?_; rintro e w1 ⟨rfl, rfl⟩; go_wp2_with fail; go_ret; exact ⟨by rw [HP.out]; rfl, rfl⟩
 . go_enter Tryz.func43, Tryz.ntmps43; go_wp2_with fail; refine (HI.out _).mono ?_; rintro e w1 ⟨rfl, rfl⟩; go_wp2_with fail
   . rename_i h
     go_ret; exact ⟨by rw [HP.out, h]; rfl, rfl⟩
   . rename_i h
     go_ret; have h1 : (bits .and .i64 n 1 == 1) = false := by simpa using h
     exact ⟨by rw [HP.out, h1]; rfl, rfl⟩
def pppS (s : ByteArray) : Int × ByteArray × Int :=
 if get2E s 0 ≠ 0 then (0, noB, 5) else if isPr (get2 s 0) = false then (0, noB, 4) else if 1494 < s.size then (0, noB, 2) else (get2 s 0, s.extract 2 s.size, 0)
theorem pppS_ok {s : ByteArray} (h : get2E s 0 = 0) : pppS s = if isPr (get2 s 0) = false then (0, noB, 4) else if 1494 < s.size then (0, noB, 2) else (get2 s 0, s.extract 2 s.size, 0) := by
 unfold pppS; rw [h, if_neg (by decide)]
set_option maxRecDepth 100000 in
theorem getPpp_any (s : ByteArray) (w : World) (hs : s.size <= 1000000000) : Calls Tryz.prog 20 #[.string s] w fun e w' => e = .returned (.tuple #[.int .i64 (pppS s).1, .string (pppS s).2.1, .int .i64 (pppS s).2.2]) /\ Below w.heap.size w w' := by
 have HG := H_ (fun w => wget_any s 0 w hs (by decide))
 by_cases h2 : 0 + 2 <= s.size
 . have e0 : get2E s 0 = 0 := if_pos h2; have HP := H_ (pppS_ok e0); rw [e0] at HG; have HI := H_ (fun w => isProto_any (get2 s 0) w); clear e0; generalize get2 s 0 = p at *; obtain ⟨x, hx⟩ : ∃ x, x = isPr p := ⟨_, rfl⟩; rw [<- hx] at HI HP; clear hx; cases x
   . go_enter Tryz.func20, Tryz.ntmps20; go_wp2_with fail; refine (HG.out _).mono ?_; rintro e w1 ⟨rfl, rfl⟩; go_wp2_with fail; refine (HI.out _).mono ?_; rintro e w1 ⟨rfl, rfl⟩; go_wp2_with fail; refine bodyPost_ret (v := .tuple #[.int .i64 0, .string ⟨#[]⟩, .int .i64 4]) (by simp [results, Tryz.results20, go_sem]) rfl ?_; rw [HP.out]; exact ⟨rfl, Below.refl _ _⟩
   . by_cases h3 : 1494 < s.size
     . have q1 : decide ((1492 : Int) < (s.size : Int) - 2) = true := by simp; omega
       go_enter Tryz.func20, Tryz.ntmps20; go_wp2_with fail; refine (HG.out _).mono ?_; rintro e w1 ⟨rfl, rfl⟩; go_wp2_with fail; refine (HI.out _).mono ?_; rintro e w1 ⟨rfl, rfl⟩; go_wp2_with fail; refine bodyPost_ret (v := .tuple #[.int .i64 0, .string ⟨#[]⟩, .int .i64 2]) (by simp [results, Tryz.results20, go_sem]) rfl ?_; rw [HP.out, if_neg (by decide), if_pos h3]; exact ⟨rfl, Below.refl _ _⟩
     . have q1 : decide ((1492 : Int) < (s.size : Int) - 2) = false := by simp; omega
       have h22 : 2 <= s.size := by omega
       have HC := H_ (fun w => sclone_any (s.extract 2 s.size) w (by rw [ByteArray.size_extract]; omega)); go_enter Tryz.func20, Tryz.ntmps20; go_wp2_with fail; refine (HG.out _).mono ?_; rintro e w1 ⟨rfl, rfl⟩; go_wp2_with fail; refine (HI.out _).mono ?_; rintro e w1 ⟨rfl, rfl⟩; go_wp2_with fail; refine (HC.out _).mono ?_; rintro e w1 ⟨rfl, hb⟩; go_wp2_with fail; refine bodyPost_ret (v := .tuple #[.int .i64 p, .string (s.extract 2 s.size), .int .i64 0]) (by simp [results, Tryz.results20, go_sem]) rfl ?_; rw [HP.out, if_neg (by decide), if_neg h3]; exact ⟨rfl, hb⟩
 . have e0 : get2E s 0 = 5 := if_neg h2; have HP := H_ (show pppS s = (0, noB, 5) by unfold pppS; rw [e0, if_pos (by decide)]); rw [e0] at HG; go_enter Tryz.func20, Tryz.ntmps20; go_wp2_with fail; refine (HG.out _).mono ?_; rintro e w1 ⟨rfl, rfl⟩; go_wp2_with fail; refine bodyPost_ret (v := .tuple #[.int .i64 0, .string ⟨#[]⟩, .int .i64 5]) (by simp [results, Tryz.results20, go_sem]) rfl ?_; rw [HP.out]; exact ⟨rfl, Below.refl _ _⟩
def strL (l : List ByteArray) : List (List Value) := l.map fun s => [.string s]
theorem strL_len (l : List ByteArray) : (strL l).length = l.length := by simp [strL]
theorem strL_app (a b : List ByteArray) : (strL (a ++ b)).flatten = (strL a).flatten ++ (strL b).flatten := by simp [strL]
theorem strL_k (l : List ByteArray) : ∀ x ∈ strL l, x.length = 1 := by
 intro x hx; simp only [strL, List.mem_map] at hx; obtain ⟨o, _, rfl⟩ := hx; rfl
def SRow (w : World) (B : Nat) (v : Value) (l : List ByteArray) : Prop := w.ownsRow B 9 1 v l.length (strL l).flatten
theorem SRow.nil (w : World) (B : Nat) : SRow w B (.slice none 0 0) [] := World.ownsRow_nil _ _ _ _
theorem SRow.keep {w w' : World} {B : Nat} {v : Value} {l : List ByteArray} {T : Nat -> Prop} (h : SRow w B v l) (hk : Keep T w w') (hT : ∀ k, v.ownBlock = some k -> ¬ T k) : SRow w' B v l := by
 obtain ⟨h0, h | ⟨g, cap, cur, hv, h1, h2, h3⟩⟩ := h
 . exact ⟨h0, Or.inl h⟩
 . have hlt := (Array.getElem?_eq_some_iff.1 h2).1; exact ⟨h0, Or.inr ⟨g, cap, cur, hv, h1, (hk.block g hlt (hT g (by rw [hv]; rfl))).trans h2, h3⟩⟩
theorem SRow.below {w w' : World} {B : Nat} {v : Value} {l : List ByteArray} (h : SRow w B v l) (hb : Below w.heap.size w w') : SRow w' B v l := h.keep (Keep.of_below (fun _ => False) hb) (fun _ _ h => h)
theorem SRow.lt {w : World} {B : Nat} {v : Value} {l : List ByteArray} (h : SRow w B v l) : ∀ k, v.ownBlock = some k -> k < w.heap.size /\ B <= k := by
 intro k hk; have := World.ownsRow.lt h k hk; exact ⟨this.2, this.1⟩
theorem SRow.form {w : World} {B : Nat} {v : Value} {l : List ByteArray} (h : SRow w B v l) : ∃ sa sc, v = .slice sa l.length sc := by
 obtain ⟨_, ⟨h, hn⟩ | ⟨g, cp, cur, hv, _⟩⟩ := h
 . exact ⟨none, 0, by rw [h, hn]⟩
 . exact ⟨_, _, hv⟩
theorem str_info : ∃ i z, Tryz.prog.info? 9 = some i /\ i.zero = some z /\ i.size = 1 /\ i.bytes = 16 /\ z.cells.size = 1 := by
 have h : (Tryz.prog.info? 9).map (fun i => (i.zero, i.size, i.bytes)) = some (some (.string ⟨#[]⟩), 1, 16) := by kernel_rfl
 obtain ⟨i, hi, he⟩ := Option.map_eq_some_iff.1 h; simp only [Prod.mk.injEq] at he; exact ⟨i, _, hi, he.1, he.2.1, he.2.2, rfl⟩
theorem wpl_append_str {B : Nat} {w : World} {ops : Array Oper} {rest : List Oper} {o : Oper} {a : Act} {Q : Exit -> Act -> World -> Prop} (hgd : o.guard = none) (s x : Operand)
 (ho : o.op = .call { callee := .builtin .append, args := #[s, x], argTypes := #[35, 35] }) (v : Value) (l : List ByteArray) (hs : a.eval s = v) (hown : SRow w B v l)
 (bx c : Nat) (d : ByteArray) (hx : a.eval x = .slice (some ⟨bx, 0, none⟩) 1 c) (hb : w.heap[bx]? = some (.cells #[.string d] 9 (0, 0))) (hlen : l.length <= 1000000) (hW : B <= w.heap.size)
 (h : ∀ g cap w', SRow w' B (.slice (some ⟨g, 0, none⟩) (l.length + 1) cap) (l ++ [d]) -> Keep (fun k => v.ownBlock = some k) w w' -> (v.ownBlock = some g \/ g = w.heap.size) -> wpList Tryz.prog ops Q rest (a.put o.dst (.slice (some ⟨g, 0, none⟩) (l.length + 1) cap)) w') : wpList Tryz.prog ops Q (o :: rest) a w := by
 obtain ⟨i, z, hi, hz, hsz, hby, hzs⟩ := str_info
 refine wpList_append_lies (P := Tryz.prog) (w := w) hgd s x 35 ho B 9 i z 1 16 Tryz.underlying35 hi hz hsz hby hzs (by decide) v l.length (strL l).flatten hs hown ⟨bx, 0, none⟩ 1 c [.string d] hx rfl
  (World.news_of_block hb) (by intro u hu; simp only [List.mem_singleton] at hu; subst hu; rfl) (by decide) (by unfold maxLen; omega) (by omega) hW w.heap.size rfl ?_
 intro g cap w' h1 h2 h3 _; exact h g cap w' (by unfold SRow; rw [List.length_append, strL_app]; exact h1) (keep_of_grown h2) h3
def pppB (proto : Nat) (d : ByteArray) : ByteArray := ByteArray.mk #[UInt8.ofNat (proto / 256), UInt8.ofNat proto] ++ d
theorem two_any (v : Nat) (w : World) (hv : v < 65536) : Calls Tryz.prog 55 #[.int .i64 (v : Int)] w fun e w' => e = .returned (.string ⟨#[UInt8.ofNat (v / 256), UInt8.ofNat v]⟩) /\ Below w.heap.size w w' := by
 have HW := H_ (fun w => wput_any v w hv); clear hv; generalize (⟨#[UInt8.ofNat (v / 256), UInt8.ofNat v]⟩ : ByteArray) = s at *; go_enter Tryz.func55, Tryz.ntmps55; go_wp2_with fail; refine (HW.out _).mono ?_; rintro e w1 ⟨rfl, hb⟩; go_wp2_with fail; go_ret; exact ⟨rfl, hb⟩
theorem putPpp_any (proto : Nat) (d : ByteArray) (w : World) (hp : proto < 65536) (hpr : isPr (proto : Int) = true) (hd : d.size <= 1492) :
 Calls Tryz.prog 25 #[.int .i64 (proto : Int), .string d] w fun e w' => e = .returned (.tuple #[.string (pppB proto d), .int .i64 0]) /\ Below w.heap.size w w' := by
 have HI := H_ (fun w => isProto_any (proto : Int) w); rw [hpr] at HI; have HT := H_ (fun w => two_any proto w hp); have HS := H_ (show pppB proto d = ⟨#[UInt8.ofNat (proto / 256), UInt8.ofNat proto]⟩ ++ d from rfl); have q1 : decide ((1492 : Int) < (d.size : Int)) = false := by simp; omega
 have hsz : (⟨#[UInt8.ofNat (proto / 256), UInt8.ofNat proto]⟩ : ByteArray).size = 2 := rfl; have hlim : ¬ 9223372036854775807 < (⟨#[UInt8.ofNat (proto / 256), UInt8.ofNat proto]⟩ : ByteArray).size + d.size := by rw [hsz]; omega
 clear hp hpr hsz; generalize (⟨#[UInt8.ofNat (proto / 256), UInt8.ofNat proto]⟩ : ByteArray) = t at *; go_enter Tryz.func25, Tryz.ntmps25; go_wp2_with fail; refine (HI.out _).mono ?_; rintro e w1 ⟨rfl, rfl⟩; go_wp2_with fail; refine (HT.out _).mono ?_; rintro e w1 ⟨rfl, hb⟩; go_wp2_with fail; go_ret2; rw [HS.out]; exact ⟨rfl, hb⟩
theorem isData_any (n : Int) (w : World) (h1 : n ≠ 49187) (h2 : n ≠ 49699) : Calls Tryz.prog 64 #[.int .i64 n] w fun e w' => e = .returned (.bool false) /\ w = w' := by
 have e1 : (n == 49187) = false := by simpa using h1
 have e2 : (n == 49699) = false := by simpa using h2
 go_enter Tryz.func64, Tryz.ntmps64; go_wp2_with fail; go_ret; exact ⟨rfl, rfl⟩
theorem putOf_any (n : Int) (p : Pk) (po : Value) (ok : Nat -> Prop) (w : World) (h1 : n ≠ 49187) (h2 : n ≠ 49699) (ho : Opts w ok po p.o) (hl : p.o.length <= 1000000) (hv : ∀ o ∈ p.o, o.v.size <= 100000) (hd : p.d.size <= 100000000) :
 Calls Tryz.prog 59 #[.int .i64 n, pkV p po] w fun e w' => e = .returned (.tuple #[.string (putPk p).1, .int .i64 (putPk p).2]) /\ Below w.heap.size w w' := by
 obtain ⟨sa, c, rfl, -, -⟩ := ho.form; have hb := (Below.refl w.heap.size w).alloc (Nat.le_refl _) (.cells #[.int .i64 p.code, .int .i64 p.id, (.slice sa p.o.length c), .string p.d] 59 (0, 0)); have HP := H_ (oput_any p (.slice sa p.o.length c) ok _ (ho.below hb) hl hv hd); have HD := H_ (fun w => isData_any n w h1 h2); have HB := H_ hb; clear ho hl hv hd hb h1 h2; unfold pkV at HP ⊢; generalize (putPk p).1 = s at *; generalize (putPk p).2 = z at *; go_enter Tryz.func59, Tryz.ntmps59; go_wp2_with fail; refine (HD.out _).mono ?_; rintro e w1 ⟨rfl, rfl⟩; go_wp2_with fail; refine HP.out.mono ?_; rintro e w1 ⟨rfl, hb⟩; go_wp2_with fail; go_ret2; exact ⟨rfl, HB.out.trans (hb.mono HB.out.size)⟩
def frS (proto : Nat) (l : List Pk) : List ByteArray := l.filterMap fun p => if (putPk p).2 = 0 then some (pppB proto (putPk p).1) else none
structure Ad where
 a : UInt8
 b : UInt8
 c : UInt8
 d : UInt8
def Ad.v (x : Ad) : Value := .agg #[.int .u8 (x.a.toNat : Int), .int .u8 (x.b.toNat : Int), .int .u8 (x.c.toNat : Int), .int .u8 (x.d.toNat : Int)]
def Ad.cs (x : Ad) : Array Value := #[.int .u8 (x.a.toNat : Int), .int .u8 (x.b.toNat : Int), .int .u8 (x.c.toNat : Int), .int .u8 (x.d.toNat : Int)]
def Ad.s (x : Ad) : ByteArray := ⟨#[x.a, x.b, x.c, x.d]⟩
def Ad.z : Ad := ⟨0, 0, 0, 0⟩
def adE (x y : Ad) : Bool := decide (x.a = y.a) && (decide (x.b = y.b) && (decide (x.c = y.c) && decide (x.d = y.d)))
theorem adE_iff (x y : Ad) : adE x y = true ↔ x = y := by
 obtain ⟨a, b, c, d⟩ := x; obtain ⟨a', b', c', d'⟩ := y; simp [adE]
theorem ad_u8 (x y : UInt8) : ((x.toNat : Int) == (y.toNat : Int)) = decide (x = y) := by
 by_cases h : x = y
 . subst h; simp
 . have : ¬ (x.toNat : Int) = (y.toNat : Int) := fun e => h (UInt8.toNat_inj.1 (by omega)); simp [h, this]
theorem adEqual (x y : Ad) (w : World) : (Op.equalIn 10000 23 x.v y.v).run Tryz.prog w = .ok (adE x y) w := by
 have u5 := Tryz.underlying5; obtain ⟨i, hi, -, h1, -⟩ := u8_info; have hc : Tryz.prog.cellsOf 5 = 1 := by simp [Program.cellsOf, hi, h1]
 have hu : Tryz.prog.underlying 23 = some (.array 4 5) := Tryz.underlying23; unfold Ad.v; rw [show (10000 : Nat) = 9999 + 1 from rfl, run_equalIn_array w 9999 _ _ hu hi, hc]; have hpk : Tryz.prog.plainKey 5 = true := by simp [Program.plainKey, u5]
 have p0 := fun (a b c d : Value) (w : World) => run_part_plain (P := Tryz.prog) (w := w) hpk (show (#[a, b, c, d])[0]? = some a from rfl); have p1 := fun (a b c d : Value) (w : World) => run_part_plain (P := Tryz.prog) (w := w) hpk (show (#[a, b, c, d])[1]? = some b from rfl); have p2 := fun (a b c d : Value) (w : World) => run_part_plain (P := Tryz.prog) (w := w) hpk (show (#[a, b, c, d])[2]? = some c from rfl); have p3 := fun (a b c d : Value) (w : World) => run_part_plain (P := Tryz.prog) (w := w) hpk (show (#[a, b, c, d])[3]? = some d from rfl)
 have eqi : ∀ (a b : UInt8) (w : World), (Op.equalIn 9999 5 (.int .u8 (a.toNat : Int)) (.int .u8 (b.toNat : Int))).run Tryz.prog w = .ok (decide (a = b)) w := fun a b w => by
  rw [<- ad_u8]; exact run_equalIn_int (P := Tryz.prog) w 9998 5 .u8 .u8 (a.toNat : Int) (b.toNat : Int) u5
 simp only [show List.range 4 = [0, 1, 2, 3] from rfl, Op.eqItems, Sem.run_bind, Nat.mul_one, p0, p1, p2, p3, Result.andThen_ok, eqi]; unfold adE
 by_cases e0 : x.a = y.a <;> by_cases e1 : x.b = y.b <;> by_cases e2 : x.c = y.c <;> by_cases e3 : x.d = y.d <;> simp [e0, e1, e2, e3, p0, p1, p2, p3, eqi]
theorem adNeq (x y : Ad) (w : World) : (binOp .neq 23 x.v y.v).run Tryz.prog w = .ok (.bool (!adE x y)) w := by
 have h := adEqual x y w; unfold Ad.v at h ⊢; rw [run_neq_struct, h]; rfl
theorem span_any (k m : Int) (s : ByteArray) (w : World) : Calls Tryz.prog 94 #[.int .i64 k, .int .i64 m, .string s] w fun e w' => e = .returned (.agg #[.int .i64 k, .int .i64 4, .int .i64 m, .int .i64 4294967295, .string s]) /\ Below w.heap.size w w' := by
 go_enter Tryz.func94, Tryz.ntmps94; go_wp2_with fail; refine bodyPost_ret (results_cell_row rfl _ _ w.heap.size 136 _ (0, 0) _ rfl (at1 w _) Tryz.underlying136 rfl (by kernel_rfl)) rfl ?_; exact ⟨rfl, (Below.refl _ _).alloc (Nat.le_refl _) _⟩
def justR (k : Int) (x : Ad) : Rl := ⟨k, 4, valB [x.a, x.b, x.c, x.d], valB [x.a, x.b, x.c, x.d], x.s⟩
def spanR (k m : Int) (s : ByteArray) : Rl := ⟨k, 4, m, 4294967295, s⟩
theorem addr_cells : (Tryz.prog.info? 23).map (·.size) = some 4 := by kernel_rfl
def adOf (s : ByteArray) : Ad := ⟨s.data.getD 0 0, s.data.getD 1 0, s.data.getD 2 0, s.data.getD 3 0⟩
def adrS (l : List Opt) (k : Int) : Ad × Bool := match findO l k with
 | none => (Ad.z, false)
 | some o => if o.v.size = 4 then (adOf o.v, true) else (Ad.z, false)
def goodS (a b : Ad) : Bool := adE a b && !adE a Ad.z
structure Lay (W Wc : World) (l : List (Nat × Obj)) : Prop where
 bl : Below W.heap.size W Wc
 get : ∀ p ∈ l, W.heap.size <= p.1 /\ Wc.heap[p.1]? = some p.2
structure Boxes (w W : World) (own peer d1 d2 : Ad) : Prop where
 size : W.heap.size = w.heap.size + 1 + 1 + 1 + 1
 x0 : W.heap[w.heap.size]? = some (.cells own.cs 23 (0, 0))
 x1 : W.heap[w.heap.size + 1]? = some (.cells peer.cs 23 (0, 0))
 x2 : W.heap[w.heap.size + 1 + 1]? = some (.cells d1.cs 23 (0, 0))
 x3 : W.heap[w.heap.size + 1 + 1 + 1]? = some (.cells d2.cs 23 (0, 0))
 bl : Below w.heap.size w W
def srvR (peer d1 d2 : Ad) : List Rl := [justR 3 peer] ++ (if adE d1 Ad.z then [] else [justR 129 d1]) ++ (if adE d2 Ad.z then [] else [justR 131 d2])
def SrvQ (w W : World) (own peer d1 d2 : Ad) (cf tm fl wt vp : Int) (a' : Act) (w' : World) : Prop := ∃ sb ob rb, Below W.heap.size W w' /\ (W.heap.size <= sb /\ w'.heap[sb]? = some (.cells #[.slice (some ⟨ob, 0, none⟩) 1 1, .slice none 0 0, .slice (some ⟨rb, 0, none⟩) 1 1, .slice none 0 0, .int .i64 cf, .int .i64 tm, .int .i64 fl, .int .i64 wt] 118 (0, 0))) /\ (W.heap.size <= ob /\ w'.heap[ob]? = some (.cells #[.int .i64 3, .string own.s] 132 (0, 0))) /\ (W.heap.size <= rb /\ w'.heap[rb]? = some (.cells #[.int .i64 3, .int .i64 4, .int .i64 vp, .int .i64 vp, .string peer.s] 136 (0, 0))) /\ a' = ⟨#[.agg #[.int .u8 (own.a.toNat : Int), .int .u8 (own.b.toNat : Int), .int .u8 (own.c.toNat : Int), .int .u8 (own.d.toNat : Int)], .agg #[.int .u8 (peer.a.toNat : Int), .int .u8 (peer.b.toNat : Int), .int .u8 (peer.c.toNat : Int), .int .u8 (peer.d.toNat : Int)], .agg #[.int .u8 (d1.a.toNat : Int), .int .u8 (d1.b.toNat : Int), .int .u8 (d1.c.toNat : Int), .int .u8 (d1.d.toNat : Int)], .agg #[.int .u8 (d2.a.toNat : Int), .int .u8 (d2.b.toNat : Int), .int .u8 (d2.c.toNat : Int), .int .u8 (d2.d.toNat : Int)], .int .i64 cf, .int .i64 tm, .int .i64 fl, .int .i64 wt, .pointer (some ⟨w.heap.size, 0, none⟩), .pointer (some ⟨w.heap.size + 1, 0, none⟩), .pointer (some ⟨w.heap.size + 1 + 1, 0, none⟩), .pointer (some ⟨w.heap.size + 1 + 1 + 1, 0, none⟩), undef, undef, undef, undef, .pointer none, .int .i64 0, .pointer (some ⟨sb, 0, none⟩), .slice (some ⟨w.heap.size, 0, none⟩) 4 4, .string own.s, .agg #[.int .i64 3, .string own.s], .slice (some ⟨ob, 0, none⟩) 1 1, .agg #[.int .u8 (peer.a.toNat : Int), .int .u8 (peer.b.toNat : Int), .int .u8 (peer.c.toNat : Int), .int .u8 (peer.d.toNat : Int)], .agg #[.int .i64 3, .int .i64 4, .int .i64 vp, .int .i64 vp, .string peer.s], .slice (some ⟨rb, 0, none⟩) 1 1, .int .i64 cf, .int .i64 tm, .int .i64 fl, .int .i64 wt, .agg #[.slice (some ⟨ob, 0, none⟩) 1 1, .slice none 0 0, .slice (some ⟨rb, 0, none⟩) 1 1, .slice none 0 0, .int .i64 cf, .int .i64 tm, .int .i64 fl, .int .i64 wt], undef, undef, undef, undef, undef, undef, undef, undef, undef, undef, undef, undef, undef, undef, undef, undef, undef, undef, undef, undef, undef, undef, undef, undef], []⟩
theorem RRow.nil0 {w : World} {B n c : Nat} {l : List Rl} (h : RRow w B (.slice none n c) l) : c = 0 := by
 obtain ⟨_, h | ⟨g, cap, cur, h, _⟩⟩ := h
 . have := h.1; simp at this; exact this.2
 . cases h
structure SrvI (w wr : World) (d1 d2 : Ad) (sb : Nat) (ov pv : Value) (al : List Opt) (rs : List Rl) (cf tm fl wt : Int) : Prop where
 bl : Below w.heap.size w wr
 x2 : wr.heap[w.heap.size + 1 + 1]? = some (.cells d1.cs 23 (0, 0))
 x3 : wr.heap[w.heap.size + 1 + 1 + 1]? = some (.cells d2.cs 23 (0, 0))
 sbk : wr.heap[sb]? = some (.cells #[ov, .slice none 0 0, pv, .slice none 0 0, .int .i64 cf, .int .i64 tm, .int .i64 fl, .int .i64 wt] 118 (0, 0))
 hsb : w.heap.size + 1 + 1 + 1 + 1 <= sb
 orow : ORow wr w.heap.size ov al
 rrow : RRow wr (w.heap.size + 1 + 1 + 1 + 1) pv rs
 ne1 : ∀ k, pv.ownBlock = some k -> k ≠ sb
 ne2 : ∀ k, ov.ownBlock = some k -> k ≠ sb
 ne3 : ∀ k, ov.ownBlock = some k -> pv.ownBlock ≠ some k
theorem NRow.one {w : World} {g base : Nat} (x : Int) (h : w.heap[g]? = some (.cells #[.int .i64 x] 3 (0, 0))) (hb : base <= g) : NRow w base (.slice (some ⟨g, 0, none⟩) 1 1) [x] :=
 ⟨rfl, Or.inr ⟨g, 1, _, rfl, hb, h, Nat.le_refl _, by unfold maxLen; omega, rfl, rfl⟩⟩
def n4 : ByteArray := ⟨#[0, 0, 0, 0]⟩
def o4 : ByteArray := ⟨#[0, 0, 0, 1]⟩
def cliA (dns : Bool) (k : Nat) : List Opt := match dns, k with
 | true, 2 => [⟨3, n4⟩, ⟨129, n4⟩]
 | true, 3 => [⟨3, n4⟩, ⟨129, n4⟩, ⟨131, n4⟩]
 | _, _ => [⟨3, n4⟩]
def cliO : Nat -> List Rl
 | 0 => []
 | 1 => [spanR 3 1 o4]
 | 2 => [spanR 3 1 o4, spanR 129 1 o4]
 | _ => [spanR 3 1 o4, spanR 129 1 o4, spanR 131 1 o4]
structure CliI (w wr : World) (sb ib rb mb : Nat) (ov wv : Value) (al : List Opt) (rs : List Rl) (cf tm fl wt : Int) : Prop where
 bl : Below w.heap.size w wr
 sbk : wr.heap[sb]? = some (.cells #[ov, wv, .slice (some ⟨rb, 0, none⟩) 1 1, .slice (some ⟨mb, 0, none⟩) 1 1, .int .i64 cf, .int .i64 tm, .int .i64 fl, .int .i64 wt] 118 (0, 0))
 ibk : wr.heap[ib]? = some (.cells #[.int .i64 3, .int .i64 129, .int .i64 131] 3 (0, 0))
 rbk : wr.heap[rb]? = some (.cells #[.int .i64 3, .int .i64 4, .int .i64 0, .int .i64 4294967295, .string ⟨#[0, 0, 0, 0]⟩] 136 (0, 0))
 mbk : wr.heap[mb]? = some (.cells #[.int .i64 3] 3 (0, 0))
 orow : ORow wr w.heap.size ov al
 wrow : RRow wr w.heap.size wv rs
 hs : w.heap.size <= sb /\ w.heap.size <= ib /\ w.heap.size <= rb /\ w.heap.size <= mb
 no : ∀ k, ov.ownBlock = some k -> k ≠ sb /\ k ≠ ib /\ k ≠ rb /\ k ≠ mb /\ wv.ownBlock ≠ some k
 nw : ∀ k, wv.ownBlock = some k -> k ≠ sb /\ k ≠ ib /\ k ≠ rb /\ k ≠ mb
section
variable {w wr w' : World} {sb ib rb mb : Nat} {ov wv ov' wv' : Value} {al al' : List Opt} {rs rs' : List Rl} {cf tm fl wt : Int}
theorem lt_of_heap {w : World} {k : Nat} {o : Obj} (e : w.heap[k]? = some o) : k < w.heap.size := (Array.getElem?_eq_some_iff.1 e).1
theorem CliI.sz (h : CliI w wr sb ib rb mb ov wv al rs cf tm fl wt) : w.heap.size <= wr.heap.size := h.bl.size
theorem CliI.ne (h : CliI w wr sb ib rb mb ov wv al rs cf tm fl wt) : ib ≠ sb /\ rb ≠ sb /\ mb ≠ sb := by
 refine ⟨?_, ?_, ?_⟩
 . rintro rfl; have := h.sbk.symm.trans h.ibk; simp at this
 . rintro rfl; have := h.sbk.symm.trans h.rbk; simp at this
 . rintro rfl; have := h.sbk.symm.trans h.mbk; simp at this
theorem CliI.go (h : CliI w wr sb ib rb mb ov wv al rs cf tm fl wt) (hb : Below wr.heap.size wr w') : CliI w w' sb ib rb mb ov wv al rs cf tm fl wt :=
 { h with bl := h.bl.trans (hb.mono h.bl.size), sbk := (hb.block _ (lt_of_heap h.sbk)).trans h.sbk, ibk := (hb.block _ (lt_of_heap h.ibk)).trans h.ibk, rbk := (hb.block _ (lt_of_heap h.rbk)).trans h.rbk, mbk := (hb.block _ (lt_of_heap h.mbk)).trans h.mbk, orow := h.orow.below hb, wrow := h.wrow.below hb }
theorem CliI.appW (h : CliI w wr sb ib rb mb ov wv al rs cf tm fl wt) (hk : Keep (fun k => wv.ownBlock = some k) wr w') (hr : RRow w' w.heap.size wv' rs') (ho : wv'.ownBlock = wv.ownBlock \/ wv'.ownBlock = some wr.heap.size) :
 CliI w (w'.setCell ⟨sb, 1, none⟩ wv') sb ib rb mb ov wv' al rs' cf tm fl wt := by
 obtain ⟨e1, e2, e3⟩ := h.ne; have hk2 : Keep (fun b => b = sb) w' (w'.setCell ⟨sb, 1, none⟩ wv') := (Keep.refl (fun b => b = sb) w').setCell ⟨sb, 1, none⟩ (Or.inr rfl) wv'; have l1 := lt_of_heap h.sbk; have l2 := lt_of_heap h.ibk; have l3 := lt_of_heap h.rbk; have l4 := lt_of_heap h.mbk; have hz := hk.size; have y1 := (hk.block sb l1 (fun he => (h.nw sb he).1 rfl)).trans h.sbk; have y2 := (hk.block ib l2 (fun he => (h.nw ib he).2.1 rfl)).trans h.ibk; have y3 := (hk.block rb l3 (fun he => (h.nw rb he).2.2.1 rfl)).trans h.rbk; have y4 := (hk.block mb l4 (fun he => (h.nw mb he).2.2.2 rfl)).trans h.mbk
 have hn' : ∀ k, wv'.ownBlock = some k -> k ≠ sb /\ k ≠ ib /\ k ≠ rb /\ k ≠ mb := fun k hk' => by
  rcases ho with ho | ho
  . exact h.nw k (by rw [<- ho]; exact hk')
  . rw [ho] at hk'; cases hk'; exact ⟨by omega, by omega, by omega, by omega⟩
 have hhs := h.hs
 exact { h with
  bl := h.bl.trans ((hk.below h.bl.size (fun k hk he => by have := (h.wrow.lt k he).2; omega)).trans (hk2.below (by have := h.bl.size; omega) (fun k hk he => by omega)))
  sbk := by have := set_block y1 1 wv'; simpa using this
  ibk := (hk2.block _ (lt_of_heap y2) e1).trans y2
  rbk := (hk2.block _ (lt_of_heap y3) e2).trans y3
  mbk := (hk2.block _ (lt_of_heap y4) e3).trans y4
  orow := (h.orow.keep hk (fun k hk' he => (h.no k hk').2.2.2.2 he)).keep hk2 (fun k hk' he => (h.no k hk').1 he)
  wrow := hr.keep hk2 (fun k hk' he => (hn' k hk').1 he)
  no := fun k hk' => ⟨(h.no k hk').1, (h.no k hk').2.1, (h.no k hk').2.2.1, (h.no k hk').2.2.2.1, fun he => by
   rcases ho with ho | ho
   . exact (h.no k hk').2.2.2.2 (by rw [<- ho]; exact he)
   . rw [ho] at he; cases he; exact absurd (h.orow.lt _ hk').1 (Nat.lt_irrefl _)⟩
  nw := hn' }
theorem CliI.appO (h : CliI w wr sb ib rb mb ov wv al rs cf tm fl wt) (hk : Keep (fun k => ov.ownBlock = some k) wr w') (hr : ORow w' w.heap.size ov' al') (ho : ov'.ownBlock = ov.ownBlock \/ ov'.ownBlock = some wr.heap.size) :
 CliI w (w'.setCell ⟨sb, 0, none⟩ ov') sb ib rb mb ov' wv al' rs cf tm fl wt := by
 obtain ⟨e1, e2, e3⟩ := h.ne; have hk2 : Keep (fun b => b = sb) w' (w'.setCell ⟨sb, 0, none⟩ ov') := (Keep.refl (fun b => b = sb) w').setCell ⟨sb, 0, none⟩ (Or.inr rfl) ov'; have l1 := lt_of_heap h.sbk; have l2 := lt_of_heap h.ibk; have l3 := lt_of_heap h.rbk; have l4 := lt_of_heap h.mbk; have hz := hk.size; have y1 := (hk.block sb l1 (fun he => (h.no sb he).1 rfl)).trans h.sbk; have y2 := (hk.block ib l2 (fun he => (h.no ib he).2.1 rfl)).trans h.ibk; have y3 := (hk.block rb l3 (fun he => (h.no rb he).2.2.1 rfl)).trans h.rbk; have y4 := (hk.block mb l4 (fun he => (h.no mb he).2.2.2.1 rfl)).trans h.mbk; have hhs := h.hs
 have hn' : ∀ k, ov'.ownBlock = some k -> k ≠ sb /\ k ≠ ib /\ k ≠ rb /\ k ≠ mb /\ wv.ownBlock ≠ some k := fun k hk' => by
  rcases ho with ho | ho
  . exact h.no k (by rw [<- ho]; exact hk')
  . rw [ho] at hk'; cases hk'; exact ⟨by omega, by omega, by omega, by omega, fun he => absurd (h.wrow.lt _ he).1 (Nat.lt_irrefl _)⟩
 exact { h with
  bl := h.bl.trans ((hk.below h.bl.size (fun k hk he => by have := (h.orow.lt k he).2; omega)).trans (hk2.below (by have := h.bl.size; omega) (fun k hk he => by omega)))
  sbk := by have := set_block y1 0 ov'; simpa using this
  ibk := (hk2.block _ (lt_of_heap y2) e1).trans y2
  rbk := (hk2.block _ (lt_of_heap y3) e2).trans y3
  mbk := (hk2.block _ (lt_of_heap y4) e3).trans y4
  orow := hr.keep hk2 (fun k hk' he => (hn' k hk').1 he)
  wrow := (h.wrow.keep hk (fun k hk' he => (h.no k he).2.2.2.2 hk')).keep hk2 (fun k hk' he => (h.nw k hk').1 he)
  no := hn' }
end
theorem setCell_size (w : World) (a : Addr) (v : Value) : (w.setCell a v).heap.size = w.heap.size := by simp [World.setCell]
theorem alloc4 (w : World) (A B C D : Obj) : ∃ W, W = (((w.alloc A).alloc B).alloc C).alloc D /\ W.heap.size = w.heap.size + 1 + 1 + 1 + 1 /\ W.heap[w.heap.size]? = some A /\ W.heap[w.heap.size + 1]? = some B /\ W.heap[w.heap.size + 1 + 1]? = some C /\ W.heap[w.heap.size + 1 + 1 + 1]? = some D /\ Below w.heap.size w W := by
 have e1 := alloc1 w A; have e2 := alloc1 (w.alloc A) B; have e3 := alloc1 ((w.alloc A).alloc B) C; have e4 := alloc1 (((w.alloc A).alloc B).alloc C) D; refine ⟨_, rfl, by omega, ?_, ?_, ?_, ?_, ((((Below.refl _ _).alloc (Nat.le_refl _) _).alloc (by omega) _).alloc (by omega) _).alloc (by omega) _⟩
 . rw [Below.heap_alloc _ _ _ (by omega), Below.heap_alloc _ _ _ (by omega), Below.heap_alloc _ _ _ (by omega)]; exact at1 _ _
 . rw [Below.heap_alloc _ _ _ (by omega), Below.heap_alloc _ _ _ (by omega), <- e1]; exact at1 _ _
 . rw [Below.heap_alloc _ _ _ (by omega), show w.heap.size + 1 + 1 = ((w.alloc A).alloc B).heap.size by omega]; exact at1 _ _
 . rw [show w.heap.size + 1 + 1 + 1 = (((w.alloc A).alloc B).alloc C).heap.size by omega]; exact at1 _ _
set_option maxRecDepth 100000 in
theorem client_any (cf tm fl wt : Int) (dns : Bool) (w : World) (hcf : 1 <= cf /\ cf <= 20) (htm : 1 <= tm /\ tm <= 20) (hfl : 0 <= fl /\ fl <= 20) (hwt : 1 <= wt /\ wt <= 100) :
 Calls Tryz.prog 51 #[.int .i64 cf, .int .i64 tm, .int .i64 fl, .int .i64 wt, .bool dns] w fun e w' => ∃ v, e = .returned v /\ NewAt w w' v (cliA dns 3) (cliO 3) [spanR 3 0 n4] [3] cf tm fl wt := by
 have HA := H_ (A_ hcf (A_ htm (A_ hfl hwt))); have b1 := (Below.refl w.heap.size w).alloc (Nat.le_refl _) (.cells #[.int .i64 3, .string ⟨#[0, 0, 0, 0]⟩] 132 (0, 0)); have z1 := at1 w (.cells #[.int .i64 3, .string ⟨#[0, 0, 0, 0]⟩] 132 (0, 0)); have H1 := H_ (A_ b1 (A_ z1 (alloc1 w (.cells #[.int .i64 3, .string ⟨#[0, 0, 0, 0]⟩] 132 (0, 0))))); clear hcf htm hfl hwt b1 z1; go_enter Tryz.func51, Tryz.ntmps51; go_wp2_with fail; refine (span_any 3 0 ⟨#[0, 0, 0, 0]⟩ _).mono ?_; rintro e w1 ⟨rfl, hb⟩; have H2 := H_ (A_ (H1.out.1.trans (hb.mono H1.out.1.size)) (A_ ((hb.block _ (by rw [H1.out.2.2]; omega)).trans H1.out.2.1) (show w.heap.size + 1 <= w1.heap.size by have := hb.size; rw [H1.out.2.2] at this; exact this))); clear hb
 obtain ⟨W, hW, hI0⟩ : ∃ W, W = (((w1.alloc (.cells #[.int .i64 3, .int .i64 4, .int .i64 0, .int .i64 4294967295, .string ⟨#[0, 0, 0, 0]⟩] 136 (0, 0))).alloc (.cells #[.int .i64 3] 3 (0, 0))).alloc (.cells #[.slice (some ⟨w.heap.size, 0, none⟩) 1 1, .slice none 0 0, .slice (some ⟨w1.heap.size, 0, none⟩) 1 1, .slice (some ⟨w1.heap.size + 1, 0, none⟩) 1 1, .int .i64 cf, .int .i64 tm, .int .i64 fl, .int .i64 wt] 118 (0, 0))).alloc (.cells #[.int .i64 3, .int .i64 129, .int .i64 131] 3 (0, 0)) /\
  CliI w W (w1.heap.size + 1 + 1) (w1.heap.size + 1 + 1 + 1) w1.heap.size (w1.heap.size + 1) (.slice (some ⟨w.heap.size, 0, none⟩) 1 1) (.slice none 0 0) [⟨3, n4⟩] [] cf tm fl wt := by
  obtain ⟨W, hW, hs, x0, x1, x2, x3, hb⟩ := alloc4 w1 (.cells #[.int .i64 3, .int .i64 4, .int .i64 0, .int .i64 4294967295, .string ⟨#[0, 0, 0, 0]⟩] 136 (0, 0)) (.cells #[.int .i64 3] 3 (0, 0)) (.cells #[.slice (some ⟨w.heap.size, 0, none⟩) 1 1, .slice none 0 0, .slice (some ⟨w1.heap.size, 0, none⟩) 1 1, .slice (some ⟨w1.heap.size + 1, 0, none⟩) 1 1, .int .i64 cf, .int .i64 tm, .int .i64 fl, .int .i64 wt] 118 (0, 0)) (.cells #[.int .i64 3, .int .i64 129, .int .i64 131] 3 (0, 0)); have h2 := H2.out.2.2; have xo := (hb.block w.heap.size (by omega)).trans H2.out.2.1
  exact ⟨W, hW, H2.out.1.trans (hb.mono H2.out.1.size), x2, x3, x0, x1, ORow.one ⟨3, n4⟩ xo (Nat.le_refl _), RRow.nil _ _, ⟨by omega, by omega, by omega, by omega⟩, fun k hk => by
   have hk : w.heap.size = k := by simpa [Value.ownBlock] using hk
   subst hk
   exact ⟨by omega, by omega, by omega, by omega, fun h => by cases h⟩, fun k hk => by cases hk⟩
 have HI0 := H_ hI0; clear hI0 H1 H2; cases dns
 all_goals
  go_wp2_with fail; rw [<- hW]; clear hW; generalize w1.heap.size + 1 + 1 + 1 = ib at HI0 ⊢; generalize w1.heap.size + 1 + 1 = sb at HI0 ⊢; generalize w1.heap.size + 1 = mb at HI0 ⊢; generalize w1.heap.size = rb at HI0 ⊢
 . go_loopg [27] 3 (fun x i wr => ∃ k : Nat, k <= 3 /\ x = 3 - k /\ i = .int .i64 k /\ Hid (∃ ov wv, CliI w wr sb ib rb mb ov wv (cliA false k) (cliO k) cf tm fl wt))
   case atStart => exact ⟨0, by omega, by omega, rfl, _, _, HI0.out⟩
   case round =>
    obtain ⟨k, hk, rfl, rfl, hK⟩ := hrel
    rcases (show k = 0 \/ k = 1 \/ k = 2 \/ k = 3 by omega) with rfl | rfl | rfl | rfl
    . obtain ⟨ov, wv, hI⟩ := hK.out; obtain ⟨oa, oc, rfl⟩ := hI.orow.form; obtain ⟨wa, wc, rfl⟩ := hI.wrow.form; have HI : Hid (CliI w wr sb ib rb mb (.slice oa 1 oc) (.slice wa 0 wc) [⟨3, ⟨#[0, 0, 0, 0]⟩⟩] [] cf tm fl wt) := H_ hI; clear hI hK; have s1 := cellOf HI.out.sbk 1 _ rfl; have i0 := cellOf HI.out.ibk 0 _ rfl; go_wp2_with fail; refine wp_region_H (rgH 1 5) (fun X : World => X.cell? ⟨sb, 1, none⟩ = some (.slice wa 0 wc)) (by kernel_rfl) ?_; have HSv : (fun X : World => X.cell? ⟨sb, 1, none⟩ = some (.slice wa 0 wc)) wr.drew := s1; refine hatP 0 rfl (by intro W _; go_simp; try rfl) ?_; simp only [aZ, aC, aD]; refine hatH 1 rfl (by rintro W h0; go_simp; try rfl) HSv ?_; simp only [aZ, aC, aD]; refine hone 2 rfl fun K hK => ?_
      try go_simp
      refine hK _ _ (fun _ => HSv) ?_
      try simp only [aZ, aA, aE, aB, aC, aD]
      clear HSv s1 i0; refine hone 3 rfl fun K hK => ?_
      try go_simp
      go_at_call 94; refine (span_any 3 1 ⟨#[0, 0, 0, 1]⟩ _).mono ?_; rintro e U ⟨rfl, hb⟩; have J := H_ ((HI.out.go (Below.refl _ _).drew).go hb); have HSv : (fun X : World => X.cell? ⟨sb, 1, none⟩ = some (.slice wa 0 wc)) U := cellOf J.out.sbk 1 _ rfl; clear hb; refine hK _ _ (fun _ => HSv) ?_
      try simp only [aZ, aA, aE, aB, aC, aD]
      refine hone 4 rfl fun K hK => ?_
      try go_simp
      have K1 := H_ (J.out.go ((Below.refl _ _).alloc (Nat.le_refl _) (.cells #[.int .i64 3, .int .i64 4, .int .i64 1, .int .i64 4294967295, .string ⟨#[0, 0, 0, 1]⟩] 136 (0, 0)))); have HN := H_ (at1 U (.cells #[.int .i64 3, .int .i64 4, .int .i64 1, .int .i64 4294967295, .string ⟨#[0, 0, 0, 1]⟩] 136 (0, 0))); have HSv : (fun X : World => X.cell? ⟨sb, 1, none⟩ = some (.slice wa 0 wc)) (U.alloc (.cells #[.int .i64 3, .int .i64 4, .int .i64 1, .int .i64 4294967295, .string ⟨#[0, 0, 0, 1]⟩] 136 (0, 0))) := cellOf K1.out.sbk 1 _ rfl; refine hK _ _ (fun _ => HSv) ?_
      try simp only [aZ, aA, aE, aB, aC, aD]
      clear HSv; refine hend 5 ?_; simp only [aF, aG]
      go_wp2_with (first
       | (
        at_builtin; refine wpl_append_rules rfl _ _ rfl _ [] rfl K1.out.wrow _ [⟨3, 4, 1, 4294967295, ⟨#[0, 0, 0, 1]⟩⟩] rfl ((RRow.one ⟨3, 4, 1, 4294967295, ⟨#[0, 0, 0, 1]⟩⟩ HN.out (Nat.le_refl _)).rls (show 1 <= maxLen by decide)) (by intro n c h; cases h) (by simp) K1.out.sz ?_
        intro wv2 T r5 k5 o5; obtain ⟨wb, wd, rfl⟩ := r5.form; have r5 : RRow T _ (.slice wb 1 wd) [⟨3, 4, 1, 4294967295, ⟨#[0, 0, 0, 1]⟩⟩] := r5; have o5 : (Value.ownBlock (.slice wb 1 wd) = _ \/ _) := o5; have I1 := H_ (K1.out.appW k5 r5 o5); have y4 := (k5.block sb (Array.getElem?_eq_some_iff.1 K1.out.sbk).1 (fun he => (K1.out.nw sb he).1 rfl)).trans K1.out.sbk; have u2 := cellOf y4 1 _ rfl; have f2 := fun o => fzOf y4 o
        clear r5 k5 o5 y4))
      go_roundg (3 - (0 + 1))
      case measure => omega
      case rel => exact ⟨1, by omega, rfl, by go_num, _, _, I1.out⟩
    . obtain ⟨ov, wv, hI⟩ := hK.out; obtain ⟨oa, oc, rfl⟩ := hI.orow.form; obtain ⟨wa, wc, rfl⟩ := hI.wrow.form; have HI : Hid (CliI w wr sb ib rb mb (.slice oa 1 oc) (.slice wa 1 wc) [⟨3, ⟨#[0, 0, 0, 0]⟩⟩] [⟨3, 4, 1, 4294967295, ⟨#[0, 0, 0, 1]⟩⟩] cf tm fl wt) := H_ hI; clear hI hK; have s1 := cellOf HI.out.sbk 1 _ rfl; have i0 := cellOf HI.out.ibk 1 _ rfl; go_wp2_with fail; refine wp_region_H (rgH 1 5) (fun X : World => X.cell? ⟨sb, 1, none⟩ = some (.slice wa 1 wc)) (by kernel_rfl) ?_; have HSv : (fun X : World => X.cell? ⟨sb, 1, none⟩ = some (.slice wa 1 wc)) wr.drew := s1; refine hatP 0 rfl (by intro W _; go_simp; try rfl) ?_; simp only [aZ, aC, aD]; refine hatH 1 rfl (by rintro W h0; go_simp; try rfl) HSv ?_; simp only [aZ, aC, aD]; refine hone 2 rfl fun K hK => ?_
      try go_simp
      refine hK _ _ (fun _ => HSv) ?_
      try simp only [aZ, aA, aE, aB, aC, aD]
      clear HSv s1 i0; refine hone 3 rfl fun K hK => ?_
      try go_simp
      go_at_call 94; refine (span_any 129 1 ⟨#[0, 0, 0, 1]⟩ _).mono ?_; rintro e U ⟨rfl, hb⟩; have J := H_ ((HI.out.go (Below.refl _ _).drew).go hb); have HSv : (fun X : World => X.cell? ⟨sb, 1, none⟩ = some (.slice wa 1 wc)) U := cellOf J.out.sbk 1 _ rfl; clear hb; refine hK _ _ (fun _ => HSv) ?_
      try simp only [aZ, aA, aE, aB, aC, aD]
      refine hone 4 rfl fun K hK => ?_
      try go_simp
      have K1 := H_ (J.out.go ((Below.refl _ _).alloc (Nat.le_refl _) (.cells #[.int .i64 129, .int .i64 4, .int .i64 1, .int .i64 4294967295, .string ⟨#[0, 0, 0, 1]⟩] 136 (0, 0)))); have HN := H_ (at1 U (.cells #[.int .i64 129, .int .i64 4, .int .i64 1, .int .i64 4294967295, .string ⟨#[0, 0, 0, 1]⟩] 136 (0, 0))); have HSv : (fun X : World => X.cell? ⟨sb, 1, none⟩ = some (.slice wa 1 wc)) (U.alloc (.cells #[.int .i64 129, .int .i64 4, .int .i64 1, .int .i64 4294967295, .string ⟨#[0, 0, 0, 1]⟩] 136 (0, 0))) := cellOf K1.out.sbk 1 _ rfl; refine hK _ _ (fun _ => HSv) ?_
      try simp only [aZ, aA, aE, aB, aC, aD]
      clear HSv; refine hend 5 ?_; simp only [aF, aG]
      go_wp2_with (first
       | (
        at_builtin; refine wpl_append_rules rfl _ _ rfl _ [⟨3, 4, 1, 4294967295, ⟨#[0, 0, 0, 1]⟩⟩] rfl K1.out.wrow _ [⟨129, 4, 1, 4294967295, ⟨#[0, 0, 0, 1]⟩⟩] rfl ((RRow.one ⟨129, 4, 1, 4294967295, ⟨#[0, 0, 0, 1]⟩⟩ HN.out (Nat.le_refl _)).rls (show 1 <= maxLen by decide)) (by intro n c h; cases h) (by simp) K1.out.sz ?_
        intro wv2 T r5 k5 o5; obtain ⟨wb, wd, rfl⟩ := r5.form; have r5 : RRow T _ (.slice wb 2 wd) [⟨3, 4, 1, 4294967295, ⟨#[0, 0, 0, 1]⟩⟩, ⟨129, 4, 1, 4294967295, ⟨#[0, 0, 0, 1]⟩⟩] := r5; have o5 : (Value.ownBlock (.slice wb 2 wd) = _ \/ _) := o5; have I1 := H_ (K1.out.appW k5 r5 o5); have y4 := (k5.block sb (Array.getElem?_eq_some_iff.1 K1.out.sbk).1 (fun he => (K1.out.nw sb he).1 rfl)).trans K1.out.sbk; have u2 := cellOf y4 1 _ rfl; have f2 := fun o => fzOf y4 o
        clear r5 k5 o5 y4))
      go_roundg (3 - (1 + 1))
      case measure => omega
      case rel => exact ⟨2, by omega, rfl, by go_num, _, _, I1.out⟩
    . obtain ⟨ov, wv, hI⟩ := hK.out; obtain ⟨oa, oc, rfl⟩ := hI.orow.form; obtain ⟨wa, wc, rfl⟩ := hI.wrow.form; have HI : Hid (CliI w wr sb ib rb mb (.slice oa 1 oc) (.slice wa 2 wc) [⟨3, ⟨#[0, 0, 0, 0]⟩⟩] [⟨3, 4, 1, 4294967295, ⟨#[0, 0, 0, 1]⟩⟩, ⟨129, 4, 1, 4294967295, ⟨#[0, 0, 0, 1]⟩⟩] cf tm fl wt) := H_ hI; clear hI hK; have s1 := cellOf HI.out.sbk 1 _ rfl; have i0 := cellOf HI.out.ibk 2 _ rfl; go_wp2_with fail; refine wp_region_H (rgH 1 5) (fun X : World => X.cell? ⟨sb, 1, none⟩ = some (.slice wa 2 wc)) (by kernel_rfl) ?_; have HSv : (fun X : World => X.cell? ⟨sb, 1, none⟩ = some (.slice wa 2 wc)) wr.drew := s1; refine hatP 0 rfl (by intro W _; go_simp; try rfl) ?_; simp only [aZ, aC, aD]; refine hatH 1 rfl (by rintro W h0; go_simp; try rfl) HSv ?_; simp only [aZ, aC, aD]; refine hone 2 rfl fun K hK => ?_
      try go_simp
      refine hK _ _ (fun _ => HSv) ?_
      try simp only [aZ, aA, aE, aB, aC, aD]
      clear HSv s1 i0; refine hone 3 rfl fun K hK => ?_
      try go_simp
      go_at_call 94; refine (span_any 131 1 ⟨#[0, 0, 0, 1]⟩ _).mono ?_; rintro e U ⟨rfl, hb⟩; have J := H_ ((HI.out.go (Below.refl _ _).drew).go hb); have HSv : (fun X : World => X.cell? ⟨sb, 1, none⟩ = some (.slice wa 2 wc)) U := cellOf J.out.sbk 1 _ rfl; clear hb; refine hK _ _ (fun _ => HSv) ?_
      try simp only [aZ, aA, aE, aB, aC, aD]
      refine hone 4 rfl fun K hK => ?_
      try go_simp
      have K1 := H_ (J.out.go ((Below.refl _ _).alloc (Nat.le_refl _) (.cells #[.int .i64 131, .int .i64 4, .int .i64 1, .int .i64 4294967295, .string ⟨#[0, 0, 0, 1]⟩] 136 (0, 0)))); have HN := H_ (at1 U (.cells #[.int .i64 131, .int .i64 4, .int .i64 1, .int .i64 4294967295, .string ⟨#[0, 0, 0, 1]⟩] 136 (0, 0))); have HSv : (fun X : World => X.cell? ⟨sb, 1, none⟩ = some (.slice wa 2 wc)) (U.alloc (.cells #[.int .i64 131, .int .i64 4, .int .i64 1, .int .i64 4294967295, .string ⟨#[0, 0, 0, 1]⟩] 136 (0, 0))) := cellOf K1.out.sbk 1 _ rfl; refine hK _ _ (fun _ => HSv) ?_
      try simp only [aZ, aA, aE, aB, aC, aD]
      clear HSv; refine hend 5 ?_; simp only [aF, aG]
      go_wp2_with (first
       | (
        at_builtin; refine wpl_append_rules rfl _ _ rfl _ [⟨3, 4, 1, 4294967295, ⟨#[0, 0, 0, 1]⟩⟩, ⟨129, 4, 1, 4294967295, ⟨#[0, 0, 0, 1]⟩⟩] rfl K1.out.wrow _ [⟨131, 4, 1, 4294967295, ⟨#[0, 0, 0, 1]⟩⟩] rfl ((RRow.one ⟨131, 4, 1, 4294967295, ⟨#[0, 0, 0, 1]⟩⟩ HN.out (Nat.le_refl _)).rls (show 1 <= maxLen by decide)) (by intro n c h; cases h) (by simp) K1.out.sz ?_
        intro wv2 T r5 k5 o5; obtain ⟨wb, wd, rfl⟩ := r5.form; have r5 : RRow T _ (.slice wb 3 wd) [⟨3, 4, 1, 4294967295, ⟨#[0, 0, 0, 1]⟩⟩, ⟨129, 4, 1, 4294967295, ⟨#[0, 0, 0, 1]⟩⟩, ⟨131, 4, 1, 4294967295, ⟨#[0, 0, 0, 1]⟩⟩] := r5; have o5 : (Value.ownBlock (.slice wb 3 wd) = _ \/ _) := o5; have I1 := H_ (K1.out.appW k5 r5 o5); have y4 := (k5.block sb (Array.getElem?_eq_some_iff.1 K1.out.sbk).1 (fun he => (K1.out.nw sb he).1 rfl)).trans K1.out.sbk; have u2 := cellOf y4 1 _ rfl; have f2 := fun o => fzOf y4 o
        clear r5 k5 o5 y4))
      go_roundg (3 - (2 + 1))
      case measure => omega
      case rel => exact ⟨3, by omega, rfl, by go_num, _, _, I1.out⟩
    . obtain ⟨ov, wv, hI⟩ := hK.out; obtain ⟨oa, oc, rfl⟩ := hI.orow.form; obtain ⟨wa, wc, rfl⟩ := hI.wrow.form; have hI : CliI w wr sb ib rb mb (.slice oa 1 oc) (.slice wa 3 wc) [⟨3, ⟨#[0, 0, 0, 0]⟩⟩] [⟨3, 4, 1, 4294967295, ⟨#[0, 0, 0, 1]⟩⟩, ⟨129, 4, 1, 4294967295, ⟨#[0, 0, 0, 1]⟩⟩, ⟨131, 4, 1, 4294967295, ⟨#[0, 0, 0, 1]⟩⟩] cf tm fl wt := hI; have s0 := cellOf hI.sbk 0 _ rfl; have s1 := cellOf hI.sbk 1 _ rfl; have s2 := cellOf hI.sbk 2 _ rfl; have s3 := cellOf hI.sbk 3 _ rfl; have s4 := cellOf hI.sbk 4 _ rfl; have s5 := cellOf hI.sbk 5 _ rfl; have s6 := cellOf hI.sbk 6 _ rfl; have s7 := cellOf hI.sbk 7 _ rfl; have hO : Rls wr (fun b => w.heap.size <= b) _ [⟨3, 4, 1, 4294967295, ⟨#[0, 0, 0, 1]⟩⟩, ⟨129, 4, 1, 4294967295, ⟨#[0, 0, 0, 1]⟩⟩, ⟨131, 4, 1, 4294967295, ⟨#[0, 0, 0, 1]⟩⟩] := Rec.mono (hI.wrow.rls (by unfold maxLen; simp)) (fun b hb => hb); have hP : Rls wr (fun b => w.heap.size <= b) _ [⟨3, 4, 0, 4294967295, ⟨#[0, 0, 0, 0]⟩⟩] := Rec.mono ((RRow.one ⟨3, 4, 0, 4294967295, ⟨#[0, 0, 0, 0]⟩⟩ hI.rbk hI.hs.2.2.1).rls (show 1 <= maxLen by decide)) (fun b hb => hb); have hM : Nums wr (fun b => w.heap.size <= b) _ [3] := Rec.mono ((NRow.one 3 hI.mbk hI.hs.2.2.2).nums (show 1 <= maxLen by decide)) (fun b hb => hb); have hN := new_at [⟨3, ⟨#[0, 0, 0, 0]⟩⟩] [⟨3, 4, 1, 4294967295, ⟨#[0, 0, 0, 1]⟩⟩, ⟨129, 4, 1, 4294967295, ⟨#[0, 0, 0, 1]⟩⟩, ⟨131, 4, 1, 4294967295, ⟨#[0, 0, 0, 1]⟩⟩] [⟨3, 4, 0, 4294967295, ⟨#[0, 0, 0, 0]⟩⟩] [3] _ _ _ _ (fun b => w.heap.size <= b) cf tm fl wt _ (hI.orow.opts (by unfold maxLen; simp)) hO hP hM (fun n c h => by have hR := hI.wrow; rw [h] at hR; exact hR.nil0) (fun n c h => by cases h) (by simp) (by simp) (by simp) (inB20_true.2 HA.out.1) (inB20_true.2 HA.out.2.1) HA.out.2.2.1.1 HA.out.2.2.1.2 HA.out.2.2.2.1 HA.out.2.2.2.2 (by decide) (by kernel_rfl) (by kernel_rfl) (by decide) (by kernel_rfl); have HN := H_ hN; have HBL := H_ hI.bl; clear hN hI hO hP hM hK; go_wp2_with fail; refine HN.out.mono ?_; rintro e w9 ⟨v, rfl, B, jb, rfl, h1, h2, h3, h4, h5⟩; have H9 := H_ (A_ h1 (A_ h2 (A_ h3 (A_ h4 h5)))); clear h1 h2 h3 h4 h5; go_wp2_with fail; go_ret2; have hsz := HBL.out.size; exact ⟨_, rfl, B, jb, rfl, H9.out.1.mono (fun b hb => Nat.le_trans hsz hb), H9.out.2.1, Nat.le_trans hsz H9.out.2.2.1, H9.out.2.2.2.1, HBL.out.trans (H9.out.2.2.2.2.mono hsz)⟩
 . go_loopg [27] 3 (fun x i wr => ∃ k : Nat, k <= 3 /\ x = 3 - k /\ i = .int .i64 k /\ Hid (∃ ov wv, CliI w wr sb ib rb mb ov wv (cliA true k) (cliO k) cf tm fl wt))
   case atStart => exact ⟨0, by omega, by omega, rfl, _, _, HI0.out⟩
   case round =>
    obtain ⟨k, hk, rfl, rfl, hK⟩ := hrel
    rcases (show k = 0 \/ k = 1 \/ k = 2 \/ k = 3 by omega) with rfl | rfl | rfl | rfl
    . obtain ⟨ov, wv, hI⟩ := hK.out; obtain ⟨oa, oc, rfl⟩ := hI.orow.form; obtain ⟨wa, wc, rfl⟩ := hI.wrow.form; have HI : Hid (CliI w wr sb ib rb mb (.slice oa 1 oc) (.slice wa 0 wc) [⟨3, ⟨#[0, 0, 0, 0]⟩⟩] [] cf tm fl wt) := H_ hI; clear hI hK; have s1 := cellOf HI.out.sbk 1 _ rfl; have i0 := cellOf HI.out.ibk 0 _ rfl; go_wp2_with fail; refine wp_region_H (rgH 1 5) (fun X : World => X.cell? ⟨sb, 1, none⟩ = some (.slice wa 0 wc)) (by kernel_rfl) ?_; have HSv : (fun X : World => X.cell? ⟨sb, 1, none⟩ = some (.slice wa 0 wc)) wr.drew := s1; refine hatP 0 rfl (by intro W _; go_simp; try rfl) ?_; simp only [aZ, aC, aD]; refine hatH 1 rfl (by rintro W h0; go_simp; try rfl) HSv ?_; simp only [aZ, aC, aD]; refine hone 2 rfl fun K hK => ?_
      try go_simp
      refine hK _ _ (fun _ => HSv) ?_
      try simp only [aZ, aA, aE, aB, aC, aD]
      clear HSv s1 i0; refine hone 3 rfl fun K hK => ?_
      try go_simp
      go_at_call 94; refine (span_any 3 1 ⟨#[0, 0, 0, 1]⟩ _).mono ?_; rintro e U ⟨rfl, hb⟩; have J := H_ ((HI.out.go (Below.refl _ _).drew).go hb); have HSv : (fun X : World => X.cell? ⟨sb, 1, none⟩ = some (.slice wa 0 wc)) U := cellOf J.out.sbk 1 _ rfl; clear hb; refine hK _ _ (fun _ => HSv) ?_
      try simp only [aZ, aA, aE, aB, aC, aD]
      refine hone 4 rfl fun K hK => ?_
      try go_simp
      have K1 := H_ (J.out.go ((Below.refl _ _).alloc (Nat.le_refl _) (.cells #[.int .i64 3, .int .i64 4, .int .i64 1, .int .i64 4294967295, .string ⟨#[0, 0, 0, 1]⟩] 136 (0, 0)))); have HN := H_ (at1 U (.cells #[.int .i64 3, .int .i64 4, .int .i64 1, .int .i64 4294967295, .string ⟨#[0, 0, 0, 1]⟩] 136 (0, 0))); have HSv : (fun X : World => X.cell? ⟨sb, 1, none⟩ = some (.slice wa 0 wc)) (U.alloc (.cells #[.int .i64 3, .int .i64 4, .int .i64 1, .int .i64 4294967295, .string ⟨#[0, 0, 0, 1]⟩] 136 (0, 0))) := cellOf K1.out.sbk 1 _ rfl; refine hK _ _ (fun _ => HSv) ?_
      try simp only [aZ, aA, aE, aB, aC, aD]
      clear HSv; refine hend 5 ?_; simp only [aF, aG]
      go_wp2_with (first
       | (
        at_builtin; refine wpl_append_rules rfl _ _ rfl _ [] rfl K1.out.wrow _ [⟨3, 4, 1, 4294967295, ⟨#[0, 0, 0, 1]⟩⟩] rfl ((RRow.one ⟨3, 4, 1, 4294967295, ⟨#[0, 0, 0, 1]⟩⟩ HN.out (Nat.le_refl _)).rls (show 1 <= maxLen by decide)) (by intro n c h; cases h) (by simp) K1.out.sz ?_
        intro wv2 T r5 k5 o5; obtain ⟨wb, wd, rfl⟩ := r5.form; have r5 : RRow T _ (.slice wb 1 wd) [⟨3, 4, 1, 4294967295, ⟨#[0, 0, 0, 1]⟩⟩] := r5; have o5 : (Value.ownBlock (.slice wb 1 wd) = _ \/ _) := o5; have I1 := H_ (K1.out.appW k5 r5 o5); have y4 := (k5.block sb (Array.getElem?_eq_some_iff.1 K1.out.sbk).1 (fun he => (K1.out.nw sb he).1 rfl)).trans K1.out.sbk; have u2 := cellOf y4 1 _ rfl; have f2 := fun o => fzOf y4 o
        clear r5 k5 o5 y4))
      go_roundg (3 - (0 + 1))
      case measure => omega
      case rel => exact ⟨1, by omega, rfl, by go_num, _, _, I1.out⟩
    . obtain ⟨ov, wv, hI⟩ := hK.out; obtain ⟨oa, oc, rfl⟩ := hI.orow.form; obtain ⟨wa, wc, rfl⟩ := hI.wrow.form; have HI : Hid (CliI w wr sb ib rb mb (.slice oa 1 oc) (.slice wa 1 wc) [⟨3, ⟨#[0, 0, 0, 0]⟩⟩] [⟨3, 4, 1, 4294967295, ⟨#[0, 0, 0, 1]⟩⟩] cf tm fl wt) := H_ hI; clear hI hK; have s1 := cellOf HI.out.sbk 1 _ rfl; have i0 := cellOf HI.out.ibk 1 _ rfl; go_wp2_with fail; refine wp_region_H (rgH 1 5) (fun X : World => X.cell? ⟨sb, 1, none⟩ = some (.slice wa 1 wc)) (by kernel_rfl) ?_; have HSv : (fun X : World => X.cell? ⟨sb, 1, none⟩ = some (.slice wa 1 wc)) wr.drew := s1; refine hatP 0 rfl (by intro W _; go_simp; try rfl) ?_; simp only [aZ, aC, aD]; refine hatH 1 rfl (by rintro W h0; go_simp; try rfl) HSv ?_; simp only [aZ, aC, aD]; refine hone 2 rfl fun K hK => ?_
      try go_simp
      refine hK _ _ (fun _ => HSv) ?_
      try simp only [aZ, aA, aE, aB, aC, aD]
      clear HSv s1 i0; refine hone 3 rfl fun K hK => ?_
      try go_simp
      go_at_call 94; refine (span_any 129 1 ⟨#[0, 0, 0, 1]⟩ _).mono ?_; rintro e U ⟨rfl, hb⟩; have J := H_ ((HI.out.go (Below.refl _ _).drew).go hb); have HSv : (fun X : World => X.cell? ⟨sb, 1, none⟩ = some (.slice wa 1 wc)) U := cellOf J.out.sbk 1 _ rfl; clear hb; refine hK _ _ (fun _ => HSv) ?_
      try simp only [aZ, aA, aE, aB, aC, aD]
      refine hone 4 rfl fun K hK => ?_
      try go_simp
      have K1 := H_ (J.out.go ((Below.refl _ _).alloc (Nat.le_refl _) (.cells #[.int .i64 129, .int .i64 4, .int .i64 1, .int .i64 4294967295, .string ⟨#[0, 0, 0, 1]⟩] 136 (0, 0)))); have HN := H_ (at1 U (.cells #[.int .i64 129, .int .i64 4, .int .i64 1, .int .i64 4294967295, .string ⟨#[0, 0, 0, 1]⟩] 136 (0, 0))); have HSv : (fun X : World => X.cell? ⟨sb, 1, none⟩ = some (.slice wa 1 wc)) (U.alloc (.cells #[.int .i64 129, .int .i64 4, .int .i64 1, .int .i64 4294967295, .string ⟨#[0, 0, 0, 1]⟩] 136 (0, 0))) := cellOf K1.out.sbk 1 _ rfl; refine hK _ _ (fun _ => HSv) ?_
      try simp only [aZ, aA, aE, aB, aC, aD]
      clear HSv; refine hend 5 ?_; simp only [aF, aG]
      go_wp2_with (first
       | (
        at_builtin; refine wpl_append_rules rfl _ _ rfl _ [⟨3, 4, 1, 4294967295, ⟨#[0, 0, 0, 1]⟩⟩] rfl K1.out.wrow _ [⟨129, 4, 1, 4294967295, ⟨#[0, 0, 0, 1]⟩⟩] rfl ((RRow.one ⟨129, 4, 1, 4294967295, ⟨#[0, 0, 0, 1]⟩⟩ HN.out (Nat.le_refl _)).rls (show 1 <= maxLen by decide)) (by intro n c h; cases h) (by simp) K1.out.sz ?_
        intro wv2 T r5 k5 o5; obtain ⟨wb, wd, rfl⟩ := r5.form; have r5 : RRow T _ (.slice wb 2 wd) [⟨3, 4, 1, 4294967295, ⟨#[0, 0, 0, 1]⟩⟩, ⟨129, 4, 1, 4294967295, ⟨#[0, 0, 0, 1]⟩⟩] := r5; have o5 : (Value.ownBlock (.slice wb 2 wd) = _ \/ _) := o5; have I1 := H_ (K1.out.appW k5 r5 o5); have y4 := (k5.block sb (Array.getElem?_eq_some_iff.1 K1.out.sbk).1 (fun he => (K1.out.nw sb he).1 rfl)).trans K1.out.sbk; have u2 := cellOf y4 1 _ rfl; have f2 := fun o => fzOf y4 o; have s0 := cellOf I1.out.sbk 0 _ rfl; have K2 := H_ (I1.out.go ((Below.refl _ _).alloc (Nat.le_refl _) (.cells #[.int .i64 129, .string ⟨#[0, 0, 0, 0]⟩] 132 (0, 0)))); have HN2 := H_ (show ((T.setCell ⟨sb, 1, none⟩ (.slice wb 2 wd)).alloc (.cells #[.int .i64 129, .string ⟨#[0, 0, 0, 0]⟩] 132 (0, 0))).heap[T.heap.size]? = some (.cells #[.int .i64 129, .string ⟨#[0, 0, 0, 0]⟩] 132 (0, 0)) from by rw [<- setCell_size T ⟨sb, 1, none⟩ (.slice wb 2 wd)]; exact at1 _ _)
        clear r5 k5 o5 y4)
       | (
        at_builtin; refine wpl_append_opt rfl _ _ rfl _ [⟨3, ⟨#[0, 0, 0, 0]⟩⟩] rfl K2.out.orow _ 1 129 ⟨#[0, 0, 0, 0]⟩ rfl HN2.out (by simp) K2.out.sz ?_
        intro og od T2 r6 k6 o6; have r6 : ORow T2 _ (.slice (some ⟨og, 0, none⟩) 2 od) [⟨3, ⟨#[0, 0, 0, 0]⟩⟩, ⟨129, ⟨#[0, 0, 0, 0]⟩⟩] := r6; have I2 := H_ (K2.out.appO k6 r6 (o6.elim (fun h => Or.inl h.symm) (fun h => Or.inr (congrArg some h)))); have y5 := (k6.block sb (Array.getElem?_eq_some_iff.1 K2.out.sbk).1 (fun he => (K2.out.no sb he).1 rfl)).trans K2.out.sbk; have u3 := cellOf y5 0 _ rfl; have f3 := fun o => fzOf y5 o
        clear r6 k6 o6 y5))
      go_roundg (3 - (1 + 1))
      case measure => omega
      case rel => exact ⟨2, by omega, rfl, by go_num, _, _, I2.out⟩
    . obtain ⟨ov, wv, hI⟩ := hK.out; obtain ⟨oa, oc, rfl⟩ := hI.orow.form; obtain ⟨wa, wc, rfl⟩ := hI.wrow.form; have HI : Hid (CliI w wr sb ib rb mb (.slice oa 2 oc) (.slice wa 2 wc) [⟨3, ⟨#[0, 0, 0, 0]⟩⟩, ⟨129, ⟨#[0, 0, 0, 0]⟩⟩] [⟨3, 4, 1, 4294967295, ⟨#[0, 0, 0, 1]⟩⟩, ⟨129, 4, 1, 4294967295, ⟨#[0, 0, 0, 1]⟩⟩] cf tm fl wt) := H_ hI; clear hI hK; have s1 := cellOf HI.out.sbk 1 _ rfl; have i0 := cellOf HI.out.ibk 2 _ rfl; go_wp2_with fail; refine wp_region_H (rgH 1 5) (fun X : World => X.cell? ⟨sb, 1, none⟩ = some (.slice wa 2 wc)) (by kernel_rfl) ?_; have HSv : (fun X : World => X.cell? ⟨sb, 1, none⟩ = some (.slice wa 2 wc)) wr.drew := s1; refine hatP 0 rfl (by intro W _; go_simp; try rfl) ?_; simp only [aZ, aC, aD]; refine hatH 1 rfl (by rintro W h0; go_simp; try rfl) HSv ?_; simp only [aZ, aC, aD]; refine hone 2 rfl fun K hK => ?_
      try go_simp
      refine hK _ _ (fun _ => HSv) ?_
      try simp only [aZ, aA, aE, aB, aC, aD]
      clear HSv s1 i0; refine hone 3 rfl fun K hK => ?_
      try go_simp
      go_at_call 94; refine (span_any 131 1 ⟨#[0, 0, 0, 1]⟩ _).mono ?_; rintro e U ⟨rfl, hb⟩; have J := H_ ((HI.out.go (Below.refl _ _).drew).go hb); have HSv : (fun X : World => X.cell? ⟨sb, 1, none⟩ = some (.slice wa 2 wc)) U := cellOf J.out.sbk 1 _ rfl; clear hb; refine hK _ _ (fun _ => HSv) ?_
      try simp only [aZ, aA, aE, aB, aC, aD]
      refine hone 4 rfl fun K hK => ?_
      try go_simp
      have K1 := H_ (J.out.go ((Below.refl _ _).alloc (Nat.le_refl _) (.cells #[.int .i64 131, .int .i64 4, .int .i64 1, .int .i64 4294967295, .string ⟨#[0, 0, 0, 1]⟩] 136 (0, 0)))); have HN := H_ (at1 U (.cells #[.int .i64 131, .int .i64 4, .int .i64 1, .int .i64 4294967295, .string ⟨#[0, 0, 0, 1]⟩] 136 (0, 0))); have HSv : (fun X : World => X.cell? ⟨sb, 1, none⟩ = some (.slice wa 2 wc)) (U.alloc (.cells #[.int .i64 131, .int .i64 4, .int .i64 1, .int .i64 4294967295, .string ⟨#[0, 0, 0, 1]⟩] 136 (0, 0))) := cellOf K1.out.sbk 1 _ rfl; refine hK _ _ (fun _ => HSv) ?_
      try simp only [aZ, aA, aE, aB, aC, aD]
      clear HSv; refine hend 5 ?_; simp only [aF, aG]
      go_wp2_with (first
       | (
        at_builtin; refine wpl_append_rules rfl _ _ rfl _ [⟨3, 4, 1, 4294967295, ⟨#[0, 0, 0, 1]⟩⟩, ⟨129, 4, 1, 4294967295, ⟨#[0, 0, 0, 1]⟩⟩] rfl K1.out.wrow _ [⟨131, 4, 1, 4294967295, ⟨#[0, 0, 0, 1]⟩⟩] rfl ((RRow.one ⟨131, 4, 1, 4294967295, ⟨#[0, 0, 0, 1]⟩⟩ HN.out (Nat.le_refl _)).rls (show 1 <= maxLen by decide)) (by intro n c h; cases h) (by simp) K1.out.sz ?_
        intro wv2 T r5 k5 o5; obtain ⟨wb, wd, rfl⟩ := r5.form; have r5 : RRow T _ (.slice wb 3 wd) [⟨3, 4, 1, 4294967295, ⟨#[0, 0, 0, 1]⟩⟩, ⟨129, 4, 1, 4294967295, ⟨#[0, 0, 0, 1]⟩⟩, ⟨131, 4, 1, 4294967295, ⟨#[0, 0, 0, 1]⟩⟩] := r5; have o5 : (Value.ownBlock (.slice wb 3 wd) = _ \/ _) := o5; have I1 := H_ (K1.out.appW k5 r5 o5); have y4 := (k5.block sb (Array.getElem?_eq_some_iff.1 K1.out.sbk).1 (fun he => (K1.out.nw sb he).1 rfl)).trans K1.out.sbk; have u2 := cellOf y4 1 _ rfl; have f2 := fun o => fzOf y4 o; have s0 := cellOf I1.out.sbk 0 _ rfl; have K2 := H_ (I1.out.go ((Below.refl _ _).alloc (Nat.le_refl _) (.cells #[.int .i64 131, .string ⟨#[0, 0, 0, 0]⟩] 132 (0, 0)))); have HN2 := H_ (show ((T.setCell ⟨sb, 1, none⟩ (.slice wb 3 wd)).alloc (.cells #[.int .i64 131, .string ⟨#[0, 0, 0, 0]⟩] 132 (0, 0))).heap[T.heap.size]? = some (.cells #[.int .i64 131, .string ⟨#[0, 0, 0, 0]⟩] 132 (0, 0)) from by rw [<- setCell_size T ⟨sb, 1, none⟩ (.slice wb 3 wd)]; exact at1 _ _)
        clear r5 k5 o5 y4)
       | (
        at_builtin; refine wpl_append_opt rfl _ _ rfl _ [⟨3, ⟨#[0, 0, 0, 0]⟩⟩, ⟨129, ⟨#[0, 0, 0, 0]⟩⟩] rfl K2.out.orow _ 1 131 ⟨#[0, 0, 0, 0]⟩ rfl HN2.out (by simp) K2.out.sz ?_
        intro og od T2 r6 k6 o6; have r6 : ORow T2 _ (.slice (some ⟨og, 0, none⟩) 3 od) [⟨3, ⟨#[0, 0, 0, 0]⟩⟩, ⟨129, ⟨#[0, 0, 0, 0]⟩⟩, ⟨131, ⟨#[0, 0, 0, 0]⟩⟩] := r6; have I2 := H_ (K2.out.appO k6 r6 (o6.elim (fun h => Or.inl h.symm) (fun h => Or.inr (congrArg some h)))); have y5 := (k6.block sb (Array.getElem?_eq_some_iff.1 K2.out.sbk).1 (fun he => (K2.out.no sb he).1 rfl)).trans K2.out.sbk; have u3 := cellOf y5 0 _ rfl; have f3 := fun o => fzOf y5 o
        clear r6 k6 o6 y5))
      go_roundg (3 - (2 + 1))
      case measure => omega
      case rel => exact ⟨3, by omega, rfl, by go_num, _, _, I2.out⟩
    . obtain ⟨ov, wv, hI⟩ := hK.out; obtain ⟨oa, oc, rfl⟩ := hI.orow.form; obtain ⟨wa, wc, rfl⟩ := hI.wrow.form; have hI : CliI w wr sb ib rb mb (.slice oa 3 oc) (.slice wa 3 wc) [⟨3, ⟨#[0, 0, 0, 0]⟩⟩, ⟨129, ⟨#[0, 0, 0, 0]⟩⟩, ⟨131, ⟨#[0, 0, 0, 0]⟩⟩] [⟨3, 4, 1, 4294967295, ⟨#[0, 0, 0, 1]⟩⟩, ⟨129, 4, 1, 4294967295, ⟨#[0, 0, 0, 1]⟩⟩, ⟨131, 4, 1, 4294967295, ⟨#[0, 0, 0, 1]⟩⟩] cf tm fl wt := hI; have s0 := cellOf hI.sbk 0 _ rfl; have s1 := cellOf hI.sbk 1 _ rfl; have s2 := cellOf hI.sbk 2 _ rfl; have s3 := cellOf hI.sbk 3 _ rfl; have s4 := cellOf hI.sbk 4 _ rfl; have s5 := cellOf hI.sbk 5 _ rfl; have s6 := cellOf hI.sbk 6 _ rfl; have s7 := cellOf hI.sbk 7 _ rfl; have hO : Rls wr (fun b => w.heap.size <= b) _ [⟨3, 4, 1, 4294967295, ⟨#[0, 0, 0, 1]⟩⟩, ⟨129, 4, 1, 4294967295, ⟨#[0, 0, 0, 1]⟩⟩, ⟨131, 4, 1, 4294967295, ⟨#[0, 0, 0, 1]⟩⟩] := Rec.mono (hI.wrow.rls (by unfold maxLen; simp)) (fun b hb => hb); have hP : Rls wr (fun b => w.heap.size <= b) _ [⟨3, 4, 0, 4294967295, ⟨#[0, 0, 0, 0]⟩⟩] := Rec.mono ((RRow.one ⟨3, 4, 0, 4294967295, ⟨#[0, 0, 0, 0]⟩⟩ hI.rbk hI.hs.2.2.1).rls (show 1 <= maxLen by decide)) (fun b hb => hb); have hM : Nums wr (fun b => w.heap.size <= b) _ [3] := Rec.mono ((NRow.one 3 hI.mbk hI.hs.2.2.2).nums (show 1 <= maxLen by decide)) (fun b hb => hb); have hN := new_at [⟨3, ⟨#[0, 0, 0, 0]⟩⟩, ⟨129, ⟨#[0, 0, 0, 0]⟩⟩, ⟨131, ⟨#[0, 0, 0, 0]⟩⟩] [⟨3, 4, 1, 4294967295, ⟨#[0, 0, 0, 1]⟩⟩, ⟨129, 4, 1, 4294967295, ⟨#[0, 0, 0, 1]⟩⟩, ⟨131, 4, 1, 4294967295, ⟨#[0, 0, 0, 1]⟩⟩] [⟨3, 4, 0, 4294967295, ⟨#[0, 0, 0, 0]⟩⟩] [3] _ _ _ _ (fun b => w.heap.size <= b) cf tm fl wt _ (hI.orow.opts (by unfold maxLen; simp)) hO hP hM (fun n c h => by have hR := hI.wrow; rw [h] at hR; exact hR.nil0) (fun n c h => by cases h) (by simp) (by simp) (by simp) (inB20_true.2 HA.out.1) (inB20_true.2 HA.out.2.1) HA.out.2.2.1.1 HA.out.2.2.1.2 HA.out.2.2.2.1 HA.out.2.2.2.2 (by decide) (by kernel_rfl) (by kernel_rfl) (by decide) (by kernel_rfl); have HN := H_ hN; have HBL := H_ hI.bl; clear hN hI hO hP hM hK; go_wp2_with fail; refine HN.out.mono ?_; rintro e w9 ⟨v, rfl, B, jb, rfl, h1, h2, h3, h4, h5⟩; have H9 := H_ (A_ h1 (A_ h2 (A_ h3 (A_ h4 h5)))); clear h1 h2 h3 h4 h5; go_wp2_with fail; go_ret2; have hsz := HBL.out.size; exact ⟨_, rfl, B, jb, rfl, H9.out.1.mono (fun b hb => Nat.le_trans hsz hb), H9.out.2.1, Nat.le_trans hsz H9.out.2.2.1, H9.out.2.2.2.1, HBL.out.trans (H9.out.2.2.2.2.mono hsz)⟩
end Go.Proofs.YtbiaempeegfdkaaGreat
