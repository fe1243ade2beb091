import Derived.Test.YtignponfoheaeaaGreatRAT
import Derived.Test.YtignponfoheaeaaGreatRAR
import Derived.Test.YtignponfoheaeaaGreatRAU
import Derived.ChangeKeysEq
import Derived.Laws.Cover3
import Derived.Laws.IdiomStrings
import Derived.Test.YtignponfoheaeaaGreatRAA
set_option linter.unusedVariables false
set_option linter.unusedSimpArgs false
set_option maxHeartbeats 16000000
namespace Go.Proofs.YtignponfoheaeaaGreat
open Go.RowKit Go.Tg Go.Maps
def eqB (a b : Opt) : Bool := decide (a.t = b.t) && decide (a.v = b.v)
theorem eqB_iff (a b : Opt) : eqB a b = true ↔ a = b := by
 obtain ⟨t, v⟩ := a; obtain ⟨t', v'⟩ := b; simp [eqB]
theorem eqO (a b : Int) (s t : ByteArray) (w : World) : (binOp .eql 91 (.agg #[.int .i64 a, .string s]) (.agg #[.int .i64 b, .string t])).run Tryz.prog w = .ok (.bool (decide (a = b) && decide (s = t))) w := by
 have u3 := Tryz.underlying3; have a3 := Tryz.isAgg3; have z3 := Tryz.sizeOf3; have u9 := Tryz.underlying9; have a9 := Tryz.isAgg9; have z9 := Tryz.sizeOf9; have hS : Tryz.prog.underlying 91 = some (.struct (Tryz.prog.fieldsOf 91)) := by kernel_rfl
 have hp : Tryz.prog.stoodInHeld 91 = false := by kernel_rfl
 rw [run_eql_struct, show (10000 : Nat) = 9999 + 1 from rfl, run_equalIn_agg w 9999 91 _ _ hS hp]; simp only [Program.fieldsOf, Tryz.underlying91]; go_simp
 by_cases h1 : a = b <;> by_cases h2 : s = t <;> simp [h1, h2]
 intro h; rw [ByteArray.toList_eq, ByteArray.toList_eq] at h; exact h2 (ByteArray.ext (Array.ext' h))
theorem Nums.at {w : World} {ok : Nat -> Prop} {sa : Option Addr} {n c : Nat} {l : List Int} (h : Nums w ok (.slice sa n c) l) (i : Nat) (hi : i < l.length) :
 ∃ b off, sa = some ⟨b, off, none⟩ /\ b < w.heap.size /\ w.cell? ⟨b, off + i, none⟩ = some (.int .i64 l[i]) := by
 obtain ⟨b, off, e, hb, -, -, -, -, hc⟩ := Rec.at h i (by rw [intL_len]; exact hi); refine ⟨b, off, e, hb, ?_⟩; have := hc 0 (.int .i64 l[i]) (by simp [intL])
 rwa [Nat.mul_one, Nat.add_zero] at this
set_option maxRecDepth 100000 in
theorem idxN_any (xs : List Int) (v : Value) (ok : Nat -> Prop) (x : Int) (w : World) (h : Nums w ok v xs) (hl : xs.length <= 1000000) :
 Calls Tryz.prog 217 #[v, .int .i64 x] w fun e w' => ∃ r, e = .returned (.int .i64 r) /\ Has xs x r /\ w = w' := by
 obtain ⟨sa, c, rfl, hc, hm⟩ := h.form; have H := H_ h; obtain ⟨len, hln⟩ : ∃ len, len = xs.length := ⟨_, rfl⟩; have HLN := H_ hln; rw [<- hln] at hc hl ⊢; unfold maxLen at hm; clear h hln; go_enter Tryz.func217, Tryz.ntmps217; go_wp2_with fail
 go_loopg [8] len (fun y i wr => ∃ k : Nat, k <= len /\ y = len - k /\ i = .int .i64 k /\ Hid (w = wr /\ ∀ (j : Nat) (h : j < xs.length), j < k -> xs[j] ≠ x))
 case atStart => exact ⟨0, by omega, by omega, rfl, rfl, fun j _ h => by omega⟩
 case round =>
  obtain ⟨k, hk, rfl, rfl, hK⟩ := hrel; obtain ⟨rfl, hno⟩ := hK.out; have HNO := H_ hno; clear hK hno
  by_cases hlt : k < len
  . have hlt' : k < xs.length := by have := HLN.out; omega
    obtain ⟨b, off, rfl, -, hck⟩ := H.out.at k hlt'
    by_cases hx : x = xs[k]
    . have hxb : (x == xs[k]) = true := by simpa using hx
      have HX := H_ hx; clear hx; go_wp2_with fail; go_ret; refine ⟨k, rfl, ?_, rfl⟩; have : hasB xs x = true := by unfold hasB; rw [List.contains_iff_mem, HX.out]; exact List.getElem_mem hlt'
      unfold Has; rw [this]; simp
    . have hxb : (x == xs[k]) = false := by simpa using hx
      have HX := H_ hx; clear hx; go_wp2_with fail
      go_roundg (len - (k + 1))
      case measure => omega
      case rel =>
       refine ⟨k + 1, by omega, rfl, by go_num, rfl, fun j hj hjk => ?_⟩
       rcases Nat.lt_or_ge j k with h | h
       . exact HNO.out j hj h
       . obtain rfl : j = k := by omega
         exact fun e => HX.out e.symm
  . go_wp2_with fail; go_ret; refine ⟨-1, rfl, ?_, rfl⟩
    have : hasB xs x = false := by
     unfold hasB
     cases hc : xs.contains x with
     | false => rfl
     | true =>
      rw [List.contains_iff_mem] at hc; obtain ⟨j, hj, he⟩ := List.getElem_of_mem hc; exact absurd he (HNO.out j hj (by have := HLN.out; omega))
    unfold Has; rw [this]; rfl
theorem hasN_any (xs : List Int) (v : Value) (ok : Nat -> Prop) (x : Int) (w : World) (h : Nums w ok v xs) (hl : xs.length <= 1000000) :
 Calls Tryz.prog 142 #[v, .int .i64 x] w fun e w' => e = .returned (.bool (hasB xs x)) /\ w = w' := by
 have H := H_ (idxN_any xs v ok x w h hl); clear h hl; go_enter Tryz.func142, Tryz.ntmps142; go_wp2_with fail; refine H.out.mono ?_; rintro e w' ⟨r, rfl, hr, rfl⟩
 go_wp2
 go_ret; exact ⟨by rw [<- show decide (0 <= r) = hasB xs x from hr]; rfl, rfl⟩
set_option maxRecDepth 100000 in
theorem idxE_any (l : List Opt) (lv : Value) (ok : Nat -> Prop) (o : Opt) (w : World) (hl : Opts w ok lv l) (hmax : l.length <= 1000000) :
 Calls Tryz.prog 265 #[lv, .agg #[.int .i64 o.t, .string o.v]] w fun e w' => e = .returned (.int .i64 (idxP (eqB o) l)) /\ Below w.heap.size w w' := by
 obtain ⟨sa, c, rfl, hc, hm⟩ := hl.form; have HL := H_ hl; obtain ⟨len, hln⟩ : ∃ len, len = l.length := ⟨_, rfl⟩; have HLN := H_ hln; rw [<- hln] at hc hmax ⊢; unfold maxLen at hm; have HX := H_ (at1 w (.cells #[.int .i64 o.t, .string o.v] 91 (0, 0))); have HB0 := H_ (show Below w.heap.size w (w.alloc (.cells #[.int .i64 o.t, .string o.v] 91 (0, 0))) from (Below.refl _ _).alloc (Nat.le_refl _) _); have HS0 := H_ (alloc1 w (.cells #[.int .i64 o.t, .string o.v] 91 (0, 0))); have HP := H_ (fun k (hk : k < l.length) => idxP_hit (eqB o) l k hk); have HM := H_ (idxP_miss (eqB o) l); have HE := H_ (fun a b => eqO o.t a o.v b); have HQ := H_ (show ∀ x : Opt, eqB o x = (decide (o.t = x.t) && decide (o.v = x.v)) from fun _ => rfl); generalize eqB o = p at *; generalize o.t = t at *; generalize o.v = v at *; clear hl hln; go_enter Tryz.func265, Tryz.ntmps265; go_wp2_with fail
 go_loopg [8] len (fun x i wr => ∃ k : Nat, k <= len /\ x = len - k /\ i = .int .i64 k /\ Hid (Below w.heap.size w wr /\ wr.heap[w.heap.size]? = some (.cells #[.int .i64 t, .string v] 91 (0, 0)) /\ ∀ j (hj : j < l.length), j < k -> p l[j] = false))
 case atStart => exact ⟨0, by omega, by omega, rfl, HB0.out, HX.out, fun j _ h => absurd h (Nat.not_lt_zero _)⟩
 case round =>
  obtain ⟨k, hk, rfl, rfl, hK⟩ := hrel; have HK := H_ hK.out; clear hK
  by_cases hkl : k < len
  . have hkl' : k < l.length := by have := HLN.out; omega
    obtain ⟨b, off, rfl, hb, -, -, -, -, c0, c1⟩ := HL.out.at k hkl'; have d0 : wr.cell? ⟨b, off + k * 2, none⟩ = _ := (HK.out.1.cell (p := ⟨b, off + k * 2, none⟩) hb).trans c0; have d1 : wr.cell? ⟨b, off + k * 2 + 1, none⟩ = _ := (HK.out.1.cell (p := ⟨b, off + k * 2 + 1, none⟩) hb).trans c1; have d2 : wr.cell? ⟨w.heap.size, 0, none⟩ = some (.int .i64 t) := cellOf HK.out.2.1 0 _ rfl; have d3 : wr.cell? ⟨w.heap.size, 1, none⟩ = some (.string v) := cellOf HK.out.2.1 1 _ rfl; have HH := H_ (HP.out k hkl')
    have HY : Hid (∀ (y : Bool), p l[k] = y -> y = false -> ∀ j (hj : j < l.length), j < k + 1 -> p l[j] = false) := H_ (by
     intro y hy hf j hj hlt
     rcases Nat.lt_or_ge j k with h | h
     . exact HK.out.2.2 j hj h
     . obtain rfl : j = k := by omega
       rw [hy, hf])
    have hq := HQ.out l[k]; clear c0 c1; generalize p l[k] = y at hq HH HY; generalize l[k] = o at *; obtain ⟨t', v'⟩ := o; simp only at d0 d1 hq
    have hn : ∀ w, (binOp .eql 91 (.agg #[.int .i64 t, .string v]) (.agg #[.int .i64 t', .string v'])).run Tryz.prog w = .ok (.bool y) w := fun w => by rw [eqO, hq]
    clear hq
    cases y with
    | true =>
     go_wp2_with fail
     go_quiet (fail)
     go_wp2_with fail; go_ret; exact ⟨by rw [HH.out (by first | exact trivial | rfl) HK.out.2.2]; rfl, belowN HK.out.1 _⟩
    | false =>
     go_wp2_with fail
     go_quiet (fail)
     go_wp2_with fail
     go_roundg (len - (k + 1))
     case measure => omega
     case rel => exact ⟨k + 1, by omega, rfl, by go_num, ⟨HK.out.1.os, HK.out.1.tape, HK.out.1.output, HK.out.1.size, HK.out.1.block⟩, HK.out.2.1, HY.out false rfl rfl⟩
  . go_wp2_with fail; go_ret; exact ⟨by rw [HM.out (fun j hj => HK.out.2.2 j hj (by have := HLN.out; omega))]; rfl, HK.out.1⟩
theorem conO_any (l : List Opt) (lv : Value) (ok : Nat -> Prop) (o : Opt) (w : World) (hl : Opts w ok lv l) (hmax : l.length <= 1000000) :
 Calls Tryz.prog 255 #[lv, .agg #[.int .i64 o.t, .string o.v]] w fun e w' => e = .returned (.bool (l.any (eqB o))) /\ Below w.heap.size w w' := by
 have HB0 := H_ (show Below w.heap.size w (w.alloc (.cells #[.int .i64 o.t, .string o.v] 91 (0, 0))) from (Below.refl _ _).alloc (Nat.le_refl _) _); have HI := H_ (idxE_any l lv ok o (w.alloc (.cells #[.int .i64 o.t, .string o.v] 91 (0, 0))) (hl.below HB0.out) hmax); obtain ⟨sa, c, rfl, hc, hm⟩ := hl.form; have HA := H_ (any_idx (eqB o) l); generalize idxP (eqB o) l = i at HI HA; generalize l.any (eqB o) = y at HA ⊢; obtain ⟨t, v⟩ := o; simp only at HI HB0 ⊢
 clear hl; go_enter Tryz.func255, Tryz.ntmps255; go_wp2_with fail; refine HI.out.mono ?_; rintro e w' ⟨rfl, hb⟩; go_wp2_with fail; go_ret; exact ⟨by rw [<- HA.out]; rfl, HB0.out.trans (hb.mono HB0.out.size)⟩
structure Ad where
 a : UInt8
 b : UInt8
 c : UInt8
 d : UInt8
def Ad.v (x : Ad) : Value := .agg #[.int .u8 (x.a.toNat : Int), .int .u8 (x.b.toNat : Int), .int .u8 (x.c.toNat : Int), .int .u8 (x.d.toNat : Int)]
def Ad.cs (x : Ad) : Array Value := #[.int .u8 (x.a.toNat : Int), .int .u8 (x.b.toNat : Int), .int .u8 (x.c.toNat : Int), .int .u8 (x.d.toNat : Int)]
def Ad.s (x : Ad) : ByteArray := ⟨#[x.a, x.b, x.c, x.d]⟩
def Ad.z : Ad := ⟨0, 0, 0, 0⟩
def adE (x y : Ad) : Bool := decide (x.a = y.a) && (decide (x.b = y.b) && (decide (x.c = y.c) && decide (x.d = y.d)))
theorem ad_u8 (x y : UInt8) : ((x.toNat : Int) == (y.toNat : Int)) = decide (x = y) := by
 by_cases h : x = y
 . subst h; simp
 . have : ¬ (x.toNat : Int) = (y.toNat : Int) := fun e => h (UInt8.toNat_inj.1 (by omega)); simp [h, this]
theorem adEqual (x y : Ad) (w : World) : (Op.equalIn 10000 111 x.v y.v).run Tryz.prog w = .ok (adE x y) w := by
 have u5 := Tryz.underlying5; obtain ⟨i, hi, -, h1, -⟩ := u8_info; have hc : Tryz.prog.cellsOf 5 = 1 := by simp [Program.cellsOf, hi, h1]
 have hu : Tryz.prog.underlying 111 = some (.array 4 5) := Tryz.underlying111; unfold Ad.v; rw [show (10000 : Nat) = 9999 + 1 from rfl, run_equalIn_array w 9999 _ _ hu hi, hc]; have hpk : Tryz.prog.plainKey 5 = true := by simp [Program.plainKey, u5]
 have p0 := fun (a b c d : Value) (w : World) => run_part_plain (P := Tryz.prog) (w := w) hpk (show (#[a, b, c, d])[0]? = some a from rfl); have p1 := fun (a b c d : Value) (w : World) => run_part_plain (P := Tryz.prog) (w := w) hpk (show (#[a, b, c, d])[1]? = some b from rfl); have p2 := fun (a b c d : Value) (w : World) => run_part_plain (P := Tryz.prog) (w := w) hpk (show (#[a, b, c, d])[2]? = some c from rfl); have p3 := fun (a b c d : Value) (w : World) => run_part_plain (P := Tryz.prog) (w := w) hpk (show (#[a, b, c, d])[3]? = some d from rfl)
 have eqi : ∀ (a b : UInt8) (w : World), (Op.equalIn 9999 5 (.int .u8 (a.toNat : Int)) (.int .u8 (b.toNat : Int))).run Tryz.prog w = .ok (decide (a = b)) w := fun a b w => by
  rw [<- ad_u8]; exact run_equalIn_int (P := Tryz.prog) w 9998 5 .u8 .u8 (a.toNat : Int) (b.toNat : Int) u5
 simp only [show List.range 4 = [0, 1, 2, 3] from rfl, Op.eqItems, Sem.run_bind, Nat.mul_one, p0, p1, p2, p3, Result.andThen_ok, eqi]; unfold adE
 by_cases e0 : x.a = y.a <;> by_cases e1 : x.b = y.b <;> by_cases e2 : x.c = y.c <;> by_cases e3 : x.d = y.d <;> simp [e0, e1, e2, e3, p0, p1, p2, p3, eqi]
theorem adEql (x y : Ad) (w : World) : (binOp .eql 111 x.v y.v).run Tryz.prog w = .ok (.bool (adE x y)) w := by
 have h := adEqual x y w; unfold Ad.v at h ⊢; rw [run_eql_struct, h]; rfl
theorem adNeq (x y : Ad) (w : World) : (binOp .neq 111 x.v y.v).run Tryz.prog w = .ok (.bool (!adE x y)) w := by
 have h := adEqual x y w; unfold Ad.v at h ⊢; rw [run_neq_struct, h]; rfl
theorem span_any (k m : Int) (s : ByteArray) (w : World) : Calls Tryz.prog 180 #[.int .i64 k, .int .i64 m, .string s] w fun e w' => e = .returned (.agg #[.int .i64 k, .int .i64 4, .int .i64 m, .int .i64 4294967295, .string s]) /\ Below w.heap.size w w' := by
 go_enter Tryz.func180, Tryz.ntmps180; go_wp2_with fail; refine bodyPost_ret (results_cell_row rfl _ _ w.heap.size 64 _ (0, 0) _ rfl (at1 w _) Tryz.underlying64 rfl (by kernel_rfl)) rfl ?_; exact ⟨rfl, (Below.refl _ _).alloc (Nat.le_refl _) _⟩
def justR (k : Int) (x : Ad) : Rl := ⟨k, 4, valB [x.a, x.b, x.c, x.d], valB [x.a, x.b, x.c, x.d], x.s⟩
def spanR (k m : Int) (s : ByteArray) : Rl := ⟨k, 4, m, 4294967295, s⟩
theorem conv_ad (x : Ad) (b : Nat) (w : World) (h : w.heap[b]? = some (.cells x.cs 111 (0, 0))) : (convert 200 9 (.slice (some ⟨b, 0, none⟩) 4 4)).run Tryz.prog w = .ok (.string x.s) w := by
 have := run_convert_bytes_back (P := Tryz.prog) w 200 9 5 ⟨b, 0, none⟩ 4 [x.a, x.b, x.c, x.d] Tryz.underlying200 Tryz.underlying5 Tryz.underlying9 (fun j hj => by
  have e : (⟨b, 0, none⟩ : Addr).add j = ⟨b, j, none⟩ := by unfold Addr.add; split <;> simp_all
  rw [e]; have hj' : j < 4 := hj; refine cellOf h j _ ?_; unfold Ad.cs
  rcases (show j = 0 \/ j = 1 \/ j = 2 \/ j = 3 by omega) with rfl | rfl | rfl | rfl <;> rfl)
 exact this
set_option maxRecDepth 100000 in
theorem just_any (k : Int) (x : Ad) (w : World) : Calls Tryz.prog 177 #[.int .i64 k, x.v] w fun e w' => e = .returned (.agg #[.int .i64 k, .int .i64 4, .int .i64 (valB [x.a, x.b, x.c, x.d]), .int .i64 (valB [x.a, x.b, x.c, x.d]), .string x.s]) /\ Below w.heap.size w w' := by
 obtain ⟨W, hW, hs, x0, x1⟩ : ∃ W, W = (w.alloc (.cells x.cs 111 (0, 0))).alloc (.cells #[.int .i64 0, .int .i64 0, .int .i64 0, .int .i64 0, .string ⟨#[]⟩] 64 (0, 0)) /\ W.heap.size = w.heap.size + 1 + 1 /\ W.heap[w.heap.size]? = some (.cells x.cs 111 (0, 0)) /\ W.heap[w.heap.size + 1]? = some (.cells #[.int .i64 0, .int .i64 0, .int .i64 0, .int .i64 0, .string ⟨#[]⟩] 64 (0, 0)) :=
  ⟨_, rfl, by rw [alloc1, alloc1], by rw [Below.heap_alloc _ _ _ (by rw [alloc1]; omega)]; exact at1 _ _, by rw [<- alloc1 w (.cells x.cs 111 (0, 0))]; exact at1 _ _⟩
 have hcv := conv_ad x w.heap.size W x0; have HV := H_ (value_any x.s W (show 4 <= 7 by decide)); have HB : Hid (Below w.heap.size w W) := H_ (by rw [hW]; exact ((Below.refl _ _).alloc (Nat.le_refl _) _).alloc (by rw [alloc1]; omega) _); have HX := H_ x1; have z1 := fun o => fzOf x1 o; have y0 : W.cell? ⟨w.heap.size + 1, 0, none⟩ = some (.int .i64 0) := cellOf x1 0 _ rfl; have y1 : W.cell? ⟨w.heap.size + 1, 1, none⟩ = some (.int .i64 0) := cellOf x1 1 _ rfl; have y2 : W.cell? ⟨w.heap.size + 1, 2, none⟩ = some (.int .i64 0) := cellOf x1 2 _ rfl; have y3 : W.cell? ⟨w.heap.size + 1, 3, none⟩ = some (.int .i64 0) := cellOf x1 3 _ rfl; have y4 : W.cell? ⟨w.heap.size + 1, 4, none⟩ = some (.string ⟨#[]⟩) := cellOf x1 4 _ rfl; unfold Ad.cs at hW; unfold Ad.v; rw [show valB [x.a, x.b, x.c, x.d] = valB x.s.data.toList from rfl]; generalize x.s = s at *; generalize valB s.data.toList = n at *; clear x0 x1 hs; go_enter Tryz.func177, Tryz.ntmps177; rw [hW] at hcv
 go_wp2_with (rw [<- hW]; refine HV.out.mono ?_; rintro e w1 ⟨rfl, rfl⟩)
 refine bodyPost_ret (results_cell_row rfl _ _ (w.heap.size + 1) 64 _ (0, 0) _ rfl (at21 w _ _) Tryz.underlying64 rfl (by kernel_rfl)) rfl ?_; exact ⟨rfl, ((Below.refl _ _).alloc (Nat.le_refl _) _).alloc (by rw [alloc1]; omega) _⟩
def adOf (s : ByteArray) : Ad := ⟨s.data.getD 0 0, s.data.getD 1 0, s.data.getD 2 0, s.data.getD 3 0⟩
def adrS (l : List Opt) (k : Int) : Ad × Bool := match findO l k with
 | none => (Ad.z, false)
 | some o => if o.v.size = 4 then (adOf o.v, true) else (Ad.z, false)
def goodS (a b : Ad) : Bool := adE a b && !adE a Ad.z
theorem adz : (Value.agg #[.int .u8 0, .int .u8 0, .int .u8 0, .int .u8 0]) = Ad.z.v := rfl
set_option maxRecDepth 100000 in
theorem good_any (a b : Ad) (w : World) : Calls Tryz.prog 176 #[a.v, b.v] w fun e w' => e = .returned (.bool (goodS a b)) /\ Below w.heap.size w w' := by
 have h1 := adEql a b; have h2 := adNeq a Ad.z; rw [<- adz] at h2; have HG := H_ (show goodS a b = (adE a b && !adE a Ad.z) from rfl); unfold Ad.v at h1 h2; unfold Ad.v; generalize adE a b = x at *; generalize adE a Ad.z = y at *; generalize goodS a b = g at *; cases x
 . go_enter Tryz.func176, Tryz.ntmps176; go_wp2_with fail; go_ret; exact ⟨by rw [HG.out]; rfl, ((Below.refl _ _).alloc (Nat.le_refl _) _).alloc (by rw [alloc1]; omega) _⟩
 . go_enter Tryz.func176, Tryz.ntmps176; go_wp2_with fail; go_ret; exact ⟨by rw [HG.out]; rfl, ((Below.refl _ _).alloc (Nat.le_refl _) _).alloc (by rw [alloc1]; omega) _⟩
def wB : List Opt -> List Opt -> Bool
 | _, [] => true
 | [], _ :: _ => false
 | r :: rs, o :: l => if eqB r o then wB rs l else wB rs (o :: l)
theorem wB_nil (req : List Opt) : wB req [] = true := by cases req <;> rfl
theorem wB_end (req : List Opt) (o : Opt) (l : List Opt) (a : Nat) (h : req.length <= a) : wB (req.drop a) (o :: l) = false := by rw [List.drop_of_length_le h]; rfl
theorem wB_at (req : List Opt) (o : Opt) (l : List Opt) (a : Nat) (h : a < req.length) : wB (req.drop a) (o :: l) = if eqB req[a] o then wB (req.drop (a + 1)) l else wB (req.drop (a + 1)) (o :: l) := by
 rw [List.drop_eq_getElem_cons h]; rfl
set_option maxRecDepth 100000 in
theorem within_any (l req : List Opt) (lv rv : Value) (ok ok' : Nat -> Prop) (w : World) (hl : Opts w ok lv l) (hr : Opts w ok' rv req) (hm : l.length <= 1000000) (hm' : req.length <= 1000000) :
 Calls Tryz.prog 251 #[lv, rv] w fun e w' => e = .returned (.bool (wB req l)) /\ Below w.heap.size w w' := by
 obtain ⟨sa, c, rfl, hc, hcm⟩ := hl.form; obtain ⟨ra, rc, rfl, hrc, hrcm⟩ := hr.form; have HL := H_ hl; have HR := H_ hr; obtain ⟨len, hln⟩ : ∃ len, len = l.length := ⟨_, rfl⟩; have HLN := H_ hln; obtain ⟨m, hmn⟩ : ∃ m, m = req.length := ⟨_, rfl⟩; have HMN := H_ hmn; rw [<- hln] at hc hm ⊢; rw [<- hmn] at hrc hm' ⊢; unfold maxLen at hcm hrcm; clear hl hr hln hmn; go_enter Tryz.func251, Tryz.ntmps251; go_wp2_with fail
 go_loopg [10, 5] len (fun x i a wr => ∃ (k at' : Nat), k <= len /\ at' <= m /\ x = len - k /\ i = .int .i64 k /\ a = .int .i64 at' /\ Hid (Below w.heap.size w wr /\ wB req l = wB (req.drop at') (l.drop k)))
 case atStart => exact ⟨0, 0, by omega, by omega, by omega, rfl, rfl, Below.refl _ _, rfl⟩
 case round =>
  obtain ⟨k, a, hk, ha, rfl, rfl, rfl, hK⟩ := hrel; have HK := H_ hK.out; clear hK
  by_cases hkl : k < len
  . have hkl' : k < l.length := by have := HLN.out; omega
    obtain ⟨b, off, rfl, hb, -, -, -, -, c0, c1⟩ := HL.out.at k hkl'; have d0 : wr.cell? ⟨b, off + k * 2, none⟩ = _ := (HK.out.1.cell (p := ⟨b, off + k * 2, none⟩) hb).trans c0; have d1 : wr.cell? ⟨b, off + k * 2 + 1, none⟩ = _ := (HK.out.1.cell (p := ⟨b, off + k * 2 + 1, none⟩) hb).trans c1; have HD := H_ (show l.drop k = l[k] :: l.drop (k + 1) from List.drop_eq_getElem_cons hkl'); have hb1 := HK.out.1.alloc HK.out.1.size (.cells #[.int .i64 l[k].t, .string l[k].v] 91 (0, 0)); have hx := at1 wr (.cells #[.int .i64 l[k].t, .string l[k].v] 91 (0, 0)); generalize l[k] = o at *; obtain ⟨rest, hrest⟩ : ∃ rest, rest = l.drop (k + 1) := ⟨_, rfl⟩; rw [<- hrest] at HD; have HRE := H_ hrest; clear hrest; obtain ⟨t, v⟩ := o; simp only at d0 d1 hb1 hx
    rw [HD.out] at HK; have HX := H_ (A_ hb1 hx); clear c0 c1 hb1 hx; go_wp2_with fail; generalize wr.alloc (.cells #[.int .i64 t, .string v] 91 (0, 0)) = W1 at HX ⊢; generalize wr.heap.size = xb at HX ⊢
    go_loopg [5] (m - a) (fun x av wi => ∃ a' : Nat, a' <= m /\ x = m - a' /\ av = .int .i64 a' /\ Hid (Below w.heap.size w wi /\ wi.heap[xb]? = some (.cells #[.int .i64 t, .string v] 91 (0, 0)) /\ wB req l = wB (req.drop a') (⟨t, v⟩ :: rest)))
    case atStart => exact ⟨a, ha, by omega, rfl, HX.out.1, HX.out.2, HK.out.2⟩
    case round =>
     obtain ⟨a', ha', rfl, rfl, hI⟩ := hrel; have HI := H_ hI.out; clear hI; have x0 := cellOf HI.out.2.1 0 (.int .i64 t) rfl; have x1 := cellOf HI.out.2.1 1 (.string v) rfl
     by_cases ham : a' < m
     . have ham' : a' < req.length := by have := HMN.out; omega
       obtain ⟨rb, roff, rfl, hrb, -, -, -, -, r0, r1⟩ := HR.out.at a' ham'; have e0 : wr.cell? ⟨rb, roff + a' * 2, none⟩ = _ := (HI.out.1.cell (p := ⟨rb, roff + a' * 2, none⟩) hrb).trans r0; have e1 : wr.cell? ⟨rb, roff + a' * 2 + 1, none⟩ = _ := (HI.out.1.cell (p := ⟨rb, roff + a' * 2 + 1, none⟩) hrb).trans r1; have HW := H_ (wB_at req ⟨t, v⟩ rest a' ham'); have hn0 := fun w => neqO req[a'].t t req[a'].v v w; have hq : eqB req[a'] ⟨t, v⟩ = (decide (req[a'].t = t) && decide (req[a'].v = v)) := rfl; rw [<- hq] at hn0; clear r0 r1 hq; generalize eqB req[a'] ⟨t, v⟩ = y at HW hn0; generalize req[a'] = o' at *; obtain ⟨t', v'⟩ := o'; simp only at e0 e1 hn0
       have dlt : decide ((a' : Int) < (m : Int)) = true := by simp; omega
       have HSv : (fun X : World => X.cell? ⟨rb, roff + a' * 2, none⟩ = some (.int .i64 t') /\ X.cell? ⟨rb, roff + a' * 2 + 1, none⟩ = some (.string v') /\ X.cell? ⟨xb, 0, none⟩ = some (.int .i64 t) /\ X.cell? ⟨xb, 1, none⟩ = some (.string v)) wr.drew := ⟨e0, e1, x0, x1⟩
       cases y with
       | true =>
        go_wp2_with fail; refine wp_region_H (rgH 8 12) (fun X : World => X.cell? ⟨rb, roff + a' * 2, none⟩ = some (.int .i64 t') /\ X.cell? ⟨rb, roff + a' * 2 + 1, none⟩ = some (.string v') /\ X.cell? ⟨xb, 0, none⟩ = some (.int .i64 t) /\ X.cell? ⟨xb, 1, none⟩ = some (.string v)) (by kernel_rfl) ?_; refine hatP 0 rfl (by intro W _; go_simp; try rfl) ?_; simp only [aZ, aC, aD]; refine hatP 1 rfl (by intro W _; go_simp; try rfl) ?_; simp only [aZ, aC, aD]; refine hatP 2 rfl (by intro W _; go_simp; try rfl) ?_; simp only [aZ, aC, aD]; refine hatP 3 rfl (by intro W _; go_simp; try rfl) ?_; simp only [aZ, aC, aD]; refine hatP 4 rfl (by intro W _; go_simp; try rfl) ?_; simp only [aZ, aC, aD]; refine hatP 5 rfl (by intro W _; go_simp; try rfl) ?_; simp only [aZ, aC, aD]; refine hatP 6 rfl (by intro W _; go_simp; try rfl) ?_; simp only [aZ, aC, aD]; refine hatP 7 rfl (by intro W _; go_simp; try rfl) ?_; simp only [aZ, aC, aD]; refine hatH 8 rfl (by rintro W ⟨h0, h1, h2, h3⟩; go_simp; try rfl) HSv ?_; simp only [aZ, aC, aD]; refine hatH 9 rfl (by rintro W ⟨h0, h1, h2, h3⟩; go_simp; try rfl) HSv ?_; simp only [aZ, aC, aD]; refine hatH 10 rfl (by rintro W ⟨h0, h1, h2, h3⟩; go_simp; try rfl) HSv ?_; simp only [aZ, aC, aD]; refine hatH 11 rfl (by rintro W ⟨h0, h1, h2, h3⟩; go_simp; try rfl) HSv ?_; simp only [aZ, aC, aD]; refine hend 12 ?_; simp only [aF, aG]; have dne : ((a' : Int) == (m : Int)) = false := by simp; omega
        go_wp2_with fail
        go_roundg (len - (k + 1))
        case measure => omega
        case rel => exact ⟨k + 1, a' + 1, by omega, by omega, rfl, by go_num, by go_num, HI.out.1.drew, by rw [HI.out.2.2, HW.out, <- HRE.out]; exact if_pos trivial⟩
       | false =>
        go_wp2_with fail; refine wp_region_H (rgH 8 12) (fun X : World => X.cell? ⟨rb, roff + a' * 2, none⟩ = some (.int .i64 t') /\ X.cell? ⟨rb, roff + a' * 2 + 1, none⟩ = some (.string v') /\ X.cell? ⟨xb, 0, none⟩ = some (.int .i64 t) /\ X.cell? ⟨xb, 1, none⟩ = some (.string v)) (by kernel_rfl) ?_; refine hatP 0 rfl (by intro W _; go_simp; try rfl) ?_; simp only [aZ, aC, aD]; refine hatP 1 rfl (by intro W _; go_simp; try rfl) ?_; simp only [aZ, aC, aD]; refine hatP 2 rfl (by intro W _; go_simp; try rfl) ?_; simp only [aZ, aC, aD]; refine hatP 3 rfl (by intro W _; go_simp; try rfl) ?_; simp only [aZ, aC, aD]; refine hatP 4 rfl (by intro W _; go_simp; try rfl) ?_; simp only [aZ, aC, aD]; refine hatP 5 rfl (by intro W _; go_simp; try rfl) ?_; simp only [aZ, aC, aD]; refine hatP 6 rfl (by intro W _; go_simp; try rfl) ?_; simp only [aZ, aC, aD]; refine hatP 7 rfl (by intro W _; go_simp; try rfl) ?_; simp only [aZ, aC, aD]; refine hatH 8 rfl (by rintro W ⟨h0, h1, h2, h3⟩; go_simp; try rfl) HSv ?_; simp only [aZ, aC, aD]; refine hatH 9 rfl (by rintro W ⟨h0, h1, h2, h3⟩; go_simp; try rfl) HSv ?_; simp only [aZ, aC, aD]; refine hatH 10 rfl (by rintro W ⟨h0, h1, h2, h3⟩; go_simp; try rfl) HSv ?_; simp only [aZ, aC, aD]; refine hatH 11 rfl (by rintro W ⟨h0, h1, h2, h3⟩; go_simp; try rfl) HSv ?_; simp only [aZ, aC, aD]; refine hend 12 ?_; simp only [aF, aG]; go_wp2_with fail
        go_roundg (m - (a' + 1))
        case measure => omega
        case rel => exact ⟨a' + 1, by omega, rfl, by go_num, HI.out.1.drew, HI.out.2.1, by rw [HI.out.2.2, HW.out]; rfl⟩
     . obtain rfl : m = a' := by omega
       have HW := H_ (wB_end req ⟨t, v⟩ rest m (by have := HMN.out; omega)); have dlt : decide ((m : Int) < (m : Int)) = false := by simp
       go_wp2_with fail; refine wp_region_H (rgH 0 0) (fun X : World => True) (by kernel_rfl) ?_; refine hatP 0 rfl (by intro W _; go_simp; try rfl) ?_; simp only [aZ, aC, aD]; refine hatP 1 rfl (by intro W _; go_simp; try rfl) ?_; simp only [aZ, aC, aD]; refine hatP 2 rfl (by intro W _; go_simp; try rfl) ?_; simp only [aZ, aC, aD]; refine hatP 3 rfl (by intro W _; go_simp; try rfl) ?_; simp only [aZ, aC, aD]; refine hatP 4 rfl (by intro W _; go_simp; try rfl) ?_; simp only [aZ, aC, aD]; refine hskP 5 rfl ?_; simp only [aZ, aA, aE, aB, aC, aD]; refine hskP 6 rfl ?_; simp only [aZ, aA, aE, aB, aC, aD]; refine hskP 7 rfl ?_; simp only [aZ, aA, aE, aB, aC, aD]; refine hskP 8 rfl ?_; simp only [aZ, aA, aE, aB, aC, aD]; refine hskP 9 rfl ?_; simp only [aZ, aA, aE, aB, aC, aD]; refine hskP 10 rfl ?_; simp only [aZ, aA, aE, aB, aC, aD]; refine hatP 11 rfl (by intro W _; go_simp; try rfl) ?_; simp only [aZ, aC, aD]; refine hend 12 ?_; simp only [aF, aG]; go_wp2_with fail; go_ret; exact ⟨by rw [HI.out.2.2, HW.out]; rfl, HI.out.1.drew⟩
  . obtain rfl : len = k := by omega
    have HE : Hid (wB req l = true) := H_ (by rw [HK.out.2, HLN.out, List.drop_length, wB_nil]); go_wp2_with fail; go_ret; exact ⟨by rw [HE.out]; rfl, HK.out.1⟩
theorem below_of_eq {w w' : World} (h : w = w') : Below w.heap.size w w' := by subst h; exact Below.refl _ _
section
variable {w : World} {S ok : Nat -> Prop} {B : NegB} {C : NegC} {st : NSt} {X : NegX}
set_option maxRecDepth 100000 in
theorem refused1_any (h : NegAt w S B C st X) (bx : Nat) (hbx : w.heap[bx]? = some (.cells #[.pointer (some ⟨B.nb, 0, none⟩)] 82 (0, 0))) (o : Opt) :
 Calls Tryz.prog 252 #[.agg #[.int .i64 o.t, .string o.v], .pointer (some ⟨bx, 0, none⟩)] w fun e w' => e = .returned (.bool (hasB C.must o.t)) /\ Below w.heap.size w w' := by
 have hb := (Below.refl w.heap.size w).alloc (Nat.le_refl _) (.cells #[.int .i64 o.t, .string o.v] 91 (0, 0)); have hx := at1 w (.cells #[.int .i64 o.t, .string o.v] 91 (0, 0)); have h1 := h.below hb; have c0 := cell_regrown (cellOf hx 0 (.int .i64 o.t) rfl); have c1 := cell_regrown (cellOf ((hb.block _ (Array.getElem?_eq_some_iff.1 hbx).1).trans hbx) 0 (.pointer (some ⟨B.nb, 0, none⟩)) rfl); have c2 := cell_regrown (show (w.alloc (.cells #[.int .i64 o.t, .string o.v] 91 (0, 0))).cell? ⟨B.nb, 4, none⟩ = some X.must from h1.cell 4); have HN := H_ (fun d os => (hasN_any C.must X.must _ o.t (Go.Sort.grow (redrawn (w.alloc (.cells #[.int .i64 o.t, .string o.v] 91 (0, 0))) d) os) (h1.must.below (below_regrown _ d os)) (by have := h.ok.must; omega)).mono (fun e w' he => A_ he.1 (below_of_eq he.2))); have HB := H_ hb; obtain ⟨t, v⟩ := o; generalize hasB C.must t = y at *; generalize X.must = mv at *; clear hb hx h1 h hbx; go_enter Tryz.func252, Tryz.ntmps252; go_wp2_with fail; refine wp_region_quiet_below (by kernel_rfl) (by kernel_rfl) ?_
 repeat (quiet_step (first | (go_at_call 142; exact Calls.regrown_of (HN.out _ _))))
 refine wpQuiet_nil ?_; rintro _ ⟨⟨nq, osq⟩, rfl⟩; have HB1 := H_ (HB.out.trans ((below_regrown _ nq osq).mono HB.out.size)); go_wp2_with fail; go_ret; exact ⟨rfl, HB1.out⟩
set_option maxRecDepth 100000 in
theorem refused2_any (p : Pk) (po : Value) (px : Nat) (hpx : w.heap[px]? = some (.cells #[.int .i64 p.code, .int .i64 p.id, po, .string p.d] 93 (0, 0))) (ho : Opts w ok po p.o) (hlen : p.o.length <= 1000000) (o : Opt) :
 Calls Tryz.prog 254 #[.agg #[.int .i64 o.t, .string o.v], .pointer (some ⟨px, 0, none⟩)] w fun e w' => e = .returned (.bool (p.o.any (eqB o))) /\ Below w.heap.size w w' := by
 have hb := (Below.refl w.heap.size w).alloc (Nat.le_refl _) (.cells #[.int .i64 o.t, .string o.v] 91 (0, 0)); have hx := at1 w (.cells #[.int .i64 o.t, .string o.v] 91 (0, 0)); have c0 := cellOf hx 0 (.int .i64 o.t) rfl; have c1 := cellOf hx 1 (.string o.v) rfl; have HC := H_ (conO_any p.o po ok o _ (ho.below hb) hlen); obtain ⟨a1, k1, rfl, -, -⟩ := ho.form; have c2 := cellOf ((hb.block _ (Array.getElem?_eq_some_iff.1 hpx).1).trans hpx) 2 (.slice a1 p.o.length k1) rfl; have HB := H_ hb; obtain ⟨t, v⟩ := o; simp only at *
 generalize p.o.any (eqB ⟨t, v⟩) = y at *; clear hb hx hpx ho; go_enter Tryz.func254, Tryz.ntmps254
 go_wp2_with (go_at_call 255; refine HC.out.mono ?_; rintro e w2 ⟨rfl, b2⟩)
 go_ret; exact ⟨rfl, HB.out.trans (b2.mono HB.out.size)⟩
theorem NegAt.setReq {w' : World} {v : Value} {l' : List Opt} (h : NegAt w S B C st X) (hk : Keep (fun b => X.req.ownBlock = some b) w w') (hr : ORow w' 0 v l') (hv : ∀ k, v.ownBlock = some k -> k = B.rb) (hl : l'.length <= 30) :
 NegAt (w'.setCell ⟨B.nb, 10, none⟩ v) S B C { st with req := l' } { X with req := v } /\ Keep B.t w (w'.setCell ⟨B.nb, 10, none⟩ v) := by
 have hT : ∀ b, X.req.ownBlock = some b -> B.t b := fun b hb => .inr (.inr (h.rq b hb)); have hk1 : Keep B.t w w' := hk.mono (fun b _ hb => hT b hb); have hk2 := keepC B w' 10 v; have hk2' : Keep B.t w' (w'.setCell ⟨B.nb, 10, none⟩ v) := hk2.mono (fun b _ hb => Or.inl hb); have hkk := hk1.trans hk2'; have hn : ∀ b, b < w.heap.size -> B.r S b -> ¬ B.t b := fun b _ hb => hb.2; have y0 := (hk.block B.nb h.nlt (fun he => h.ne2 (h.rq _ he).symm)).trans h.blk; have ha := h.aut.keep hk (fun he => h.ne3 (h.rq _ he).symm)
 refine ⟨{ h with
  blk := ?_, aut := ha.keep hk2 (fun he => h.ne1 he.symm), own := Rec.keep h.own hkk hn, peer := Rec.keep h.peer hkk hn, must := Rec.keep h.must hkk hn,
  req := hr.keep hk2 (fun k hk' he => h.ne2 ((hv k hk').symm.trans he)), rq := hv, mine := Rec.keep h.mine hkk hn, theirs := Rec.keep h.theirs hkk hn, rlt := Nat.lt_of_lt_of_le h.rlt hkk.size, lr := hl }, hkk⟩
 have := set_block y0 10 v
 simpa [negCells] using this
def refusedS (rej : Pk -> ByteArray) (C : NegC) (st : NSt) (p : Pk) : NSt × List Pk :=
 if wB st.req p.o then
  if p.o.any (fun o => hasB C.must o.t) then evS rej C st 14 ⟨true, p, 0, []⟩ else evS rej C { st with req := st.req.filter fun o => !(p.o.any (eqB o)) } 9 ⟨true, p, 0, []⟩
 else (st, [])
end
section
variable (rej : Pk -> ByteArray) {w : World} {S ok : Nat -> Prop} {B : NegB} {C : NegC} {st : NSt} {X : NegX}
theorem lt_of_heap' {w : World} {k : Nat} {o : Obj} (e : w.heap[k]? = some o) : k < w.heap.size := (Array.getElem?_eq_some_iff.1 e).1
theorem two_boxes (w : World) (A D : Obj) : ∃ W, W = (w.alloc A).alloc D /\ W.heap.size = w.heap.size + 1 + 1 /\ W.heap[w.heap.size]? = some A /\ W.heap[w.heap.size + 1]? = some D /\ Below w.heap.size w W :=
 ⟨_, rfl, alloc2 _ _ _, at20 _ _ _, at21 _ _ _, ((Below.refl _ _).alloc (Nat.le_refl _) _).alloc (by rw [alloc1]; omega) _⟩
theorem EvPost.fin {W w' : World} {r : NSt × List Pk} {e : Ending} (h : EvPost W w' (fun b => Grow S w b) ok B C r e) (hk : Keep B.t w W) (hs : w.heap.size <= W.heap.size) : EvPost w w' S ok B C r e := by
 obtain ⟨v, he, ⟨L, h2, h3, h4⟩, ⟨X', h5⟩, h6⟩ := h; exact ⟨v, he, ⟨L, h2, h3.base hs, h4.mono (fun b hb => hb.imp id (fun h => Nat.le_trans hs h))⟩, ⟨X', h5.mono (fun b hb => hb.elim id (fun h => .inr (Nat.le_trans hs h)))⟩, hk.trans h6⟩
set_option maxRecDepth 100000 in
theorem refused_at (p : Pk) (po : Value) (h : NegAt w S B C st X) (ho : Opts w ok po p.o) (hok : ∀ b, ok b -> ¬ B.t b) (hlen : p.o.length <= 1000000) (okr : Nat -> Prop := ok) :
 Calls Tryz.prog 233 #[.pointer (some ⟨B.nb, 0, none⟩), pkV p po] w fun e w' => EvPost w w' S okr B C (refusedS rej C st p) e := by
 obtain ⟨a1, k1, rfl, hc1, hc2⟩ := ho.form; obtain ⟨W, hW, hs, x0, x1, hb⟩ := two_boxes w (.cells #[.pointer (some ⟨B.nb, 0, none⟩)] 82 (0, 0)) (.cells #[.int .i64 p.code, .int .i64 p.id, .slice a1 p.o.length k1, .string p.d] 93 (0, 0)); have h1 : NegAt W (fun b => Grow S w b) B C st X := (h.below hb).mono (fun b hb => .inl hb); have ho1 := ho.below hb; have hbl := h1.nlt; obtain ⟨qa, qc, hrq⟩ := h1.req.form
 have HS : Hid (∀ Y, Below W.heap.size W Y -> Y.cell? ⟨w.heap.size + 1, 2, none⟩ = some (.slice a1 p.o.length k1) /\ Y.cell? ⟨w.heap.size, 0, none⟩ = some (.pointer (some ⟨B.nb, 0, none⟩)) /\ Y.cell? ⟨B.nb, 10, none⟩ = some (.slice qa st.req.length qc)) := H_ fun Y hY =>
  ⟨cellOf ((hY.block _ (by omega)).trans x1) 2 _ rfl, cellOf ((hY.block _ (by omega)).trans x0) 0 _ rfl, by rw [hY.cell hbl, <- hrq]; exact h1.cell 10⟩
 have HWI := H_ (fun Y (hY : Below W.heap.size W Y) => within_any p.o st.req _ X.req ok _ Y (ho1.below hY) ((h1.req.below hY).opts (by have := h1.lr; unfold maxLen; omega)) hlen (by have := h1.lr; omega)); rw [hrq] at HWI; have HC := H_ (fun Y (hY : Below W.heap.size W Y) => containsO_any p.o _ ok 252 #[.pointer (some ⟨w.heap.size, 0, none⟩)] (fun o => hasB C.must o.t) Y (ho1.below hY) hlen (enters_of Tryz.func252 (by kernel_rfl) rfl) (fun Z o _ hZ => (refused1_any ((h1.below hY).below hZ) w.heap.size ((hZ.block _ (by have := hY.size; omega)).trans ((hY.block _ (by omega)).trans x0)) o).mono (fun e w' he => ⟨he.1, hZ.trans (he.2.mono hZ.size)⟩))); have H := H_ (A_ h1 (A_ ho1 (A_ hb (A_ hok (A_ hs (A_ x0 (A_ x1 h))))))); have HE14 := H_ (fun Y (hY : Below W.heap.size W Y) => Event_at (ok := ok) rej p (.slice a1 p.o.length k1) 14 (by decide) (h1.below hY) (ho1.below hY) hok hlen (fun pa => sayAll_next rej B C _ _ _ _ 14 h1.ss (by decide)) okr); unfold pkV at HE14; have HM := H_ (show refusedS rej C st p = if wB st.req p.o then (if p.o.any (fun o => hasB C.must o.t) then evS rej C st 14 ⟨true, p, 0, []⟩ else evS rej C { st with req := st.req.filter fun o => !(p.o.any (eqB o)) } 9 ⟨true, p, 0, []⟩) else (st, []) from rfl)
 have HDF := H_ (fun Y (hY : Below W.heap.size W Y) => delfunc_any st.req X.req 254 #[.pointer (some ⟨w.heap.size + 1, 0, none⟩)] (fun o => p.o.any (eqB o)) Y (h1.req.below hY) (by have := h1.lr; omega) (enters_of Tryz.func254 (by kernel_rfl) rfl)
  (fun Z o _ hZ => refused2_any (ok := ok) p _ (w.heap.size + 1) ((hZ.block _ (by have := hY.size; omega) (fun he => by have h1' := h1.rq _ he; have h2' := h.rlt; omega)).trans ((hY.block _ (by omega)).trans x1)) (Rec.keep (ho1.below hY) hZ (fun b _ hb he => hok b hb (.inr (.inr (h1.rq b he))))) hlen o))
 rw [hrq] at HDF; generalize refusedS rej C st p = R at HM ⊢; generalize wB st.req p.o = y at HM HWI; generalize p.o.any (fun o => hasB C.must o.t) = z at HM HC; have HL := H_ hlen; have HO := H_ ho; have HRB := H_ (show (∀ b, (Value.slice qa st.req.length qc).ownBlock = some b -> b = B.rb) /\ X.req = .slice qa st.req.length qc from ⟨by rw [<- hrq]; exact h1.rq, hrq⟩); unfold pkV; clear h h1 ho ho1 hok hb hs x0 x1 hlen hrq hbl; have HSv := HS.out W.drew (Below.refl _ _).drew
 cases y with
 | false =>
  go_enter Tryz.func233, Tryz.ntmps233; go_wp2_with fail; rw [<- hW]; clear hW; refine wp_region_H (rgH 1 8) (fun Y : World => Y.cell? ⟨w.heap.size + 1, 2, none⟩ = some (.slice a1 p.o.length k1) /\ Y.cell? ⟨w.heap.size, 0, none⟩ = some (.pointer (some ⟨B.nb, 0, none⟩)) /\ Y.cell? ⟨B.nb, 10, none⟩ = some (.slice qa st.req.length qc)) (by kernel_rfl) ?_; refine hatP 0 rfl (by intro W _; go_simp; try rfl) ?_; simp only [aZ, aC, aD]; refine hatH 1 rfl (by rintro W ⟨h0, h1, h2⟩; go_simp; try rfl) HSv ?_; simp only [aZ, aC, aD]; refine hatH 2 rfl (by rintro W ⟨h0, h1, h2⟩; go_simp; try rfl) HSv ?_; simp only [aZ, aC, aD]; refine hatH 3 rfl (by rintro W ⟨h0, h1, h2⟩; go_simp; try rfl) HSv ?_; simp only [aZ, aC, aD]; refine hatH 4 rfl (by rintro W ⟨h0, h1, h2⟩; go_simp; try rfl) HSv ?_; simp only [aZ, aC, aD]; refine hatH 5 rfl (by rintro W ⟨h0, h1, h2⟩; go_simp; try rfl) HSv ?_; simp only [aZ, aC, aD]; refine hone 6 rfl fun K hK => ?_
  try go_simp
  go_at_call 251; refine (HWI.out _ (Below.refl _ _).drew).mono ?_; rintro e w2 ⟨rfl, hb2⟩; have HB2 := H_ (show Below W.heap.size W w2 from Below.trans (Below.refl _ _).drew hb2); have HSv := HS.out w2 HB2.out; clear hb2; refine hK _ _ (fun _ => HSv) ?_
  try simp only [aZ, aA, aE, aB, aC, aD]
  refine hatH 7 rfl (by rintro W ⟨h0, h1, h2⟩; go_simp; try rfl) HSv ?_; simp only [aZ, aC, aD]; refine hend 8 ?_; simp only [aF, aG]; go_wp2_with fail; go_ret; rw [show R = (st, []) from HM.out]; have hbw := H.out.2.2.1.trans (HB2.out.mono H.out.2.2.1.size); exact EvPost.none' ⟨X, (H.out.2.2.2.2.2.2.2.below hbw).mono (fun b h => .inl h)⟩ (Keep.of_below _ hbw)
 | true =>
  go_enter Tryz.func233, Tryz.ntmps233; go_wp2_with fail; rw [<- hW]; clear hW; refine wp_region_H (rgH 1 8) (fun Y : World => Y.cell? ⟨w.heap.size + 1, 2, none⟩ = some (.slice a1 p.o.length k1) /\ Y.cell? ⟨w.heap.size, 0, none⟩ = some (.pointer (some ⟨B.nb, 0, none⟩)) /\ Y.cell? ⟨B.nb, 10, none⟩ = some (.slice qa st.req.length qc)) (by kernel_rfl) ?_; refine hatP 0 rfl (by intro W _; go_simp; try rfl) ?_; simp only [aZ, aC, aD]; refine hatH 1 rfl (by rintro W ⟨h0, h1, h2⟩; go_simp; try rfl) HSv ?_; simp only [aZ, aC, aD]; refine hatH 2 rfl (by rintro W ⟨h0, h1, h2⟩; go_simp; try rfl) HSv ?_; simp only [aZ, aC, aD]; refine hatH 3 rfl (by rintro W ⟨h0, h1, h2⟩; go_simp; try rfl) HSv ?_; simp only [aZ, aC, aD]; refine hatH 4 rfl (by rintro W ⟨h0, h1, h2⟩; go_simp; try rfl) HSv ?_; simp only [aZ, aC, aD]; refine hatH 5 rfl (by rintro W ⟨h0, h1, h2⟩; go_simp; try rfl) HSv ?_; simp only [aZ, aC, aD]; refine hone 6 rfl fun K hK => ?_
  try go_simp
  go_at_call 251; refine (HWI.out _ (Below.refl _ _).drew).mono ?_; rintro e w2 ⟨rfl, hb2⟩; have HB2 := H_ (show Below W.heap.size W w2 from Below.trans (Below.refl _ _).drew hb2); have HSv := HS.out w2 HB2.out; clear hb2; refine hK _ _ (fun _ => HSv) ?_
  try simp only [aZ, aA, aE, aB, aC, aD]
  refine hatH 7 rfl (by rintro W ⟨h0, h1, h2⟩; go_simp; try rfl) HSv ?_; simp only [aZ, aC, aD]; refine hend 8 ?_; simp only [aF, aG]; obtain ⟨g0, g1, g2⟩ := HSv; go_wp2_with fail; refine (HC.out w2 HB2.out).mono ?_; rintro e w3 ⟨rfl, hb3⟩; have HB3 := H_ (HB2.out.trans (hb3.mono HB2.out.size)); clear hb3 g0 g1 g2
  have HX3 : Hid (∀ Y, Below W.heap.size W Y -> Y.cell? ⟨w.heap.size, 0, none⟩ = some (.pointer (some ⟨B.nb, 0, none⟩)) /\ Y.cell? ⟨w.heap.size + 1, 0, none⟩ = some (.int .i64 p.code) /\ Y.cell? ⟨w.heap.size + 1, 1, none⟩ = some (.int .i64 p.id) /\ Y.cell? ⟨w.heap.size + 1, 2, none⟩ = some (.slice a1 p.o.length k1) /\ Y.cell? ⟨w.heap.size + 1, 3, none⟩ = some (.string p.d)) := H_ fun Y hY => by
   have z0 := (hY.block _ (by have := H.out.2.2.2.2.1; omega)).trans H.out.2.2.2.2.2.1; have z1 := (hY.block _ (by have := H.out.2.2.2.2.1; omega)).trans H.out.2.2.2.2.2.2.1; exact ⟨cellOf z0 0 _ rfl, cellOf z1 0 _ rfl, cellOf z1 1 _ rfl, cellOf z1 2 _ rfl, cellOf z1 3 _ rfl⟩
  cases z with
  | true =>
   obtain ⟨f0, f1, f2, f3, f4⟩ := HX3.out w3 HB3.out; go_wp2_with fail; refine (HE14.out w3 HB3.out).mono ?_; rintro e w4 ⟨v4, rfl, h4⟩; go_wp2_with fail; go_ret; rw [show R = evS rej C st 14 ⟨true, p, 0, []⟩ from HM.out]; have hbw := H.out.2.2.1.trans (HB3.out.mono H.out.2.2.1.size); exact EvPost.fin ⟨_, rfl, h4⟩ (Keep.of_below _ hbw) hbw.size
  | false =>
   go_wp2_with fail; refine wp_region_H (rgH 0 7) (fun Y : World => Y.cell? ⟨w.heap.size, 0, none⟩ = some (.pointer (some ⟨B.nb, 0, none⟩)) /\ Y.cell? ⟨B.nb, 10, none⟩ = some (.slice qa st.req.length qc)) (by kernel_rfl) ?_; have HSv : (fun Y : World => Y.cell? ⟨w.heap.size, 0, none⟩ = some (.pointer (some ⟨B.nb, 0, none⟩)) /\ Y.cell? ⟨B.nb, 10, none⟩ = some (.slice qa st.req.length qc)) w3.drew := (HS.out w3.drew HB3.out.drew).2; refine hatH 0 rfl (by rintro W ⟨h0, h1⟩; go_simp; try rfl) HSv ?_; simp only [aZ, aC, aD]; refine hatH 1 rfl (by rintro W ⟨h0, h1⟩; go_simp; try rfl) HSv ?_; simp only [aZ, aC, aD]; refine hatH 2 rfl (by rintro W ⟨h0, h1⟩; go_simp; try rfl) HSv ?_; simp only [aZ, aC, aD]; refine hatH 3 rfl (by rintro W ⟨h0, h1⟩; go_simp; try rfl) HSv ?_; simp only [aZ, aC, aD]; refine hatH 4 rfl (by rintro W ⟨h0, h1⟩; go_simp; try rfl) HSv ?_; simp only [aZ, aC, aD]; refine hatH 5 rfl (by rintro W ⟨h0, h1⟩; go_simp; try rfl) HSv ?_; simp only [aZ, aC, aD]; refine hone 6 rfl fun K hK => ?_
   try go_simp
   go_at_call 253; refine (HDF.out w3.drew HB3.out.drew).mono ?_; rintro e w4 ⟨v4, rfl, r4, ow4, k4⟩; obtain ⟨qd, qe, rfl⟩ := r4.form; have hNW := (H.out.1.below HB3.out).below (show Below w3.heap.size w3 w3.drew from (Below.refl _ _).drew); have hlr : (st.req.filter fun o => !(p.o.any (eqB o))).length <= 30 := Nat.le_trans (List.length_filter_le _ _) H.out.1.lr; rw [<- HRB.out.2] at k4 ow4; have hnb : ∀ b, X.req.ownBlock = some b -> b = B.rb := hNW.rq; have hN5 := hNW.setReq k4 r4 (fun k hk => by rw [ow4] at hk; exact hnb k hk) hlr; have y10 := (k4.block B.nb hNW.nlt (fun he => hNW.ne2 (hnb _ he).symm)).trans hNW.blk; have hlt := H.out.2.2.2.2.2.2.2.rlt; have z0 := (k4.block w.heap.size (by have := HB3.out.size; have := H.out.2.2.2.2.1; show w.heap.size < w3.heap.size; omega) (fun he => by have := hnb _ he; omega)).trans ((HB3.out.drew.block _ (by have := H.out.2.2.2.2.1; omega)).trans H.out.2.2.2.2.2.1); have z1 := (k4.block (w.heap.size + 1) (by have := HB3.out.size; have := H.out.2.2.2.2.1; show w.heap.size + 1 < w3.heap.size; omega) (fun he => by have := hnb _ he; omega)).trans ((HB3.out.drew.block _ (by have := H.out.2.2.2.2.1; omega)).trans H.out.2.2.2.2.2.2.1); have HSv : (fun Y : World => Y.cell? ⟨w.heap.size, 0, none⟩ = some (.pointer (some ⟨B.nb, 0, none⟩)) /\ Y.cell? ⟨B.nb, 10, none⟩ = some (.slice qa st.req.length qc)) w4 := ⟨cellOf z0 0 _ rfl, by rw [<- HRB.out.2]; exact cellOf y10 10 _ rfl⟩; have hbw := H.out.2.2.1.trans (HB3.out.mono H.out.2.2.1.size); have hkw : Keep B.t w (w4.setCell ⟨B.nb, 10, none⟩ (.slice qd (st.req.filter fun o => !(p.o.any (eqB o))).length qe)) := (Keep.of_below _ hbw).trans ((Keep.of_below B.t (show Below w3.heap.size w3 w3.drew from (Below.refl _ _).drew)).trans hN5.2); have ho5 := Rec.keep HO.out hkw (fun b _ hb ht => H.out.2.2.2.1 b hb ht); have HE := H_ (Event_at (ok := ok) rej p (.slice a1 p.o.length k1) 9 (by decide) hN5.1 ho5 H.out.2.2.2.1 HL.out (fun pa => sayAll_next rej B C _ _ _ _ 9 hNW.ss (by decide)) okr); unfold pkV at HE; have k5 := keepC B w4 10 (.slice qd (st.req.filter fun o => !(p.o.any (eqB o))).length qe); have hnl := H.out.2.2.2.2.2.2.2.nlt; have u0 := (k5.block w.heap.size (lt_of_heap' z0) (by omega)).trans z0; have u1 := (k5.block (w.heap.size + 1) (lt_of_heap' z1) (by omega)).trans z1; have f10 := fun o => fzOf y10 o; have HK := H_ (A_ hkw hbw); have t0 := cellOf u0 0 (.pointer (some ⟨B.nb, 0, none⟩)) rfl; have t1 := cellOf u1 0 (.int .i64 p.code) rfl; have t2 := cellOf u1 1 (.int .i64 p.id) rfl; have t3 := cellOf u1 2 (.slice a1 p.o.length k1) rfl; have t4 := cellOf u1 3 (.string p.d) rfl; generalize (st.req.filter fun o => !(p.o.any (eqB o))) = fl at *; clear hNW hlr hnb hN5 z0 z1 y10 r4 ow4 k4 ho5 k5 u0 u1 hkw hbw; refine hK _ _ (fun _ => HSv) ?_
   try simp only [aZ, aA, aE, aB, aC, aD]
   obtain ⟨s0, s1⟩ := HSv; refine hend 7 ?_; simp only [aF, aG]; go_wp2_with fail; refine HE.out.mono ?_; rintro e w6 ⟨v6, rfl, h6⟩; go_wp2_with fail; go_ret; rw [show R = evS rej C { st with req := fl } 9 ⟨true, p, 0, []⟩ from HM.out]; exact EvPost.fin ⟨_, rfl, h6⟩ HK.out.1 HK.out.1.size
end
def nameOne (C : NegC) (req : List Opt) (o : Opt) : List Opt :=
 if idxP (fun x => x.t == o.t) req < 0 then req
 else if (findR C.own o.t).isSome && fitsR (ruleOf C.own o.t) o.v then req.set (idxP (fun x => x.t == o.t) req).toNat o
 else if hasB C.must o.t then req else req.eraseIdx (idxP (fun x => x.t == o.t) req).toNat
def namedS (rej : Pk -> ByteArray) (C : NegC) (st : NSt) (p : Pk) : NSt × List Pk := evS rej C { st with req := p.o.foldl (nameOne C) st.req } 9 ⟨true, p, 0, []⟩
theorem named1_any (x : Opt) (k : Int) (kb : Nat) (w : World) (hk : w.cell? ⟨kb, 0, none⟩ = some (.int .i64 k)) :
 Calls Tryz.prog 256 #[.agg #[.int .i64 x.t, .string x.v], .pointer (some ⟨kb, 0, none⟩)] w fun e w' => e = .returned (.bool (x.t == k)) /\ Below w.heap.size w w' := by
 obtain ⟨t, v⟩ := x; have hk' : (w.alloc (.cells #[.int .i64 t, .string v] 91 (0, 0))).cell? ⟨kb, 0, none⟩ = some (.int .i64 k) := by go_keep
 clear hk; go_enter Tryz.func256, Tryz.ntmps256; go_wp2_with fail; go_ret; exact ⟨rfl, (Below.refl _ _).alloc (Nat.le_refl _) _⟩
theorem ORow.blk {w : World} {v : Value} {l : List Opt} (h : ORow w 0 v l) (hne : 0 < l.length) : ∃ g cap cur, v = .slice (some ⟨g, 0, none⟩) l.length cap /\ w.heap[g]? = some (.cells cur 91 (0, 0)) /\ l.length <= cap /\ cap <= maxLen /\ cur.size = cap * 2 /\ cur.toList.take (l.length * 2) = flatO l := by
 obtain ⟨_, ⟨h, h0⟩ | ⟨g, cap, cur, h1, _, h3, h4, h5, h6, h7⟩⟩ := h
 . omega
 . exact ⟨g, cap, cur, h1, h3, h4, h5, h6, h7⟩
theorem ORow.setV {w : World} {g cap : Nat} {cur : Array Value} {l : List Opt} {i : Nat} {o : Opt} (hb : w.heap[g]? = some (.cells cur 91 (0, 0))) (hc : l.length <= cap) (hm : cap <= maxLen) (hs : cur.size = cap * 2) (ht : cur.toList.take (l.length * 2) = flatO l) (hi : i < l.length) (hto : l[i].t = o.t) :
 ORow (w.setCell ⟨g, i * 2 + 1, none⟩ (.string o.v)) 0 (.slice (some ⟨g, 0, none⟩) l.length cap) (l.set i o) := by
 unfold ORow; rw [List.length_set]; refine ⟨by rw [optL_flen, List.length_set], Or.inr ⟨g, cap, _, rfl, Nat.zero_le _, blkSet hb, hc, hm, by simpa using hs, ?_⟩⟩; have hfl := flatO_len (l.set i o); rw [List.length_set] at hfl
 apply List.ext_getElem?
 intro m
 by_cases hlt : m < l.length * 2
 . rw [List.getElem?_take_of_lt hlt]
   show (cur.setIfInBounds (i * 2 + 1) (Value.string o.v)).toList[m]? = _
   have hcm : cur.toList[m]? = (flatO l)[m]? := by rw [<- ht, List.getElem?_take_of_lt hlt]
   have hcur : cur[m]? = (flatO l)[m]? := by rw [<- hcm]; simp
   have key : ∀ (l : List Opt) (j : Nat) (hj : j < l.length), (flatO l)[j * 2]? = some (.int .i64 l[j].t) /\ (flatO l)[j * 2 + 1]? = some (.string l[j].v) := fun l j hj => optL_at l j hj
   show _ = (flatO (l.set i o))[m]?
   rw [Array.getElem?_toList]; have hj : m / 2 < l.length := by omega
   obtain ⟨q1, q2⟩ := key l (m / 2) hj; obtain ⟨r1, r2⟩ := key (l.set i o) (m / 2) (by rw [List.length_set]; exact hj)
   rcases (show m = m / 2 * 2 \/ m = m / 2 * 2 + 1 by omega) with h | h
   . rw [Array.getElem?_setIfInBounds_ne (by omega), hcur]; rw [h, q1, r1]
     by_cases hij : i = m / 2
     . subst hij; simp [hto]
     . simp [hij]
   . by_cases hij : i = m / 2
     . subst hij; rw [<- h] at r2; rw [r2, show m / 2 * 2 + 1 = m by omega, Array.getElem?_setIfInBounds_self_of_lt (by omega)]; simp
     . rw [Array.getElem?_setIfInBounds_ne (by omega), hcur]; rw [h, q2, r2]; simp [hij]
 . rw [List.getElem?_eq_none (by rw [List.length_take]; omega), List.getElem?_eq_none (by show (flatO (l.set i o)).length <= m; omega)]
section
variable {w : World} {S : Nat -> Prop} {B : NegB} {C : NegC} {st : NSt} {X : NegX}
theorem NegAt.turnReq {w' : World} {l' : List Opt} (h : NegAt w S B C st X) (hk : Keep (fun b => X.req.ownBlock = some b) w w') (hr : ORow w' 0 X.req l') (hl : l'.length <= 30) : NegAt w' S B C { st with req := l' } X /\ Keep B.t w w' := by
 have hT : ∀ b, X.req.ownBlock = some b -> B.t b := fun b hb => .inr (.inr (h.rq b hb)); have hk1 : Keep B.t w w' := hk.mono (fun b _ hb => hT b hb); have hn : ∀ b, b < w.heap.size -> B.r S b -> ¬ B.t b := fun b _ hb => hb.2
 exact ⟨{ h with
  blk := (hk.block B.nb h.nlt (fun he => h.ne2 (h.rq _ he).symm)).trans h.blk, aut := h.aut.keep hk (fun he => h.ne3 (h.rq _ he).symm), own := Rec.keep h.own hk1 hn, peer := Rec.keep h.peer hk1 hn, must := Rec.keep h.must hk1 hn,
  req := hr, mine := Rec.keep h.mine hk1 hn, theirs := Rec.keep h.theirs hk1 hn, rlt := Nat.lt_of_lt_of_le h.rlt hk.size, lr := hl }, hk1⟩
end
end Go.Proofs.YtignponfoheaeaaGreat
