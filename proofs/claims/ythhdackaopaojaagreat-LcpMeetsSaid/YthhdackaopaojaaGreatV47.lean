import Derived.Test.YthhdackaopaojaaGreatV28
import Derived.Test.YthhdackaopaojaaGreatV46
/- Contains of numbers and of options; within. -/
namespace Go.Proofs.YthhdackaopaojaaGreat
open Go.RowKit Go.Tg Go.Maps

def eqB (a b : Opt) : Bool := decide (a.t = b.t) && decide (a.v = b.v)
theorem eqO (a b : Int) (s t : ByteArray) (w : World) : (binOp .eql 67 (.agg #[.int .i64 a, .string s]) (.agg #[.int .i64 b, .string t])).run Tryz.prog w = .ok (.bool (decide (a = b) && decide (s = t))) w := by
  have u3 := Tryz.underlying3
  have a3 := Tryz.isAgg3
  have z3 := Tryz.sizeOf3
  have u9 := Tryz.underlying9
  have a9 := Tryz.isAgg9
  have z9 := Tryz.sizeOf9
  have hS : Tryz.prog.underlying 67 = some (.struct (Tryz.prog.fieldsOf 67)) := by kernel_rfl
  have hp : Tryz.prog.stoodInHeld 67 = false := by kernel_rfl
  rw [run_eql_struct, show (10000 : Nat) = 9999 + 1 from rfl, run_equalIn_agg w 9999 67 _ _ hS hp]
  simp only [Program.fieldsOf, Tryz.underlying67]
  go_simp
  by_cases h1 : a = b <;> by_cases h2 : s = t <;> simp [h1, h2]
  intro h
  rw [ByteArray.toList_eq, ByteArray.toList_eq] at h
  exact h2 (ByteArray.ext (Array.ext' h))

theorem Nums.at {w : World} {ok : Nat → Prop} {sa : Option Addr} {n c : Nat} {l : List Int} (h : Nums w ok (.slice sa n c) l) (i : Nat) (hi : i < l.length) :
    ∃ b off, sa = some ⟨b, off, none⟩ ∧ b < w.heap.size ∧ w.cell? ⟨b, off + i, none⟩ = some (.int .i64 l[i]) := by
  obtain ⟨b, off, e, hb, -, -, -, -, hc⟩ := Rec.at h i (by rw [intL_len]; exact hi)
  refine ⟨b, off, e, hb, ?_⟩
  have := hc 0 (.int .i64 l[i]) (by simp [intL])
  rwa [Nat.mul_one, Nat.add_zero] at this

set_option maxHeartbeats 2000000 in
set_option maxRecDepth 100000 in
theorem idxN_any (xs : List Int) (v : Value) (ok : Nat → Prop) (x : Int) (w : World) (h : Nums w ok v xs) (hl : xs.length ≤ 1000000) :
    Calls Tryz.prog 121 #[v, .int .i64 x] w fun e w' => ∃ r, e = .returned (.int .i64 r) ∧ Has xs x r ∧ w = w' := by
  obtain ⟨sa, c, rfl, hc, hm⟩ := h.form
  have H := Lib.hid h
  obtain ⟨len, hln⟩ : ∃ len, len = xs.length := ⟨_, rfl⟩
  have HLN := Lib.hid hln
  rw [← hln] at hc hl ⊢
  unfold maxLen at hm
  clear h hln
  go_enter Tryz.func121, Tryz.ntmps121
  go_wp2_with fail
  go_loopg [8] len (fun y i wr => ∃ k : Nat, k ≤ len ∧ y = len - k ∧ i = .int .i64 k ∧ Hid (w = wr ∧ ∀ (j : Nat) (h : j < xs.length), j < k → xs[j] ≠ x))
  case atStart => exact ⟨0, by omega, by omega, rfl, rfl, fun j _ h => by omega⟩
  case round =>
    obtain ⟨k, hk, rfl, rfl, hK⟩ := hrel
    obtain ⟨rfl, hno⟩ := hK.out
    have HNO := Lib.hid hno
    clear hK hno
    by_cases hlt : k < len
    · have hlt' : k < xs.length := by have := HLN.out; omega
      obtain ⟨b, off, rfl, -, hck⟩ := H.out.at k hlt'
      by_cases hx : x = xs[k]
      · have hxb : (x == xs[k]) = true := by simpa using hx
        have HX := Lib.hid hx
        clear hx
        go_wp2_with fail
        go_ret
        refine ⟨k, rfl, ?_, rfl⟩
        have : hasB xs x = true := by unfold hasB; rw [List.contains_iff_mem, HX.out]; exact List.getElem_mem hlt'
        unfold Has; rw [this]; simp
      · have hxb : (x == xs[k]) = false := by simpa using hx
        have HX := Lib.hid hx
        clear hx
        go_wp2_with fail
        go_roundg (len - (k + 1))
        case measure => omega
        case rel =>
          refine ⟨k + 1, by omega, rfl, by go_num, rfl, fun j hj hjk => ?_⟩
          rcases Nat.lt_or_ge j k with h | h
          · exact HNO.out j hj h
          · obtain rfl : j = k := by omega
            exact fun e => HX.out e.symm
    · go_wp2_with fail
      go_ret
      refine ⟨-1, rfl, ?_, rfl⟩
      have : hasB xs x = false := by
        unfold hasB
        cases hc : xs.contains x with
        | false => rfl
        | true =>
          rw [List.contains_iff_mem] at hc
          obtain ⟨j, hj, he⟩ := List.getElem_of_mem hc
          exact absurd he (HNO.out j hj (by have := HLN.out; omega))
      unfold Has; rw [this]; rfl

set_option maxHeartbeats 1000000 in
theorem hasN_any (xs : List Int) (v : Value) (ok : Nat → Prop) (x : Int) (w : World) (h : Nums w ok v xs) (hl : xs.length ≤ 1000000) :
    Calls Tryz.prog 108 #[v, .int .i64 x] w fun e w' => e = .returned (.bool (hasB xs x)) ∧ w = w' := by
  have H := Lib.hid (idxN_any xs v ok x w h hl)
  clear h hl
  go_enter Tryz.func108, Tryz.ntmps108
  go_wp2_with fail
  refine H.out.mono ?_
  rintro e w' ⟨r, rfl, hr, rfl⟩
  go_wp2
  go_ret
  exact ⟨by rw [← show decide (0 ≤ r) = hasB xs x from hr]; rfl, rfl⟩

/-! ### Options -/
set_option maxHeartbeats 4000000 in
set_option maxRecDepth 100000 in
theorem idxE_any (l : List Opt) (lv : Value) (ok : Nat → Prop) (o : Opt) (w : World) (hl : Opts w ok lv l) (hmax : l.length ≤ 1000000) :
    Calls Tryz.prog 122 #[lv, .agg #[.int .i64 o.t, .string o.v]] w fun e w' => e = .returned (.int .i64 (idxP (eqB o) l)) ∧ Below w.heap.size w w' := by
  obtain ⟨sa, c, rfl, hc, hm⟩ := hl.form
  have HL := Lib.hid hl
  obtain ⟨len, hln⟩ : ∃ len, len = l.length := ⟨_, rfl⟩
  have HLN := Lib.hid hln
  rw [← hln] at hc hmax ⊢
  unfold maxLen at hm
  have HX := Lib.hid (at1 w (.cells #[.int .i64 o.t, .string o.v] 67 (0, 0)))
  have HB0 := Lib.hid (show Below w.heap.size w (w.alloc (.cells #[.int .i64 o.t, .string o.v] 67 (0, 0))) from (Below.refl _ _).alloc (Nat.le_refl _) _)
  have HS0 := Lib.hid (alloc1 w (.cells #[.int .i64 o.t, .string o.v] 67 (0, 0)))
  have HP := Lib.hid (fun k (hk : k < l.length) => idxP_hit (eqB o) l k hk)
  have HM := Lib.hid (idxP_miss (eqB o) l)
  have HE := Lib.hid (fun a b => eqO o.t a o.v b)
  have HQ := Lib.hid (show ∀ x : Opt, eqB o x = (decide (o.t = x.t) && decide (o.v = x.v)) from fun _ => rfl)
  generalize eqB o = p at *
  generalize o.t = t at *
  generalize o.v = v at *
  clear hl hln
  go_enter Tryz.func122, Tryz.ntmps122
  go_wp2_with fail
  go_loopg [8] len (fun x i wr => ∃ k : Nat, k ≤ len ∧ x = len - k ∧ i = .int .i64 k ∧ Hid (Below w.heap.size w wr ∧ wr.heap[w.heap.size]? = some (.cells #[.int .i64 t, .string v] 67 (0, 0)) ∧ ∀ j (hj : j < l.length), j < k → p l[j] = false))
  case atStart => exact ⟨0, by omega, by omega, rfl, HB0.out, HX.out, fun j _ h => absurd h (Nat.not_lt_zero _)⟩
  case round =>
    obtain ⟨k, hk, rfl, rfl, hK⟩ := hrel
    have HK := Lib.hid hK.out
    clear hK
    by_cases hkl : k < len
    · have hkl' : k < l.length := by have := HLN.out; omega
      obtain ⟨b, off, rfl, hb, -, -, -, -, c0, c1⟩ := HL.out.at k hkl'
      have d0 : wr.cell? ⟨b, off + k * 2, none⟩ = _ := (HK.out.1.cell (p := ⟨b, off + k * 2, none⟩) hb).trans c0
      have d1 : wr.cell? ⟨b, off + k * 2 + 1, none⟩ = _ := (HK.out.1.cell (p := ⟨b, off + k * 2 + 1, none⟩) hb).trans c1
      have d2 : wr.cell? ⟨w.heap.size, 0, none⟩ = some (.int .i64 t) := cellOf HK.out.2.1 0 _ rfl
      have d3 : wr.cell? ⟨w.heap.size, 1, none⟩ = some (.string v) := cellOf HK.out.2.1 1 _ rfl
      have HH := Lib.hid (HP.out k hkl')
      have HY : Hid (∀ (y : Bool), p l[k] = y → y = false → ∀ j (hj : j < l.length), j < k + 1 → p l[j] = false) := Lib.hid (by
        intro y hy hf j hj hlt
        rcases Nat.lt_or_ge j k with h | h
        · exact HK.out.2.2 j hj h
        · obtain rfl : j = k := by omega
          rw [hy, hf])
      have hq := HQ.out l[k]
      clear c0 c1
      generalize p l[k] = y at hq HH HY
      generalize l[k] = o at *
      obtain ⟨t', v'⟩ := o
      simp only at d0 d1 hq
      have hn : ∀ w, (binOp .eql 67 (.agg #[.int .i64 t, .string v]) (.agg #[.int .i64 t', .string v'])).run Tryz.prog w = .ok (.bool y) w := fun w => by rw [eqO, hq]
      clear hq
      cases y with
      | true =>
        go_wp2_with fail
        go_quiet (fail)
        go_wp2_with fail
        go_ret
        exact ⟨by rw [HH.out (by first | exact trivial | rfl) HK.out.2.2]; rfl, belowN HK.out.1 _⟩
      | false =>
        go_wp2_with fail
        go_quiet (fail)
        go_wp2_with fail
        go_roundg (len - (k + 1))
        case measure => omega
        case rel => exact ⟨k + 1, by omega, rfl, by go_num, ⟨HK.out.1.os, HK.out.1.tape, HK.out.1.output, HK.out.1.size, HK.out.1.block⟩, HK.out.2.1, HY.out false rfl rfl⟩
    · go_wp2_with fail
      go_ret
      exact ⟨by rw [HM.out (fun j hj => HK.out.2.2 j hj (by have := HLN.out; omega))]; rfl, HK.out.1⟩

set_option maxHeartbeats 1000000 in
theorem conO_any (l : List Opt) (lv : Value) (ok : Nat → Prop) (o : Opt) (w : World) (hl : Opts w ok lv l) (hmax : l.length ≤ 1000000) :
    Calls Tryz.prog 113 #[lv, .agg #[.int .i64 o.t, .string o.v]] w fun e w' => e = .returned (.bool (l.any (eqB o))) ∧ Below w.heap.size w w' := by
  have HB0 := Lib.hid (show Below w.heap.size w (w.alloc (.cells #[.int .i64 o.t, .string o.v] 67 (0, 0))) from (Below.refl _ _).alloc (Nat.le_refl _) _)
  have HI := Lib.hid (idxE_any l lv ok o (w.alloc (.cells #[.int .i64 o.t, .string o.v] 67 (0, 0))) (hl.below HB0.out) hmax)
  obtain ⟨sa, c, rfl, hc, hm⟩ := hl.form
  have HA := Lib.hid (any_idx (eqB o) l)
  generalize idxP (eqB o) l = i at HI HA
  generalize l.any (eqB o) = y at HA ⊢
  obtain ⟨t, v⟩ := o
  simp only at HI HB0 ⊢
  clear hl
  go_enter Tryz.func113, Tryz.ntmps113
  go_wp2_with fail
  refine HI.out.mono ?_
  rintro e w' ⟨rfl, hb⟩
  go_wp2_with fail
  go_ret
  exact ⟨by rw [← HA.out]; rfl, HB0.out.trans (hb.mono HB0.out.size)⟩
end Go.Proofs.YthhdackaopaojaaGreat
