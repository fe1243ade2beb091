import Derived.Test.YtidlldfppoelnaaV12
namespace Go.Proofs.Ytidlldfppoelnaa
open Go.RowKit Go.Tg Go.Maps Go.Sort

/-- Have two options one type? -/
def twiceP : List Opt → List Opt → Bool
  | _, [] => false
  | pre, o :: l => pre.any (fun x => x.t == o.t) || twiceP (pre ++ [o]) l
theorem twiceP_app : ∀ (a pre b : List Opt), twiceP pre (a ++ b) = (twiceP pre a || twiceP (pre ++ a) b) := by
  intro a
  induction a with
  | nil => intro pre b; simp [twiceP]
  | cons x a ih => intro pre b; simp only [List.cons_append, twiceP, ih, List.append_assoc, List.nil_append, Bool.or_assoc]
theorem Opts.take {w : World} {ok : Nat → Prop} {sa : Option Addr} {n c : Nat} {l : List Opt} (h : Opts w ok (.slice sa n c) l) (i : Nat) (hi : i ≤ l.length) : Opts w ok (.slice sa i c) (l.take i) := by
  have := Rec.take h i (by rw [optL_len]; exact hi)
  unfold Opts optL at *
  rwa [List.map_take]
theorem findO_some (l : List Opt) (t : Int) : (findO l t).isSome = l.any (fun x => x.t == t) := by
  unfold findO
  induction l with
  | nil => rfl
  | cons x l ih =>
    rw [List.find?_cons, List.any_cons, ← ih]
    cases h : x.t == t <;> simp

set_option maxHeartbeats 4000000 in
set_option maxRecDepth 100000 in
theorem twice_any (l : List Opt) (lv : Value) (ok : Nat → Prop) (w : World) (hl : Opts w ok lv l) (hmax : l.length ≤ 1000000) :
    Calls Try.prog 57 #[lv] w fun e w' => e = .returned (.bool (twiceP [] l)) ∧ Below w.heap.size w w' := by
  obtain ⟨sa, c, rfl, hc, hm⟩ := hl.form
  have HL := Lib.hid hl
  obtain ⟨len, hln⟩ : ∃ len, len = l.length := ⟨_, rfl⟩
  have HLN := Lib.hid hln
  rw [← hln] at hc hmax ⊢
  unfold maxLen at hm
  clear hl hln
  go_enter Try.func57, Try.ntmps57
  go_wp2_with fail
  go_loopg [9] len (fun x i wr => ∃ k : Nat, k ≤ len ∧ x = len - k ∧ i = .int .i64 k ∧ Hid (twiceP [] (l.take k) = false ∧ Below w.heap.size w wr))
  case atStart => exact ⟨0, by omega, by omega, rfl, rfl, Below.refl _ _⟩
  case round =>
    obtain ⟨k, hk, rfl, rfl, hK⟩ := hrel
    have HK := Lib.hid hK.out
    clear hK
    by_cases hkl : k < len
    · have hkl' : k < l.length := by have := HLN.out; omega
      obtain ⟨b, off, rfl, hb, -, -, -, -, c0, c1⟩ := HL.out.at k hkl'
      have d0 : wr.cell? ⟨b, off + k * 2, none⟩ = _ := (HK.out.2.cell (p := ⟨b, off + k * 2, none⟩) hb).trans c0
      have d1 : wr.cell? ⟨b, off + k * 2 + 1, none⟩ = _ := (HK.out.2.cell (p := ⟨b, off + k * 2 + 1, none⟩) hb).trans c1
      have hT : twiceP [] (l.take (k + 1)) = (l.take k).any (fun x => x.t == l[k].t) := by
        rw [List.take_succ_eq_append_getElem hkl', twiceP_app, HK.out.1]
        simp [twiceP]
      have hA : twiceP [] l = (twiceP [] (l.take (k + 1)) || twiceP (l.take (k + 1)) (l.drop (k + 1))) := by
        have := twiceP_app (l.take (k + 1)) [] (l.drop (k + 1))
        rwa [List.take_append_drop, List.nil_append] at this
      have hoT := (HL.out.below HK.out.2).take k (by omega)
      have HFD := Lib.hid (fun W (hW : Below wr.heap.size wr W) => findO_any (l.take k) _ ok l[k].t W (hoT.below hW) (by rw [List.length_take]; omega))
      clear c0 c1 hoT
      rw [hT] at hA
      have HA := Lib.hid hA
      have HT := Lib.hid hT
      clear hA hT
      have HFS := Lib.hid (findO_some (l.take k) l[k].t)
      generalize (l.take k).any (fun x => x.t == l[k].t) = y at HA HT HFS
      rw [HFS.out] at HFD
      generalize ((findO (l.take k) l[k].t).getD default).v = fv at HFD
      clear HFS
      generalize l[k] = o at *
      obtain ⟨t, v⟩ := o
      simp only at d0 d1 HFD
      have hb0 : Below wr.heap.size wr (wr.alloc (.cells #[.int .i64 t, .string v] 46 (0, 0))) := (Below.refl _ _).alloc (Nat.le_refl _) _
      have hx := at1 wr (.cells #[.int .i64 t, .string v] 46 (0, 0))
      have x0 := cell_regrown (cellOf hx 0 _ rfl)
      have x1 := cell_regrown (cellOf hx 1 _ rfl)
      have HR := Lib.hid (fun d os => HFD.out _ (hb0.trans ((below_regrown (wr.alloc (.cells #[.int .i64 t, .string v] 46 (0, 0))) d os).mono (by rw [alloc1]; omega))))
      have HB0 := Lib.hid hb0
      have hsl : ∀ w, (Instr.slice 27 (.slice (some ⟨b, off, none⟩) len c) none (some (.int .i64 (k : Int))) none).run Try.prog w = .ok (.slice (some ⟨b, off, none⟩) k c) w := by
        intro w
        have h2 : (sizeOf (Try.prog.elem 27)).run Try.prog w = .ok 2 w := by kernel_rfl
        rw [run_slice_h (P := Try.prog) (w := w) 27 _ _ _ (by kernel_rfl) .i64 (k : Int) (by omega) (by omega), h2]
        simp only [Result.andThen, sliced, Int.toNat_natCast, Nat.sub_zero, Nat.zero_mul, Option.map_some, Addr.add_lit, Nat.add_zero, ite_self]
      clear hb0 hx
      go_wp2_with fail
      refine wp_region_quiet_below (by kernel_rfl) (by kernel_rfl) ?_
      repeat (quiet_step (first | (go_at_call 74; exact Calls.regrown_of (HR.out _ _))))
      refine wpQuiet_nil ?_
      rintro _ ⟨⟨nq, osq⟩, rfl⟩
      have HB := Lib.hid (HK.out.2.trans ((HB0.out.trans ((below_regrown _ nq osq).mono (by rw [alloc1]; omega))).mono HK.out.2.size))
      cases y with
      | true =>
        go_wp2_with fail
        go_ret
        exact ⟨by rw [HA.out]; rfl, HB.out⟩
      | false =>
        go_wp2_with fail
        go_roundg (len - (k + 1))
        case measure => omega
        case rel => exact ⟨k + 1, by omega, rfl, by go_num, HT.out, HB.out⟩
    · obtain rfl : len = k := by omega
      have HQ := Lib.hid (show l.take len = l from List.take_of_length_le (by have := HLN.out; omega))
      rw [HQ.out] at HK
      go_wp2_with fail
      go_ret
      exact ⟨by rw [HK.out.1]; rfl, HK.out.2⟩
end Go.Proofs.Ytidlldfppoelnaa
