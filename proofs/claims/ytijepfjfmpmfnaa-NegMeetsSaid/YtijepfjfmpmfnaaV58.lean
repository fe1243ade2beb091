import Derived.Test.YtijepfjfmpmfnaaV47
import Derived.Test.YtijepfjfmpmfnaaTgHeld3
/- within. -/
namespace Go.Proofs.Ytijepfjfmpmfnaa
open Go.RowKit Go.Tg Go.Maps

/-- Does l stand in the request, in that order? (The request first.) -/
def wB : List Opt → List Opt → Bool
  | _, [] => true
  | [], _ :: _ => false
  | r :: rs, o :: l => if eqB r o then wB rs l else wB rs (o :: l)
theorem wB_nil (req : List Opt) : wB req [] = true := by cases req <;> rfl
theorem wB_end (req : List Opt) (o : Opt) (l : List Opt) (a : Nat) (h : req.length ≤ a) : wB (req.drop a) (o :: l) = false := by rw [List.drop_of_length_le h]; rfl
theorem wB_at (req : List Opt) (o : Opt) (l : List Opt) (a : Nat) (h : a < req.length) : wB (req.drop a) (o :: l) = if eqB req[a] o then wB (req.drop (a + 1)) l else wB (req.drop (a + 1)) (o :: l) := by
  rw [List.drop_eq_getElem_cons h]; rfl

set_option maxHeartbeats 8000000 in
set_option maxRecDepth 100000 in
theorem within_any (l req : List Opt) (lv rv : Value) (ok ok' : Nat → Prop) (w : World) (hl : Opts w ok lv l) (hr : Opts w ok' rv req) (hm : l.length ≤ 1000000) (hm' : req.length ≤ 1000000) :
    Calls Try.prog 79 #[lv, rv] w fun e w' => e = .returned (.bool (wB req l)) ∧ Below w.heap.size w w' := by
  obtain ⟨sa, c, rfl, hc, hcm⟩ := hl.form
  obtain ⟨ra, rc, rfl, hrc, hrcm⟩ := hr.form
  have HL := Lib.hid hl
  have HR := Lib.hid hr
  obtain ⟨len, hln⟩ : ∃ len, len = l.length := ⟨_, rfl⟩
  have HLN := Lib.hid hln
  obtain ⟨m, hmn⟩ : ∃ m, m = req.length := ⟨_, rfl⟩
  have HMN := Lib.hid hmn
  rw [← hln] at hc hm ⊢
  rw [← hmn] at hrc hm' ⊢
  unfold maxLen at hcm hrcm
  clear hl hr hln hmn
  go_enter Try.func79, Try.ntmps79
  go_wp2_with fail
  go_loopg [10, 5] len (fun x i a wr => ∃ (k at' : Nat), k ≤ len ∧ at' ≤ m ∧ x = len - k ∧ i = .int .i64 k ∧ a = .int .i64 at' ∧ Hid (Below w.heap.size w wr ∧ wB req l = wB (req.drop at') (l.drop k)))
  case atStart => exact ⟨0, 0, by omega, by omega, by omega, rfl, rfl, Below.refl _ _, rfl⟩
  case round =>
    obtain ⟨k, a, hk, ha, rfl, rfl, rfl, hK⟩ := hrel
    have HK := Lib.hid hK.out
    clear hK
    by_cases hkl : k < len
    · have hkl' : k < l.length := by have := HLN.out; omega
      obtain ⟨b, off, rfl, hb, -, -, -, -, c0, c1⟩ := HL.out.at k hkl'
      have d0 : wr.cell? ⟨b, off + k * 2, none⟩ = _ := (HK.out.1.cell (p := ⟨b, off + k * 2, none⟩) hb).trans c0
      have d1 : wr.cell? ⟨b, off + k * 2 + 1, none⟩ = _ := (HK.out.1.cell (p := ⟨b, off + k * 2 + 1, none⟩) hb).trans c1
      have HD := Lib.hid (show l.drop k = l[k] :: l.drop (k + 1) from List.drop_eq_getElem_cons hkl')
      have hb1 := HK.out.1.alloc HK.out.1.size (.cells #[.int .i64 l[k].t, .string l[k].v] 46 (0, 0))
      have hx := at1 wr (.cells #[.int .i64 l[k].t, .string l[k].v] 46 (0, 0))
      generalize l[k] = o at *
      obtain ⟨rest, hrest⟩ : ∃ rest, rest = l.drop (k + 1) := ⟨_, rfl⟩
      rw [← hrest] at HD
      have HRE := Lib.hid hrest
      clear hrest
      obtain ⟨t, v⟩ := o
      simp only at d0 d1 hb1 hx
      rw [HD.out] at HK
      have HX := Lib.hid (And.intro hb1 hx)
      clear c0 c1 hb1 hx
      go_wp2_with fail
      generalize wr.alloc (.cells #[.int .i64 t, .string v] 46 (0, 0)) = W1 at HX ⊢
      generalize wr.heap.size = xb at HX ⊢
      go_loopg [5] (m - a) (fun x av wi => ∃ a' : Nat, a' ≤ m ∧ x = m - a' ∧ av = .int .i64 a' ∧ Hid (Below w.heap.size w wi ∧ wi.heap[xb]? = some (.cells #[.int .i64 t, .string v] 46 (0, 0)) ∧ wB req l = wB (req.drop a') (⟨t, v⟩ :: rest)))
      case atStart => exact ⟨a, ha, by omega, rfl, HX.out.1, HX.out.2, HK.out.2⟩
      case round =>
        obtain ⟨a', ha', rfl, rfl, hI⟩ := hrel
        have HI := Lib.hid hI.out
        clear hI
        have x0 := cellOf HI.out.2.1 0 (.int .i64 t) rfl
        have x1 := cellOf HI.out.2.1 1 (.string v) rfl
        by_cases ham : a' < m
        · have ham' : a' < req.length := by have := HMN.out; omega
          obtain ⟨rb, roff, rfl, hrb, -, -, -, -, r0, r1⟩ := HR.out.at a' ham'
          have e0 : wr.cell? ⟨rb, roff + a' * 2, none⟩ = _ := (HI.out.1.cell (p := ⟨rb, roff + a' * 2, none⟩) hrb).trans r0
          have e1 : wr.cell? ⟨rb, roff + a' * 2 + 1, none⟩ = _ := (HI.out.1.cell (p := ⟨rb, roff + a' * 2 + 1, none⟩) hrb).trans r1
          have HW := Lib.hid (wB_at req ⟨t, v⟩ rest a' ham')
          have hn0 := fun w => neqO req[a'].t t req[a'].v v w
          have hq : eqB req[a'] ⟨t, v⟩ = (decide (req[a'].t = t) && decide (req[a'].v = v)) := rfl
          rw [← hq] at hn0
          clear r0 r1 hq
          generalize eqB req[a'] ⟨t, v⟩ = y at HW hn0
          generalize req[a'] = o' at *
          obtain ⟨t', v'⟩ := o'
          simp only at e0 e1 hn0
          have dlt : decide ((a' : Int) < (m : Int)) = true := by simp; omega
          have HSv : (fun X : World => X.cell? ⟨rb, roff + a' * 2, none⟩ = some (.int .i64 t') ∧ X.cell? ⟨rb, roff + a' * 2 + 1, none⟩ = some (.string v') ∧ X.cell? ⟨xb, 0, none⟩ = some (.int .i64 t) ∧ X.cell? ⟨xb, 1, none⟩ = some (.string v)) wr.drew := ⟨e0, e1, x0, x1⟩
          cases y with
          | true =>
            go_wp2_with fail
            refine wp_region_H (rgH 8 12) (fun X : World => X.cell? ⟨rb, roff + a' * 2, none⟩ = some (.int .i64 t') ∧ X.cell? ⟨rb, roff + a' * 2 + 1, none⟩ = some (.string v') ∧ X.cell? ⟨xb, 0, none⟩ = some (.int .i64 t) ∧ X.cell? ⟨xb, 1, none⟩ = some (.string v)) (by kernel_rfl) ?_
            refine wpAnyH_pure 0 (v := ?vv1) rfl (by kernel_rfl) (by kernel_rfl) (by kernel_rfl) (fun _ _ _ h => h) ?hy1 ?hh1
            case hy1 =>
              refine Or.inl ⟨by rfl, ?_⟩
              intro W _
              go_simp
              try with_reducible rfl
            simp only [Act.put, List.setIfInBounds_toArray, List.set_cons_zero, List.set_cons_succ]
            refine wpAnyH_pure 1 (v := ?vv2) rfl (by kernel_rfl) (by kernel_rfl) (by kernel_rfl) (fun _ _ _ h => h) ?hy2 ?hh2
            case hy2 =>
              refine Or.inl ⟨by rfl, ?_⟩
              intro W _
              go_simp
              try with_reducible rfl
            simp only [Act.put, List.setIfInBounds_toArray, List.set_cons_zero, List.set_cons_succ]
            refine wpAnyH_pure 2 (v := ?vv3) rfl (by kernel_rfl) (by kernel_rfl) (by kernel_rfl) (fun _ _ _ h => h) ?hy3 ?hh3
            case hy3 =>
              refine Or.inl ⟨by rfl, ?_⟩
              intro W _
              go_simp
              try with_reducible rfl
            simp only [Act.put, List.setIfInBounds_toArray, List.set_cons_zero, List.set_cons_succ]
            refine wpAnyH_pure 3 (v := ?vv4) rfl (by kernel_rfl) (by kernel_rfl) (by kernel_rfl) (fun _ _ _ h => h) ?hy4 ?hh4
            case hy4 =>
              refine Or.inl ⟨by rfl, ?_⟩
              intro W _
              go_simp
              try with_reducible rfl
            simp only [Act.put, List.setIfInBounds_toArray, List.set_cons_zero, List.set_cons_succ]
            refine wpAnyH_pure 4 (v := ?vv5) rfl (by kernel_rfl) (by kernel_rfl) (by kernel_rfl) (fun _ _ _ h => h) ?hy5 ?hh5
            case hy5 =>
              refine Or.inl ⟨by rfl, ?_⟩
              intro W _
              go_simp
              try with_reducible rfl
            simp only [Act.put, List.setIfInBounds_toArray, List.set_cons_zero, List.set_cons_succ]
            refine wpAnyH_pure 5 (v := ?vv6) rfl (by kernel_rfl) (by kernel_rfl) (by kernel_rfl) (fun _ _ _ h => h) ?hy6 ?hh6
            case hy6 =>
              refine Or.inl ⟨by rfl, ?_⟩
              intro W _
              go_simp
              try with_reducible rfl
            simp only [Act.put, List.setIfInBounds_toArray, List.set_cons_zero, List.set_cons_succ]
            refine wpAnyH_pure 6 (v := ?vv7) rfl (by kernel_rfl) (by kernel_rfl) (by kernel_rfl) (fun _ _ _ h => h) ?hy7 ?hh7
            case hy7 =>
              refine Or.inl ⟨by rfl, ?_⟩
              intro W _
              go_simp
              try with_reducible rfl
            simp only [Act.put, List.setIfInBounds_toArray, List.set_cons_zero, List.set_cons_succ]
            refine wpAnyH_pure 7 (v := ?vv8) rfl (by kernel_rfl) (by kernel_rfl) (by kernel_rfl) (fun _ _ _ h => h) ?hy8 ?hh8
            case hy8 =>
              refine Or.inl ⟨by rfl, ?_⟩
              intro W _
              go_simp
              try with_reducible rfl
            simp only [Act.put, List.setIfInBounds_toArray, List.set_cons_zero, List.set_cons_succ]
            refine wpAnyH_at 8 (v := ?vv9) rfl (by kernel_rfl) (by kernel_rfl) (by kernel_rfl) (fun _ _ _ h => h) ?hy9 HSv ?hh9
            case hy9 =>
              refine Or.inl ⟨by rfl, ?_⟩
              intro W hW
              obtain ⟨h0, h1, h2, h3⟩ := hW
              go_simp
              try with_reducible rfl
            simp only [Act.put, List.setIfInBounds_toArray, List.set_cons_zero, List.set_cons_succ]
            refine wpAnyH_at 9 (v := ?vv10) rfl (by kernel_rfl) (by kernel_rfl) (by kernel_rfl) (fun _ _ _ h => h) ?hy10 HSv ?hh10
            case hy10 =>
              refine Or.inl ⟨by rfl, ?_⟩
              intro W hW
              obtain ⟨h0, h1, h2, h3⟩ := hW
              go_simp
              try with_reducible rfl
            simp only [Act.put, List.setIfInBounds_toArray, List.set_cons_zero, List.set_cons_succ]
            refine wpAnyH_at 10 (v := ?vv11) rfl (by kernel_rfl) (by kernel_rfl) (by kernel_rfl) (fun _ _ _ h => h) ?hy11 HSv ?hh11
            case hy11 =>
              refine Or.inl ⟨by rfl, ?_⟩
              intro W hW
              obtain ⟨h0, h1, h2, h3⟩ := hW
              go_simp
              try with_reducible rfl
            simp only [Act.put, List.setIfInBounds_toArray, List.set_cons_zero, List.set_cons_succ]
            refine wpAnyH_at 11 (v := ?vv12) rfl (by kernel_rfl) (by kernel_rfl) (by kernel_rfl) (fun _ _ _ h => h) ?hy12 HSv ?hh12
            case hy12 =>
              refine Or.inl ⟨by rfl, ?_⟩
              intro W hW
              obtain ⟨h0, h1, h2, h3⟩ := hW
              go_simp
              try with_reducible rfl
            simp only [Act.put, List.setIfInBounds_toArray, List.set_cons_zero, List.set_cons_succ]
            refine wpAnyH_end 12 (fun j hj => rgH_end _ _ j (by omega)) (by rfl) (by kernel_rfl) ?_
            simp only [List.drop_succ_cons, List.drop_zero]
            have dne : ((a' : Int) == (m : Int)) = false := by simp; omega
            go_wp2_with fail
            go_roundg (len - (k + 1))
            case measure => omega
            case rel => exact ⟨k + 1, a' + 1, by omega, by omega, rfl, by go_num, by go_num, HI.out.1.drew, by rw [HI.out.2.2, HW.out, ← HRE.out]; exact if_pos trivial⟩
          | false =>
            go_wp2_with fail
            refine wp_region_H (rgH 8 12) (fun X : World => X.cell? ⟨rb, roff + a' * 2, none⟩ = some (.int .i64 t') ∧ X.cell? ⟨rb, roff + a' * 2 + 1, none⟩ = some (.string v') ∧ X.cell? ⟨xb, 0, none⟩ = some (.int .i64 t) ∧ X.cell? ⟨xb, 1, none⟩ = some (.string v)) (by kernel_rfl) ?_
            refine wpAnyH_pure 0 (v := ?vv13) rfl (by kernel_rfl) (by kernel_rfl) (by kernel_rfl) (fun _ _ _ h => h) ?hy13 ?hh13
            case hy13 =>
              refine Or.inl ⟨by rfl, ?_⟩
              intro W _
              go_simp
              try with_reducible rfl
            simp only [Act.put, List.setIfInBounds_toArray, List.set_cons_zero, List.set_cons_succ]
            refine wpAnyH_pure 1 (v := ?vv14) rfl (by kernel_rfl) (by kernel_rfl) (by kernel_rfl) (fun _ _ _ h => h) ?hy14 ?hh14
            case hy14 =>
              refine Or.inl ⟨by rfl, ?_⟩
              intro W _
              go_simp
              try with_reducible rfl
            simp only [Act.put, List.setIfInBounds_toArray, List.set_cons_zero, List.set_cons_succ]
            refine wpAnyH_pure 2 (v := ?vv15) rfl (by kernel_rfl) (by kernel_rfl) (by kernel_rfl) (fun _ _ _ h => h) ?hy15 ?hh15
            case hy15 =>
              refine Or.inl ⟨by rfl, ?_⟩
              intro W _
              go_simp
              try with_reducible rfl
            simp only [Act.put, List.setIfInBounds_toArray, List.set_cons_zero, List.set_cons_succ]
            refine wpAnyH_pure 3 (v := ?vv16) rfl (by kernel_rfl) (by kernel_rfl) (by kernel_rfl) (fun _ _ _ h => h) ?hy16 ?hh16
            case hy16 =>
              refine Or.inl ⟨by rfl, ?_⟩
              intro W _
              go_simp
              try with_reducible rfl
            simp only [Act.put, List.setIfInBounds_toArray, List.set_cons_zero, List.set_cons_succ]
            refine wpAnyH_pure 4 (v := ?vv17) rfl (by kernel_rfl) (by kernel_rfl) (by kernel_rfl) (fun _ _ _ h => h) ?hy17 ?hh17
            case hy17 =>
              refine Or.inl ⟨by rfl, ?_⟩
              intro W _
              go_simp
              try with_reducible rfl
            simp only [Act.put, List.setIfInBounds_toArray, List.set_cons_zero, List.set_cons_succ]
            refine wpAnyH_pure 5 (v := ?vv18) rfl (by kernel_rfl) (by kernel_rfl) (by kernel_rfl) (fun _ _ _ h => h) ?hy18 ?hh18
            case hy18 =>
              refine Or.inl ⟨by rfl, ?_⟩
              intro W _
              go_simp
              try with_reducible rfl
            simp only [Act.put, List.setIfInBounds_toArray, List.set_cons_zero, List.set_cons_succ]
            refine wpAnyH_pure 6 (v := ?vv19) rfl (by kernel_rfl) (by kernel_rfl) (by kernel_rfl) (fun _ _ _ h => h) ?hy19 ?hh19
            case hy19 =>
              refine Or.inl ⟨by rfl, ?_⟩
              intro W _
              go_simp
              try with_reducible rfl
            simp only [Act.put, List.setIfInBounds_toArray, List.set_cons_zero, List.set_cons_succ]
            refine wpAnyH_pure 7 (v := ?vv20) rfl (by kernel_rfl) (by kernel_rfl) (by kernel_rfl) (fun _ _ _ h => h) ?hy20 ?hh20
            case hy20 =>
              refine Or.inl ⟨by rfl, ?_⟩
              intro W _
              go_simp
              try with_reducible rfl
            simp only [Act.put, List.setIfInBounds_toArray, List.set_cons_zero, List.set_cons_succ]
            refine wpAnyH_at 8 (v := ?vv21) rfl (by kernel_rfl) (by kernel_rfl) (by kernel_rfl) (fun _ _ _ h => h) ?hy21 HSv ?hh21
            case hy21 =>
              refine Or.inl ⟨by rfl, ?_⟩
              intro W hW
              obtain ⟨h0, h1, h2, h3⟩ := hW
              go_simp
              try with_reducible rfl
            simp only [Act.put, List.setIfInBounds_toArray, List.set_cons_zero, List.set_cons_succ]
            refine wpAnyH_at 9 (v := ?vv22) rfl (by kernel_rfl) (by kernel_rfl) (by kernel_rfl) (fun _ _ _ h => h) ?hy22 HSv ?hh22
            case hy22 =>
              refine Or.inl ⟨by rfl, ?_⟩
              intro W hW
              obtain ⟨h0, h1, h2, h3⟩ := hW
              go_simp
              try with_reducible rfl
            simp only [Act.put, List.setIfInBounds_toArray, List.set_cons_zero, List.set_cons_succ]
            refine wpAnyH_at 10 (v := ?vv23) rfl (by kernel_rfl) (by kernel_rfl) (by kernel_rfl) (fun _ _ _ h => h) ?hy23 HSv ?hh23
            case hy23 =>
              refine Or.inl ⟨by rfl, ?_⟩
              intro W hW
              obtain ⟨h0, h1, h2, h3⟩ := hW
              go_simp
              try with_reducible rfl
            simp only [Act.put, List.setIfInBounds_toArray, List.set_cons_zero, List.set_cons_succ]
            refine wpAnyH_at 11 (v := ?vv24) rfl (by kernel_rfl) (by kernel_rfl) (by kernel_rfl) (fun _ _ _ h => h) ?hy24 HSv ?hh24
            case hy24 =>
              refine Or.inl ⟨by rfl, ?_⟩
              intro W hW
              obtain ⟨h0, h1, h2, h3⟩ := hW
              go_simp
              try with_reducible rfl
            simp only [Act.put, List.setIfInBounds_toArray, List.set_cons_zero, List.set_cons_succ]
            refine wpAnyH_end 12 (fun j hj => rgH_end _ _ j (by omega)) (by rfl) (by kernel_rfl) ?_
            simp only [List.drop_succ_cons, List.drop_zero]
            go_wp2_with fail
            go_roundg (m - (a' + 1))
            case measure => omega
            case rel => exact ⟨a' + 1, by omega, rfl, by go_num, HI.out.1.drew, HI.out.2.1, by rw [HI.out.2.2, HW.out]; rfl⟩
        · obtain rfl : m = a' := by omega
          have HW := Lib.hid (wB_end req ⟨t, v⟩ rest m (by have := HMN.out; omega))
          have dlt : decide ((m : Int) < (m : Int)) = false := by simp
          go_wp2_with fail
          refine wp_region_H (rgH 0 0) (fun X : World => True) (by kernel_rfl) ?_
          refine wpAnyH_pure 0 (v := ?vv25) rfl (by kernel_rfl) (by kernel_rfl) (by kernel_rfl) (fun _ _ _ h => h) ?hy25 ?hh25
          case hy25 =>
            refine Or.inl ⟨by rfl, ?_⟩
            intro W _
            go_simp
            try with_reducible rfl
          simp only [Act.put, List.setIfInBounds_toArray, List.set_cons_zero, List.set_cons_succ]
          refine wpAnyH_pure 1 (v := ?vv26) rfl (by kernel_rfl) (by kernel_rfl) (by kernel_rfl) (fun _ _ _ h => h) ?hy26 ?hh26
          case hy26 =>
            refine Or.inl ⟨by rfl, ?_⟩
            intro W _
            go_simp
            try with_reducible rfl
          simp only [Act.put, List.setIfInBounds_toArray, List.set_cons_zero, List.set_cons_succ]
          refine wpAnyH_pure 2 (v := ?vv27) rfl (by kernel_rfl) (by kernel_rfl) (by kernel_rfl) (fun _ _ _ h => h) ?hy27 ?hh27
          case hy27 =>
            refine Or.inl ⟨by rfl, ?_⟩
            intro W _
            go_simp
            try with_reducible rfl
          simp only [Act.put, List.setIfInBounds_toArray, List.set_cons_zero, List.set_cons_succ]
          refine wpAnyH_pure 3 (v := ?vv28) rfl (by kernel_rfl) (by kernel_rfl) (by kernel_rfl) (fun _ _ _ h => h) ?hy28 ?hh28
          case hy28 =>
            refine Or.inl ⟨by rfl, ?_⟩
            intro W _
            go_simp
            try with_reducible rfl
          simp only [Act.put, List.setIfInBounds_toArray, List.set_cons_zero, List.set_cons_succ]
          refine wpAnyH_pure 4 (v := ?vv29) rfl (by kernel_rfl) (by kernel_rfl) (by kernel_rfl) (fun _ _ _ h => h) ?hy29 ?hh29
          case hy29 =>
            refine Or.inl ⟨by rfl, ?_⟩
            intro W _
            go_simp
            try with_reducible rfl
          simp only [Act.put, List.setIfInBounds_toArray, List.set_cons_zero, List.set_cons_succ]
          refine wpAnyH_pure 5 (v := undef) rfl (by kernel_rfl) (by kernel_rfl) (by kernel_rfl) (fun _ _ _ h => h) (Or.inr ⟨by rfl, rfl⟩) ?_
          simp only [Act.put, List.setIfInBounds_toArray, List.set_cons_zero, List.set_cons_succ]
          refine wpAnyH_pure 6 (v := undef) rfl (by kernel_rfl) (by kernel_rfl) (by kernel_rfl) (fun _ _ _ h => h) (Or.inr ⟨by rfl, rfl⟩) ?_
          simp only [Act.put, List.setIfInBounds_toArray, List.set_cons_zero, List.set_cons_succ]
          refine wpAnyH_pure 7 (v := undef) rfl (by kernel_rfl) (by kernel_rfl) (by kernel_rfl) (fun _ _ _ h => h) (Or.inr ⟨by rfl, rfl⟩) ?_
          simp only [Act.put, List.setIfInBounds_toArray, List.set_cons_zero, List.set_cons_succ]
          refine wpAnyH_pure 8 (v := undef) rfl (by kernel_rfl) (by kernel_rfl) (by kernel_rfl) (fun _ _ _ h => h) (Or.inr ⟨by rfl, rfl⟩) ?_
          simp only [Act.put, List.setIfInBounds_toArray, List.set_cons_zero, List.set_cons_succ]
          refine wpAnyH_pure 9 (v := undef) rfl (by kernel_rfl) (by kernel_rfl) (by kernel_rfl) (fun _ _ _ h => h) (Or.inr ⟨by rfl, rfl⟩) ?_
          simp only [Act.put, List.setIfInBounds_toArray, List.set_cons_zero, List.set_cons_succ]
          refine wpAnyH_pure 10 (v := undef) rfl (by kernel_rfl) (by kernel_rfl) (by kernel_rfl) (fun _ _ _ h => h) (Or.inr ⟨by rfl, rfl⟩) ?_
          simp only [Act.put, List.setIfInBounds_toArray, List.set_cons_zero, List.set_cons_succ]
          refine wpAnyH_pure 11 (v := ?vv30) rfl (by kernel_rfl) (by kernel_rfl) (by kernel_rfl) (fun _ _ _ h => h) ?hy30 ?hh30
          case hy30 =>
            refine Or.inl ⟨by rfl, ?_⟩
            intro W _
            go_simp
            try with_reducible rfl
          simp only [Act.put, List.setIfInBounds_toArray, List.set_cons_zero, List.set_cons_succ]
          refine wpAnyH_end 12 (fun j hj => rgH_end _ _ j (by omega)) (by rfl) (by kernel_rfl) ?_
          simp only [List.drop_succ_cons, List.drop_zero]
          go_wp2_with fail
          go_ret
          exact ⟨by rw [HI.out.2.2, HW.out]; rfl, HI.out.1.drew⟩
    · obtain rfl : len = k := by omega
      have HE : Hid (wB req l = true) := Lib.hid (by rw [HK.out.2, HLN.out, List.drop_length, wB_nil])
      go_wp2_with fail
      go_ret
      exact ⟨by rw [HE.out]; rfl, HK.out.1⟩
end Go.Proofs.Ytijepfjfmpmfnaa
