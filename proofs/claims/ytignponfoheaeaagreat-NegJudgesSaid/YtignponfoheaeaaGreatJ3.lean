import Derived.Test.YtignponfoheaeaaGreatJ2
/- The reference's rule. -/
namespace Go.Proofs.YtignponfoheaeaaGreat
open Go.RowKit Go.Tg Go.Maps

set_option maxHeartbeats 8000000 in
set_option maxRecDepth 100000 in
theorem rule9_any (l : List Rl) (lv : Value) (ok : Nat → Prop) (kind : Int) (w : World) (hl : Rls w ok lv l) (hmax : l.length ≤ 1000000) :
    Calls Tryz.prog 145 #[lv, .int .i64 kind] w fun e w' => e = .returned (.tuple #[.agg #[.int .i64 (ruleOf l kind).t, .int .i64 (ruleOf l kind).len, .int .i64 (ruleOf l kind).min, .int .i64 (ruleOf l kind).max, .string (ruleOf l kind).s], .bool (findR l kind).isSome]) ∧ Below w.heap.size w w' := by
  obtain ⟨sa, c, rfl, hc, hm⟩ := hl.form
  have H := Lib.hid hl
  obtain ⟨len, hln⟩ : ∃ len, len = l.length := ⟨_, rfl⟩
  have HLN := Lib.hid hln
  have HX := Lib.hid (at1 w (.cells #[.int .i64 0, .int .i64 0, .int .i64 0, .int .i64 0, .string ⟨#[]⟩] 64 (0, 0)))
  have HB0 := Lib.hid (b1 w (.cells #[.int .i64 0, .int .i64 0, .int .i64 0, .int .i64 0, .string ⟨#[]⟩] 64 (0, 0)))
  have HH := Lib.hid (fun k (hk : k < l.length) (h : l[k].t = kind) hp => And.intro (findR_hit hk h hp) (show ruleOf l kind = l[k] by unfold ruleOf; rw [findR_hit hk h hp]; rfl))
  have HM := Lib.hid (fun (hp : ∀ j (hj : j < l.length), l[j].t ≠ kind) => And.intro (findR_miss hp) (show ruleOf l kind = ⟨0, 0, 0, 0, ⟨#[]⟩⟩ by unfold ruleOf; rw [findR_miss hp]; rfl))
  rw [← hln] at hc hmax ⊢
  generalize ruleOf l kind = ro at *
  generalize findR l kind = fo at *
  clear hln hl
  go_enter Tryz.func145, Tryz.ntmps145
  go_wp2_with fail
  go_loopg [6] len (fun x i wr => ∃ k : Nat, k ≤ len ∧ x = len - k ∧ i = .int .i64 k ∧ Hid (Below w.heap.size w wr ∧ wr.heap[w.heap.size]? = some (.cells #[.int .i64 0, .int .i64 0, .int .i64 0, .int .i64 0, .string ⟨#[]⟩] 64 (0, 0)) ∧ ∀ j (hj : j < l.length), j < k → l[j].t ≠ kind))
  case atStart => exact ⟨0, by omega, by omega, rfl, HB0.out, HX.out, fun j _ h => absurd h (Nat.not_lt_zero _)⟩
  case round =>
    obtain ⟨k, hk, rfl, rfl, hK⟩ := hrel
    have HK := Lib.hid hK.out
    clear hK
    by_cases hkl : k < len
    · have h1 : k < l.length := by have := HLN.out; omega
      obtain ⟨b, off, rfl, hb, -, -, -, -, c0, c1, c2, c3, c4⟩ := H.out.at k h1
      have d0 : wr.cell? ⟨b, off + k * 5, none⟩ = _ := (HK.out.1.cell (p := ⟨b, off + k * 5, none⟩) hb).trans c0
      have d1 : wr.cell? ⟨b, off + k * 5 + 1, none⟩ = _ := (HK.out.1.cell (p := ⟨b, off + k * 5 + 1, none⟩) hb).trans c1
      have d2 : wr.cell? ⟨b, off + k * 5 + 2, none⟩ = _ := (HK.out.1.cell (p := ⟨b, off + k * 5 + 2, none⟩) hb).trans c2
      have d3 : wr.cell? ⟨b, off + k * 5 + 3, none⟩ = _ := (HK.out.1.cell (p := ⟨b, off + k * 5 + 3, none⟩) hb).trans c3
      have d4 : wr.cell? ⟨b, off + k * 5 + 4, none⟩ = _ := (HK.out.1.cell (p := ⟨b, off + k * 5 + 4, none⟩) hb).trans c4
      have x0 : wr.cell? ⟨w.heap.size, 0, none⟩ = some _ := cellOf HK.out.2.1 0 _ rfl
      have x1 : wr.cell? ⟨w.heap.size, 1, none⟩ = some _ := cellOf HK.out.2.1 1 _ rfl
      have x2 : wr.cell? ⟨w.heap.size, 2, none⟩ = some _ := cellOf HK.out.2.1 2 _ rfl
      have x3 : wr.cell? ⟨w.heap.size, 3, none⟩ = some _ := cellOf HK.out.2.1 3 _ rfl
      have x4 : wr.cell? ⟨w.heap.size, 4, none⟩ = some _ := cellOf HK.out.2.1 4 _ rfl
      have y0 := fzOf HK.out.2.1 0
      have y1 := fzOf HK.out.2.1 1
      have y2 := fzOf HK.out.2.1 2
      have y3 := fzOf HK.out.2.1 3
      have y4 := fzOf HK.out.2.1 4
      have HT := Lib.hid (HH.out k h1)
      have HF := Lib.hid (show l[k].t ≠ kind → ∀ j (hj : j < l.length), j < k + 1 → l[j].t ≠ kind from fun h j hj hlt => by
        rcases Nat.lt_or_ge j k with h2 | h2
        · exact HK.out.2.2 j hj h2
        · obtain rfl : j = k := by omega
          exact h)
      clear c0 c1 c2 c3 c4
      generalize l[k] = x at *
      obtain ⟨t, ln, mn, mx, sg⟩ := x
      simp only at d0 d1 d2 d3 d4 HT HF
      by_cases ht : t = kind
      · have HT2 := Lib.hid (HT.out ht HK.out.2.2)
        subst ht
        clear HT HF
        go_wp2_with fail
        have hF := set5 HK.out.2.1 (.int .i64 t) (.int .i64 ln) (.int .i64 mn) (.int .i64 mx) (.string sg)
        have hBF := below5 HK.out.1 (Nat.le_refl w.heap.size) (b := w.heap.size) (.int .i64 t) (.int .i64 ln) (.int .i64 mn) (.int .i64 mx) (.string sg)
        generalize (((((wr.setCell ⟨w.heap.size, 0, none⟩ (.int .i64 t)).setCell ⟨w.heap.size, 1, none⟩ (.int .i64 ln)).setCell ⟨w.heap.size, 2, none⟩ (.int .i64 mn)).setCell ⟨w.heap.size, 3, none⟩ (.int .i64 mx)).setCell ⟨w.heap.size, 4, none⟩ (.string sg)) = WF at *
        have z0 : WF.cell? ⟨w.heap.size, 0, none⟩ = some (.int .i64 t) := cellOf hF 0 _ rfl
        have z1 : WF.cell? ⟨w.heap.size, 1, none⟩ = some (.int .i64 ln) := cellOf hF 1 _ rfl
        have z2 : WF.cell? ⟨w.heap.size, 2, none⟩ = some (.int .i64 mn) := cellOf hF 2 _ rfl
        have z3 : WF.cell? ⟨w.heap.size, 3, none⟩ = some (.int .i64 mx) := cellOf hF 3 _ rfl
        have z4 : WF.cell? ⟨w.heap.size, 4, none⟩ = some (.string sg) := cellOf hF 4 _ rfl
        exact bodyPost_ret (v := .tuple #[.agg #[(.int .i64 t), (.int .i64 ln), (.int .i64 mn), (.int .i64 mx), (.string sg)], .bool true]) (by simp [results, Tryz.results145, go_sem, z0, z1, z2, z3, z4]) rfl ⟨by rw [HT2.out.1, HT2.out.2]; rfl, hBF⟩
      · have HF2 := Lib.hid (HF.out ht)
        have hq : (t == kind) = false := by simpa using ht
        clear ht
        go_wp2_with fail
        go_roundg (len - (k + 1))
        case measure => omega
        case rel => exact ⟨k + 1, by omega, rfl, by go_num, HK.out.1, HK.out.2.1, HF2.out⟩
    · have HE := Lib.hid (HM.out fun j hj => HK.out.2.2 j hj (by have := HLN.out; omega))
      have x0 : wr.cell? ⟨w.heap.size, 0, none⟩ = some _ := cellOf HK.out.2.1 0 _ rfl
      have x1 : wr.cell? ⟨w.heap.size, 1, none⟩ = some _ := cellOf HK.out.2.1 1 _ rfl
      have x2 : wr.cell? ⟨w.heap.size, 2, none⟩ = some _ := cellOf HK.out.2.1 2 _ rfl
      have x3 : wr.cell? ⟨w.heap.size, 3, none⟩ = some _ := cellOf HK.out.2.1 3 _ rfl
      have x4 : wr.cell? ⟨w.heap.size, 4, none⟩ = some _ := cellOf HK.out.2.1 4 _ rfl
      have y0 := fzOf HK.out.2.1 0
      have y1 := fzOf HK.out.2.1 1
      have y2 := fzOf HK.out.2.1 2
      have y3 := fzOf HK.out.2.1 3
      have y4 := fzOf HK.out.2.1 4
      go_wp2_with fail
      have hF := set5 HK.out.2.1 (.int .i64 0) (.int .i64 0) (.int .i64 0) (.int .i64 0) (.string ⟨#[]⟩)
      have hBF := below5 HK.out.1 (Nat.le_refl w.heap.size) (b := w.heap.size) (.int .i64 0) (.int .i64 0) (.int .i64 0) (.int .i64 0) (.string ⟨#[]⟩)
      generalize (((((wr.setCell ⟨w.heap.size, 0, none⟩ (.int .i64 0)).setCell ⟨w.heap.size, 1, none⟩ (.int .i64 0)).setCell ⟨w.heap.size, 2, none⟩ (.int .i64 0)).setCell ⟨w.heap.size, 3, none⟩ (.int .i64 0)).setCell ⟨w.heap.size, 4, none⟩ (.string ⟨#[]⟩)) = WF at *
      have z0 : WF.cell? ⟨w.heap.size, 0, none⟩ = some (.int .i64 0) := cellOf hF 0 _ rfl
      have z1 : WF.cell? ⟨w.heap.size, 1, none⟩ = some (.int .i64 0) := cellOf hF 1 _ rfl
      have z2 : WF.cell? ⟨w.heap.size, 2, none⟩ = some (.int .i64 0) := cellOf hF 2 _ rfl
      have z3 : WF.cell? ⟨w.heap.size, 3, none⟩ = some (.int .i64 0) := cellOf hF 3 _ rfl
      have z4 : WF.cell? ⟨w.heap.size, 4, none⟩ = some (.string ⟨#[]⟩) := cellOf hF 4 _ rfl
      exact bodyPost_ret (v := .tuple #[.agg #[(.int .i64 0), (.int .i64 0), (.int .i64 0), (.int .i64 0), (.string ⟨#[]⟩)], .bool false]) (by simp [results, Tryz.results145, go_sem, z0, z1, z2, z3, z4]) rfl ⟨by rw [HE.out.1, HE.out.2]; rfl, hBF⟩
end Go.Proofs.YtignponfoheaeaaGreat
