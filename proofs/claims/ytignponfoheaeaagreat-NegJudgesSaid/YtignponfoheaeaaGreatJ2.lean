import Derived.Test.YtignponfoheaeaaGreatJ1
/- The reference's parts. -/
namespace Go.Proofs.YtignponfoheaeaaGreat
open Go.RowKit Go.Tg Go.Maps

set_option maxHeartbeats 4000000 in
set_option maxRecDepth 100000 in
theorem number9_any (s : ByteArray) (w : World) (hs : s.size ≤ 7) : Calls Tryz.prog 154 #[.string s] w fun e w' => e = .returned (.int .i64 (valB s.data.toList)) ∧ w = w' := by
  have HL := Lib.hid (show s.data.toList.length = s.size by rw [Array.length_toList]; rfl)
  go_enter Tryz.func154, Tryz.ntmps154
  go_wp2_with fail
  go_loopg [3, 4] s.size (fun x v i wr => ∃ k : Nat, k ≤ s.size ∧ x = s.size - k ∧ i = .int .i64 k ∧ v = .int .i64 (valB (s.data.toList.take k)) ∧ w = wr)
  case atStart => exact ⟨0, by omega, by omega, rfl, rfl, rfl⟩
  case round =>
    obtain ⟨k, hk, rfl, rfl, rfl, rfl⟩ := hrel
    by_cases hlt : k < s.size
    · have HB := Lib.hid (valB_snoc (s.data.toList.take k) s[k])
      have HT := Lib.hid (show s.data.toList.take (k + 1) = s.data.toList.take k ++ [s[k]] by
        rw [List.take_succ_eq_append_getElem (by have := HL.out; omega)]; rfl)
      have hlt1 := valB_lt (s.data.toList.take k) (by rw [List.length_take]; omega)
      have hE : wrap64 (wrap64 (valB (s.data.toList.take k) * 256) + (s[k].toNat : Int)) = valB (s.data.toList.take (k + 1)) := by
        rw [HT.out, HB.out]
        have h6 : (s.data.toList.take k).length ≤ 6 := by rw [List.length_take]; omega
        have hlt3 := valB_six (s.data.toList.take k) h6
        have := s[k].toNat_lt
        rw [show wrap64 (valB (s.data.toList.take k) * 256) = valB (s.data.toList.take k) * 256 from IntWalk.wrap64_in _ (by omega)]
        exact IntWalk.wrap64_in _ (by omega)
      have HE := Lib.hid hE
      clear hE hlt1
      have hbb : s[k].toNat < 256 := s[k].toNat_lt
      go_wp2_with fail
      go_roundg (s.size - (k + 1))
      case measure => omega
      case rel => exact ⟨k + 1, by omega, rfl, by go_num, by rw [HE.out], rfl⟩
    · obtain rfl : s.size = k := by omega
      have HA := Lib.hid (show s.data.toList.take s.size = s.data.toList from List.take_of_length_le (by rw [Array.length_toList]; exact Nat.le_refl _))
      go_wp2_with fail
      go_ret
      exact ⟨by rw [HA.out]; rfl, rfl⟩

set_option maxHeartbeats 4000000 in
set_option maxRecDepth 100000 in
theorem fits9_any (r : Rl) (v : ByteArray) (w : World) (hv : v.size ≤ 100000) :
    Calls Tryz.prog 32 #[.agg #[.int .i64 r.t, .int .i64 r.len, .int .i64 r.min, .int .i64 r.max, .string r.s], .string v] w fun e w' => e = .returned (.bool (fitsR r v)) ∧ Below w.heap.size w w' := by
  obtain ⟨t, len, mn, mx, sg⟩ := r
  have hb0 := (Below.refl w.heap.size w).alloc (Nat.le_refl _) (.cells #[.int .i64 t, .int .i64 len, .int .i64 mn, .int .i64 mx, .string sg] 64 (0, 0))
  by_cases h1 : (v.size : Int) = len
  · have hF : fitsR ⟨t, len, mn, mx, sg⟩ v = (decide (mn ≤ valB (v.data.toList.take 7)) && decide (valB (v.data.toList.take 7) ≤ mx)) := by simp [fitsR, h1]
    have HF := Lib.hid hF
    clear hF
    subst h1
    by_cases h7 : v.size ≤ 7
    · have hx : v.data.toList.take 7 = v.data.toList := List.take_of_length_le (by rw [str_len]; exact h7)
      rw [hx] at HF
      have HV := Lib.hid (fun w => number9_any v w h7)
      generalize valB v.data.toList = x at HF HV
      clear hx
      go_enter Tryz.func32, Tryz.ntmps32
      go_wp2_with fail
      refine (HV.out _).mono ?_
      rintro e w' ⟨rfl, rfl⟩
      go_wp2_with fail
      all_goals (
        go_ret
        refine ⟨?_, hb0⟩
        rw [HF.out]
        first | rfl | (simp; omega))
    · have hx : (v.extract 0 7).data.toList = v.data.toList.take 7 := ex_take v 7
      have hs7 : (v.extract 0 7).size ≤ 7 := by rw [ByteArray.size_extract]; omega
      have HV := Lib.hid (fun w => number9_any (v.extract 0 7) w hs7)
      rw [← hx] at HF
      generalize valB (v.extract 0 7).data.toList = x at HF HV
      clear hx hs7
      go_enter Tryz.func32, Tryz.ntmps32
      go_wp2_with fail
      refine (HV.out _).mono ?_
      rintro e w' ⟨rfl, rfl⟩
      go_wp2_with fail
      all_goals (
        go_ret
        refine ⟨?_, hb0⟩
        rw [HF.out]
        first | rfl | (simp; omega))
  · have hF : fitsR ⟨t, len, mn, mx, sg⟩ v = false := by simp [fitsR, h1]
    have HF := Lib.hid hF
    have q1 : ((v.size : Int) != len) = true := by simpa using h1
    clear hF
    go_enter Tryz.func32, Tryz.ntmps32
    go_wp2_with fail
    go_ret
    exact ⟨by rw [HF.out]; rfl, hb0⟩

theorem findR_hit {l : List Rl} {kind : Int} {k : Nat} (hk : k < l.length) (h : l[k].t = kind) (hp : ∀ j (hj : j < l.length), j < k → l[j].t ≠ kind) : findR l kind = some l[k] := by
  unfold findR
  rw [List.find?_eq_some_iff_getElem]
  refine ⟨by simp [h], k, hk, rfl, fun j hj => ?_⟩
  have := hp j (by omega) hj
  simpa using this
theorem findR_miss {l : List Rl} {kind : Int} (hp : ∀ j (hj : j < l.length), l[j].t ≠ kind) : findR l kind = none := by
  unfold findR
  rw [List.find?_eq_none]
  intro x hx
  obtain ⟨j, hj, rfl⟩ := List.mem_iff_getElem.1 hx
  have := hp j hj
  simpa using this

set_option maxHeartbeats 4000000 in
set_option maxRecDepth 100000 in
theorem find9_any (l : List Opt) (lv : Value) (ok : Nat → Prop) (kind : Int) (w : World) (hl : Opts w ok lv l) (hmax : l.length ≤ 1000000) :
    Calls Tryz.prog 146 #[lv, .int .i64 kind] w fun e w' => (∃ s, e = .returned (.tuple #[.string s, .bool (l.any fun x => x.t == kind)])) ∧ Below w.heap.size w w' := by
  obtain ⟨sa, c, rfl, hc, hm⟩ := hl.form
  have H := Lib.hid hl
  obtain ⟨len, hln⟩ : ∃ len, len = l.length := ⟨_, rfl⟩
  have HLN := Lib.hid hln
  have HY : Hid (∀ y : Bool, (y = true ↔ ∃ k, ∃ hk : k < l.length, l[k].t = kind) → y = l.any fun x => x.t == kind) := Lib.hid (by
    intro y hy
    rw [Bool.eq_iff_iff, hy, List.any_eq_true]
    constructor
    · rintro ⟨k, hk, h⟩
      exact ⟨l[k], List.getElem_mem hk, by simpa using h⟩
    · rintro ⟨x, hx, h⟩
      obtain ⟨k, hk, rfl⟩ := List.mem_iff_getElem.1 hx
      exact ⟨k, hk, by simpa using h⟩)
  rw [← hln] at hc hmax ⊢
  generalize (l.any fun x => x.t == kind) = ya at *
  clear hln hl
  go_enter Tryz.func146, Tryz.ntmps146
  go_wp2_with fail
  go_loopg [6] len (fun x i wr => ∃ k : Nat, k ≤ len ∧ x = len - k ∧ i = .int .i64 k ∧ Hid (Below w.heap.size w wr ∧ ∀ j (hj : j < l.length), j < k → l[j].t ≠ kind))
  case atStart => exact ⟨0, by omega, by omega, rfl, Below.refl _ _, fun j _ h => absurd h (Nat.not_lt_zero _)⟩
  case round =>
    obtain ⟨k, hk, rfl, rfl, hK⟩ := hrel
    have HK := Lib.hid hK.out
    clear hK
    by_cases hkl : k < len
    · have h1 : k < l.length := by have := HLN.out; omega
      obtain ⟨b, off, rfl, hb, -, -, -, -, c0, c1⟩ := H.out.at k h1
      have d0 : wr.cell? ⟨b, off + k * 2, none⟩ = _ := (HK.out.1.cell (p := ⟨b, off + k * 2, none⟩) hb).trans c0
      have d1 : wr.cell? ⟨b, off + k * 2 + 1, none⟩ = _ := (HK.out.1.cell (p := ⟨b, off + k * 2 + 1, none⟩) hb).trans c1
      have HT := Lib.hid (show l[k].t = kind → ya = true from fun h => (HY.out true ⟨fun _ => ⟨k, h1, h⟩, fun _ => rfl⟩).symm)
      have HF := Lib.hid (show l[k].t ≠ kind → ∀ j (hj : j < l.length), j < k + 1 → l[j].t ≠ kind from fun h j hj hlt => by
        rcases Nat.lt_or_ge j k with h2 | h2
        · exact HK.out.2 j hj h2
        · obtain rfl : j = k := by omega
          exact h)
      clear c0 c1
      generalize l[k] = x at *
      obtain ⟨t, v⟩ := x
      simp only at d0 d1 HT HF
      by_cases ht : t = kind
      · have HT2 := Lib.hid (HT.out ht)
        subst ht
        go_wp2_with fail
        go_ret2
        exact ⟨⟨v, by rw [HT2.out]; rfl⟩, HK.out.1⟩
      · have HF2 := Lib.hid (HF.out ht)
        have hq : (t == kind) = false := by simpa using ht
        clear ht
        go_wp2_with fail
        go_roundg (len - (k + 1))
        case measure => omega
        case rel => exact ⟨k + 1, by omega, rfl, by go_num, HK.out.1, HF2.out⟩
    · have HE := Lib.hid (show ya = false from (HY.out false ⟨fun h => absurd h (by decide), fun ⟨j, hj, h⟩ => absurd h (HK.out.2 j hj (by have := HLN.out; omega))⟩).symm)
      go_wp2_with fail
      go_ret2
      exact ⟨⟨⟨#[]⟩, by rw [HE.out]; rfl⟩, HK.out.1⟩
end Go.Proofs.YtignponfoheaeaaGreat
