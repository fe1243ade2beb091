import Derived.Test.YtignponfoheaeaaGreatR3
import Derived.Test.YtignponfoheaeaaGreatW3
/- The reference's automaton, walked: has, Do, Waits, Timeout. -/
namespace Go.Proofs.YtignponfoheaeaaGreat
open Go.RowKit Go.Tg Go.Maps

def RAt (w : World) (b : Nat) (s c cf tm : Int) : Prop := w.heap[b]? = some (.cells #[.int .i64 cf, .int .i64 tm, .int .i64 s, .int .i64 c] 56 (0, 0))
section
variable {w w' : World} {b : Nat} {s c cf tm : Int}
theorem RAt.c0 (h : RAt w b s c cf tm) : w.cell? ⟨b, 0, none⟩ = some (.int .i64 cf) := cell_of_block h 0
theorem RAt.c1 (h : RAt w b s c cf tm) : w.cell? ⟨b, 1, none⟩ = some (.int .i64 tm) := cell_of_block h 1
theorem RAt.c2 (h : RAt w b s c cf tm) : w.cell? ⟨b, 2, none⟩ = some (.int .i64 s) := cell_of_block h 2
theorem RAt.c3 (h : RAt w b s c cf tm) : w.cell? ⟨b, 3, none⟩ = some (.int .i64 c) := cell_of_block h 3
theorem RAt.fz (h : RAt w b s c cf tm) (o : Nat) : w.frozen? ⟨b, o, none⟩ = false := frozen_of_block h o
theorem RAt.lt (h : RAt w b s c cf tm) : b < w.heap.size := (Array.getElem?_eq_some_iff.1 h).1
theorem RAt.set2 (h : RAt w b s c cf tm) (s' : Int) : RAt (w.setCell ⟨b, 2, none⟩ (.int .i64 s')) b s' c cf tm := set_block h 2 _
theorem RAt.set3 (h : RAt w b s c cf tm) (c' : Int) : RAt (w.setCell ⟨b, 3, none⟩ (.int .i64 c')) b s c' cf tm := set_block h 3 _
theorem RAt.keep {S : Nat → Prop} (h : RAt w b s c cf tm) (hk : Keep S w w') (hs : ¬ S b) : RAt w' b s c cf tm := (hk.block b h.lt hs).trans h
theorem RAt.below (h : RAt w b s c cf tm) (hk : Below w.heap.size w w') : RAt w' b s c cf tm := (hk.block b h.lt).trans h
end

set_option maxHeartbeats 4000000 in
set_option maxRecDepth 100000 in
theorem rhas_any (xs : List Int) (v : Value) (x : Int) (w : World) (h : RowR w v xs.length (iV xs)) (hl : xs.length ≤ 1000000) :
    Calls Tryz.prog 143 #[v, .int .i64 x] w fun e w' => e = .returned (.bool (hasB xs x)) ∧ w = w' := by
  obtain ⟨sa, c, rfl, hc, hm⟩ := h.form
  obtain ⟨len, hln⟩ : ∃ len, len = xs.length := ⟨_, rfl⟩
  have HLN := Lib.hid hln
  rw [← hln] at h hc hl ⊢
  have H := Lib.hid h
  clear hln h
  go_enter Tryz.func143, Tryz.ntmps143
  go_wp2_with fail
  go_loopg [5] len (fun y i wr => ∃ k : Nat, k ≤ len ∧ y = len - k ∧ i = .int .i64 k ∧ w = wr ∧ Hid (∀ z ∈ xs.take k, z ≠ x))
  case atStart => exact ⟨0, by omega, by omega, rfl, rfl, fun z hz => by simp at hz⟩
  case round =>
    obtain ⟨k, hk, rfl, rfl, rfl, hK⟩ := hrel
    by_cases hkl : k < len
    · have h1 : k < xs.length := by have := HLN.out; omega
      obtain ⟨g, rfl, hg, c0⟩ := RowR_int H.out k h1
      have HT := Lib.hid (show xs.take (k + 1) = xs.take k ++ [xs[k]] from List.take_succ_eq_append_getElem h1)
      by_cases he : xs[k] = x
      · have HH : Hid (hasB xs x = true) := Lib.hid (by unfold hasB; rw [List.contains_iff_mem, ← he]; exact List.getElem_mem h1)
        rw [he] at c0
        clear he
        go_wp2_with fail
        go_ret
        rw [HH.out]
        exact ⟨rfl, rfl⟩
      · have HE := Lib.hid he
        have hb : (xs[k] == x) = false := by simpa using he
        clear he
        generalize xs[k] = y at *
        go_wp2_with fail
        go_roundg (len - (k + 1))
        case measure => omega
        case rel => exact ⟨k + 1, by omega, rfl, by go_num, rfl, fun z hz => by
          rw [HT.out] at hz
          rcases List.mem_append.1 hz with hz | hz
          · exact hK.out z hz
          · rw [List.mem_singleton.1 hz]; exact HE.out⟩
    · have HH : Hid (hasB xs x = false) := Lib.hid (by
        cases hc : hasB xs x with
        | false => rfl
        | true =>
          unfold hasB at hc
          rw [List.contains_iff_mem] at hc
          exact absurd rfl (hK.out x (by rw [List.take_of_length_le (by have := HLN.out; omega)]; exact hc)))
      go_wp2_with fail
      go_ret
      rw [HH.out]
      exact ⟨rfl, rfl⟩

/-- What the reference's Do leaves. -/
structure RDo (w w' : World) (rb : Nat) (s c cf tm : Int) (v : Value) (xs : List Int) : Prop where
  at' : RAt w' rb s c cf tm
  row : RowR w' v xs.length (iV xs)
  kp : Keep (· = rb) w w'
  f : ∀ g, v.ownBlock = some g → w.heap.size ≤ g

set_option maxHeartbeats 8000000 in
set_option maxRecDepth 100000 in
theorem rdo_core (ns : Int) (xs : List Int) (b : Nat) (s c cf tm e : Int) (w : World) (h : RAt w b s c cf tm) (h1 : 1 ≤ cf) (h2 : cf ≤ 20) (h3 : 1 ≤ tm) (h4 : tm ≤ 20) (h5 : InB c)
    (HN : ∀ w, Hid (Calls Tryz.prog 8 #[.int .i64 s, .int .i64 e] w fun en w' => ∃ v, en = .returned (.tuple #[.int .i64 ns, v]) ∧ Laid 3 1 w w' v xs.length (iV xs))) (hlen : xs.length ≤ 1000) :
    Calls Tryz.prog 18 #[.pointer (some ⟨b, 0, none⟩), .int .i64 e] w fun en w' => ∃ v, en = .returned v ∧ RDo w w' b ns (doC cf tm xs xs c) cf tm v xs := by
  have hc2 := h.c2
  have hlt0 := h.lt
  go_enter Tryz.func18, Tryz.ntmps18
  go_wp2_with fail
  refine (HN w).out.mono ?_
  rintro en w1 ⟨v, rfl, hv⟩
  have ha1 := h.below hv.b
  have hf1 := ha1.fz 2
  have hc1 := ha1.c2
  obtain ⟨sa, ca, rfl, hca, hcm⟩ := hv.r.form
  obtain ⟨len, hln⟩ : ∃ len, len = xs.length := ⟨_, rfl⟩
  have HLN := Lib.hid hln
  have hvb : ∀ g, (Value.slice sa xs.length ca).ownBlock = some g → ¬ g = b := fun g hg he => by have := hv.f g hg; omega
  rw [← hln] at hv hvb hca hlen ⊢
  have hr := hv.r.rd.keep ((Keep.refl (· = b) w1).setB 2 (.int .i64 ns)) hvb
  have HV := Lib.hid (And.intro (ha1.set2 ns) (And.intro hr (And.intro ((Keep.of_below (· = b) hv.b).setB 2 (.int .i64 ns)) hvb)))
  have HF := Lib.hid hv.f
  clear HN hln hv hr hvb h hc2
  go_wp2_with fail
  generalize w1.setCell ⟨b, 2, none⟩ (.int .i64 ns) = w2 at *
  clear hf1 hc1 ha1
  go_loopg [7] len (fun y i wr => ∃ k : Nat, k ≤ len ∧ y = len - k ∧ i = .int .i64 k ∧ Hid (RAt wr b ns (doC cf tm xs (xs.take k) c) cf tm ∧ RowR wr (.slice sa len ca) len (iV xs) ∧ Keep (· = b) w wr))
  case atStart => exact ⟨0, by omega, by omega, rfl, HV.out.1, HV.out.2.1, HV.out.2.2.1⟩
  case round =>
    obtain ⟨k, hk, rfl, rfl, hK⟩ := hrel
    obtain ⟨hat, hrow, hkp⟩ := hK.out
    clear hK
    have hbd := InB_out (doC_bd xs ⟨by omega, h2⟩ ⟨by omega, h4⟩ (xs.take k) c h5)
    by_cases hlt : k < len
    · have hlt' : k < xs.length := by have := HLN.out; omega
      obtain ⟨g, rfl, hg, hck⟩ := RowR_int hrow k hlt'
      have hsn := Lib.hid (doC_snoc cf tm c xs k hlt')
      have HHAS := Lib.hid (fun (W : World) (hW : RowR W (.slice (some ⟨g, 0, none⟩) len ca) len (iV xs)) => rhas_any xs (.slice (some ⟨g, 0, none⟩) len ca) 9 W (by rw [← HLN.out]; exact hW) (by have := HLN.out; omega))
      generalize hcc : doC cf tm xs (xs.take k) c = cc at *
      generalize hxk : xs[k] = x at *
      clear hcc hxk
      have hc0 := hat.c0
      have hc1 := hat.c1
      have hc3 := hat.c3
      have hf3 := hat.fz 3
      have HAT := Lib.hid hat
      have HKP := Lib.hid hkp
      have HROW := Lib.hid (And.intro hrow HV.out.2.2.2)
      have HRS : Hid (∀ u, RowR (wr.setCell ⟨b, 3, none⟩ u) (.slice (some ⟨g, 0, none⟩) len ca) len (iV xs)) := Lib.hid fun u => hrow.keep ((Keep.refl (· = b) wr).setB 3 u) HV.out.2.2.2
      have HRS2 : Hid (∀ u u', RowR ((wr.setCell ⟨b, 3, none⟩ u).setCell ⟨b, 3, none⟩ u') (.slice (some ⟨g, 0, none⟩) len ca) len (iV xs)) := Lib.hid fun u u' => hrow.keep (((Keep.refl (· = b) wr).setB 3 u).setB 3 u') HV.out.2.2.2
      clear hat hkp hrow
      have hend : ∀ c', doStep cf tm xs cc x = c' → Hid (doC cf tm xs (xs.take (k + 1)) c = c') := fun c' h => by rw [hsn.out]; exact h
      by_cases x4 : x = 4
      · subst x4
        by_cases h9 : hasB xs 9 = true
        · have HE := hend tm (by simp only [doStep, h9]; simp)
          clear hend
          rw [h9] at HHAS
          clear h9
          go_wp2_with (go_at_call 143; refine (HHAS.out _ (HRS.out _)).mono ?_; rintro en w' ⟨rfl, rfl⟩)
          go_roundg (len - (k + 1))
          case measure => omega
          case rel => exact ⟨k + 1, by omega, rfl, by go_num, by rw [HE.out]; exact (HAT.out.set3 _).set3 _, HRS2.out _ _, (HKP.out.setB _ _).setB _ _⟩
        · have h9' : hasB xs 9 = false := by simpa using h9
          have HE := hend cf (by simp only [doStep, h9']; simp)
          clear hend h9
          rw [h9'] at HHAS
          clear h9'
          go_wp2_with (go_at_call 143; refine (HHAS.out _ (HRS.out _)).mono ?_; rintro en w' ⟨rfl, rfl⟩)
          go_roundg (len - (k + 1))
          case measure => omega
          case rel => exact ⟨k + 1, by omega, rfl, by go_num, by rw [HE.out]; exact HAT.out.set3 _, HRS.out _, HKP.out.setB _ _⟩
      · by_cases x5 : x = 5
        · subst x5
          have HE := hend 0 (by simp [doStep])
          clear hend
          go_wp2_with fail
          go_roundg (len - (k + 1))
          case measure => omega
          case rel => exact ⟨k + 1, by omega, rfl, by go_num, by rw [HE.out]; exact HAT.out.set3 _, HRS.out _, HKP.out.setB _ _⟩
        · by_cases x69 : x = 6 ∨ x = 9
          · by_cases hcp : 0 < cc
            · have HE := hend (cc - 1) (by unfold doStep; rw [if_neg x4, if_neg x5, if_pos x69, if_neg (by omega)])
              clear hend
              rcases x69 with rfl | rfl
              all_goals
                go_wp2_with fail
                go_roundg (len - (k + 1))
                case measure => omega
                case rel => exact ⟨k + 1, by omega, rfl, by go_num, by rw [HE.out]; exact HAT.out.set3 _, HRS.out _, HKP.out.setB _ _⟩
            · have hc00 : cc = 0 := by omega
              have HE := hend cc (by unfold doStep; rw [if_neg x4, if_neg x5, if_pos x69, if_pos (by omega), hc00])
              clear hend
              subst hc00
              rcases x69 with rfl | rfl
              all_goals
                go_wp2_with fail
                go_roundg (len - (k + 1))
                case measure => omega
                case rel => exact ⟨k + 1, by omega, rfl, by go_num, by rw [HE.out]; exact HAT.out, HROW.out.1, HKP.out⟩
          · have HE := hend cc (by unfold doStep; rw [if_neg x4, if_neg x5, if_neg x69])
            have e4 : (x == 4) = false := by simpa using x4
            have e5 : (x == 5) = false := by simpa using x5
            have e6 : (x == 6) = false := by simp; exact fun h => x69 (.inl h)
            have e9 : (x == 9) = false := by simp; exact fun h => x69 (.inr h)
            clear hend x4 x5 x69
            go_wp2_with fail
            go_roundg (len - (k + 1))
            case measure => omega
            case rel => exact ⟨k + 1, by omega, rfl, by go_num, by rw [HE.out]; exact HAT.out, HROW.out.1, HKP.out⟩
    · have HAT := Lib.hid (And.intro hat (And.intro hrow hkp))
      clear hat hrow hkp
      go_wp2_with fail
      go_ret
      obtain rfl : len = k := by omega
      have := HAT.out.1
      rw [HLN.out, List.take_length] at this
      refine ⟨_, rfl, this, ?_, HAT.out.2.2, HF.out⟩
      have h9 := HAT.out.2.1
      rw [HLN.out] at h9 ⊢
      exact h9
end Go.Proofs.YtignponfoheaeaaGreat
