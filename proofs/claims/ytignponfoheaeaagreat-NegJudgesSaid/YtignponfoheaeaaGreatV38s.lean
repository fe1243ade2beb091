import Derived.Test.YtignponfoheaeaaGreatV38r
namespace Go.Proofs.YtignponfoheaeaaGreat
open Go.RowKit Go.Tg Go.Maps

set_option maxHeartbeats 4000000 in
set_option maxRecDepth 100000 in
theorem rules_any (l : List Rl) (lv : Value) (ok : Nat → Prop) (w : World) (hl : Rls w ok lv l) (hm : ∀ o ∈ l, o.s.size ≤ maxLen) :
    Calls Tryz.prog 23 #[lv] w fun e w' => BoolIs e (l.length ≤ 40 ∧ ∀ o ∈ l, o.s.size ≤ 400) ∧ w = w' := by
  obtain ⟨sa, c, rfl, hc, hcm⟩ := hl.form'
  have HL := Lib.hid (And.intro hl hm)
  obtain ⟨len, hln⟩ : ∃ len, len = l.length := ⟨_, rfl⟩
  have HLN := Lib.hid hln
  rw [← hln] at hc ⊢
  unfold maxLen at hcm
  clear hl hln hm
  go_enter Tryz.func23, Tryz.ntmps23
  go_wp2_with fail
  go_loopg [3] len (fun x i wr => ∃ k : Nat, k ≤ len ∧ k ≤ 50 ∧ x = len - k ∧ i = .int .i64 k ∧ Hid ((∀ j (h : j < l.length), j < k → l[j].s.size ≤ 400) ∧ w = wr))
  case atStart => exact ⟨0, by omega, by omega, by omega, rfl, fun j h hj => absurd hj (Nat.not_lt_zero _), rfl⟩
  case round =>
    obtain ⟨k, hk, hk2, rfl, rfl, hK⟩ := hrel
    obtain ⟨hA, rfl⟩ := hK.out
    have HK := Lib.hid hA
    clear hK hA
    by_cases hkl : k < len
    · by_cases hk6 : k < 50
      · have hkl' : k < l.length := by have := HLN.out; omega
        obtain ⟨b, off, rfl, hb, -, -, -, -, -, -, -, -, ch⟩ := HL.out.1.at k hkl'
        have d1 : w.cell? ⟨b, off + k * 5 + 4, none⟩ = some (.string l[k].s) := ch
        have HS := Lib.hid (show ∀ j (h : j < l.length), j < k + 1 → l[k].s.size ≤ 400 → l[j].s.size ≤ 400 from fun j h hj hs => by
          rcases Nat.lt_or_ge j k with h1 | h1
          · exact HK.out j h h1
          · have : j = k := by omega
            subst this; exact hs)
        have HF := Lib.hid (show 400 < l[k].s.size → ¬ ∀ o ∈ l, o.s.size ≤ 400 from fun h1 h2 => by have := h2 _ (List.getElem_mem hkl'); omega)
        have hsm := HL.out.2 _ (List.getElem_mem hkl')
        unfold maxLen at hsm
        clear ch
        generalize l[k] = o at *
        generalize hz : o.s = s at *
        clear hz
        by_cases hs : 400 < s.size
        · have dd : decide ((400 : Int) < (s.size : Int)) = true := by simp; omega
          have HF2 := Lib.hid (HF.out hs)
          clear hs
          go_wp2_with fail
          go_ret
          exact ⟨⟨false, rfl, fun h => by cases h⟩, rfl⟩
        · have dd : decide ((400 : Int) < (s.size : Int)) = false := by simp; omega
          have hs2 : s.size ≤ 400 := by omega
          have HS2 := Lib.hid (fun j h hj => HS.out j h hj hs2)
          clear hs hs2
          go_wp2_with fail
          go_roundg (len - (k + 1))
          case measure => omega
          case rel => exact ⟨k + 1, by omega, by omega, rfl, by go_num, fun j h hj => HS2.out j h hj, rfl⟩
      · obtain rfl : k = 50 := by omega
        have dd : decide ((len : Int) ≤ 40) = false := by simp; omega
        go_wp2_with fail
        go_ret
        exact ⟨⟨false, rfl, fun h => by cases h⟩, rfl⟩
    · obtain rfl : len = k := by omega
      by_cases h5 : len ≤ 40
      · have dd : decide ((len : Int) ≤ 40) = true := by simp; omega
        have H5 := Lib.hid h5
        clear h5
        go_wp2_with fail
        go_ret
        refine ⟨⟨true, rfl, fun _ => ⟨by have := HLN.out; have := H5.out; omega, fun o ho => ?_⟩⟩, rfl⟩
        obtain ⟨j, hj, rfl⟩ := List.getElem_of_mem ho
        exact HK.out j hj (by have := HLN.out; omega)
      · have dd : decide ((len : Int) ≤ 40) = false := by simp; omega
        clear h5
        go_wp2_with fail
        go_ret
        exact ⟨⟨false, rfl, fun h => by cases h⟩, rfl⟩
end Go.Proofs.YtignponfoheaeaaGreat
