import Derived.Test.YtijepfjfmpmfnaaV71
/- Small. -/
namespace Go.Proofs.Ytijepfjfmpmfnaa
open Go.RowKit Go.Tg Go.Maps

def SmO (x : OpM) : Prop := (x.p.o.length ≤ 50 ∧ ∀ o ∈ x.p.o, o.v.size ≤ 400) ∧ x.p.d.size ≤ 2000
/-- A step, read. -/
theorem OpsAt.at {w : World} {ok : Nat → Prop} {sa : Option Addr} {n c : Nat} {L : List OpV} (h : OpsAt w ok (.slice sa n c) L) (i : Nat) (hi : i < L.length) :
    ∃ b off, sa = some ⟨b, off, none⟩ ∧ b < w.heap.size ∧ ok b ∧ w.cell? ⟨b, off + i * 8, none⟩ = some (.int .i64 L[i].1.k) ∧ w.cell? ⟨b, off + i * 8 + 1, none⟩ = some (.int .i64 L[i].1.n) ∧ w.cell? ⟨b, off + i * 8 + 2, none⟩ = some (.int .i64 L[i].1.p.code) ∧ w.cell? ⟨b, off + i * 8 + 3, none⟩ = some (.int .i64 L[i].1.p.id) ∧
      w.cell? ⟨b, off + i * 8 + 4, none⟩ = some L[i].2.1 ∧ w.cell? ⟨b, off + i * 8 + 5, none⟩ = some (.string L[i].1.p.d) ∧ w.cell? ⟨b, off + i * 8 + 6, none⟩ = some L[i].2.2.1 ∧ w.cell? ⟨b, off + i * 8 + 7, none⟩ = some L[i].2.2.2 := by
  obtain ⟨b, off, h1, h2, h3, h4, h5, h6, h7⟩ := Rec.at h.row i (by rw [List.length_map]; exact hi)
  have e : (L.map opCells)[i]'(by rw [List.length_map]; exact hi) = opCells L[i] := by simp
  have g := fun j u (hu : (opCells L[i])[j]? = some u) => h7 j u (by rw [e]; exact hu)
  exact ⟨b, off, h1, h2, h3, g 0 _ rfl, g 1 _ rfl, g 2 _ rfl, g 3 _ rfl, g 4 _ rfl, g 5 _ rfl, g 6 _ rfl, g 7 _ rfl⟩
theorem OpsAt.form {w : World} {ok : Nat → Prop} {v : Value} {L : List OpV} (h : OpsAt w ok v L) : ∃ sa c, v = .slice sa L.length c ∧ L.length ≤ c ∧ c ≤ maxLen := by
  have := Rec.form h.row
  rwa [List.length_map] at this
theorem OpsAt.keep {w w' : World} {ok T : Nat → Prop} {v : Value} {L : List OpV} (h : OpsAt w ok v L) (hk : Keep T w w') (hT : ∀ b, b < w.heap.size → ok b → ¬ T b) : OpsAt w' ok v L :=
  ⟨Rec.keep h.row hk hT, fun x hx => ⟨Rec.keep (h.each x hx).p hk hT, Rec.keep (h.each x hx).a hk hT, Rec.keep (h.each x hx).b hk hT, (h.each x hx).wf⟩⟩
theorem OpsAt.below {w w' : World} {ok : Nat → Prop} {v : Value} {L : List OpV} (h : OpsAt w ok v L) (hb : Below w.heap.size w w') : OpsAt w' ok v L := h.keep (Keep.of_below (fun _ => False) hb) (fun _ _ _ h => h)
theorem OpsAt.old {w : World} {ok : Nat → Prop} {v : Value} {L : List OpV} (h : OpsAt w ok v L) : OpsAt w (fun b => b < w.heap.size) v L :=
  ⟨Rec.mono (Rec.old h.row) (fun _ h => h.2), fun x hx => ⟨Rec.mono (Rec.old (h.each x hx).p) (fun _ h => h.2), Rec.mono (Rec.old (h.each x hx).a) (fun _ h => h.2), Rec.mono (Rec.old (h.each x hx).b) (fun _ h => h.2), (h.each x hx).wf⟩⟩

set_option maxHeartbeats 4000000 in
set_option maxRecDepth 100000 in
theorem small_any (L : List OpV) (lv : Value) (ok : Nat → Prop) (w : World) (hl : OpsAt w ok lv L) :
    Calls Try.prog 26 #[lv] w fun e w' => BoolIs e (L.length ≤ 200 ∧ ∀ x ∈ L, SmO x.1) ∧ w = w' := by
  obtain ⟨sa, c, rfl, hc, hcm⟩ := hl.form
  have HL := Lib.hid hl
  obtain ⟨len, hln⟩ : ∃ len, len = L.length := ⟨_, rfl⟩
  have HLN := Lib.hid hln
  rw [← hln] at hc ⊢
  unfold maxLen at hcm
  clear hl hln
  go_enter Try.func26, Try.ntmps26
  go_wp2_with fail
  go_loopg [3] len (fun x i wr => ∃ k : Nat, k ≤ len ∧ x = len - k ∧ i = .int .i64 k ∧ Hid ((∀ j (h : j < L.length), j < k → SmO L[j].1) ∧ w = wr))
  case atStart => exact ⟨0, by omega, by omega, rfl, fun j h hj => absurd hj (Nat.not_lt_zero _), rfl⟩
  case round =>
    obtain ⟨k, hk, rfl, rfl, hK⟩ := hrel
    obtain ⟨hA, rfl⟩ := hK.out
    have HK := Lib.hid hA
    clear hK hA
    by_cases hkl : k < len
    · have hkl' : k < L.length := by have := HLN.out; omega
      obtain ⟨b, off, rfl, -, -, c0, c1, c2, c3, c4, c5, c6, c7⟩ := HL.out.at k hkl'
      have HO := Lib.hid (HL.out.each _ (List.getElem_mem hkl'))
      have HS := Lib.hid (show SmO L[k].1 → ∀ j (h : j < L.length), j < k + 1 → SmO L[j].1 from fun hs j h hj => by
        rcases Nat.lt_or_ge j k with h1 | h1
        · exact HK.out j h h1
        · have : j = k := by omega
          subst this; exact hs)
      generalize L[k] = x at *
      obtain ⟨⟨xk, xn, ⟨pc, pi, po, pd⟩, xa, xb⟩, pv, av, bv⟩ := x
      dsimp only at c0 c1 c2 c3 c4 c5 c6 c7
      have F1 := Lib.hid (light_any po pv ok w HO.out.p (fun o ho => (HO.out.wf.1 o ho).2))
      have F2 := Lib.hid (light_any xa av ok w HO.out.a HO.out.wf.2.2.1)
      have F3 := Lib.hid (light_any xb bv ok w HO.out.b HO.out.wf.2.2.2)
      have hds : pd.size ≤ maxLen := HO.out.wf.2.1
      unfold maxLen at hds
      go_wp2_with fail
      refine F1.out.mono ?_
      rintro e w1 ⟨⟨b1, rfl, p1⟩, rfl⟩
      cases b1 with
      | false =>
        clear p1
        go_wp2_with fail
        go_ret
        exact ⟨⟨false, rfl, fun h => by cases h⟩, rfl⟩
      | true =>
        have P1 := Lib.hid (p1 rfl)
        clear p1
        by_cases hd : 2000 < pd.size
        · have dd : decide ((2000 : Int) < (pd.size : Int)) = true := by simp; omega
          clear hd
          go_wp2_with fail
          go_ret
          exact ⟨⟨false, rfl, fun h => by cases h⟩, rfl⟩
        · have dd : decide ((2000 : Int) < (pd.size : Int)) = false := by simp; omega
          have HD := Lib.hid (show pd.size ≤ 2000 by omega)
          clear hd
          go_wp2_with fail
          refine F2.out.mono ?_
          rintro e w1 ⟨⟨b2, rfl, p2⟩, rfl⟩
          clear p2
          cases b2 with
          | false =>
            go_wp2_with fail
            go_ret
            exact ⟨⟨false, rfl, fun h => by cases h⟩, rfl⟩
          | true =>
            go_wp2_with fail
            refine F3.out.mono ?_
            rintro e w1 ⟨⟨b3, rfl, p3⟩, rfl⟩
            clear p3
            cases b3 with
            | false =>
              go_wp2_with fail
              go_ret
              exact ⟨⟨false, rfl, fun h => by cases h⟩, rfl⟩
            | true =>
              go_wp2_with fail
              go_roundg (len - (k + 1))
              case measure => omega
              case rel => exact ⟨k + 1, by omega, rfl, by go_num, fun j h hj => HS.out ⟨P1.out, HD.out⟩ j h hj, rfl⟩
    · obtain rfl : len = k := by omega
      by_cases h2 : len ≤ 200
      · have dd : decide ((len : Int) ≤ 200) = true := by simp; omega
        have H2 := Lib.hid h2
        clear h2
        go_wp2_with fail
        go_ret
        refine ⟨⟨true, rfl, fun _ => ⟨by have := HLN.out; have := H2.out; omega, fun x hx => ?_⟩⟩, rfl⟩
        obtain ⟨j, hj, rfl⟩ := List.getElem_of_mem hx
        exact HK.out j hj (by have := HLN.out; omega)
      · have dd : decide ((len : Int) ≤ 200) = false := by simp; omega
        clear h2
        go_wp2_with fail
        go_ret
        exact ⟨⟨false, rfl, fun h => by cases h⟩, rfl⟩
end Go.Proofs.Ytijepfjfmpmfnaa
