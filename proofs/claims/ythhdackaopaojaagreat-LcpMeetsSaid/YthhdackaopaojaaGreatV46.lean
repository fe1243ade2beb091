import Derived.Test.YthhdackaopaojaaGreatV45
/- slices.Delete of one option. -/
namespace Go.Proofs.YthhdackaopaojaaGreat
open Go.RowKit Go.Tg Go.Maps

theorem opt_inf : ∃ i, Tryz.prog.info? 67 = some i ∧ i.size = 2 := by
  have h : (Tryz.prog.info? 67).map (fun i => i.size) = some 2 := by kernel_rfl
  obtain ⟨i, hi, he⟩ := Option.map_eq_some_iff.1 h
  exact ⟨i, hi, he⟩

def flatO (l : List Opt) : List Value := (optL l).flatten
theorem flatO_len (l : List Opt) : (flatO l).length = l.length * 2 := optL_flen l
theorem flatO_app (a b : List Opt) : flatO (a ++ b) = flatO a ++ flatO b := optL_app a b
theorem flatO_drop (l : List Opt) (k : Nat) : (flatO l).drop (k * 2) = flatO (l.drop k) := by
  rcases Nat.le_total k l.length with h | h
  · conv => lhs; rw [← List.take_append_drop k l, flatO_app]
    rw [List.drop_append, List.drop_of_length_le (by rw [flatO_len, List.length_take]; omega), flatO_len, List.length_take, Nat.min_eq_left h, Nat.sub_self, List.drop_zero, List.nil_append]
  · rw [List.drop_of_length_le (by rw [flatO_len]; omega), List.drop_of_length_le h]; rfl
theorem flatO_take (l : List Opt) (k : Nat) : (flatO l).take (k * 2) = flatO (l.take k) := by
  rcases Nat.le_total k l.length with h | h
  · conv => lhs; rw [← List.take_append_drop k l, flatO_app]
    rw [List.take_append, List.take_of_length_le (by rw [flatO_len, List.length_take]; omega), flatO_len, List.length_take, Nat.min_eq_left h, Nat.sub_self, List.take_zero, List.append_nil]
  · rw [List.take_of_length_le (by rw [flatO_len]; omega), List.take_of_length_le h]
theorem flatO_erase (l : List Opt) (k : Nat) : flatO (l.eraseIdx k) = (flatO l).take (k * 2) ++ (flatO l).drop ((k + 1) * 2) := by
  rw [flatO_take, flatO_drop, ← flatO_app, List.eraseIdx_eq_take_drop_succ]
theorem one_flatO (l : List Opt) : ∀ v ∈ flatO l, v.oneCell' = true := opt_bytes l

theorem del_cellsO (l : List Opt) (k n cap : Nat) (cur cur5 cur6 : Array Value) (zs : List Value) (hn : n = l.length) (hk : k < n) (hcap : n ≤ cap) (hsz : cur.size = cap * 2) (htk : cur.toList.take (l.length * 2) = flatO l) (hs5 : cur5.size = cur.size)
    (hg5 : ∀ j, j < cur.size → cur5[j]? = if 0 + k * 2 ≤ j ∧ j < 0 + k * 2 + ((flatO l).drop ((k + 1) * 2)).length then ((flatO l).drop ((k + 1) * 2))[j - (0 + k * 2)]? else cur[j]?)
    (hg6 : ∀ j, j < cur5.size → cur6[j]? = if (n - 1) * 2 ≤ j ∧ j < (n - 1) * 2 + zs.length then zs[j - (n - 1) * 2]? else cur5[j]?) (_hs6 : cur6.size = cur5.size) : cur6.toList.take ((n - 1) * 2) = flatO (l.eraseIdx k) := by
  have hfl := flatO_len l
  have hdl : ((flatO l).drop ((k + 1) * 2)).length = (n - (k + 1)) * 2 := by rw [List.length_drop, hfl]; omega
  rw [flatO_erase]
  apply List.ext_getElem?
  intro j
  by_cases hj : j < (n - 1) * 2
  · rw [List.getElem?_take_of_lt hj]
    have h6 := hg6 j (by omega)
    rw [if_neg (by omega)] at h6
    have h5 := hg5 j (by omega)
    have e6 : cur6.toList[j]? = cur6[j]? := by simp
    rw [e6, h6, h5, hdl]
    by_cases hjk : k * 2 ≤ j
    · rw [if_pos (by omega), List.getElem?_append_right (by rw [List.length_take]; omega)]
      congr 1
      rw [List.length_take]
      omega
    · rw [if_neg (by omega), List.getElem?_append_left (by rw [List.length_take]; omega), List.getElem?_take_of_lt (by omega), ← htk, List.getElem?_take_of_lt (by omega)]
      simp
  · rw [List.getElem?_eq_none (by rw [List.length_take]; omega), List.getElem?_eq_none]
    rw [List.length_append, List.length_take, hdl]
    omega

theorem cells_atO {w : World} {g n : Nat} {cur : Array Value} {xs : List Value} (hb : w.heap[g]? = some (.cells cur 67 (0, 0))) (ht : cur.toList.take n = xs) (j : Nat) (hj : j < n) : w.cell? ⟨g, j, none⟩ = xs[j]? := by
  have h7 : (cur.toList.take n)[j]? = xs[j]? := by rw [ht]
  rw [List.getElem?_take_of_lt hj] at h7
  simp only [World.cell?, hb]
  simpa using h7

set_option maxHeartbeats 6000000 in
set_option maxRecDepth 100000 in
theorem delO_any (g cap : Nat) (cur : Array Value) (l : List Opt) (k : Nat) (w : World) (hk : k < l.length) (hb : w.heap[g]? = some (.cells cur 67 (0, 0))) (hcap : l.length ≤ cap) (hmax : cap ≤ maxLen) (hsz : cur.size = cap * 2)
    (htake : cur.toList.take (l.length * 2) = flatO l) (hlen : l.length ≤ 1000000) :
    Calls Tryz.prog 115 #[.slice (some ⟨g, 0, none⟩) l.length cap, .int .i64 k, .int .i64 (k + 1)] w fun e w' => e = .returned (.slice (some ⟨g, 0, none⟩) (l.length - 1) cap) ∧
      ORow w' 0 (.slice (some ⟨g, 0, none⟩) (l.length - 1) cap) (l.eraseIdx k) ∧ Keep (· = g) w w' := by
  have HB := Lib.hid (And.intro hb (And.intro hsz htake))
  obtain ⟨n, hn⟩ : ∃ n, n = l.length := ⟨_, rfl⟩
  have HN := Lib.hid hn
  rw [← hn] at hk hcap hlen ⊢
  unfold maxLen at hmax
  have e1 : ((k : Int) == (k : Int) + 1) = false := by simp; omega
  clear hb hsz htake hn
  go_enter Tryz.func115, Tryz.ntmps115
  go_wp2_with fail
  have hkc : k ≤ cap := by omega
  have hk1 : k + 1 ≤ n := by omega
  have hb1 : (0 : Int) ≤ (k : Int) + 1 := by omega
  have hb2 : (k : Int) + 1 ≤ (n : Int) := by omega
  obtain ⟨inf, hinf, his⟩ := opt_inf
  obtain ⟨hb, hsz, htk⟩ := HB.out
  have hfl := flatO_len l
  have hNw : ((flatO l).drop ((k + 1) * 2)).length = (n - (k + 1)) * 2 := by rw [List.length_drop, hfl]; have := HN.out; omega
  have hone : ∀ u ∈ (flatO l).drop ((k + 1) * 2), u.oneCell' = true := fun u hu => one_flatO l u (List.mem_of_mem_drop hu)
  have hsp : ∀ (W : World), W.heap[g]? = w.heap[g]? → ∀ j, j < ((flatO l).drop ((k + 1) * 2)).length → (W.cell? ⟨g, 0 + k * 2 + j, none⟩).isSome = true ∧ W.frozen? ⟨g, 0 + k * 2 + j, none⟩ = false := by
    intro W hW j hj
    have hlt : 0 + k * 2 + j < cur.size := by omega
    have hW' := hW.trans hb
    constructor
    · simp only [World.cell?, hW']; simp; omega
    · simp [World.frozen?, hW']
  have HSP := Lib.hid hsp
  have HNW := Lib.hid hNw
  have HONE := Lib.hid hone
  have HI := Lib.hid (And.intro hinf his)
  have HFL := Lib.hid hfl
  clear hsp hNw hone hinf his hb hsz htk hfl
  by_cases hcc : cap = k + 1
  · have HCC := Lib.hid hcc
    clear hcc
    have hnw : Hid (∀ (W : World), W.heap[g]? = w.heap[g]? → ∀ j u, ((flatO l).drop ((k + 1) * 2))[j]? = some u → W.cell? ((⟨g, 0, none⟩ : Addr).add j) = some u) := Lib.hid (by
      intro W hW j u hu
      have hj := (List.getElem?_eq_some_iff.1 hu).1
      rw [HNW.out] at hj
      have := HCC.out
      omega)
    go_region_law (first
      | (refine step_append_room rfl (.tmp 22) (.tmp 25) 36 rfl 67 inf 2 Tryz.underlying36 HI.out.1 HI.out.2 g 0 k cap rfl ⟨g, 0, none⟩ (n - (k + 1)) (cap - (k + 1)) ((flatO l).drop ((k + 1) * 2)) (by show Value.slice (if cap = k + 1 then some ⟨g, 0, none⟩ else some ⟨g, (k + 1) * 2, none⟩) _ _ = _; rw [if_pos HCC.out]) HNW.out (hnw.out _ (by rfl)) HONE.out (by omega) (HSP.out _ (by rfl)) ?_))
    have hk5 : Keep (· = g) w (w.drew.setCells g (0 + k * 2) ((flatO l).drop ((k + 1) * 2))) := ((Keep.refl _ _).drew).trans (setCells_keep _ _ _)
    obtain ⟨cur5, hb5, hs5, hg5⟩ := setCells_blk (g := g) ((flatO l).drop ((k + 1) * 2)) (0 + k * 2) w.drew cur HB.out.1
    rw [Nat.zero_add] at hk5 hb5
    obtain ⟨W5, hW5⟩ : ∃ W5, W5 = w.drew.setCells g (k * 2) ((flatO l).drop ((k + 1) * 2)) := ⟨_, rfl⟩
    rw [← hW5] at hk5 hb5 ⊢
    have hkn : k + (n - (k + 1)) = n - 1 := by omega
    rw [hkn]
    have H5 := Lib.hid (And.intro hb5 (And.intro hs5 (And.intro hg5 hk5)))
    have hc6 : Hid (∀ j, j < 1 * 2 → (W5.cell? ⟨g, (n - 1) * 2 + j, none⟩).isSome = true ∧ W5.frozen? ⟨g, (n - 1) * 2 + j, none⟩ = false) := Lib.hid (by
      intro j hj
      have hlt : (n - 1) * 2 + j < cur5.size := by rw [hs5, HB.out.2.1]; omega
      constructor
      · simp only [World.cell?, hb5]; simp; omega
      · simp [World.frozen?, hb5])
    clear hW5 hk5 hb5 hs5 hg5
    have f1 : n - 1 ≤ n := by omega
    have f2 : ¬ cap = n - 1 := by omega
    go_wp2_with fail
    have hz := fun c => run_clear_opts W5 0 g ((n - 1) * 2) c 1 (by decide) (fun j hj => (hc6.out j hj).1) (fun j hj => (hc6.out j hj).2)
    first
      | rw [hz]
      | rw [show n - (n - 1) = 1 from by omega, hz]
    obtain ⟨cur6, hb6, hs6, hg6⟩ := setCells_blk (g := g) (zeroO 1) ((n - 1) * 2) W5 cur5 H5.out.1
    have H6 := Lib.hid (And.intro hb6 (And.intro hs6 (And.intro hg6 (H5.out.2.2.2.trans (setCells_keep (g := g) (zeroO 1) ((n - 1) * 2) W5)))))
    generalize W5.setCells g ((n - 1) * 2) (zeroO 1) = W6 at *
    clear hb6 hs6 hg6 hz
    go_wp2_with fail
    go_ret
    have hle : (l.eraseIdx k).length = n - 1 := by rw [List.length_eraseIdx, if_pos (by rw [← HN.out]; exact hk), HN.out]
    obtain rfl := HCC.out
    refine ⟨rfl, ?_, H6.out.2.2.2⟩
    unfold ORow
    rw [hle]
    refine ⟨by rw [optL_flen, hle], Or.inr ⟨g, _, cur6, rfl, Nat.zero_le _, H6.out.1, by omega, by unfold maxLen; omega, by rw [H6.out.2.1, H5.out.2.1, HB.out.2.1], ?_⟩⟩
    exact del_cellsO l k n _ cur cur5 cur6 _ HN.out hk hcap HB.out.2.1 HB.out.2.2 H5.out.2.1 H5.out.2.2.1 H6.out.2.2.1 H6.out.2.1
  · have hnw : Hid (∀ (W : World), W.heap[g]? = w.heap[g]? → ∀ j u, ((flatO l).drop ((k + 1) * 2))[j]? = some u → W.cell? ((⟨g, (k + 1) * 2, none⟩ : Addr).add j) = some u) := Lib.hid (by
      intro W hW j u hu
      have hj := (List.getElem?_eq_some_iff.1 hu).1
      rw [HNW.out] at hj
      have e : (⟨g, (k + 1) * 2, none⟩ : Addr).add j = ⟨g, (k + 1) * 2 + j, none⟩ := by
        unfold Addr.add; split <;> simp_all
      rw [e, cells_atO (hW.trans HB.out.1) HB.out.2.2 _ (by rw [← HN.out]; omega)]
      rw [List.getElem?_drop] at hu
      exact hu)
    go_region_law (first
      | (refine step_append_room rfl (.tmp 22) (.tmp 25) 36 rfl 67 inf 2 Tryz.underlying36 HI.out.1 HI.out.2 g 0 k cap rfl ⟨g, (k + 1) * 2, none⟩ (n - (k + 1)) (cap - (k + 1)) ((flatO l).drop ((k + 1) * 2)) rfl HNW.out (hnw.out _ (by rfl)) HONE.out (by omega) (HSP.out _ (by rfl)) ?_))
    have hk5 : Keep (· = g) w (w.drew.setCells g (0 + k * 2) ((flatO l).drop ((k + 1) * 2))) := ((Keep.refl _ _).drew).trans (setCells_keep _ _ _)
    obtain ⟨cur5, hb5, hs5, hg5⟩ := setCells_blk (g := g) ((flatO l).drop ((k + 1) * 2)) (0 + k * 2) w.drew cur HB.out.1
    rw [Nat.zero_add] at hk5 hb5
    obtain ⟨W5, hW5⟩ : ∃ W5, W5 = w.drew.setCells g (k * 2) ((flatO l).drop ((k + 1) * 2)) := ⟨_, rfl⟩
    rw [← hW5] at hk5 hb5 ⊢
    have hkn : k + (n - (k + 1)) = n - 1 := by omega
    rw [hkn]
    have H5 := Lib.hid (And.intro hb5 (And.intro hs5 (And.intro hg5 hk5)))
    have hc6 : Hid (∀ j, j < 1 * 2 → (W5.cell? ⟨g, (n - 1) * 2 + j, none⟩).isSome = true ∧ W5.frozen? ⟨g, (n - 1) * 2 + j, none⟩ = false) := Lib.hid (by
      intro j hj
      have hlt : (n - 1) * 2 + j < cur5.size := by rw [hs5, HB.out.2.1]; omega
      constructor
      · simp only [World.cell?, hb5]; simp; omega
      · simp [World.frozen?, hb5])
    clear hW5 hk5 hb5 hs5 hg5
    have f1 : n - 1 ≤ n := by omega
    have f2 : ¬ cap = n - 1 := by omega
    go_wp2_with fail
    have hz := fun c => run_clear_opts W5 0 g ((n - 1) * 2) c 1 (by decide) (fun j hj => (hc6.out j hj).1) (fun j hj => (hc6.out j hj).2)
    first
      | rw [hz]
      | rw [show n - (n - 1) = 1 from by omega, hz]
    obtain ⟨cur6, hb6, hs6, hg6⟩ := setCells_blk (g := g) (zeroO 1) ((n - 1) * 2) W5 cur5 H5.out.1
    have H6 := Lib.hid (And.intro hb6 (And.intro hs6 (And.intro hg6 (H5.out.2.2.2.trans (setCells_keep (g := g) (zeroO 1) ((n - 1) * 2) W5)))))
    generalize W5.setCells g ((n - 1) * 2) (zeroO 1) = W6 at *
    clear hb6 hs6 hg6 hz
    go_wp2_with fail
    go_ret
    have hle : (l.eraseIdx k).length = n - 1 := by rw [List.length_eraseIdx, if_pos (by rw [← HN.out]; exact hk), HN.out]
    refine ⟨rfl, ?_, H6.out.2.2.2⟩
    unfold ORow
    rw [hle]
    refine ⟨by rw [optL_flen, hle], Or.inr ⟨g, cap, cur6, rfl, Nat.zero_le _, H6.out.1, by omega, by unfold maxLen; omega, by rw [H6.out.2.1, H5.out.2.1, HB.out.2.1], ?_⟩⟩
    exact del_cellsO l k n cap cur cur5 cur6 _ HN.out hk hcap HB.out.2.1 HB.out.2.2 H5.out.2.1 H5.out.2.2.1 H6.out.2.2.1 H6.out.2.1
end Go.Proofs.YthhdackaopaojaaGreat
