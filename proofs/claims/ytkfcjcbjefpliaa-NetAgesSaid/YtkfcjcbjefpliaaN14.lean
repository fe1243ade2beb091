import Derived.Test.YtkfcjcbjefpliaaN13a
namespace Go.Proofs.Ytkfcjcbjefpliaa
open Go.RowKit Go.Tg Go.Maps Go.Sort

theorem gram_inf : ∃ i, Try.prog.info? 63 = some i ∧ i.size = 4 := by
  have h : (Try.prog.info? 63).map (fun i => i.size) = some 4 := by kernel_rfl
  obtain ⟨i, hi, he⟩ := Option.map_eq_some_iff.1 h
  exact ⟨i, hi, he⟩

theorem wpl_clear_gram {w : World} {ops : Array Oper} {rest : List Oper} {o : Oper} {a : Act} {Q : Exit → Act → World → Prop} (hgd : o.guard = none) (s : Operand)
    (ho : o.op = .call { callee := .builtin .clear, args := #[s], argTypes := #[48] }) (b of m c : Nat) (hs : a.eval s = .slice (some ⟨b, of, none⟩) m c) (hm : m = 1)
    (hc : ∀ j, j < 4 → (w.cell? ⟨b, of + j, none⟩).isSome = true ∧ w.frozen? ⟨b, of + j, none⟩ = false)
    (h : wpList Try.prog ops Q rest (a.put o.dst (.tuple #[])) (w.setCells b of [.int .i64 0, .int .i64 0, .string (ByteArray.mk #[]), .int .i64 0])) : wpList Try.prog ops Q (o :: rest) a w := by
  subst hm
  refine wpList_plain hgd fun K hK => ?_
  have hr := run_clear_gram w o.type b of c (fun j hj => (hc j hj).1) (fun j hj => (hc j hj).2)
  unfold Oper.wp execOp
  simp only [ho, resolve, invoke, builtin, Sem.run_bind, Sem.run_pure, Result.andThen_ok, List.map_toArray, List.map_cons, List.map_nil, hs, hr]
  exact hK _ _ h

theorem one_flat (l : List Gram) : ∀ v ∈ flat l, v.oneCell' = true := by
  intro v hv
  simp only [flat, List.mem_flatten, List.mem_map] at hv
  obtain ⟨_, ⟨g, _, rfl⟩, hv⟩ := hv
  simp [Gram.cells] at hv
  rcases hv with rfl | rfl | rfl | rfl <;> rfl

theorem cells_at {w : World} {g cap n : Nat} {cur : Array Value} {xs : List Value} (hb : w.heap[g]? = some (.cells cur 63 (0, 0))) (ht : cur.toList.take n = xs) (j : Nat) (hj : j < n) : w.cell? ⟨g, j, none⟩ = xs[j]? := by
  have h7 : (cur.toList.take n)[j]? = xs[j]? := by rw [ht]
  rw [List.getElem?_take_of_lt hj] at h7
  simp only [World.cell?, hb]
  simpa using h7

set_option maxHeartbeats 6000000 in
set_option maxRecDepth 100000 in
theorem delete_any (g cap : Nat) (cur : Array Value) (l : List Gram) (k : Nat) (w : World) (hk : k < l.length) (hb : w.heap[g]? = some (.cells cur 63 (0, 0))) (hcap : l.length ≤ cap) (hmax : cap ≤ maxLen) (hsz : cur.size = cap * 4)
    (htake : cur.toList.take (l.length * 4) = flat l) (hlen : l.length ≤ 1000000) :
    Calls Try.prog 25 #[.slice (some ⟨g, 0, none⟩) l.length cap, .int .i64 k, .int .i64 (k + 1)] w fun e w' => e = .returned (.slice (some ⟨g, 0, none⟩) (l.length - 1) cap) ∧
      w'.ownsRow 0 63 4 (.slice (some ⟨g, 0, none⟩) (l.length - 1) cap) (l.eraseIdx k).length (flat (l.eraseIdx k)) ∧ Keep (· = g) w w' := by
  have HB := Lib.hid (And.intro hb (And.intro hsz htake))
  obtain ⟨n, hn⟩ : ∃ n, n = l.length := ⟨_, rfl⟩
  have HN := Lib.hid hn
  rw [← hn] at hk hcap hlen ⊢
  unfold maxLen at hmax
  have e1 : ((k : Int) == (k : Int) + 1) = false := by simp; omega
  clear hb hsz htake hn
  go_enter Try.func25, Try.ntmps25
  go_wp2_with fail
  have hkc : k ≤ cap := by omega
  have hk1 : k + 1 ≤ n := by omega
  have hb1 : (0 : Int) ≤ (k : Int) + 1 := by omega
  have hb2 : (k : Int) + 1 ≤ (n : Int) := by omega
  obtain ⟨inf, hinf, his⟩ := gram_inf
  obtain ⟨hb, hsz, htk⟩ := HB.out
  have hfl := flat_len l
  have hNw : ((flat l).drop ((k + 1) * 4)).length = (n - (k + 1)) * 4 := by rw [List.length_drop, hfl]; have := HN.out; omega
  have hone : ∀ u ∈ (flat l).drop ((k + 1) * 4), u.oneCell' = true := fun u hu => one_flat l u (List.mem_of_mem_drop hu)
  have hsp : ∀ (W : World), W.heap[g]? = w.heap[g]? → ∀ j, j < ((flat l).drop ((k + 1) * 4)).length → (W.cell? ⟨g, 0 + k * 4 + j, none⟩).isSome = true ∧ W.frozen? ⟨g, 0 + k * 4 + j, none⟩ = false := by
    intro W hW j hj
    have hlt : 0 + k * 4 + j < cur.size := by omega
    have hW' := hW.trans hb
    constructor
    · simp only [World.cell?, hW']; simp; omega
    · simp [World.frozen?, hW']
  have HSP := Lib.hid hsp
  have HNW := Lib.hid hNw
  have HONE := Lib.hid hone
  have HI := Lib.hid (And.intro hinf his)
  have HFL := Lib.hid hfl
  clear hsp hNw hone hinf his hb hsz htk hfl
  by_cases hcc : cap = k + 1
  · have HCC := Lib.hid hcc
    clear hcc
    have hnw : Hid (∀ (W : World), W.heap[g]? = w.heap[g]? → ∀ j u, ((flat l).drop ((k + 1) * 4))[j]? = some u → W.cell? ((⟨g, 0, none⟩ : Addr).add j) = some u) := Lib.hid (by
      intro W hW j u hu
      have hj := (List.getElem?_eq_some_iff.1 hu).1
      rw [HNW.out] at hj
      have := HCC.out
      omega)
    go_region_law (first
      | (refine step_append_room rfl (.tmp 22) (.tmp 25) 48 rfl 63 inf 4 Try.underlying48 HI.out.1 HI.out.2 g 0 k cap rfl ⟨g, 0, none⟩ (n - (k + 1)) (cap - (k + 1)) ((flat l).drop ((k + 1) * 4)) (by show Value.slice (if cap = k + 1 then some ⟨g, 0, none⟩ else some ⟨g, (k + 1) * 4, none⟩) _ _ = _; rw [if_pos HCC.out]) HNW.out (hnw.out _ (by rfl)) HONE.out (by omega) (HSP.out _ (by rfl)) ?_))
    have hk5 : Keep (· = g) w (w.drew.setCells g (0 + k * 4) ((flat l).drop ((k + 1) * 4))) := ((Keep.refl _ _).drew).trans (setCells_keep _ _ _)
    obtain ⟨cur5, hb5, hs5, hg5⟩ := setCells_blk (g := g) ((flat l).drop ((k + 1) * 4)) (0 + k * 4) w.drew cur HB.out.1
    rw [Nat.zero_add] at hk5 hb5
    obtain ⟨W5, hW5⟩ : ∃ W5, W5 = w.drew.setCells g (k * 4) ((flat l).drop ((k + 1) * 4)) := ⟨_, rfl⟩
    rw [← hW5] at hk5 hb5 ⊢
    have hkn : k + (n - (k + 1)) = n - 1 := by omega
    rw [hkn]
    have H5 := Lib.hid (And.intro hb5 (And.intro hs5 (And.intro hg5 hk5)))
    have hc6 : Hid (∀ j, j < 4 → (W5.cell? ⟨g, (n - 1) * 4 + j, none⟩).isSome = true ∧ W5.frozen? ⟨g, (n - 1) * 4 + j, none⟩ = false) := Lib.hid (by
      intro j hj
      have hlt : (n - 1) * 4 + j < cur5.size := by rw [hs5, HB.out.2.1]; omega
      constructor
      · simp only [World.cell?, hb5]; simp; omega
      · simp [World.frozen?, hb5])
    clear hW5 hk5 hb5 hs5 hg5
    have f1 : n - 1 ≤ n := by omega
    have f2 : ¬ cap = n - 1 := by omega
    go_wp2_with fail
    have hz := fun c => run_clear_gram W5 0 g ((n - 1) * 4) c (fun j hj => (hc6.out j hj).1) (fun j hj => (hc6.out j hj).2)
    first
      | rw [hz]
      | rw [show n - (n - 1) = 1 from by omega, hz]
    obtain ⟨cur6, hb6, hs6, hg6⟩ := setCells_blk (g := g) [.int .i64 0, .int .i64 0, .string (ByteArray.mk #[]), .int .i64 0] ((n - 1) * 4) W5 cur5 H5.out.1
    have H6 := Lib.hid (And.intro hb6 (And.intro hs6 (And.intro hg6 (H5.out.2.2.2.trans (setCells_keep (g := g) [.int .i64 0, .int .i64 0, .string (ByteArray.mk #[]), .int .i64 0] ((n - 1) * 4) W5)))))
    generalize W5.setCells g ((n - 1) * 4) [.int .i64 0, .int .i64 0, .string (ByteArray.mk #[]), .int .i64 0] = W6 at *
    clear hb6 hs6 hg6 hz
    go_wp2_with fail
    go_ret
    have hle : (l.eraseIdx k).length = n - 1 := by rw [List.length_eraseIdx, if_pos (by rw [← HN.out]; exact hk), HN.out]
    obtain rfl := HCC.out
    refine ⟨rfl, ?_, H6.out.2.2.2⟩
    rw [hle]
    refine ⟨by rw [flat_len, hle], Or.inr ⟨g, _, cur6, rfl, Nat.zero_le _, H6.out.1, by omega, by unfold maxLen; omega, by rw [H6.out.2.1, H5.out.2.1, HB.out.2.1], ?_⟩⟩
    exact del_cells l k n _ cur cur5 cur6 _ HN.out hk hcap HB.out.2.1 HB.out.2.2 H5.out.2.1 H5.out.2.2.1 H6.out.2.2.1 H6.out.2.1
  · have hnw : Hid (∀ (W : World), W.heap[g]? = w.heap[g]? → ∀ j u, ((flat l).drop ((k + 1) * 4))[j]? = some u → W.cell? ((⟨g, (k + 1) * 4, none⟩ : Addr).add j) = some u) := Lib.hid (by
      intro W hW j u hu
      have hj := (List.getElem?_eq_some_iff.1 hu).1
      rw [HNW.out] at hj
      have e : (⟨g, (k + 1) * 4, none⟩ : Addr).add j = ⟨g, (k + 1) * 4 + j, none⟩ := by
        unfold Addr.add; split <;> simp_all
      rw [e, cells_at (cap := cap) (hW.trans HB.out.1) HB.out.2.2 _ (by rw [← HN.out]; omega)]
      rw [List.getElem?_drop] at hu
      exact hu)
    go_region_law (first
      | (refine step_append_room rfl (.tmp 22) (.tmp 25) 48 rfl 63 inf 4 Try.underlying48 HI.out.1 HI.out.2 g 0 k cap rfl ⟨g, (k + 1) * 4, none⟩ (n - (k + 1)) (cap - (k + 1)) ((flat l).drop ((k + 1) * 4)) rfl HNW.out (hnw.out _ (by rfl)) HONE.out (by omega) (HSP.out _ (by rfl)) ?_))
    have hk5 : Keep (· = g) w (w.drew.setCells g (0 + k * 4) ((flat l).drop ((k + 1) * 4))) := ((Keep.refl _ _).drew).trans (setCells_keep _ _ _)
    obtain ⟨cur5, hb5, hs5, hg5⟩ := setCells_blk (g := g) ((flat l).drop ((k + 1) * 4)) (0 + k * 4) w.drew cur HB.out.1
    rw [Nat.zero_add] at hk5 hb5
    obtain ⟨W5, hW5⟩ : ∃ W5, W5 = w.drew.setCells g (k * 4) ((flat l).drop ((k + 1) * 4)) := ⟨_, rfl⟩
    rw [← hW5] at hk5 hb5 ⊢
    have hkn : k + (n - (k + 1)) = n - 1 := by omega
    rw [hkn]
    have H5 := Lib.hid (And.intro hb5 (And.intro hs5 (And.intro hg5 hk5)))
    have hc6 : Hid (∀ j, j < 4 → (W5.cell? ⟨g, (n - 1) * 4 + j, none⟩).isSome = true ∧ W5.frozen? ⟨g, (n - 1) * 4 + j, none⟩ = false) := Lib.hid (by
      intro j hj
      have hlt : (n - 1) * 4 + j < cur5.size := by rw [hs5, HB.out.2.1]; omega
      constructor
      · simp only [World.cell?, hb5]; simp; omega
      · simp [World.frozen?, hb5])
    clear hW5 hk5 hb5 hs5 hg5
    have f1 : n - 1 ≤ n := by omega
    have f2 : ¬ cap = n - 1 := by omega
    go_wp2_with fail
    have hz := fun c => run_clear_gram W5 0 g ((n - 1) * 4) c (fun j hj => (hc6.out j hj).1) (fun j hj => (hc6.out j hj).2)
    first
      | rw [hz]
      | rw [show n - (n - 1) = 1 from by omega, hz]
    obtain ⟨cur6, hb6, hs6, hg6⟩ := setCells_blk (g := g) [.int .i64 0, .int .i64 0, .string (ByteArray.mk #[]), .int .i64 0] ((n - 1) * 4) W5 cur5 H5.out.1
    have H6 := Lib.hid (And.intro hb6 (And.intro hs6 (And.intro hg6 (H5.out.2.2.2.trans (setCells_keep (g := g) [.int .i64 0, .int .i64 0, .string (ByteArray.mk #[]), .int .i64 0] ((n - 1) * 4) W5)))))
    generalize W5.setCells g ((n - 1) * 4) [.int .i64 0, .int .i64 0, .string (ByteArray.mk #[]), .int .i64 0] = W6 at *
    clear hb6 hs6 hg6 hz
    go_wp2_with fail
    go_ret
    have hle : (l.eraseIdx k).length = n - 1 := by rw [List.length_eraseIdx, if_pos (by rw [← HN.out]; exact hk), HN.out]
    refine ⟨rfl, ?_, H6.out.2.2.2⟩
    rw [hle]
    refine ⟨by rw [flat_len, hle], Or.inr ⟨g, cap, cur6, rfl, Nat.zero_le _, H6.out.1, by omega, by unfold maxLen; omega, by rw [H6.out.2.1, H5.out.2.1, HB.out.2.1], ?_⟩⟩
    exact del_cells l k n cap cur cur5 cur6 _ HN.out hk hcap HB.out.2.1 HB.out.2.2 H5.out.2.1 H5.out.2.2.1 H6.out.2.2.1 H6.out.2.1
end Go.Proofs.Ytkfcjcbjefpliaa
