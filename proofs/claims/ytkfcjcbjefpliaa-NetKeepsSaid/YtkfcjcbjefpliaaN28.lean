import Derived.Test.YtkfcjcbjefpliaaN27
import Derived.Deep.AppendLies
namespace Go.Proofs.Ytkfcjcbjefpliaa
open Go.RowKit Go.Tg Go.Maps Go.Sort

/-- A row of strings of the law's own. -/
def SRow (W : World) (v : Value) (ln : Nat) (ss : List ByteArray) (w : World) : Prop := ln = ss.length ∧ w.ownsRow W.heap.size 9 1 v ln (ss.map Value.string)

theorem SRow.nil (W w : World) : SRow W (.slice none 0 0) 0 [] w := ⟨rfl, World.ownsRow_nil _ _ _ _⟩
theorem SRow.keep {W w w' : World} {v : Value} {ln : Nat} {ss : List ByteArray} {T : Nat → Prop} (h : SRow W v ln ss w) (hk : Keep T w w') (hT : ∀ k, v.ownBlock = some k → ¬ T k) : SRow W v ln ss w' := by
  obtain ⟨he, h0, h | ⟨g, cap, cur, hv, h1, h2, h3⟩⟩ := h
  · exact ⟨he, h0, Or.inl h⟩
  · have hlt := (Array.getElem?_eq_some_iff.1 h2).1
    exact ⟨he, h0, Or.inr ⟨g, cap, cur, hv, h1, (hk.block g hlt (hT g (by rw [hv]; rfl))).trans h2, h3⟩⟩
theorem SRow.lt {W w : World} {v : Value} {ln : Nat} {ss : List ByteArray} (h : SRow W v ln ss w) : ∀ k, v.ownBlock = some k → k < w.heap.size ∧ W.heap.size ≤ k := by
  intro k hk
  have := h.2.lt k hk
  exact ⟨this.2, this.1⟩
theorem SRow.form {W w : World} {v : Value} {ln : Nat} {ss : List ByteArray} (h : SRow W v ln ss w) : ∃ sa sc, v = .slice sa ln sc := by
  obtain ⟨_, _, ⟨h, rfl⟩ | ⟨g, cp, cur, hv, _⟩⟩ := h
  · exact ⟨_, _, h⟩
  · exact ⟨_, _, hv⟩
theorem SRow.cells {W w : World} {sa : Option Addr} {ln sc : Nat} {ss : List ByteArray} (h : SRow W (.slice sa ln sc) ln ss w) (j : Nat) (hj : j < ln) :
    ∃ g, sa = some ⟨g, 0, none⟩ ∧ g < w.heap.size ∧ w.cell? ⟨g, j, none⟩ = some (.string (ss.getD j ByteArray.empty)) := by
  obtain ⟨he, _, ⟨_, h0⟩ | ⟨g, cap, cur, hv, h1, h2, h3, h4, h5, h6⟩⟩ := h
  · omega
  · cases hv
    refine ⟨g, rfl, (Array.getElem?_eq_some_iff.1 h2).1, ?_⟩
    have h7 : (cur.toList.take (ln * 1))[j]? = (ss.map Value.string)[j]? := by rw [h6]
    rw [List.getElem?_take_of_lt (by omega), List.getElem?_map, List.getElem?_eq_getElem (l := ss) (by omega)] at h7
    simp only [World.cell?, h2]
    rw [List.getD_eq_getElem?_getD, List.getElem?_eq_getElem (by omega)]
    simpa using h7

theorem str_info : ∃ i z, Try.prog.info? 9 = some i ∧ i.zero = some z ∧ i.size = 1 ∧ i.bytes = 16 ∧ z.cells.size = 1 := by
  have h : (Try.prog.info? 9).map (fun i => (i.zero, i.size, i.bytes)) = some (some (.string ⟨#[]⟩), 1, 16) := by kernel_rfl
  obtain ⟨i, hi, he⟩ := Option.map_eq_some_iff.1 h
  simp only [Prod.mk.injEq] at he
  exact ⟨i, _, hi, he.1, he.2.1, he.2.2, rfl⟩

/-- 'sent = append(sent, d)'. -/
theorem wpl_append_str {W w : World} {ops : Array Oper} {rest : List Oper} {o : Oper} {a : Act} {Q : Exit → Act → World → Prop} (hgd : o.guard = none) (s x : Operand)
    (ho : o.op = .call { callee := .builtin .append, args := #[s, x], argTypes := #[22, 22] }) (v : Value) (ln : Nat) (ss : List ByteArray) (hs : a.eval s = v) (hown : SRow W v ln ss w)
    (bx c : Nat) (d : ByteArray) (hx : a.eval x = .slice (some ⟨bx, 0, none⟩) 1 c) (hb : w.heap[bx]? = some (.cells #[.string d] 9 (0, 0))) (hlen : ln ≤ 1000000) (hW : W.heap.size ≤ w.heap.size)
    (h : ∀ g cap w', SRow W (.slice (some ⟨g, 0, none⟩) (ln + 1) cap) (ln + 1) (ss ++ [d]) w' → Keep (fun k => v.ownBlock = some k) w w' → (v.ownBlock = some g ∨ g = w.heap.size) → wpList Try.prog ops Q rest (a.put o.dst (.slice (some ⟨g, 0, none⟩) (ln + 1) cap)) w') : wpList Try.prog ops Q (o :: rest) a w := by
  obtain ⟨i, z, hi, hz, hsz, hby, hzs⟩ := str_info
  refine wpList_append_lies (P := Try.prog) (w := w) hgd s x 22 ho W.heap.size 9 i z 1 16 Try.underlying22 hi hz hsz hby hzs (by decide) v ln (ss.map Value.string) hs hown.2 ⟨bx, 0, none⟩ 1 c [.string d] hx rfl
    (World.news_of_block hb) ?_ (by decide) (by unfold maxLen; omega) (by omega) hW w.heap.size rfl ?_
  · intro u hu
    simp at hu
    rw [hu]; rfl
  · intro g cap w' h1 h2 h3 _
    refine h g cap w' ⟨by rw [List.length_append, hown.1]; rfl, ?_⟩ (keep_of_grown h2) h3
    rw [List.map_append]
    exact h1

/-- The net's half of what the law knows. -/
def KNet (W : World) (N : Nat → Prop) (b : Nat) (ss : List ByteArray) (ln : Nat) (cl : Int) (n : Nat) (w : World) : Prop :=
  ∃ st, NetI W N b st w ∧ st.l.length = n ∧ st.cut 1 2 = false ∧ (st.at' 1 2).getD (0, 0) = ((ln : Int), cl) ∧ ∀ g ∈ st.l, g.f = 1 ∧ g.t = 2 ∧ g.d ∈ ss ∧ 0 ≤ g.n ∧ g.n ≤ 1000000

theorem KNet.keep {W w : World} {N : Nat → Prop} {b : Nat} {ss : List ByteArray} {ln n : Nat} {cl : Int} (h : KNet W N b ss ln cl n w) : Keep (fun _ => False) W w := by
  obtain ⟨st, hI, _⟩ := h
  exact hI.keep
theorem KNet.still {W w w' : World} {N : Nat → Prop} {b : Nat} {ss : List ByteArray} {ln n : Nat} {cl : Int} (h : KNet W N b ss ln cl n w) (hk : Keep (fun _ => False) w w') : KNet W N b ss ln cl n w' := by
  obtain ⟨st, hI, hr⟩ := h
  exact ⟨st, (hI.still hk).1, hr⟩
/-- What is N's may be turned; N may take in what is new. -/
theorem NetI.turn {W w w' : World} {N N' T : Nat → Prop} {b : Nat} {st : NetS} (h : NetI W N b st w) (hk : Keep T w w') (hT : ∀ k, T k → N k ∧ W.heap.size ≤ k) (hN : ∀ k, N' k → (N k ∨ w.heap.size ≤ k) ∧ k < w'.heap.size) : NetI W N' b st w' := by
  obtain ⟨S, loc, lv, av, cv, hv, hS⟩ := h.ex
  refine ⟨⟨_, loc, lv, av, cv, hv.cap.keep hk (fun k hk1 _ hTk => (hS k hk1.1).2 (hT k hTk).1), ?_⟩, ?_, fun n hn => (hN n hn).2⟩
  · rintro k ⟨hk1, hk2⟩
    refine ⟨(hS k hk1).1, fun hn => ?_⟩
    rcases (hN k hn).1 with h' | h'
    · exact (hS k hk1).2 h'
    · omega
  · exact h.keep.transM hk (fun _ _ h => h) (fun k hk1 hk2 => by have := (hT k hk2).2; omega)
theorem KNet.turn {W w w' : World} {N N' T : Nat → Prop} {b : Nat} {ss : List ByteArray} {ln n : Nat} {cl : Int} (h : KNet W N b ss ln cl n w) (hk : Keep T w w') (hT : ∀ k, T k → N k ∧ W.heap.size ≤ k) (hN : ∀ k, N' k → (N k ∨ w.heap.size ≤ k) ∧ k < w'.heap.size) : KNet W N' b ss ln cl n w' := by
  obtain ⟨st, hI, hr⟩ := h
  exact ⟨st, hI.turn hk hT hN, hr⟩

theorem KNet.deliver {W w : World} {N : Nat → Prop} {b : Nat} {ss : List ByteArray} {ln n : Nat} {cl : Int} (h : KNet W N b ss ln cl (n + 1) w) (hn : n ≤ 1000) (a : Nat) (ha : a < n + 1) :
    Calls Try.prog 12 #[.pointer (some ⟨b, 0, none⟩), .int .i64 a] w fun e w' => ∃ d, e = .returned (.tuple #[.agg #[.int .i64 1, .int .i64 2, .string d], .int .i64 0]) ∧ d ∈ ss ∧ KNet W N b ss ln cl n w' ∧ Kp W N w w' := by
  obtain ⟨st, hI, hl, hc, hat, hg⟩ := h
  have hD := hI.deliver_ok a (by omega) (by omega)
  obtain ⟨g1, g2, g3, g4⟩ := hg st.l[a] (List.getElem_mem _)
  rw [g1, g2] at hD
  refine hD.mono ?_
  rintro e w' ⟨rfl, hI', hk⟩
  refine ⟨_, rfl, g3, ⟨_, hI', ?_, hc, hat, fun g hg' => hg g (List.mem_of_mem_eraseIdx hg')⟩, hk⟩
  simp only
  rw [List.length_eraseIdx, if_pos (by omega)]
  omega
theorem KNet.deliver_bad {W w : World} {N : Nat → Prop} {b : Nat} {ss : List ByteArray} {ln n : Nat} {cl : Int} (h : KNet W N b ss ln cl n w) (hn : n ≤ 1000) (a : Int) (ha : ¬ (0 ≤ a ∧ a < n)) :
    Calls Try.prog 12 #[.pointer (some ⟨b, 0, none⟩), .int .i64 a] w fun e w' => e = .returned (.tuple #[.agg #[.int .i64 0, .int .i64 0, .string (ByteArray.mk #[])], .int .i64 3]) ∧ KNet W N b ss ln cl n w' ∧ Kp W N w w' := by
  obtain ⟨st, hI, hl, hr⟩ := h
  refine (hI.deliver_bad a (by omega) (by omega)).mono ?_
  rintro e w' ⟨rfl, hI', hk⟩
  exact ⟨rfl, ⟨_, hI', hl, hr⟩, hk⟩
theorem KNet.drop {W w : World} {N : Nat → Prop} {b : Nat} {ss : List ByteArray} {ln n : Nat} {cl : Int} (h : KNet W N b ss ln cl (n + 1) w) (hn : n ≤ 1000) (h0 : 0 ≤ cl) (h1 : cl ≤ 1000) (a : Nat) (ha : a < n + 1) :
    Calls Try.prog 14 #[.pointer (some ⟨b, 0, none⟩), .int .i64 a] w fun e w' => e = .returned (.int .i64 0) ∧ KNet W N b ss ln (cl + 1) n w' ∧ Kp W N w w' := by
  obtain ⟨st, hI, hl, hc, hat, hg⟩ := h
  obtain ⟨g1, g2, g3, g4⟩ := hg st.l[a] (List.getElem_mem _)
  have hD := hI.drop_ok a (by omega) (by omega) (by rw [g1]; exact i64_one) (by rw [g2]; exact i64_two) (by rw [g1, g2, hat]; exact h0) (by rw [g1, g2, hat]; simp only; omega)
  rw [g1, g2] at hD
  refine hD.mono ?_
  rintro e w' ⟨rfl, hI', hk⟩
  refine ⟨rfl, ⟨_, hI', ?_, hc, ?_, fun g hg' => hg g (List.mem_of_mem_eraseIdx hg')⟩, hk⟩
  · simp only [dropS]
    rw [List.length_eraseIdx, if_pos (by omega)]
    omega
  · simp only [dropS, lostAt]
    rw [setAt_same, hat]
theorem KNet.drop_bad {W w : World} {N : Nat → Prop} {b : Nat} {ss : List ByteArray} {ln n : Nat} {cl : Int} (h : KNet W N b ss ln cl n w) (hn : n ≤ 1000) (a : Int) (ha : ¬ (0 ≤ a ∧ a < n)) :
    Calls Try.prog 14 #[.pointer (some ⟨b, 0, none⟩), .int .i64 a] w fun e w' => e = .returned (.int .i64 3) ∧ KNet W N b ss ln cl n w' ∧ Kp W N w w' := by
  obtain ⟨st, hI, hl, hr⟩ := h
  refine (hI.drop_bad a (by omega) (by omega)).mono ?_
  rintro e w' ⟨rfl, hI', hk⟩
  exact ⟨rfl, ⟨_, hI', hl, hr⟩, hk⟩
theorem KNet.send {W w : World} {N : Nat → Prop} {b : Nat} {ss : List ByteArray} {ln n : Nat} {cl : Int} (h : KNet W N b ss ln cl n w) (hn : n < 600) (hln : ln ≤ 1000) (h0 : 0 ≤ cl) (h1 : cl ≤ 1000) (d : ByteArray) (hd : d.size ≤ 1514) :
    Calls Try.prog 11 #[.pointer (some ⟨b, 0, none⟩), .agg #[.int .i64 1, .int .i64 2, .string d]] w fun e w' => e = .returned (.int .i64 0) ∧ KNet W N b (ss ++ [d]) (ln + 1) cl (n + 1) w' ∧ Kp W N w w' := by
  obtain ⟨st, hI, hl, hc, hat, hg⟩ := h
  refine (hI.send 1 2 d i64_one i64_two hd ln cl hat (by omega) (by omega) (by omega) (by omega) (fun g hg' => ⟨(hg g hg').2.2.2.1, by have := (hg g hg').2.2.2.2; omega, fun _ _ => by have := (hg g hg').2.2.2.1; omega⟩)).mono ?_
  rintro e w' ⟨rfl, hI', hk⟩
  rw [sendS_room hat hc (by omega)] at hI'
  refine ⟨rfl, ⟨_, hI', by simp [hl], hc, by simp only; rw [setAt_same]; simp, ?_⟩, hk⟩
  intro g hg'
  rcases List.mem_append.1 hg' with h' | h'
  · obtain ⟨a1, a2, a3, a4⟩ := hg g h'
    exact ⟨a1, a2, List.mem_append_left _ a3, a4⟩
  · simp at h'
    subst h'
    exact ⟨rfl, rfl, by simp, by simp only; omega, by simp only; omega⟩
theorem KNet.sentG {W w : World} {N : Nat → Prop} {b : Nat} {ss : List ByteArray} {ln n : Nat} {cl : Int} (h : KNet W N b ss ln cl n w) (m : Nat) (os : Array Obj) :
    Calls Try.prog 15 #[.pointer (some ⟨b, 0, none⟩), .agg #[.int .i64 1, .int .i64 2]] (grow (w.drewN m) os) fun e w'' => e = .returned (.int .i64 ln) ∧ ∃ x : GB, w'' = grow (w.drewN x.n) x.os := by
  obtain ⟨st, hI, hl, hc, hat, hg⟩ := h
  exact hI.sentG 1 2 ln i64_one i64_two (by rw [hat]) m os
theorem KNet.lostG {W w : World} {N : Nat → Prop} {b : Nat} {ss : List ByteArray} {ln n : Nat} {cl : Int} (h : KNet W N b ss ln cl n w) (m : Nat) (os : Array Obj) :
    Calls Try.prog 16 #[.pointer (some ⟨b, 0, none⟩), .agg #[.int .i64 1, .int .i64 2]] (grow (w.drewN m) os) fun e w'' => e = .returned (.int .i64 cl) ∧ ∃ x : GB, w'' = grow (w.drewN x.n) x.os := by
  obtain ⟨st, hI, hl, hc, hat, hg⟩ := h
  exact hI.lostG 1 2 cl i64_one i64_two (by rw [hat]) m os
theorem KNet.lenG {W w : World} {N : Nat → Prop} {b : Nat} {ss : List ByteArray} {ln n : Nat} {cl : Int} (h : KNet W N b ss ln cl n w) (m : Nat) (os : Array Obj) :
    Calls Try.prog 13 #[.pointer (some ⟨b, 0, none⟩)] (grow (w.drewN m) os) fun e w'' => e = .returned (.int .i64 n) ∧ ∃ x : GB, w'' = grow (w.drewN x.n) x.os := by
  obtain ⟨st, hI, hl, hc, hat, hg⟩ := h
  exact hI.lenG n (by rw [hl]) m os
end Go.Proofs.Ytkfcjcbjefpliaa
