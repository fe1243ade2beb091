import Derived.Test.YtkfcjcbjefpliaaN21
namespace Go.Proofs.Ytkfcjcbjefpliaa
open Go.RowKit Go.Tg Go.Maps Go.Sort

/-- What a call on a net may turn: blocks of the law's own, but N's. -/
def Kp (W : World) (N : Nat → Prop) (w w' : World) : Prop := Keep (fun k => W.heap.size ≤ k ∧ ¬ N k) w w'

/-- The net at b holds st; it owns blocks of the law's own, and not N. -/
structure NetI (W : World) (N : Nat → Prop) (b : Nat) (st : NetS) (w : World) : Prop where
  ex : ∃ S loc lv av cv, NetV w S b st loc lv av cv ∧ ∀ k, S k → W.heap.size ≤ k ∧ ¬ N k
  keep : Keep (fun _ => False) W w
  hN : ∀ n, N n → n < w.heap.size

theorem NetI.step {W w w' : World} {N : Nat → Prop} {b : Nat} {st st' : NetS} {S : Nat → Prop} {loc : Int → Int → Nat} {lv av cv : Value} (h : NetI W N b st w) (hS : ∀ k, S k → W.heap.size ≤ k ∧ ¬ N k) (hv : NetV w' (Grow S w) b st' loc lv av cv) (hk : Keep S w w') :
    NetI W N b st' w' ∧ Kp W N w w' := by
  refine ⟨⟨⟨_, loc, lv, av, cv, hv, ?_⟩, ?_, ?_⟩, hk.mono (fun k _ hk => hS k hk)⟩
  · rintro k (hk | hk)
    · exact hS k hk
    · refine ⟨Nat.le_trans h.keep.size hk, ?_⟩
      intro e
      have := h.hN k e
      omega
  · exact h.keep.transM hk (fun _ _ h => h) (fun k hk hs => by have := (hS k hs).1; omega)
  · intro n hn
    exact Nat.lt_of_lt_of_le (h.hN n hn) hk.size

theorem NetI.still {W w w' : World} {N : Nat → Prop} {b : Nat} {st : NetS} (h : NetI W N b st w) (hk : Keep (fun _ => False) w w') : NetI W N b st w' ∧ Kp W N w w' := by
  obtain ⟨S, loc, lv, av, cv, hv, hS⟩ := h.ex
  exact h.step hS ((hv.keep hk (by intro k _ _ hk; exact hk)).mono Grow.le) (hk.mono (fun _ _ h => h.elim))

theorem NetI.new {W w : World} (hW : Keep (fun _ => False) W w) (N : Nat → Prop) (hN : ∀ n, N n → n < w.heap.size) :
    Calls Try.prog 10 #[] w fun e w' => e = .returned (.pointer (some ⟨w.heap.size, 0, none⟩)) ∧ NetI W N w.heap.size st0 w' ∧ Kp W N w w' := by
  refine (new_any w).mono ?_
  rintro e w' ⟨rfl, h, hk⟩
  refine ⟨rfl, ⟨⟨_, _, _, _, _, h, ?_⟩, hW.trans hk, fun n hn => Nat.lt_of_lt_of_le (hN n hn) hk.size⟩, hk.mono (fun _ _ h => h.elim)⟩
  rintro k rfl
  refine ⟨hW.size, fun e => ?_⟩
  have := hN _ e
  omega

theorem NetI.weaken {W w : World} {N N' : Nat → Prop} {b : Nat} {st : NetS} (h : NetI W N b st w) (hN : ∀ k, N' k → N k) : NetI W N' b st w := by
  obtain ⟨S, loc, lv, av, cv, hv, hS⟩ := h.ex
  exact ⟨⟨S, loc, lv, av, cv, hv, fun k hk => ⟨(hS k hk).1, fun h' => (hS k hk).2 (hN k h')⟩⟩, h.keep, fun n hn => h.hN n (hN n hn)⟩

/-- A fresh block is none of the net's. -/
theorem NetI.box {W w w' : World} {N : Nat → Prop} {b : Nat} {st : NetS} (h : NetI W N b st w) (x : Nat) (hx : w.heap.size ≤ x) (hx' : x < w'.heap.size) (hk : Keep (fun _ => False) w w') : NetI W (fun k => N k ∨ k = x) b st w' := by
  obtain ⟨S, loc, lv, av, cv, hv, hS⟩ := h.ex
  refine ⟨⟨_, loc, lv, av, cv, hv.cap.keep hk (by intro k _ _ hk; exact hk), ?_⟩, h.keep.trans hk, ?_⟩
  · rintro k ⟨hk1, hk2⟩
    refine ⟨(hS k hk1).1, ?_⟩
    rintro (hn | rfl)
    · exact (hS k hk1).2 hn
    · omega
  · rintro n (hn | rfl)
    · exact Nat.lt_of_lt_of_le (h.hN n hn) hk.size
    · exact hx'

theorem Kp.at {W w w' : World} {N : Nat → Prop} (h : Kp W N w w') {k : Nat} (hk : k < w.heap.size) (hn : N k) : w'.heap[k]? = w.heap[k]? := Keep.block h k hk (fun h => h.2 hn)

theorem NetI.send {W w : World} {N : Nat → Prop} {b : Nat} {st : NetS} (h : NetI W N b st w) (f t : Int) (d : ByteArray) (hf : I64 f) (ht : I64 t)
    (hd : d.size ≤ 1514) (s l : Int) (hsl : (st.at' f t).getD (0, 0) = (s, l)) (hs0 : 0 ≤ s) (hs1 : s < 4611686018427387904) (hl0 : 0 ≤ l) (hl1 : l < 4611686018427387904) (hy : Young st.l f t (s + 1)) :
    Calls Try.prog 11 #[.pointer (some ⟨b, 0, none⟩), .agg #[.int .i64 f, .int .i64 t, .string d]] w fun e w' => e = .returned (.int .i64 0) ∧ NetI W N b (sendS st f t d) w' ∧ Kp W N w w' := by
  obtain ⟨S, loc, lv, av, cv, hv, hS⟩ := h.ex
  refine (send_any hv f t d hf ht hd s l hsl hs0 hs1 hl0 hl1 hy).mono ?_
  rintro e w' ⟨loc', lv', av', rfl, h', hk⟩
  exact ⟨rfl, h.step hS h' hk⟩

theorem NetI.len {W w : World} {N : Nat → Prop} {b : Nat} {st : NetS} (h : NetI W N b st w) :
    Calls Try.prog 13 #[.pointer (some ⟨b, 0, none⟩)] w fun e w' => e = .returned (.int .i64 st.l.length) ∧ w' = w := by
  obtain ⟨S, loc, lv, av, cv, hv, hS⟩ := h.ex
  exact len_any hv

theorem NetI.sent {W w : World} {N : Nat → Prop} {b : Nat} {st : NetS} (h : NetI W N b st w) (p q : Int) (hp : I64 p) (hq : I64 q) :
    Calls Try.prog 15 #[.pointer (some ⟨b, 0, none⟩), .agg #[.int .i64 p, .int .i64 q]] w fun e w' => e = .returned (.int .i64 ((st.at' p q).getD (0, 0)).1) ∧ NetI W N b st w' ∧ Kp W N w w' := by
  obtain ⟨S, loc, lv, av, cv, hv, hS⟩ := h.ex
  refine (sent_any hv p q hp hq).mono ?_
  rintro e w' ⟨rfl, hk⟩
  exact ⟨rfl, h.still hk⟩

theorem NetI.lost {W w : World} {N : Nat → Prop} {b : Nat} {st : NetS} (h : NetI W N b st w) (p q : Int) (hp : I64 p) (hq : I64 q) :
    Calls Try.prog 16 #[.pointer (some ⟨b, 0, none⟩), .agg #[.int .i64 p, .int .i64 q]] w fun e w' => e = .returned (.int .i64 ((st.at' p q).getD (0, 0)).2) ∧ NetI W N b st w' ∧ Kp W N w w' := by
  obtain ⟨S, loc, lv, av, cv, hv, hS⟩ := h.ex
  refine (lost_any hv p q hp hq).mono ?_
  rintro e w' ⟨rfl, hk⟩
  exact ⟨rfl, h.still hk⟩

theorem NetI.peek_bad {W w : World} {N : Nat → Prop} {b : Nat} {st : NetS} (h : NetI W N b st w) (i : Int) (hlen : st.l.length ≤ 1000000) (hi : ¬ (0 ≤ i ∧ i < st.l.length)) :
    Calls Try.prog 18 #[.pointer (some ⟨b, 0, none⟩), .int .i64 i] w fun e w' => e = .returned (.tuple #[.agg #[.int .i64 0, .int .i64 0, .string (ByteArray.mk #[])], .int .i64 3]) ∧ NetI W N b st w' ∧ Kp W N w w' := by
  obtain ⟨S, loc, lv, av, cv, hv, hS⟩ := h.ex
  refine (Ytkfcjcbjefpliaa.peek_bad hv i hlen hi).mono ?_
  rintro e w' ⟨rfl, hk⟩
  exact ⟨rfl, h.still hk⟩

theorem NetI.peek_ok {W w : World} {N : Nat → Prop} {b : Nat} {st : NetS} (h : NetI W N b st w) (k : Nat) (hk : k < st.l.length) (hlen : st.l.length ≤ 1000000) :
    Calls Try.prog 18 #[.pointer (some ⟨b, 0, none⟩), .int .i64 k] w fun e w' => e = .returned (.tuple #[.agg #[.int .i64 st.l[k].f, .int .i64 st.l[k].t, .string st.l[k].d], .int .i64 0]) ∧ NetI W N b st w' ∧ Kp W N w w' := by
  obtain ⟨S, loc, lv, av, cv, hv, hS⟩ := h.ex
  refine (Ytkfcjcbjefpliaa.peek_ok hv k hk hlen).mono ?_
  rintro e w' ⟨rfl, hk⟩
  exact ⟨rfl, h.still hk⟩

theorem NetI.deliver_bad {W w : World} {N : Nat → Prop} {b : Nat} {st : NetS} (h : NetI W N b st w) (i : Int) (hlen : st.l.length ≤ 1000000) (hi : ¬ (0 ≤ i ∧ i < st.l.length)) :
    Calls Try.prog 12 #[.pointer (some ⟨b, 0, none⟩), .int .i64 i] w fun e w' => e = .returned (.tuple #[.agg #[.int .i64 0, .int .i64 0, .string (ByteArray.mk #[])], .int .i64 3]) ∧ NetI W N b st w' ∧ Kp W N w w' := by
  obtain ⟨S, loc, lv, av, cv, hv, hS⟩ := h.ex
  refine (Ytkfcjcbjefpliaa.deliver_bad hv i hlen hi).mono ?_
  rintro e w' ⟨rfl, hk⟩
  exact ⟨rfl, h.still hk⟩

theorem NetI.deliver_ok {W w : World} {N : Nat → Prop} {b : Nat} {st : NetS} (h : NetI W N b st w) (k : Nat) (hk : k < st.l.length) (hlen : st.l.length ≤ 1000000) :
    Calls Try.prog 12 #[.pointer (some ⟨b, 0, none⟩), .int .i64 k] w fun e w' => e = .returned (.tuple #[.agg #[.int .i64 st.l[k].f, .int .i64 st.l[k].t, .string st.l[k].d], .int .i64 0]) ∧
      NetI W N b { st with l := st.l.eraseIdx k } w' ∧ Kp W N w w' := by
  obtain ⟨S, loc, lv, av, cv, hv, hS⟩ := h.ex
  refine (Ytkfcjcbjefpliaa.deliver_ok hv k hk hlen).mono ?_
  rintro e w' ⟨lv', rfl, h', hk⟩
  exact ⟨rfl, h.step hS (h'.mono Grow.le) hk⟩

theorem NetI.drop_bad {W w : World} {N : Nat → Prop} {b : Nat} {st : NetS} (h : NetI W N b st w) (i : Int) (hlen : st.l.length ≤ 1000000) (hi : ¬ (0 ≤ i ∧ i < st.l.length)) :
    Calls Try.prog 14 #[.pointer (some ⟨b, 0, none⟩), .int .i64 i] w fun e w' => e = .returned (.int .i64 3) ∧ NetI W N b st w' ∧ Kp W N w w' := by
  obtain ⟨S, loc, lv, av, cv, hv, hS⟩ := h.ex
  refine (Ytkfcjcbjefpliaa.drop_bad hv i hlen hi).mono ?_
  rintro e w' ⟨rfl, hk⟩
  exact ⟨rfl, h.still hk⟩

theorem NetI.drop_ok {W w : World} {N : Nat → Prop} {b : Nat} {st : NetS} (h : NetI W N b st w) (k : Nat) (hk : k < st.l.length) (hlen : st.l.length ≤ 1000000)
    (hf : I64 st.l[k].f) (ht : I64 st.l[k].t) (hl0 : 0 ≤ ((st.at' st.l[k].f st.l[k].t).getD (0, 0)).2) (hl : ((st.at' st.l[k].f st.l[k].t).getD (0, 0)).2 < 9223372036854775807) :
    Calls Try.prog 14 #[.pointer (some ⟨b, 0, none⟩), .int .i64 k] w fun e w' => e = .returned (.int .i64 0) ∧ NetI W N b (dropS st k st.l[k].f st.l[k].t) w' ∧ Kp W N w w' := by
  obtain ⟨S, loc, lv, av, cv, hv, hS⟩ := h.ex
  refine (Ytkfcjcbjefpliaa.drop_ok hv k hk hlen hf ht hl0 hl).mono ?_
  rintro e w' ⟨loc', lv', av', rfl, h', hk⟩
  exact ⟨rfl, h.step hS h' hk⟩

theorem NetI.twice_two {W w : World} {N : Nat → Prop} {b : Nat} {st : NetS} (h : NetI W N b st w) (x y : Gram) (hl : st.l = [x, y]) :
    Calls Try.prog 20 #[.pointer (some ⟨b, 0, none⟩), .int .i64 0] w fun e w' => e = .returned (.int .i64 0) ∧ NetI W N b { st with l := [x, x, y] } w' ∧ Kp W N w w' := by
  obtain ⟨S, loc, lv, av, cv, hv, hS⟩ := h.ex
  refine (Ytkfcjcbjefpliaa.twice_two hv x y hl).mono ?_
  rintro e w' ⟨lv', rfl, h', hk⟩
  exact ⟨rfl, h.step hS h' hk⟩
end Go.Proofs.Ytkfcjcbjefpliaa
