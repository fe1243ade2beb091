import Derived.Test.YtcgneokcpffjaaaW7
namespace Go.Proofs.Ytcgneokcpffjaaa
open Go.RowKit Go.Tg Go.Maps

def Nab (ba bb : Nat) : Nat → Prop := fun b => b = ba ∨ b = bb
structure Two (w wr : World) (ba bb : Nat) (sa sb : St) : Prop where
  atA : At wr ba sa
  atB : At wr bb sb
  okA : OkSt sa
  okB : OkSt sb
  bel : Below w.heap.size w wr
  ne : ba ≠ bb
  la : w.heap.size ≤ ba
  lb : w.heap.size ≤ bb

section
variable {w wr : World} {ba bb : Nat} {sa sb : St}
theorem Two.doA (h : Two w wr ba bb sa sb) (e : Int) (he : (Lit.int .i64 e).wf = true) : Calls Try.prog 13 #[.pointer (some ⟨ba, 0, none⟩), .int .i64 e] wr fun en w' => ∃ v, en = .returned v ∧ IntsAt 3 wr.heap.size w' v (nextL sa.1 e) ∧ Two w w' ba bb (stDo e sa) sb ∧ Keep (· = ba) wr w' := by
  refine (stdo_any ba sa e wr h.atA h.okA he).mono ?_
  rintro en w' ⟨v, rfl, h1, h2, h3⟩
  exact ⟨v, rfl, h1, ⟨h2, h.atB.keep h3 (Ne.symm h.ne), h.okA.do e, h.okB, h.bel.trans (h3.below h.bel.size (fun k hk h4 => by have := h.la; omega)), h.ne, h.la, h.lb⟩, h3⟩
theorem Two.doB (h : Two w wr ba bb sa sb) (e : Int) (he : (Lit.int .i64 e).wf = true) : Calls Try.prog 13 #[.pointer (some ⟨bb, 0, none⟩), .int .i64 e] wr fun en w' => ∃ v, en = .returned v ∧ IntsAt 3 wr.heap.size w' v (nextL sb.1 e) ∧ Two w w' ba bb sa (stDo e sb) ∧ Keep (· = bb) wr w' := by
  refine (stdo_any bb sb e wr h.atB h.okB he).mono ?_
  rintro en w' ⟨v, rfl, h1, h2, h3⟩
  exact ⟨v, rfl, h1, ⟨h.atA.keep h3 h.ne, h2, h.okA, h.okB.do e, h.bel.trans (h3.below h.bel.size (fun k hk h4 => by have := h.lb; omega)), h.ne, h.la, h.lb⟩, h3⟩
theorem Two.tmoA (h : Two w wr ba bb sa sb) : Calls Try.prog 16 #[.pointer (some ⟨ba, 0, none⟩)] wr fun en w' => ∃ v, en = .returned v ∧ IntsAt 3 wr.heap.size w' v (tmoL sa.1 sa.2) ∧ Two w w' ba bb (stTmo sa) sb ∧ Keep (· = ba) wr w' := by
  refine (sttmo_any ba sa wr h.atA h.okA).mono ?_
  rintro en w' ⟨v, rfl, h1, h2, h3⟩
  exact ⟨v, rfl, h1, ⟨h2, h.atB.keep h3 (Ne.symm h.ne), h.okA.tmo, h.okB, h.bel.trans (h3.below h.bel.size (fun k hk h4 => by have := h.la; omega)), h.ne, h.la, h.lb⟩, h3⟩
theorem Two.tmoB (h : Two w wr ba bb sa sb) : Calls Try.prog 16 #[.pointer (some ⟨bb, 0, none⟩)] wr fun en w' => ∃ v, en = .returned v ∧ IntsAt 3 wr.heap.size w' v (tmoL sb.1 sb.2) ∧ Two w w' ba bb sa (stTmo sb) ∧ Keep (· = bb) wr w' := by
  refine (sttmo_any bb sb wr h.atB h.okB).mono ?_
  rintro en w' ⟨v, rfl, h1, h2, h3⟩
  exact ⟨v, rfl, h1, ⟨h.atA.keep h3 h.ne, h2, h.okA, h.okB.tmo, h.bel.trans (h3.below h.bel.size (fun k hk h4 => by have := h.lb; omega)), h.ne, h.la, h.lb⟩, h3⟩
theorem Two.hearA (h : Two w wr ba bb sa sb) (act : Int) : Calls Try.prog 17 #[.pointer (some ⟨ba, 0, none⟩), .int .i64 act] wr fun en w' => ∃ v, en = .returned v ∧ IntsAt 3 wr.heap.size w' v (hL sa act) ∧ Two w w' ba bb (hS sa act) sb ∧ Keep (· = ba) wr w' := by
  refine (heard_any ba sa act wr h.atA h.okA).mono ?_
  rintro en w' ⟨v, rfl, h1, h2, h3⟩
  exact ⟨v, rfl, h1, ⟨h2, h.atB.keep h3 (Ne.symm h.ne), h.okA.hear act, h.okB, h.bel.trans (h3.below h.bel.size (fun k hk h4 => by have := h.la; omega)), h.ne, h.la, h.lb⟩, h3⟩
theorem Two.hearB (h : Two w wr ba bb sa sb) (act : Int) : Calls Try.prog 17 #[.pointer (some ⟨bb, 0, none⟩), .int .i64 act] wr fun en w' => ∃ v, en = .returned v ∧ IntsAt 3 wr.heap.size w' v (hL sb act) ∧ Two w w' ba bb sa (hS sb act) ∧ Keep (· = bb) wr w' := by
  refine (heard_any bb sb act wr h.atB h.okB).mono ?_
  rintro en w' ⟨v, rfl, h1, h2, h3⟩
  exact ⟨v, rfl, h1, ⟨h.atA.keep h3 h.ne, h2, h.okA, h.okB.hear act, h.bel.trans (h3.below h.bel.size (fun k hk h4 => by have := h.lb; omega)), h.ne, h.la, h.lb⟩, h3⟩
theorem Two.alive (h : Two w wr ba bb sa sb) : Calls Try.prog 10 #[] wr fun e w' => e = .returned (.bool true) ∧ Two w w' ba bb sa sb :=
  (alive_any wr).mono fun _ _ ⟨x, y⟩ => ⟨x, h.atA.below y, h.atB.below y, h.okA, h.okB, h.bel.trans (y.mono h.bel.size), h.ne, h.la, h.lb⟩
/-- What is appended or made from block B on leaves both as they are. -/
theorem Two.nab (h : Two w wr ba bb sa sb) (b : Nat) (hb : wr.heap.size ≤ b) : ¬ Nab ba bb b := by
  have h1 := h.atA.lt
  have h2 := h.atB.lt
  unfold Nab
  omega
theorem Two.from (h : Two w wr ba bb sa sb) {w' : World} {B : Nat} (hk : Keep (fun k => B ≤ k) wr w') (hB : ba < B) (hB2 : bb < B) : Two w w' ba bb sa sb :=
  ⟨h.atA.keep hk (by omega), h.atB.keep hk (by omega), h.okA, h.okB, h.bel.trans (hk.below h.bel.size (fun k h1 h2 => by have := h.la; omega)), h.ne, h.la, h.lb⟩
end

theorem info3 : (Try.prog.info? 3).map (fun i => (i.zero, i.size, i.bytes)) = some (some (.int .i64 0), 1, 8) := by kernel_rfl

theorem sim_ok (first : Bool) : ∀ i, OkSt (sim first i).a ∧ OkSt (sim first i).b := by
  have h0 : OkSt ((0, 0) : St) := ⟨by decide, by unfold InB; decide⟩
  intro i
  induction i with
  | zero =>
    show OkSt (start first).a ∧ OkSt (start first).b
    unfold start
    refine ⟨(h0.do 2).do 0, ?_⟩
    dsimp only
    split
    · exact (h0.do 2).do 0
    · exact h0.do 2
  | succ i ih =>
    show OkSt (round first i (sim first i)).a ∧ OkSt (round first i (sim first i)).b
    generalize sim first i = s at *
    have ha := (hears_ok ih.1 s.y []).1
    have hb := (hears_ok ih.2 s.x []).1
    unfold round
    dsimp only
    by_cases hc : (i == 0 && !first) = true
    · rw [if_pos hc]
      split
      · exact ⟨OkSt.tmo ha, OkSt.tmo (OkSt.do hb 0)⟩
      · exact ⟨ha, OkSt.do hb 0⟩
    · rw [if_neg hc]
      split
      · exact ⟨OkSt.tmo ha, OkSt.tmo hb⟩
      · exact ⟨ha, hb⟩

theorem round_a (first : Bool) (i : Nat) (s : Sim) (hc : (i == 0 && !first) = false) (hz : (hears s.b s.x).2.length + (hears s.a s.y).2.length ≠ 0) :
    round first i s = ⟨(hears s.a s.y).1, (hears s.b s.x).1, (hears s.a s.y).2, (hears s.b s.x).2⟩ := by
  unfold round
  simp only [hc, Bool.false_eq_true, if_false]
  rw [if_neg hz]
theorem round_b (first : Bool) (i : Nat) (s : Sim) (hc : (i == 0 && !first) = false) (hz : (hears s.b s.x).2.length + (hears s.a s.y).2.length = 0) :
    round first i s = ⟨stTmo (hears s.a s.y).1, stTmo (hears s.b s.x).1, tmoL (hears s.a s.y).1.1 (hears s.a s.y).1.2, tmoL (hears s.b s.x).1.1 (hears s.b s.x).1.2⟩ := by
  unfold round
  simp only [hc, Bool.false_eq_true, if_false]
  rw [if_pos hz]
theorem round_c (s : Sim) (hz : (nextL (hears s.b s.x).1.1 0).length + (hears s.a s.y).2.length ≠ 0) :
    round false 0 s = ⟨(hears s.a s.y).1, stDo 0 (hears s.b s.x).1, (hears s.a s.y).2, nextL (hears s.b s.x).1.1 0⟩ := by
  unfold round
  simp only [show ((0 : Nat) == 0 && !false) = true from rfl, if_true]
  rw [if_neg hz]
theorem round_d (s : Sim) (hz : (nextL (hears s.b s.x).1.1 0).length + (hears s.a s.y).2.length = 0) :
    round false 0 s = ⟨stTmo (hears s.a s.y).1, stTmo (stDo 0 (hears s.b s.x).1), tmoL (hears s.a s.y).1.1 (hears s.a s.y).1.2, tmoL (stDo 0 (hears s.b s.x).1).1 (stDo 0 (hears s.b s.x).1).2⟩ := by
  unfold round
  simp only [show ((0 : Nat) == 0 && !false) = true from rfl, if_true]
  rw [if_pos hz]

set_option maxHeartbeats 4000000 in
set_option maxRecDepth 100000 in
theorem meets_walk (first : Bool) (w : World) :
    Calls Try.prog 8 #[.bool first] w fun en w' => en = .returned (.bool true) ∧ Below w.heap.size w w' := by
  obtain ⟨i0, hi, hz0, hz1, hz2⟩ := info_parts info3
  have okS : OkSt ((0, 0) : St) := ⟨by decide, by unfold InB; decide⟩
  have SLEN := Lib.hid (sim_len first)
  have SOK := Lib.hid (sim_ok first)
  have SEND := Lib.hid (sim_end first)
  have S0 : Hid (sim first 0 = start first) := rfl
  have SN : Hid (∀ i, sim first (i + 1) = round first i (sim first i)) := fun i => rfl
  cases first
  · go_enter Try.func8, Try.ntmps8
    go_wp2_with fail
    refine (new_ok 5 2 _ (by decide) (by decide)).mono ?_
    rintro en w1 ⟨rfl, ha, hk⟩
    have HA := Lib.hid (And.intro ha hk)
    clear ha hk
    go_wp2_with fail
    refine (new_ok 5 2 _ (by decide) (by decide)).mono ?_
    rintro en w2 ⟨rfl, hb, hk2⟩
    have hab : w.heap.size ≠ w1.heap.size := by have := HA.out.1.lt; omega
    have hle1 : w.heap.size ≤ w1.heap.size := HA.out.2.size
    have HT : Hid (Two w w2 w.heap.size w1.heap.size (0, 0) (0, 0)) := ⟨HA.out.1.keep hk2 (by simp), hb, okS, okS, (HA.out.2.below (Nat.le_refl _) (by simp)).trans (hk2.below HA.out.2.size (by simp)), hab, Nat.le_refl _, hle1⟩
    clear HA hb hk2
    generalize w1.heap.size = bb at *
    go_wp2_with fail
    refine (HT.out.doA 2 (by decide)).mono ?_
    rintro en w3 ⟨v3, rfl, -, h3, -⟩
    have HT := Lib.hid h3
    clear h3
    go_wp2_with fail
    refine (HT.out.doB 2 (by decide)).mono ?_
    rintro en w4 ⟨v4, rfl, -, h3, -⟩
    have HT := Lib.hid h3
    clear h3
    go_wp2_with fail
    refine (HT.out.doA 0 (by decide)).mono ?_
    rintro en w5 ⟨v5, rfl, hv3, h3, hk3⟩
    obtain ⟨sx, cx, rfl, hnx, hrx⟩ := hv3.rd (Nab w.heap.size bb) HT.out.nab
    have HT := Lib.hid h3
    have HX := Lib.hid (And.intro hnx hrx)
    clear h3 hv3 hnx hrx hk3
    have hx0 : nextL (stDo 2 (0, 0)).1 0 = (sim false 0).x := rfl
    rw [hx0] at HX ⊢
    clear hx0
    have HT : Hid (Two w w5 w.heap.size bb (sim false 0).a (sim false 0).b) := HT.out
    have HY : Hid ((none = (none : Option Addr) → 0 = 0) ∧ Rd w5 (Nab w.heap.size bb) none (sim false 0).y) := ⟨fun _ => rfl, Rd.nil _ _ _⟩
    have hy0 : (0 : Nat) = (sim false 0).y.length := rfl
    have HY0 := Lib.hid hy0
    clear hy0
    go_wp2_with fail
    go_loopg [7, 8, 9] 12 (fun n vx vy vi wr => ∃ (i : Nat) (sx sy : Option Addr) (cx cy : Nat), i ≤ 12 ∧ n = 12 - i ∧ vi = .int .i64 i ∧ vx = .slice sx (sim false i).x.length cx ∧ vy = .slice sy (sim false i).y.length cy ∧
      Hid (Two w wr w.heap.size bb (sim false i).a (sim false i).b ∧ (sx = none → cx = 0) ∧ Rd wr (Nab w.heap.size bb) sx (sim false i).x ∧ (sy = none → cy = 0) ∧ Rd wr (Nab w.heap.size bb) sy (sim false i).y))
    case atStart => exact ⟨0, sx, none, cx, 0, by omega, by omega, rfl, rfl, rfl, HT.out, HX.out.1, HX.out.2, fun _ => rfl, Rd.nil _ _ _⟩
    case round =>
      clear HT HX HY
      obtain ⟨i, sx, sy, cx, cy, hi12, rfl, rfl, rfl, rfl, hH⟩ := hrel
      obtain ⟨wA, rfl⟩ : ∃ wA, wA = wr := ⟨_, rfl⟩
      by_cases hlt : i < 12
      · have hSN := Lib.hid (SN.out i)
        have hltb : decide ((i : Int) < 12) = true := by simp; omega
        obtain ⟨hlx, hly⟩ := SLEN.out i (by omega)
        generalize sim false i = s at hSN hlx hly hH ⊢
        obtain ⟨sta, stb, x, y⟩ := s
        dsimp only at hlx hly hH ⊢
        have HT := Lib.hid hH.out.1
        have HX := Lib.hid (And.intro hH.out.2.1 hH.out.2.2.1)
        have HY := Lib.hid hH.out.2.2.2
        clear hH SLEN SOK SEND S0
        go_wp2_with fail
        go_loopg [10, 12] x.length (fun n vp vk wq => ∃ (k : Nat), k ≤ x.length ∧ n = x.length - k ∧ vk = .int .i64 k ∧
          Hid (OwnI 3 wA.heap.size wq vp (hears stb (x.take k)).2 ∧ Two w wq w.heap.size bb sta (hears stb (x.take k)).1 ∧ Keep (fun j => j = bb ∨ wA.heap.size ≤ j) wA wq))
        case atStart => exact ⟨0, by omega, by omega, rfl, OwnI.nil _ _ _, HT.out, Keep.refl _ _⟩
        case round =>
          obtain ⟨k, hk, rfl, rfl, hH⟩ := hrel
          obtain ⟨wq, rfl⟩ : ∃ wq, wq = wr := ⟨_, rfl⟩
          have HT1 := Lib.hid hH.out.2.1
          have HO1 := Lib.hid hH.out.1
          have HK1 := Lib.hid hH.out.2.2
          by_cases hkx : k < x.length
          · obtain ⟨b, rfl, -, hblt, hcell⟩ := (HX.out.2.keep HK1.out (fun b hb h => by rcases h with h | h; exact Or.inr h; omega)) k hkx
            have HHS := Lib.hid (hears_snoc stb x k hkx)
            have HLN := Lib.hid (hears_ok HT.out.okB (x.take k) [])
            clear hblt hH
            generalize x[k] = act at *
            go_wp2_with fail
            refine (HT1.out.hearB act).mono ?_
            rintro en w8 ⟨v8, rfl, hv8, ht8, hk8⟩
            obtain ⟨s8, c8, rfl, hn8, hr8⟩ := hv8.rd (fun _ => False) (by simp)
            have HOWN8 := Lib.hid (HO1.out.keep hk8 (fun b hb h1 h2 => by subst h2; have := HT.out.atB.lt; omega))
            have HT8 := Lib.hid ht8
            have HK8 := Lib.hid hk8
            have HR8 := Lib.hid (And.intro hn8 hr8)
            have hlen8 : (hears stb (x.take k)).2.length + (hL (hears stb (x.take k)).1 act).length ≤ 1000000 := by
              have h1 := HLN.out.2
              have h2 := hL_len (hears stb (x.take k)).1 act
              have h3 : (x.take k).length ≤ k := List.length_take_le _ _
              have h4 : (hears stb (x.take k)).2.length ≤ ([] : List Int).length + 3 * (x.take k).length := h1
              simp only [List.length_nil] at h4
              omega
            have hB8 : wA.heap.size ≤ w8.heap.size := Nat.le_trans HK1.out.size hk8.size
            have HL8 := Lib.hid (And.intro hlen8 hB8)
            clear hv8 ht8 hk8 hn8 hr8 hlen8 hB8 hcell
            go_wp2_with (at_builtin; refine wpl_append_ints rfl _ _ 22 3 rfl i0 Try.underlying22 hi hz0 hz1 hz2 wA.heap.size _ _ rfl HOWN8.out s8 c8 _ (fun _ => False) rfl HR8.out.1 HR8.out.2 HL8.out.1 HL8.out.2 ?_; intro v9 w9 ho9 hk9)
            have HO9 := Lib.hid ho9
            have HK9 := Lib.hid hk9
            clear ho9 hk9
            go_wp2_with fail
            go_roundg (x.length - (k + 1))
            case measure => omega
            case rel => exact ⟨k + 1, by omega, rfl, by go_num, by rw [HHS.out]; exact HO9.out, by rw [HHS.out]; exact HT8.out.from HK9.out HT.out.atA.lt HT.out.atB.lt, (HK1.out.trans (HK8.out.mono (fun _ _ h => Or.inl h))).trans (HK9.out.mono (fun _ _ h => Or.inr h))⟩
          · obtain rfl : k = x.length := by omega
            have hto : OwnI 3 wA.heap.size wq u10 (hears stb x).2 := by have := HO1.out; rw [List.take_length] at this; exact this
            have htt : Two w wq w.heap.size bb sta (hears stb x).1 := by have := HT1.out; rw [List.take_length] at this; exact this
            have HPO := Lib.hid hto
            have HT2 := Lib.hid htt
            have HYB := Lib.hid (And.intro HY.out.1 (HY.out.2.keep HK1.out (fun b hb h => by rcases h with h | h; exact Or.inr h; omega)))
            have hsz := HK1.out.size
            clear hto htt hH HO1 HT1 HY HX
            go_wp2_with fail
            go_loopg [11, 13] y.length (fun n vp vk wz => ∃ (k : Nat), k ≤ y.length ∧ n = y.length - k ∧ vk = .int .i64 k ∧
              Hid (OwnI 3 wq.heap.size wz vp (hears sta (y.take k)).2 ∧ Two w wz w.heap.size bb (hears sta (y.take k)).1 (hears stb x).1 ∧ Keep (fun j => j = w.heap.size ∨ wq.heap.size ≤ j) wq wz))
            case atStart => exact ⟨0, by omega, by omega, rfl, OwnI.nil _ _ _, HT2.out, Keep.refl _ _⟩
            case round =>
              obtain ⟨k, hk, rfl, rfl, hH⟩ := hrel
              obtain ⟨wz, rfl⟩ : ∃ wz, wz = wr := ⟨_, rfl⟩
              have HT1 := Lib.hid hH.out.2.1
              have HO1 := Lib.hid hH.out.1
              have HK1 := Lib.hid hH.out.2.2
              by_cases hkx : k < y.length
              · obtain ⟨b, rfl, -, hblt, hcell⟩ := (HYB.out.2.keep HK1.out (fun b hb h => by rcases h with h | h; exact Or.inl h; omega)) k hkx
                have HHS := Lib.hid (hears_snoc sta y k hkx)
                have HLN := Lib.hid (hears_ok HT2.out.okA (y.take k) [])
                clear hblt hH
                generalize y[k] = act at *
                go_wp2_with fail
                refine (HT1.out.hearA act).mono ?_
                rintro en w8 ⟨v8, rfl, hv8, ht8, hk8⟩
                obtain ⟨s8, c8, rfl, hn8, hr8⟩ := hv8.rd (fun _ => False) (by simp)
                have HOWN8 := Lib.hid (HO1.out.keep hk8 (fun b hb h1 h2 => by subst h2; have := HT2.out.atA.lt; omega))
                have HT8 := Lib.hid ht8
                have HK8 := Lib.hid hk8
                have HR8 := Lib.hid (And.intro hn8 hr8)
                have hlen8 : (hears sta (y.take k)).2.length + (hL (hears sta (y.take k)).1 act).length ≤ 1000000 := by
                  have h1 := HLN.out.2
                  have h2 := hL_len (hears sta (y.take k)).1 act
                  have h3 : (y.take k).length ≤ k := List.length_take_le _ _
                  have h4 : (hears sta (y.take k)).2.length ≤ ([] : List Int).length + 3 * (y.take k).length := h1
                  simp only [List.length_nil] at h4
                  omega
                have hB8 : wq.heap.size ≤ w8.heap.size := Nat.le_trans HK1.out.size hk8.size
                have HL8 := Lib.hid (And.intro hlen8 hB8)
                clear hv8 ht8 hk8 hn8 hr8 hlen8 hB8 hcell
                go_wp2_with (at_builtin; refine wpl_append_ints rfl _ _ 22 3 rfl i0 Try.underlying22 hi hz0 hz1 hz2 wq.heap.size _ _ rfl HOWN8.out s8 c8 _ (fun _ => False) rfl HR8.out.1 HR8.out.2 HL8.out.1 HL8.out.2 ?_; intro v9 w9 ho9 hk9)
                have HO9 := Lib.hid ho9
                have HK9 := Lib.hid hk9
                clear ho9 hk9
                go_wp2_with fail
                go_roundg (y.length - (k + 1))
                case measure => omega
                case rel => exact ⟨k + 1, by omega, rfl, by go_num, by rw [HHS.out]; exact HO9.out, by rw [HHS.out]; exact HT8.out.from HK9.out HT2.out.atA.lt HT2.out.atB.lt, (HK1.out.trans (HK8.out.mono (fun _ _ h => Or.inl h))).trans (HK9.out.mono (fun _ _ h => Or.inr h))⟩
              · obtain rfl : k = y.length := by omega
                have hto : OwnI 3 wq.heap.size wz u11 (hears sta y).2 := by have := HO1.out; rw [List.take_length] at this; exact this
                have htt : Two w wz w.heap.size bb (hears sta y).1 (hears stb x).1 := by have := HT1.out; rw [List.take_length] at this; exact this
                have hpo : OwnI 3 wA.heap.size wz u10 (hears stb x).2 := HPO.out.keep HK1.out (fun b hb h1 h2 => by have := HT.out.atA.lt; omega)
                obtain ⟨sp, cp, rfl, hnp, hrp⟩ := hpo.rd (Nab w.heap.size bb) HT.out.nab
                obtain ⟨sq, cq, rfl, hnq, hrq⟩ := hto.rd (Nab w.heap.size bb) HT2.out.nab
                have HT3 := Lib.hid htt
                have HP := Lib.hid (And.intro hnp hrp)
                have HQ := Lib.hid (And.intro hnq hrq)
                have HLP := hears_ok HT.out.okB x []
                have HLQ := hears_ok HT.out.okA y []
                have hpl : (hears stb x).2.length ≤ ([] : List Int).length + 3 * x.length := HLP.2
                have hql : (hears sta y).2.length ≤ ([] : List Int).length + 3 * y.length := HLQ.2
                simp only [List.length_nil] at hpl hql
                clear hpo hto htt hnp hrp hnq hrq HPO HO1 HT1 HYB HT2 hH HLP HLQ HT
                by_cases hi0 : i = 0
                · subst hi0
                  clear HP
                  go_wp2_with fail
                  refine (HT3.out.doB 0 (by decide)).mono ?_
                  rintro en w10 ⟨v10, rfl, hv10, ht10, hk10⟩
                  obtain ⟨sp, cp, rfl, hnp, hrp⟩ := hv10.rd (Nab w.heap.size bb) HT3.out.nab
                  have HQ := Lib.hid (And.intro HQ.out.1 (HQ.out.2.keep hk10 (fun b _ h => Or.inr h)))
                  have HT3 := Lib.hid ht10
                  have HP := Lib.hid (And.intro hnp hrp)
                  have hnl3 := nextL_le (hears stb x).1.1 0
                  have E0 := Lib.hid (fun h => round_c ⟨sta, stb, x, y⟩ h)
                  have E1 := Lib.hid (fun h => round_d ⟨sta, stb, x, y⟩ h)
                  dsimp only at E0 E1
                  by_cases hz : (nextL (hears stb x).1.1 0).length + (hears sta y).2.length = 0
                  · have E := hSN.out.trans (E1.out hz)
                    have HE := Lib.hid E
                    clear E E0 E1
                    go_wp2_with fail
                    refine HT3.out.tmoB.mono ?_
                    rintro en w11 ⟨v11, rfl, hv11, ht11, hk11⟩
                    obtain ⟨s11, c11, rfl, hn11, hr11⟩ := hv11.rd (Nab w.heap.size bb) HT3.out.nab
                    have HT11 := Lib.hid ht11
                    have HR11 := Lib.hid (And.intro hn11 hr11)
                    clear ht11 hn11 hr11 hv11
                    go_wp2_with fail
                    refine HT11.out.tmoA.mono ?_
                    rintro en w12 ⟨v12, rfl, hv12, ht12, hk12⟩
                    obtain ⟨s12, c12, rfl, hn12, hr12⟩ := hv12.rd (Nab w.heap.size bb) HT11.out.nab
                    have HT12 := Lib.hid ht12
                    have HR12 := Lib.hid (And.intro hn12 hr12)
                    have HRR := Lib.hid (HR11.out.2.keep hk12 (fun b _ h => Or.inl h))
                    clear ht12 hn12 hr12 hk12 hv12 hk11
                    go_wp2_with fail
                    go_roundg (12 - (0 + 1))
                    case measure => omega
                    case rel =>
                      refine ⟨0 + 1, s12, s11, c12, c11, by omega, rfl, by go_num, ?_, ?_, ?_⟩
                      · rw [HE.out]
                      · rw [HE.out]
                      · rw [HE.out]; exact ⟨HT12.out, HR12.out.1, HR12.out.2, HR11.out.1, HRR.out⟩
                  · have E := hSN.out.trans (E0.out hz)
                    have HE := Lib.hid E
                    clear E E0 E1
                    go_wp2_with fail
                    go_roundg (12 - (0 + 1))
                    case measure => omega
                    case rel =>
                      refine ⟨0 + 1, sq, sp, cq, cp, by omega, rfl, by go_num, ?_, ?_, ?_⟩
                      · rw [HE.out]
                      · rw [HE.out]
                      · rw [HE.out]; exact ⟨HT3.out, HQ.out.1, HQ.out.2, HP.out.1, HP.out.2⟩
                · skip
                  have E0 := Lib.hid (fun h => (round_a false i ⟨sta, stb, x, y⟩ (by simp [hi0]) h))
                  have E1 := Lib.hid (fun h => (round_b false i ⟨sta, stb, x, y⟩ (by simp [hi0]) h))
                  dsimp only at E0 E1
                  by_cases hz : (hears stb x).2.length + (hears sta y).2.length = 0
                  · have E := hSN.out.trans (E1.out hz)
                    have HE := Lib.hid E
                    clear E E0 E1
                    go_wp2_with fail
                    refine HT3.out.tmoB.mono ?_
                    rintro en w11 ⟨v11, rfl, hv11, ht11, hk11⟩
                    obtain ⟨s11, c11, rfl, hn11, hr11⟩ := hv11.rd (Nab w.heap.size bb) HT3.out.nab
                    have HT11 := Lib.hid ht11
                    have HR11 := Lib.hid (And.intro hn11 hr11)
                    clear ht11 hn11 hr11 hv11
                    go_wp2_with fail
                    refine HT11.out.tmoA.mono ?_
                    rintro en w12 ⟨v12, rfl, hv12, ht12, hk12⟩
                    obtain ⟨s12, c12, rfl, hn12, hr12⟩ := hv12.rd (Nab w.heap.size bb) HT11.out.nab
                    have HT12 := Lib.hid ht12
                    have HR12 := Lib.hid (And.intro hn12 hr12)
                    have HRR := Lib.hid (HR11.out.2.keep hk12 (fun b _ h => Or.inl h))
                    clear ht12 hn12 hr12 hk12 hv12 hk11
                    go_wp2_with fail
                    go_roundg (12 - (i + 1))
                    case measure => omega
                    case rel =>
                      refine ⟨i + 1, s12, s11, c12, c11, by omega, rfl, by go_num, ?_, ?_, ?_⟩
                      · rw [HE.out]
                      · rw [HE.out]
                      · rw [HE.out]; exact ⟨HT12.out, HR12.out.1, HR12.out.2, HR11.out.1, HRR.out⟩
                  · have E := hSN.out.trans (E0.out hz)
                    have HE := Lib.hid E
                    clear E E0 E1
                    go_wp2_with fail
                    go_roundg (12 - (i + 1))
                    case measure => omega
                    case rel =>
                      refine ⟨i + 1, sq, sp, cq, cp, by omega, rfl, by go_num, ?_, ?_, ?_⟩
                      · rw [HE.out]
                      · rw [HE.out]
                      · rw [HE.out]; exact ⟨HT3.out, HQ.out.1, HQ.out.2, HP.out.1, HP.out.2⟩

      · obtain rfl : i = 12 := by omega
        obtain ⟨he1, he2⟩ := SEND.out
        have HT := Lib.hid hH.out.1
        generalize sim false 12 = s at he1 he2 HT ⊢
        have HEE := Lib.hid (And.intro he1 he2)
        clear hH SLEN SOK SEND S0 SN he1 he2
        go_wp2_with fail
        refine HT.out.alive.mono ?_
        rintro en w20 ⟨rfl, ht20⟩
        have HT := Lib.hid ht20
        clear ht20
        go_wp2_with fail
        refine (state_some _ _ _ _ _ _ HT.out.atA (by omega)).mono ?_
        rintro en w21 ⟨rfl, rfl⟩
        rw [HEE.out.1]
        go_wp2_with fail
        refine (state_some _ _ _ _ _ _ HT.out.atB (by omega)).mono ?_
        rintro en w21 ⟨rfl, rfl⟩
        rw [HEE.out.2]
        go_wp2_with fail
        go_ret
        exact ⟨rfl, HT.out.bel⟩
  · go_enter Try.func8, Try.ntmps8
    go_wp2_with fail
    refine (new_ok 5 2 _ (by decide) (by decide)).mono ?_
    rintro en w1 ⟨rfl, ha, hk⟩
    have HA := Lib.hid (And.intro ha hk)
    clear ha hk
    go_wp2_with fail
    refine (new_ok 5 2 _ (by decide) (by decide)).mono ?_
    rintro en w2 ⟨rfl, hb, hk2⟩
    have hab : w.heap.size ≠ w1.heap.size := by have := HA.out.1.lt; omega
    have hle1 : w.heap.size ≤ w1.heap.size := HA.out.2.size
    have HT : Hid (Two w w2 w.heap.size w1.heap.size (0, 0) (0, 0)) := ⟨HA.out.1.keep hk2 (by simp), hb, okS, okS, (HA.out.2.below (Nat.le_refl _) (by simp)).trans (hk2.below HA.out.2.size (by simp)), hab, Nat.le_refl _, hle1⟩
    clear HA hb hk2
    generalize w1.heap.size = bb at *
    go_wp2_with fail
    refine (HT.out.doA 2 (by decide)).mono ?_
    rintro en w3 ⟨v3, rfl, -, h3, -⟩
    have HT := Lib.hid h3
    clear h3
    go_wp2_with fail
    refine (HT.out.doB 2 (by decide)).mono ?_
    rintro en w4 ⟨v4, rfl, -, h3, -⟩
    have HT := Lib.hid h3
    clear h3
    go_wp2_with fail
    refine (HT.out.doA 0 (by decide)).mono ?_
    rintro en w5 ⟨v5, rfl, hv3, h3, hk3⟩
    obtain ⟨sx, cx, rfl, hnx, hrx⟩ := hv3.rd (Nab w.heap.size bb) HT.out.nab
    have HT := Lib.hid h3
    have HX := Lib.hid (And.intro hnx hrx)
    clear h3 hv3 hnx hrx hk3
    have hx0 : nextL (stDo 2 (0, 0)).1 0 = (sim true 0).x := rfl
    rw [hx0] at HX ⊢
    clear hx0
    go_wp2_with fail
    refine (HT.out.doB 0 (by decide)).mono ?_
    rintro en w6 ⟨v6, rfl, hv3, h3, hk3⟩
    obtain ⟨sy, cy, rfl, hny, hry⟩ := hv3.rd (Nab w.heap.size bb) HT.out.nab
    have HX := Lib.hid (And.intro HX.out.1 (HX.out.2.keep hk3 (fun b _ h => Or.inr h)))
    have HT := Lib.hid h3
    have HY := Lib.hid (And.intro hny hry)
    clear h3 hv3 hny hry hk3
    have hx0 : nextL (stDo 2 (0, 0)).1 0 = (sim true 0).y := rfl
    rw [hx0] at HY ⊢
    clear hx0
    have HT : Hid (Two w w6 w.heap.size bb (sim true 0).a (sim true 0).b) := HT.out
    go_wp2_with fail
    go_loopg [7, 8, 9] 12 (fun n vx vy vi wr => ∃ (i : Nat) (sx sy : Option Addr) (cx cy : Nat), i ≤ 12 ∧ n = 12 - i ∧ vi = .int .i64 i ∧ vx = .slice sx (sim true i).x.length cx ∧ vy = .slice sy (sim true i).y.length cy ∧
      Hid (Two w wr w.heap.size bb (sim true i).a (sim true i).b ∧ (sx = none → cx = 0) ∧ Rd wr (Nab w.heap.size bb) sx (sim true i).x ∧ (sy = none → cy = 0) ∧ Rd wr (Nab w.heap.size bb) sy (sim true i).y))
    case atStart => exact ⟨0, sx, sy, cx, cy, by omega, by omega, rfl, rfl, rfl, HT.out, HX.out.1, HX.out.2, HY.out.1, HY.out.2⟩
    case round =>
      clear HT HX HY
      obtain ⟨i, sx, sy, cx, cy, hi12, rfl, rfl, rfl, rfl, hH⟩ := hrel
      obtain ⟨wA, rfl⟩ : ∃ wA, wA = wr := ⟨_, rfl⟩
      by_cases hlt : i < 12
      · have hSN := Lib.hid (SN.out i)
        have hltb : decide ((i : Int) < 12) = true := by simp; omega
        obtain ⟨hlx, hly⟩ := SLEN.out i (by omega)
        generalize sim true i = s at hSN hlx hly hH ⊢
        obtain ⟨sta, stb, x, y⟩ := s
        dsimp only at hlx hly hH ⊢
        have HT := Lib.hid hH.out.1
        have HX := Lib.hid (And.intro hH.out.2.1 hH.out.2.2.1)
        have HY := Lib.hid hH.out.2.2.2
        clear hH SLEN SOK SEND S0
        go_wp2_with fail
        go_loopg [10, 12] x.length (fun n vp vk wq => ∃ (k : Nat), k ≤ x.length ∧ n = x.length - k ∧ vk = .int .i64 k ∧
          Hid (OwnI 3 wA.heap.size wq vp (hears stb (x.take k)).2 ∧ Two w wq w.heap.size bb sta (hears stb (x.take k)).1 ∧ Keep (fun j => j = bb ∨ wA.heap.size ≤ j) wA wq))
        case atStart => exact ⟨0, by omega, by omega, rfl, OwnI.nil _ _ _, HT.out, Keep.refl _ _⟩
        case round =>
          obtain ⟨k, hk, rfl, rfl, hH⟩ := hrel
          obtain ⟨wq, rfl⟩ : ∃ wq, wq = wr := ⟨_, rfl⟩
          have HT1 := Lib.hid hH.out.2.1
          have HO1 := Lib.hid hH.out.1
          have HK1 := Lib.hid hH.out.2.2
          by_cases hkx : k < x.length
          · obtain ⟨b, rfl, -, hblt, hcell⟩ := (HX.out.2.keep HK1.out (fun b hb h => by rcases h with h | h; exact Or.inr h; omega)) k hkx
            have HHS := Lib.hid (hears_snoc stb x k hkx)
            have HLN := Lib.hid (hears_ok HT.out.okB (x.take k) [])
            clear hblt hH
            generalize x[k] = act at *
            go_wp2_with fail
            refine (HT1.out.hearB act).mono ?_
            rintro en w8 ⟨v8, rfl, hv8, ht8, hk8⟩
            obtain ⟨s8, c8, rfl, hn8, hr8⟩ := hv8.rd (fun _ => False) (by simp)
            have HOWN8 := Lib.hid (HO1.out.keep hk8 (fun b hb h1 h2 => by subst h2; have := HT.out.atB.lt; omega))
            have HT8 := Lib.hid ht8
            have HK8 := Lib.hid hk8
            have HR8 := Lib.hid (And.intro hn8 hr8)
            have hlen8 : (hears stb (x.take k)).2.length + (hL (hears stb (x.take k)).1 act).length ≤ 1000000 := by
              have h1 := HLN.out.2
              have h2 := hL_len (hears stb (x.take k)).1 act
              have h3 : (x.take k).length ≤ k := List.length_take_le _ _
              have h4 : (hears stb (x.take k)).2.length ≤ ([] : List Int).length + 3 * (x.take k).length := h1
              simp only [List.length_nil] at h4
              omega
            have hB8 : wA.heap.size ≤ w8.heap.size := Nat.le_trans HK1.out.size hk8.size
            have HL8 := Lib.hid (And.intro hlen8 hB8)
            clear hv8 ht8 hk8 hn8 hr8 hlen8 hB8 hcell
            go_wp2_with (at_builtin; refine wpl_append_ints rfl _ _ 22 3 rfl i0 Try.underlying22 hi hz0 hz1 hz2 wA.heap.size _ _ rfl HOWN8.out s8 c8 _ (fun _ => False) rfl HR8.out.1 HR8.out.2 HL8.out.1 HL8.out.2 ?_; intro v9 w9 ho9 hk9)
            have HO9 := Lib.hid ho9
            have HK9 := Lib.hid hk9
            clear ho9 hk9
            go_wp2_with fail
            go_roundg (x.length - (k + 1))
            case measure => omega
            case rel => exact ⟨k + 1, by omega, rfl, by go_num, by rw [HHS.out]; exact HO9.out, by rw [HHS.out]; exact HT8.out.from HK9.out HT.out.atA.lt HT.out.atB.lt, (HK1.out.trans (HK8.out.mono (fun _ _ h => Or.inl h))).trans (HK9.out.mono (fun _ _ h => Or.inr h))⟩
          · obtain rfl : k = x.length := by omega
            have hto : OwnI 3 wA.heap.size wq u10 (hears stb x).2 := by have := HO1.out; rw [List.take_length] at this; exact this
            have htt : Two w wq w.heap.size bb sta (hears stb x).1 := by have := HT1.out; rw [List.take_length] at this; exact this
            have HPO := Lib.hid hto
            have HT2 := Lib.hid htt
            have HYB := Lib.hid (And.intro HY.out.1 (HY.out.2.keep HK1.out (fun b hb h => by rcases h with h | h; exact Or.inr h; omega)))
            have hsz := HK1.out.size
            clear hto htt hH HO1 HT1 HY HX
            go_wp2_with fail
            go_loopg [11, 13] y.length (fun n vp vk wz => ∃ (k : Nat), k ≤ y.length ∧ n = y.length - k ∧ vk = .int .i64 k ∧
              Hid (OwnI 3 wq.heap.size wz vp (hears sta (y.take k)).2 ∧ Two w wz w.heap.size bb (hears sta (y.take k)).1 (hears stb x).1 ∧ Keep (fun j => j = w.heap.size ∨ wq.heap.size ≤ j) wq wz))
            case atStart => exact ⟨0, by omega, by omega, rfl, OwnI.nil _ _ _, HT2.out, Keep.refl _ _⟩
            case round =>
              obtain ⟨k, hk, rfl, rfl, hH⟩ := hrel
              obtain ⟨wz, rfl⟩ : ∃ wz, wz = wr := ⟨_, rfl⟩
              have HT1 := Lib.hid hH.out.2.1
              have HO1 := Lib.hid hH.out.1
              have HK1 := Lib.hid hH.out.2.2
              by_cases hkx : k < y.length
              · obtain ⟨b, rfl, -, hblt, hcell⟩ := (HYB.out.2.keep HK1.out (fun b hb h => by rcases h with h | h; exact Or.inl h; omega)) k hkx
                have HHS := Lib.hid (hears_snoc sta y k hkx)
                have HLN := Lib.hid (hears_ok HT2.out.okA (y.take k) [])
                clear hblt hH
                generalize y[k] = act at *
                go_wp2_with fail
                refine (HT1.out.hearA act).mono ?_
                rintro en w8 ⟨v8, rfl, hv8, ht8, hk8⟩
                obtain ⟨s8, c8, rfl, hn8, hr8⟩ := hv8.rd (fun _ => False) (by simp)
                have HOWN8 := Lib.hid (HO1.out.keep hk8 (fun b hb h1 h2 => by subst h2; have := HT2.out.atA.lt; omega))
                have HT8 := Lib.hid ht8
                have HK8 := Lib.hid hk8
                have HR8 := Lib.hid (And.intro hn8 hr8)
                have hlen8 : (hears sta (y.take k)).2.length + (hL (hears sta (y.take k)).1 act).length ≤ 1000000 := by
                  have h1 := HLN.out.2
                  have h2 := hL_len (hears sta (y.take k)).1 act
                  have h3 : (y.take k).length ≤ k := List.length_take_le _ _
                  have h4 : (hears sta (y.take k)).2.length ≤ ([] : List Int).length + 3 * (y.take k).length := h1
                  simp only [List.length_nil] at h4
                  omega
                have hB8 : wq.heap.size ≤ w8.heap.size := Nat.le_trans HK1.out.size hk8.size
                have HL8 := Lib.hid (And.intro hlen8 hB8)
                clear hv8 ht8 hk8 hn8 hr8 hlen8 hB8 hcell
                go_wp2_with (at_builtin; refine wpl_append_ints rfl _ _ 22 3 rfl i0 Try.underlying22 hi hz0 hz1 hz2 wq.heap.size _ _ rfl HOWN8.out s8 c8 _ (fun _ => False) rfl HR8.out.1 HR8.out.2 HL8.out.1 HL8.out.2 ?_; intro v9 w9 ho9 hk9)
                have HO9 := Lib.hid ho9
                have HK9 := Lib.hid hk9
                clear ho9 hk9
                go_wp2_with fail
                go_roundg (y.length - (k + 1))
                case measure => omega
                case rel => exact ⟨k + 1, by omega, rfl, by go_num, by rw [HHS.out]; exact HO9.out, by rw [HHS.out]; exact HT8.out.from HK9.out HT2.out.atA.lt HT2.out.atB.lt, (HK1.out.trans (HK8.out.mono (fun _ _ h => Or.inl h))).trans (HK9.out.mono (fun _ _ h => Or.inr h))⟩
              · obtain rfl : k = y.length := by omega
                have hto : OwnI 3 wq.heap.size wz u11 (hears sta y).2 := by have := HO1.out; rw [List.take_length] at this; exact this
                have htt : Two w wz w.heap.size bb (hears sta y).1 (hears stb x).1 := by have := HT1.out; rw [List.take_length] at this; exact this
                have hpo : OwnI 3 wA.heap.size wz u10 (hears stb x).2 := HPO.out.keep HK1.out (fun b hb h1 h2 => by have := HT.out.atA.lt; omega)
                obtain ⟨sp, cp, rfl, hnp, hrp⟩ := hpo.rd (Nab w.heap.size bb) HT.out.nab
                obtain ⟨sq, cq, rfl, hnq, hrq⟩ := hto.rd (Nab w.heap.size bb) HT2.out.nab
                have HT3 := Lib.hid htt
                have HP := Lib.hid (And.intro hnp hrp)
                have HQ := Lib.hid (And.intro hnq hrq)
                have HLP := hears_ok HT.out.okB x []
                have HLQ := hears_ok HT.out.okA y []
                have hpl : (hears stb x).2.length ≤ ([] : List Int).length + 3 * x.length := HLP.2
                have hql : (hears sta y).2.length ≤ ([] : List Int).length + 3 * y.length := HLQ.2
                simp only [List.length_nil] at hpl hql
                clear hpo hto htt hnp hrp hnq hrq HPO HO1 HT1 HYB HT2 hH HLP HLQ HT
                by_cases hi0 : i = 0
                · have hi0' := hi0
                  have E0 := Lib.hid (fun h => (round_a true i ⟨sta, stb, x, y⟩ (by simp) h))
                  have E1 := Lib.hid (fun h => (round_b true i ⟨sta, stb, x, y⟩ (by simp) h))
                  dsimp only at E0 E1
                  by_cases hz : (hears stb x).2.length + (hears sta y).2.length = 0
                  · have E := hSN.out.trans (E1.out hz)
                    have HE := Lib.hid E
                    clear E E0 E1
                    go_wp2_with fail
                    refine HT3.out.tmoB.mono ?_
                    rintro en w11 ⟨v11, rfl, hv11, ht11, hk11⟩
                    obtain ⟨s11, c11, rfl, hn11, hr11⟩ := hv11.rd (Nab w.heap.size bb) HT3.out.nab
                    have HT11 := Lib.hid ht11
                    have HR11 := Lib.hid (And.intro hn11 hr11)
                    clear ht11 hn11 hr11 hv11
                    go_wp2_with fail
                    refine HT11.out.tmoA.mono ?_
                    rintro en w12 ⟨v12, rfl, hv12, ht12, hk12⟩
                    obtain ⟨s12, c12, rfl, hn12, hr12⟩ := hv12.rd (Nab w.heap.size bb) HT11.out.nab
                    have HT12 := Lib.hid ht12
                    have HR12 := Lib.hid (And.intro hn12 hr12)
                    have HRR := Lib.hid (HR11.out.2.keep hk12 (fun b _ h => Or.inl h))
                    clear ht12 hn12 hr12 hk12 hv12 hk11
                    go_wp2_with fail
                    go_roundg (12 - (i + 1))
                    case measure => omega
                    case rel =>
                      refine ⟨i + 1, s12, s11, c12, c11, by omega, rfl, by go_num, ?_, ?_, ?_⟩
                      · rw [HE.out]
                      · rw [HE.out]
                      · rw [HE.out]; exact ⟨HT12.out, HR12.out.1, HR12.out.2, HR11.out.1, HRR.out⟩
                  · have E := hSN.out.trans (E0.out hz)
                    have HE := Lib.hid E
                    clear E E0 E1
                    go_wp2_with fail
                    go_roundg (12 - (i + 1))
                    case measure => omega
                    case rel =>
                      refine ⟨i + 1, sq, sp, cq, cp, by omega, rfl, by go_num, ?_, ?_, ?_⟩
                      · rw [HE.out]
                      · rw [HE.out]
                      · rw [HE.out]; exact ⟨HT3.out, HQ.out.1, HQ.out.2, HP.out.1, HP.out.2⟩

                · have hi0' := hi0
                  have E0 := Lib.hid (fun h => (round_a true i ⟨sta, stb, x, y⟩ (by simp) h))
                  have E1 := Lib.hid (fun h => (round_b true i ⟨sta, stb, x, y⟩ (by simp) h))
                  dsimp only at E0 E1
                  by_cases hz : (hears stb x).2.length + (hears sta y).2.length = 0
                  · have E := hSN.out.trans (E1.out hz)
                    have HE := Lib.hid E
                    clear E E0 E1
                    go_wp2_with fail
                    refine HT3.out.tmoB.mono ?_
                    rintro en w11 ⟨v11, rfl, hv11, ht11, hk11⟩
                    obtain ⟨s11, c11, rfl, hn11, hr11⟩ := hv11.rd (Nab w.heap.size bb) HT3.out.nab
                    have HT11 := Lib.hid ht11
                    have HR11 := Lib.hid (And.intro hn11 hr11)
                    clear ht11 hn11 hr11 hv11
                    go_wp2_with fail
                    refine HT11.out.tmoA.mono ?_
                    rintro en w12 ⟨v12, rfl, hv12, ht12, hk12⟩
                    obtain ⟨s12, c12, rfl, hn12, hr12⟩ := hv12.rd (Nab w.heap.size bb) HT11.out.nab
                    have HT12 := Lib.hid ht12
                    have HR12 := Lib.hid (And.intro hn12 hr12)
                    have HRR := Lib.hid (HR11.out.2.keep hk12 (fun b _ h => Or.inl h))
                    clear ht12 hn12 hr12 hk12 hv12 hk11
                    go_wp2_with fail
                    go_roundg (12 - (i + 1))
                    case measure => omega
                    case rel =>
                      refine ⟨i + 1, s12, s11, c12, c11, by omega, rfl, by go_num, ?_, ?_, ?_⟩
                      · rw [HE.out]
                      · rw [HE.out]
                      · rw [HE.out]; exact ⟨HT12.out, HR12.out.1, HR12.out.2, HR11.out.1, HRR.out⟩
                  · have E := hSN.out.trans (E0.out hz)
                    have HE := Lib.hid E
                    clear E E0 E1
                    go_wp2_with fail
                    go_roundg (12 - (i + 1))
                    case measure => omega
                    case rel =>
                      refine ⟨i + 1, sq, sp, cq, cp, by omega, rfl, by go_num, ?_, ?_, ?_⟩
                      · rw [HE.out]
                      · rw [HE.out]
                      · rw [HE.out]; exact ⟨HT3.out, HQ.out.1, HQ.out.2, HP.out.1, HP.out.2⟩

      · obtain rfl : i = 12 := by omega
        obtain ⟨he1, he2⟩ := SEND.out
        have HT := Lib.hid hH.out.1
        generalize sim true 12 = s at he1 he2 HT ⊢
        have HEE := Lib.hid (And.intro he1 he2)
        clear hH SLEN SOK SEND S0 SN he1 he2
        go_wp2_with fail
        refine HT.out.alive.mono ?_
        rintro en w20 ⟨rfl, ht20⟩
        have HT := Lib.hid ht20
        clear ht20
        go_wp2_with fail
        refine (state_some _ _ _ _ _ _ HT.out.atA (by omega)).mono ?_
        rintro en w21 ⟨rfl, rfl⟩
        rw [HEE.out.1]
        go_wp2_with fail
        refine (state_some _ _ _ _ _ _ HT.out.atB (by omega)).mono ?_
        rintro en w21 ⟨rfl, rfl⟩
        rw [HEE.out.2]
        go_wp2_with fail
        go_ret
        exact ⟨rfl, HT.out.bel⟩
end Go.Proofs.Ytcgneokcpffjaaa
