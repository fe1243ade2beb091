import Derived.Test.YtignponfoheaeaaGreatV28
namespace Go.Proofs.YtignponfoheaeaaGreat
open Go.RowKit Go.Tg Go.Maps

/-- The head of a row of packets. -/
theorem PRow.at0 {w : World} {base : Nat} {v : Value} {p : Pk × Value} {L : List (Pk × Value)} (h : PRow w base v (p :: L)) : ∃ g cap, v = .slice (some ⟨g, 0, none⟩) (L.length + 1) cap ∧ base ≤ g ∧ g < w.heap.size ∧ L.length + 1 ≤ cap ∧ cap ≤ maxLen ∧
    w.cell? ⟨g, 0, none⟩ = some (.int .i64 p.1.code) ∧ w.cell? ⟨g, 1, none⟩ = some (.int .i64 p.1.id) ∧ w.cell? ⟨g, 2, none⟩ = some p.2 ∧ w.cell? ⟨g, 3, none⟩ = some (.string p.1.d) := by
  obtain ⟨h0, ⟨h, hn⟩ | ⟨g, cap, cur, hv, h1, h2, h3, h4, h5, h6⟩⟩ := h
  · simp at hn
  · have hc : ∀ j, j < 4 → cur[j]? = (pkL (p :: L)).flatten[j]? := by
      intro j hj
      rw [← h6, List.getElem?_take, if_pos (by simp only [List.length_cons]; omega), Array.getElem?_toList]
    refine ⟨g, cap, hv, h1, (Array.getElem?_eq_some_iff.1 h2).1, h3, h4, ?_, ?_, ?_, ?_⟩
    · exact cellOf h2 0 _ (by rw [hc 0 (by omega)]; rfl)
    · exact cellOf h2 1 _ (by rw [hc 1 (by omega)]; rfl)
    · exact cellOf h2 2 _ (by rw [hc 2 (by omega)]; rfl)
    · exact cellOf h2 3 _ (by rw [hc 3 (by omega)]; rfl)
theorem PksAt.at0 {w : World} {ok : Nat → Prop} {base : Nat} {v : Value} {p : Pk} {l : List Pk} (h : PksAt w ok base v (p :: l)) : ∃ g cap po, v = .slice (some ⟨g, 0, none⟩) (l.length + 1) cap ∧ base ≤ g ∧ g < w.heap.size ∧ l.length + 1 ≤ cap ∧ cap ≤ maxLen ∧
    w.cell? ⟨g, 0, none⟩ = some (.int .i64 p.code) ∧ w.cell? ⟨g, 1, none⟩ = some (.int .i64 p.id) ∧ w.cell? ⟨g, 2, none⟩ = some po ∧ w.cell? ⟨g, 3, none⟩ = some (.string p.d) ∧ Opts w ok po p.o := by
  obtain ⟨L, hl, hr, ho⟩ := h
  cases L with
  | nil => cases hl
  | cons q L =>
    obtain ⟨q1, q2⟩ := q
    simp only [List.map_cons, List.cons.injEq] at hl
    obtain ⟨rfl, rfl⟩ := hl
    obtain ⟨g, cap, h1, h2, h3, h4, h5, h6, h7, h8, h9⟩ := hr.at0
    exact ⟨g, cap, q2, by rw [h1, List.length_map], h2, h3, by rw [List.length_map]; exact h4, h5, h6, h7, h8, h9, ho _ (List.mem_cons_self ..)⟩
/-- The head of a row of options. -/
theorem ORow.at0 {w : World} {base : Nat} {v : Value} {o : Opt} {l : List Opt} (h : ORow w base v (o :: l)) : ∃ g cap, v = .slice (some ⟨g, 0, none⟩) (l.length + 1) cap ∧ base ≤ g ∧ g < w.heap.size ∧ l.length + 1 ≤ cap ∧ cap ≤ maxLen ∧
    w.cell? ⟨g, 0, none⟩ = some (.int .i64 o.t) ∧ w.cell? ⟨g, 1, none⟩ = some (.string o.v) := by
  obtain ⟨h0, ⟨h, hn⟩ | ⟨g, cap, cur, hv, h1, h2, h3, h4, h5, h6⟩⟩ := h
  · simp at hn
  · have hc : ∀ j, j < 2 → cur[j]? = (optL (o :: l)).flatten[j]? := by
      intro j hj
      rw [← h6, List.getElem?_take, if_pos (by simp only [List.length_cons]; omega), Array.getElem?_toList]
    refine ⟨g, cap, hv, h1, (Array.getElem?_eq_some_iff.1 h2).1, h3, h4, ?_, ?_⟩
    · exact cellOf h2 0 _ (by rw [hc 0 (by omega)]; rfl)
    · exact cellOf h2 1 _ (by rw [hc 1 (by omega)]; rfl)

def asks : List Opt := [⟨1, ⟨#[5, 0]⟩⟩]
def noR : Pk → ByteArray := fun _ => noB
/-- What the first call's negotiation was made with. -/
def CA (jb : Nat) : NegC := ⟨[], [rule1], [], 3, 2, 0, 3, ownJ jb⟩
def sA (s c id asked : Int) (mine : List Opt) (ups : Int) : NSt := ⟨s, c, id, asked, 0, 0, asks, mine, [], ups, 0⟩
theorem eA1 (jb : Nat) : evS noR (CA jb) (st0 asks) 2 noCame = (sA 1 0 0 0 [] 0, []) := by kernel_rfl
theorem eA2 (jb : Nat) : evS noR (CA jb) (sA 1 0 0 0 [] 0) 0 noCame = (sA 6 2 1 1 [] 0, [⟨1, 1, asks, noB⟩]) := by kernel_rfl
theorem eJ0 : judgeS [rule1] [] = (2, []) := by kernel_rfl
theorem eA3 (jb : Nat) : reqS noR (CA jb) (sA 6 2 1 1 [] 0) ⟨1, 7, [], noB⟩ (2, []) = (sA 8 2 1 1 [] 0, [⟨2, 7, [], noB⟩]) := by kernel_rfl
theorem eA4 (jb : Nat) : ackS noR (CA jb) (sA 8 2 1 1 [] 0) ⟨2, 1, asks, noB⟩ = (sA 9 3 1 1 asks 1, []) := by
  have h : evS noR (CA jb) { sA 8 2 1 1 [] 0 with mine := asks } 8 ⟨true, ⟨2, 1, asks, noB⟩, 0, []⟩ = (sA 9 3 1 1 asks 1, []) := by kernel_rfl
  unfold ackS
  exact (if_pos rfl).trans ((if_pos rfl).trans h)
theorem eJ1 : judgeS [rule1] [⟨1, ⟨#[7, 208]⟩⟩] = (3, [⟨1, ⟨#[5, 212]⟩⟩]) := by kernel_rfl
theorem ePut : putE asks = 0 := by kernel_rfl
theorem eTw : twiceP [] asks = false := by kernel_rfl
theorem eWr : ([] ++ [rule1]).any wrongR = false := by kernel_rfl
end Go.Proofs.YtignponfoheaeaaGreat

namespace Go.Proofs.YtignponfoheaeaaGreat
open Go.RowKit Go.Tg Go.Maps

theorem SayAll.none {rej : Pk → ByteArray} {B : NegB} {C : NegC} {c : Came} {po pa : Value} : SayAll rej B C c po pa [] := fun a ha => by cases ha

set_option maxHeartbeats 16000000 in
set_option maxRecDepth 100000 in
theorem alive_any (w : World) : Calls Tryz.prog 25 #[] w fun e w' => e = .returned (.bool true) ∧ Below w.heap.size w w' := by
  have q1 : ∀ w a, (binOp .eql 82 (.pointer (some a)) (.pointer none)).run Tryz.prog w = .ok (.bool false) w := fun w a => by kernel_rfl
  have b1 : Below w.heap.size w (w.alloc (.cells #[.int .i64 1, .string ⟨#[5, 0]⟩] 91 (0, 0))) := (Below.refl _ _).alloc (Nat.le_refl _) _
  have s1 : (w.alloc (.cells #[.int .i64 1, .string ⟨#[5, 0]⟩] 91 (0, 0))).heap.size = w.heap.size + 1 := alloc1 _ _
  have z1 := at1 w (.cells #[.int .i64 1, .string ⟨#[5, 0]⟩] 91 (0, 0))
  go_enter Tryz.func25, Tryz.ntmps25
  go_wp2_with fail
  refine (rule_any _).mono ?_
  rintro e w2 ⟨rfl, b2⟩
  have s2 := b2.size
  have s3 : (w2.alloc (.cells #[.int .i64 1, .int .i64 2, .int .i64 64, .int .i64 1492, .string ⟨#[5, 212]⟩] 64 (0, 0))).heap.size = w2.heap.size + 1 := alloc1 _ _
  have b3 : Below w2.heap.size w2 (w2.alloc (.cells #[.int .i64 1, .int .i64 2, .int .i64 64, .int .i64 1492, .string ⟨#[5, 212]⟩] 64 (0, 0))) := (Below.refl _ _).alloc (Nat.le_refl _) _
  have ho3 : Opts (w2.alloc (.cells #[.int .i64 1, .int .i64 2, .int .i64 64, .int .i64 1492, .string ⟨#[5, 212]⟩] 64 (0, 0))) (fun b => w.heap.size ≤ b) (.slice (some ⟨w.heap.size, 0, none⟩) 1 1) asks :=
    ((((ORow.one ⟨1, ⟨#[5, 0]⟩⟩ z1 (Nat.le_refl _)).below b2).below b3).opts (by decide))
  have hr3 : Rls (w2.alloc (.cells #[.int .i64 1, .int .i64 2, .int .i64 64, .int .i64 1492, .string ⟨#[5, 212]⟩] 64 (0, 0))) (fun b => w.heap.size ≤ b) (.slice (some ⟨w2.heap.size, 0, none⟩) 1 1) [rule1] :=
    (RRow.one rule1 (at1 w2 (.cells #[.int .i64 1, .int .i64 2, .int .i64 64, .int .i64 1492, .string ⟨#[5, 212]⟩] 64 (0, 0))) (show w.heap.size ≤ w2.heap.size by omega)).rls (by decide)
  have HN := Lib.hid (new_at asks [] [rule1] [] _ (.slice none 0 0) _ (.slice none 0 0) _ 3 2 0 3 (w2.alloc (.cells #[.int .i64 1, .int .i64 2, .int .i64 64, .int .i64 1492, .string ⟨#[5, 212]⟩] 64 (0, 0))) ho3 (Rec.nil _ _ _) hr3 (Rec.nil _ _ _) (fun n c h => by cases h; rfl) (fun n c h => by cases h) (by decide) (by decide) (by decide)
    (by decide) (by decide) (by decide) (by decide) (by decide) (by decide) (by decide) ePut eTw (by decide) eWr)
  have HB := Lib.hid (b1.trans ((b2.mono (by omega)).trans (b3.mono (by omega))))
  clear b1 b2 b3 z1 ho3 hr3
  go_wp2_with fail
  refine HN.out.mono ?_
  rintro e w4 ⟨v, rfl, B, jb, rfl, hv, hj, hjs, hjt, hb4⟩
  have h4 : NegP w4 (fun b => (w2.alloc (.cells #[.int .i64 1, .int .i64 2, .int .i64 64, .int .i64 1492, .string ⟨#[5, 212]⟩] 64 (0, 0))).heap.size ≤ b) B (CA jb) (st0 asks) jb := ⟨hv, hj, hjt, hjs, rfl⟩
  have HB4 := Lib.hid (HB.out.trans (hb4.mono (by omega)))
  have hBt : ∀ b, B.t b → w.heap.size ≤ b := fun b hb => by have := h4.ts hb; have : (w2.alloc (.cells #[.int .i64 1, .int .i64 2, .int .i64 64, .int .i64 1492, .string ⟨#[5, 212]⟩] 64 (0, 0))).heap.size ≤ b := this; omega
  have hBl : ∀ b, B.t b → b < w4.heap.size := fun b hb => h4.tlt hb
  have D1 := Lib.hid (DoP noR 2 (by decide) h4)
  rw [eA1] at D1
  clear hv hj hjs hjt hb4 h4
  go_wp2_with fail
  refine D1.out.mono ?_
  rintro e w5 ⟨v5, rfl, p5, h5, k5⟩
  have D2 := Lib.hid (DoP noR 0 (by decide) h5)
  rw [eA2] at D2
  have hw4 := HB4.out.size
  have hs45 := k5.size
  have HB5 := Lib.hid (HB4.out.trans (k5.below (B := w.heap.size) hw4 (fun b hb ht => by have := hBt b ht; omega)))
  clear p5 h5 k5
  go_wp2_with fail
  refine D2.out.mono ?_
  rintro e w6 ⟨v6, rfl, p6, h6, k6⟩
  obtain ⟨ga, ca, po6, rfl, ga1, ga2, ga3, ga4, xa0, xa1, -⟩ := p6.at0
  have T1 := Lib.hid (take1P (ok := fun _ => False) noR ⟨1, 7, [], noB⟩ (.slice none 0 0) rfl h6 (Rec.nil _ _ _) (fun _ h => h.elim) (Nat.zero_le _) (fun _ h => by cases h) (fun _ h => by cases h) (fun h => absurd (show (judgeS [rule1] []).1 = 2 by rw [eJ0]) h))
  rw [show (CA jb).peer = [rule1] from rfl, eJ0, eA3] at T1
  unfold pkV noB at T1
  have hw5 := HB5.out.size
  have HB6 := Lib.hid (HB5.out.trans (k6.below (B := w.heap.size) hw5 (fun b hb ht => by have := hBt b ht; omega)))
  have HA := Lib.hid (And.intro ga1 (And.intro ga2 (And.intro xa0 xa1)))
  have hs56 := k6.size
  clear p6 h6 k6 ga1 ga2 ga3 ga4 xa0 xa1
  go_wp2_with fail
  refine T1.out.mono ?_
  rintro e w7 ⟨v7, rfl, p7, h7, k7⟩
  obtain ⟨gb, cb, po7, rfl, gb1, gb2, gb3, gb4, xb0, xb1, -⟩ := p7.at0
  have hs67 := k7.size
  have hw6 := HB6.out.size
  have HB7 := Lib.hid (HB6.out.trans (k7.below (B := w.heap.size) hw6 (fun b hb ht => by have := hBt b ht; omega)))
  have ya0 : w7.cell? ⟨ga, 0, none⟩ = some (.int .i64 1) := (k7.cell (p := ⟨ga, 0, none⟩) HA.out.2.1 (fun ht => by have h1 := hBl _ ht; have h2 := HA.out.1; simp only at h1; omega)).trans HA.out.2.2.1
  have ya1 : w7.cell? ⟨ga, 1, none⟩ = some (.int .i64 1) := (k7.cell (p := ⟨ga, 1, none⟩) HA.out.2.1 (fun ht => by have h1 := hBl _ ht; have h2 := HA.out.1; simp only at h1; omega)).trans HA.out.2.2.2
  have HA7 := Lib.hid (And.intro ya0 (And.intro ya1 (And.intro xb0 (And.intro xb1 (And.intro gb1 gb2)))))
  have b8 : Below w7.heap.size w7 (w7.alloc (.cells #[.int .i64 1, .string ⟨#[5, 0]⟩] 91 (0, 0))) := (Below.refl _ _).alloc (Nat.le_refl _) _
  have s8 : (w7.alloc (.cells #[.int .i64 1, .string ⟨#[5, 0]⟩] 91 (0, 0))).heap.size = w7.heap.size + 1 := alloc1 _ _
  have o8 : Opts (w7.alloc (.cells #[.int .i64 1, .string ⟨#[5, 0]⟩] 91 (0, 0))) (fun b => w7.heap.size ≤ b) (.slice (some ⟨w7.heap.size, 0, none⟩) 1 1) asks := (ORow.one ⟨1, ⟨#[5, 0]⟩⟩ (at1 w7 (.cells #[.int .i64 1, .string ⟨#[5, 0]⟩] 91 (0, 0))) (Nat.le_refl _)).opts (by decide)
  have T2 := Lib.hid (take2P noR ⟨2, 1, asks, noB⟩ _ rfl (h7.below b8) o8 (fun b hb ht => by have := hBl b ht; omega) (by decide))
  rw [eA4] at T2
  unfold pkV noB at T2
  have HB8 := Lib.hid (HB7.out.alloc (by have := HB7.out.size; omega) (.cells #[.int .i64 1, .string ⟨#[5, 0]⟩] 91 (0, 0)))
  clear p7 h7 k7 gb1 gb2 gb3 gb4 xb0 xb1 ya0 ya1 b8 o8
  go_wp2_with fail
  refine T2.out.mono ?_
  rintro e w9 ⟨v9, rfl, -, h9, k9⟩
  have hs89 := k9.size
  have HB9 := Lib.hid (HB8.out.trans (k9.below (B := w.heap.size) (by omega) (fun b hb ht => by have := hBt b ht; omega)))
  have k79 : Keep B.t w7 w9 := ((Keep.refl B.t w7).alloc (.cells #[.int .i64 1, .string ⟨#[5, 0]⟩] 91 (0, 0))).trans k9
  have HA9 := Lib.hid (show w9.cell? ⟨ga, 0, none⟩ = some (.int .i64 1) ∧ w9.cell? ⟨ga, 1, none⟩ = some (.int .i64 1) ∧ w9.cell? ⟨gb, 0, none⟩ = some (.int .i64 2) ∧ w9.cell? ⟨gb, 1, none⟩ = some (.int .i64 7) ∧ ga < w9.heap.size ∧ gb < w9.heap.size from by
    obtain ⟨g1, g2, -, -⟩ := HA.out
    obtain ⟨y1, y2, y3, y4, y5, y6⟩ := HA7.out
    have na : ¬ B.t ga := fun ht => by have := hBl _ ht; omega
    have nb : ¬ B.t gb := fun ht => by have := hBl _ ht; omega
    exact ⟨(k79.cell (p := ⟨ga, 0, none⟩) (by show ga < w7.heap.size; omega) na).trans y1, (k79.cell (p := ⟨ga, 1, none⟩) (by show ga < w7.heap.size; omega) na).trans y2, (k79.cell (p := ⟨gb, 0, none⟩) y6 nb).trans y3, (k79.cell (p := ⟨gb, 1, none⟩) y6 nb).trans y4, by omega, by omega⟩)
  have H9 := Lib.hid h9
  clear h9 k9 k79
  go_wp2_with fail
  refine (rule_any _).mono ?_
  rintro e w10 ⟨rfl, b10⟩
  have b12 : Below w10.heap.size w10 ((w10.alloc (.cells #[.int .i64 1, .int .i64 2, .int .i64 64, .int .i64 1492, .string ⟨#[5, 212]⟩] 64 (0, 0))).alloc (.cells #[.int .i64 1, .string ⟨#[7, 208]⟩] 91 (0, 0))) := ((Below.refl _ _).alloc (Nat.le_refl _) _).alloc (by rw [alloc1]; omega) _
  have HB12 := Lib.hid (b10.trans (b12.mono b10.size))
  have r12 : Rls ((w10.alloc (.cells #[.int .i64 1, .int .i64 2, .int .i64 64, .int .i64 1492, .string ⟨#[5, 212]⟩] 64 (0, 0))).alloc (.cells #[.int .i64 1, .string ⟨#[7, 208]⟩] 91 (0, 0))) (fun b => 0 ≤ b) (.slice (some ⟨w10.heap.size, 0, none⟩) 1 1) [rule1] := (RRow.one rule1 (at20 w10 (.cells #[.int .i64 1, .int .i64 2, .int .i64 64, .int .i64 1492, .string ⟨#[5, 212]⟩] 64 (0, 0)) (.cells #[.int .i64 1, .string ⟨#[7, 208]⟩] 91 (0, 0))) (Nat.zero_le _)).rls (by decide)
  have o12 : Opts ((w10.alloc (.cells #[.int .i64 1, .int .i64 2, .int .i64 64, .int .i64 1492, .string ⟨#[5, 212]⟩] 64 (0, 0))).alloc (.cells #[.int .i64 1, .string ⟨#[7, 208]⟩] 91 (0, 0))) (fun b => 0 ≤ b) (.slice (some ⟨w10.heap.size + 1, 0, none⟩) 1 1) [⟨1, ⟨#[7, 208]⟩⟩] := (ORow.one ⟨1, ⟨#[7, 208]⟩⟩ (at21 w10 (.cells #[.int .i64 1, .int .i64 2, .int .i64 64, .int .i64 1492, .string ⟨#[5, 212]⟩] 64 (0, 0)) (.cells #[.int .i64 1, .string ⟨#[7, 208]⟩] 91 (0, 0))) (Nat.zero_le _)).opts (by decide)
  have HJ := Lib.hid (judge_any [rule1] _ _ [⟨1, ⟨#[7, 208]⟩⟩] _ _ _ r12 (by decide) o12 (by decide) (fun o ho => by simp only [List.mem_singleton] at ho; subst ho; show (Lit.int .i64 1).wf = true; decide) (by decide))
  rw [eJ1] at HJ
  clear b10 b12 r12 o12
  go_wp2_with fail
  refine HJ.out.mono ?_
  rintro e w13 ⟨v13, rfl, r13, b13⟩
  obtain ⟨gl, cl, rfl, gl1, gl2, gl3, gl4, xl0, xl1⟩ := r13.at0
  have b9 : Below w9.heap.size w9 w13 := HB12.out.trans (b13.mono HB12.out.size)
  obtain ⟨a0, a1, a2, a3, a4, a5⟩ := HA9.out
  have za0 := (b9.cell (p := ⟨ga, 0, none⟩) a4).trans a0
  have za1 := (b9.cell (p := ⟨ga, 1, none⟩) a4).trans a1
  have za2 := (b9.cell (p := ⟨gb, 0, none⟩) a5).trans a2
  have za3 := (b9.cell (p := ⟨gb, 1, none⟩) a5).trans a3
  have HST := Lib.hid (StateP (H9.out.below b9))
  have HMI := Lib.hid (MineP (H9.out.below b9))
  have HB13 := Lib.hid (HB9.out.trans (b9.mono HB9.out.size))
  clear a0 a1 a2 a3 a4 a5 r13 b13 b9
  go_wp2_with (first
    | (go_at_call 56; refine HST.out.mono ?_; rintro e w14 ⟨rfl, rfl⟩)
    | (go_at_call 52; refine HMI.out.mono ?_; rintro e w14 ⟨v14, rfl, r14, b14⟩
       obtain ⟨gm, cm, rfl, -, -, -, -, -, -⟩ := ORow.at0 (show ORow w14 w13.heap.size v14 (⟨1, ⟨#[5, 0]⟩⟩ :: []) from r14)
       have yl0 := (b14.cell (p := ⟨gl, 0, none⟩) gl2).trans xl0
       have yl1 := (b14.cell (p := ⟨gl, 1, none⟩) gl2).trans xl1
       have HB14 := Lib.hid (HB13.out.trans (b14.mono HB13.out.size))
       clear r14 b14))
  go_ret
  exact ⟨rfl, HB14.out⟩
end Go.Proofs.YtignponfoheaeaaGreat
