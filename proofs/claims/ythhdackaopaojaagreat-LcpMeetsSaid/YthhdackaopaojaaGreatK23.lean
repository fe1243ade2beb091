import Derived.Test.YthhdackaopaojaaGreatK19
import Derived.Test.YthhdackaopaojaaGreatK21
import Derived.Test.YthhdackaopaojaaGreatV30
import Derived.Test.YthhdackaopaojaaGreatV47
/- A link that a law made. -/
namespace Go.Proofs.YthhdackaopaojaaGreat
open Go.RowKit Go.Tg Go.Maps

/-! ### What turns no request -/
section
variable (rej : Pk → ByteArray) (C : NegC)
theorem sayS_req (st : NSt) (a : Int) (c : Came) : (sayS rej C st a c).1.req = st.req := by
  unfold sayS refuseS
  repeat' split
  all_goals rfl
theorem sayL_req (c : Came) : ∀ (l : List Int) (st : NSt), (sayL rej C c st l).1.req = st.req := by
  intro l
  induction l with
  | nil => intro st; rfl
  | cons a l ih => intro st; show (sayL rej C c (sayS rej C st a c).1 l).1.req = st.req; rw [ih, sayS_req]
theorem toldS_req (st : NSt) (l : List Int) (c : Came) : (toldS rej C st l c).1.req = st.req := by
  unfold toldS
  dsimp only
  split
  · exact sayL_req rej C c l st
  · exact sayL_req rej C c l st
theorem evS_req (st : NSt) (e : Int) (c : Came) : (evS rej C st e c).1.req = st.req := by
  unfold evS
  rw [toldS_req]
theorem reqS_req (st : NSt) (p : Pk) (J : Int × List Opt) : (reqS rej C st p J).1.req = st.req := by
  unfold reqS
  split <;> rw [evS_req]
end
theorem doL_sync {C : NegC} {s : LSt} (h : s.Sync) (ev : Int) : (doL C s ev).1.Sync := by
  unfold doL anewS
  dsimp only
  split
  · intro o ho; dsimp only at ho; rw [evS_req] at ho; exact h o ho
  · intro o ho; dsimp only at ho; rw [evS_req] at ho; exact h o ho
theorem ltakeN_req {C : NegC} {s : LSt} {p : Pk} (h1 : p.code = 1) : (ltakeN C s p).1.st.req = s.st.req := by
  unfold ltakeN
  rw [if_pos h1]
  exact reqS_req _ _ _ _ _
/-! ### A link that a law made -/
structure LK (w0 w : World) (L : LB) (C : NegC) (echo : Int) (s : LSt) : Prop where
  v : LcpV w (fun b => w0.heap.size ≤ b) L C echo s
  b : Below w0.heap.size w0 w
section
variable {w0 w w' : World} {okp okt : Nat → Prop} {L : LB} {C : NegC} {echo : Int} {s : LSt}
theorem LK.below (h : LK w0 w L C echo s) (hb : Below w.heap.size w w') : LK w0 w' L C echo s := ⟨h.v.below hb, h.b.trans (hb.mono h.b.size)⟩
theorem LK.nt (h : LK w0 w L C echo s) {b : Nat} (hb : L.t b) : w0.heap.size ≤ b ∧ b < w.heap.size := ⟨h.v.us hb, h.v.lt hb⟩
theorem LK.of (h : LcpV w' (Grow (fun b => w0.heap.size ≤ b) w) L C echo s) (hw : Below w0.heap.size w0 w) (hk : Keep L.t w w') (ht : ∀ b, L.t b → w0.heap.size ≤ b) : LK w0 w' L C echo s :=
  ⟨h.mono (fun b hb => hb.elim id (fun h => Nat.le_trans hw.size h)), hw.trans (hk.below hw.size (fun b hb hx => by have := ht b hx; omega))⟩
theorem LK.step {r : LSt × List Pk} {e : Ending} (h : LK w0 w L C echo s) (he : LEv w w' (fun b => w0.heap.size ≤ b) okp L C echo r e) :
    ∃ v, e = .returned v ∧ PksAt w' (Grow okp w) w.heap.size v r.2 ∧ LK w0 w' L C echo r.1 ∧ Keep L.t w w' := by
  obtain ⟨v, h1, h2, h3, h4⟩ := he
  exact ⟨v, h1, h2, LK.of h3 h.b h4 (fun b hb => (h.nt hb).1), h4⟩
theorem LK.made {c : LCfg} {tb : Nat} {t : TpS} {e : Ending} (h : NewL w w' e c tb okt t) (hw : Below w0.heap.size w0 w) (ho : ∀ b, okt b → w0.heap.size ≤ b) (htb : w0.heap.size ≤ tb) :
    ∃ L, e = .returned (.tuple #[.pointer (some ⟨L.lb, 0, none⟩), .int .i64 0]) ∧ LK w0 w' L (lC c L.lb) c.echo (lst0 c t) := by
  obtain ⟨L, S, X, h1, h2, h3, h4, h5, h6⟩ := h
  refine ⟨L, h1, ⟨S, okt, X, h3, fun b hb => ?_⟩, hw.trans (h6.mono hw.size)⟩
  have := hw.size
  rcases hb with hb | hb | rfl | rfl
  · exact Nat.le_trans this (h4 b hb)
  · exact ho b hb
  · omega
  · rw [h2]; exact htb
theorem LK.Do (h : LK w0 w L C echo s) (ev : Int) (hev : 0 ≤ ev ∧ ev ≤ 3) :
    Calls Tryz.prog 14 #[.pointer (some ⟨L.lb, 0, none⟩), .int .i64 ev] w fun e w' => ∃ v, e = .returned v ∧ PksAt w' (Grow (fun _ => False) w) w.heap.size v (doL C s ev).2 ∧ LK w0 w' L C echo (doL C s ev).1 ∧ Keep L.t w w' := by
  obtain ⟨S, ok, X, hv, hu⟩ := h.v
  exact (LDo_at hv hu ev hev).mono (fun e w' he => h.step he)
theorem LK.Take (h : LK w0 w L C echo s) (hy : s.Sync) (p : Pk) (po : Value) (hp : PkOk p) (hc : p.code ≤ 7) (ho : Opts w okp po p.o) (hok : ∀ b, okp b → ¬ L.t b) (h7 : ∀ o, findO (ltakeN C s p).1.st.req 5 = some o → o.v.size ≤ 7) :
    Calls Tryz.prog 15 #[.pointer (some ⟨L.lb, 0, none⟩), pkV p po] w fun e w' => ∃ v, e = .returned v ∧ PksAt w' (Grow okp w) w.heap.size v (ltakeS C s p).2 ∧ LK w0 w' L C echo (ltakeS C s p).1 ∧ Keep L.t w w' := by
  obtain ⟨S, ok, X, hv, hu⟩ := h.v
  exact (LTake_at p po hp hc hv hu hy ho hok h7).mono (fun e w' he => h.step he)
theorem LK.Loops (h : LK w0 w L C echo s) : Calls Tryz.prog 17 #[.pointer (some ⟨L.lb, 0, none⟩)] w fun e w' => e = .returned (.int .i64 s.loops) ∧ w = w' := by
  obtain ⟨S, ok, X, hv, hu⟩ := h.v
  exact LLoops_at hv
end

/-! ### The first call -/
def cfg12 : LCfg := ⟨1492, 49699, 7, 0, 5, 2, 5, 3⟩
theorem cfg12_ok : cfg12.Ok := ⟨by decide, by decide, by decide, by decide, by decide, by decide, by decide, by decide⟩
def magic7 : ByteArray := ⟨#[0, 0, 0, 7]⟩
def opts12 : List Opt := [⟨3, chapB⟩, ⟨5, magic7⟩]
theorem optsS12 : optsS cfg12 = opts12 := by kernel_rfl
theorem lst0_sync (c : LCfg) (t : TpS) (h : findO (optsS c) 5 = none ∨ ∃ o, findO (optsS c) 5 = some o ∧ o.v.size ≤ 7 ∧ valB o.v.data.toList = c.magic) : (lst0 c t).Sync := by
  intro o ho
  have ho : findO (optsS c) 5 = some o := ho
  rcases h with h | ⟨o', h, h1⟩
  · rw [h] at ho; cases ho
  · rw [h] at ho; cases ho; exact h1
theorem sync12 (t : TpS) : (lst0 cfg12 t).Sync := lst0_sync _ _ (.inr ⟨⟨5, magic7⟩, by rw [optsS12]; rfl, by decide, by kernel_rfl⟩)

/-- The request of the first call. -/
def req7 : Pk := ⟨1, 1, [⟨5, magic7⟩], noB⟩
theorem req7_ok : PkOk req7 := ⟨by decide, fun o ho => by simp only [req7, List.mem_singleton] at ho; subst ho; unfold I64; decide, fun o ho => by simp only [req7, List.mem_singleton] at ho; subst ho; show magic7.size ≤ 100000; decide, by decide⟩
def sL1 (lb : Nat) : LSt := (doL (lC cfg12 lb) (doL (lC cfg12 lb) (lst0 cfg12 ⟨[1, 2, 3, 4], 0⟩) 2).1 0).1
theorem eL1 (lb : Nat) : (ltakeS (lC cfg12 lb) (sL1 lb) req7).2 = [⟨3, 1, [⟨5, ⟨#[1, 2, 3, 4]⟩⟩], noB⟩] ∧ (ltakeS (lC cfg12 lb) (sL1 lb) req7).1.loops = 1 := by
  constructor
  · kernel_rfl
  · kernel_rfl
end Go.Proofs.YthhdackaopaojaaGreat

/- The first call of the laws. -/
namespace Go.Proofs.YthhdackaopaojaaGreat
open Go.RowKit Go.Tg Go.Maps

theorem ORow.two {w : World} {base : Nat} {v : Value} {o o' : Opt} (h : ORow w base v [o, o']) : ∃ g cap cs, v = .slice (some ⟨g, 0, none⟩) 2 cap ∧ base ≤ g ∧ g < w.heap.size ∧ 2 ≤ cap ∧ cap ≤ maxLen ∧
    w.heap[g]? = some (.cells cs 67 (0, 0)) ∧ cs[0]? = some (.int .i64 o.t) ∧ cs[1]? = some (.string o.v) ∧ cs[2]? = some (.int .i64 o'.t) ∧ cs[3]? = some (.string o'.v) := by
  obtain ⟨h0, ⟨h, hn⟩ | ⟨g, cap, cur, hv, h1, h2, h3, h4, h5, h6⟩⟩ := h
  · simp at hn
  · have hc : ∀ j, j < 4 → cur[j]? = (optL [o, o']).flatten[j]? := by
      intro j hj
      rw [← h6, List.getElem?_take_of_lt (by simp; omega), Array.getElem?_toList]
    refine ⟨g, cap, cur, hv, h1, (Array.getElem?_eq_some_iff.1 h2).1, h3, h4, h2, ?_, ?_, ?_, ?_⟩
    · rw [hc 0 (by decide)]; rfl
    · rw [hc 1 (by decide)]; rfl
    · rw [hc 2 (by decide)]; rfl
    · rw [hc 3 (by decide)]; rfl

set_option maxHeartbeats 8000000 in
set_option maxRecDepth 100000 in
theorem lalive_any (w : World) : Calls Tryz.prog 11 #[] w fun e w' => e = .returned (.bool true) ∧ Below w.heap.size w w' := by
  have q1 : ∀ w a, (binOp .eql 27 (.pointer (some a)) (.pointer none)).run Tryz.prog w = .ok (.bool false) w := fun w a => by kernel_rfl
  have q3 : ∀ w, (binOp .eql 67 (.agg #[.int .i64 3, .string chapB]) (.agg #[.int .i64 3, .string ⟨#[194, 35, 5]⟩])).run Tryz.prog w = .ok (.bool true) w := fun w => by kernel_rfl
  have q5 : ∀ w, (binOp .eql 67 (.agg #[.int .i64 5, .string magic7]) (.agg #[.int .i64 5, .string ⟨#[0, 0, 0, 7]⟩])).run Tryz.prog w = .ok (.bool true) w := fun w => by kernel_rfl
  have hO : ∀ W, Calls Tryz.prog 18 #[cfgV cfg12] W fun e w' => ∃ v, e = .returned v ∧ ORow w' W.heap.size v opts12 ∧ Below W.heap.size W w' := fun W => by
    have := lopts_any cfg12 W (by unfold I64 cfg12; decide)
    rwa [optsS12] at this
  have HO := Lib.hid hO
  unfold cfgV cfg12 at HO
  dsimp only at HO
  clear hO
  go_enter Tryz.func11, Tryz.ntmps11
  go_wp2_with fail
  refine (config_any _).mono ?_
  rintro e w1 ⟨rfl, b1⟩
  have HB1 := Lib.hid b1
  clear b1
  go_wp2_with fail
  refine (HO.out _).mono ?_
  rintro e w2 ⟨v2, rfl, r2, b2⟩
  obtain ⟨g, cap, cs, rfl, -, hg, hc1, hc2, hz, y0, y1, y2, y3⟩ := r2.two
  have HB2 := Lib.hid (And.intro (HB1.out.trans (b2.mono HB1.out.size)) (And.intro hg (And.intro hz (And.intro y0 (And.intro y1 (And.intro y2 y3))))))
  clear r2 b2 hg hz y0 y1 y2 y3 HB1
  go_wp2_with fail
  refine (config_any _).mono ?_
  rintro e w3 ⟨rfl, b3⟩
  have hb4 : Below w2.heap.size w2 (w3.alloc (.cells #[.int .i64 1, .int .i64 2, .int .i64 3, .int .i64 4] 3 (0, 0))) := b3.alloc b3.size _
  have hn4 : NRow (w3.alloc (.cells #[.int .i64 1, .int .i64 2, .int .i64 3, .int .i64 4] 3 (0, 0))) 0 (.slice (some ⟨w3.heap.size, 0, none⟩) 4 4) [1, 2, 3, 4] := ⟨rfl, Or.inr ⟨w3.heap.size, 4, _, rfl, Nat.zero_le _, at1 _ _, Nat.le_refl _, by unfold maxLen; omega, rfl, rfl⟩⟩
  have HT := Lib.hid (And.intro (tapeNew_any [1, 2, 3, 4] _ _ _ (hn4.nums (by unfold maxLen; decide)) (fun x hx => by unfold I64; simp only [List.mem_cons, List.not_mem_nil, or_false] at hx; rcases hx with rfl | rfl | rfl | rfl <;> decide) (by decide)) hb4)
  clear b3 hn4 hb4
  go_wp2_with fail
  refine HT.out.1.mono ?_
  rintro e w5 ⟨tb, rfl, t5, s5, b5⟩
  have HN := Lib.hid (And.intro (lnew_tape cfg12 cfg12_ok tb _ _ w5 t5 (fun b hb => by have := t5.lt; omega)) (And.intro (HT.out.2.trans (b5.mono HT.out.2.size)) (Nat.le_trans HT.out.2.size s5)))
  have HTS := Lib.hid HT.out.2.size
  unfold cfgV at HN
  rw [show cfg12.mru = 1492 from rfl, show cfg12.auth = 49699 from rfl, show cfg12.magic = 7 from rfl, show cfg12.echo = 0 from rfl, show cfg12.cf = 5 from rfl, show cfg12.tm = 2 from rfl, show cfg12.fl = 5 from rfl, show cfg12.wt = 3 from rfl] at HN
  clear t5 s5 b5
  go_wp2_with fail
  refine HN.out.1.mono ?_
  rintro e w6 hm
  obtain ⟨L, rfl, h6⟩ := LK.made (w0 := w2) hm HN.out.2.1 (fun b hb => Nat.le_trans HTS.out hb.1) HN.out.2.2
  have HD := Lib.hid (h6.Do 2 (by decide))
  have H6 := Lib.hid h6
  clear h6 hm HT HN
  go_wp2_with fail
  refine HD.out.mono ?_
  rintro e w7 ⟨v7, rfl, -, h7, -⟩
  have HD := Lib.hid (h7.Do 0 (by decide))
  clear h7
  go_wp2_with fail
  refine HD.out.mono ?_
  rintro e w8 ⟨v8, rfl, -, h8, -⟩
  have b9 : Below w8.heap.size w8 (w8.alloc (.cells #[.int .i64 5, .string ⟨#[0, 0, 0, 7]⟩] 67 (0, 0))) := (Below.refl _ _).alloc (Nat.le_refl _) _
  have o9 : Opts (w8.alloc (.cells #[.int .i64 5, .string ⟨#[0, 0, 0, 7]⟩] 67 (0, 0))) (fun b => w8.heap.size ≤ b) (.slice (some ⟨w8.heap.size, 0, none⟩) 1 1) req7.o := (ORow.one ⟨5, magic7⟩ (at1 w8 _) (Nat.le_refl _)).opts (by decide)
  have hsy : (sL1 L.lb).Sync := doL_sync (doL_sync (sync12 _) 2) 0
  have HK := Lib.hid (LK.Take (h8.below b9) hsy req7 _ req7_ok (by decide) o9 (fun b hb ht => by have := (h8.nt ht).2; omega) (fun o ho => by rw [ltakeN_req rfl] at ho; exact (hsy o ho).1))
  have HE := Lib.hid (eL1 L.lb)
  unfold pkV at HK
  rw [show req7.code = 1 from rfl, show req7.id = 1 from rfl, show req7.d = ⟨#[]⟩ from rfl] at HK
  rw [show (doL (lC cfg12 L.lb) (doL (lC cfg12 L.lb) (lst0 cfg12 ⟨[1, 2, 3, 4], 0⟩) 2).1 0).1 = sL1 L.lb from rfl] at HK
  generalize ltakeS (lC cfg12 L.lb) (sL1 L.lb) req7 = R at HK HE
  obtain ⟨r1, r2⟩ := R
  obtain ⟨he1, he2⟩ := HE.out
  dsimp only at he1 he2 HK
  subst he1
  have HL1 := Lib.hid he2
  clear h8 b9 o9 hsy he2 HE
  go_wp2_with fail
  refine HK.out.mono ?_
  rintro e w10 ⟨v10, rfl, p10, h10, -⟩
  obtain ⟨gp, cp, po, rfl, -, -, hcp1, hcp2, z0, z1, z2, -, zo⟩ := p10.at0
  obtain ⟨so, co, rfl, hco1, hco2⟩ := zo.form
  obtain ⟨bo, oo, rfl, -, -, -, -, -, x0, x1⟩ := Opts.at zo 0 (by decide)
  have HLO := Lib.hid h10.Loops
  rw [HL1.out] at HLO
  have hb10 := h10.b
  have zg := (hb10.block g HB2.out.2.1).trans HB2.out.2.2.1
  have c0 := cellOf zg 0 _ HB2.out.2.2.2.1
  have c1 := cellOf zg 1 _ HB2.out.2.2.2.2.1
  have c2 := cellOf zg 2 _ HB2.out.2.2.2.2.2.1
  have c3 := cellOf zg 3 _ HB2.out.2.2.2.2.2.2
  have HF := Lib.hid (HB2.out.1.trans (hb10.mono HB2.out.1.size))
  simp only [Nat.zero_mul, Nat.add_zero] at x0 x1
  try dsimp only at c0 c1 c2 c3
  unfold maxLen at hc2 hcp2 hco2
  clear p10 h10 zo hb10 zg HB2 HK H6 HD
  go_wp2_with (go_at_call 17; refine HLO.out.mono ?_; rintro e w11 ⟨rfl, rfl⟩)
  go_ret
  exact ⟨rfl, HF.out⟩
end Go.Proofs.YthhdackaopaojaaGreat
