import Derived.Test.YtidlldfppoelnaaV27
namespace Go.Proofs.Ytidlldfppoelnaa
open Go.RowKit Go.Tg Go.Maps

/-- A negotiation with a judge of its own. -/
def NegP (w : World) (S : Nat → Prop) (B : NegB) (C : NegC) (st : NSt) (jb : Nat) : Prop := NegV w S B C st ∧ JAt w jb B.nb ∧ ¬ B.t jb ∧ S jb ∧ C.judge = ownJ jb
def EvP (w w' : World) (S ok : Nat → Prop) (B : NegB) (C : NegC) (jb : Nat) (r : NSt × List Pk) (e : Ending) : Prop :=
  ∃ v, e = .returned v ∧ PksAt w' (Grow ok w) w.heap.size v r.2 ∧ NegP w' (Grow S w) B C r.1 jb ∧ Keep B.t w w'

section
variable (rej : Pk → ByteArray) {w w' : World} {S ok : Nat → Prop} {B : NegB} {C : NegC} {st : NSt} {jb : Nat}

theorem JAt.lt {w : World} {jb nb : Nat} (h : JAt w jb nb) : jb < w.heap.size := (Array.getElem?_eq_some_iff.1 h).1
theorem NegP.keep {T : Nat → Prop} (h : NegP w S B C st jb) (hk : Keep T w w') (hT : ∀ b, b < w.heap.size → S b → ¬ T b) : NegP w' S B C st jb :=
  ⟨h.1.keep hk hT, (hk.block _ h.2.1.lt (hT _ h.2.1.lt h.2.2.2.1)).trans h.2.1, h.2.2⟩
theorem NegP.below (h : NegP w S B C st jb) (hb : Below w.heap.size w w') : NegP w' S B C st jb := h.keep (Keep.of_below (fun _ => False) hb) (fun _ _ _ h => h)
theorem NegP.mono {S' : Nat → Prop} (h : NegP w S B C st jb) (hS : ∀ b, S b → S' b) : NegP w S' B C st jb := ⟨h.1.mono hS, h.2.1, h.2.2.1, hS _ h.2.2.2.1, h.2.2.2.2⟩
theorem NegP.tlt (h : NegP w S B C st jb) {b : Nat} (hb : B.t b) : b < w.heap.size := by obtain ⟨⟨X, h⟩, _⟩ := h; exact h.tlt hb
theorem NegP.ts (h : NegP w S B C st jb) {b : Nat} (hb : B.t b) : S b := by
  obtain ⟨⟨X, h⟩, _⟩ := h
  rcases hb with rfl | rfl | rfl
  · exact h.s1
  · exact h.s2
  · exact h.s3
theorem EvPost.p {r : NSt × List Pk} {e : Ending} (hp : NegP w S B C st jb) (h : EvPost w w' S ok B C r e) : EvP w w' S ok B C jb r e := by
  obtain ⟨v, he, h1, h2, h3⟩ := h
  exact ⟨v, he, h1, ⟨h2, (h3.block _ hp.2.1.lt hp.2.2.1).trans hp.2.1, hp.2.2.1, .inl hp.2.2.2.1, hp.2.2.2.2⟩, h3⟩

theorem ownJ_ok (h : NegP w S B C st jb) (l : List Opt) (lv : Value) (hmax : l.length ≤ 1000000) (hwf : ∀ o ∈ l, I64 o.t) (hv : ∀ o ∈ l, o.v.size ≤ 100000) :
    ∀ W, Below w.heap.size w W → JudgeOk 63 #[.pointer (some ⟨jb, 0, none⟩)] W ok l lv (judgeS C.peer l) := by
  intro W hW
  refine ⟨enters_of Try.func63 (by kernel_rfl) rfl, fun W' hW' ho => ?_⟩
  have h2 := (h.below hW).below hW'
  obtain ⟨⟨X, h3⟩, h4, -⟩ := h2
  exact ownJ_any l lv ok h3 jb h4 ho hmax hwf hv

theorem DoP (ev : Int) (hev : 0 ≤ ev ∧ ev ≤ 3) (h : NegP w S B C st jb) :
    Calls Try.prog 13 #[.pointer (some ⟨B.nb, 0, none⟩), .int .i64 ev] w fun e w' => EvP w w' S (fun _ => False) B C jb (evS rej C st ev noCame) e := by
  obtain ⟨X, hX⟩ := h.1
  exact (Do_at rej ev hev hX).mono (fun e w' he => he.p h)
theorem StateP (h : NegP w S B C st jb) : Calls Try.prog 20 #[.pointer (some ⟨B.nb, 0, none⟩)] w fun e w' => e = .returned (.int .i64 st.s) ∧ w = w' := by
  obtain ⟨X, hX⟩ := h.1
  exact State_at hX
theorem MineP (h : NegP w S B C st jb) : Calls Try.prog 21 #[.pointer (some ⟨B.nb, 0, none⟩)] w fun e w' => ∃ v, e = .returned v ∧ ORow w' w.heap.size v (if st.s = 9 then st.mine else []) ∧ Below w.heap.size w w' := by
  obtain ⟨X, hX⟩ := h.1
  exact Mine_at hX
theorem TheirsP (h : NegP w S B C st jb) : Calls Try.prog 22 #[.pointer (some ⟨B.nb, 0, none⟩)] w fun e w' => ∃ v, e = .returned v ∧ ORow w' w.heap.size v (if st.s = 9 then st.theirs else []) ∧ Below w.heap.size w w' := by
  obtain ⟨X, hX⟩ := h.1
  exact Theirs_at hX
theorem judgeS_len (rs : List Rl) (l : List Opt) : (judgeS rs l).2.length ≤ l.length := by
  unfold judgeS answerS
  split
  · exact rejP_len _ _ _
  · split
    · simp only; exact nakP_len _ _ l
    · exact Nat.le_refl _
theorem take1P (p : Pk) (po : Value) (hcode : p.code = 1) (h : NegP w S B C st jb) (ho : Opts w ok po p.o) (hok : ∀ b, ok b → ¬ B.t b) (hlen : p.o.length ≤ 1000000) (hwf : ∀ o ∈ p.o, I64 o.t) (hv : ∀ o ∈ p.o, o.v.size ≤ 100000)
    (hs : (judgeS C.peer p.o).1 ≠ 2 → ∀ pa, SayAll rej B C ⟨true, p, (judgeS C.peer p.o).1, (judgeS C.peer p.o).2⟩ po pa (nextL st.s 7)) :
    Calls Try.prog 15 #[.pointer (some ⟨B.nb, 0, none⟩), pkV p po] w fun e w' => EvP w w' S ok B C jb (reqS rej C st p (judgeS C.peer p.o)) e := by
  obtain ⟨X, hX⟩ := h.1
  exact (take1 rej p po hcode _ _ _ h.2.2.2.2 (ownJ_ok h p.o po hlen hwf hv) (Nat.le_trans (judgeS_len _ _) hlen) hX ho hok hlen hs).mono (fun e w' he => he.p h)
theorem take2P (p : Pk) (po : Value) (hcode : p.code = 2) (h : NegP w S B C st jb) (ho : Opts w ok po p.o) (hok : ∀ b, ok b → ¬ B.t b) (hlen : p.o.length ≤ 1000000) :
    Calls Try.prog 15 #[.pointer (some ⟨B.nb, 0, none⟩), pkV p po] w fun e w' => EvP w w' S ok B C jb (ackS rej C st p) e := by
  obtain ⟨X, hX⟩ := h.1
  exact (take2 rej p po hcode hX ho hok hlen).mono (fun e w' he => he.p h)
theorem take5P (p : Pk) (po : Value) (hcode : p.code = 5) (h : NegP w S B C st jb) (ho : Opts w ok po p.o) (hok : ∀ b, ok b → ¬ B.t b) (hlen : p.o.length ≤ 1000000) :
    Calls Try.prog 15 #[.pointer (some ⟨B.nb, 0, none⟩), pkV p po] w fun e w' => EvP w w' S ok B C jb (evS rej C st 10 ⟨true, p, 0, []⟩) e := by
  obtain ⟨X, hX⟩ := h.1
  exact (take5 rej p po hcode hX ho hok hlen).mono (fun e w' he => he.p h)
theorem take6P (p : Pk) (po : Value) (hcode : p.code = 6) (h : NegP w S B C st jb) (ho : Opts w ok po p.o) (hok : ∀ b, ok b → ¬ B.t b) (hlen : p.o.length ≤ 1000000) :
    Calls Try.prog 15 #[.pointer (some ⟨B.nb, 0, none⟩), pkV p po] w fun e w' => EvP w w' S ok B C jb (evS rej C st 11 ⟨true, p, 0, []⟩) e := by
  obtain ⟨X, hX⟩ := h.1
  exact (take6 rej p po hcode hX ho hok hlen).mono (fun e w' he => he.p h)
theorem takeUP (p : Pk) (po : Value) (hcode : p.code < 1 ∨ 7 < p.code) (h : NegP w S B C st jb) (ho : Opts w ok po p.o) (hok : ∀ b, ok b → ¬ B.t b) (hlen : p.o.length ≤ 1000000) (hs : ∀ pa, SayAll rej B C ⟨true, p, 0, []⟩ po pa (nextL st.s 12)) :
    Calls Try.prog 15 #[.pointer (some ⟨B.nb, 0, none⟩), pkV p po] w fun e w' => EvP w w' S ok B C jb (evS rej C st 12 ⟨true, p, 0, []⟩) e := by
  obtain ⟨X, hX⟩ := h.1
  exact (takeU rej p po hcode hX ho hok hlen hs).mono (fun e w' he => he.p h)
end

/-- The rule of the laws. -/
def rule1 : Rl := ⟨1, 2, 64, 1492, ⟨#[5, 212]⟩⟩
set_option maxHeartbeats 400000 in
theorem rule_any (w : World) : Calls Try.prog 24 #[] w fun e w' => e = .returned (.agg #[.int .i64 1, .int .i64 2, .int .i64 64, .int .i64 1492, .string ⟨#[5, 212]⟩]) ∧ Below w.heap.size w w' := by
  go_enter Try.func24, Try.ntmps24
  go_wp2_with fail
  have hz := at1 w (.cells #[.int .i64 1, .int .i64 2, .int .i64 64, .int .i64 1492, .string ⟨#[5, 212]⟩] 48 (0, 0))
  have z0 := cellOf hz 0 _ rfl
  have z1 := cellOf hz 1 _ rfl
  have z2 := cellOf hz 2 _ rfl
  have z3 := cellOf hz 3 _ rfl
  have z4 := cellOf hz 4 _ rfl
  exact bodyPost_ret (v := .agg #[.int .i64 1, .int .i64 2, .int .i64 64, .int .i64 1492, .string ⟨#[5, 212]⟩]) (by simp [results, Try.results24, go_sem, z0, z1, z2, z3, z4]) rfl ⟨rfl, (Below.refl _ _).alloc (Nat.le_refl _) _⟩

/-- Rows of one. -/
theorem ORow.one {w : World} {g base : Nat} (o : Opt) (h : w.heap[g]? = some (.cells #[.int .i64 o.t, .string o.v] 46 (0, 0))) (hb : base ≤ g) : ORow w base (.slice (some ⟨g, 0, none⟩) 1 1) [o] :=
  ⟨rfl, Or.inr ⟨g, 1, _, rfl, hb, h, Nat.le_refl _, by unfold maxLen; omega, rfl, rfl⟩⟩
theorem RRow.one {w : World} {g base : Nat} (r : Rl) (h : w.heap[g]? = some (.cells #[.int .i64 r.t, .int .i64 r.len, .int .i64 r.min, .int .i64 r.max, .string r.s] 48 (0, 0))) (hb : base ≤ g) : RRow w base (.slice (some ⟨g, 0, none⟩) 1 1) [r] :=
  ⟨rfl, Or.inr ⟨g, 1, _, rfl, hb, h, Nat.le_refl _, by unfold maxLen; omega, rfl, rfl⟩⟩
end Go.Proofs.Ytidlldfppoelnaa
