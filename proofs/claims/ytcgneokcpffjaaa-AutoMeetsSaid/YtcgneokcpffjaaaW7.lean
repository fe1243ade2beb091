import Derived.Test.YtcgneokcpffjaaaW6
import Derived.Test.YtcgneokcpffjaaaTgSlice
namespace Go.Proofs.Ytcgneokcpffjaaa
open Go.RowKit Go.Tg Go.Maps

/-! ### AutoMeets -/
abbrev St := Int × Int
def stDo (e : Int) (st : St) : St := (nextS st.1 e, doC 5 2 (nextL st.1 e) (nextL st.1 e) st.2)
def stTmo (st : St) : St := (tmoS st.1 st.2, doC 5 2 (tmoL st.1 st.2) (tmoL st.1 st.2) st.2)
def OkSt (st : St) : Prop := (0 ≤ st.1 ∧ st.1 ≤ 9) ∧ InB st.2
theorem OkSt.do {st : St} (h : OkSt st) (e : Int) : OkSt (stDo e st) := ⟨next_in _ _ h.1, doC_in _ (by omega) (by omega) (by omega) (by omega) h.2⟩
theorem OkSt.tmo {st : St} (h : OkSt st) : OkSt (stTmo st) := ⟨tmo_in _ _ h.1, doC_in _ (by omega) (by omega) (by omega) (by omega) h.2⟩

def hE (act : Int) : Option Int := if act = 6 then some 6 else if act = 7 then some 8 else none
def hS (st : St) (act : Int) : St := match hE act with
  | some e => stDo e st
  | none => st
def hL (st : St) (act : Int) : List Int := match hE act with
  | some e => nextL st.1 e
  | none => []
theorem OkSt.hear {st : St} (h : OkSt st) (act : Int) : OkSt (hS st act) := by
  unfold hS
  split
  · exact h.do _
  · exact h
theorem hL_len (st : St) (act : Int) : (hL st act).length ≤ 3 := by
  unfold hL
  split
  · exact nextL_le _ _
  · simp

abbrev At (w : World) (b : Nat) (st : St) : Prop := AutoAt w b st.1 st.2 5 2

set_option maxHeartbeats 400000 in
theorem stdo_any (b : Nat) (st : St) (e : Int) (w : World) (h : At w b st) (ho : OkSt st) (he : (Lit.int .i64 e).wf = true) :
    Calls Try.prog 13 #[.pointer (some ⟨b, 0, none⟩), .int .i64 e] w fun en w' => ∃ v, en = .returned v ∧ IntsAt 3 w.heap.size w' v (nextL st.1 e) ∧ At w' b (stDo e st) ∧ Keep (· = b) w w' :=
  do_any b st.1 st.2 5 2 e w h (by omega) (by omega) (by omega) (by omega) ho.2 (wf_small _ (by have := ho.1; omega)) he
theorem sttmo_any (b : Nat) (st : St) (w : World) (h : At w b st) (ho : OkSt st) :
    Calls Try.prog 16 #[.pointer (some ⟨b, 0, none⟩)] w fun en w' => ∃ v, en = .returned v ∧ IntsAt 3 w.heap.size w' v (tmoL st.1 st.2) ∧ At w' b (stTmo st) ∧ Keep (· = b) w w' :=
  timeout_any b st.1 st.2 5 2 w h (by omega) (by omega) (by omega) (by omega) ho.2 (wf_small _ (by have := ho.1; omega))

set_option maxHeartbeats 400000 in
theorem heard_any (b : Nat) (st : St) (act : Int) (w : World) (h : At w b st) (ho : OkSt st) :
    Calls Try.prog 17 #[.pointer (some ⟨b, 0, none⟩), .int .i64 act] w fun en w' => ∃ v, en = .returned v ∧ IntsAt 3 w.heap.size w' v (hL st act) ∧ At w' b (hS st act) ∧ Keep (· = b) w w' := by
  have H := Lib.hid h
  clear h
  by_cases h6 : act = 6
  · subst h6
    go_enter Try.func17, Try.ntmps17
    go_wp2_with fail
    refine (stdo_any b st 6 w H.out ho (by decide)).mono ?_
    rintro en w2 ⟨v, rfl, h1, h2, h3⟩
    go_wp2_with fail
    go_ret
    exact ⟨_, rfl, h1, h2, h3⟩
  · by_cases h7 : act = 7
    · subst h7
      go_enter Try.func17, Try.ntmps17
      go_wp2_with fail
      refine (stdo_any b st 8 w H.out ho (by decide)).mono ?_
      rintro en w2 ⟨v, rfl, h1, h2, h3⟩
      go_wp2_with fail
      go_ret
      exact ⟨_, rfl, h1, h2, h3⟩
    · have e1 : hL st act = [] := by simp [hL, hE, h6, h7]
      have e2 : hS st act = st := by simp [hS, hE, h6, h7]
      rw [e1, e2]
      have b6 : (act == 6) = false := by simpa using h6
      have b7 : (act == 7) = false := by simpa using h7
      clear e1 e2 h6 h7
      go_enter Try.func17, Try.ntmps17
      go_wp2_with fail
      go_ret
      exact ⟨_, rfl, Or.inl ⟨rfl, rfl⟩, H.out, Keep.refl _ _⟩

def hear (p : St × List Int) (act : Int) : St × List Int := (hS p.1 act, p.2 ++ hL p.1 act)
def hears (st : St) (acts : List Int) : St × List Int := acts.foldl hear (st, [])
theorem hears_snoc (st : St) (xs : List Int) (k : Nat) (h : k < xs.length) : hears st (xs.take (k + 1)) = hear (hears st (xs.take k)) xs[k] := by
  unfold hears
  rw [List.take_succ_eq_append_getElem h, List.foldl_append]
  rfl
theorem hears_ok {st : St} (h : OkSt st) : ∀ (acts : List Int) (ys : List Int), OkSt (acts.foldl hear (st, ys)).1 ∧ (acts.foldl hear (st, ys)).2.length ≤ ys.length + 3 * acts.length := by
  intro acts
  induction acts generalizing st with
  | nil => intro ys; exact ⟨h, by simp⟩
  | cons a acts ih =>
    intro ys
    obtain ⟨h1, h2⟩ := ih (h.hear a) (ys ++ hL st a)
    refine ⟨h1, Nat.le_trans h2 ?_⟩
    have := hL_len st a
    simp only [List.length_append, List.length_cons]
    omega

structure Sim where
  a : St
  b : St
  x : List Int
  y : List Int
def round (first : Bool) (i : Nat) (s : Sim) : Sim :=
  let hb := hears s.b s.x
  let ha := hears s.a s.y
  let hb2 : St × List Int := if (i == 0 && !first) = true then (stDo 0 hb.1, nextL hb.1.1 0) else hb
  if hb2.2.length + ha.2.length = 0 then ⟨stTmo ha.1, stTmo hb2.1, tmoL ha.1.1 ha.1.2, tmoL hb2.1.1 hb2.1.2⟩ else ⟨ha.1, hb2.1, ha.2, hb2.2⟩
def start (first : Bool) : Sim :=
  let a := stDo 2 (0, 0)
  ⟨stDo 0 a, if first then stDo 0 a else a, nextL a.1 0, if first then nextL a.1 0 else []⟩
def sim (first : Bool) : Nat → Sim
  | 0 => start first
  | i + 1 => round first i (sim first i)
theorem sim_len : ∀ first i, i < 13 → (sim first i).x.length ≤ 3 ∧ (sim first i).y.length ≤ 3 := by decide
theorem sim_end : ∀ first, (sim first 12).a.1 = 9 ∧ (sim first 12).b.1 = 9 := by decide
end Go.Proofs.Ytcgneokcpffjaaa
