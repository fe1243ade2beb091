import Derived.Test.YthhdackaopaojaaGreatK9
import Derived.Test.YthhdackaopaojaaGreatK12
import Derived.Test.YthhdackaopaojaaGreatV36
import Derived.Test.YthhdackaopaojaaGreatV42
import Derived.Test.YthhdackaopaojaaGreatK1
import Derived.Lib.QuietBelow
import Derived.Test.YthhdackaopaojaaGreatV66
/- A link in memory. -/
namespace Go.Proofs.YthhdackaopaojaaGreat
open Go.RowKit Go.Tg Go.Maps

theorem setIf_same {cs : Array Value} {o : Nat} {v : Value} (hv : cs[o]? = some v) : cs.setIfInBounds o v = cs := by
  apply Array.ext_getElem?
  intro i
  by_cases h : o = i
  · subst h
    rw [hv, Array.getElem?_setIfInBounds_self_of_lt (Array.getElem?_eq_some_iff.1 hv).1]
  · rw [Array.getElem?_setIfInBounds_ne h]
/-- To store what stands there is to do nothing. -/
theorem setCell_same {w : World} {b o : Nat} {v : Value} {cs : Array Value} {ty : TypeId} {fz : Nat × Nat} (h : w.heap[b]? = some (.cells cs ty fz)) (hv : cs[o]? = some v) : w.setCell ⟨b, o, none⟩ v = w := by
  have : w.heap.modify b (fun
      | .cells c elem frozen => .cells (if (none : Option Nat).isSome then c else c.setIfInBounds o v) elem frozen
      | o => o) = w.heap := by
    apply Array.ext_getElem?
    intro i
    rw [Array.getElem?_modify]
    by_cases hb : b = i
    · subst hb
      rw [if_pos rfl, h]
      simp [setIf_same hv]
    · rw [if_neg hb]
  show { w with heap := _ } = w
  cases w
  simp only [World.mk.injEq, and_self, and_true] at this ⊢
  exact this

/-- How a link stands. -/
structure LSt where
  st : NSt
  own : Int
  loops : Int
  ticks : Int
  missed : Int
  t : TpS
/-- Its blocks: its struct, its tape, its negotiation's. -/
structure LB where
  lb : Nat
  tb : Nat
  B : NegB
def LB.t (L : LB) (b : Nat) : Prop := L.B.t b ∨ b = L.lb ∨ b = L.tb
def lcpCells (L : LB) (echo : Int) (s : LSt) : Array Value :=
  #[.pointer (some ⟨L.B.nb, 0, none⟩), .pointer (some ⟨L.tb, 0, none⟩), .int .i64 echo, .int .i64 s.own, .int .i64 s.loops, .int .i64 s.ticks, .int .i64 s.missed]
def judgeV (lb : Nat) : Value := .func (.func 37) #[.pointer (some ⟨lb, 0, none⟩)] #[]

structure LcpAt (w : World) (S ok : Nat → Prop) (L : LB) (C : NegC) (echo : Int) (s : LSt) (X : NegX) : Prop where
  blk : w.heap[L.lb]? = some (.cells (lcpCells L echo s) 64 (0, 0))
  neg : NegAt w S L.B C s.st X
  tape : TapeAt w L.tb ok s.t
  ne : L.lb ≠ L.tb
  n1 : ¬ S L.lb
  n2 : ¬ S L.tb
  n3 : ∀ b, ok b → ¬ S b ∧ b ≠ L.lb ∧ b < w.heap.size
  jd : C.judge = judgeV L.lb
/-- Its own magic number is the one that it asks for. -/
def LSt.Sync (s : LSt) : Prop := ∀ o, findO s.st.req 5 = some o → o.v.size ≤ 7 ∧ valB o.v.data.toList = s.own
/-- A link all whose blocks are in U. -/
def LcpV (w : World) (U : Nat → Prop) (L : LB) (C : NegC) (echo : Int) (s : LSt) : Prop :=
  ∃ S ok X, LcpAt w S ok L C echo s X ∧ ∀ b, S b ∨ ok b ∨ b = L.lb ∨ b = L.tb → U b

section
variable {w w' : World} {S ok U U' T : Nat → Prop} {L : LB} {C : NegC} {echo : Int} {s s' : LSt} {X X' : NegX}
theorem LcpAt.llt (h : LcpAt w S ok L C echo s X) : L.lb < w.heap.size := (Array.getElem?_eq_some_iff.1 h.blk).1
theorem LcpAt.tlt (h : LcpAt w S ok L C echo s X) : L.tb < w.heap.size := h.tape.lt
theorem LcpAt.cell (h : LcpAt w S ok L C echo s X) (o : Nat) : w.cell? ⟨L.lb, o, none⟩ = (lcpCells L echo s)[o]? := cell_of_block h.blk o
theorem LcpAt.fz (h : LcpAt w S ok L C echo s X) (o : Nat) : w.frozen? ⟨L.lb, o, none⟩ = false := frozen_of_block h.blk o
theorem NegAt.ts (h : NegAt w S L.B C s.st X) {b : Nat} (hb : L.B.t b) : S b := by
  rcases hb with rfl | rfl | rfl
  · exact h.s1
  · exact h.s2
  · exact h.s3
theorem LcpAt.lt (h : LcpAt w S ok L C echo s X) {b : Nat} (hb : L.t b) : b < w.heap.size := by
  rcases hb with hb | rfl | rfl
  · exact h.neg.tlt hb
  · exact h.llt
  · exact h.tlt
theorem LcpAt.keep (h : LcpAt w S ok L C echo s X) (hk : Keep T w w') (hS : ∀ b, b < w.heap.size → S b ∨ ok b ∨ b = L.lb ∨ b = L.tb → ¬ T b) : LcpAt w' S ok L C echo s X where
  blk := (hk.block _ h.llt (hS _ h.llt (.inr (.inr (.inl rfl))))).trans h.blk
  neg := h.neg.keep hk (fun b hb hs => hS b hb (.inl hs))
  tape := h.tape.keep hk (hS _ h.tlt (.inr (.inr (.inr rfl)))) (fun b hb ho => hS b hb (.inr (.inl ho)))
  ne := h.ne
  n1 := h.n1
  n2 := h.n2
  n3 := fun b hb => ⟨(h.n3 b hb).1, (h.n3 b hb).2.1, Nat.lt_of_lt_of_le (h.n3 b hb).2.2 hk.size⟩
  jd := h.jd
theorem LcpAt.below (h : LcpAt w S ok L C echo s X) (hb : Below w.heap.size w w') : LcpAt w' S ok L C echo s X := h.keep (Keep.of_below (fun _ => False) hb) (fun _ _ _ h => h)
theorem LcpAt.old (h : LcpAt w S ok L C echo s X) : LcpAt w (fun b => S b ∧ b < w.heap.size) ok L C echo s X where
  blk := h.blk
  neg := h.neg.old
  tape := h.tape
  ne := h.ne
  n1 := fun hb => h.n1 hb.1
  n2 := fun hb => h.n2 hb.1
  n3 := fun b hb => ⟨fun hs => (h.n3 b hb).1 hs.1, (h.n3 b hb).2⟩
  jd := h.jd
theorem LcpAt.wide (h : LcpAt w S ok L C echo s X) {S' : Nat → Prop} (hS : ∀ b, S b → S' b) (h1 : ¬ S' L.lb) (h2 : ¬ S' L.tb) (h3 : ∀ b, ok b → ¬ S' b) : LcpAt w S' ok L C echo s X where
  blk := h.blk
  neg := h.neg.mono hS
  tape := h.tape
  ne := h.ne
  n1 := h1
  n2 := h2
  n3 := fun b hb => ⟨h3 b hb, (h.n3 b hb).2⟩
  jd := h.jd
theorem LcpV.keep (h : LcpV w U L C echo s) (hk : Keep T w w') (hU : ∀ b, b < w.heap.size → U b → ¬ T b) : LcpV w' U L C echo s := by
  obtain ⟨S, ok, X, h, hu⟩ := h
  exact ⟨S, ok, X, h.keep hk (fun b hb hx => hU b hb (hu b hx)), hu⟩
theorem LcpV.below (h : LcpV w U L C echo s) (hb : Below w.heap.size w w') : LcpV w' U L C echo s := h.keep (Keep.of_below (fun _ => False) hb) (fun _ _ _ h => h)
theorem LcpV.mono (h : LcpV w U L C echo s) (hU : ∀ b, U b → U' b) : LcpV w U' L C echo s := by
  obtain ⟨S, ok, X, h, hu⟩ := h
  exact ⟨S, ok, X, h, fun b hb => hU b (hu b hb)⟩
theorem LcpV.lt (h : LcpV w U L C echo s) {b : Nat} (hb : L.t b) : b < w.heap.size := by
  obtain ⟨S, ok, X, h, hu⟩ := h
  exact h.lt hb
theorem LcpV.us (h : LcpV w U L C echo s) {b : Nat} (hb : L.t b) : U b := by
  obtain ⟨S, ok, X, h, hu⟩ := h
  rcases hb with hb | rfl | rfl
  · exact hu b (.inl (h.neg.ts hb))
  · exact hu _ (.inr (.inr (.inl rfl)))
  · exact hu _ (.inr (.inr (.inr rfl)))
/-- Its negotiation turns. -/
theorem LcpAt.negTurn (h : LcpAt w S ok L C echo s X) {st' : NSt} (hn : NegAt w' (Grow S w) L.B C st' X') (hk : Keep L.B.t w w') : LcpAt w' (Grow S w) ok L C echo { s with st := st' } X' where
  blk := (hk.block _ h.llt (fun ht => h.n1 (h.neg.ts ht))).trans h.blk
  neg := hn
  tape := h.tape.keep hk (fun ht => h.n2 (h.neg.ts ht)) (fun b _ hb ht => (h.n3 b hb).1 (h.neg.ts ht))
  ne := h.ne
  n1 := fun hg => hg.elim h.n1 (fun hl => by have := h.llt; omega)
  n2 := fun hg => hg.elim h.n2 (fun hl => by have := h.tlt; omega)
  n3 := fun b hb => ⟨fun hg => hg.elim (h.n3 b hb).1 (fun hl => by have := (h.n3 b hb).2.2; omega), (h.n3 b hb).2.1, Nat.lt_of_lt_of_le (h.n3 b hb).2.2 hk.size⟩
  jd := h.jd
theorem keepL (L : LB) (w : World) (o : Nat) (v : Value) : Keep (fun b => b = L.lb) w (w.setCell ⟨L.lb, o, none⟩ v) := (Keep.refl (fun b => b = L.lb) w).setCell ⟨L.lb, o, none⟩ (Or.inr rfl) v
/-- Its struct turns. -/
theorem LcpAt.cellTurn (h : LcpAt w S ok L C echo s X) (o : Nat) (v : Value) (hc : (lcpCells L echo s).setIfInBounds o v = lcpCells L echo s') (hs : s'.st = s.st ∧ s'.t = s.t) : LcpAt (w.setCell ⟨L.lb, o, none⟩ v) S ok L C echo s' X := by
  have hk := keepL L w o v
  obtain ⟨e1, e2⟩ := hs
  exact { blk := by rw [← hc]; exact set_block h.blk o v
          neg := by rw [e1]; exact h.neg.keep hk (fun b _ hb he => h.n1 (he ▸ hb))
          tape := by rw [e2]; exact h.tape.keep hk (fun he => h.ne he.symm) (fun b _ hb he => (h.n3 b hb).2.1 he)
          ne := h.ne
          n1 := h.n1
          n2 := h.n2
          n3 := fun b hb => ⟨(h.n3 b hb).1, (h.n3 b hb).2.1, Nat.lt_of_lt_of_le (h.n3 b hb).2.2 hk.size⟩
          jd := h.jd }
end
end Go.Proofs.YthhdackaopaojaaGreat

/- Its magic number. -/
namespace Go.Proofs.YthhdackaopaojaaGreat
open Go.RowKit Go.Tg Go.Maps

section
variable {w : World} {S ok : Nat → Prop} {L : LB} {B : NegB} {C : NegC} {st : NSt} {echo : Int} {s : LSt} {X : NegX}

set_option maxHeartbeats 4000000 in
theorem Request_at (h : NegAt w S B C st X) :
    Calls Tryz.prog 82 #[.pointer (some ⟨B.nb, 0, none⟩)] w fun e w' => ∃ v, e = .returned v ∧ ORow w' w.heap.size v st.req ∧ Below w.heap.size w w' := by
  have g0 : w.cell? ⟨B.nb, 10, none⟩ = some X.req := h.cell 10
  have H := Lib.hid (And.intro (nnone_at h) (clone_any st.req X.req (fun b => 0 ≤ b) w (h.req.opts (by have := h.lr; unfold maxLen; omega)) (by have := h.lr; omega)))
  clear h
  go_enter Tryz.func82, Tryz.ntmps82
  go_wp2_with (first
    | (go_at_call 77; refine H.out.1.mono ?_; rintro e w1 ⟨rfl, rfl⟩)
    | (go_at_call 69; refine H.out.2.mono ?_; rintro e w1 ⟨v, rfl, hr, hb⟩; have HR := Lib.hid (And.intro hr hb); clear hr hb))
  go_ret
  exact ⟨_, rfl, HR.out⟩

set_option maxHeartbeats 4000000 in
set_option maxRecDepth 100000 in
theorem magic_at (h : LcpAt w S ok L C echo s X) (hy : s.Sync) :
    Calls Tryz.prog 48 #[.pointer (some ⟨L.lb, 0, none⟩)] w fun e w' => e = .returned (.int .i64 s.own) ∧ Below w.heap.size w w' := by
  have g0 : w.cell? ⟨L.lb, 0, none⟩ = some (.pointer (some ⟨L.B.nb, 0, none⟩)) := h.cell 0
  have HQ := Lib.hid (Request_at h.neg)
  have HX := Lib.hid (And.intro h.blk (And.intro h.llt h.neg.lr))
  have HF := Lib.hid (fun W lv (hl : Opts W (fun b => w.heap.size ≤ b) lv s.st.req) => findO_any s.st.req lv _ 5 W hl (by have := h.neg.lr; omega))
  unfold LSt.Sync at hy
  clear h
  generalize s.st.req = rq at *
  cases hf : findO rq 5 with
  | none =>
    rw [hf] at HF
    simp only [Option.getD_none, Option.isSome_none] at HF
    clear hf hy
    go_enter Tryz.func48, Tryz.ntmps48
    go_wp2_with (first
      | (go_at_call 82; refine HQ.out.mono ?_; rintro e w1 ⟨v, rfl, hr, hb⟩
         have HR := Lib.hid (And.intro hr hb)
         have g1 : w1.cell? ⟨L.lb, 3, none⟩ = some (.int .i64 s.own) := cellOf ((hb.block _ HX.out.2.1).trans HX.out.1) 3 _ rfl
         clear hr hb)
      | (go_at_call 20; refine (HF.out _ _ (HR.out.1.opts (by have := HX.out.2.2; unfold maxLen; omega))).mono ?_; rintro e w2 ⟨rfl, hb⟩
         have HB := Lib.hid hb
         have g2 : w2.cell? ⟨L.lb, 3, none⟩ = some (.int .i64 s.own) := cellOf ((hb.block _ (Nat.lt_of_lt_of_le HX.out.2.1 HR.out.2.size)).trans ((HR.out.2.block _ HX.out.2.1).trans HX.out.1)) 3 _ rfl
         clear hb))
    go_ret
    exact ⟨rfl, HR.out.2.trans (HB.out.mono HR.out.2.size)⟩
  | some o =>
    obtain ⟨h7, hv⟩ := hy o hf
    rw [hf] at HF
    simp only [Option.getD_some, Option.isSome_some] at HF
    have HV := Lib.hid (fun W => value_any o.v W h7)
    rw [hv] at HV
    clear hf hy h7 hv
    generalize o.v = ov at *
    go_enter Tryz.func48, Tryz.ntmps48
    go_wp2_with (first
      | (go_at_call 82; refine HQ.out.mono ?_; rintro e w1 ⟨v, rfl, hr, hb⟩
         have HR := Lib.hid (And.intro hr hb)
         clear hr hb)
      | (go_at_call 20; refine (HF.out _ _ (HR.out.1.opts (by have := HX.out.2.2; unfold maxLen; omega))).mono ?_; rintro e w2 ⟨rfl, hb⟩
         have z2 := (hb.block _ (Nat.lt_of_lt_of_le HX.out.2.1 HR.out.2.size)).trans ((HR.out.2.block _ HX.out.2.1).trans HX.out.1)
         have g2 : w2.cell? ⟨L.lb, 3, none⟩ = some (.int .i64 s.own) := cellOf z2 3 _ rfl
         have f2 := fzOf z2 3
         have q2 : w2.setCell ⟨L.lb, 3, none⟩ (.int .i64 s.own) = w2 := setCell_same z2 rfl
         have HB := Lib.hid (And.intro hb z2)
         clear hb z2)
      | (go_at_call 21; refine (HV.out _).mono ?_; rintro e w3 ⟨rfl, rfl⟩))
    go_ret
    exact ⟨rfl, HR.out.2.trans (HB.out.1.mono HR.out.2.size)⟩
end
end Go.Proofs.YthhdackaopaojaaGreat

/- Whether an option loops, fits; what is named instead; the judge. -/
namespace Go.Proofs.YthhdackaopaojaaGreat
open Go.RowKit Go.Tg Go.Maps

def loopS (own : Int) (o : Opt) : Bool := decide (o.t = 5) && (decide (own ≠ 0) && decide (o.v = pB4 own))
def lfitsS (own : Int) (o : Opt) : Bool := if o.t = 1 then fitsR (unitR 65535) o.v else if o.t = 3 then decide (protoS [o] ≠ 0) else fitsR magicR o.v && !loopS own o
def insteadL (t : TpS) (k : Int) : ByteArray × TpS := if k = 1 then (pB2 1492, t) else if k = 3 then (chapB, t) else (if (tp4 t).1 = pB4 0 then pB4 1 else (tp4 t).1, (tp4 t).2)
def lhas (k : Int) : Bool := decide (k = 1) || (decide (k = 3) || decide (k = 5))
def ljudgeS (own : Int) (t : TpS) (l : List Opt) : (Int × List Opt) × TpS := answerQ lhas (lfitsS own) insteadL t l

section
variable {w : World} {S ok : Nat → Prop} {L : LB} {B : NegB} {C : NegC} {st : NSt} {echo : Int} {s : LSt} {X : NegX}

set_option maxHeartbeats 4000000 in
set_option maxRecDepth 100000 in
theorem loop_at (h : LcpAt w S ok L C echo s X) (hy : s.Sync) (o : Opt) :
    Calls Tryz.prog 79 #[.pointer (some ⟨L.lb, 0, none⟩), .agg #[.int .i64 o.t, .string o.v]] w fun e w' => e = .returned (.bool (loopS s.own o)) ∧ Below w.heap.size w w' := by
  obtain ⟨t, v⟩ := o
  have hb1 := (Below.refl w.heap.size w).alloc (Nat.le_refl _) (.cells #[.int .i64 t, .string v] 67 (0, 0))
  have HM := Lib.hid (magic_at (h.below hb1) hy)
  have HX := Lib.hid (And.intro hb1 (at1 w (.cells #[.int .i64 t, .string v] 67 (0, 0))))
  have HS := Lib.hid (alloc1 w (.cells #[.int .i64 t, .string v] 67 (0, 0)))
  have HL := Lib.hid (show loopS s.own ⟨t, v⟩ = (decide (t = 5) && (decide (s.own ≠ 0) && decide (v = pB4 s.own))) from rfl)
  generalize loopS s.own ⟨t, v⟩ = R at *
  generalize s.own = own at *
  clear h hy hb1
  by_cases ht : t = 5
  · by_cases h0 : own = 0
    · have HR : Hid (R = false) := Lib.hid (by rw [HL.out]; simp [h0])
      subst ht h0
      clear HL
      go_enter Tryz.func79, Tryz.ntmps79
      go_wp2_with (go_at_call 48; refine HM.out.mono ?_; rintro e w1 ⟨rfl, hb⟩
                   have z1 := (hb.block w.heap.size (by rw [HS.out]; omega)).trans HX.out.2
                   have d0 : w1.cell? ⟨w.heap.size, 0, none⟩ = some (.int .i64 5) := cellOf z1 0 _ rfl
                   have d1 : w1.cell? ⟨w.heap.size, 1, none⟩ = some (.string v) := cellOf z1 1 _ rfl
                   have HB := Lib.hid (HX.out.1.trans (hb.mono (by rw [HS.out]; omega)))
                   clear z1 hb)
      go_quiet (fail)
      go_wp2_with fail
      go_ret
      rw [HR.out]
      exact ⟨rfl, belowN HB.out _⟩
    · have HR : Hid (R = decide (v = pB4 own)) := Lib.hid (by rw [HL.out, ht]; simp [h0])
      have e0 : (own != 0) = true := by simpa using h0
      subst ht
      clear HL h0
      go_enter Tryz.func79, Tryz.ntmps79
      go_wp2_with (go_at_call 48; refine HM.out.mono ?_; rintro e w1 ⟨rfl, hb⟩
                   have z1 := (hb.block w.heap.size (by rw [HS.out]; omega)).trans HX.out.2
                   have d0 : w1.cell? ⟨w.heap.size, 0, none⟩ = some (.int .i64 5) := cellOf z1 0 _ rfl
                   have d1 : w1.cell? ⟨w.heap.size, 1, none⟩ = some (.string v) := cellOf z1 1 _ rfl
                   have HB := Lib.hid (HX.out.1.trans (hb.mono (by rw [HS.out]; omega)))
                   clear z1 hb)
      have d0' := cell_regrown d0
      have d1' := cell_regrown d1
      have HP := Lib.hid (fun d os => lputI4 own (Go.Sort.grow (redrawn w1 d) os))
      refine wp_region_quiet_below (by kernel_rfl) (by kernel_rfl) ?_
      repeat (quiet_step (first | (go_at_call 50; exact Calls.regrown_of (HP.out _ _))))
      refine wpQuiet_nil ?_
      rintro _ ⟨⟨nq, osq⟩, rfl⟩
      have HB2 := Lib.hid (HB.out.trans ((below_regrown _ nq osq).mono HB.out.size))
      go_wp2_with fail
      go_ret
      rw [HR.out]
      exact ⟨by rw [← tl_eq]; rfl, HB2.out⟩
  · have HR : Hid (R = false) := Lib.hid (by rw [HL.out]; simp [ht])
    have e0 : (t == 5) = false := by simpa using ht
    clear HL ht
    go_enter Tryz.func79, Tryz.ntmps79
    go_wp2_with (go_at_call 48; refine HM.out.mono ?_; rintro e w1 ⟨rfl, hb⟩
                 have z1 := (hb.block w.heap.size (by rw [HS.out]; omega)).trans HX.out.2
                 have d0 : w1.cell? ⟨w.heap.size, 0, none⟩ = some (.int .i64 t) := cellOf z1 0 _ rfl
                 have d1 : w1.cell? ⟨w.heap.size, 1, none⟩ = some (.string v) := cellOf z1 1 _ rfl
                 have HB := Lib.hid (HX.out.1.trans (hb.mono (by rw [HS.out]; omega)))
                 clear z1 hb)
    go_quiet (fail)
    go_wp2_with fail
    go_ret
    rw [HR.out]
    exact ⟨rfl, belowN HB.out _⟩
end
end Go.Proofs.YthhdackaopaojaaGreat

/- Whether an option fits; what is named instead; the judge. -/
namespace Go.Proofs.YthhdackaopaojaaGreat
open Go.RowKit Go.Tg Go.Maps

section
variable {w w' : World} {S ok : Nat → Prop} {L : LB} {B : NegB} {C : NegC} {st : NSt} {echo : Int} {s : LSt} {X : NegX}

/-- Its tape turns. -/
theorem LcpAt.tapeTurn (h : LcpAt w S ok L C echo s X) {t' : TpS} (ht : TapeAt w' L.tb ok t') (hk : Keep (fun b => b = L.tb) w w') : LcpAt w' S ok L C echo { s with t := t' } X where
  blk := (hk.block _ h.llt h.ne).trans h.blk
  neg := h.neg.keep hk (fun _ _ hb he => h.n2 (he ▸ hb))
  tape := ht
  ne := h.ne
  n1 := h.n1
  n2 := h.n2
  n3 := fun b hb => ⟨(h.n3 b hb).1, (h.n3 b hb).2.1, Nat.lt_of_lt_of_le (h.n3 b hb).2.2 hk.size⟩
  jd := h.jd

set_option maxHeartbeats 4000000 in
set_option maxRecDepth 100000 in
theorem lfits_at (h : LcpAt w S ok L C echo s X) (hy : s.Sync) (o : Opt) (hv : o.v.size ≤ 100000) :
    Calls Tryz.prog 75 #[.pointer (some ⟨L.lb, 0, none⟩), .agg #[.int .i64 o.t, .string o.v]] w fun e w' => e = .returned (.bool (lfitsS s.own o)) ∧ Below w.heap.size w w' := by
  obtain ⟨t, v⟩ := o
  have hb1 := (Below.refl w.heap.size w).alloc (Nat.le_refl _) (.cells #[.int .i64 t, .string v] 67 (0, 0))
  have HX := Lib.hid (And.intro hb1 (at1 w (.cells #[.int .i64 t, .string v] 67 (0, 0))))
  have HL := Lib.hid (show lfitsS s.own ⟨t, v⟩ = (if t = 1 then fitsR (unitR 65535) v else if t = 3 then decide (protoS [⟨t, v⟩] ≠ 0) else fitsR magicR v && !loopS s.own ⟨t, v⟩) from rfl)
  have H1 := Lib.hid (And.intro (h.below hb1) hy)
  obtain ⟨W, hW⟩ : ∃ W, W = w.alloc (.cells #[.int .i64 t, .string v] 67 (0, 0)) := ⟨_, rfl⟩
  rw [← hW] at H1 HX
  generalize lfitsS s.own ⟨t, v⟩ = R at *
  simp only at hv
  have d0 : W.cell? ⟨w.heap.size, 0, none⟩ = some (.int .i64 t) := cellOf HX.out.2 0 _ rfl
  have d1 : W.cell? ⟨w.heap.size, 1, none⟩ = some (.string v) := cellOf HX.out.2 1 _ rfl
  clear h hy hb1
  by_cases h1 : t = 1
  · have HR : Hid (R = fitsR (unitR 65535) v) := Lib.hid (by rw [HL.out, if_pos h1])
    subst h1
    clear HL
    go_enter Tryz.func75, Tryz.ntmps75
    go_wp2_with fail
    rw [← hW]; clear hW
    have d0' := cell_regrown d0
    have d1' := cell_regrown d1
    have HU := Lib.hid (fun d os => units_any 65535 (Go.Sort.grow (redrawn W d) os))
    have HF := Lib.hid (fun d os => fits_any (unitR 65535) v (Go.Sort.grow (redrawn W d) os) hv)
    refine wp_region_quiet_below (by kernel_rfl) (by kernel_rfl) ?_
    repeat (quiet_step (first | (go_at_call 35; exact Calls.regrown_of (HU.out _ _)) | (go_at_call 92; exact Calls.regrown_of (HF.out _ _))))
    refine wpQuiet_nil ?_
    rintro _ ⟨⟨nq, osq⟩, rfl⟩
    have HB2 := Lib.hid (HX.out.1.trans ((below_regrown _ nq osq).mono HX.out.1.size))
    go_wp2_with fail
    go_ret
    rw [HR.out]
    exact ⟨rfl, HB2.out⟩
  · by_cases h3 : t = 3
    · have HR : Hid (R = decide (protoS [⟨t, v⟩] ≠ 0)) := Lib.hid (by rw [HL.out, if_neg h1, if_pos h3])
      subst h3
      clear HL h1
      subst hW
      have HA := Lib.hid (And.intro (proto_any [⟨3, v⟩] (.slice (some ⟨w.heap.size + 1, 0, none⟩) 1 1) (fun b => 0 ≤ b) ((w.alloc (.cells #[.int .i64 3, .string v] 67 (0, 0))).alloc (.cells #[.int .i64 3, .string v] 67 (0, 0))) ((ORow.one ⟨3, v⟩ (at21 w _ _) (Nat.zero_le _)).opts (by unfold maxLen; simp)) (by simp))
        (HX.out.1.alloc HX.out.1.size (.cells #[.int .i64 3, .string v] 67 (0, 0))))
      clear HX H1 d0 d1
      generalize protoS [⟨3, v⟩] = pp at *
      go_enter Tryz.func75, Tryz.ntmps75
      go_wp2_with (go_at_call 59; refine HA.out.1.mono ?_; rintro e w3 ⟨rfl, hb3⟩; have H3 := Lib.hid hb3; clear hb3)
      go_ret
      rw [HR.out]
      refine ⟨?_, HA.out.2.trans (H3.out.mono HA.out.2.size)⟩
      by_cases hp : pp = 0 <;> simp [hp]
    · have HR : Hid (R = (fitsR magicR v && !loopS s.own ⟨t, v⟩)) := Lib.hid (by rw [HL.out, if_neg h1, if_neg h3])
      have e1 : (t == 1) = false := by simpa using h1
      have e3 : (t == 3) = false := by simpa using h3
      clear HL h1 h3
      have d0' := cell_regrown d0
      have d1' := cell_regrown d1
      have HM := Lib.hid (fun d os => magics_any (Go.Sort.grow (redrawn W d) os))
      have HF := Lib.hid (fun d os => fits_any magicR v (Go.Sort.grow (redrawn W d) os) hv)
      have HO := Lib.hid (fun d os => loop_at (H1.out.1.below (below_regrown W d os)) H1.out.2 ⟨t, v⟩)
      generalize fitsR magicR v = ff at *
      generalize loopS s.own ⟨t, v⟩ = ll at *
      go_enter Tryz.func75, Tryz.ntmps75
      go_wp2_with fail
      rw [← hW]; clear hW
      cases ff with
      | false =>
        refine wp_region_quiet_below (by kernel_rfl) (by kernel_rfl) ?_
        repeat (quiet_step (first | (go_at_call 36; exact Calls.regrown_of (HM.out _ _)) | (go_at_call 92; exact Calls.regrown_of (HF.out _ _)) | (go_at_call 79; exact Calls.regrown_of (HO.out _ _))))
        refine wpQuiet_nil ?_
        rintro _ ⟨⟨nq, osq⟩, rfl⟩
        have HB2 := Lib.hid (HX.out.1.trans ((below_regrown _ nq osq).mono HX.out.1.size))
        go_wp2_with fail
        go_ret
        rw [HR.out]
        exact ⟨rfl, HB2.out⟩
      | true =>
        refine wp_region_quiet_below (by kernel_rfl) (by kernel_rfl) ?_
        repeat (quiet_step (first | (go_at_call 36; exact Calls.regrown_of (HM.out _ _)) | (go_at_call 92; exact Calls.regrown_of (HF.out _ _)) | (go_at_call 79; exact Calls.regrown_of (HO.out _ _))))
        refine wpQuiet_nil ?_
        rintro _ ⟨⟨nq, osq⟩, rfl⟩
        have HB2 := Lib.hid (HX.out.1.trans ((below_regrown _ nq osq).mono HX.out.1.size))
        go_wp2_with fail
        go_ret
        rw [HR.out]
        exact ⟨by simp, HB2.out⟩

set_option maxHeartbeats 4000000 in
set_option maxRecDepth 100000 in
theorem linstead_at (h : LcpAt w S ok L C echo s X) (k : Int) :
    Calls Tryz.prog 76 #[.pointer (some ⟨L.lb, 0, none⟩), .int .i64 k] w fun e w' => e = .returned (.string (insteadL s.t k).1) ∧ LcpAt w' S ok L C echo { s with t := (insteadL s.t k).2 } X ∧ Keep (fun b => b = L.tb) w w' := by
  have g1 : w.cell? ⟨L.lb, 1, none⟩ = some (.pointer (some ⟨L.tb, 0, none⟩)) := h.cell 1
  have HT := Lib.hid (bytes4_any L.tb ok s.t w h.tape)
  have H := Lib.hid h
  have HE := Lib.hid (show insteadL s.t k = (if k = 1 then (pB2 1492, s.t) else if k = 3 then (chapB, s.t) else (if (tp4 s.t).1 = pB4 0 then pB4 1 else (tp4 s.t).1, (tp4 s.t).2)) from rfl)
  have V2 := Lib.hid (fun w => lvalue_any 49699 w (by unfold I64; decide))
  rw [show lvalS 49699 = chapB from rfl] at V2
  clear h
  generalize insteadL s.t k = R at *
  by_cases h1 : k = 1
  · subst h1
    go_enter Tryz.func76, Tryz.ntmps76
    go_wp2_with (go_at_call 50; refine (lputI2 _ _).mono ?_; rintro e w1 ⟨rfl, hb⟩; have HB := Lib.hid hb; clear hb)
    go_ret
    rw [HE.out]
    exact ⟨rfl, H.out.below HB.out, Keep.of_below _ HB.out⟩
  · by_cases h3 : k = 3
    · subst h3
      clear h1
      go_enter Tryz.func76, Tryz.ntmps76
      go_wp2_with (go_at_call 33; refine (V2.out _).mono ?_; rintro e w1 ⟨rfl, hb⟩; have HB := Lib.hid hb; clear hb)
      go_ret
      rw [HE.out]
      exact ⟨rfl, H.out.below HB.out, Keep.of_below _ HB.out⟩
    · rw [if_neg h1, if_neg h3] at HE
      have e1 : (k == 1) = false := by simpa using h1
      have e3 : (k == 3) = false := by simpa using h3
      clear h1 h3
      generalize hq : tp4 s.t = q at *
      obtain ⟨x, t'⟩ := q
      clear hq
      dsimp only at HE HT
      by_cases hx : x = pB4 0
      · have ex : (x.toList == (pB4 0).toList) = true := by rw [tl_eq]; simpa using hx
        have HR : Hid (R = (pB4 1, t')) := Lib.hid (by rw [HE.out, if_pos hx])
        clear hx HE
        go_enter Tryz.func76, Tryz.ntmps76
        go_wp2_with (first
          | (go_at_call 98; refine HT.out.mono ?_; rintro e w1 ⟨rfl, ht, hk⟩; have H1 := Lib.hid (And.intro (H.out.tapeTurn ht hk) hk); clear ht hk)
          | (go_at_call 50; refine (lputI4 _ _).mono ?_; rintro e w1 ⟨rfl, hb⟩; have H1 := Lib.hid (And.intro (H1.out.1.below hb) (H1.out.2.trans (Keep.of_below _ hb))); clear hb))
        go_ret
        rw [HR.out]
        exact ⟨rfl, H1.out.1, H1.out.2⟩
      · have ex : (x.toList == (pB4 0).toList) = false := by rw [tl_eq]; simpa using hx
        have HR : Hid (R = (x, t')) := Lib.hid (by rw [HE.out, if_neg hx])
        clear hx HE
        go_enter Tryz.func76, Tryz.ntmps76
        go_wp2_with (first
          | (go_at_call 98; refine HT.out.mono ?_; rintro e w1 ⟨rfl, ht, hk⟩; have H1 := Lib.hid (And.intro (H.out.tapeTurn ht hk) hk); clear ht hk)
          | (go_at_call 50; refine (lputI4 _ _).mono ?_; rintro e w1 ⟨rfl, hb⟩; have H1 := Lib.hid (And.intro (H1.out.1.below hb) (H1.out.2.trans (Keep.of_below _ hb))); clear hb))
        go_ret
        rw [HR.out]
        exact ⟨rfl, H1.out.1, H1.out.2⟩

set_option maxHeartbeats 1000000 in
theorem lhas_any (k : Int) (w : World) : Calls Tryz.prog 74 #[.int .i64 k] w fun e w' => e = .returned (.bool (lhas k)) ∧ w = w' := by
  have HL := Lib.hid (show lhas k = (decide (k = 1) || (decide (k = 3) || decide (k = 5))) from rfl)
  generalize lhas k = R at *
  by_cases h1 : k = 1
  · subst h1
    go_enter Tryz.func74, Tryz.ntmps74
    go_wp2_with fail
    go_ret
    rw [HL.out]; exact ⟨rfl, rfl⟩
  · by_cases h3 : k = 3
    · subst h3
      go_enter Tryz.func74, Tryz.ntmps74
      go_wp2_with fail
      go_ret
      rw [HL.out]; exact ⟨rfl, rfl⟩
    · have e1 : (k == 1) = false := by simpa using h1
      have e3 : (k == 3) = false := by simpa using h3
      have HR : Hid (R = decide (k = 5)) := Lib.hid (by rw [HL.out]; simp [h1, h3])
      clear h1 h3 HL
      go_enter Tryz.func74, Tryz.ntmps74
      go_wp2_with fail
      go_ret
      rw [HR.out]
      refine ⟨?_, rfl⟩
      by_cases h5 : k = 5 <;> simp [h5]

set_option maxHeartbeats 4000000 in
set_option maxRecDepth 100000 in
theorem judge_at (h : LcpAt w S ok L C echo s X) (hy : s.Sync) (l : List Opt) (lv : Value) (okp : Nat → Prop) (hl : Opts w okp lv l) (hok : ∀ b, okp b → b ≠ L.tb) (hmax : l.length ≤ 1000000) (hwf : ∀ o ∈ l, I64 o.t) (hv : ∀ o ∈ l, o.v.size ≤ 100000) :
    Calls Tryz.prog 37 #[.pointer (some ⟨L.lb, 0, none⟩), lv] w fun e w' => ∃ v, e = .returned (.tuple #[.int .i64 (ljudgeS s.own s.t l).1.1, v]) ∧ ORow w' w.heap.size v (ljudgeS s.own s.t l).1.2 ∧ LcpAt w' S ok L C echo { s with t := (ljudgeS s.own s.t l).2 } X ∧ Keep (fun b => b = L.tb) w w' := by
  obtain ⟨sa, c, rfl, -, -⟩ := hl.form
  have HA := Lib.hid (answerQ_any l _ okp w hl hmax hwf 74 75 76 #[] (.pointer (some ⟨L.lb, 0, none⟩)) (.pointer (some ⟨L.lb, 0, none⟩)) lhas (lfitsS s.own) insteadL s.t (fun b => b = L.tb) (fun W t => LcpAt W (fun b => S b ∧ b < w.heap.size) ok L C echo { s with t := t } X)
    (fun W W' t hQ hb => hQ.keep (T := fun b => w.heap.size ≤ b) ⟨hb.os, hb.tape, hb.output, hb.size, fun k _ hT => hb.block k (by omega)⟩ (fun b _ hx hT => by
      have h1 := h.llt
      have h2 := h.tlt
      rcases hx with hx | hx | rfl | rfl
      · have := hx.2; omega
      · have := (h.n3 b hx).2.2; omega
      · omega
      · omega)) (fun b hb => hb ▸ h.tlt) hok h.old
    (enters_of Tryz.func74 (by kernel_rfl) rfl) (enters_of Tryz.func75 (by kernel_rfl) rfl) (enters_of Tryz.func76 (by kernel_rfl) rfl)
    (fun W o _ _ => (lhas_any o.t W).mono (fun e w' he => ⟨he.1, he.2 ▸ Below.refl _ _⟩))
    (fun W t o ho _ hQ => (lfits_at hQ hy o (hv o ho)).mono (fun e w' he => ⟨he.1, hQ.below he.2, Keep.of_below _ he.2⟩))
    (fun W t o _ _ hQ => linstead_at hQ o.t))
  unfold ljudgeS
  have HW := Lib.hid (And.intro h.n1 (And.intro h.n2 (fun b hb => (h.n3 b hb).1)))
  clear h hl hwf hv hy
  go_enter Tryz.func37, Tryz.ntmps37
  go_wp2_with (go_at_call 73; refine HA.out.mono ?_; rintro e w1 ⟨v, rfl, h1, h2, h3⟩; have H1 := Lib.hid (And.intro h1 (And.intro h2 h3)); clear h1 h2 h3)
  go_ret2
  exact ⟨_, rfl, H1.out.1, H1.out.2.1.wide (fun b hb => hb.1) HW.out.1 HW.out.2.1 HW.out.2.2, H1.out.2.2⟩
end
end Go.Proofs.YthhdackaopaojaaGreat

/- Its methods: State, Ups, Do. -/
namespace Go.Proofs.YthhdackaopaojaaGreat
open Go.RowKit Go.Tg Go.Maps

def syncS (s : LSt) : LSt := match findO s.st.req 5 with
  | none => s
  | some o => { s with own := valB o.v.data.toList }
theorem syncS_id (s : LSt) (h : s.Sync) : syncS s = s := by
  unfold syncS
  cases hf : findO s.st.req 5 with
  | none => rfl
  | some o => simp only; rw [(h o hf).2]
def anewS (u : Int) (s : LSt) : LSt := if s.st.ups = u then s else { s with ticks := 0, missed := 0 }
def doL (C : NegC) (s : LSt) (ev : Int) : LSt × List Pk := (anewS s.st.ups { s with st := (evS rejS C s.st ev noCame).1 }, (evS rejS C s.st ev noCame).2)

/-- What a function that says packets leaves. -/
def LEv (w w' : World) (U okp : Nat → Prop) (L : LB) (C : NegC) (echo : Int) (r : LSt × List Pk) (e : Ending) : Prop :=
  ∃ v, e = .returned v ∧ PksAt w' (Grow okp w) w.heap.size v r.2 ∧ LcpV w' (Grow U w) L C echo r.1 ∧ Keep L.t w w'

section
variable {w w' w1 w3 : World} {S ok okp U : Nat → Prop} {L : LB} {B : NegB} {C : NegC} {st : NSt} {echo : Int} {s s' : LSt} {X X' : NegX}

theorem LcpAt.fin (h : LcpAt w3 (Grow S w1) ok L C echo s' X') (hu : ∀ b, S b ∨ ok b ∨ b = L.lb ∨ b = L.tb → U b) (hsz : w.heap.size ≤ w1.heap.size) : LcpV w3 (Grow U w) L C echo s' :=
  ⟨_, _, _, h, fun b hb => by
    rcases hb with hb | hb | hb | hb
    · rcases hb with hb | hb
      · exact .inl (hu b (.inl hb))
      · exact .inr (by omega)
    · exact .inl (hu b (.inr (.inl hb)))
    · exact .inl (hu b (.inr (.inr (.inl hb))))
    · exact .inl (hu b (.inr (.inr (.inr hb))))⟩
set_option maxHeartbeats 1000000 in
theorem lnone_at (h : LcpAt w S ok L C echo s X) : Calls Tryz.prog 39 #[.pointer (some ⟨L.lb, 0, none⟩)] w fun e w' => e = .returned (.bool false) ∧ w = w' := by
  have h0 : w.cell? ⟨L.lb, 0, none⟩ = some (.pointer (some ⟨L.B.nb, 0, none⟩)) := h.cell 0
  clear h
  have q1 : ∀ w a, (binOp .eql 27 (.pointer (some a)) (.pointer none)).run Tryz.prog w = .ok (.bool false) w := fun w a => by kernel_rfl
  have q2 : ∀ w a, (binOp .eql 62 (.pointer (some a)) (.pointer none)).run Tryz.prog w = .ok (.bool false) w := fun w a => by kernel_rfl
  go_enter Tryz.func39, Tryz.ntmps39
  go_wp2_with fail
  go_ret
  exact ⟨rfl, rfl⟩

set_option maxHeartbeats 1000000 in
theorem LState_at (h : LcpAt w S ok L C echo s X) : Calls Tryz.prog 16 #[.pointer (some ⟨L.lb, 0, none⟩)] w fun e w' => e = .returned (.int .i64 s.st.s) ∧ w = w' := by
  have h0 : w.cell? ⟨L.lb, 0, none⟩ = some (.pointer (some ⟨L.B.nb, 0, none⟩)) := h.cell 0
  have H := Lib.hid (And.intro (lnone_at h) (State_at h.neg))
  clear h
  go_enter Tryz.func16, Tryz.ntmps16
  go_wp2_with (first
    | (go_at_call 39; refine H.out.1.mono ?_; rintro e w1 ⟨rfl, rfl⟩)
    | (go_at_call 49; refine H.out.2.mono ?_; rintro e w1 ⟨rfl, rfl⟩))
  go_ret
  exact ⟨rfl, rfl⟩

set_option maxHeartbeats 1000000 in
theorem LLoops_at (h : LcpAt w S ok L C echo s X) : Calls Tryz.prog 17 #[.pointer (some ⟨L.lb, 0, none⟩)] w fun e w' => e = .returned (.int .i64 s.loops) ∧ w = w' := by
  have h0 : w.cell? ⟨L.lb, 4, none⟩ = some (.int .i64 s.loops) := h.cell 4
  have H := Lib.hid (lnone_at h)
  clear h
  go_enter Tryz.func17, Tryz.ntmps17
  go_wp2_with (go_at_call 39; refine H.out.mono ?_; rintro e w1 ⟨rfl, rfl⟩)
  go_ret
  exact ⟨rfl, rfl⟩

set_option maxHeartbeats 2000000 in
set_option maxRecDepth 100000 in
theorem anew_at (h : LcpAt w S ok L C echo s X) (u : Int) (a : Option Addr) (n c : Nat) :
    Calls Tryz.prog 41 #[.pointer (some ⟨L.lb, 0, none⟩), .int .i64 u, .slice a n c] w fun e w' => e = .returned (.slice a n c) ∧ LcpAt w' S ok L C echo (anewS u s) X ∧ Keep (fun b => b = L.lb) w w' := by
  have h0 : w.cell? ⟨L.lb, 0, none⟩ = some (.pointer (some ⟨L.B.nb, 0, none⟩)) := h.cell 0
  have HU := Lib.hid (Ups_at h.neg)
  have HA := Lib.hid h
  have HE := Lib.hid (show anewS u s = (if s.st.ups = u then s else { s with ticks := 0, missed := 0 }) from rfl)
  clear h
  by_cases hu : s.st.ups = u
  · have e1 : (s.st.ups != u) = false := by simp [hu]
    have HR : Hid (anewS u s = s) := Lib.hid (by rw [HE.out, if_pos hu])
    clear hu HE
    generalize s.st.ups = x at *
    go_enter Tryz.func41, Tryz.ntmps41
    go_wp2_with (go_at_call 40; refine HU.out.mono ?_; rintro e w1 ⟨rfl, hb⟩; have HB := Lib.hid hb; clear hb)
    go_ret
    rw [HR.out]
    exact ⟨rfl, HA.out.below HB.out, Keep.of_below _ HB.out⟩
  · have e1 : (s.st.ups != u) = true := by simpa using hu
    have HR : Hid (anewS u s = { s with ticks := 0, missed := 0 }) := Lib.hid (by rw [HE.out, if_neg hu])
    clear hu HE
    generalize hx : s.st.ups = x at e1 HU
    clear hx
    go_enter Tryz.func41, Tryz.ntmps41
    go_wp2_with (go_at_call 40; refine HU.out.mono ?_; rintro e w1 ⟨rfl, hb⟩
                 have hA := HA.out.below hb
                 have f5 := hA.fz 5
                 have f6 := hA.fz 6
                 have c5 : w1.cell? ⟨L.lb, 5, none⟩ = some (.int .i64 s.ticks) := hA.cell 5
                 have c6 : w1.cell? ⟨L.lb, 6, none⟩ = some (.int .i64 s.missed) := hA.cell 6
                 have HB := Lib.hid (And.intro hA (Keep.of_below (fun b => b = L.lb) hb)); clear hb hA)
    go_ret
    rw [HR.out]
    exact ⟨rfl, (HB.out.1.cellTurn (s' := { s with ticks := 0 }) 5 (.int .i64 0) rfl ⟨rfl, rfl⟩).cellTurn (s' := { s with ticks := 0, missed := 0 }) 6 (.int .i64 0) rfl ⟨rfl, rfl⟩, (HB.out.2.trans (keepL L w1 5 _)).trans (keepL L _ 6 _)⟩

set_option maxHeartbeats 2000000 in
set_option maxRecDepth 100000 in
theorem LDo_at (h : LcpAt w S ok L C echo s X) (hu : ∀ b, S b ∨ ok b ∨ b = L.lb ∨ b = L.tb → U b) (ev : Int) (hev : 0 ≤ ev ∧ ev ≤ 3) :
    Calls Tryz.prog 14 #[.pointer (some ⟨L.lb, 0, none⟩), .int .i64 ev] w fun e w' => LEv w w' U (fun _ => False) L C echo (doL C s ev) e := by
  have h0 : w.cell? ⟨L.lb, 0, none⟩ = some (.pointer (some ⟨L.B.nb, 0, none⟩)) := h.cell 0
  have HN := Lib.hid (lnone_at h)
  have HU := Lib.hid (Ups_at h.neg)
  have HA := Lib.hid (And.intro h hu)
  have HE := Lib.hid hev
  have HR : Hid (doL C s ev = (anewS s.st.ups { s with st := (evS rejS C s.st ev noCame).1 }, (evS rejS C s.st ev noCame).2)) := Lib.hid rfl
  generalize doL C s ev = R at *
  clear h hu hev
  go_enter Tryz.func14, Tryz.ntmps14
  go_wp2_with (first
    | (go_at_call 39; refine HN.out.mono ?_; rintro e w0 ⟨rfl, rfl⟩)
    | (go_at_call 40; refine HU.out.mono ?_; rintro e w1 ⟨rfl, hb⟩
       have hA := HA.out.1.below hb
       have c0 : w1.cell? ⟨L.lb, 0, none⟩ = some (.pointer (some ⟨L.B.nb, 0, none⟩)) := hA.cell 0
       have HD := Lib.hid (Do_at rejS ev HE.out hA.neg)
       have HB := Lib.hid (And.intro hA hb); clear hb hA)
    | (go_at_call 42; refine HD.out.mono ?_; rintro e w2 ⟨v, rfl, hp, ⟨X2, hn⟩, hk⟩
       obtain ⟨pa, pc, rfl⟩ := hp.form
       have h2 := HB.out.1.negTurn hn hk
       have HC := Lib.hid (And.intro h2 (And.intro hp hk)); clear h2 hp hk hn)
    | (go_at_call 41; refine (anew_at HC.out.1 _ _ _ _).mono ?_; rintro e w3 ⟨rfl, h3, k3⟩; have H3 := Lib.hid (And.intro h3 k3); clear h3 k3))
  go_ret
  rw [HR.out]
  have hsz := HB.out.2.size
  refine ⟨_, rfl, ?_, H3.out.1.fin HA.out.2 hsz, ?_⟩
  · obtain ⟨K, q1, q2, q3⟩ := HC.out.2.1
    have hl := HB.out.1.llt
    exact ⟨K, q1, (q2.keep H3.out.2 (fun k hk he => by have := (q2.lt k hk).2; omega)).base hsz, (q3.keep H3.out.2 (fun b _ hb he => by
      rcases hb with hb | hb
      · exact hb
      · have hb : w1.heap.size ≤ b := hb; omega)).mono (fun b hb => hb.imp id (fun hb => Nat.le_trans hsz hb))⟩
  · exact (Keep.of_below _ HB.out.2).trans ((HC.out.2.2.mono (fun b _ hb => .inl hb)).trans (H3.out.2.mono (fun b _ hb => .inr (.inl hb))))

set_option maxHeartbeats 4000000 in
set_option maxRecDepth 100000 in
theorem magicT_at (h : LcpAt w S ok L C echo s X) (h7 : ∀ o, findO s.st.req 5 = some o → o.v.size ≤ 7) :
    Calls Tryz.prog 48 #[.pointer (some ⟨L.lb, 0, none⟩)] w fun e w' => (∃ x : Int, e = .returned (.int .i64 x)) ∧ LcpAt w' S ok L C echo (syncS s) X ∧ Keep (fun b => b = L.lb) w w' := by
  have g0 : w.cell? ⟨L.lb, 0, none⟩ = some (.pointer (some ⟨L.B.nb, 0, none⟩)) := h.cell 0
  have HQ := Lib.hid (Request_at h.neg)
  have HX := Lib.hid (And.intro h trivial)
  have HLR := Lib.hid h.neg.lr
  have HF := Lib.hid (fun W lv (hl : Opts W (fun b => w.heap.size ≤ b) lv s.st.req) => findO_any s.st.req lv _ 5 W hl (by have := h.neg.lr; omega))
  cases hf : findO s.st.req 5 with
  | none =>
    have HM := Lib.hid (And.intro (syncS_id s (fun o ho => by rw [hf] at ho; cases ho)) trivial)
    have hy : s.Sync := fun o ho => by rw [hf] at ho; cases ho
    refine (magic_at h hy).mono ?_
    rintro e w' ⟨rfl, hb⟩
    rw [HM.out.1]
    exact ⟨⟨_, rfl⟩, h.below hb, Keep.of_below _ hb⟩
  | some o =>
    have HS : Hid (syncS s = { s with own := valB o.v.data.toList }) := Lib.hid (by unfold syncS; rw [hf])
    rw [hf] at HF
    simp only [Option.getD_some, Option.isSome_some] at HF
    have HV := Lib.hid (fun W => value_any o.v W (h7 o hf))
    generalize s.st.req = rq at HQ HF hf HLR
    clear hf h h7
    generalize o.v = ov at *
    generalize valB ov.data.toList = x at *
    go_enter Tryz.func48, Tryz.ntmps48
    go_wp2_with (first
      | (go_at_call 82; refine HQ.out.mono ?_; rintro e w1 ⟨v, rfl, hr, hb⟩
         have HR := Lib.hid (And.intro hr hb)
         clear hr hb)
      | (go_at_call 20; refine (HF.out _ _ (HR.out.1.opts (by have := HLR.out; unfold maxLen; omega))).mono ?_; rintro e w2 ⟨rfl, hb⟩
         have h2 := (HX.out.1.below HR.out.2).below hb
         have g2 : w2.cell? ⟨L.lb, 3, none⟩ = some (.int .i64 s.own) := h2.cell 3
         have f2 := h2.fz 3
         have HB := Lib.hid (And.intro h2 hb)
         clear hb h2)
      | (go_at_call 21; refine (HV.out _).mono ?_; rintro e w3 ⟨rfl, rfl⟩))
    go_ret
    rw [HS.out]
    exact ⟨⟨_, rfl⟩, HB.out.1.cellTurn (s' := { s with own := x }) 3 (.int .i64 x) rfl ⟨rfl, rfl⟩, ((Keep.of_below _ HR.out.2).trans (Keep.of_below _ HB.out.2)).trans (keepL L w2 3 _)⟩
end
end Go.Proofs.YthhdackaopaojaaGreat

/- It takes a packet: the negotiation's part. -/
namespace Go.Proofs.YthhdackaopaojaaGreat
open Go.RowKit Go.Tg Go.Maps

/-- What its negotiation does with a packet. -/
def ltakeN (C : NegC) (s : LSt) (p : Pk) : LSt × List Pk :=
  if p.code = 1 then ({ s with st := (reqS rejS C s.st p (ljudgeS s.own s.t p.o).1).1, t := (ljudgeS s.own s.t p.o).2 }, (reqS rejS C s.st p (ljudgeS s.own s.t p.o).1).2)
  else ({ s with st := (takeS C s.st p).1 }, (takeS C s.st p).2)
theorem ljudgeS_len (own : Int) (t : TpS) (l : List Opt) : (ljudgeS own t l).1.2.length ≤ l.length := by
  unfold ljudgeS answerQ
  split
  · exact rejP_len _ _ _
  · split
    · exact nakQ_len _ _ _ _
    · exact Nat.le_refl _
theorem takeS_not1 (C : NegC) (st : NSt) (p : Pk) (h1 : p.code ≠ 1) : takeS C st p = if p.code = 2 then ackS rejS C st p
  else if p.code = 3 ∨ p.code = 4 then (if p.id = st.asked then (if p.code = 3 then namedS rejS C st p else refusedS rejS C st p) else (st, []))
  else if p.code = 5 then evS rejS C st 10 ⟨true, p, 0, []⟩
  else if p.code = 6 then evS rejS C st 11 ⟨true, p, 0, []⟩
  else if p.code = 7 then code7S rejS C st p
  else evS rejS C st 12 ⟨true, p, 0, []⟩ := by unfold takeS; rw [if_neg h1]

section
variable {w w' w1 w3 : World} {S ok okp U : Nat → Prop} {L : LB} {B : NegB} {C : NegC} {st : NSt} {echo : Int} {s s' : LSt} {X X' : NegX}

theorem NTake_at (p : Pk) (po : Value) (hp : PkOk p) (hc : p.code ≤ 7) (h : LcpAt w S ok L C echo s X) (hy : s.Sync) (ho : Opts w okp po p.o) (hok : ∀ b, okp b → ¬ L.t b) :
    Calls Tryz.prog 47 #[.pointer (some ⟨L.B.nb, 0, none⟩), pkV p po] w fun e w' => ∃ v, e = .returned v ∧ PksAt w' (Grow okp w) w.heap.size v (ltakeN C s p).2 ∧ (∃ X', LcpAt w' (Grow S w) ok L C echo (ltakeN C s p).1 X') ∧ Keep (fun b => L.B.t b ∨ b = L.tb) w w' := by
  have hokB : ∀ b, okp b → ¬ L.B.t b := fun b hb ht => hok b hb (.inl ht)
  have fin : ∀ (w' : World) (r : NSt × List Pk) (e : Ending), EvPost w w' S okp L.B C r e → ∃ v, e = .returned v ∧ PksAt w' (Grow okp w) w.heap.size v r.2 ∧ (∃ X', LcpAt w' (Grow S w) ok L C echo { s with st := r.1 } X') ∧ Keep (fun b => L.B.t b ∨ b = L.tb) w w' := by
    rintro w' r e ⟨v, he, h1, ⟨X', h2⟩, h3⟩
    exact ⟨v, he, h1, ⟨X', h.negTurn h2 h3⟩, h3.mono (fun b _ hb => .inl hb)⟩
  by_cases h1 : p.code = 1
  · have hE : ltakeN C s p = ({ s with st := (reqS rejS C s.st p (ljudgeS s.own s.t p.o).1).1, t := (ljudgeS s.own s.t p.o).2 }, (reqS rejS C s.st p (ljudgeS s.own s.t p.o).1).2) := by unfold ltakeN; exact if_pos h1
    rw [hE]
    have hT : ∀ b, b = L.tb → b < w.heap.size ∧ ¬ S b ∧ ¬ okp b := fun b hb => ⟨hb ▸ h.tlt, hb ▸ h.n2, fun ho => hok b ho (.inr (.inr hb))⟩
    have hQ : ∀ W W' : World, (W.heap[L.lb]? = some (.cells (lcpCells L echo s) 64 (0, 0)) ∧ TapeAt W L.tb ok (ljudgeS s.own s.t p.o).2) → Keep L.B.t W W' → (W'.heap[L.lb]? = some (.cells (lcpCells L echo s) 64 (0, 0)) ∧ TapeAt W' L.tb ok (ljudgeS s.own s.t p.o).2) := fun W W' hq hk =>
      ⟨(hk.block _ (Array.getElem?_eq_some_iff.1 hq.1).1 (fun ht => h.n1 (h.neg.ts ht))).trans hq.1, hq.2.keep hk (fun ht => h.n2 (h.neg.ts ht)) (fun b _ hb ht => (h.n3 b hb).1 (h.neg.ts ht))⟩
    have hJ : ∀ W, Below w.heap.size w W → JudgeQ 37 (.pointer (some ⟨L.lb, 0, none⟩)) W okp (fun b => b = L.tb) (fun W' => W'.heap[L.lb]? = some (.cells (lcpCells L echo s) 64 (0, 0)) ∧ TapeAt W' L.tb ok (ljudgeS s.own s.t p.o).2) p.o po (ljudgeS s.own s.t p.o).1 := by
      intro W hW
      refine ⟨enters_of Tryz.func37 (by kernel_rfl) rfl, fun W' hW' ho' => ?_⟩
      refine (judge_at ((h.below hW).below hW') hy p.o po okp ho' (fun b hb he => hok b hb (.inr (.inr he))) hp.len hp.wf hp.vs).mono ?_
      rintro e w' ⟨v, he, h1, h2, h3⟩
      exact ⟨v, he, h1, ⟨h2.blk, h2.tape⟩, h3⟩
    refine (take1_q (T := fun b => b = L.tb) (Q := fun W' => W'.heap[L.lb]? = some (.cells (lcpCells L echo s) 64 (0, 0)) ∧ TapeAt W' L.tb ok (ljudgeS s.own s.t p.o).2) rejS p po h1 (ljudgeS s.own s.t p.o).1 37 (.pointer (some ⟨L.lb, 0, none⟩)) h.jd hJ hT hQ (Nat.le_trans (ljudgeS_len _ _ _) hp.len) h.neg ho hokB hp.len (fun _ pa => sayAll_every _ _ _ _ _ _ _ hp.vs hp.ds)).mono ?_
    rintro e w' ⟨v, he, q1, ⟨X', q2⟩, q3, q4⟩
    refine ⟨v, he, q1, ⟨X', ?_⟩, q4⟩
    exact { blk := q3.1, neg := q2, tape := q3.2, ne := h.ne, n1 := fun hg => hg.elim h.n1 (fun hl => by have := h.llt; omega), n2 := fun hg => hg.elim h.n2 (fun hl => by have := h.tlt; omega),
            n3 := fun b hb => ⟨fun hg => hg.elim (h.n3 b hb).1 (fun hl => by have := (h.n3 b hb).2.2; omega), (h.n3 b hb).2.1, Nat.lt_of_lt_of_le (h.n3 b hb).2.2 q4.size⟩, jd := h.jd }
  · have hE : ltakeN C s p = ({ s with st := (takeS C s.st p).1 }, (takeS C s.st p).2) := by unfold ltakeN; exact if_neg h1
    rw [hE, takeS_not1 C s.st p h1]
    by_cases h2 : p.code = 2
    · rw [if_pos h2]
      exact (take2 rejS p po h2 h.neg ho hokB hp.len).mono (fun e w' he => fin _ _ _ he)
    · rw [if_neg h2]
      by_cases h3 : p.code = 3 ∨ p.code = 4
      · rw [if_pos h3]
        exact (take34 rejS p po h3 h.neg ho hokB hp.len hp.vs).mono (fun e w' he => fin _ _ _ he)
      · rw [if_neg h3]
        by_cases h5 : p.code = 5
        · rw [if_pos h5]
          exact (take5 rejS p po h5 h.neg ho hokB hp.len).mono (fun e w' he => fin _ _ _ he)
        · rw [if_neg h5]
          by_cases h6 : p.code = 6
          · rw [if_pos h6]
            exact (take6 rejS p po h6 h.neg ho hokB hp.len).mono (fun e w' he => fin _ _ _ he)
          · rw [if_neg h6]
            by_cases h7 : p.code = 7
            · rw [if_pos h7]
              exact (take7 rejS p po h7 h.neg ho hokB hp.len hp.ds).mono (fun e w' he => fin _ _ _ he)
            · rw [if_neg h7]
              exact (takeU rejS p po (by omega) h.neg ho hokB hp.len (fun pa => sayAll_every _ _ _ _ _ _ _ hp.vs hp.ds)).mono (fun e w' he => fin _ _ _ he)

def loopedS (own : Int) (p : Pk) : Bool := decide (p.code = 1) && p.o.any (loopS own)

set_option maxHeartbeats 4000000 in
set_option maxRecDepth 100000 in
theorem looped_at (p : Pk) (po : Value) (hlen : p.o.length ≤ 1000000) (h : LcpAt w S ok L C echo s X) (hy : s.Sync) (ho : Opts w okp po p.o) :
    Calls Tryz.prog 46 #[.pointer (some ⟨L.lb, 0, none⟩), pkV p po] w fun e w' => e = .returned (.bool (loopedS s.own p)) ∧ Below w.heap.size w w' := by
  obtain ⟨pc, pi, pl, pd⟩ := p
  obtain ⟨sa, c, rfl, hc, hm⟩ := ho.form
  dsimp only at hlen hc ho
  unfold pkV loopedS
  dsimp only
  have hb1 := (Below.refl w.heap.size w).alloc (Nat.le_refl _) (.cells #[.int .i64 pc, .int .i64 pi, .slice sa pl.length c, .string pd] 38 (0, 0))
  have HX := Lib.hid (And.intro hb1 (at1 w (.cells #[.int .i64 pc, .int .i64 pi, .slice sa pl.length c, .string pd] 38 (0, 0))))
  have H := Lib.hid (And.intro h (And.intro hy ho))
  obtain ⟨len, hln⟩ : ∃ len, len = pl.length := ⟨_, rfl⟩
  have HLN := Lib.hid hln
  rw [← hln] at hc hlen HX ⊢
  obtain ⟨W, hW⟩ : ∃ W, W = w.alloc (.cells #[.int .i64 pc, .int .i64 pi, .slice sa len c, .string pd] 38 (0, 0)) := ⟨_, rfl⟩
  rw [← hln, ← hW] at hb1
  rw [← hW] at HX
  have d0 : W.cell? ⟨w.heap.size, 0, none⟩ = some (.int .i64 pc) := cellOf HX.out.2 0 _ rfl
  have d2 : W.cell? ⟨w.heap.size, 2, none⟩ = some (.slice sa len c) := cellOf HX.out.2 2 _ rfl
  unfold maxLen at hm
  clear h hy ho hb1 hln
  by_cases h1 : pc = 1
  · subst h1
    simp only [decide_true, Bool.true_and]
    go_enter Tryz.func46, Tryz.ntmps46
    go_wp2_with fail
    rw [← hW]; clear hW
    go_loopg [13] len (fun x i wr => ∃ k : Nat, k ≤ len ∧ x = len - k ∧ i = .int .i64 k ∧ Hid ((pl.take k).any (loopS s.own) = false ∧ Below w.heap.size w wr))
    case atStart => exact ⟨0, by omega, by omega, rfl, rfl, HX.out.1⟩
    case round =>
      obtain ⟨k, hk, rfl, rfl, hK⟩ := hrel
      have HK := Lib.hid hK.out
      clear hK
      by_cases hkl : k < len
      · have hkl' : k < pl.length := by have := HLN.out; omega
        obtain ⟨b, off, rfl, hb, -, -, -, -, c0, c1⟩ := H.out.2.2.at k hkl'
        have e0 : wr.cell? ⟨b, off + k * 2, none⟩ = _ := (HK.out.2.cell (p := ⟨b, off + k * 2, none⟩) hb).trans c0
        have e1 : wr.cell? ⟨b, off + k * 2 + 1, none⟩ = _ := (HK.out.2.cell (p := ⟨b, off + k * 2 + 1, none⟩) hb).trans c1
        have HT := Lib.hid (show (pl.take (k + 1)).any (loopS s.own) = ((pl.take k).any (loopS s.own) || loopS s.own pl[k]) from by rw [List.take_succ_eq_append_getElem hkl', List.any_append]; simp)
        have HM := Lib.hid (show loopS s.own pl[k] = true → pl.any (loopS s.own) = true from fun ht => List.any_eq_true.2 ⟨_, List.getElem_mem hkl', ht⟩)
        have hk0 := HK.out.1
        rw [hk0, Bool.false_or] at HT
        generalize pl[k] = o at *
        clear c0 c1 hk0
        obtain ⟨t, v⟩ := o
        dsimp only at e0 e1
        have HC := Lib.hid (loop_at ((H.out.1.below HK.out.2).below ((Below.refl wr.heap.size wr).alloc (Nat.le_refl _) (.cells #[.int .i64 t, .string v] 67 (0, 0)))) H.out.2.1 ⟨t, v⟩)
        have HB2 := Lib.hid (HK.out.2.alloc HK.out.2.size (.cells #[.int .i64 t, .string v] 67 (0, 0)))
        generalize loopS s.own ⟨t, v⟩ = bb at *
        cases bb with
        | true =>
          go_wp2_with (go_at_call 79; refine HC.out.mono ?_; rintro e w5 ⟨rfl, hb5⟩; have HB5 := Lib.hid hb5; clear hb5)
          go_ret
          exact ⟨by rw [HM.out (by trivial)]; rfl, HB2.out.trans (HB5.out.mono HB2.out.size)⟩
        | false =>
          go_wp2_with (go_at_call 79; refine HC.out.mono ?_; rintro e w5 ⟨rfl, hb5⟩; have HB5 := Lib.hid hb5; clear hb5)
          go_roundg (len - (k + 1))
          case measure => omega
          case rel => exact ⟨k + 1, by omega, rfl, by go_num, HT.out, HB2.out.trans (HB5.out.mono HB2.out.size)⟩
      · obtain rfl : len = k := by omega
        go_wp2_with fail
        go_ret
        have h1 := HK.out.1
        rw [HLN.out, List.take_length] at h1
        exact ⟨by rw [h1]; rfl, HK.out.2⟩
  · have e1 : (pc != 1) = true := by simpa using h1
    have e2 : decide (pc = 1) = false := by simpa using h1
    rw [e2, Bool.false_and]
    clear h1
    subst hW
    go_enter Tryz.func46, Tryz.ntmps46
    go_wp2_with fail
    go_ret
    exact ⟨rfl, HX.out.1⟩
end
end Go.Proofs.YthhdackaopaojaaGreat
