import Derived.Test.YtijepfjfmpmfnaaV58
import Derived.Test.YtijepfjfmpmfnaaV48
/- A reject is taken. -/
namespace Go.Proofs.Ytijepfjfmpmfnaa
open Go.RowKit Go.Tg Go.Maps

theorem below_of_eq {w w' : World} (h : w = w') : Below w.heap.size w w' := by subst h; exact Below.refl _ _

section
variable {w : World} {S ok : Nat → Prop} {B : NegB} {C : NegC} {st : NSt} {X : NegX}

set_option maxHeartbeats 4000000 in
set_option maxRecDepth 100000 in
theorem refused1_any (h : NegAt w S B C st X) (bx : Nat) (hbx : w.heap[bx]? = some (.cells #[.pointer (some ⟨B.nb, 0, none⟩)] 23 (0, 0))) (o : Opt) :
    Calls Try.prog 80 #[.agg #[.int .i64 o.t, .string o.v], .pointer (some ⟨bx, 0, none⟩)] w fun e w' => e = .returned (.bool (hasB C.must o.t)) ∧ Below w.heap.size w w' := by
  have hb := (Below.refl w.heap.size w).alloc (Nat.le_refl _) (.cells #[.int .i64 o.t, .string o.v] 46 (0, 0))
  have hx := at1 w (.cells #[.int .i64 o.t, .string o.v] 46 (0, 0))
  have h1 := h.below hb
  have c0 := cell_regrown (cellOf hx 0 (.int .i64 o.t) rfl)
  have c1 := cell_regrown (cellOf ((hb.block _ (Array.getElem?_eq_some_iff.1 hbx).1).trans hbx) 0 (.pointer (some ⟨B.nb, 0, none⟩)) rfl)
  have c2 := cell_regrown (show (w.alloc (.cells #[.int .i64 o.t, .string o.v] 46 (0, 0))).cell? ⟨B.nb, 4, none⟩ = some X.must from h1.cell 4)
  have HN := Lib.hid (fun d os => (hasN_any C.must X.must _ o.t (Go.Sort.grow (redrawn (w.alloc (.cells #[.int .i64 o.t, .string o.v] 46 (0, 0))) d) os) (h1.must.below (below_regrown _ d os)) (by have := h.ok.must; omega)).mono (fun e w' he => And.intro he.1 (below_of_eq he.2)))
  have HB := Lib.hid hb
  obtain ⟨t, v⟩ := o
  generalize hasB C.must t = y at *
  generalize X.must = mv at *
  clear hb hx h1 h hbx
  go_enter Try.func80, Try.ntmps80
  go_wp2_with fail
  refine wp_region_quiet_below (by kernel_rfl) (by kernel_rfl) ?_
  repeat (quiet_step (first | (go_at_call 78; exact Calls.regrown_of (HN.out _ _))))
  refine wpQuiet_nil ?_
  rintro _ ⟨⟨nq, osq⟩, rfl⟩
  have HB1 := Lib.hid (HB.out.trans ((below_regrown _ nq osq).mono HB.out.size))
  go_wp2_with fail
  go_ret
  exact ⟨rfl, HB1.out⟩

set_option maxHeartbeats 4000000 in
set_option maxRecDepth 100000 in
theorem refused2_any (p : Pk) (po : Value) (px : Nat) (hpx : w.heap[px]? = some (.cells #[.int .i64 p.code, .int .i64 p.id, po, .string p.d] 37 (0, 0))) (ho : Opts w ok po p.o) (hlen : p.o.length ≤ 1000000) (o : Opt) :
    Calls Try.prog 82 #[.agg #[.int .i64 o.t, .string o.v], .pointer (some ⟨px, 0, none⟩)] w fun e w' => e = .returned (.bool (p.o.any (eqB o))) ∧ Below w.heap.size w w' := by
  have hb := (Below.refl w.heap.size w).alloc (Nat.le_refl _) (.cells #[.int .i64 o.t, .string o.v] 46 (0, 0))
  have hx := at1 w (.cells #[.int .i64 o.t, .string o.v] 46 (0, 0))
  have c0 := cellOf hx 0 (.int .i64 o.t) rfl
  have c1 := cellOf hx 1 (.string o.v) rfl
  have HC := Lib.hid (conO_any p.o po ok o _ (ho.below hb) hlen)
  obtain ⟨a1, k1, rfl, -, -⟩ := ho.form
  have c2 := cellOf ((hb.block _ (Array.getElem?_eq_some_iff.1 hpx).1).trans hpx) 2 (.slice a1 p.o.length k1) rfl
  have HB := Lib.hid hb
  obtain ⟨t, v⟩ := o
  simp only at *
  generalize p.o.any (eqB ⟨t, v⟩) = y at *
  clear hb hx hpx ho
  go_enter Try.func82, Try.ntmps82
  go_wp2_with (go_at_call 83; refine HC.out.mono ?_; rintro e w2 ⟨rfl, b2⟩)
  go_ret
  exact ⟨rfl, HB.out.trans (b2.mono HB.out.size)⟩

/-- Its request turns. -/
theorem NegAt.setReq {w' : World} {v : Value} {l' : List Opt} (h : NegAt w S B C st X) (hk : Keep (fun b => X.req.ownBlock = some b) w w') (hr : ORow w' 0 v l') (hv : ∀ k, v.ownBlock = some k → k = B.rb) (hl : l'.length ≤ 30) :
    NegAt (w'.setCell ⟨B.nb, 10, none⟩ v) S B C { st with req := l' } { X with req := v } ∧ Keep B.t w (w'.setCell ⟨B.nb, 10, none⟩ v) := by
  have hT : ∀ b, X.req.ownBlock = some b → B.t b := fun b hb => .inr (.inr (h.rq b hb))
  have hk1 : Keep B.t w w' := hk.mono (fun b _ hb => hT b hb)
  have hk2 := keepC B w' 10 v
  have hk2' : Keep B.t w' (w'.setCell ⟨B.nb, 10, none⟩ v) := hk2.mono (fun b _ hb => Or.inl hb)
  have hkk := hk1.trans hk2'
  have hn : ∀ b, b < w.heap.size → B.r S b → ¬ B.t b := fun b _ hb => hb.2
  have y0 := (hk.block B.nb h.nlt (fun he => h.ne2 (h.rq _ he).symm)).trans h.blk
  have ha := h.aut.keep hk (fun he => h.ne3 (h.rq _ he).symm)
  refine ⟨{ h with blk := ?_, aut := ha.keep hk2 (fun he => h.ne1 he.symm), own := Rec.keep h.own hkk hn, peer := Rec.keep h.peer hkk hn, must := Rec.keep h.must hkk hn,
                   req := hr.keep hk2 (fun k hk' he => h.ne2 ((hv k hk').symm.trans he)), rq := hv, mine := Rec.keep h.mine hkk hn, theirs := Rec.keep h.theirs hkk hn, rlt := Nat.lt_of_lt_of_le h.rlt hkk.size, lr := hl }, hkk⟩
  have := set_block y0 10 v
  simpa [negCells] using this

def refusedS (rej : Pk → ByteArray) (C : NegC) (st : NSt) (p : Pk) : NSt × List Pk :=
  if wB st.req p.o then
    if p.o.any (fun o => hasB C.must o.t) then evS rej C st 14 ⟨true, p, 0, []⟩ else evS rej C { st with req := st.req.filter fun o => !(p.o.any (eqB o)) } 9 ⟨true, p, 0, []⟩
  else (st, [])
end
end Go.Proofs.Ytijepfjfmpmfnaa
