import Derived.Test.YtidlldfppoelnaaV17
namespace Go.Proofs.Ytidlldfppoelnaa
open Go.RowKit Go.Tg Go.Maps

theorem pk_info : ∃ i z, Try.prog.info? 36 = some i ∧ i.zero = some z ∧ i.size = 4 ∧ i.bytes = 56 ∧ z.cells.size = 4 := by
  have h : (Try.prog.info? 36).map (fun i => (i.zero, i.size, i.bytes)) = some (some (.agg #[.int .i64 0, .int .i64 0, .slice none 0 0, .string ⟨#[]⟩]), 4, 56) := by kernel_rfl
  obtain ⟨i, hi, he⟩ := Option.map_eq_some_iff.1 h
  simp only [Prod.mk.injEq] at he
  exact ⟨i, _, hi, he.1, he.2.1, he.2.2, rfl⟩

/-- One packet in a row of its own. -/
theorem PRow.one {w : World} {g base : Nat} (p : Pk) (po : Value) (h : w.heap[g]? = some (.cells #[.int .i64 p.code, .int .i64 p.id, po, .string p.d] 36 (0, 0))) (hb : base ≤ g) : PRow w base (.slice (some ⟨g, 0, none⟩) 1 1) [(p, po)] :=
  ⟨rfl, Or.inr ⟨g, 1, _, rfl, hb, h, Nat.le_refl _, by unfold maxLen; omega, rfl, rfl⟩⟩
theorem PksAt.one {w : World} {ok : Nat → Prop} {g base : Nat} (p : Pk) (po : Value) (h : w.heap[g]? = some (.cells #[.int .i64 p.code, .int .i64 p.id, po, .string p.d] 36 (0, 0))) (hb : base ≤ g) (ho : Opts w ok po p.o) : PksAt w ok base (.slice (some ⟨g, 0, none⟩) 1 1) [p] :=
  ⟨[(p, po)], rfl, PRow.one p po h hb, fun q hq => by simp only [List.mem_singleton] at hq; subst hq; exact ho⟩

/-- What came, in a box. -/
def cameCells (c : Came) (po pa : Value) : Array Value := #[.bool c.is, .int .i64 c.p.code, .int .i64 c.p.id, po, .string c.p.d, .int .i64 c.code, pa]
/-- What came reads: its options, its answer. -/
def CameAt (w : World) (B : NegB) (ok : Nat → Prop) (c : Came) (po pa : Value) : Prop :=
  Opts w ok po c.p.o ∧ Opts w ok pa c.ans ∧ (∀ b, ok b → ¬ B.t b) ∧ c.p.o.length ≤ 1000000 ∧ c.ans.length ≤ 1000000
theorem CameAt.keep {w w' : World} {B : NegB} {ok T : Nat → Prop} {c : Came} {po pa : Value} (h : CameAt w B ok c po pa) (hk : Keep T w w') (hT : ∀ b, T b → B.t b) : CameAt w' B ok c po pa :=
  ⟨Rec.keep h.1 hk (fun b _ hb ht => h.2.2.1 b hb (hT b ht)), Rec.keep h.2.1 hk (fun b _ hb ht => h.2.2.1 b hb (hT b ht)), h.2.2⟩
theorem CameAt.below {w w' : World} {B : NegB} {ok : Nat → Prop} {c : Came} {po pa : Value} (h : CameAt w B ok c po pa) (hb : Below w.heap.size w w') : CameAt w' B ok c po pa := h.keep (Keep.of_below (fun _ => False) hb) (fun _ h => h.elim)

def SayPost (w w' : World) (S ok : Nat → Prop) (B : NegB) (C : NegC) (r : NSt × List Pk) (e : Ending) : Prop :=
  ∃ v, e = .returned v ∧ PksAt w' (Grow ok w) w.heap.size v r.2 ∧ NegV w' (Grow S w) B C r.1 ∧ Keep (fun b => b = B.nb) w w'

section
variable (rej : Pk → ByteArray) {w : World} {S ok : Nat → Prop} {B : NegB} {C : NegC} {st : NSt} {X : NegX} (c : Came) (po pa : Value)

set_option maxHeartbeats 4000000 in
set_option maxRecDepth 100000 in
theorem say6 (h : NegAt w S B C st X) :
    Calls Try.prog 71 #[.pointer (some ⟨B.nb, 0, none⟩), .int .i64 6, cameV c po pa] w fun e w' => SayPost w w' S ok B C (sayS rej C st 6 c) e := by
  have hb1 : Below w.heap.size w (w.alloc (.cells #[.bool c.is, .int .i64 c.p.code, .int .i64 c.p.id, po, .string c.p.d, .int .i64 c.code, pa] 76 (0, 0))) := (Below.refl _ _).alloc (Nat.le_refl _) _
  have h1 := h.below hb1
  have f1 := h1.fz 14
  have f0 : (w.alloc (.cells #[.bool c.is, .int .i64 c.p.code, .int .i64 c.p.id, po, .string c.p.d, .int .i64 c.code, pa] 76 (0, 0))).cell? ⟨B.nb, 14, none⟩ = some (.int .i64 st.ticks) := h1.cell 14
  have H1 := Lib.hid (NegAt.setC (st' := { st with ticks := 0 }) h1 14 (.int .i64 0) rfl ⟨rfl, rfl, rfl, rfl, rfl⟩ h.id)
  have HK1 := Lib.hid (keepC B (w.alloc (.cells #[.bool c.is, .int .i64 c.p.code, .int .i64 c.p.id, po, .string c.p.d, .int .i64 c.code, pa] 76 (0, 0))) 14 (.int .i64 0))
  have HB := Lib.hid (And.intro hb1 h)
  have hlr := h.lr
  have es : sayS rej C st 6 c = ({ st with ticks := 0, id := nid st.id, asked := nid st.id }, [⟨1, nid st.id, st.req, noB⟩]) := rfl
  rw [es]
  unfold cameV
  clear hb1 h h1 es
  go_enter Try.func71, Try.ntmps71
  go_wp2_with fail
  refine (id_at H1.out).mono ?_
  rintro e w2 ⟨rfl, h2, k2⟩
  have f2 := h2.fz 12
  have f3 : w2.cell? ⟨B.nb, 12, none⟩ = some (.int .u8 st.asked) := h2.cell 12
  have ew : IntKind.u8.wrap (nid st.id) = nid st.id := by have := nid_bd st.id; unfold IntKind.wrap; simp [IntKind.bits, IntKind.signed]; omega
  have h3 := NegAt.setC (st' := { st with ticks := 0, id := nid st.id, asked := nid st.id }) h2 12 (.int .u8 (nid st.id)) rfl ⟨rfl, rfl, rfl, rfl, rfl⟩ (nid_bd _)
  have f4 : (w2.setCell ⟨B.nb, 12, none⟩ (.int .u8 (nid st.id))).cell? ⟨B.nb, 10, none⟩ = some X.req := h3.cell 10
  have HC := Lib.hid (clone_any st.req X.req (fun b => 0 ≤ b) _ (h3.req.opts (show st.req.length ≤ maxLen by unfold maxLen; omega)) (by omega))
  have H3 := Lib.hid (And.intro h3 (HK1.out.trans (k2.trans (keepC B w2 12 (.int .u8 (nid st.id))))))
  clear h2 k2 h3
  go_wp2_with fail
  refine HC.out.mono ?_
  rintro e w3 ⟨v, rfl, hr, hb⟩
  obtain ⟨qa, qc, rfl⟩ := hr.form
  have H4 := Lib.hid (And.intro hr hb)
  clear hr hb
  go_wp2_with fail
  go_ret
  have hs3 := H3.out.2.size
  have hs1 := HB.out.1.size
  have hs4 := H4.out.2.size
  refine ⟨_, rfl, PksAt.one ⟨1, nid st.id, st.req, noB⟩ _ (at1 w3 _) (by omega) ?_, ⟨X, ?_⟩, ?_⟩
  · exact Rec.mono (Opts.below (H4.out.1.opts (by unfold maxLen; omega)) ((Below.refl _ _).alloc (Nat.le_refl _) _)) (fun b hb => .inr (by omega))
  · exact ((H3.out.1.below H4.out.2).below ((Below.refl _ _).alloc (Nat.le_refl _) _)).mono (fun _ h => .inl h)
  · exact (((Keep.of_below _ HB.out.1).trans H3.out.2).trans (Keep.of_below _ H4.out.2)).alloc _
end
end Go.Proofs.Ytidlldfppoelnaa
