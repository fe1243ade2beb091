import Derived.Test.YtidlldfppoelnaaV19
namespace Go.Proofs.Ytidlldfppoelnaa
open Go.RowKit Go.Tg Go.Maps

section
variable (rej : Pk → ByteArray) {w : World} {S ok : Nat → Prop} {B : NegB} {C : NegC} {st : NSt} {X : NegX} (c : Came) (po pa : Value)

set_option maxHeartbeats 4000000 in
set_option maxRecDepth 100000 in
theorem say9 (h : NegAt w S B C st X) :
    Calls Try.prog 71 #[.pointer (some ⟨B.nb, 0, none⟩), .int .i64 9, cameV c po pa] w fun e w' => SayPost w w' S ok B C (sayS rej C st 9 c) e := by
  have hb1 : Below w.heap.size w (w.alloc (.cells #[.bool c.is, .int .i64 c.p.code, .int .i64 c.p.id, po, .string c.p.d, .int .i64 c.code, pa] 76 (0, 0))) := (Below.refl _ _).alloc (Nat.le_refl _) _
  have h1 := h.below hb1
  have f1 := h1.fz 14
  have f0 : (w.alloc (.cells #[.bool c.is, .int .i64 c.p.code, .int .i64 c.p.id, po, .string c.p.d, .int .i64 c.code, pa] 76 (0, 0))).cell? ⟨B.nb, 14, none⟩ = some (.int .i64 st.ticks) := h1.cell 14
  have H1 := Lib.hid (NegAt.setC (st' := { st with ticks := 0 }) h1 14 (.int .i64 0) rfl ⟨rfl, rfl, rfl, rfl, rfl⟩ h.id)
  have HK1 := Lib.hid (keepC B (w.alloc (.cells #[.bool c.is, .int .i64 c.p.code, .int .i64 c.p.id, po, .string c.p.d, .int .i64 c.code, pa] 76 (0, 0))) 14 (.int .i64 0))
  have HB := Lib.hid hb1
  have es : sayS rej C st 9 c = ({ st with ticks := 0, id := nid st.id }, [⟨5, nid st.id, [], noB⟩]) := rfl
  rw [es]
  unfold cameV
  clear hb1 h h1 es
  go_enter Try.func71, Try.ntmps71
  go_wp2_with fail
  refine (id_at H1.out).mono ?_
  rintro e w2 ⟨rfl, h2, k2⟩
  have H2 := Lib.hid (And.intro h2 (HK1.out.trans k2))
  clear h2 k2
  go_wp2_with fail
  go_ret
  have hs1 := HB.out.size
  have hs2 := H2.out.2.size
  refine ⟨_, rfl, PksAt.one ⟨5, nid st.id, [], noB⟩ _ (at1 w2 _) (by omega) (Rec.nil _ _ _), ⟨X, ?_⟩, ?_⟩
  · exact (H2.out.1.below ((Below.refl _ _).alloc (Nat.le_refl _) _)).mono (fun _ h => .inl h)
  · exact ((Keep.of_below _ HB.out).trans H2.out.2).alloc _

set_option maxHeartbeats 4000000 in
set_option maxRecDepth 100000 in
theorem say10 (h : NegAt w S B C st X) :
    Calls Try.prog 71 #[.pointer (some ⟨B.nb, 0, none⟩), .int .i64 10, cameV c po pa] w fun e w' => SayPost w w' S ok B C (sayS rej C st 10 c) e := by
  have hb1 : Below w.heap.size w (w.alloc (.cells #[.bool c.is, .int .i64 c.p.code, .int .i64 c.p.id, po, .string c.p.d, .int .i64 c.code, pa] 76 (0, 0))) := (Below.refl _ _).alloc (Nat.le_refl _) _
  have h1 := h.below hb1
  have f0 : (w.alloc (.cells #[.bool c.is, .int .i64 c.p.code, .int .i64 c.p.id, po, .string c.p.d, .int .i64 c.code, pa] 76 (0, 0))).cell? ⟨B.nb, 11, none⟩ = some (.int .u8 st.id) := h1.cell 11
  have ew : wrap64 st.id = st.id := by have := h.id; unfold wrap64; omega
  have HB := Lib.hid (And.intro hb1 h1)
  have es : sayS rej C st 10 c = (st, [⟨6, if c.is then c.p.id else st.id, [], noB⟩]) := rfl
  rw [es]
  obtain ⟨is, p, cc, ca⟩ := c
  unfold cameV
  clear hb1 h h1 es
  cases is
  · go_enter Try.func71, Try.ntmps71
    go_wp2_with fail
    go_ret
    refine ⟨_, rfl, PksAt.one ⟨6, st.id, [], noB⟩ _ (at21 w _ _) (by omega) (Rec.nil _ _ _), ⟨X, ?_⟩, ?_⟩
    · exact (HB.out.2.below ((Below.refl _ _).alloc (Nat.le_refl _) _)).mono (fun _ h => .inl h)
    · exact (Keep.of_below _ HB.out.1).alloc _
  · go_enter Try.func71, Try.ntmps71
    go_wp2_with fail
    go_ret
    refine ⟨_, rfl, PksAt.one ⟨6, p.id, [], noB⟩ _ (at21 w _ _) (by omega) (Rec.nil _ _ _), ⟨X, ?_⟩, ?_⟩
    · exact (HB.out.2.below ((Below.refl _ _).alloc (Nat.le_refl _) _)).mono (fun _ h => .inl h)
    · exact (Keep.of_below _ HB.out.1).alloc _

set_option maxHeartbeats 4000000 in
set_option maxRecDepth 100000 in
theorem say0 (h : NegAt w S B C st X) :
    Calls Try.prog 71 #[.pointer (some ⟨B.nb, 0, none⟩), .int .i64 0, cameV c po pa] w fun e w' => SayPost w w' S ok B C (sayS rej C st 0 c) e := by
  have hb1 : Below w.heap.size w (w.alloc (.cells #[.bool c.is, .int .i64 c.p.code, .int .i64 c.p.id, po, .string c.p.d, .int .i64 c.code, pa] 76 (0, 0))) := (Below.refl _ _).alloc (Nat.le_refl _) _
  have h1 := h.below hb1
  have f1 := h1.fz 17
  have f0 : (w.alloc (.cells #[.bool c.is, .int .i64 c.p.code, .int .i64 c.p.id, po, .string c.p.d, .int .i64 c.code, pa] 76 (0, 0))).cell? ⟨B.nb, 17, none⟩ = some (.int .i64 st.ups) := h1.cell 17
  have H1 := Lib.hid (NegAt.setC (st' := { st with ups := wrap64 (st.ups + 1) }) h1 17 (.int .i64 (wrap64 (st.ups + 1))) rfl ⟨rfl, rfl, rfl, rfl, rfl⟩ h.id)
  have HK1 := Lib.hid (keepC B (w.alloc (.cells #[.bool c.is, .int .i64 c.p.code, .int .i64 c.p.id, po, .string c.p.d, .int .i64 c.code, pa] 76 (0, 0))) 17 (.int .i64 (wrap64 (st.ups + 1))))
  have HB := Lib.hid hb1
  have es : sayS rej C st 0 c = ({ st with ups := wrap64 (st.ups + 1) }, []) := rfl
  rw [es]
  unfold cameV
  clear hb1 h h1 es
  go_enter Try.func71, Try.ntmps71
  go_wp2_with fail
  go_ret
  exact ⟨_, rfl, PksAt.nil _ _ _, ⟨X, H1.out.mono (fun _ h => .inl h)⟩, (Keep.of_below _ HB.out).trans HK1.out⟩

set_option maxHeartbeats 4000000 in
set_option maxRecDepth 100000 in
theorem say1 (h : NegAt w S B C st X) :
    Calls Try.prog 71 #[.pointer (some ⟨B.nb, 0, none⟩), .int .i64 1, cameV c po pa] w fun e w' => SayPost w w' S ok B C (sayS rej C st 1 c) e := by
  have hb1 : Below w.heap.size w (w.alloc (.cells #[.bool c.is, .int .i64 c.p.code, .int .i64 c.p.id, po, .string c.p.d, .int .i64 c.code, pa] 76 (0, 0))) := (Below.refl _ _).alloc (Nat.le_refl _) _
  have h1 := h.below hb1
  have f1 := h1.fz 18
  have f0 : (w.alloc (.cells #[.bool c.is, .int .i64 c.p.code, .int .i64 c.p.id, po, .string c.p.d, .int .i64 c.code, pa] 76 (0, 0))).cell? ⟨B.nb, 18, none⟩ = some (.int .i64 st.downs) := h1.cell 18
  have H1 := Lib.hid (NegAt.setC (st' := { st with downs := wrap64 (st.downs + 1) }) h1 18 (.int .i64 (wrap64 (st.downs + 1))) rfl ⟨rfl, rfl, rfl, rfl, rfl⟩ h.id)
  have HK1 := Lib.hid (keepC B (w.alloc (.cells #[.bool c.is, .int .i64 c.p.code, .int .i64 c.p.id, po, .string c.p.d, .int .i64 c.code, pa] 76 (0, 0))) 18 (.int .i64 (wrap64 (st.downs + 1))))
  have HB := Lib.hid hb1
  have es : sayS rej C st 1 c = ({ st with downs := wrap64 (st.downs + 1) }, []) := rfl
  rw [es]
  unfold cameV
  clear hb1 h h1 es
  go_enter Try.func71, Try.ntmps71
  go_wp2_with fail
  go_ret
  exact ⟨_, rfl, PksAt.nil _ _ _, ⟨X, H1.out.mono (fun _ h => .inl h)⟩, (Keep.of_below _ HB.out).trans HK1.out⟩

set_option maxHeartbeats 4000000 in
set_option maxRecDepth 100000 in
theorem sayX (a : Int) (ha : a = 2 ∨ a = 3 ∨ a = 4 ∨ a = 5 ∨ a = 12) (h : NegAt w S B C st X) :
    Calls Try.prog 71 #[.pointer (some ⟨B.nb, 0, none⟩), .int .i64 a, cameV c po pa] w fun e w' => SayPost w w' S ok B C (sayS rej C st a c) e := by
  have hb1 : Below w.heap.size w (w.alloc (.cells #[.bool c.is, .int .i64 c.p.code, .int .i64 c.p.id, po, .string c.p.d, .int .i64 c.code, pa] 76 (0, 0))) := (Below.refl _ _).alloc (Nat.le_refl _) _
  have HB := Lib.hid (And.intro hb1 (h.below hb1))
  have es : sayS rej C st a c = (st, []) := by rcases ha with rfl | rfl | rfl | rfl | rfl <;> rfl
  rw [es]
  unfold cameV
  clear hb1 h es
  rcases ha with rfl | rfl | rfl | rfl | rfl
  all_goals go_enter Try.func71, Try.ntmps71
  all_goals go_wp2_with fail
  all_goals go_ret
  all_goals exact ⟨_, rfl, PksAt.nil _ _ _, ⟨X, HB.out.2.mono (fun _ h => .inl h)⟩, Keep.of_below _ HB.out.1⟩
end
end Go.Proofs.Ytidlldfppoelnaa
