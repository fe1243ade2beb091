import Derived.Test.YtidlldfppoelnaaV16
namespace Go.Proofs.Ytidlldfppoelnaa
open Go.RowKit Go.Tg Go.Maps

set_option maxHeartbeats 4000000 in
theorem new_at (ask : List Opt) (own peer : List Rl) (must : List Int) (av ov pv mv : Value) (ok : Nat → Prop) (cf tm fl wt : Int) (w : World) (ha : Opts w ok av ask) (ho : Rls w ok ov own) (hp : Rls w ok pv peer) (hm : Nums w ok mv must)
    (no : ∀ n c, ov = .slice none n c → c = 0) (np : ∀ n c, pv = .slice none n c → c = 0) (lo : own.length ≤ 1000) (lp : peer.length ≤ 1000) (lm : must.length ≤ 1000)
    (hcf : inB20 cf = true) (htm : inB20 tm = true) (hf0 : 0 ≤ fl) (hf1 : fl ≤ 20) (hw0 : 1 ≤ wt) (hw1 : wt ≤ 100) (hav : ∀ o ∈ ask, o.v.size ≤ 100000) (hask : putE ask = 0) (htw : twiceP [] ask = false)
    (hrs : ∀ r ∈ own ++ peer, r.s.size ≤ 100000) (hwr : (own ++ peer).any wrongR = false) :
    Calls Try.prog 11 #[.agg #[av, ov, pv, mv, .int .i64 cf, .int .i64 tm, .int .i64 fl, .int .i64 wt]] w fun e w' => ∃ v, e = .returned v ∧ NewAt w w' v ask own peer must cf tm fl wt := by
  have hsz : w.heap.size ≤ (w.alloc (.cells #[av, ov, pv, mv, .int .i64 cf, .int .i64 tm, .int .i64 fl, .int .i64 wt] 31 (0, 0))).heap.size := by rw [alloc1]; omega
  have hb : Below w.heap.size w (w.alloc (.cells #[av, ov, pv, mv, .int .i64 cf, .int .i64 tm, .int .i64 fl, .int .i64 wt] 31 (0, 0))) := (Below.refl _ _).alloc (Nat.le_refl _) _
  have hat := at1 w (.cells #[av, ov, pv, mv, .int .i64 cf, .int .i64 tm, .int .i64 fl, .int .i64 wt] 31 (0, 0))
  have H := Lib.hid (newBy_ok ask own peer must av ov pv mv ok cf tm fl wt _ (ha.below hb) (ho.below hb) (hp.below hb) (hm.below hb) no np lo lp lm hcf htm hf0 hf1 hw0 hw1 hav hask htw hrs hwr)
  clear ha ho hp hm no np hav hask htw hrs hwr
  go_enter Try.func11, Try.ntmps11
  go_wp2_with fail
  refine H.out.mono ?_
  rintro e w1 ⟨v, rfl, B, jb, rfl, h1, h2, h3, h4, h5⟩
  have HB := Lib.hid (And.intro h1 (And.intro h2 (And.intro h3 (And.intro h4 (hb.trans (h5.mono hsz))))))
  clear h1 h2 h3 h4 h5
  go_wp2_with fail
  go_ret2
  exact ⟨_, rfl, B, jb, rfl, HB.out.1.mono (fun b hb => Nat.le_trans hsz hb), HB.out.2.1, Nat.le_trans hsz HB.out.2.2.1, HB.out.2.2.2.1, HB.out.2.2.2.2⟩

set_option maxHeartbeats 400000 in
theorem nnone_at {w : World} {S : Nat → Prop} {B : NegB} {C : NegC} {st : NSt} {X : NegX} (h : NegAt w S B C st X) :
    Calls Try.prog 31 #[.pointer (some ⟨B.nb, 0, none⟩)] w fun e w' => e = .returned (.bool false) ∧ w = w' := by
  have h0 : w.cell? ⟨B.nb, 0, none⟩ = some (.pointer (some ⟨B.ab, 0, none⟩)) := h.cell 0
  clear h
  have q1 : ∀ w a, (binOp .eql 23 (.pointer (some a)) (.pointer none)).run Try.prog w = .ok (.bool false) w := fun w a => by kernel_rfl
  have q2 : ∀ w a, (binOp .eql 67 (.pointer (some a)) (.pointer none)).run Try.prog w = .ok (.bool false) w := fun w a => by kernel_rfl
  go_enter Try.func31, Try.ntmps31
  go_wp2_with fail
  go_ret
  exact ⟨rfl, rfl⟩

theorem nnone_nil (w : World) : Calls Try.prog 31 #[.pointer none] w fun e w' => e = .returned (.bool true) ∧ w = w' := by
  have q1 : ∀ w, (binOp .eql 23 (.pointer none) (.pointer none)).run Try.prog w = .ok (.bool true) w := fun w => by kernel_rfl
  go_enter Try.func31, Try.ntmps31
  go_wp2_with fail
  go_ret
  exact ⟨rfl, rfl⟩

/-- A cell of its struct is written. -/
theorem NegAt.setC {w : World} {S : Nat → Prop} {B : NegB} {C : NegC} {st st' : NSt} {X : NegX} (h : NegAt w S B C st X) (o : Nat) (v : Value) (hv : (negCells B C st X).setIfInBounds o v = negCells B C st' X)
    (hs : st'.s = st.s ∧ st'.c = st.c ∧ st'.req = st.req ∧ st'.mine = st.mine ∧ st'.theirs = st.theirs) (hid : 0 ≤ st'.id ∧ st'.id < 256) (has : st'.asked = st.asked ∨ (0 ≤ st'.asked ∧ st'.asked < 256) := by first | exact Or.inl rfl | exact Or.inr (nid_bd _)) : NegAt (w.setCell ⟨B.nb, o, none⟩ v) S B C st' X := by
  obtain ⟨e1, e2, e3, e4, e5⟩ := hs
  have hk : Keep (fun b => b = B.nb) w (w.setCell ⟨B.nb, o, none⟩ v) := (Keep.refl (fun b => b = B.nb) w).setCell ⟨B.nb, o, none⟩ (Or.inr rfl) v
  have hn : ∀ b, b < w.heap.size → B.r S b → ¬ (b = B.nb) := fun b _ hb he => hb.2 (.inl he)
  exact { blk := by rw [← hv]; exact set_block h.blk o v, aut := by rw [e1, e2]; exact h.aut.keep hk (fun he => h.ne1 he.symm), own := Rec.keep h.own hk hn, peer := Rec.keep h.peer hk hn,
          must := Rec.keep h.must hk hn, req := by rw [e3]; exact h.req.keep hk (fun k hk' he => h.ne2 ((h.rq k hk').symm.trans he)), rq := h.rq, mine := by rw [e4]; exact Rec.keep h.mine hk hn, theirs := by rw [e5]; exact Rec.keep h.theirs hk hn,
          ne1 := h.ne1, ne2 := h.ne2, ne3 := h.ne3, rlt := Nat.lt_of_lt_of_le h.rlt hk.size, s1 := h.s1, s2 := h.s2, s3 := h.s3, ok := h.ok, id := hid, ak := has.elim (fun e => by rw [e]; exact h.ak) (fun h => h), ib := by rw [e2]; exact h.ib, ss := by rw [e1]; exact h.ss,
          lr := by rw [e3]; exact h.lr, lm := by rw [e4]; exact h.lm, lt := by rw [e5]; exact h.lt }
theorem keepC (B : NegB) (w : World) (o : Nat) (v : Value) : Keep (fun b => b = B.nb) w (w.setCell ⟨B.nb, o, none⟩ v) := (Keep.refl (fun b => b = B.nb) w).setCell ⟨B.nb, o, none⟩ (Or.inr rfl) v

set_option maxHeartbeats 400000 in
theorem id_at {w : World} {S : Nat → Prop} {B : NegB} {C : NegC} {st : NSt} {X : NegX} (h : NegAt w S B C st X) :
    Calls Try.prog 87 #[.pointer (some ⟨B.nb, 0, none⟩)] w fun e w' => e = .returned (.int .i64 (nid st.id)) ∧ NegAt w' S B C { st with id := nid st.id } X ∧ Keep (fun b => b = B.nb) w w' := by
  have h0 : w.cell? ⟨B.nb, 11, none⟩ = some (.int .u8 st.id) := h.cell 11
  have hf := h.fz 11
  have H := Lib.hid h
  clear h
  go_enter Try.func87, Try.ntmps87
  go_wp2_with fail
  refine (nnone_at H.out).mono ?_
  rintro e w1 ⟨rfl, rfl⟩
  go_wp2_with fail
  go_ret
  exact ⟨rfl, H.out.setC 11 _ rfl ⟨rfl, rfl, rfl, rfl, rfl⟩ (nid_bd _), keepC B w 11 _⟩
end Go.Proofs.Ytidlldfppoelnaa
