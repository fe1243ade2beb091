import Derived.Test.YtijepfjfmpmfnaaV51
/- The client of addresses. -/
namespace Go.Proofs.Ytijepfjfmpmfnaa
open Go.RowKit Go.Tg Go.Maps

theorem NRow.one {w : World} {g base : Nat} (x : Int) (h : w.heap[g]? = some (.cells #[.int .i64 x] 3 (0, 0))) (hb : base ≤ g) : NRow w base (.slice (some ⟨g, 0, none⟩) 1 1) [x] :=
  ⟨rfl, Or.inr ⟨g, 1, _, rfl, hb, h, Nat.le_refl _, by unfold maxLen; omega, rfl, rfl⟩⟩
def n4 : ByteArray := ⟨#[0, 0, 0, 0]⟩
def o4 : ByteArray := ⟨#[0, 0, 0, 1]⟩
def cliA (dns : Bool) (k : Nat) : List Opt := match dns, k with
  | true, 2 => [⟨3, n4⟩, ⟨129, n4⟩]
  | true, 3 => [⟨3, n4⟩, ⟨129, n4⟩, ⟨131, n4⟩]
  | _, _ => [⟨3, n4⟩]
def cliO : Nat → List Rl
  | 0 => []
  | 1 => [spanR 3 1 o4]
  | 2 => [spanR 3 1 o4, spanR 129 1 o4]
  | _ => [spanR 3 1 o4, spanR 129 1 o4, spanR 131 1 o4]

/-- The client's Setup, as it is filled. -/
structure CliI (w wr : World) (sb ib rb mb : Nat) (ov wv : Value) (al : List Opt) (rs : List Rl) (cf tm fl wt : Int) : Prop where
  bl : Below w.heap.size w wr
  sbk : wr.heap[sb]? = some (.cells #[ov, wv, .slice (some ⟨rb, 0, none⟩) 1 1, .slice (some ⟨mb, 0, none⟩) 1 1, .int .i64 cf, .int .i64 tm, .int .i64 fl, .int .i64 wt] 31 (0, 0))
  ibk : wr.heap[ib]? = some (.cells #[.int .i64 3, .int .i64 129, .int .i64 131] 3 (0, 0))
  rbk : wr.heap[rb]? = some (.cells #[.int .i64 3, .int .i64 4, .int .i64 0, .int .i64 4294967295, .string ⟨#[0, 0, 0, 0]⟩] 43 (0, 0))
  mbk : wr.heap[mb]? = some (.cells #[.int .i64 3] 3 (0, 0))
  orow : ORow wr w.heap.size ov al
  wrow : RRow wr w.heap.size wv rs
  hs : w.heap.size ≤ sb ∧ w.heap.size ≤ ib ∧ w.heap.size ≤ rb ∧ w.heap.size ≤ mb
  no : ∀ k, ov.ownBlock = some k → k ≠ sb ∧ k ≠ ib ∧ k ≠ rb ∧ k ≠ mb ∧ wv.ownBlock ≠ some k
  nw : ∀ k, wv.ownBlock = some k → k ≠ sb ∧ k ≠ ib ∧ k ≠ rb ∧ k ≠ mb
section
variable {w wr w' : World} {sb ib rb mb : Nat} {ov wv ov' wv' : Value} {al al' : List Opt} {rs rs' : List Rl} {cf tm fl wt : Int}
theorem lt_of_heap {w : World} {k : Nat} {o : Obj} (e : w.heap[k]? = some o) : k < w.heap.size := (Array.getElem?_eq_some_iff.1 e).1
theorem CliI.sz (h : CliI w wr sb ib rb mb ov wv al rs cf tm fl wt) : w.heap.size ≤ wr.heap.size := h.bl.size
theorem CliI.ne (h : CliI w wr sb ib rb mb ov wv al rs cf tm fl wt) : ib ≠ sb ∧ rb ≠ sb ∧ mb ≠ sb := by
  refine ⟨?_, ?_, ?_⟩
  · rintro rfl; have := h.sbk.symm.trans h.ibk; simp at this
  · rintro rfl; have := h.sbk.symm.trans h.rbk; simp at this
  · rintro rfl; have := h.sbk.symm.trans h.mbk; simp at this
theorem CliI.go (h : CliI w wr sb ib rb mb ov wv al rs cf tm fl wt) (hb : Below wr.heap.size wr w') : CliI w w' sb ib rb mb ov wv al rs cf tm fl wt :=
  { h with bl := h.bl.trans (hb.mono h.bl.size), sbk := (hb.block _ (lt_of_heap h.sbk)).trans h.sbk, ibk := (hb.block _ (lt_of_heap h.ibk)).trans h.ibk, rbk := (hb.block _ (lt_of_heap h.rbk)).trans h.rbk, mbk := (hb.block _ (lt_of_heap h.mbk)).trans h.mbk, orow := h.orow.below hb, wrow := h.wrow.below hb }
theorem CliI.appW (h : CliI w wr sb ib rb mb ov wv al rs cf tm fl wt) (hk : Keep (fun k => wv.ownBlock = some k) wr w') (hr : RRow w' w.heap.size wv' rs') (ho : wv'.ownBlock = wv.ownBlock ∨ wv'.ownBlock = some wr.heap.size) :
    CliI w (w'.setCell ⟨sb, 1, none⟩ wv') sb ib rb mb ov wv' al rs' cf tm fl wt := by
  obtain ⟨e1, e2, e3⟩ := h.ne
  have hk2 : Keep (fun b => b = sb) w' (w'.setCell ⟨sb, 1, none⟩ wv') := (Keep.refl (fun b => b = sb) w').setCell ⟨sb, 1, none⟩ (Or.inr rfl) wv'
  have l1 := lt_of_heap h.sbk
  have l2 := lt_of_heap h.ibk
  have l3 := lt_of_heap h.rbk
  have l4 := lt_of_heap h.mbk
  have hz := hk.size
  have y1 := (hk.block sb l1 (fun he => (h.nw sb he).1 rfl)).trans h.sbk
  have y2 := (hk.block ib l2 (fun he => (h.nw ib he).2.1 rfl)).trans h.ibk
  have y3 := (hk.block rb l3 (fun he => (h.nw rb he).2.2.1 rfl)).trans h.rbk
  have y4 := (hk.block mb l4 (fun he => (h.nw mb he).2.2.2 rfl)).trans h.mbk
  have hn' : ∀ k, wv'.ownBlock = some k → k ≠ sb ∧ k ≠ ib ∧ k ≠ rb ∧ k ≠ mb := fun k hk' => by
    rcases ho with ho | ho
    · exact h.nw k (by rw [← ho]; exact hk')
    · rw [ho] at hk'; cases hk'; exact ⟨by omega, by omega, by omega, by omega⟩
  have hhs := h.hs
  exact { h with
    bl := h.bl.trans ((hk.below h.bl.size (fun k hk he => by have := (h.wrow.lt k he).2; omega)).trans (hk2.below (by have := h.bl.size; omega) (fun k hk he => by omega)))
    sbk := by have := set_block y1 1 wv'; simpa using this
    ibk := (hk2.block _ (lt_of_heap y2) e1).trans y2
    rbk := (hk2.block _ (lt_of_heap y3) e2).trans y3
    mbk := (hk2.block _ (lt_of_heap y4) e3).trans y4
    orow := (h.orow.keep hk (fun k hk' he => (h.no k hk').2.2.2.2 he)).keep hk2 (fun k hk' he => (h.no k hk').1 he)
    wrow := hr.keep hk2 (fun k hk' he => (hn' k hk').1 he)
    no := fun k hk' => ⟨(h.no k hk').1, (h.no k hk').2.1, (h.no k hk').2.2.1, (h.no k hk').2.2.2.1, fun he => by
      rcases ho with ho | ho
      · exact (h.no k hk').2.2.2.2 (by rw [← ho]; exact he)
      · rw [ho] at he; cases he; exact absurd (h.orow.lt _ hk').1 (Nat.lt_irrefl _)⟩
    nw := hn' }
theorem CliI.appO (h : CliI w wr sb ib rb mb ov wv al rs cf tm fl wt) (hk : Keep (fun k => ov.ownBlock = some k) wr w') (hr : ORow w' w.heap.size ov' al') (ho : ov'.ownBlock = ov.ownBlock ∨ ov'.ownBlock = some wr.heap.size) :
    CliI w (w'.setCell ⟨sb, 0, none⟩ ov') sb ib rb mb ov' wv al' rs cf tm fl wt := by
  obtain ⟨e1, e2, e3⟩ := h.ne
  have hk2 : Keep (fun b => b = sb) w' (w'.setCell ⟨sb, 0, none⟩ ov') := (Keep.refl (fun b => b = sb) w').setCell ⟨sb, 0, none⟩ (Or.inr rfl) ov'
  have l1 := lt_of_heap h.sbk
  have l2 := lt_of_heap h.ibk
  have l3 := lt_of_heap h.rbk
  have l4 := lt_of_heap h.mbk
  have hz := hk.size
  have y1 := (hk.block sb l1 (fun he => (h.no sb he).1 rfl)).trans h.sbk
  have y2 := (hk.block ib l2 (fun he => (h.no ib he).2.1 rfl)).trans h.ibk
  have y3 := (hk.block rb l3 (fun he => (h.no rb he).2.2.1 rfl)).trans h.rbk
  have y4 := (hk.block mb l4 (fun he => (h.no mb he).2.2.2.1 rfl)).trans h.mbk
  have hhs := h.hs
  have hn' : ∀ k, ov'.ownBlock = some k → k ≠ sb ∧ k ≠ ib ∧ k ≠ rb ∧ k ≠ mb ∧ wv.ownBlock ≠ some k := fun k hk' => by
    rcases ho with ho | ho
    · exact h.no k (by rw [← ho]; exact hk')
    · rw [ho] at hk'; cases hk'
      exact ⟨by omega, by omega, by omega, by omega, fun he => absurd (h.wrow.lt _ he).1 (Nat.lt_irrefl _)⟩
  exact { h with
    bl := h.bl.trans ((hk.below h.bl.size (fun k hk he => by have := (h.orow.lt k he).2; omega)).trans (hk2.below (by have := h.bl.size; omega) (fun k hk he => by omega)))
    sbk := by have := set_block y1 0 ov'; simpa using this
    ibk := (hk2.block _ (lt_of_heap y2) e1).trans y2
    rbk := (hk2.block _ (lt_of_heap y3) e2).trans y3
    mbk := (hk2.block _ (lt_of_heap y4) e3).trans y4
    orow := hr.keep hk2 (fun k hk' he => (hn' k hk').1 he)
    wrow := (h.wrow.keep hk (fun k hk' he => (h.no k he).2.2.2.2 hk')).keep hk2 (fun k hk' he => (h.nw k hk').1 he)
    no := hn' }
end

theorem setCell_size (w : World) (a : Addr) (v : Value) : (w.setCell a v).heap.size = w.heap.size := by simp [World.setCell]
theorem alloc4 (w : World) (A B C D : Obj) : ∃ W, W = (((w.alloc A).alloc B).alloc C).alloc D ∧ W.heap.size = w.heap.size + 1 + 1 + 1 + 1 ∧ W.heap[w.heap.size]? = some A ∧ W.heap[w.heap.size + 1]? = some B ∧ W.heap[w.heap.size + 1 + 1]? = some C ∧ W.heap[w.heap.size + 1 + 1 + 1]? = some D ∧ Below w.heap.size w W := by
  have e1 := alloc1 w A
  have e2 := alloc1 (w.alloc A) B
  have e3 := alloc1 ((w.alloc A).alloc B) C
  have e4 := alloc1 (((w.alloc A).alloc B).alloc C) D
  refine ⟨_, rfl, by omega, ?_, ?_, ?_, ?_, ((((Below.refl _ _).alloc (Nat.le_refl _) _).alloc (by omega) _).alloc (by omega) _).alloc (by omega) _⟩
  · rw [Below.heap_alloc _ _ _ (by omega), Below.heap_alloc _ _ _ (by omega), Below.heap_alloc _ _ _ (by omega)]; exact at1 _ _
  · rw [Below.heap_alloc _ _ _ (by omega), Below.heap_alloc _ _ _ (by omega), ← e1]; exact at1 _ _
  · rw [Below.heap_alloc _ _ _ (by omega), show w.heap.size + 1 + 1 = ((w.alloc A).alloc B).heap.size by omega]; exact at1 _ _
  · rw [show w.heap.size + 1 + 1 + 1 = (((w.alloc A).alloc B).alloc C).heap.size by omega]; exact at1 _ _

set_option maxHeartbeats 16000000 in
set_option maxRecDepth 100000 in
theorem client_any (cf tm fl wt : Int) (dns : Bool) (w : World) (hcf : 1 ≤ cf ∧ cf ≤ 20) (htm : 1 ≤ tm ∧ tm ≤ 20) (hfl : 0 ≤ fl ∧ fl ≤ 20) (hwt : 1 ≤ wt ∧ wt ≤ 100) :
    Calls Try.prog 28 #[.int .i64 cf, .int .i64 tm, .int .i64 fl, .int .i64 wt, .bool dns] w fun e w' => ∃ v, e = .returned v ∧ NewAt w w' v (cliA dns 3) (cliO 3) [spanR 3 0 n4] [3] cf tm fl wt := by
  have HA := Lib.hid (And.intro hcf (And.intro htm (And.intro hfl hwt)))
  have b1 := (Below.refl w.heap.size w).alloc (Nat.le_refl _) (.cells #[.int .i64 3, .string ⟨#[0, 0, 0, 0]⟩] 46 (0, 0))
  have z1 := at1 w (.cells #[.int .i64 3, .string ⟨#[0, 0, 0, 0]⟩] 46 (0, 0))
  have H1 := Lib.hid (And.intro b1 (And.intro z1 (alloc1 w (.cells #[.int .i64 3, .string ⟨#[0, 0, 0, 0]⟩] 46 (0, 0)))))
  clear hcf htm hfl hwt b1 z1
  go_enter Try.func28, Try.ntmps28
  go_wp2_with fail
  refine (span_any 3 0 ⟨#[0, 0, 0, 0]⟩ _).mono ?_
  rintro e w1 ⟨rfl, hb⟩
  have H2 := Lib.hid (And.intro (H1.out.1.trans (hb.mono H1.out.1.size)) (And.intro ((hb.block _ (by rw [H1.out.2.2]; omega)).trans H1.out.2.1) (show w.heap.size + 1 ≤ w1.heap.size by have := hb.size; rw [H1.out.2.2] at this; exact this)))
  clear hb
  obtain ⟨W, hW, hI0⟩ : ∃ W, W = (((w1.alloc (.cells #[.int .i64 3, .int .i64 4, .int .i64 0, .int .i64 4294967295, .string ⟨#[0, 0, 0, 0]⟩] 43 (0, 0))).alloc (.cells #[.int .i64 3] 3 (0, 0))).alloc (.cells #[.slice (some ⟨w.heap.size, 0, none⟩) 1 1, .slice none 0 0, .slice (some ⟨w1.heap.size, 0, none⟩) 1 1, .slice (some ⟨w1.heap.size + 1, 0, none⟩) 1 1, .int .i64 cf, .int .i64 tm, .int .i64 fl, .int .i64 wt] 31 (0, 0))).alloc (.cells #[.int .i64 3, .int .i64 129, .int .i64 131] 3 (0, 0)) ∧
      CliI w W (w1.heap.size + 1 + 1) (w1.heap.size + 1 + 1 + 1) w1.heap.size (w1.heap.size + 1) (.slice (some ⟨w.heap.size, 0, none⟩) 1 1) (.slice none 0 0) [⟨3, n4⟩] [] cf tm fl wt := by
    obtain ⟨W, hW, hs, x0, x1, x2, x3, hb⟩ := alloc4 w1 (.cells #[.int .i64 3, .int .i64 4, .int .i64 0, .int .i64 4294967295, .string ⟨#[0, 0, 0, 0]⟩] 43 (0, 0)) (.cells #[.int .i64 3] 3 (0, 0)) (.cells #[.slice (some ⟨w.heap.size, 0, none⟩) 1 1, .slice none 0 0, .slice (some ⟨w1.heap.size, 0, none⟩) 1 1, .slice (some ⟨w1.heap.size + 1, 0, none⟩) 1 1, .int .i64 cf, .int .i64 tm, .int .i64 fl, .int .i64 wt] 31 (0, 0)) (.cells #[.int .i64 3, .int .i64 129, .int .i64 131] 3 (0, 0))
    have h2 := H2.out.2.2
    have xo := (hb.block w.heap.size (by omega)).trans H2.out.2.1
    exact ⟨W, hW, H2.out.1.trans (hb.mono H2.out.1.size), x2, x3, x0, x1, ORow.one ⟨3, n4⟩ xo (Nat.le_refl _), RRow.nil _ _, ⟨by omega, by omega, by omega, by omega⟩, fun k hk => by
      have hk : w.heap.size = k := by simpa [Value.ownBlock] using hk
      subst hk
      exact ⟨by omega, by omega, by omega, by omega, fun h => by cases h⟩, fun k hk => by cases hk⟩
  have HI0 := Lib.hid hI0
  clear hI0 H1 H2
  cases dns
  all_goals
    go_wp2_with fail
    rw [← hW]
    clear hW
    generalize w1.heap.size + 1 + 1 + 1 = ib at HI0 ⊢
    generalize w1.heap.size + 1 + 1 = sb at HI0 ⊢
    generalize w1.heap.size + 1 = mb at HI0 ⊢
    generalize w1.heap.size = rb at HI0 ⊢
  · go_loopg [27] 3 (fun x i wr => ∃ k : Nat, k ≤ 3 ∧ x = 3 - k ∧ i = .int .i64 k ∧ Hid (∃ ov wv, CliI w wr sb ib rb mb ov wv (cliA false k) (cliO k) cf tm fl wt))
    case atStart => exact ⟨0, by omega, by omega, rfl, _, _, HI0.out⟩
    case round =>
      obtain ⟨k, hk, rfl, rfl, hK⟩ := hrel
      rcases (show k = 0 ∨ k = 1 ∨ k = 2 ∨ k = 3 by omega) with rfl | rfl | rfl | rfl
      · obtain ⟨ov, wv, hI⟩ := hK.out
        obtain ⟨oa, oc, rfl⟩ := hI.orow.form
        obtain ⟨wa, wc, rfl⟩ := hI.wrow.form
        have HI : Hid (CliI w wr sb ib rb mb (.slice oa 1 oc) (.slice wa 0 wc) [⟨3, ⟨#[0, 0, 0, 0]⟩⟩] [] cf tm fl wt) := Lib.hid hI
        clear hI hK
        have s1 := cellOf HI.out.sbk 1 _ rfl
        have i0 := cellOf HI.out.ibk 0 _ rfl
        go_wp2_with fail
        refine wp_region_H (rgH 1 5) (fun X : World => X.cell? ⟨sb, 1, none⟩ = some (.slice wa 0 wc)) (by kernel_rfl) ?_
        have HSv : (fun X : World => X.cell? ⟨sb, 1, none⟩ = some (.slice wa 0 wc)) wr.drew := s1
        refine wpAnyH_pure 0 (v := ?vv1) rfl (by kernel_rfl) (by kernel_rfl) (by kernel_rfl) (fun _ _ _ h => h) ?hy1 ?hh1
        case hy1 =>
          refine Or.inl ⟨by rfl, ?_⟩
          intro W _
          go_simp
          try with_reducible rfl
        simp only [Act.put, List.setIfInBounds_toArray, List.set_cons_zero, List.set_cons_succ]
        refine wpAnyH_at 1 (v := ?vv2) rfl (by kernel_rfl) (by kernel_rfl) (by kernel_rfl) (fun _ _ _ h => h) ?hy2 HSv ?hh2
        case hy2 =>
          refine Or.inl ⟨by rfl, ?_⟩
          intro W hW
          obtain h0 := hW
          go_simp
          try with_reducible rfl
        simp only [Act.put, List.setIfInBounds_toArray, List.set_cons_zero, List.set_cons_succ]
        refine wpAnyH_1 2 rfl (by kernel_rfl) ?_
        intro K hK
        rw [if_pos (by rfl)]
        try go_simp
        refine hK _ _ (fun _ => HSv) ?_
        try simp only [Act.put, List.setIfInBounds_toArray, List.set_cons_zero, List.set_cons_succ]
        clear HSv s1 i0
        refine wpAnyH_1 3 rfl (by kernel_rfl) ?_
        intro K hK
        rw [if_pos (by rfl)]
        try go_simp
        go_at_call 44
        refine (span_any 3 1 ⟨#[0, 0, 0, 1]⟩ _).mono ?_
        rintro e U ⟨rfl, hb⟩
        have J := Lib.hid ((HI.out.go (Below.refl _ _).drew).go hb)
        have HSv : (fun X : World => X.cell? ⟨sb, 1, none⟩ = some (.slice wa 0 wc)) U := cellOf J.out.sbk 1 _ rfl
        clear hb
        refine hK _ _ (fun _ => HSv) ?_
        try simp only [Act.put, List.setIfInBounds_toArray, List.set_cons_zero, List.set_cons_succ]
        refine wpAnyH_1 4 rfl (by kernel_rfl) ?_
        intro K hK
        rw [if_pos (by rfl)]
        try go_simp
        have K1 := Lib.hid (J.out.go ((Below.refl _ _).alloc (Nat.le_refl _) (.cells #[.int .i64 3, .int .i64 4, .int .i64 1, .int .i64 4294967295, .string ⟨#[0, 0, 0, 1]⟩] 43 (0, 0))))
        have HN := Lib.hid (at1 U (.cells #[.int .i64 3, .int .i64 4, .int .i64 1, .int .i64 4294967295, .string ⟨#[0, 0, 0, 1]⟩] 43 (0, 0)))
        have HSv : (fun X : World => X.cell? ⟨sb, 1, none⟩ = some (.slice wa 0 wc)) (U.alloc (.cells #[.int .i64 3, .int .i64 4, .int .i64 1, .int .i64 4294967295, .string ⟨#[0, 0, 0, 1]⟩] 43 (0, 0))) := cellOf K1.out.sbk 1 _ rfl
        refine hK _ _ (fun _ => HSv) ?_
        try simp only [Act.put, List.setIfInBounds_toArray, List.set_cons_zero, List.set_cons_succ]
        clear HSv
        refine wpAnyH_end 5 (fun j hj => rgH_end _ _ j (by omega)) (by rfl) (by kernel_rfl) ?_
        simp only [List.drop_succ_cons, List.drop_zero]
        go_wp2_with (first
          | (at_builtin; refine wpl_append_rules rfl _ _ rfl _ [] rfl K1.out.wrow _ [⟨3, 4, 1, 4294967295, ⟨#[0, 0, 0, 1]⟩⟩] rfl ((RRow.one ⟨3, 4, 1, 4294967295, ⟨#[0, 0, 0, 1]⟩⟩ HN.out (Nat.le_refl _)).rls (show 1 ≤ maxLen by decide)) (by intro n c h; cases h) (by simp) K1.out.sz ?_
             intro wv2 T r5 k5 o5
             obtain ⟨wb, wd, rfl⟩ := r5.form
             have r5 : RRow T _ (.slice wb 1 wd) [⟨3, 4, 1, 4294967295, ⟨#[0, 0, 0, 1]⟩⟩] := r5
             have o5 : (Value.ownBlock (.slice wb 1 wd) = _ ∨ _) := o5
             have I1 := Lib.hid (K1.out.appW k5 r5 o5)
             have y4 := (k5.block sb (Array.getElem?_eq_some_iff.1 K1.out.sbk).1 (fun he => (K1.out.nw sb he).1 rfl)).trans K1.out.sbk
             have u2 := cellOf y4 1 _ rfl
             have f2 := fun o => fzOf y4 o
             clear r5 k5 o5 y4))
        go_roundg (3 - (0 + 1))
        case measure => omega
        case rel => exact ⟨1, by omega, rfl, by go_num, _, _, I1.out⟩
      · obtain ⟨ov, wv, hI⟩ := hK.out
        obtain ⟨oa, oc, rfl⟩ := hI.orow.form
        obtain ⟨wa, wc, rfl⟩ := hI.wrow.form
        have HI : Hid (CliI w wr sb ib rb mb (.slice oa 1 oc) (.slice wa 1 wc) [⟨3, ⟨#[0, 0, 0, 0]⟩⟩] [⟨3, 4, 1, 4294967295, ⟨#[0, 0, 0, 1]⟩⟩] cf tm fl wt) := Lib.hid hI
        clear hI hK
        have s1 := cellOf HI.out.sbk 1 _ rfl
        have i0 := cellOf HI.out.ibk 1 _ rfl
        go_wp2_with fail
        refine wp_region_H (rgH 1 5) (fun X : World => X.cell? ⟨sb, 1, none⟩ = some (.slice wa 1 wc)) (by kernel_rfl) ?_
        have HSv : (fun X : World => X.cell? ⟨sb, 1, none⟩ = some (.slice wa 1 wc)) wr.drew := s1
        refine wpAnyH_pure 0 (v := ?vv3) rfl (by kernel_rfl) (by kernel_rfl) (by kernel_rfl) (fun _ _ _ h => h) ?hy3 ?hh3
        case hy3 =>
          refine Or.inl ⟨by rfl, ?_⟩
          intro W _
          go_simp
          try with_reducible rfl
        simp only [Act.put, List.setIfInBounds_toArray, List.set_cons_zero, List.set_cons_succ]
        refine wpAnyH_at 1 (v := ?vv4) rfl (by kernel_rfl) (by kernel_rfl) (by kernel_rfl) (fun _ _ _ h => h) ?hy4 HSv ?hh4
        case hy4 =>
          refine Or.inl ⟨by rfl, ?_⟩
          intro W hW
          obtain h0 := hW
          go_simp
          try with_reducible rfl
        simp only [Act.put, List.setIfInBounds_toArray, List.set_cons_zero, List.set_cons_succ]
        refine wpAnyH_1 2 rfl (by kernel_rfl) ?_
        intro K hK
        rw [if_pos (by rfl)]
        try go_simp
        refine hK _ _ (fun _ => HSv) ?_
        try simp only [Act.put, List.setIfInBounds_toArray, List.set_cons_zero, List.set_cons_succ]
        clear HSv s1 i0
        refine wpAnyH_1 3 rfl (by kernel_rfl) ?_
        intro K hK
        rw [if_pos (by rfl)]
        try go_simp
        go_at_call 44
        refine (span_any 129 1 ⟨#[0, 0, 0, 1]⟩ _).mono ?_
        rintro e U ⟨rfl, hb⟩
        have J := Lib.hid ((HI.out.go (Below.refl _ _).drew).go hb)
        have HSv : (fun X : World => X.cell? ⟨sb, 1, none⟩ = some (.slice wa 1 wc)) U := cellOf J.out.sbk 1 _ rfl
        clear hb
        refine hK _ _ (fun _ => HSv) ?_
        try simp only [Act.put, List.setIfInBounds_toArray, List.set_cons_zero, List.set_cons_succ]
        refine wpAnyH_1 4 rfl (by kernel_rfl) ?_
        intro K hK
        rw [if_pos (by rfl)]
        try go_simp
        have K1 := Lib.hid (J.out.go ((Below.refl _ _).alloc (Nat.le_refl _) (.cells #[.int .i64 129, .int .i64 4, .int .i64 1, .int .i64 4294967295, .string ⟨#[0, 0, 0, 1]⟩] 43 (0, 0))))
        have HN := Lib.hid (at1 U (.cells #[.int .i64 129, .int .i64 4, .int .i64 1, .int .i64 4294967295, .string ⟨#[0, 0, 0, 1]⟩] 43 (0, 0)))
        have HSv : (fun X : World => X.cell? ⟨sb, 1, none⟩ = some (.slice wa 1 wc)) (U.alloc (.cells #[.int .i64 129, .int .i64 4, .int .i64 1, .int .i64 4294967295, .string ⟨#[0, 0, 0, 1]⟩] 43 (0, 0))) := cellOf K1.out.sbk 1 _ rfl
        refine hK _ _ (fun _ => HSv) ?_
        try simp only [Act.put, List.setIfInBounds_toArray, List.set_cons_zero, List.set_cons_succ]
        clear HSv
        refine wpAnyH_end 5 (fun j hj => rgH_end _ _ j (by omega)) (by rfl) (by kernel_rfl) ?_
        simp only [List.drop_succ_cons, List.drop_zero]
        go_wp2_with (first
          | (at_builtin; refine wpl_append_rules rfl _ _ rfl _ [⟨3, 4, 1, 4294967295, ⟨#[0, 0, 0, 1]⟩⟩] rfl K1.out.wrow _ [⟨129, 4, 1, 4294967295, ⟨#[0, 0, 0, 1]⟩⟩] rfl ((RRow.one ⟨129, 4, 1, 4294967295, ⟨#[0, 0, 0, 1]⟩⟩ HN.out (Nat.le_refl _)).rls (show 1 ≤ maxLen by decide)) (by intro n c h; cases h) (by simp) K1.out.sz ?_
             intro wv2 T r5 k5 o5
             obtain ⟨wb, wd, rfl⟩ := r5.form
             have r5 : RRow T _ (.slice wb 2 wd) [⟨3, 4, 1, 4294967295, ⟨#[0, 0, 0, 1]⟩⟩, ⟨129, 4, 1, 4294967295, ⟨#[0, 0, 0, 1]⟩⟩] := r5
             have o5 : (Value.ownBlock (.slice wb 2 wd) = _ ∨ _) := o5
             have I1 := Lib.hid (K1.out.appW k5 r5 o5)
             have y4 := (k5.block sb (Array.getElem?_eq_some_iff.1 K1.out.sbk).1 (fun he => (K1.out.nw sb he).1 rfl)).trans K1.out.sbk
             have u2 := cellOf y4 1 _ rfl
             have f2 := fun o => fzOf y4 o
             clear r5 k5 o5 y4))
        go_roundg (3 - (1 + 1))
        case measure => omega
        case rel => exact ⟨2, by omega, rfl, by go_num, _, _, I1.out⟩
      · obtain ⟨ov, wv, hI⟩ := hK.out
        obtain ⟨oa, oc, rfl⟩ := hI.orow.form
        obtain ⟨wa, wc, rfl⟩ := hI.wrow.form
        have HI : Hid (CliI w wr sb ib rb mb (.slice oa 1 oc) (.slice wa 2 wc) [⟨3, ⟨#[0, 0, 0, 0]⟩⟩] [⟨3, 4, 1, 4294967295, ⟨#[0, 0, 0, 1]⟩⟩, ⟨129, 4, 1, 4294967295, ⟨#[0, 0, 0, 1]⟩⟩] cf tm fl wt) := Lib.hid hI
        clear hI hK
        have s1 := cellOf HI.out.sbk 1 _ rfl
        have i0 := cellOf HI.out.ibk 2 _ rfl
        go_wp2_with fail
        refine wp_region_H (rgH 1 5) (fun X : World => X.cell? ⟨sb, 1, none⟩ = some (.slice wa 2 wc)) (by kernel_rfl) ?_
        have HSv : (fun X : World => X.cell? ⟨sb, 1, none⟩ = some (.slice wa 2 wc)) wr.drew := s1
        refine wpAnyH_pure 0 (v := ?vv5) rfl (by kernel_rfl) (by kernel_rfl) (by kernel_rfl) (fun _ _ _ h => h) ?hy5 ?hh5
        case hy5 =>
          refine Or.inl ⟨by rfl, ?_⟩
          intro W _
          go_simp
          try with_reducible rfl
        simp only [Act.put, List.setIfInBounds_toArray, List.set_cons_zero, List.set_cons_succ]
        refine wpAnyH_at 1 (v := ?vv6) rfl (by kernel_rfl) (by kernel_rfl) (by kernel_rfl) (fun _ _ _ h => h) ?hy6 HSv ?hh6
        case hy6 =>
          refine Or.inl ⟨by rfl, ?_⟩
          intro W hW
          obtain h0 := hW
          go_simp
          try with_reducible rfl
        simp only [Act.put, List.setIfInBounds_toArray, List.set_cons_zero, List.set_cons_succ]
        refine wpAnyH_1 2 rfl (by kernel_rfl) ?_
        intro K hK
        rw [if_pos (by rfl)]
        try go_simp
        refine hK _ _ (fun _ => HSv) ?_
        try simp only [Act.put, List.setIfInBounds_toArray, List.set_cons_zero, List.set_cons_succ]
        clear HSv s1 i0
        refine wpAnyH_1 3 rfl (by kernel_rfl) ?_
        intro K hK
        rw [if_pos (by rfl)]
        try go_simp
        go_at_call 44
        refine (span_any 131 1 ⟨#[0, 0, 0, 1]⟩ _).mono ?_
        rintro e U ⟨rfl, hb⟩
        have J := Lib.hid ((HI.out.go (Below.refl _ _).drew).go hb)
        have HSv : (fun X : World => X.cell? ⟨sb, 1, none⟩ = some (.slice wa 2 wc)) U := cellOf J.out.sbk 1 _ rfl
        clear hb
        refine hK _ _ (fun _ => HSv) ?_
        try simp only [Act.put, List.setIfInBounds_toArray, List.set_cons_zero, List.set_cons_succ]
        refine wpAnyH_1 4 rfl (by kernel_rfl) ?_
        intro K hK
        rw [if_pos (by rfl)]
        try go_simp
        have K1 := Lib.hid (J.out.go ((Below.refl _ _).alloc (Nat.le_refl _) (.cells #[.int .i64 131, .int .i64 4, .int .i64 1, .int .i64 4294967295, .string ⟨#[0, 0, 0, 1]⟩] 43 (0, 0))))
        have HN := Lib.hid (at1 U (.cells #[.int .i64 131, .int .i64 4, .int .i64 1, .int .i64 4294967295, .string ⟨#[0, 0, 0, 1]⟩] 43 (0, 0)))
        have HSv : (fun X : World => X.cell? ⟨sb, 1, none⟩ = some (.slice wa 2 wc)) (U.alloc (.cells #[.int .i64 131, .int .i64 4, .int .i64 1, .int .i64 4294967295, .string ⟨#[0, 0, 0, 1]⟩] 43 (0, 0))) := cellOf K1.out.sbk 1 _ rfl
        refine hK _ _ (fun _ => HSv) ?_
        try simp only [Act.put, List.setIfInBounds_toArray, List.set_cons_zero, List.set_cons_succ]
        clear HSv
        refine wpAnyH_end 5 (fun j hj => rgH_end _ _ j (by omega)) (by rfl) (by kernel_rfl) ?_
        simp only [List.drop_succ_cons, List.drop_zero]
        go_wp2_with (first
          | (at_builtin; refine wpl_append_rules rfl _ _ rfl _ [⟨3, 4, 1, 4294967295, ⟨#[0, 0, 0, 1]⟩⟩, ⟨129, 4, 1, 4294967295, ⟨#[0, 0, 0, 1]⟩⟩] rfl K1.out.wrow _ [⟨131, 4, 1, 4294967295, ⟨#[0, 0, 0, 1]⟩⟩] rfl ((RRow.one ⟨131, 4, 1, 4294967295, ⟨#[0, 0, 0, 1]⟩⟩ HN.out (Nat.le_refl _)).rls (show 1 ≤ maxLen by decide)) (by intro n c h; cases h) (by simp) K1.out.sz ?_
             intro wv2 T r5 k5 o5
             obtain ⟨wb, wd, rfl⟩ := r5.form
             have r5 : RRow T _ (.slice wb 3 wd) [⟨3, 4, 1, 4294967295, ⟨#[0, 0, 0, 1]⟩⟩, ⟨129, 4, 1, 4294967295, ⟨#[0, 0, 0, 1]⟩⟩, ⟨131, 4, 1, 4294967295, ⟨#[0, 0, 0, 1]⟩⟩] := r5
             have o5 : (Value.ownBlock (.slice wb 3 wd) = _ ∨ _) := o5
             have I1 := Lib.hid (K1.out.appW k5 r5 o5)
             have y4 := (k5.block sb (Array.getElem?_eq_some_iff.1 K1.out.sbk).1 (fun he => (K1.out.nw sb he).1 rfl)).trans K1.out.sbk
             have u2 := cellOf y4 1 _ rfl
             have f2 := fun o => fzOf y4 o
             clear r5 k5 o5 y4))
        go_roundg (3 - (2 + 1))
        case measure => omega
        case rel => exact ⟨3, by omega, rfl, by go_num, _, _, I1.out⟩
      · obtain ⟨ov, wv, hI⟩ := hK.out
        obtain ⟨oa, oc, rfl⟩ := hI.orow.form
        obtain ⟨wa, wc, rfl⟩ := hI.wrow.form
        have hI : CliI w wr sb ib rb mb (.slice oa 1 oc) (.slice wa 3 wc) [⟨3, ⟨#[0, 0, 0, 0]⟩⟩] [⟨3, 4, 1, 4294967295, ⟨#[0, 0, 0, 1]⟩⟩, ⟨129, 4, 1, 4294967295, ⟨#[0, 0, 0, 1]⟩⟩, ⟨131, 4, 1, 4294967295, ⟨#[0, 0, 0, 1]⟩⟩] cf tm fl wt := hI
        have s0 := cellOf hI.sbk 0 _ rfl
        have s1 := cellOf hI.sbk 1 _ rfl
        have s2 := cellOf hI.sbk 2 _ rfl
        have s3 := cellOf hI.sbk 3 _ rfl
        have s4 := cellOf hI.sbk 4 _ rfl
        have s5 := cellOf hI.sbk 5 _ rfl
        have s6 := cellOf hI.sbk 6 _ rfl
        have s7 := cellOf hI.sbk 7 _ rfl
        have hO : Rls wr (fun b => w.heap.size ≤ b) _ [⟨3, 4, 1, 4294967295, ⟨#[0, 0, 0, 1]⟩⟩, ⟨129, 4, 1, 4294967295, ⟨#[0, 0, 0, 1]⟩⟩, ⟨131, 4, 1, 4294967295, ⟨#[0, 0, 0, 1]⟩⟩] := Rec.mono (hI.wrow.rls (by unfold maxLen; simp)) (fun b hb => hb)
        have hP : Rls wr (fun b => w.heap.size ≤ b) _ [⟨3, 4, 0, 4294967295, ⟨#[0, 0, 0, 0]⟩⟩] := Rec.mono ((RRow.one ⟨3, 4, 0, 4294967295, ⟨#[0, 0, 0, 0]⟩⟩ hI.rbk hI.hs.2.2.1).rls (show 1 ≤ maxLen by decide)) (fun b hb => hb)
        have hM : Nums wr (fun b => w.heap.size ≤ b) _ [3] := Rec.mono ((NRow.one 3 hI.mbk hI.hs.2.2.2).nums (show 1 ≤ maxLen by decide)) (fun b hb => hb)
        have hN := new_at [⟨3, ⟨#[0, 0, 0, 0]⟩⟩] [⟨3, 4, 1, 4294967295, ⟨#[0, 0, 0, 1]⟩⟩, ⟨129, 4, 1, 4294967295, ⟨#[0, 0, 0, 1]⟩⟩, ⟨131, 4, 1, 4294967295, ⟨#[0, 0, 0, 1]⟩⟩] [⟨3, 4, 0, 4294967295, ⟨#[0, 0, 0, 0]⟩⟩] [3] _ _ _ _ (fun b => w.heap.size ≤ b) cf tm fl wt _ (hI.orow.opts (by unfold maxLen; simp)) hO hP hM (fun n c h => by have hR := hI.wrow; rw [h] at hR; exact hR.nil0) (fun n c h => by cases h) (by simp) (by simp) (by simp) (inB20_true.2 HA.out.1) (inB20_true.2 HA.out.2.1) HA.out.2.2.1.1 HA.out.2.2.1.2 HA.out.2.2.2.1 HA.out.2.2.2.2 (by decide) (by kernel_rfl) (by kernel_rfl) (by decide) (by kernel_rfl)
        have HN := Lib.hid hN
        have HBL := Lib.hid hI.bl
        clear hN hI hO hP hM hK
        go_wp2_with fail
        refine HN.out.mono ?_
        rintro e w9 ⟨v, rfl, B, jb, rfl, h1, h2, h3, h4, h5⟩
        have H9 := Lib.hid (And.intro h1 (And.intro h2 (And.intro h3 (And.intro h4 h5))))
        clear h1 h2 h3 h4 h5
        go_wp2_with fail
        go_ret2
        have hsz := HBL.out.size
        exact ⟨_, rfl, B, jb, rfl, H9.out.1.mono (fun b hb => Nat.le_trans hsz hb), H9.out.2.1, Nat.le_trans hsz H9.out.2.2.1, H9.out.2.2.2.1, HBL.out.trans (H9.out.2.2.2.2.mono hsz)⟩
  · go_loopg [27] 3 (fun x i wr => ∃ k : Nat, k ≤ 3 ∧ x = 3 - k ∧ i = .int .i64 k ∧ Hid (∃ ov wv, CliI w wr sb ib rb mb ov wv (cliA true k) (cliO k) cf tm fl wt))
    case atStart => exact ⟨0, by omega, by omega, rfl, _, _, HI0.out⟩
    case round =>
      obtain ⟨k, hk, rfl, rfl, hK⟩ := hrel
      rcases (show k = 0 ∨ k = 1 ∨ k = 2 ∨ k = 3 by omega) with rfl | rfl | rfl | rfl
      · obtain ⟨ov, wv, hI⟩ := hK.out
        obtain ⟨oa, oc, rfl⟩ := hI.orow.form
        obtain ⟨wa, wc, rfl⟩ := hI.wrow.form
        have HI : Hid (CliI w wr sb ib rb mb (.slice oa 1 oc) (.slice wa 0 wc) [⟨3, ⟨#[0, 0, 0, 0]⟩⟩] [] cf tm fl wt) := Lib.hid hI
        clear hI hK
        have s1 := cellOf HI.out.sbk 1 _ rfl
        have i0 := cellOf HI.out.ibk 0 _ rfl
        go_wp2_with fail
        refine wp_region_H (rgH 1 5) (fun X : World => X.cell? ⟨sb, 1, none⟩ = some (.slice wa 0 wc)) (by kernel_rfl) ?_
        have HSv : (fun X : World => X.cell? ⟨sb, 1, none⟩ = some (.slice wa 0 wc)) wr.drew := s1
        refine wpAnyH_pure 0 (v := ?vv7) rfl (by kernel_rfl) (by kernel_rfl) (by kernel_rfl) (fun _ _ _ h => h) ?hy7 ?hh7
        case hy7 =>
          refine Or.inl ⟨by rfl, ?_⟩
          intro W _
          go_simp
          try with_reducible rfl
        simp only [Act.put, List.setIfInBounds_toArray, List.set_cons_zero, List.set_cons_succ]
        refine wpAnyH_at 1 (v := ?vv8) rfl (by kernel_rfl) (by kernel_rfl) (by kernel_rfl) (fun _ _ _ h => h) ?hy8 HSv ?hh8
        case hy8 =>
          refine Or.inl ⟨by rfl, ?_⟩
          intro W hW
          obtain h0 := hW
          go_simp
          try with_reducible rfl
        simp only [Act.put, List.setIfInBounds_toArray, List.set_cons_zero, List.set_cons_succ]
        refine wpAnyH_1 2 rfl (by kernel_rfl) ?_
        intro K hK
        rw [if_pos (by rfl)]
        try go_simp
        refine hK _ _ (fun _ => HSv) ?_
        try simp only [Act.put, List.setIfInBounds_toArray, List.set_cons_zero, List.set_cons_succ]
        clear HSv s1 i0
        refine wpAnyH_1 3 rfl (by kernel_rfl) ?_
        intro K hK
        rw [if_pos (by rfl)]
        try go_simp
        go_at_call 44
        refine (span_any 3 1 ⟨#[0, 0, 0, 1]⟩ _).mono ?_
        rintro e U ⟨rfl, hb⟩
        have J := Lib.hid ((HI.out.go (Below.refl _ _).drew).go hb)
        have HSv : (fun X : World => X.cell? ⟨sb, 1, none⟩ = some (.slice wa 0 wc)) U := cellOf J.out.sbk 1 _ rfl
        clear hb
        refine hK _ _ (fun _ => HSv) ?_
        try simp only [Act.put, List.setIfInBounds_toArray, List.set_cons_zero, List.set_cons_succ]
        refine wpAnyH_1 4 rfl (by kernel_rfl) ?_
        intro K hK
        rw [if_pos (by rfl)]
        try go_simp
        have K1 := Lib.hid (J.out.go ((Below.refl _ _).alloc (Nat.le_refl _) (.cells #[.int .i64 3, .int .i64 4, .int .i64 1, .int .i64 4294967295, .string ⟨#[0, 0, 0, 1]⟩] 43 (0, 0))))
        have HN := Lib.hid (at1 U (.cells #[.int .i64 3, .int .i64 4, .int .i64 1, .int .i64 4294967295, .string ⟨#[0, 0, 0, 1]⟩] 43 (0, 0)))
        have HSv : (fun X : World => X.cell? ⟨sb, 1, none⟩ = some (.slice wa 0 wc)) (U.alloc (.cells #[.int .i64 3, .int .i64 4, .int .i64 1, .int .i64 4294967295, .string ⟨#[0, 0, 0, 1]⟩] 43 (0, 0))) := cellOf K1.out.sbk 1 _ rfl
        refine hK _ _ (fun _ => HSv) ?_
        try simp only [Act.put, List.setIfInBounds_toArray, List.set_cons_zero, List.set_cons_succ]
        clear HSv
        refine wpAnyH_end 5 (fun j hj => rgH_end _ _ j (by omega)) (by rfl) (by kernel_rfl) ?_
        simp only [List.drop_succ_cons, List.drop_zero]
        go_wp2_with (first
          | (at_builtin; refine wpl_append_rules rfl _ _ rfl _ [] rfl K1.out.wrow _ [⟨3, 4, 1, 4294967295, ⟨#[0, 0, 0, 1]⟩⟩] rfl ((RRow.one ⟨3, 4, 1, 4294967295, ⟨#[0, 0, 0, 1]⟩⟩ HN.out (Nat.le_refl _)).rls (show 1 ≤ maxLen by decide)) (by intro n c h; cases h) (by simp) K1.out.sz ?_
             intro wv2 T r5 k5 o5
             obtain ⟨wb, wd, rfl⟩ := r5.form
             have r5 : RRow T _ (.slice wb 1 wd) [⟨3, 4, 1, 4294967295, ⟨#[0, 0, 0, 1]⟩⟩] := r5
             have o5 : (Value.ownBlock (.slice wb 1 wd) = _ ∨ _) := o5
             have I1 := Lib.hid (K1.out.appW k5 r5 o5)
             have y4 := (k5.block sb (Array.getElem?_eq_some_iff.1 K1.out.sbk).1 (fun he => (K1.out.nw sb he).1 rfl)).trans K1.out.sbk
             have u2 := cellOf y4 1 _ rfl
             have f2 := fun o => fzOf y4 o
             clear r5 k5 o5 y4))
        go_roundg (3 - (0 + 1))
        case measure => omega
        case rel => exact ⟨1, by omega, rfl, by go_num, _, _, I1.out⟩
      · obtain ⟨ov, wv, hI⟩ := hK.out
        obtain ⟨oa, oc, rfl⟩ := hI.orow.form
        obtain ⟨wa, wc, rfl⟩ := hI.wrow.form
        have HI : Hid (CliI w wr sb ib rb mb (.slice oa 1 oc) (.slice wa 1 wc) [⟨3, ⟨#[0, 0, 0, 0]⟩⟩] [⟨3, 4, 1, 4294967295, ⟨#[0, 0, 0, 1]⟩⟩] cf tm fl wt) := Lib.hid hI
        clear hI hK
        have s1 := cellOf HI.out.sbk 1 _ rfl
        have i0 := cellOf HI.out.ibk 1 _ rfl
        go_wp2_with fail
        refine wp_region_H (rgH 1 5) (fun X : World => X.cell? ⟨sb, 1, none⟩ = some (.slice wa 1 wc)) (by kernel_rfl) ?_
        have HSv : (fun X : World => X.cell? ⟨sb, 1, none⟩ = some (.slice wa 1 wc)) wr.drew := s1
        refine wpAnyH_pure 0 (v := ?vv9) rfl (by kernel_rfl) (by kernel_rfl) (by kernel_rfl) (fun _ _ _ h => h) ?hy9 ?hh9
        case hy9 =>
          refine Or.inl ⟨by rfl, ?_⟩
          intro W _
          go_simp
          try with_reducible rfl
        simp only [Act.put, List.setIfInBounds_toArray, List.set_cons_zero, List.set_cons_succ]
        refine wpAnyH_at 1 (v := ?vv10) rfl (by kernel_rfl) (by kernel_rfl) (by kernel_rfl) (fun _ _ _ h => h) ?hy10 HSv ?hh10
        case hy10 =>
          refine Or.inl ⟨by rfl, ?_⟩
          intro W hW
          obtain h0 := hW
          go_simp
          try with_reducible rfl
        simp only [Act.put, List.setIfInBounds_toArray, List.set_cons_zero, List.set_cons_succ]
        refine wpAnyH_1 2 rfl (by kernel_rfl) ?_
        intro K hK
        rw [if_pos (by rfl)]
        try go_simp
        refine hK _ _ (fun _ => HSv) ?_
        try simp only [Act.put, List.setIfInBounds_toArray, List.set_cons_zero, List.set_cons_succ]
        clear HSv s1 i0
        refine wpAnyH_1 3 rfl (by kernel_rfl) ?_
        intro K hK
        rw [if_pos (by rfl)]
        try go_simp
        go_at_call 44
        refine (span_any 129 1 ⟨#[0, 0, 0, 1]⟩ _).mono ?_
        rintro e U ⟨rfl, hb⟩
        have J := Lib.hid ((HI.out.go (Below.refl _ _).drew).go hb)
        have HSv : (fun X : World => X.cell? ⟨sb, 1, none⟩ = some (.slice wa 1 wc)) U := cellOf J.out.sbk 1 _ rfl
        clear hb
        refine hK _ _ (fun _ => HSv) ?_
        try simp only [Act.put, List.setIfInBounds_toArray, List.set_cons_zero, List.set_cons_succ]
        refine wpAnyH_1 4 rfl (by kernel_rfl) ?_
        intro K hK
        rw [if_pos (by rfl)]
        try go_simp
        have K1 := Lib.hid (J.out.go ((Below.refl _ _).alloc (Nat.le_refl _) (.cells #[.int .i64 129, .int .i64 4, .int .i64 1, .int .i64 4294967295, .string ⟨#[0, 0, 0, 1]⟩] 43 (0, 0))))
        have HN := Lib.hid (at1 U (.cells #[.int .i64 129, .int .i64 4, .int .i64 1, .int .i64 4294967295, .string ⟨#[0, 0, 0, 1]⟩] 43 (0, 0)))
        have HSv : (fun X : World => X.cell? ⟨sb, 1, none⟩ = some (.slice wa 1 wc)) (U.alloc (.cells #[.int .i64 129, .int .i64 4, .int .i64 1, .int .i64 4294967295, .string ⟨#[0, 0, 0, 1]⟩] 43 (0, 0))) := cellOf K1.out.sbk 1 _ rfl
        refine hK _ _ (fun _ => HSv) ?_
        try simp only [Act.put, List.setIfInBounds_toArray, List.set_cons_zero, List.set_cons_succ]
        clear HSv
        refine wpAnyH_end 5 (fun j hj => rgH_end _ _ j (by omega)) (by rfl) (by kernel_rfl) ?_
        simp only [List.drop_succ_cons, List.drop_zero]
        go_wp2_with (first
          | (at_builtin; refine wpl_append_rules rfl _ _ rfl _ [⟨3, 4, 1, 4294967295, ⟨#[0, 0, 0, 1]⟩⟩] rfl K1.out.wrow _ [⟨129, 4, 1, 4294967295, ⟨#[0, 0, 0, 1]⟩⟩] rfl ((RRow.one ⟨129, 4, 1, 4294967295, ⟨#[0, 0, 0, 1]⟩⟩ HN.out (Nat.le_refl _)).rls (show 1 ≤ maxLen by decide)) (by intro n c h; cases h) (by simp) K1.out.sz ?_
             intro wv2 T r5 k5 o5
             obtain ⟨wb, wd, rfl⟩ := r5.form
             have r5 : RRow T _ (.slice wb 2 wd) [⟨3, 4, 1, 4294967295, ⟨#[0, 0, 0, 1]⟩⟩, ⟨129, 4, 1, 4294967295, ⟨#[0, 0, 0, 1]⟩⟩] := r5
             have o5 : (Value.ownBlock (.slice wb 2 wd) = _ ∨ _) := o5
             have I1 := Lib.hid (K1.out.appW k5 r5 o5)
             have y4 := (k5.block sb (Array.getElem?_eq_some_iff.1 K1.out.sbk).1 (fun he => (K1.out.nw sb he).1 rfl)).trans K1.out.sbk
             have u2 := cellOf y4 1 _ rfl
             have f2 := fun o => fzOf y4 o
             have s0 := cellOf I1.out.sbk 0 _ rfl
             have K2 := Lib.hid (I1.out.go ((Below.refl _ _).alloc (Nat.le_refl _) (.cells #[.int .i64 129, .string ⟨#[0, 0, 0, 0]⟩] 46 (0, 0))))
             have HN2 := Lib.hid (show ((T.setCell ⟨sb, 1, none⟩ (.slice wb 2 wd)).alloc (.cells #[.int .i64 129, .string ⟨#[0, 0, 0, 0]⟩] 46 (0, 0))).heap[T.heap.size]? = some (.cells #[.int .i64 129, .string ⟨#[0, 0, 0, 0]⟩] 46 (0, 0)) from by rw [← setCell_size T ⟨sb, 1, none⟩ (.slice wb 2 wd)]; exact at1 _ _)
             clear r5 k5 o5 y4)
          | (at_builtin; refine wpl_append_opt rfl _ _ rfl _ [⟨3, ⟨#[0, 0, 0, 0]⟩⟩] rfl K2.out.orow _ 1 129 ⟨#[0, 0, 0, 0]⟩ rfl HN2.out (by simp) K2.out.sz ?_
             intro og od T2 r6 k6 o6
             have r6 : ORow T2 _ (.slice (some ⟨og, 0, none⟩) 2 od) [⟨3, ⟨#[0, 0, 0, 0]⟩⟩, ⟨129, ⟨#[0, 0, 0, 0]⟩⟩] := r6
             have I2 := Lib.hid (K2.out.appO k6 r6 (o6.elim (fun h => Or.inl h.symm) (fun h => Or.inr (congrArg some h))))
             have y5 := (k6.block sb (Array.getElem?_eq_some_iff.1 K2.out.sbk).1 (fun he => (K2.out.no sb he).1 rfl)).trans K2.out.sbk
             have u3 := cellOf y5 0 _ rfl
             have f3 := fun o => fzOf y5 o
             clear r6 k6 o6 y5))
        go_roundg (3 - (1 + 1))
        case measure => omega
        case rel => exact ⟨2, by omega, rfl, by go_num, _, _, I2.out⟩
      · obtain ⟨ov, wv, hI⟩ := hK.out
        obtain ⟨oa, oc, rfl⟩ := hI.orow.form
        obtain ⟨wa, wc, rfl⟩ := hI.wrow.form
        have HI : Hid (CliI w wr sb ib rb mb (.slice oa 2 oc) (.slice wa 2 wc) [⟨3, ⟨#[0, 0, 0, 0]⟩⟩, ⟨129, ⟨#[0, 0, 0, 0]⟩⟩] [⟨3, 4, 1, 4294967295, ⟨#[0, 0, 0, 1]⟩⟩, ⟨129, 4, 1, 4294967295, ⟨#[0, 0, 0, 1]⟩⟩] cf tm fl wt) := Lib.hid hI
        clear hI hK
        have s1 := cellOf HI.out.sbk 1 _ rfl
        have i0 := cellOf HI.out.ibk 2 _ rfl
        go_wp2_with fail
        refine wp_region_H (rgH 1 5) (fun X : World => X.cell? ⟨sb, 1, none⟩ = some (.slice wa 2 wc)) (by kernel_rfl) ?_
        have HSv : (fun X : World => X.cell? ⟨sb, 1, none⟩ = some (.slice wa 2 wc)) wr.drew := s1
        refine wpAnyH_pure 0 (v := ?vv11) rfl (by kernel_rfl) (by kernel_rfl) (by kernel_rfl) (fun _ _ _ h => h) ?hy11 ?hh11
        case hy11 =>
          refine Or.inl ⟨by rfl, ?_⟩
          intro W _
          go_simp
          try with_reducible rfl
        simp only [Act.put, List.setIfInBounds_toArray, List.set_cons_zero, List.set_cons_succ]
        refine wpAnyH_at 1 (v := ?vv12) rfl (by kernel_rfl) (by kernel_rfl) (by kernel_rfl) (fun _ _ _ h => h) ?hy12 HSv ?hh12
        case hy12 =>
          refine Or.inl ⟨by rfl, ?_⟩
          intro W hW
          obtain h0 := hW
          go_simp
          try with_reducible rfl
        simp only [Act.put, List.setIfInBounds_toArray, List.set_cons_zero, List.set_cons_succ]
        refine wpAnyH_1 2 rfl (by kernel_rfl) ?_
        intro K hK
        rw [if_pos (by rfl)]
        try go_simp
        refine hK _ _ (fun _ => HSv) ?_
        try simp only [Act.put, List.setIfInBounds_toArray, List.set_cons_zero, List.set_cons_succ]
        clear HSv s1 i0
        refine wpAnyH_1 3 rfl (by kernel_rfl) ?_
        intro K hK
        rw [if_pos (by rfl)]
        try go_simp
        go_at_call 44
        refine (span_any 131 1 ⟨#[0, 0, 0, 1]⟩ _).mono ?_
        rintro e U ⟨rfl, hb⟩
        have J := Lib.hid ((HI.out.go (Below.refl _ _).drew).go hb)
        have HSv : (fun X : World => X.cell? ⟨sb, 1, none⟩ = some (.slice wa 2 wc)) U := cellOf J.out.sbk 1 _ rfl
        clear hb
        refine hK _ _ (fun _ => HSv) ?_
        try simp only [Act.put, List.setIfInBounds_toArray, List.set_cons_zero, List.set_cons_succ]
        refine wpAnyH_1 4 rfl (by kernel_rfl) ?_
        intro K hK
        rw [if_pos (by rfl)]
        try go_simp
        have K1 := Lib.hid (J.out.go ((Below.refl _ _).alloc (Nat.le_refl _) (.cells #[.int .i64 131, .int .i64 4, .int .i64 1, .int .i64 4294967295, .string ⟨#[0, 0, 0, 1]⟩] 43 (0, 0))))
        have HN := Lib.hid (at1 U (.cells #[.int .i64 131, .int .i64 4, .int .i64 1, .int .i64 4294967295, .string ⟨#[0, 0, 0, 1]⟩] 43 (0, 0)))
        have HSv : (fun X : World => X.cell? ⟨sb, 1, none⟩ = some (.slice wa 2 wc)) (U.alloc (.cells #[.int .i64 131, .int .i64 4, .int .i64 1, .int .i64 4294967295, .string ⟨#[0, 0, 0, 1]⟩] 43 (0, 0))) := cellOf K1.out.sbk 1 _ rfl
        refine hK _ _ (fun _ => HSv) ?_
        try simp only [Act.put, List.setIfInBounds_toArray, List.set_cons_zero, List.set_cons_succ]
        clear HSv
        refine wpAnyH_end 5 (fun j hj => rgH_end _ _ j (by omega)) (by rfl) (by kernel_rfl) ?_
        simp only [List.drop_succ_cons, List.drop_zero]
        go_wp2_with (first
          | (at_builtin; refine wpl_append_rules rfl _ _ rfl _ [⟨3, 4, 1, 4294967295, ⟨#[0, 0, 0, 1]⟩⟩, ⟨129, 4, 1, 4294967295, ⟨#[0, 0, 0, 1]⟩⟩] rfl K1.out.wrow _ [⟨131, 4, 1, 4294967295, ⟨#[0, 0, 0, 1]⟩⟩] rfl ((RRow.one ⟨131, 4, 1, 4294967295, ⟨#[0, 0, 0, 1]⟩⟩ HN.out (Nat.le_refl _)).rls (show 1 ≤ maxLen by decide)) (by intro n c h; cases h) (by simp) K1.out.sz ?_
             intro wv2 T r5 k5 o5
             obtain ⟨wb, wd, rfl⟩ := r5.form
             have r5 : RRow T _ (.slice wb 3 wd) [⟨3, 4, 1, 4294967295, ⟨#[0, 0, 0, 1]⟩⟩, ⟨129, 4, 1, 4294967295, ⟨#[0, 0, 0, 1]⟩⟩, ⟨131, 4, 1, 4294967295, ⟨#[0, 0, 0, 1]⟩⟩] := r5
             have o5 : (Value.ownBlock (.slice wb 3 wd) = _ ∨ _) := o5
             have I1 := Lib.hid (K1.out.appW k5 r5 o5)
             have y4 := (k5.block sb (Array.getElem?_eq_some_iff.1 K1.out.sbk).1 (fun he => (K1.out.nw sb he).1 rfl)).trans K1.out.sbk
             have u2 := cellOf y4 1 _ rfl
             have f2 := fun o => fzOf y4 o
             have s0 := cellOf I1.out.sbk 0 _ rfl
             have K2 := Lib.hid (I1.out.go ((Below.refl _ _).alloc (Nat.le_refl _) (.cells #[.int .i64 131, .string ⟨#[0, 0, 0, 0]⟩] 46 (0, 0))))
             have HN2 := Lib.hid (show ((T.setCell ⟨sb, 1, none⟩ (.slice wb 3 wd)).alloc (.cells #[.int .i64 131, .string ⟨#[0, 0, 0, 0]⟩] 46 (0, 0))).heap[T.heap.size]? = some (.cells #[.int .i64 131, .string ⟨#[0, 0, 0, 0]⟩] 46 (0, 0)) from by rw [← setCell_size T ⟨sb, 1, none⟩ (.slice wb 3 wd)]; exact at1 _ _)
             clear r5 k5 o5 y4)
          | (at_builtin; refine wpl_append_opt rfl _ _ rfl _ [⟨3, ⟨#[0, 0, 0, 0]⟩⟩, ⟨129, ⟨#[0, 0, 0, 0]⟩⟩] rfl K2.out.orow _ 1 131 ⟨#[0, 0, 0, 0]⟩ rfl HN2.out (by simp) K2.out.sz ?_
             intro og od T2 r6 k6 o6
             have r6 : ORow T2 _ (.slice (some ⟨og, 0, none⟩) 3 od) [⟨3, ⟨#[0, 0, 0, 0]⟩⟩, ⟨129, ⟨#[0, 0, 0, 0]⟩⟩, ⟨131, ⟨#[0, 0, 0, 0]⟩⟩] := r6
             have I2 := Lib.hid (K2.out.appO k6 r6 (o6.elim (fun h => Or.inl h.symm) (fun h => Or.inr (congrArg some h))))
             have y5 := (k6.block sb (Array.getElem?_eq_some_iff.1 K2.out.sbk).1 (fun he => (K2.out.no sb he).1 rfl)).trans K2.out.sbk
             have u3 := cellOf y5 0 _ rfl
             have f3 := fun o => fzOf y5 o
             clear r6 k6 o6 y5))
        go_roundg (3 - (2 + 1))
        case measure => omega
        case rel => exact ⟨3, by omega, rfl, by go_num, _, _, I2.out⟩
      · obtain ⟨ov, wv, hI⟩ := hK.out
        obtain ⟨oa, oc, rfl⟩ := hI.orow.form
        obtain ⟨wa, wc, rfl⟩ := hI.wrow.form
        have hI : CliI w wr sb ib rb mb (.slice oa 3 oc) (.slice wa 3 wc) [⟨3, ⟨#[0, 0, 0, 0]⟩⟩, ⟨129, ⟨#[0, 0, 0, 0]⟩⟩, ⟨131, ⟨#[0, 0, 0, 0]⟩⟩] [⟨3, 4, 1, 4294967295, ⟨#[0, 0, 0, 1]⟩⟩, ⟨129, 4, 1, 4294967295, ⟨#[0, 0, 0, 1]⟩⟩, ⟨131, 4, 1, 4294967295, ⟨#[0, 0, 0, 1]⟩⟩] cf tm fl wt := hI
        have s0 := cellOf hI.sbk 0 _ rfl
        have s1 := cellOf hI.sbk 1 _ rfl
        have s2 := cellOf hI.sbk 2 _ rfl
        have s3 := cellOf hI.sbk 3 _ rfl
        have s4 := cellOf hI.sbk 4 _ rfl
        have s5 := cellOf hI.sbk 5 _ rfl
        have s6 := cellOf hI.sbk 6 _ rfl
        have s7 := cellOf hI.sbk 7 _ rfl
        have hO : Rls wr (fun b => w.heap.size ≤ b) _ [⟨3, 4, 1, 4294967295, ⟨#[0, 0, 0, 1]⟩⟩, ⟨129, 4, 1, 4294967295, ⟨#[0, 0, 0, 1]⟩⟩, ⟨131, 4, 1, 4294967295, ⟨#[0, 0, 0, 1]⟩⟩] := Rec.mono (hI.wrow.rls (by unfold maxLen; simp)) (fun b hb => hb)
        have hP : Rls wr (fun b => w.heap.size ≤ b) _ [⟨3, 4, 0, 4294967295, ⟨#[0, 0, 0, 0]⟩⟩] := Rec.mono ((RRow.one ⟨3, 4, 0, 4294967295, ⟨#[0, 0, 0, 0]⟩⟩ hI.rbk hI.hs.2.2.1).rls (show 1 ≤ maxLen by decide)) (fun b hb => hb)
        have hM : Nums wr (fun b => w.heap.size ≤ b) _ [3] := Rec.mono ((NRow.one 3 hI.mbk hI.hs.2.2.2).nums (show 1 ≤ maxLen by decide)) (fun b hb => hb)
        have hN := new_at [⟨3, ⟨#[0, 0, 0, 0]⟩⟩, ⟨129, ⟨#[0, 0, 0, 0]⟩⟩, ⟨131, ⟨#[0, 0, 0, 0]⟩⟩] [⟨3, 4, 1, 4294967295, ⟨#[0, 0, 0, 1]⟩⟩, ⟨129, 4, 1, 4294967295, ⟨#[0, 0, 0, 1]⟩⟩, ⟨131, 4, 1, 4294967295, ⟨#[0, 0, 0, 1]⟩⟩] [⟨3, 4, 0, 4294967295, ⟨#[0, 0, 0, 0]⟩⟩] [3] _ _ _ _ (fun b => w.heap.size ≤ b) cf tm fl wt _ (hI.orow.opts (by unfold maxLen; simp)) hO hP hM (fun n c h => by have hR := hI.wrow; rw [h] at hR; exact hR.nil0) (fun n c h => by cases h) (by simp) (by simp) (by simp) (inB20_true.2 HA.out.1) (inB20_true.2 HA.out.2.1) HA.out.2.2.1.1 HA.out.2.2.1.2 HA.out.2.2.2.1 HA.out.2.2.2.2 (by decide) (by kernel_rfl) (by kernel_rfl) (by decide) (by kernel_rfl)
        have HN := Lib.hid hN
        have HBL := Lib.hid hI.bl
        clear hN hI hO hP hM hK
        go_wp2_with fail
        refine HN.out.mono ?_
        rintro e w9 ⟨v, rfl, B, jb, rfl, h1, h2, h3, h4, h5⟩
        have H9 := Lib.hid (And.intro h1 (And.intro h2 (And.intro h3 (And.intro h4 h5))))
        clear h1 h2 h3 h4 h5
        go_wp2_with fail
        go_ret2
        have hsz := HBL.out.size
        exact ⟨_, rfl, B, jb, rfl, H9.out.1.mono (fun b hb => Nat.le_trans hsz hb), H9.out.2.1, Nat.le_trans hsz H9.out.2.2.1, H9.out.2.2.2.1, HBL.out.trans (H9.out.2.2.2.2.mono hsz)⟩
end Go.Proofs.Ytijepfjfmpmfnaa
